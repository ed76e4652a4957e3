import Derived.Test.YtcldldjildmdlaaPa3
import Derived.Test.YtcldldjildmdlaaPa2
import Derived.Test.YtcldldjildmdlaaPa1
import Derived.Test.YtcldldjildmdlaaPa0
import Derived.ProofKit
import Derived.Carry
import Derived.OpenShut
import Derived.Stop.Joined
section
open Go Go.SE
namespace Go.Sp
open Go.Proofs
theorem copyGo_app (Lq : Pool) : ∀ (l1 l2 : List Int) (L : Pool) (own : Int → Int), copyGo Lq (l1 ++ l2) L own = if (copyGo Lq l1 L own).2.1 ≠ 0 then copyGo Lq l1 L own else copyGo Lq l2 (copyGo Lq l1 L own).1 (copyGo Lq l1 L own).2.2 := by
 intro l1
 induction l1 with
 | nil => intro l2 L own; rw [List.nil_append]; exact (if_neg (fun h => h rfl)).symm
 | cons z l1 ih =>
  intro l2 L own
  obtain ⟨x, e, L', hm⟩ : ∃ x e L', make L { nodeOf Lq z with a := own (nodeOf Lq z).a, b := own (nodeOf Lq z).b } = (x, e, L') := ⟨_, _, _, rfl⟩
  rw [List.cons_append, copyGo_cons Lq z (l1 ++ l2) L own rfl hm, copyGo_cons Lq z l1 L own rfl hm]
  by_cases he : e ≠ 0
  ·rw [if_pos he, if_pos he, if_pos he]
  ·rw [if_neg he, if_neg he, ih]
theorem copyGo_grows (Lq : Pool) : ∀ (l : List Int) (L : Pool) (own : Int → Int), ∃ M, (copyGo Lq l L own).1 = L ++ M := by
 intro l
 induction l with
 | nil => intro L own; exact ⟨[], (List.append_nil L).symm⟩
 | cons z l ih =>
  intro L own
  obtain ⟨x, e, L', hm⟩ : ∃ x e L', make L { nodeOf Lq z with a := own (nodeOf Lq z).a, b := own (nodeOf Lq z).b } = (x, e, L') := ⟨_, _, _, rfl⟩
  rw [copyGo_cons Lq z l L own rfl hm]
  split
  ·exact ⟨[], by simp⟩
  ·obtain ⟨M1, e1⟩ := make_app L { nodeOf Lq z with a := own (nodeOf Lq z).a, b := own (nodeOf Lq z).b }
   rw [hm] at e1
   obtain ⟨M2, e2⟩ := ih L' (fun y => if y = z then x else own y)
   simp only at e1
   exact ⟨M1 ++ M2, by rw [e2, e1, List.append_assoc]⟩
theorem copyGo_wf {Lq : Pool} : ∀ (l : List Int) (L : Pool) (own : Int → Int), Wf L → Wf (copyGo Lq l L own).1 := by
 intro l
 induction l with
 | nil => intro L own h; exact h
 | cons z l ih =>
  intro L own h
  obtain ⟨x, e, L', hm⟩ : ∃ x e L', make L { nodeOf Lq z with a := own (nodeOf Lq z).a, b := own (nodeOf Lq z).b } = (x, e, L') := ⟨_, _, _, rfl⟩
  have hw := make_wf h { nodeOf Lq z with a := own (nodeOf Lq z).a, b := own (nodeOf Lq z).b }
  rw [copyGo_cons Lq z l L own rfl hm]
  rw [hm] at hw
  split
  ·exact h
  ·exact ih _ _ hw
theorem copyGo_fail {Lq : Pool} {l post : List Int} {z : Int} {L : Pool} {own : Int → Int} (h0 : (copyGo Lq l L own).2.1 = 0) {n : Node} (hn : { nodeOf Lq z with a := (copyGo Lq l L own).2.2 (nodeOf Lq z).a, b := (copyGo Lq l L own).2.2 (nodeOf Lq z).b } = n) (he : (make (copyGo Lq l L own).1 n).2.1 ≠ 0) :
  (copyGo Lq (l ++ z :: post) L own).2.1 = (make (copyGo Lq l L own).1 n).2.1 := by
 obtain ⟨x, e, L', hm⟩ : ∃ x e L', make (copyGo Lq l L own).1 n = (x, e, L') := ⟨_, _, _, rfl⟩
 rw [hm] at he ⊢
 rw [copyGo_app, if_neg (by rw [h0]; exact fun h => h rfl), copyGo_cons Lq z post _ _ hn hm, if_pos he]
theorem copyGo_next {Lq : Pool} {l : List Int} {z : Int} {L : Pool} {own : Int → Int} (h0 : (copyGo Lq l L own).2.1 = 0) {n : Node} (hn : { nodeOf Lq z with a := (copyGo Lq l L own).2.2 (nodeOf Lq z).a, b := (copyGo Lq l L own).2.2 (nodeOf Lq z).b } = n) (he : (make (copyGo Lq l L own).1 n).2.1 = 0) :
  copyGo Lq (l ++ [z]) L own = ((make (copyGo Lq l L own).1 n).2.2, 0, fun x => if x = z then (make (copyGo Lq l L own).1 n).1 else (copyGo Lq l L own).2.2 x) := by
 obtain ⟨x, e, L', hm⟩ : ∃ x e L', make (copyGo Lq l L own).1 n = (x, e, L') := ⟨_, _, _, rfl⟩
 rw [hm] at he ⊢
 rw [copyGo_app, if_neg (by rw [h0]; exact fun h => h rfl), copyGo_cons Lq z [] _ _ hn hm, if_neg (fun h => h he)]
 rfl
end Go.Sp
namespace Go.Proofs
attribute [local irreducible] Calls CallsD
theorem ext_setc {w : World} {a : Addr} {k : Nat} {v : Value} : Ext (· = a.block) w (w.setCell (a.add k) v) := (Ext.setCell _ _).mono (fun i _ e => by rw [add_block] at e; exact e)
def ownM (M : List (Int × Int)) (x : Int) : Int := (SE.look M x).getD 0
def CoV (p2 p3 p4 p5 p6 p8 : Addr) (mb : Nat) (F' FQ : NP) (b : Nat) : Prop := b = p2.block ∨ b = p3.block ∨ b = p4.block ∨ b = p5.block ∨ b = p6.block ∨ b = p8.block ∨ b = mb ∨ F' b ∨ FQ b
structure CoB (A : World) (p q p2 p3 p4 p5 p6 p8 : Addr) (mb n : Nat) : Prop where
 b2 : Box A p2 [.pointer (some p)] 36
 b3 : Box A p3 [.pointer (some q)] 36
 b4 : Box A p4 [.int .i64 0] 32
 b5 : Box A p5 [.int .i64 0] 33
 b6 : Box A p6 [.int .i64 (n : Int)] 3
 b8 : Box A p8 [.map (some mb)] 146
theorem CoB.ext {A A' : World} {p q p2 p3 p4 p5 p6 p8 : Addr} {mb n : Nat} {F' FQ G : NP} (h : CoB A p q p2 p3 p4 p5 p6 p8 mb n) (E : Ext G A A') (hG : ∀ b, (b = p2.block ∨ b = p3.block ∨ b = p4.block ∨ b = p5.block ∨ b = p6.block ∨ b = p8.block) → ¬ G b) : CoB A' p q p2 p3 p4 p5 p6 p8 mb n :=
 ⟨h.b2.ext E (hG _ (.inl rfl)), h.b3.ext E (hG _ (.inr (.inl rfl))), h.b4.ext E (hG _ (.inr (.inr (.inl rfl)))), h.b5.ext E (hG _ (.inr (.inr (.inr (.inl rfl))))), h.b6.ext E (hG _ (.inr (.inr (.inr (.inr (.inl rfl)))))), h.b8.ext E (hG _ (.inr (.inr (.inr (.inr (.inr rfl))))))⟩
theorem CoB.pure {A A' : World} {p q p2 p3 p4 p5 p6 p8 : Addr} {mb n : Nat} (h : CoB A p q p2 p3 p4 p5 p6 p8 mb n) (E : Pure A A') : CoB A' p q p2 p3 p4 p5 p6 p8 mb n := h.ext (F' := None) (FQ := None) E (fun _ _ h => h)
theorem CoB.lt {A : World} {p q p2 p3 p4 p5 p6 p8 : Addr} {mb n b : Nat} (h : CoB A p q p2 p3 p4 p5 p6 p8 mb n) (hb : b = p2.block ∨ b = p3.block ∨ b = p4.block ∨ b = p5.block ∨ b = p6.block ∨ b = p8.block) : b < A.heap.size := by
 rcases hb with rfl | rfl | rfl | rfl | rfl | rfl
 ·exact h.b2.lt
 ·exact h.b3.lt
 ·exact h.b4.lt
 ·exact h.b5.lt
 ·exact h.b6.lt
 ·exact h.b8.lt
theorem c_Copy (p q : Addr) (t : Int) (w0 : World) {L Lq : Sp.Pool} {FP FQ : NP} (hW : Sp.Wf L) (hQ : Sp.Wf Lq) (hP : PoolAt w0 p L FP) (hPQ : PoolAt w0 q Lq FQ) (hd : ∀ b, FP b → ¬ FQ b) :
  Calls Try.prog 78 #[.pointer (some p), .pointer (some q), .int .i64 t] w0 (fun e w' => ∃ r1 r2 : Int, e = .returned (.tuple #[.int .i64 r1, .int .i64 r2]) ∧ (r1 = (copyS L Lq t).1 ∧ r2 = (copyS L Lq t).2.1 ∧ ∃ F', PoolAt w' p (copyS L Lq t).2.2 F' ∧ Ext FP w0 w' ∧ ∀ b, F' b → FP b ∨ w0.heap.size ≤ b)) := by
 refine w_S2 _ _ _ w0 (fun r1 r2 w' => r1 = (copyS L Lq t).1 ∧ r2 = (copyS L Lq t).2.1 ∧ ∃ F', PoolAt w' p (copyS L Lq t).2.2 F' ∧ Ext FP w0 w' ∧ ∀ b, F' b → FP b ∨ w0.heap.size ≤ b) ?_
 unfold m_S2
 intro p2 w1 n2 p3 w2 n3 p4 w3 n4 p5 w4 n5
 have E1 : Pure w0 w1 := Ext.new n2
 have E2 : Pure w1 w2 := Ext.new n3
 have E3 : Pure w2 w3 := Ext.new n4
 have E4 : Pure w3 w4 := Ext.new n5
 have B2 := (((Box.of_newA n2).pure E2).pure E3).pure E4
 have B3 := ((Box.of_newA n3).pure E3).pure E4
 have B4 := (Box.of_newA n4).pure E4
 have B5 := Box.of_newA n5
 have b2 := n2.at_size; have b3 := n3.at_size; have b4 := n4.at_size; have b5 := n5.at_size
 have z1 := E1.size; have z2 := E2.size; have z3 := E3.size; have z4 := E4.size
 have l1 := (Box.of_newA n2).lt; have l2 := (Box.of_newA n3).lt; have l3 := (Box.of_newA n4).lt; have l4 := B5.lt
 have E04 : Pure w0 w4 := ((E1.trans E2).trans E3).trans E4
 refine ⟨some p, B2.cell0, fun hc => (by cases hc), fun _ => ⟨some q, B3.cell0, ?_⟩⟩
 refine (c_in q t w4 (hPQ.pure E04)).mono ?_
 rintro _ _ ⟨_, rfl, rfl, rfl⟩
 refine ⟨_, rfl, Kept.refl _, fun hc => ?_, fun hc => ?_⟩
 ·have hin : Sp.inP Lq t = false := by simpa using hc
  have e : copyS L Lq t = (0, 51, L) := by unfold copyS; rw [if_neg (by rw [hin]; simp)]
  rw [e]
  refine ⟨B4.canW0 (by simp), id, ?_⟩
  rintro w8 e8
  have X8 : Ext (· = p4.block) w4 w8 := by rw [e8]; exact Ext.setCell _ _
  have B48 : Box w8 p4 [.int .i64 0] 32 := by rw [e8]; exact B4.set0
  have B58 := B5.ext X8 (by omega)
  refine ⟨B58.canW0 (by simp), id, ?_⟩
  rintro w9 e9
  have X9 : Ext (· = p5.block) w8 w9 := by rw [e9]; exact Ext.setCell _ _
  have B59 : Box w9 p5 [.int .i64 51] 33 := by rw [e9]; exact B58.set0
  have B49 := B48.ext X9 (by omega)
  refine ⟨_, B49.cell0, _, B59.cell0, rfl, rfl, FP, ((hP.pure E04).ext X8 (fun b hb e => by have := hP.lt hb; omega)).ext X9 (fun b hb e => by have := hP.lt hb; omega), Ext.pure ((E04.own (by omega) X8).own (by omega) X9), fun b hb => .inl hb⟩
 have hin : Sp.inP Lq t = true := by simpa using hc
 obtain ⟨sl, hsl, hsll⟩ : ∃ v4 : Sl, w4.cell? p = some v4.v ∧ v4.len = L.length := by
  obtain ⟨s, m, h, _⟩ := hP.pure E04
  exact ⟨s, h.box.cell0, by rw [h.rows.len, List.length_map]⟩
 refine ⟨some p, B2.cell0, p, rfl, sl, hsl, ?_⟩
 rw [hsll]
 intro p6 w10 n6
 have E10 : Pure w4 w10 := Ext.new n6
 have B6 := Box.of_newA n6
 have b6 := n6.at_size
 refine ⟨B6.canW0 (by simp), id, ?_⟩
 rintro w11 e11
 have X11 : Ext (· = p6.block) w10 w11 := by rw [e11]; exact Ext.setCell _ _
 have B6' : Box w11 p6 [.int .i64 (L.length : Int)] 3 := by rw [e11]; exact B6.set0
 intro p7 w12 n7
 have E12 : Pure w11 w12 := Ext.new n7
 have M7 := IMap.of_new (f := fun i : Int => .int .i64 i) n7
 have b7 := n7.at_size
 intro p8 w13 n8
 have E13 : Pure w12 w13 := Ext.new n8
 have B8 := Box.of_newA n8
 have b8 := n8.at_size
 refine ⟨B8.canW0 (by simp), id, ?_⟩
 rintro w14 e14
 have X14 : Ext (· = p8.block) w13 w14 := by rw [e14]; exact Ext.setCell _ _
 have B8' : Box w14 p8 [.map (some p7.block)] 146 := by rw [e14]; exact B8.set0
 have z10 := E10.size; have z11 := X11.size; have z12 := E12.size; have z13 := E13.size; have z14 := X14.size
 have l6 := B6'.lt; have l7 := M7.lt; have l8 := B8.lt
 have E07 : Pure w0 w14 := ((((E04.trans E10).own (by omega) X11).trans E12).trans E13).own (by omega) X14
 have up : ∀ {T : TypeId} {c : Addr} {vs : List Value}, Box w4 c vs T → c.block ≠ p6.block → c.block ≠ p8.block → Box w14 c vs T := fun h h1 h2 => ((((h.pure E10).ext X11 h1).pure E12).pure E13).ext X14 h2
 have C14 : CoB w14 p q p2 p3 p4 p5 p6 p8 p7.block L.length := ⟨up B2 (by omega) (by omega), up B3 (by omega) (by omega), up B4 (by omega) (by omega), up B5 (by omega) (by omega), ((B6'.pure E12).pure E13).ext X14 (by omega), B8'⟩
 have M14 := (M7.pure E13).ext X14 (by omega)
 refine ⟨some q, C14.b3.cell0, ?_⟩
 refine (c_Subs q t w14).mono ?_
 rintro _ w15 ⟨_, rfl, q2, q3, rfl, Bq2, Bq3, E15⟩
 have E015 := E07.trans E15
 have z15 := E15.size
 refine ⟨_, rfl, E15.keptP, _, _, rfl, Try.call85, _, _, it_Subs hQ (hPQ.pure E015) Bq2 Bq3, ?_⟩
 have hfew := Sp.subs_few hQ t
 have hlq := hQ.ok.few
 have hsub : ∀ u ∈ Sp.subs Lq t, Sp.inP Lq u = true := fun u hu => subs_in hQ hu
 have hnd := Sp.subs_nodup hQ t
 generalize hcs : copyS L Lq t = cs at *
 have hcs' : cs = if (copyGo Lq (Sp.subs Lq t) L (fun _ => 0)).2.1 ≠ 0 then (0, (copyGo Lq (Sp.subs Lq t) L (fun _ => 0)).2.1, L) else ((copyGo Lq (Sp.subs Lq t) L (fun _ => 0)).2.2 t, 0, (copyGo Lq (Sp.subs Lq t) L (fun _ => 0)).1) := by rw [← hcs]; unfold copyS; rw [if_pos hin]
 have htin : t ∈ Sp.subs Lq t := self_sub hQ hin
 generalize Sp.subs Lq t = xs at *
 have C15 := C14.pure E15
 have M15 := M14.pure E15
 have o2 : w0.heap.size ≤ p2.block := by omega
 have o3 : w0.heap.size ≤ p3.block := by omega
 have o4 : w0.heap.size ≤ p4.block := by omega
 have o5 : w0.heap.size ≤ p5.block := by omega
 have o6 : w0.heap.size ≤ p6.block := by omega
 have o8 : w0.heap.size ≤ p8.block := by omega
 have om : w0.heap.size ≤ p7.block := by omega
 have d45 : p4.block ≠ p5.block := by omega
 have dm : ∀ b, (b = p2.block ∨ b = p3.block ∨ b = p4.block ∨ b = p5.block ∨ b = p6.block ∨ b = p8.block) → b ≠ p7.block := fun b hb => by rcases hb with rfl | rfl | rfl | rfl | rfl | rfl <;> omega
 have ob : ∀ b, (b = p2.block ∨ b = p3.block ∨ b = p4.block ∨ b = p5.block ∨ b = p6.block ∨ b = p8.block ∨ b = p7.block) → w0.heap.size ≤ b ∧ b < w15.heap.size := fun b hb => by rcases hb with rfl | rfl | rfl | rfl | rfl | rfl | rfl <;> omega
 generalize p7.block = mb at *
 clear up B2 B3 B4 B5 B6 B6' B8 B8' M7 M14 C14 n2 n3 n4 n5 n6 n7 n8 X11 X14 E10 E12 E13 e11 e14 Bq2 Bq3 hsl
 have hPq : ∀ b, FQ b → b < w0.heap.size := fun b hb => hPQ.lt hb
 refine ⟨fun pre Y A => ∃ (F' : NP) (M : List (Int × Int)), (copyGo Lq pre L (fun _ => 0)).2.1 = 0 ∧ PoolAt A p (copyGo Lq pre L (fun _ => 0)).1 F' ∧ IMap (fun i : Int => .int .i64 i) A mb M ∧ M.map Prod.fst = pre ∧ (∀ x, (copyGo Lq pre L (fun _ => 0)).2.2 x = ownM M x) ∧ CoB A p q p2 p3 p4 p5 p6 p8 mb L.length ∧ PoolAt A q Lq FQ ∧ (∀ b, F' b → FP b ∨ (w0.heap.size ≤ b ∧ ¬ (b = p2.block ∨ b = p3.block ∨ b = p4.block ∨ b = p5.block ∨ b = p6.block ∨ b = p8.block ∨ b = mb))) ∧ (∀ b, CoV p2 p3 p4 p5 p6 p8 mb F' FQ b → ¬ Y b) ∧ Ext FP w0 A ∧ w15.heap.size ≤ A.heap.size,
  fun pre Y A => ∃ (F' : NP) (e : Int), cs = (0, e, L) ∧ PoolAt A p L F' ∧ Box A p4 [.int .i64 0] 32 ∧ Box A p5 [.int .i64 e] 33 ∧ (∀ b, F' b → FP b ∨ w0.heap.size ≤ b) ∧ (∀ b, (b = p4.block ∨ b = p5.block ∨ F' b) → ¬ Y b) ∧ Ext FP w0 A, ⟨fun _ _ _ _ => trivial, ?_, fun _ _ _ _ _ h => h.elim, ?_⟩, ?_, ?_, ?_, ?_⟩
 ·rintro pre Y A Y' A' ⟨F', M, g1, g2, g3, g4, g5, g6, g7, g8, g9, g10, g11⟩ hst
  have hv : ∀ b, CoV p2 p3 p4 p5 p6 p8 mb F' FQ b → ¬ Y' b := hst.disj (fun b hb => ⟨by
   rcases hb with hb | hb | hb | hb | hb | hb | hb | hb | hb
   ·exact g6.lt (.inl hb)
   ·exact g6.lt (.inr (.inl hb))
   ·exact g6.lt (.inr (.inr (.inl hb)))
   ·exact g6.lt (.inr (.inr (.inr (.inl hb))))
   ·exact g6.lt (.inr (.inr (.inr (.inr (.inl hb)))))
   ·exact g6.lt (.inr (.inr (.inr (.inr (.inr hb)))))
   ·exact hb ▸ g3.lt
   ·exact g2.lt hb
   ·exact g7.lt hb, g9 b hb⟩)
  exact ⟨F', M, g1, g2.ext hst.ext (fun b hb => hv b (.inr (.inr (.inr (.inr (.inr (.inr (.inr (.inl hb))))))))), g3.ext hst.ext (hv _ (.inr (.inr (.inr (.inr (.inr (.inr (.inl rfl)))))))), g4, g5, g6.ext (F' := F') (FQ := FQ) hst.ext (fun b hb => hv b (by rcases hb with h | h | h | h | h | h <;> simp only [CoV, h, true_or, or_true])), g7.ext hst.ext (fun b hb => hv b (.inr (.inr (.inr (.inr (.inr (.inr (.inr (.inr hb))))))))), g8, hv, g10.hst hst, Nat.le_trans g11 hst.ext.size⟩
 ·rintro pre Y A Y' A' ⟨F', e, g1, g2, g3, g4, g5, g6, g7⟩ hst
  have hv : ∀ b, (b = p4.block ∨ b = p5.block ∨ F' b) → ¬ Y' b := hst.disj (fun b hb => ⟨by
   rcases hb with hb | hb | hb
   ·exact hb ▸ g3.lt
   ·exact hb ▸ g4.lt
   ·exact g2.lt hb, g6 b hb⟩)
  exact ⟨F', e, g1, g2.ext hst.ext (fun b hb => hv b (.inr (.inr hb))), g3.ext hst.ext (hv _ (.inl rfl)), g4.ext hst.ext (hv _ (.inr (.inl rfl))), g5, hv, g7.hst hst⟩
 ·exact ⟨FP, [], rfl, hP.pure E015, M15, rfl, fun _ => rfl, C15, hPQ.pure E015, fun b hb => .inl hb, fun _ _ h => h, Ext.pure E015, Nat.le_refl _⟩
 ·rintro pre z Y A ⟨F', M, g1, g2, g3, g4, g5, g6, g7, g8, g9, g10, g11⟩ hsA ⟨post, hpost⟩
  have hzin : Sp.inP Lq z = true := hsub z (by rw [hpost]; simp)
  have hzn : z ∉ pre := by
   rw [hpost] at hnd
   have := (List.nodup_append.1 hnd).2.2
   exact fun h => this z h z (by simp) rfl
  generalize hcg : copyGo Lq pre L (fun _ => 0) = cg at *
  have hok : Sp.Ok cg.1 := by rw [← hcg]; exact (Sp.copyGo_wf pre L _ hW).ok
  have hA0 := hsA.lt
  refine ⟨some q, g6.b3.cell0, ?_⟩
  refine (c_Node q z A g7 hQ.ok).mono ?_
  rintro _ w16 ⟨k, f, t', u, x, a, b, r3, rfl, ⟨hn, _⟩, E16⟩
  have z16 := E16.size
  refine ⟨_, _, _, _, _, _, _, _, rfl, E16.kept (fun b hb => hb.elim), ?_⟩
  intro p9 w17 n9
  have E17 : Pure w16 w17 := Ext.new n9
  have B9 := Box.of_newA n9
  have b9 := n9.at_size
  have z17 := E17.size
  refine ⟨B9.canWs (by simp), id, ?_⟩
  rintro w18 e18
  have X18 : Ext (· = p9.block) w17 w18 := by rw [e18]; exact Ext.storeRow _ _ _
  have B18 : Box w18 p9 (nrow ⟨k, f, t', u, x, a, b⟩) 106 := by rw [e18]; exact B9.store rfl
  have z18 := X18.size
  have l9 := B18.lt
  have keep : ∀ {G : NP} {w' : World}, Ext G A w' → (∀ b, b < A.heap.size → ¬ G b) → IMap (fun i : Int => .int .i64 i) w' mb M ∧ CoB w' p q p2 p3 p4 p5 p6 p8 mb L.length ∧ PoolAt w' q Lq FQ ∧ PoolAt w' p cg.1 F' := fun {G w'} E hG =>
   ⟨g3.ext E (hG _ g3.lt), g6.ext (F' := F') (FQ := FQ) E (fun b hb => hG b (g6.lt hb)), g7.ext E (fun b hb => hG b (g7.lt hb)), g2.ext E (fun b hb => hG b (g2.lt hb))⟩
  have E18 : Ext (· = p9.block) A w18 := (Ext.pure (E16.trans E17)).trans X18
  have hg9 : ∀ b, b < A.heap.size → ¬ (b = p9.block) := fun b hb e => by omega
  have look : ∀ {w' : World}, IMap (fun i : Int => .int .i64 i) w' mb M → ∀ y, (Instr.lookup 146 (.map (some mb)) (.int .i64 y) false).run Try.prog w' = .ok (.int .i64 (cg.2.2 y)) w' := fun {w'} h y => by
   rw [g5 y]
   rcases h.get (P := Try.prog) (T := 146) Try.underlying146 Try.underlying32 (Try.zeroValue32 _) y false with ⟨hn, hr⟩ | ⟨v, hv, hr⟩
   ·unfold ownM; rw [hn]; exact hr
   ·unfold ownM; rw [hv]; exact hr
  refine ⟨fun w' => w'.cell? p8 = some (.map (some mb)) ∧ IMap (fun i : Int => .int .i64 i) w' mb M, ?_, ?_⟩
  ·obtain ⟨k1, k2, _, _⟩ := keep (E18.thenPure (Ext.drew w18)) hg9
   exact ⟨k2.b8.cell0, k1⟩
  rintro w19 e19
  have E19 : Ext (· = p9.block) A w19 := by rw [e19]; exact E18.thenPure (Ext.drew w18)
  have B19 : Box w19 p9 (nrow ⟨k, f, t', u, x, a, b⟩) 106 := by rw [e19]; exact B18.pure (Ext.drew w18)
  obtain ⟨k1, k2, k3, k4⟩ := keep E19 hg9
  refine ⟨some mb, k2.b8.cell0, a, B19.cell (i := 5) rfl, _, look k1 a, some mb, fun w' h => h.1, b, B19.cell (i := 6) rfl, _, fun w' h => look h.2 b, B19.canW (i := 5) (by simp [nrow]), id, ?_⟩
  rintro w20 e20
  have X20 : Ext (· = p9.block) w19 w20 := by rw [e20]; exact ext_setc
  have B20 : Box w20 p9 (nrow ⟨k, f, t', u, x, cg.2.2 a, b⟩) 106 := by rw [e20]; exact B19.set 5 _
  have E20 := E19.trans X20
  obtain ⟨k1', k2', _, _⟩ := keep E20 hg9
  refine ⟨⟨k2'.b8.cell0, k1'⟩, B20.canW (i := 6) (by simp [nrow]), id, ?_⟩
  rintro w21 e21
  have X21 : Ext (· = p9.block) w20 w21 := by rw [e21]; exact ext_setc
  have B21 : Box w21 p9 (nrow ⟨k, f, t', u, x, cg.2.2 a, cg.2.2 b⟩) 106 := by rw [e21]; exact B20.set 6 _
  have E21 := E20.trans X21
  obtain ⟨m1, m2, m3, m4⟩ := keep E21 hg9
  have z21 := E21.size
  refine ⟨some p, m2.b2.cell0, k, f, t', u, x, cg.2.2 a, cg.2.2 b, B21.row, ?_⟩
  have hnn : ({ Sp.nodeOf Lq z with a := cg.2.2 (Sp.nodeOf Lq z).a, b := cg.2.2 (Sp.nodeOf Lq z).b } : Sp.Node) = ⟨k, f, t', u, x, cg.2.2 a, cg.2.2 b⟩ := by rw [← hn]
  refine (c_Make p k f t' u x (cg.2.2 a) (cg.2.2 b) w21 m4 hok).mono ?_
  rintro _ w22 ⟨r4, r5, rfl, he, F2, hP2, E22, hF2⟩
  have he1 := congrArg Prod.fst he
  have he2 := congrArg Prod.snd he
  simp only at he1 he2
  have z22 := E22.size
  have hF'o : ∀ b, F' b → ¬ (b = p2.block ∨ b = p3.block ∨ b = p4.block ∨ b = p5.block ∨ b = p6.block ∨ b = p8.block ∨ b = mb) := fun b hb hh => (g8 b hb).elim (fun h => by have := hP.lt h; have := (ob b hh).1; omega) (fun h => h.2 hh)
  have n22 : CoB w22 p q p2 p3 p4 p5 p6 p8 mb L.length := m2.ext (F' := F') (FQ := FQ) E22 (fun b hb hh => hF'o b hh (by rcases hb with h | h | h | h | h | h <;> simp only [h, true_or, or_true]))
  have M22 := m1.ext E22 (fun hh => hF'o _ hh (by simp))
  have Q22 := m3.ext E22 (fun b hb hh => (g8 b hh).elim (fun h => hd b h hb) (fun h => by have := hPq b hb; omega))
  have kY : Kept Y A w22 := (E21.kept (fun b hb e => by have := hA0 b hb; omega)).trans (E22.kept (fun b hb hh => g9 b (.inr (.inr (.inr (.inr (.inr (.inr (.inr (.inl hh)))))))) hb))
  have E022 : Ext FP w0 w22 := (g10.trans' E21 (fun i hi e => by have := g10.size; omega)).trans' E22 (fun i hi hh => (g8 i hh).elim id (fun h => by omega))
  have hF2o : ∀ b, F2 b → FP b ∨ (w0.heap.size ≤ b ∧ ¬ (b = p2.block ∨ b = p3.block ∨ b = p4.block ∨ b = p5.block ∨ b = p6.block ∨ b = p8.block ∨ b = mb)) := fun b hb => (hF2 b hb).elim (g8 b) (fun h => .inr ⟨by have := g10.size; omega, fun hh => by have := (ob b hh).2; omega⟩)
  have hF2Y : ∀ b, F2 b → ¬ Y b := fun b hb hY => (hF2 b hb).elim (fun h => g9 b (.inr (.inr (.inr (.inr (.inr (.inr (.inr (.inl h)))))))) hY) (fun h => by have := hA0 b hY; omega)
  refine ⟨r4, r5, rfl, E22.kept (fun b hb => hb.elim), fun hc => ?_, fun hc => ?_⟩
  ·have h5 : (Sp.make cg.1 ⟨k, f, t', u, x, cg.2.2 a, cg.2.2 b⟩).2.1 ≠ 0 := by rw [← he2]; exact bne_iff_ne.1 hc
   have hfail := @Sp.copyGo_fail Lq pre post z L (fun _ => 0) (by rw [hcg]; exact g1) ⟨k, f, t', u, x, cg.2.2 a, cg.2.2 b⟩ (by rw [hcg]; exact hnn) (by rw [hcg]; exact h5)
   rw [← hpost, hcg, ← he2] at hfail
   have hcs2 : cs = (0, r5, L) := by rw [hcs', hfail, if_pos (by rw [he2]; exact h5)]
   refine ⟨some p, n22.b2.cell0, _, n22.b6.cell0, ?_⟩
   obtain ⟨Mg, hMg⟩ := Sp.copyGo_grows Lq pre L (fun _ => 0)
   rw [hcg] at hMg
   have hmk : ∃ M2, (Sp.make cg.1 ⟨k, f, t', u, x, cg.2.2 a, cg.2.2 b⟩).2.2 = cg.1 ++ M2 := Sp.make_app _ _
   obtain ⟨M2, hM2⟩ := hmk
   rw [hM2, hMg, List.append_assoc] at hP2
   have hok2 : Sp.Ok (L ++ (Mg ++ M2)) := by rw [← List.append_assoc, ← hMg, ← hM2]; exact Sp.make_ok hok _
   refine (c_cut p L.length w22 hP2 hok2 (by rw [List.length_append]; omega)).mono ?_
   rintro _ w23 ⟨rfl, hP3, E23⟩
   rw [List.take_left] at hP3
   have n23 : CoB w23 p q p2 p3 p4 p5 p6 p8 mb L.length := n22.ext (F' := F') (FQ := FQ) E23 (fun b hb hh => (hF2o b hh).elim (fun h => by have := hP.lt h; have := (ob b (by rcases hb with h | h | h | h | h | h <;> simp only [h, true_or, or_true])).1; omega) (fun h => h.2 (by rcases hb with h | h | h | h | h | h <;> simp only [h, true_or, or_true])))
   refine ⟨rfl, E23.kept (fun b hb => hb.elim), n23.b4.canW0 (by simp), id, ?_⟩
   rintro w24 e24
   have X24 : Ext (· = p4.block) w23 w24 := by rw [e24]; exact Ext.setCell _ _
   have B24 : Box w24 p4 [.int .i64 0] 32 := by rw [e24]; exact n23.b4.set0
   have B25 := n23.b5.ext X24 (fun e => d45 e.symm)
   refine ⟨B25.canW0 (by simp), id, ?_⟩
   rintro w25 e25
   have X25 : Ext (· = p5.block) w24 w25 := by rw [e25]; exact Ext.setCell _ _
   have B25' : Box w25 p5 [.int .i64 r5] 33 := by rw [e25]; exact B25.set0
   have nF : ∀ b, F2 b → b ≠ p4.block ∧ b ≠ p5.block := fun b hb => (hF2o b hb).elim (fun h => by have := hP.lt h; omega) (fun h => ⟨fun e => h.2 (.inr (.inr (.inl e))), fun e => h.2 (.inr (.inr (.inr (.inl e))))⟩)
   have nY4 : ¬ Y p4.block := g9 _ (.inr (.inr (.inl rfl)))
   have nY5 : ¬ Y p5.block := g9 _ (.inr (.inr (.inr (.inl rfl))))
   refine ⟨((kY.trans (E23.kept (fun b hb hh => hF2Y b hh hb))).trans (X24.kept (fun b hb e => nY4 (e ▸ hb)))).trans (X25.kept (fun b hb e => nY5 (e ▸ hb))), F2, r5, hcs2, (hP3.ext X24 (fun b hb e => (nF b hb).1 e)).ext X25 (fun b hb e => (nF b hb).2 e), B24.ext X25 d45, B25', fun b hb => (hF2o b hb).imp id (fun h => h.1), ?_, ((E022.trans' E23 (fun i hi hh => (hF2o i hh).elim id (fun h => by omega))).trans' X24 (fun i hi e => by omega)).trans' X25 (fun i hi e => by omega)⟩
   rintro b (rfl | rfl | hb)
   ·exact nY4
   ·exact nY5
   ·exact hF2Y b hb
  ·have h5 : (Sp.make cg.1 ⟨k, f, t', u, x, cg.2.2 a, cg.2.2 b⟩).2.1 = 0 := by rw [← he2]; simpa using hc
   have hnext := @Sp.copyGo_next Lq pre z L (fun _ => 0) (by rw [hcg]; exact g1) ⟨k, f, t', u, x, cg.2.2 a, cg.2.2 b⟩ (by rw [hcg]; exact hnn) (by rw [hcg]; exact h5)
   rw [hcg, ← he1] at hnext
   have hlk : SE.look M z = none := look_none.2 (by rw [g4]; exact hzn)
   obtain ⟨w26, hr26, hM26, X26⟩ := M22.put (P := Try.prog) (T := 146) Try.underlying146 Try.underlying32 hlk r4
   have nm : ∀ b, F2 b → b ≠ mb := fun b hb => (hF2o b hb).elim (fun h => by have := hP.lt h; have := (ob mb (by simp)).1; omega) (fun h e => h.2 (by simp [e]))
   have nYm : ¬ Y mb := g9 _ (.inr (.inr (.inr (.inr (.inr (.inr (.inl rfl)))))))
   have hmbo := (ob mb (by simp)).1
   refine ⟨some mb, n22.b8.cell0, w26, hr26, X26.kept (fun b hb => hb.elim), kY.trans (X26.kept (fun b hb e => nYm (e ▸ hb))), F2, M ++ [(z, r4)], by rw [hnext], by rw [hnext]; exact hP2.ext X26 (fun b hb e => nm b hb e), hM26, by simp [g4], ?_, n22.ext (F' := F') (FQ := FQ) X26 (fun b hb e => dm b hb e), Q22.ext X26 (fun b hb e => by have := hPq b hb; omega), hF2o, ?_, E022.trans' X26 (fun i hi e => by omega), by have := X26.size; omega⟩
   ·intro y
    rw [hnext]
    simp only
    unfold ownM
    rw [look_snoc (by rw [g4]; exact hzn)]
    by_cases e : y = z
    ·rw [if_pos e, if_pos e.symm]; rfl
    ·rw [if_neg e, if_neg (fun h => e h.symm)]; exact g5 y
   ·rintro b (hb | hb | hb | hb | hb | hb | hb | hb | hb)
    ·exact g9 b (.inl hb)
    ·exact g9 b (.inr (.inl hb))
    ·exact g9 b (.inr (.inr (.inl hb)))
    ·exact g9 b (.inr (.inr (.inr (.inl hb))))
    ·exact g9 b (.inr (.inr (.inr (.inr (.inl hb)))))
    ·exact g9 b (.inr (.inr (.inr (.inr (.inr (.inl hb))))))
    ·exact g9 b (.inr (.inr (.inr (.inr (.inr (.inr (.inl hb)))))))
    ·exact hF2Y b hb
    ·exact g9 b (.inr (.inr (.inr (.inr (.inr (.inr (.inr (.inr hb))))))))
 ·rintro H1 w27 hs27 _ _ ⟨F', M, g1, g2, g3, g4, g5, g6, g7, g8, g9, g10, g11⟩
  have hcs2 : cs = ((copyGo Lq xs L (fun _ => 0)).2.2 t, 0, (copyGo Lq xs L (fun _ => 0)).1) := by rw [hcs', if_neg (by simpa using g1)]
  have hlk : (Instr.lookup 146 (.map (some mb)) (.int .i64 t) false).run Try.prog w27 = .ok (.int .i64 ((copyGo Lq xs L (fun _ => 0)).2.2 t)) w27 := by
   rw [g5 t]
   rcases g3.get (P := Try.prog) (T := 146) Try.underlying146 Try.underlying32 (Try.zeroValue32 _) t false with ⟨hn, hr⟩ | ⟨v, hv, hr⟩
   ·unfold ownM; rw [hn]; exact hr
   ·unfold ownM; rw [hv]; exact hr
  generalize hcg : copyGo Lq xs L (fun _ => 0) = cg at *
  have nY4 : ¬ H1 p4.block := g9 _ (.inr (.inr (.inl rfl)))
  have nY5 : ¬ H1 p5.block := g9 _ (.inr (.inr (.inr (.inl rfl))))
  refine ⟨some mb, g6.b8.cell0, _, hlk, g6.b4.canW0 (by simp), nY4, ?_⟩
  rintro w28 e28
  have X28 : Ext (· = p4.block) w27 w28 := by rw [e28]; exact Ext.setCell _ _
  have B28 : Box w28 p4 [.int .i64 (cg.2.2 t)] 32 := by rw [e28]; exact g6.b4.set0
  have B28' := g6.b5.ext X28 (fun e => d45 e.symm)
  refine ⟨B28'.canW0 (by simp), nY5, ?_⟩
  rintro w29 e29
  have X29 : Ext (· = p5.block) w28 w29 := by rw [e29]; exact Ext.setCell _ _
  have B29 : Box w29 p5 [.int .i64 0] 33 := by rw [e29]; exact B28'.set0
  have B29' := B28.ext X29 d45
  intro w30 hs30
  have nF : ∀ b, F' b → b ≠ p4.block ∧ b ≠ p5.block := fun b hb => (g8 b hb).elim (fun h => by have := hP.lt h; omega) (fun h => ⟨fun e => h.2 (.inr (.inr (.inl e))), fun e => h.2 (.inr (.inr (.inr (.inl e))))⟩)
  refine ⟨_, (B29'.ext hs30.ext nY4).cell0, _, (B29.ext hs30.ext nY5).cell0, ?_⟩
  rw [hcs2]
  refine ⟨rfl, rfl, F', ((g2.ext X28 (fun b hb e => (nF b hb).1 e)).ext X29 (fun b hb e => (nF b hb).2 e)).ext hs30.ext (fun b hb => g9 b (.inr (.inr (.inr (.inr (.inr (.inr (.inr (.inl hb))))))))), ((g10.trans' X28 (fun i hi e => by omega)).trans' X29 (fun i hi e => by omega)).hst hs30, fun b hb => (g8 b hb).imp id (fun h => h.1)⟩
 ·rintro pre H2 w32 hs32 ⟨F', e, g1, g2, g3, g4, g5, g6, g7⟩
  refine ⟨_, g3.cell0, _, g4.cell0, ?_⟩
  rw [g1]
  exact ⟨rfl, rfl, F', g2, g7, g5⟩
end Go.Proofs
end
section
open Go Go.SE
namespace Go.Proofs
attribute [local irreducible] Calls CallsD
theorem c_Decode {S0 : NP} (p : Addr) (sb : Sl) (bs : List UInt8) (w0 : World) {L : Sp.Pool} {FP : NP} (hW : Sp.Wf L) (hP : PoolAt w0 p L FP) (hs : Lst S0 w0 1 sb (byr bs)) (hz : sb.a = none → sb = Sl.nil) :
  Calls Try.prog 22 #[.pointer (some p), sb.v] w0 (fun e w' => ∃ t x y : Int, e = .returned (.tuple #[.int .i64 t, .int .i64 x, .int .i64 y]) ∧ (t = (decS L bs).1 ∧ x = (decS L bs).2.1 ∧ y = ((decS L bs).2.2.1 : Int) ∧ ∃ F', PoolAt w' p (decS L bs).2.2.2 F' ∧ Ext FP w0 w' ∧ ∀ b, F' b → FP b ∨ w0.heap.size ≤ b)) := by
 refine w_J1 _ _ w0 (fun t x y w' => t = (decS L bs).1 ∧ x = (decS L bs).2.1 ∧ y = ((decS L bs).2.2.1 : Int) ∧ ∃ F', PoolAt w' p (decS L bs).2.2.2 F' ∧ Ext FP w0 w' ∧ ∀ b, F' b → FP b ∨ w0.heap.size ≤ b) ?_
 unfold m_J1
 refine ⟨fun hc => (by cases hc), fun _ => ?_⟩
 refine (c_read sb bs w0 hs hz).mono ?_
 rintro _ w1 ⟨x, y, z, rfl, hy, hz', hout, E1⟩
 refine ⟨_, _, _, rfl, ?_⟩
 cases hq : (rdText bs).1 with
 | none =>
  have hd : decS L bs = (0, (rdText bs).2.1, (rdText bs).2.2, L) := by unfold decS; rw [hq]
  have he : y ≠ 0 := by rw [hy]; exact Sp.rdText_err hq
  refine ⟨fun _ => ?_, fun hc => absurd (by simpa using hc) he⟩
  rw [hd]
  exact ⟨rfl, hy, hz', FP, hP.pure E1, Ext.pure E1, fun b hb => .inl hb⟩
 | some q =>
  obtain ⟨a, F, rfl, hPq, hF⟩ := hout.pool hq
  obtain ⟨g1, _, g3, _⟩ := Sp.rdText_get hq
  have h0 := Sp.rdText_ok hq
  have hd : decS L bs = ((copyS L q q.length).1, (copyS L q q.length).2.1, 0, (copyS L q q.length).2.2) := by unfold decS; rw [hq]
  rw [h0] at hy
  refine ⟨fun hc => absurd hy (by simpa using hc), fun _ => ?_⟩
  refine (c_term_Len a w1 hPq).mono ?_
  rintro _ w2 ⟨_, rfl, rfl, rfl⟩
  refine ⟨_, rfl, ?_⟩
  refine (c_Copy p a q.length w2 hW g1 (hP.pure E1) hPq (fun b hb hh => by have := hP.lt hb; have := hF b hh; omega)).mono ?_
  rintro _ w3 ⟨r1, r2, rfl, h1, h2, F', hP', E3, hF'⟩
  refine ⟨_, _, rfl, ?_⟩
  rw [hd]
  exact ⟨h1, h2, rfl, F', hP', (Ext.pure E1).trans E3, fun b hb => (hF' b hb).imp id (fun h => by have := E1.size; omega)⟩
end Go.Proofs
end
section
open Go Go.SE
namespace Go.Proofs
attribute [local irreducible] Calls CallsD
theorem rws_hz {w : World} {e : TypeId} {sz : Nat} {s : Sl} {rs : List (List Value)} (h : Rws w e sz s rs) : s.a = none → s = Sl.nil := by
 intro ha
 rcases h.own with ⟨h, _⟩ | ⟨g, cur, h, _⟩
 ·exact h
 ·rw [ha] at h; cases h
theorem call_put (f : Fld) : ∀ args w, (callFunc f.put args).run Try.prog w = .ok (.enter f.put args) w := by
 cases f
 ·exact Try.call166
 ·exact Try.call170
 ·exact Try.call172
 ·exact Try.call174
 ·exact Try.call178
 ·exact Try.call180
theorem cmap_size {P : Program} {T K E Q : TypeId} {w : World} {m : Nat} {es : List (Value × Value)} (h : CMap w m es) (hT : P.underlying T = some (.map K E)) : (Builtin.len_ #[T] Q #[.map (some m)]).run P w = .ok (.int .i64 (es.length : Int)) w := by
 obtain ⟨arr, clock, hm, rfl, _, _⟩ := h.ex
 have hg : (getObj m).run P w = .ok (.map arr clock) w := by simp [getObj, Sem.run, hm]
 simp [Builtin.len_, run_underlying hT, hg, goInt]
theorem flds_fst {n : Sp.Node} (h : Fld.fst ∈ flds n.kind) : n.a ∈ Sp.kidsOf n := by
 unfold flds at h
 unfold Sp.kidsOf Sp.shapeOf
 repeat' split at h
 all_goals first | (exfalso; revert h; decide) | skip
 all_goals (rename_i h1; rw [h1]; simp)
theorem flds_snd {n : Sp.Node} (h : Fld.snd ∈ flds n.kind) : n.b ∈ Sp.kidsOf n := by
 unfold flds at h
 unfold Sp.kidsOf Sp.shapeOf
 repeat' split at h
 all_goals first | (exfalso; revert h; decide) | skip
 all_goals (rename_i h1; rw [h1]; simp)
structure LaySep (p2 p3 p4 p6 : Addr) (m mb : Nat) (FP F : NP) (B : Nat) : Prop where
 lt : p2.block < B ∧ p3.block < B ∧ p4.block < B ∧ p6.block < B ∧ m < B ∧ mb < B
 lF : ∀ b, F b → b < B
 lP : ∀ b, FP b → b < B
 d3 : p2.block ≠ p3.block ∧ p4.block ≠ p3.block ∧ p6.block ≠ p3.block ∧ mb ≠ p3.block ∧ m ≠ p3.block ∧ ¬ F p3.block ∧ ¬ FP p3.block
 db : p2.block ≠ mb ∧ p4.block ≠ mb ∧ p6.block ≠ mb ∧ m ≠ mb ∧ ¬ F mb ∧ ¬ FP mb
def LayV (p2 p3 p4 p6 : Addr) (m mb : Nat) (FP F : NP) (s : Sl) (b : Nat) : Prop :=
 b = p2.block ∨ b = p3.block ∨ b = p4.block ∨ b = p6.block ∨ b = m ∨ b = mb ∨ F b ∨ FP b ∨ s.blk b
structure LayAt (A : World) (p p2 p3 p4 p6 : Addr) (m mb : Nat) (L : Sp.Pool) (FP F : NP) (s : Sl) (bs : List UInt8) (M : List (Int × Int)) : Prop where
 b2 : Box A p2 [.pointer (some p)] 36
 b3 : Box A p3 [s.v] 44
 b4 : Box A p4 [.map (some m)] 189
 b6 : Box A p6 [.map (some mb)] 155
 rows : Rws A 5 1 s (byr bs)
 nums : IMap (fun i : Int => .int .i64 i) A mb M
 kinds : Kinds A m F
 pool : PoolAt A p L FP
section
variable {A A' : World} {p p2 p3 p4 p6 : Addr} {m mb B : Nat} {L : Sp.Pool} {FP F G : NP} {s s' : Sl} {bs bs' : List UInt8} {M : List (Int × Int)}
theorem LayAt.ext (h : LayAt A p p2 p3 p4 p6 m mb L FP F s bs M) (E : Ext G A A') (hG : ∀ b, LayV p2 p3 p4 p6 m mb FP F s b → ¬ G b) : LayAt A' p p2 p3 p4 p6 m mb L FP F s bs M :=
 ⟨h.b2.ext E (hG _ (.inl rfl)), h.b3.ext E (hG _ (.inr (.inl rfl))), h.b4.ext E (hG _ (.inr (.inr (.inl rfl)))), h.b6.ext E (hG _ (.inr (.inr (.inr (.inl rfl))))),
 h.rows.ext E (fun b hb => hG b (.inr (.inr (.inr (.inr (.inr (.inr (.inr (.inr hb))))))))), h.nums.ext E (hG _ (.inr (.inr (.inr (.inr (.inr (.inl rfl))))))),
 h.kinds.ext E (fun b hb => hb.elim (fun hb => hG b (.inr (.inr (.inr (.inr (.inr (.inr (.inl hb)))))))) (fun e => hG b (.inr (.inr (.inr (.inr (.inl e))))))),
 h.pool.ext E (fun b hb => hG b (.inr (.inr (.inr (.inr (.inr (.inr (.inr (.inl hb)))))))))⟩
theorem LayAt.pure (h : LayAt A p p2 p3 p4 p6 m mb L FP F s bs M) (E : Pure A A') : LayAt A' p p2 p3 p4 p6 m mb L FP F s bs M := h.ext E (fun _ _ h => h)
theorem LayAt.lt (h : LayAt A p p2 p3 p4 p6 m mb L FP F s bs M) {b : Nat} (hb : LayV p2 p3 p4 p6 m mb FP F s b) : b < A.heap.size := by
 rcases hb with rfl | rfl | rfl | rfl | rfl | rfl | hb | hb | hb
 ·exact h.b2.lt
 ·exact h.b3.lt
 ·exact h.b4.lt
 ·exact h.b6.lt
 ·exact h.kinds.mlt
 ·exact h.nums.lt
 ·exact h.kinds.lt _ hb
 ·exact h.pool.lt hb
 ·exact h.rows.lt hb
theorem LayAt.put (h : LayAt A p p2 p3 p4 p6 m mb L FP F s bs M) (S : LaySep p2 p3 p4 p6 m mb FP F B) (hs : ∀ b, s.blk b → B ≤ b) (hs' : ∀ b, s'.blk b → B ≤ b) (E : Ext s.blk A A') (hR : Rws A' 5 1 s' (byr bs')) :
  LayAt (A'.setCell p3 s'.v) p p2 p3 p4 p6 m mb L FP F s' bs' M ∧ Ext (fun b => s.blk b ∨ b = p3.block) A (A'.setCell p3 s'.v) := by
 have E2 : Ext (· = p3.block) A' (A'.setCell p3 s'.v) := Ext.setCell p3 _
 have EE : Ext (fun b => s.blk b ∨ b = p3.block) A (A'.setCell p3 s'.v) := (E.mono (fun b _ h => .inl h)).trans (E2.mono (fun b _ h => .inr h))
 obtain ⟨l2, l3, l4, l6, lm, lb⟩ := S.lt
 obtain ⟨d2, d4, d6, d7, d8, d9, d10⟩ := S.d3
 have ns : ∀ b, b < B → ¬ s.blk b := fun b hb hh => by have := hs b hh; omega
 have b3 := (h.b3.ext E (ns _ l3)).set0 (v := s'.v)
 refine ⟨⟨h.b2.ext EE ?_, b3, h.b4.ext EE ?_, h.b6.ext EE ?_, hR.ext E2 (fun b hb e => by have := hs' b hb; omega), h.nums.ext EE ?_, h.kinds.ext EE ?_, h.pool.ext EE ?_⟩, EE⟩
 ·rintro (hh | hh)
  ·exact ns _ l2 hh
  ·exact d2 hh
 ·rintro (hh | hh)
  ·exact ns _ l4 hh
  ·exact d4 hh
 ·rintro (hh | hh)
  ·exact ns _ l6 hh
  ·exact d6 hh
 ·rintro (hh | hh)
  ·exact ns _ lb hh
  ·exact d7 hh
 ·rintro b (hb | rfl) (hh | hh)
  ·exact ns _ (S.lF b hb) hh
  ·subst hh; exact d9 hb
  ·exact ns _ lm hh
  ·exact d8 hh
 ·rintro b hb (hh | hh)
  ·exact ns _ (S.lP b hb) hh
  ·subst hh; exact d10 hb
end
theorem c_lay (p : Addr) (t : Int) (w0 : World) {L : Sp.Pool} {FP : NP} (hW : Sp.Wf L) (hN : Sp.Nums L) (hP : PoolAt w0 p L FP) :
  Calls Try.prog 76 #[.pointer (some p), .int .i64 t] w0 (fun e w' => ∃ r : Sl, e = .returned r.v ∧ RetO w0 5 1 (byr (textOf L t)) r w') := by
 refine w_V _ _ w0 (fun r w' => RetO w0 5 1 (byr (textOf L t)) r w') ?_
 unfold m_V
 intro p2 w1 h1 p3 w2 h2
 have E1 : Pure w0 w1 := Ext.new h1
 have E2 : Pure w1 w2 := Ext.new h2
 have B2 := (Box.of_new h1).pure E2
 have B3 := Box.of_new h2
 have s1 := h1.at_size; have s2 := h2.at_size; have l2 := (Box.of_new h1).lt; have l3 := B3.lt; have z1 := E1.size; have z2 := E2.size
 refine (c_kinds w2).mono ?_
 rintro _ w3 ⟨_, rfl, m, F, rfl, hK, E3, hm, hF⟩
 have z3 := E3.size
 have lm := hK.mlt
 refine ⟨_, rfl, E3.keptP, ?_⟩
 intro p4 w4 h4
 have E4 : Pure w3 w4 := Ext.new h4
 have B4 := Box.of_new h4
 have s4 := h4.at_size; have l4 := B4.lt; have z4 := E4.size
 refine ⟨B4.canW0 (by simp), fun h => h, ?_⟩
 rintro w5 h5
 have X5 : Ext (· = p4.block) w4 w5 := by rw [h5]; exact Ext.setCell p4 _
 have B4' : Box w5 p4 [.map (some m)] 189 := by rw [h5]; exact B4.set0
 have z5 := X5.size
 intro p5 w6 h6
 have E6 : Pure w5 w6 := Ext.new h6
 have M5 := IMap.of_new (f := fun i : Int => .int .i64 i) h6
 have s6 := h6.at_size; have l5 := M5.lt; have z6 := E6.size
 intro p6 w7 h7
 have E7 : Pure w6 w7 := Ext.new h7
 have B6 := Box.of_new h7
 have s7 := h7.at_size; have l6 := B6.lt; have z7 := E7.size
 refine ⟨B6.canW0 (by simp), fun h => h, ?_⟩
 rintro w8 h8
 have X8 : Ext (· = p6.block) w7 w8 := by rw [h8]; exact Ext.setCell p6 _
 have B6' : Box w8 p6 [.map (some p5.block)] 155 := by rw [h8]; exact B6.set0
 have z8 := X8.size
 have E08 : Pure w0 w8 := ((((((E1.trans E2).trans E3).trans E4).own (by omega) X5).trans E6).trans E7).own (by omega) X8
 have P8 := hP.pure E08
 have up : ∀ {T : TypeId} {c : Addr} {vs : List Value}, Box w5 c vs T → c.block ≠ p6.block → Box w8 c vs T := fun h h2 => ((h.pure E6).pure E7).ext X8 h2
 have up3 : ∀ {T : TypeId} {c : Addr} {vs : List Value}, Box w2 c vs T → c.block ≠ p4.block → c.block ≠ p6.block → Box w8 c vs T := fun h h1 h2 => up (((h.pure E3).pure E4).ext X5 h1) h2
 have B28 := up3 B2 (by omega) (by omega)
 have B38 := up3 B3 (by omega) (by omega)
 have B48 := up B4' (by omega)
 have M58 := (M5.pure E7).ext X8 (by omega)
 have hFlt := hK.lt
 have K8 : Kinds w8 m F := (((((hK.pure E4).ext X5 (fun b hb e => hb.elim (fun hb => by have := hFlt b hb; omega) (fun hb => by omega))).pure E6).pure E7).ext X8 (fun b hb e => hb.elim (fun hb => by have := hFlt b hb; omega) (fun hb => by omega)))
 refine ⟨some p, B28.cell0, ?_⟩
 refine (c_Subs p t w8).mono ?_
 rintro _ w9 ⟨_, rfl, q2, q3, rfl, Bq2, Bq3, E9⟩
 have z9 := E9.size
 have E09 := E08.trans E9
 refine ⟨_, rfl, E9.keptP, _, _, rfl, Try.call85, _, _, it_Subs hW (P8.pure E9) Bq2 Bq3, ?_⟩
 have hPlt : ∀ b, FP b → b < w0.heap.size := fun b hb => hP.lt hb
 have S : LaySep p2 p3 p4 p6 m p5.block FP F w9.heap.size := ⟨⟨by omega, by omega, by omega, by omega, by omega, by omega⟩, fun b hb => by have := hFlt b hb; omega, fun b hb => by have := hPlt b hb; omega,
  ⟨by omega, by omega, by omega, by omega, by omega, fun hb => by have := hF _ hb; omega, fun hb => by have := hPlt _ hb; omega⟩, ⟨by omega, by omega, by omega, by omega, fun hb => by have := hFlt _ hb; omega, fun hb => by have := hPlt _ hb; omega⟩⟩
 have A9 : LayAt w9 p p2 p3 p4 p6 m p5.block L FP F Sl.nil [] [] := ⟨B28.pure E9, B38.pure E9, B48.pure E9, B6'.pure E9, Rws.nil _ _ _, M58.pure E9, K8.pure E9, P8.pure E9⟩
 have hnil : ∀ b, ¬ Sl.nil.blk b := fun b hb => by obtain ⟨a, h, _⟩ := hb; cases h
 have hfew := Sp.subs_few hW t
 have hsub : ∀ u ∈ Sp.subs L t, Sp.inP L u = true := fun u hu => have h := (Sp.subs_mem hW).1 hu; (Sp.Sub.le hW h.1 h.2).1
 have hord := Sp.subs_ord hW t
 have hnd := Sp.subs_nodup hW t
 have htx : textOf L t = textFrom L [] (Sp.subs L t) := rfl
 rw [htx]
 generalize hxs : Sp.subs L t = xs at *
 have hL := hW.ok.few
 generalize hB : w9.heap.size = B at *
 have hw3 : w0.heap.size ≤ p3.block := by omega
 have hw5 : w0.heap.size ≤ p5.block := by omega
 have hwB : w0.heap.size ≤ B := by omega
 generalize p5.block = mb at *
 clear up up3 B28 B38 B48 M58 K8 P8 B2 B3 B4 B4' M5 B6 B6' X5 X8 E1 E2 E3 E4 E6 E7 h1 h2 h4 h5 h6 h7 h8 hK hF hFlt Bq2 Bq3
 refine ⟨fun pre Y A => ∃ s : Sl, LayAt A p p2 p3 p4 p6 m mb L FP F s (textFrom L [] pre) (numFrom 0 pre) ∧ (∀ b, s.blk b → B ≤ b) ∧ (∀ b, LayV p2 p3 p4 p6 m mb FP F s b → ¬ Y b) ∧ B ≤ A.heap.size ∧ Pure w0 A, ⟨fun _ _ _ _ => trivial, ?_, fun _ _ _ _ _ h => h.elim, fun _ _ _ _ _ h => h.elim⟩, ?_, ?_, ?_⟩
 ·rintro pre Y A Y' A' ⟨s, hA, hs, hv, hz, hE⟩ hst
  have hv' : ∀ b, LayV p2 p3 p4 p6 m mb FP F s b → ¬ Y' b := hst.disj (fun b hb => ⟨hA.lt hb, hv b hb⟩)
  exact ⟨s, hA.ext hst.ext hv', hs, hv', Nat.le_trans hz hst.ext.size, hE.hst hst⟩
 ·exact ⟨Sl.nil, A9, fun b hb => (hnil b hb).elim, fun b _ h => h, by omega, E09⟩
 ·rintro pre z Y A ⟨s, hA, hs, hv, hz, hE⟩ hsA ⟨post, hpost⟩
  have hzin : Sp.inP L z = true := hsub z (by rw [hpost]; simp)
  have hprein : ∀ u ∈ pre, Sp.inP L u = true := fun u hu => hsub u (by rw [hpost]; simp [hu])
  have hplen : pre.length < 65536 := by have := congrArg List.length hpost; simp only [List.length_append, List.length_cons] at this; omega
  have hzn : z ∉ pre := by
   rw [hpost] at hnd
   have := (List.nodup_append.1 hnd).2.2
   exact fun h => this z h z (by simp) rfl
  have hbs := textFrom_len hW hN pre [] hprein (by simp only [List.length_nil]; omega)
  refine ⟨some p, hA.b2.cell0, ?_⟩
  refine (c_Node p z A hA.pool hW.ok).mono ?_
  rintro _ w10 ⟨k, r, t', u, x, a, b, r3, rfl, ⟨hn, _⟩, E10⟩
  refine ⟨_, _, _, _, _, _, _, _, rfl, E10.keptP, fun H1 w12 hs12 => ?_⟩
  obtain ⟨k1, k9, f0, f1, t0, t1, x1⟩ := Sp.node_fit hW hzin
  have hnum := hN.node z
  have hko := hord pre z post hpost
  have hnt : nodeText L pre z = UInt8.ofNat k.toNat :: (flds k).flatMap (Fld.bytes ⟨k, r, t', u, x, a, b⟩ (posOf pre a) (posOf pre b)) := by rw [nodeText, ← hn]
  rw [← hn] at k1 k9 f0 f1 t0 t1 x1 hnum hko
  simp only at k1 k9 f0 f1 t0 t1 x1 hnum
  have hold : ∀ b, H1 b → A.heap.size ≤ b := hs12.old
  have A12 := (hA.pure E10).ext hs12.ext (fun b hb hh => by have := hold b hh; have := hA.lt hb; omega)
  have E012 : Pure w0 w12 := (hE.trans E10).trans' hs12.ext (fun i hi hh => by have := hold i hh; have := hE.size; omega)
  have k12 : Kept Y A w12 := (E10.keptP).trans (hs12.ext.kept (fun b hb hh => by have := hold b hh; have := hsA.lt b hb; omega))
  have z10 := E10.size
  have z12 := hs12.ext.size
  refine ⟨s, A12.b3.cell0, fun p8 w13 h8 => ?_⟩
  have E13 : Pure w12 w13 := Ext.new h8
  have A13 := A12.pure E13
  have z13 := E13.size
  obtain ⟨kn, rfl⟩ : ∃ kn : Nat, k = kn := ⟨k.toNat, by omega⟩
  simp only [Int.toNat_natCast] at hnt
  rw [wrap_u8] at h8
  obtain ⟨s1, w14, hr, hR, hEx, hb⟩ := A13.rows.append (P := Try.prog) (ty := 44) (c := 1) slT_by (Box.of_newA h8).row rfl rfl (by rw [byr_len]; omega) (by rw [byr_len]; simp only [maxLen]; omega)
  have hs1 : ∀ b, s1.blk b → B ≤ b := fun b hh => (hb b hh).elim (hs b) (fun h => by omega)
  have hy1 : ∀ b, s1.blk b → ¬ Y b := fun b hh hY => (hb b hh).elim (fun h => hv b (.inr (.inr (.inr (.inr (.inr (.inr (.inr (.inr h)))))))) hY) (fun h => by have := hsA.lt b hY; omega)
  have h3A : p3.block < A.heap.size := hA.b3.lt
  have hH3 : ¬ H1 p3.block := fun h => by have := hold _ h; omega
  have hHs : ∀ b, H1 b → ¬ s.blk b := fun b hh hb => by have := hold b hh; have := hA.rows.lt hb; omega
  have hY3 : ¬ Y p3.block := hv _ (.inr (.inl rfl))
  have hYs : ∀ b, Y b → ¬ s.blk b := fun b hY hb => hv b (.inr (.inr (.inr (.inr (.inr (.inr (.inr (.inr hb)))))))) hY
  refine ⟨s1, w14, hr, hEx.kept hHs, ((A13.b3.ext hEx (fun hb => by have := hs _ hb; have := S.lt; omega)).canW0 (by simp)), hH3, ?_⟩
  rintro w15 h15
  have hR' : Rws w14 5 1 s1 (byr (textFrom L [] pre ++ [UInt8.ofNat kn])) := by rw [byr_app]; exact hR
  obtain ⟨A15, X15⟩ := A13.put S hs hs1 hEx hR'
  rw [← h15] at A15 X15
  have E015 : Pure w0 w15 := (E012.trans E13).trans' X15 (fun i hi hh => hh.elim (fun hh => by have := hs _ hh; omega) (fun hh => by omega))
  have k15 : Kept Y A w15 := (k12.trans E13.keptP).trans (X15.kept (fun b hY hh => hh.elim (hYs b hY) (fun e => by subst e; exact hY3 hY)))
  have z15 := X15.size
  obtain ⟨fs, hlk, hLf⟩ := A15.kinds.get kn k1 k9 false
  refine ⟨some m, A15.b4.cell0, fs, hlk, ?_⟩
  have hfl3 := flds_len kn
  refine ⟨fun y H w => ∃ (j : Nat) (s : Sl), y = j ∧ j ≤ (flds kn).length ∧ H = H1 ∧ LayAt w p p2 p3 p4 p6 m mb L FP F s (textFrom L [] pre ++ UInt8.ofNat kn :: ((flds kn).take j).flatMap (Fld.bytes ⟨kn, r, t', u, x, a, b⟩ (posOf pre a) (posOf pre b))) (numFrom 0 pre) ∧ Lst F w 2 fs ((flds kn).map Fld.row) ∧ (∀ b, s.blk b → B ≤ b) ∧ (∀ b, s.blk b → ¬ Y b) ∧ Kept Y A w ∧ Pure w0 w ∧ A.heap.size ≤ w.heap.size, fun y _ => (((flds kn).length : Int) - y).toNat, ⟨0, s1, rfl, Nat.zero_le _, rfl, by simpa using A15, hLf, hs1, hy1, k15, E015, by omega⟩, ?_⟩
  rintro _ _ wl hst ⟨j, s2, rfl, hj, rfl, A2, hL2, hs2, hy2, k2, E2, z2⟩
  unfold m_V_l1
  have hlen : fs.len = (flds kn).length := by rw [hL2.len, List.length_map]
  refine ⟨fun hc => ?_, fun hc => ?_⟩
  ·have hc := lt_of_dec hlen hc
   obtain ⟨a1, hat, hF1, hrow⟩ := hL2.at_ j (by simpa using hc)
   rw [List.getElem_map] at hrow
   refine ⟨a1, hat, .func (.func (flds kn)[j].put) #[] #[], .func (.func (flds kn)[j].get) #[] #[], hrow, fun p9 w16 h9 => ?_⟩
   have E16 : Pure wl w16 := Ext.new h9
   have B9 := Box.of_newA h9
   have s9 := h9.at_size
   have z16 := E16.size
   refine ⟨⟨rfl, B9.canWs (by simp)⟩, fun hh => by have := hst.lt _ hh; omega, ?_⟩
   rintro w17 h17
   have X17 : Ext (· = p9.block) w16 w17 := by rw [h17]; exact Ext.storeRow _ _ _
   have B9' : Box w17 p9 [.func (.func (flds kn)[j].put) #[] #[], .func (.func (flds kn)[j].get) #[] #[]] 195 := by rw [h17]; exact B9.store rfl
   have A17 := (A2.pure E16).ext X17 (fun b hb e => by have := A2.lt hb; omega)
   have L17 := (hL2.pure E16).ext X17 (fun b hb e => by have := A2.kinds.lt b hb; omega)
   have z17 := X17.size
   have E017 : Pure w0 w17 := (E2.trans E16).own (by have := E2.size; omega) X17
   have k17 : Kept Y A w17 := (k2.trans E16.keptP).trans (X17.kept (fun b hY e => by have := hsA.lt b hY; omega))
   refine ⟨_, B9'.cell0, s2, A17.b3.cell0, some mb, A17.b6.cell0, _, #[], #[], rfl, call_put _, ?_⟩
   simp only [Array.empty_append, Array.append_empty]
   have hbl := flat_lenN (Fld.bytes ⟨kn, r, t', u, x, a, b⟩ (posOf pre a) (posOf pre b)) 74 ((flds kn).take j) (fun f _ => fld_len _ _ _ f f1 t1 hnum x1 (by have := posOf_le pre a; omega) (by have := posOf_le pre b; omega))
   have hbl2 : ((flds kn).take j).length ≤ 3 := by rw [List.length_take]; omega
   have hbn : (textFrom L [] pre ++ UInt8.ofNat kn :: ((flds kn).take j).flatMap (Fld.bytes ⟨kn, r, t', u, x, a, b⟩ (posOf pre a) (posOf pre b))).length ≤ 10000000000 := by
    rw [List.length_append, List.length_cons]; omega
   refine (c_put (flds kn)[j] s2 _ ⟨kn, r, t', u, x, a, b⟩ (posOf pre a) (posOf pre b) mb (numFrom 0 pre) w17 A17.rows.lst (rws_hz A17.rows) hbn ⟨f0, by simp only; omega⟩ ⟨t0, by simp only; omega⟩ hnum (by simp only; omega) A17.nums (fun e => ?_) (fun e => ?_)).mono ?_
   ·have hmem : a ∈ pre := hko _ (flds_fst (n := ⟨kn, r, t', u, x, a, b⟩) (by rw [← e]; exact List.getElem_mem _))
    exact ⟨by rw [numFrom_look pre a hmem 0]; simp, by have := posOf_le pre a; omega⟩
   ·have hmem : b ∈ pre := hko _ (flds_snd (n := ⟨kn, r, t', u, x, a, b⟩) (by rw [← e]; exact List.getElem_mem _))
    exact ⟨by rw [numFrom_look pre b hmem 0]; simp, by have := posOf_le pre b; omega⟩
   rintro _ w18 ⟨r4, rfl, hR4⟩
   have E18 := hR4.pure
   have z18 := E18.size
   refine ⟨r4, rfl, hR4.kept, (A17.b3.pure E18).canW0 (by simp), hH3, ?_⟩
   rintro w19 h19
   have hs4 : ∀ b, r4.blk b → B ≤ b := fun b hb => by have := hR4.own b hb; omega
   have hR5 : Rws w18 5 1 r4 (byr (textFrom L [] pre ++ UInt8.ofNat kn :: ((flds kn).take (j + 1)).flatMap (Fld.bytes ⟨kn, r, t', u, x, a, b⟩ (posOf pre a) (posOf pre b)))) := by
    have e : textFrom L [] pre ++ UInt8.ofNat kn :: ((flds kn).take (j + 1)).flatMap (Fld.bytes ⟨kn, r, t', u, x, a, b⟩ (posOf pre a) (posOf pre b)) = (textFrom L [] pre ++ UInt8.ofNat kn :: ((flds kn).take j).flatMap (Fld.bytes ⟨kn, r, t', u, x, a, b⟩ (posOf pre a) (posOf pre b))) ++ (flds kn)[j].bytes ⟨kn, r, t', u, x, a, b⟩ (posOf pre a) (posOf pre b) := by
     rw [List.take_succ_eq_append_getElem hc, List.flatMap_append]; simp
    rw [e]; exact hR4.rows
   obtain ⟨A19, X19⟩ := A17.put S hs2 hs4 E18.pure hR5
   rw [← h19] at A19 X19
   have z19 := X19.size
   refine ⟨⟨j + 1, r4, wrap_succ hc (by omega), hc, trivial, A19, L17.ext X19 (fun b hb hh => ?_), hs4, fun b hb hY => by have := hR4.own b hb; have := hsA.lt b hY; omega, k17.trans (X19.kept (fun b hY hh => hh.elim (fun h => hy2 b h hY) (fun e => by subst e; exact hY3 hY))), E017.trans' X19 (fun i hi hh => hh.elim (fun hh => by have := hs2 _ hh; omega) (fun hh => by omega)), by omega⟩, ?_⟩
   ·rcases hh with hh | hh
    ·have := hs2 b hh; have := S.lF b hb; omega
    ·subst hh; exact S.d3.2.2.2.2.2.1 hb
   ·rw [wrap_succ hc (by omega)]; exact lt_dec hc
  ·have hc := eq_of_dec hlen hj hc
   subst hc
   rw [List.take_length] at A2
   have e : textFrom L [] (pre ++ [z]) = textFrom L [] pre ++ UInt8.ofNat kn :: (flds kn).flatMap (Fld.bytes ⟨kn, r, t', u, x, a, b⟩ (posOf pre a) (posOf pre b)) := by rw [textFrom_snoc, List.nil_append, hnt]
   have hlk0 : SE.look (numFrom 0 pre) z = none := look_none.2 (by rw [numFrom_keys]; exact hzn)
   obtain ⟨w20, hr20, hM20, X20⟩ := A2.nums.put (P := Try.prog) (T := 155) Try.underlying155 Try.underlying32 hlk0 ((pre.length : Nat) : Int)
   have hz3 : (Builtin.len_ #[155] 3 #[.map (some mb)]).run Try.prog wl = .ok (.int .i64 ((pre.length : Nat) : Int)) wl := by
    have := cmap_size A2.nums.map (P := Try.prog) (T := 155) (Q := 3) Try.underlying155
    rw [List.length_map, numFrom_len] at this
    exact this
   have hYb : ¬ Y mb := hv _ (.inr (.inr (.inr (.inr (.inr (.inl rfl))))))
   have kk : ∀ {H : NP}, ¬ H mb → Kept H wl w20 := fun h => X20.kept (fun b hb e => by subst e; exact h hb)
   have hmbA : mb < A.heap.size := hA.nums.lt
   refine ⟨some mb, A2.b6.cell0, some mb, A2.b6.cell0, _, hz3, w20, hr20, kk (fun h => by have := hold _ h; omega), k2.trans (kk hYb), s2, ?_, hs2, fun b hb hY => ?_, by have := X20.size; have := E2.size; omega, E2.trans' X20 (fun i hi e => by omega)⟩
   ·rw [e, numFrom_snoc, Nat.zero_add]
    obtain ⟨g1, g2, g3, g4, g5, g6⟩ := S.db
    exact ⟨A2.b2.ext X20 g1, A2.b3.ext X20 (fun e => S.d3.2.2.2.1 e.symm), A2.b4.ext X20 g2, A2.b6.ext X20 g3, A2.rows.ext X20 (fun b hb e => by have := hs2 b hb; have := S.lt; omega), hM20, A2.kinds.ext X20 (fun b hb e => hb.elim (fun hb => by subst e; exact g5 hb) (fun hb => g4 (hb ▸ e))), A2.pool.ext X20 (fun b hb e => by subst e; exact g6 hb)⟩
   ·rcases hb with hb | hb | hb | hb | hb | hb | hb | hb | hb
    ·exact hv b (.inl hb) hY
    ·exact hv b (.inr (.inl hb)) hY
    ·exact hv b (.inr (.inr (.inl hb))) hY
    ·exact hv b (.inr (.inr (.inr (.inl hb)))) hY
    ·exact hv b (.inr (.inr (.inr (.inr (.inl hb))))) hY
    ·exact hv b (.inr (.inr (.inr (.inr (.inr (.inl hb)))))) hY
    ·exact hv b (.inr (.inr (.inr (.inr (.inr (.inr (.inl hb))))))) hY
    ·exact hv b (.inr (.inr (.inr (.inr (.inr (.inr (.inr (.inl hb)))))))) hY
    ·exact hy2 b hb hY
 ·rintro H2 w21 hs21 _ _ ⟨s, hA, hs, hv, hz, hE⟩
  refine ⟨s, hA.b3.cell0, fun w22 hs22 => ⟨hA.rows.ext hs22.ext (fun b hb => hv b (.inr (.inr (.inr (.inr (.inr (.inr (.inr (.inr hb))))))))), fun b hb => by have := hs b hb; omega, hE.hst hs22⟩⟩
theorem c_Encode (p : Addr) (t : Int) (w0 : World) {L : Sp.Pool} {FP : NP} (hW : Sp.Wf L) (hN : Sp.Nums L) (hP : PoolAt w0 p L FP) :
  Calls Try.prog 21 #[.pointer (some p), .int .i64 t] w0 (fun e w' => ∃ r : Sl, ∃ n : Int, e = .returned (.tuple #[r.v, .int .i64 n]) ∧ (n = (encS L t).2 ∧ RetO w0 5 1 (byr (encS L t).1) r w')) := by
 refine w_D1 _ _ w0 (fun r n w' => n = (encS L t).2 ∧ RetO w0 5 1 (byr (encS L t).1) r w') ?_
 unfold m_D1
 have hnil : ∀ b, ¬ Sl.nil.blk b := fun b hb => by obtain ⟨a, h, _⟩ := hb; cases h
 refine (c_Node p t w0 hP hW.ok).mono ?_
 rintro _ w1 ⟨k, r, t', u, x, a, b, r3, rfl, ⟨hn, rfl⟩, E1⟩
 refine ⟨_, _, _, _, _, _, _, _, rfl, E1.keptP, fun hc H1 w3 hs3 => ?_, fun hc H1 w3 hs3 => ?_⟩
 ·have hin : Sp.inP L t = false := by simpa using hc
  have e : encS L t = ([], 51) := by unfold encS; rw [hin]; rfl
  rw [e]
  exact ⟨rfl, Rws.nil _ _ _, fun b hb => (hnil b hb).elim, E1.hst hs3⟩
 ·have hin : Sp.inP L t = true := by simpa using hc
  have E3 : Pure w0 w3 := E1.hst hs3
  refine (c_lay p t w3 hW hN (hP.pure E3)).mono ?_
  rintro _ w4 ⟨r2, rfl, h⟩
  have hl : r2.len = (textOf L t).length := by rw [h.rows.len, byr_len]
  refine ⟨r2, rfl, h.kept, fun hc => ?_, fun hc => ?_⟩
  ·have hc := of_decide_eq_true hc
   have e : encS L t = ([], 1) := by unfold encS; rw [hin, if_pos rfl, if_pos (by omega)]
   rw [e]
   exact ⟨rfl, Rws.nil _ _ _, fun b hb => (hnil b hb).elim, E3.trans h.pure⟩
  ·have hc := of_decide_eq_false hc
   have e : encS L t = (textOf L t, 0) := by unfold encS; rw [hin, if_pos rfl, if_neg (by omega)]
   rw [e]
   exact ⟨rfl, h.rows, fun b hb => by have := h.own b hb; have := E3.size; omega, E3.trans h.pure⟩
end Go.Proofs
end
section
open Go Go.SE
namespace Go.Sp
open Go.Proofs
def wn1 : Node := ⟨1, 0, 0, 0, ⟨#[]⟩, 0, 0⟩
def wn2 : Node := ⟨4, 0, 0, 0, ⟨#[]⟩, 1, 1⟩
def wL1 : Pool := [⟨wn1, 1, 1⟩]
def wL2 : Pool := [⟨wn1, 1, 1⟩, ⟨wn2, 3, 2⟩]
theorem wm1 : make [] wn1 = (1, 0, wL1) := by kernel_rfl
theorem wm2 : make wL1 wn2 = (2, 0, wL2) := by kernel_rfl
theorem ww1 : Wf wL1 := by have := make_wf Wf.nil wn1; rwa [wm1] at this
theorem ww2 : Wf wL2 := by have := make_wf ww1 wn2; rwa [wm2] at this
theorem wN2 : Nums wL2 := by intro e he; simp [wL2, wn1, wn2] at he; rcases he with rfl | rfl <;> exact ⟨by decide, by decide⟩
theorem wdec : decS wL2 [1, 0, 4, 0, 0] = (2, 0, 0, wL2) := by kernel_rfl
theorem wtw : (rdText [1, 0, 1, 0]).2 = (72, 2) := by kernel_rfl
theorem wtext : textOf wL2 2 = [1, 0, 4, 0, 0] := by
 have := enc_dec ww2 (bs := [1, 0, 4, 0, 0]) (by rw [wdec])
 rw [wdec] at this
 exact this.2.2.1
theorem wenc : encS wL2 2 = ([1, 0, 4, 0, 0], 0) := by
 unfold encS
 rw [if_pos (by kernel_rfl), wtext]; rfl
end Go.Sp
namespace Go.Proofs
attribute [local irreducible] Calls CallsD
theorem str_of {w : World} {s : Sl} {bs : List UInt8} {S : NP} (h : Lst S w 1 s (byr bs)) : (convert 44 9 s.v).run Try.prog w = .ok (.string ⟨bs.toArray⟩) w :=
 run_str Try.underlying44 Try.underlying5 Try.underlying9 h
theorem hst_pure {w0 w w' : World} {H H' : NP} (hs : Hst w0 None w H w') : Pure w w' := ⟨hs.ext.os, hs.ext.tape, hs.ext.output, hs.ext.size, fun b hb _ => hs.ext.keep b hb (fun h => (hs.new b h).elim (fun h => h) (fun h => by omega))⟩
theorem lst_cells {w : World} {p : Addr} {bs : List UInt8} {T : TypeId} (h : Box w p (bs.map fun b => Value.int .u8 (b.toNat : Int)) T) : Lst (· = p.block) w 1 ⟨some p, bs.length, bs.length⟩ (byr bs) :=
 ⟨by simp [byr], fun i hi => by
  have hi' : i < bs.length := by simpa [byr] using hi
  refine ⟨p.add (i * 1), ⟨by omega, by simpa using hi', p, rfl, by simp⟩, by rw [add_block], ?_⟩
  intro j hj
  have : j = 0 := by simp [byr] at hj; exact hj
  subst this
  have := h.row i (by simpa using hi')
  simp only [byr, List.getElem_map, Nat.mul_one, List.getElem?_map] at *
  rw [add_add, Nat.add_zero, this, List.getElem?_eq_getElem hi']
  rfl⟩
theorem c_live7 (w0 : World) : Calls Try.prog 25 #[] w0 (fun e w' => ∃ r : Bool, e = .returned (.bool r) ∧ (r = true ∧ Pure w0 w')) := by
 refine w_L w0 (fun r w' => r = true ∧ Pure w0 w') ?_
 unfold m_L
 refine (c_New w0).mono ?_
 rintro _ w1 ⟨_, rfl, p, rfl, E1, F0, hP, hF⟩
 refine ⟨_, rfl, E1.keptP, fun hc => (by cases hc), fun _ => ?_⟩
 refine (c_Name p w1 hP Sp.Ok.nil 0).mono ?_
 rintro _ w2 ⟨r2, r3, rfl, he, F1, hP1, E2, hF1⟩
 have hm : Sp.make [] ⟨1, 0, 0, 0, ⟨#[]⟩, 0, 0⟩ = (1, 0, Sp.wL1) := Sp.wm1
 rw [hm] at he hP1
 cases he
 refine ⟨_, _, rfl, E2.kept (fun b hb => hb.elim), ?_⟩
 refine (c_Pair p w2 hP1 Sp.ww1.ok 1 1).mono ?_
 rintro _ w3 ⟨r4, r5, rfl, he, F2, hP2, E3, hF2⟩
 have hm : Sp.make Sp.wL1 ⟨4, 0, 0, 0, ⟨#[]⟩, 1, 1⟩ = (2, 0, Sp.wL2) := Sp.wm2
 rw [hm] at he hP2
 cases he
 refine ⟨_, _, rfl, E3.kept (fun b hb => hb.elim), ?_⟩
 have z1 := E1.size; have z2 := E2.size; have z3 := E3.size
 have E03 : Pure w0 w3 := (E1.trans' E2 (fun i hi hb => by have := hF i hb; omega)).trans' E3 (fun i hi hb => (hF1 i hb).elim (fun h => by have := hF i h; omega) (fun h => by omega))
 have o2 : ∀ b, F2 b → w0.heap.size ≤ b := fun b hb => (hF2 b hb).elim (fun h => (hF1 b h).elim (fun h => by have := hF b h; omega) (fun h => by omega)) (fun h => by omega)
 refine (c_Encode p 2 w3 Sp.ww2 Sp.wN2 hP2).mono ?_
 rintro _ w4 ⟨r6, r7, rfl, rfl, hR⟩
 rw [Sp.wenc] at hR ⊢
 simp only at hR ⊢
 have E4 := hR.pure
 have z4 := E4.size
 refine ⟨_, _, rfl, E4.keptP, ?_⟩
 refine (c_Decode p r6 [1, 0, 4, 0, 0] w4 Sp.ww2 (hP2.pure E4) hR.rows.lst (rws_hz hR.rows)).mono ?_
 rintro _ w5 ⟨r8, r9, r10, rfl, h8, h9, _, F3, hP3, E5, hF3⟩
 rw [Sp.wdec] at h8 h9
 simp only at h8 h9
 subst h8 h9
 have z5 := E5.size
 refine ⟨_, _, _, rfl, E5.kept (fun b hb => hb.elim), ?_⟩
 have E05 : Pure w0 w5 := (E03.trans E4).trans' E5 (fun i hi hb => by have := o2 i hb; omega)
 intro p1 w6 n6
 have E6 : Pure w5 w6 := Ext.new n6
 have B6 : Box w6 p1 (([1, 0, 1, 0] : List UInt8).map fun b => Value.int .u8 (b.toNat : Int)) 5 := Box.of_newA n6
 refine (c_Check ⟨some p1, 4, 4⟩ [1, 0, 1, 0] w6 (lst_cells B6) (fun h => by cases h)).mono ?_
 rintro _ w7 ⟨r11, r12, rfl, rfl, rfl, E7⟩
 rw [Sp.wtw]
 refine ⟨_, _, rfl, E7.keptP, fun _ => ?_, fun hc => (by cases hc)⟩
 intro H1 w10 hs10
 have E10 : Pure w7 w10 := hst_pure (H' := None) hs10
 have hR10 : Rws w10 5 1 r6 (byr [1, 0, 4, 0, 0]) := (((hR.rows.ext E5 (fun b hb h => by have := hR.own b hb; have := hP2.lt h; omega)).pure E6).pure E7).pure E10
 refine ⟨_, str_of hR10.lst, ?_⟩
 unfold m_L_j1
 rintro y1 rfl H6 w20 hs20
 refine ⟨by kernel_rfl, (((E05.trans E6).trans E7).trans E10).hst hs20⟩
theorem c_law07_large {S : NP} (ts : List Sp.Tree) (s : Sl) (w0 : World) (hT : TreeAt S w0 s (.mk 0 0 0 0 ⟨#[]⟩ ts)) (hS : ∀ b, S b → b < w0.heap.size) :
  Calls Try.prog 26 #[s.v] w0 (fun e w' => ∃ r : Bool, e = .returned (.bool r) ∧ ((r = false → ts.length ≤ 50 ∧ Sp.cntAll ts ≤ 6000) ∧ Pure w0 w')) := by
 refine w_L1 _ w0 (fun r w' => (r = false → ts.length ≤ 50 ∧ Sp.cntAll ts ≤ 6000) ∧ Pure w0 w') ?_
 unfold m_L1
 have hlen : s.len = ts.length := by cases hT with
  | mk _ _ _ _ _ _ _ rs len fit row kid => exact len
 refine ⟨fun _ => ⟨fun h => (by cases h), Ext.refl _⟩, fun hc => ?_⟩
 have hc := of_decide_eq_false hc
 refine (c_ref05_Parts (.mk 0 0 0 0 ⟨#[]⟩ ts) s 6000 w0 (by omega) (by omega) hT hS).mono ?_
 rintro _ w1 ⟨r, rfl, rfl, E1⟩
 obtain ⟨p1, p2, p3⟩ := Sp.parts_facts (.mk 0 0 0 0 ⟨#[]⟩ ts) 6000 (by omega)
 refine ⟨_, rfl, fun h => ⟨by omega, ?_⟩, E1⟩
 have h := of_decide_eq_false h
 have := p3 (by omega)
 simp only [Sp.cnt] at this
 omega
end Go.Proofs
end
section
open Go Go.SE
namespace Go.Proofs
attribute [local irreducible] Calls
section
variable {w w' : World} {e : TypeId} {s : Sl} {n : Nat} {V : Int → Bool}
end
end Go.Proofs
end
section
open Go Go.SE
namespace Go.Proofs
attribute [local irreducible] Calls CallsD
structure TxSep (w0 : World) (q : Addr) (FR : NP) (s1 r1 : Sl) (B : Nat) : Prop where
 lR : ∀ x, FR x → x < B
 lr : ∀ x, r1.blk x → x < B
 ls : ∀ x, s1.blk x → x < B ∧ w0.heap.size ≤ x ∧ ¬ FR x ∧ ¬ r1.blk x
 base : w0.heap.size ≤ B
structure TxAt (w0 w : World) (H : NP) (q : Addr) (L : Sp.Pool) (FR : NP) (s1 r1 : Sl) (A xs : List Int) (B : Nat) (b : Sl) (bs : List UInt8) : Prop where
 pool : PoolR w q L FR
 at_ : Rws w 3 1 s1 (tmr A)
 subs : Rws w 32 1 r1 (tmr xs)
 rows : Rws w 5 1 b (byr bs)
 pure : Pure w0 w
 hB : ∀ x, H x → B ≤ x ∧ x < w.heap.size
 own : ∀ x, b.blk x → B ≤ x ∧ ¬ H x
 lt : B ≤ w.heap.size
section
variable {w0 w w' : World} {H H' : NP} {q : Addr} {L : Sp.Pool} {FR : NP} {s1 r1 : Sl} {A xs : List Int} {B : Nat} {b b' : Sl} {bs bs' : List UInt8}
theorem TxAt.hst (h : TxAt w0 w H q L FR s1 r1 A xs B b bs) (S : TxSep w0 q FR s1 r1 B) (hs : Hst w0 H w H' w') : TxAt w0 w' H' q L FR s1 r1 A xs B b bs := by
 have hB' : ∀ x, H' x → B ≤ x := fun x hx => (hs.new x hx).elim (fun h1 => (h.hB x h1).1) (fun h1 => by have := h.lt; omega)
 have hv : ∀ x, b.blk x → ¬ H' x := hs.disj (fun x hx => ⟨h.rows.lt hx, (h.own x hx).2⟩)
 exact ⟨h.pool.ext hs.ext (fun x hx hh => by have := S.lR x hx; have := hB' x hh; omega), h.at_.ext hs.ext (fun x hx hh => by have := S.ls x hx; have := hB' x hh; omega), h.subs.ext hs.ext (fun x hx hh => by have := S.lr x hx; have := hB' x hh; omega), h.rows.ext hs.ext hv, h.pure.hst hs, fun x hx => ⟨hB' x hx, hs.lt x hx⟩, fun x hx => ⟨(h.own x hx).1, hv x hx⟩, Nat.le_trans h.lt hs.ext.size⟩
theorem TxAt.call (h : TxAt w0 w H q L FR s1 r1 A xs B b bs) (hr : RetO w 5 1 (byr bs') b' w') : TxAt w0 w' H q L FR s1 r1 A xs B b' bs' :=
 ⟨h.pool.pure hr.pure, h.at_.pure hr.pure, h.subs.pure hr.pure, hr.rows, h.pure.trans hr.pure, fun x hx => ⟨(h.hB x hx).1, Nat.lt_of_lt_of_le (h.hB x hx).2 hr.pure.size⟩, fun x hx => ⟨Nat.le_trans h.lt (hr.own x hx), fun hh => by have := hr.own x hx; have := (h.hB x hh).2; omega⟩, Nat.le_trans h.lt hr.pure.size⟩
end
section
variable (w0 : World) (q : Addr) {L : Sp.Pool} (hW : Sp.Wf L) (hN : Sp.Nums L) {FR : NP} {s1 r1 : Sl} {A xs : List Int} {B : Nat} (S : TxSep w0 q FR s1 r1 B) (i1 : Int) (n : Sp.Node) (na nb : Nat)
include S
end
end Go.Proofs
end
section
namespace Go.Sp
end Go.Sp
end
section
open Go Go.SE
namespace Go.Sp
end Go.Sp
namespace Go.Proofs
attribute [local irreducible] Calls
structure Pl2 (w0 : World) (H : NP) (w : World) (p q : Addr) (L1 L2 : Sp.Pool) (F1 F2 : NP) : Prop where
 pure : Pure w0 w
 pool : PoolAt w p L1 F1
 ref : PoolR w q L2 F2
 o1 : ∀ b, F1 b → w0.heap.size ≤ b ∧ ¬ H b ∧ ¬ F2 b
 o2 : ∀ b, F2 b → w0.heap.size ≤ b ∧ ¬ H b
section
variable {w0 w w' : World} {H H' : NP} {p q : Addr} {L1 L2 : Sp.Pool} {F1 F2 : NP}
theorem Pl2.pureE (h : Pl2 w0 H w p q L1 L2 F1 F2) (E : Pure w w') : Pl2 w0 H w' p q L1 L2 F1 F2 := ⟨h.pure.trans E, h.pool.pure E, h.ref.pure E, h.o1, h.o2⟩
theorem Pl2.first (h : Pl2 w H w' p q L1 L2 F1 F2) (E : Pure w0 w) : Pl2 w0 H w' p q L1 L2 F1 F2 :=
 ⟨E.trans h.pure, h.pool, h.ref, fun b hb => ⟨Nat.le_trans E.size (h.o1 b hb).1, (h.o1 b hb).2⟩, fun b hb => ⟨Nat.le_trans E.size (h.o2 b hb).1, (h.o2 b hb).2⟩⟩
theorem Pl2.hst (h : Pl2 w0 H w p q L1 L2 F1 F2) (hs : Hst w0 H w H' w') : Pl2 w0 H' w' p q L1 L2 F1 F2 := by
 have d : ∀ b, b < w.heap.size → ¬ H b → ¬ H' b := fun b h1 h2 => hs.disj (G := (· = b)) (fun c e => by subst e; exact ⟨h1, h2⟩) b rfl
 have d1 : ∀ b, F1 b → ¬ H' b := fun b hb => d b (h.pool.lt hb) (h.o1 b hb).2.1
 have d2 : ∀ b, F2 b → ¬ H' b := fun b hb => d b (h.ref.lt hb) (h.o2 b hb).2
 exact ⟨h.pure.hst hs, h.pool.ext hs.ext d1, h.ref.ext hs.ext d2, fun b hb => ⟨(h.o1 b hb).1, d1 b hb, (h.o1 b hb).2.2⟩, fun b hb => ⟨(h.o2 b hb).1, d2 b hb⟩⟩
end
end Go.Proofs
end
section
open Go Go.SE
namespace Go.Sp
open Go.Proofs
end Go.Sp
namespace Go.Proofs
attribute [local irreducible] Calls CallsD
end Go.Proofs
end
section
open Go Go.SE
namespace Go.Proofs
attribute [local irreducible] Calls CallsD
structure ApAt (w0 : World) (H : NP) (w : World) (p p4 : Addr) (L : Sp.Pool) (F : NP) (r4 : Int) : Prop where
 pool : PoolAt w p L F
 b4 : Box w p4 [.int .i64 r4] 32
 oF : ∀ b, F b → w0.heap.size ≤ b ∧ ¬ H b ∧ b ≠ p4.block
 o4 : w0.heap.size ≤ p4.block ∧ ¬ H p4.block
 pure : Pure w0 w
section
variable {w0 w w' : World} {H H' : NP} {p p4 : Addr} {L : Sp.Pool} {F : NP} {r4 : Int}
theorem ApAt.pureE (h : ApAt w0 H w p p4 L F r4) (E : Pure w w') : ApAt w0 H w' p p4 L F r4 := ⟨h.pool.pure E, h.b4.pure E, h.oF, h.o4, h.pure.trans E⟩
theorem ApAt.hst (h : ApAt w0 H w p p4 L F r4) (hs : Hst w0 H w H' w') : ApAt w0 H' w' p p4 L F r4 := by
 have d : ∀ b, b < w.heap.size → ¬ H b → ¬ H' b := fun b h1 h2 => hs.disj (G := (· = b)) (fun c e => by subst e; exact ⟨h1, h2⟩) b rfl
 have d1 : ∀ b, F b → ¬ H' b := fun b hb => d b (h.pool.lt hb) (h.oF b hb).2.1
 have d2 := d _ h.b4.lt h.o4.2
 exact ⟨h.pool.ext hs.ext d1, h.b4.ext hs.ext d2, fun b hb => ⟨(h.oF b hb).1, d1 b hb, (h.oF b hb).2.2⟩, ⟨h.o4.1, d2⟩, h.pure.hst hs⟩
end
theorem encS_ok {L : Sp.Pool} {t : Int} (h : (encS L t).2 = 0) : Sp.inP L t = true ∧ (textOf L t).length ≤ 4096 ∧ encS L t = (textOf L t, 0) := by
 unfold encS at *
 split at h
 ·rename_i h1
  rw [if_pos h1]
  split at h
  ·cases h
  ·rename_i h2; rw [if_neg h2]; exact ⟨h1, by omega, rfl⟩
 ·cases h
end Go.Proofs
end
section
open Go Go.SE
namespace Go.Proofs
attribute [local irreducible] Calls CallsD
theorem encS_of {L : Sp.Pool} {t : Int} (h : Sp.inP L t = true) (hl : (textOf L t).length ≤ 4096) : encS L t = (textOf L t, 0) := by
 unfold encS; rw [if_pos h, if_neg (by omega)]
structure BkAt (w0 : World) (H : NP) (w : World) (p : Addr) (L : Sp.Pool) (F : NP) : Prop where
 pool : PoolAt w p L F
 oF : ∀ b, F b → w0.heap.size ≤ b ∧ ¬ H b
 lt : ∀ b, H b → w0.heap.size ≤ b ∧ b < w.heap.size
 pure : Pure w0 w
section
variable {w0 w w' : World} {H H' : NP} {p : Addr} {L : Sp.Pool} {F : NP}
theorem BkAt.pureE (h : BkAt w0 H w p L F) (E : Pure w w') : BkAt w0 H w' p L F := ⟨h.pool.pure E, h.oF, fun b hb => ⟨(h.lt b hb).1, Nat.lt_of_lt_of_le (h.lt b hb).2 E.size⟩, h.pure.trans E⟩
theorem BkAt.hst (h : BkAt w0 H w p L F) (hs : Hst w0 H w H' w') : BkAt w0 H' w' p L F := by
 have d1 : ∀ b, F b → ¬ H' b := hs.disj (fun b hb => ⟨h.pool.lt hb, (h.oF b hb).2⟩)
 exact ⟨h.pool.ext hs.ext d1, fun b hb => ⟨(h.oF b hb).1, d1 b hb⟩, fun b hb => ⟨hs.old b hb, hs.lt b hb⟩, h.pure.hst hs⟩
theorem BkAt.step (h : BkAt w0 H w p L F) {L' : Sp.Pool} {F' : NP} (hP : PoolAt w' p L' F') (E : Ext F w w') (hF : ∀ b, F' b → F b ∨ w.heap.size ≤ b) : BkAt w0 H w' p L' F' :=
 ⟨hP, fun b hb => (hF b hb).elim (h.oF b) (fun hh => ⟨by have := h.pure.size; omega, fun h2 => by have := (h.lt b h2).2; omega⟩), fun b hb => ⟨(h.lt b hb).1, Nat.lt_of_lt_of_le (h.lt b hb).2 E.size⟩, h.pure.trans' E (fun i hi hb => by have := (h.oF i hb).1; omega)⟩
theorem BkAt.kept (h : BkAt w0 H w p L F) (E : Ext F w w') : Kept H w w' := E.kept (fun b hb hh => (h.oF b hh).2 hb)
end
theorem c_back2 {w0 w : World} {H : NP} {p : Addr} {L : Sp.Pool} {F SB : NP} (hW : Sp.Wf L) (hN : Sp.Nums L) (h : BkAt w0 H w p L F) (sb : Sl) (bs : List UInt8) (hb : Lst SB w0 1 sb (byr bs)) (hl : bs.length ≤ 8192) :
  m_H_j2 sb (some p) w0 H w (fun r w' => r = true ∧ Pure w0 w') := by
 unfold m_H_j2
 intro p2 w12 n2
 have E12 : Pure w w12 := Ext.new n2
 have h12 := h.pureE E12
 have R0 : Rws w12 5 1 ⟨some p2, 0, 0⟩ [] := Rws.empty n2
 have bp2 := n2.at_size
 have zw := h.pure.size
 have z12 := E12.size
 obtain ⟨s1, w13, hr, hR, X13, hs1⟩ := R0.appendL (P := Try.prog) (ty := 44) slT_by (hb.pure h12.pure) (byr_sz bs) (byr_one bs) (by rw [byr_len]; simp; omega) (by rw [byr_len]; simp only [maxLen, List.length_nil]; omega)
 rw [List.nil_append] at hR
 have o2 : ∀ b, (Sl.mk (some p2) 0 0).blk b → b = p2.block := fun b hb => by obtain ⟨a, ha, rfl⟩ := hb; cases ha; rfl
 have os1 : ∀ b, s1.blk b → w.heap.size ≤ b := fun b hb => (hs1 b hb).elim (fun h => by have := o2 b h; omega) (fun h => by omega)
 have E13 : Pure w w13 := E12.trans' X13 (fun i hi hb => by have := o2 i hb; omega)
 have h13 := h.pureE E13
 refine ⟨s1, w13, hr, X13.kept (fun b hb hh => by have := o2 b hh; have := (h.lt b hb).2; omega), ?_⟩
 refine (c_Decode p s1 bs w13 hW h13.pool hR.lst (rws_hz hR)).mono ?_
 rintro _ w14 ⟨r7, r8, r9, rfl, h7, h8, _, F', hP, X14, hF'⟩
 have h14 := h13.step hP X14 hF'
 refine ⟨_, _, _, rfl, h13.kept X14, fun hc => ?_, fun hc => ?_⟩
 ·have hc : (decS L bs).2.1 = 0 := by rw [← h8]; exact beq_iff_eq.1 hc
  obtain ⟨d1, d2, d3, d4⟩ := Sp.enc_dec hW hc
  have dN := Sp.decS_nums hN bs
  intro w15 hs15
  have h15 := h14.hst hs15
  refine (c_Encode p r7 w15 d1 dN h15.pool).mono ?_
  rintro _ w16 ⟨r10, r11, rfl, e11, hR10⟩
  rw [h7, encS_of d2 (by rw [d3]; exact d4), d3] at e11 hR10
  simp only at e11 hR10
  have h16 := h15.pureE hR10.pure
  refine ⟨_, _, rfl, hR10.pure.keptP, fun hc => ?_, fun _ => ?_⟩
  ·rw [e11] at hc; cases hc
  ·intro w17 hs17
   have h17 := h16.hst hs17
   have v10 : ∀ b, r10.blk b → ¬ H b := fun b hb hh => by have := hR10.own b hb; have := (h15.lt b hh).2; omega
   have g10 := hR10.rows.ext hs17.ext v10
   refine ⟨_, str_of g10.lst, _, str_of (hb.pure h17.pure), fun hc => ?_, fun _ => ?_⟩
   ·simp at hc
   ·refine (c_live7 w17).mono ?_
    rintro _ w18 ⟨_, rfl, rfl, E18⟩
    exact ⟨_, rfl, E18.keptP, rfl, h17.pure.trans E18⟩
 ·intro w15 hs15
  have h15 := h14.hst hs15
  refine (c_live7 w15).mono ?_
  rintro _ w18 ⟨_, rfl, rfl, E18⟩
  exact ⟨_, rfl, E18.keptP, rfl, h15.pure.trans E18⟩
theorem c_law07_WireBack {SX SB : NP} (x : Sp.Tree) (sx sb : Sl) (bs : List UInt8) (w0 : World) (hX : TreeAt SX w0 sx x) (hSX : ∀ b, SX b → b < w0.heap.size) (hNx : Sp.NumT x) (hb : Lst SB w0 1 sb (byr bs)) :
  Calls Try.prog 7 #[.agg (trow x sx).toArray, sb.v] w0 (fun e w' => ∃ r : Bool, e = .returned (.bool r) ∧ (r = true ∧ Pure w0 w')) := by
 obtain ⟨xk, xf, xt, xu, xx, xks⟩ := x
 refine w_H _ _ _ _ _ _ _ w0 (fun r w' => r = true ∧ Pure w0 w') ?_
 unfold m_H
 intro H1 w1 hs1
 have E1 : Pure w0 w1 := hs1.first
 intro p3 w28 n3
 have E28 : Pure w0 w28 := E1.trans (Ext.new n3)
 have B3 : Box w28 p3 (trow (.mk xk xf xt xu xx xks) sx) 52 := Box.of_newA n3
 have z1 := E1.size; have z28 := E28.size
 have lp3 := B3.lt
 have hT3 : TreeAt (fun b => b < w28.heap.size) w28 ⟨some p3, 1, 1⟩ (.mk 0 0 0 0 ⟨#[]⟩ [.mk xk xf xt xu xx xks]) :=
  TreeAt.one B3 lp3 ((hX.pure E28).mono (fun b hb => by have := hSX b hb; omega))
 refine (c_law07_large _ _ w28 hT3 (fun _ h => h)).mono ?_
 rintro _ w29 ⟨r24, rfl, hr, E29⟩
 refine ⟨_, rfl, E29.keptP, ?_⟩
 intro H3 w30 hs30
 have E30 : Pure w0 w30 := (E28.trans E29).hst hs30
 have hlen : sb.len = bs.length := by rw [hb.len, byr_len]
 unfold m_H_j1
 refine ⟨fun hc => ?_, fun hc => ?_⟩
 ·refine (c_live7 w30).mono ?_
  rintro _ w2 ⟨_, rfl, rfl, E2⟩
  exact ⟨_, rfl, E2.keptP, rfl, E30.trans E2⟩
 rw [Bool.or_eq_false_iff] at hc
 obtain ⟨_, hcn⟩ := hr hc.1
 have hbl : bs.length ≤ 8192 := by have := of_decide_eq_false hc.2; omega
 simp only [Sp.cntAll] at hcn
 have z30 := E30.size
 have hH3 : ∀ b, H3 b → w0.heap.size ≤ b ∧ b < w30.heap.size := fun b hb => ⟨hs30.old b hb, hs30.lt b hb⟩
 refine (c_New w30).mono ?_
 rintro _ w3 ⟨_, rfl, p, rfl, E3, F0, hP0, hF0⟩
 have z3 := E3.size
 refine ⟨_, rfl, E3.keptP, fun hc => (by cases hc), fun _ => ?_⟩
 have K3 : BkAt w0 H3 w3 p [] F0 := ⟨hP0, fun b hb => ⟨by have := hF0 b hb; omega, fun hh => by have := hF0 b hb; have := (hH3 b hh).2; omega⟩, fun b hb => ⟨(hH3 b hb).1, by have := (hH3 b hb).2; omega⟩, E30.trans E3⟩
 refine (c_ref05_Lent (.mk xk xf xt xu xx xks) sx w3 (by omega) (hX.pure K3.pure) (fun b hb => by have := hSX b hb; omega)).mono ?_
 rintro _ w4 ⟨sL, rfl, hTL, E4⟩
 have K4 := K3.pureE E4
 refine ⟨_, _, _, _, _, _, rfl, E4.keptP, ?_⟩
 refine (c_Of (S := fun b => w3.heap.size ≤ b ∧ b < w4.heap.size) p (.mk xk xf xt xu xx xks) sL w4 hTL.lt K4.pool Sp.Ok.nil (fun b hb hh => by have := hP0.lt hb; omega) (fun b hb => hb.2)).mono ?_
 rintro _ w5 ⟨r3, r4, rfl, h34, F1, hP1, X5, hF1⟩
 have K5 := K4.step hP1 X5 hF1
 have k5 := K4.kept X5
 have wW : Sp.Wf (Sp.of [] (.mk xk xf xt xu xx xks)).2.2 := Sp.of_wf Sp.Wf.nil _
 have wN : Sp.Nums (Sp.of [] (.mk xk xf xt xu xx xks)).2.2 := Sp.Nums.nil.of hNx
 have hxok := fun h => @Sp.of_tree [] Sp.Wf.nil (.mk xk xf xt xu xx xks) h
 generalize Sp.of [] (.mk xk xf xt xu xx xks) = L1 at *
 obtain ⟨e3, e4⟩ := Prod.mk.inj h34
 refine ⟨_, _, rfl, k5, ?_⟩
 refine (c_Encode p r3 w5 wW wN K5.pool).mono ?_
 rintro _ w6 ⟨r5, r6, rfl, e6, hR5⟩
 have K6 := K5.pureE hR5.pure
 refine ⟨_, _, rfl, hR5.pure.keptP, fun hc => ?_, fun hc => ?_⟩
 ·have hc : r4 = 0 ∧ r6 = 0 := by simpa using hc
  obtain ⟨i1, t1, _⟩ := hxok (by rw [← e4]; exact hc.1)
  rw [← e3] at i1 t1
  obtain ⟨_, l1, ee⟩ := encS_ok (e6.symm.trans hc.2)
  rw [ee] at hR5
  simp only at hR5
  obtain ⟨g1, g2, g3⟩ := Sp.dec_enc wW wN i1 l1
  have gW := Sp.decS_wf Sp.Wf.nil (textOf L1.2.2 r3)
  intro H2 w9 hs9
  have K9 := K6.hst hs9
  have v5 : ∀ b, r5.blk b → ¬ H2 b := hs9.disj (fun b hb => ⟨hR5.rows.lt hb, fun hh => by have := hR5.own b hb; have := (K5.lt b hh).2; omega⟩)
  have R9 := hR5.rows.ext hs9.ext v5
  have o5 : ∀ b, r5.blk b → w5.heap.size ≤ b := hR5.own
  have z9 := hs9.ext.size
  have z6 := hR5.pure.size
  refine (c_New w9).mono ?_
  rintro _ w20 ⟨_, rfl, q, rfl, E20, FQ, hPQ, hFQ⟩
  have K20 := K9.pureE E20
  have R20 := R9.pure E20
  refine ⟨_, rfl, E20.keptP, ?_⟩
  refine (c_Decode q r5 (textOf L1.2.2 r3) w20 Sp.Wf.nil hPQ R20.lst (rws_hz R20)).mono ?_
  rintro _ w21 ⟨r15, r16, r17, rfl, h15, h16, _, FQ', hPQ', X21, hFQ'⟩
  have dQ : ∀ b, FQ b → ¬ F1 b ∧ ¬ H2 b ∧ ¬ r5.blk b := fun b hb => ⟨fun hh => by have := hF0; have := hFQ b hb; have := K9.pool.lt hh; omega, fun hh => by have := hFQ b hb; have := (K9.lt b hh).2; omega, fun hh => by have := hFQ b hb; have := R9.lt hh; omega⟩
  have K21 : BkAt w0 H2 w21 p L1.2.2 F1 := ⟨K20.pool.ext X21 (fun b hb hh => (dQ b hh).1 hb), K20.oF, fun b hb => ⟨(K20.lt b hb).1, by have := (K20.lt b hb).2; have := X21.size; omega⟩, K20.pure.trans' X21 (fun i hi hh => by have := hFQ i hh; have := K9.pure.size; omega)⟩
  have R21 := R20.ext X21 (fun b hb hh => (dQ b hh).2.2 hb)
  refine ⟨_, _, _, rfl, X21.kept (fun b hb hh => (dQ b hh).2.1 hb), ?_⟩
  refine (c_Decode p r5 (textOf L1.2.2 r3) w21 wW K21.pool R21.lst (rws_hz R21)).mono ?_
  rintro _ w22 ⟨r18, r19, r20, rfl, h18, h19, _, F2, hP2, X22, hF2⟩
  rw [g1] at h18 h19 hP2
  simp only at h18 h19 hP2
  have K22 := K21.step hP2 X22 hF2
  have dF : ∀ b, F1 b → ¬ FQ' b := fun b hb hh => (hFQ' b hh).elim (fun h => (dQ b h).1 hb) (fun h => by have := K20.pool.lt hb; omega)
  have hPQ22 := hPQ'.ext X22 (fun b hb hh => dF b hh hb)
  refine ⟨_, _, _, rfl, K21.kept X22, fun _ => True, trivial, ?_⟩
  rintro w23 e23
  have E23 : Pure w22 w23 := by rw [e23]; exact Ext.drew w22
  refine (p_I _ w23).mono ?_
  rintro _ w24 ⟨rfl, E24⟩
  refine ⟨_, rfl, trivial, E24.keptP, fun hc => absurd (h16.trans g2) (bne_iff_ne.1 hc), fun _ => ?_⟩
  refine (p_I _ w24).mono ?_
  rintro _ w25 ⟨rfl, E25⟩
  refine ⟨_, rfl, trivial, E25.keptP, fun hc => absurd h19 (bne_iff_ne.1 hc), fun _ => ⟨fun hc => absurd h18 (bne_iff_ne.1 hc), fun _ => ?_⟩⟩
  have EE := (E23.trans E24).trans E25
  have K25 := K22.pureE EE
  refine (c_Tree q gW _ r15 w25 FQ' rfl (hPQ22.pure EE)).mono ?_
  rintro _ w26 ⟨s26, rfl, hT26, E26⟩
  have K26 := K25.pureE E26
  rw [h15, g3, t1] at hT26 ⊢
  refine ⟨_, _, _, _, _, _, rfl, trivial, E26.keptP, ?_⟩
  refine (c_ref05_Same (S := fun b => b < w26.heap.size) (.mk xk xf xt xu xx xks) (.mk xk xf xt xu xx xks) s26 sx w26 (hT26.lt.mono (fun b hb => hb.2)) ((hX.pure K26.pure).mono (fun b hb => by have := hSX b hb; have := K26.pure.size; omega)) (fun _ h => h)).mono ?_
  rintro _ w27 ⟨r23, rfl, h23, E27⟩
  have h23 : r23 = true := by rw [h23]; exact (Sp.same_iff _ _).2 rfl
  refine ⟨_, rfl, trivial, E27.keptP, fun hc => ?_, fun _ => c_back2 wW wN (K26.pureE E27) sb bs hb hbl⟩
  rw [h23] at hc; cases hc
 ·intro H2 w9 hs9
  exact c_back2 wW wN (K6.hst hs9) sb bs hb hbl
end Go.Proofs
end
section
namespace Go.SE
open Go.ChangeShapes Go.WideShapes Go.ChangeAt Go.RowKit
section
variable {H : Type} {enc : TypeId × Value → H} {P : Program}
theorem below_trodAll (hl : laidOutB P = true) {W W' : World} (hb : Below W.heap.size W W') : ∀ (ts : List TypeId) (vs : List Value) (ds : List (DataW H)) (ps : List MemPlace), (ts.all fun t => P.readableRec t && decide (t < P.types.size)) = true →
  DataW.TrodAll enc P W 0 (fun _ => true) true ts vs ds ps → (∀ x ∈ ps, x.block < W.heap.size) → DataW.TrodAll enc P W' 0 (fun b => decide (b < W.heap.size)) true ts vs ds ps
 | [], _, _, _, _, h, _ => by
  obtain ⟨rfl, rfl, rfl⟩ := trodAll_nil h
  exact h
 | t :: ts, _, _, _, hr, h, hlt => by
  obtain ⟨v, vs1, d, ds1, a, b, rfl, rfl, rfl, h1, h2⟩ := trodAll_cons h
  simp only [List.all_cons, Bool.and_eq_true, decide_eq_true_eq] at hr
  exact ⟨a, b, Below.trod hl hr.1.1 hr.1.2 h1 hb (fun x hx => hlt x (by simp [hx])), below_trodAll hl hb ts vs1 ds1 b (by simpa using hr.2) h2 (fun x hx => hlt x (by simp [hx])), rfl⟩
theorem law_post {f : Func} {s : ChangeSpec} {W W' : World} {args : Array Value} {ds gs : List (DataW H)} {before : List MemPlace} {t : TypeId} (hl : laidOutB P = true)
  (hv : s.vars = []) (hf : ∀ ds : List (DataW H), ds.length = f.params.size → s.fn H ds = { results := [.lit (.bool true)], args := ds }) (hrt : f.resultTypes = #[t]) (ht : P.underlying t = some .bool)
  (hr : (f.params.toList.all fun t => P.readableRec t && decide (t < P.types.size)) = true)
  (hW : DataW.Whole enc P f.params.toList s.vars false W args.toList ds gs before) (E : Pure W W') :
  s.post enc P f false true false false W args (.bool true) W' := by
 have hW' := hW
 obtain ⟨p, q, hA, hV, rfl, hfz, hnd⟩ := hW
 rw [hv] at hV
 obtain ⟨rfl, rfl⟩ := trodVars_none hV
 have hlen : ds.length = f.params.size := by
  have : ∀ (ts : List TypeId) (vs : List Value) (ds : List (DataW H)) (ps : List MemPlace), DataW.TrodAll enc P W 0 (fun _ => true) true ts vs ds ps → ds.length = ts.length := by
   intro ts
   induction ts with
   | nil => intro vs ds ps h; obtain ⟨_, rfl, _⟩ := trodAll_nil h; rfl
   | cons t ts ih =>
    intro vs ds ps h
    obtain ⟨v, vs1, d, ds1, a, b, _, rfl, _, _, h2⟩ := trodAll_cons h
    simp [ih _ _ _ h2]
  simpa using this _ _ _ _ hA
 have hfn := hf ds hlen
 have hfn' : s.fn H (ds ++ []) = { results := [.lit (.bool true)], args := ds } := by rw [List.append_nil]; exact hfn
 have hlt : ∀ x ∈ p, x.block < W.heap.size := fun x hx => by simpa using hW'.lt x (by simp [hx])
 have bel := E.below
 refine ⟨ds, [], p ++ [], [], p, [], hW', ?_, ?_, ?_, bel.frame _, fun h => by cases h⟩
 ·rw [hfn', hrt]; exact trodAll_mk1 (shut_bool ht _)
 ·rw [hfn']; exact below_trodAll hl bel _ _ _ _ hr hA hlt
 ·rw [hfn', hv]; exact hV
theorem law_lifted {C : Checked} {os : Os} {f : FuncId} {fn : Func} {s : ChangeSpec} {t : TypeId} (hl : laidOutB C.prog = true)
  (hv : s.vars = []) (hf : ∀ ds : List (DataW H), ds.length = fn.params.size → s.fn H ds = { results := [.lit (.bool true)], args := ds }) (hrt : fn.resultTypes = #[t]) (ht : C.prog.underlying t = some .bool)
  (hr : (fn.params.toList.all fun t => C.prog.readableRec t && decide (t < C.prog.types.size)) = true)
  (own : ownKnob C.prog.godebug = none) (started : os.Started) (noInit : C.prog.inits.idxOf? f = none) (hfn : C.prog.funcs[f]? = some fn)
  (witness : ∃ (w : World) (tape : Tape) (i : Input), w.os = os ∧ (w.forCall tape i).Shaped C.prog ∧ i.vars = [] ∧ Input.okWide C.prog (w.forCall tape i) .any w.heap.size f i ∧
   s.pre6 enc C.prog fn [] false (w.forCall tape i).memory i.args ∧ ({} : Assume).holds C.prog (lone (Frame.enter C.prog f i.args .normal) [] (w.forCall tape i)))
  (contract : ∀ (W : World) (base : Nat) (args : Array Value) (ds : List (DataW H)) (p : List MemPlace),
   (∀ (j : Nat) t v, fn.params[j]? = some t → args[j]? = some v → Value.okWide C.prog W .any base t v) →
   DataW.TrodAll enc C.prog W 0 (fun _ => true) true fn.params.toList args.toList ds p → (∀ x ∈ p, x.block < W.heap.size) →
   Calls C.prog f args W (fun e W' => ∃ r : Bool, e = .returned (.bool r) ∧ (r = true ∧ Pure W W'))) :
  ReturnsInHanded {} C os f .any (s.pre6 enc C.prog fn [] false) (s.post enc C.prog fn false true false false) := by
 refine returnsInHanded_of_change own started noInit hfn witness ?_
 intro W base args ds gs before hval hW _ _
 have hW' := hW
 obtain ⟨p, q, hA, hV, rfl, hfz, hnd⟩ := hW
 refine (contract W base args ds p hval hA (fun x hx => by simpa using hW'.lt x (by simp [hx]))).mono fun e W' ⟨r, he, h1, h2⟩ => ?_
 subst h1
 exact ⟨_, he, law_post hl hv hf hrt ht hr hW' h2⟩
end
end Go.SE
namespace Go.SE
open Go.ChangeShapes Go.WideShapes Go.ChangeAt Go.RowKit
section
variable {P : Program} {W : World} {r : Reach} {b0 : Nat} {t : TypeId} {v : Value}
theorem okWide_cells {fs : Array Field} {ts : List TypeId} (ht : P.underlying t = some (.struct fs)) (hc : P.cellTypes P.depth t = some ts) (hn : P.cellsOf t = ts.length) (h : Value.okWide P W r b0 t v) :
  ∃ cs : Array Value, v = .agg cs ∧ cs.size = ts.length ∧ ∀ (i : Nat) (u : TypeId) (c : Value), ts[i]? = some u → cs[i]? = some c → Cell.okWide P W r b0 u c := by
 unfold Value.okWide at h
 rw [ht] at h
 obtain ⟨cs, rfl, hs, ts', hts, _, hall⟩ := h
 rw [hc] at hts
 cases hts
 refine ⟨cs, rfl, hs.trans hn, fun i u c hu hcs => ?_⟩
 obtain ⟨u', hu', hok⟩ := hall i c hcs
 have hlt : i < ts.length := (List.getElem?_eq_some_iff.1 hu).1
 rw [Nat.mod_eq_of_lt hlt, hu] at hu'
 cases hu'
 exact hok
theorem okWide_sl {e : TypeId} (ht : P.underlying t = some (.slice e)) (h : Value.okWide P W r b0 t v) : ∃ a n c, v = .slice a n c := by
 unfold Value.okWide at h
 rw [ht] at h
 simp only at h
 unfold Cell.okWide at h
 rw [ht] at h
 cases v <;> simp [Cell.ok, ht] at h
 exact ⟨_, _, _, rfl⟩
end
end Go.SE
end
section
open Go Go.SE
namespace Go.Proofs
theorem mapM_facts {α β : Type} {f : α → Option β} : ∀ {l : List α} {r : List β}, l.mapM f = some r → r.length = l.length ∧ ∀ (i : Nat) (a : α), l[i]? = some a → ∃ b, f a = some b ∧ r[i]? = some b
 | [], r, h => by
  have : r = [] := by simpa using h.symm
  subst this
  exact ⟨rfl, fun i a h => by simp at h⟩
 | x :: xs, r, h => by
  rw [List.mapM_cons] at h
  cases hx : f x with
  | none => simp [hx] at h
  | some y =>
   cases hxs : xs.mapM f with
   | none => simp [hx, hxs] at h
   | some ys =>
    have : r = y :: ys := by simpa [hx, hxs] using h.symm
    subst this
    obtain ⟨h1, h2⟩ := mapM_facts hxs
    refine ⟨by simp [h1], fun i a ha => ?_⟩
    cases i with
    | zero => cases ha; exact ⟨y, hx, rfl⟩
    | succ i => exact h2 i a (by simpa using ha)
theorem cells_row {w : World} {base : Nat} {a : Addr} {n : Nat} {cs : List Value} (h : w.cells? base a n = some cs) : cs.length = n ∧ Row w a cs := by
 obtain ⟨_, h1, h2⟩ := World.cells?_some h
 exact ⟨h1, fun j hj => h2 j (by omega)⟩
section
variable {H : Type} {enc : TypeId × Value → H} {P : Program} {W : World} {base : Nat} {sp : Nat → Bool} {held : Bool}
theorem trod_int1 {t : TypeId} {k : IntKind} (ht : P.underlying t = some (.int k)) {n : Nat} {c : Value} {x : DataW H × List MemPlace} (h : DataW.trod enc P W base sp held n t [c] = some x) : ∃ m, c = .int k m := by
 cases n with
 | zero => cases h
 | succ n =>
  rw [DataW.trod_step] at h
  unfold DataW.trodStep at h
  rw [ht] at h
  cases c <;> simp at h
  obtain ⟨⟨rfl, _⟩, _⟩ := h
  exact ⟨_, rfl⟩
theorem trod_u64 {t : TypeId} (ht : P.underlying t = some (.int .u64)) {n : Nat} {c : Value} {x : DataW H × List MemPlace} (h : DataW.trod enc P W base sp held n t [c] = some x) : ∃ m, c = .int .u64 m ∧ Sp.isNum m := by
 cases n with
 | zero => cases h
 | succ n =>
  rw [DataW.trod_step] at h
  unfold DataW.trodStep at h
  rw [ht] at h
  cases c with
  | int k z =>
   simp only at h
   split at h
   ·rename_i hw
    obtain ⟨rfl, hw⟩ := hw
    have h1 : IntKind.u64.min = 0 := by rfl
    have h2 : IntKind.u64.max = 18446744073709551615 := by rfl
    simp only [Lit.wf, Bool.and_eq_true, decide_eq_true_eq, h1, h2] at hw
    exact ⟨z, rfl, by omega, by omega⟩
   ·cases h
  | _ => simp at h
theorem trod_str1 {t : TypeId} (ht : P.underlying t = some .string) {n : Nat} {c : Value} {x : DataW H × List MemPlace} (h : DataW.trod enc P W base sp held n t [c] = some x) : ∃ m, c = .string m := by
 cases n with
 | zero => cases h
 | succ n =>
  rw [DataW.trod_step] at h
  unfold DataW.trodStep at h
  rw [ht] at h
  cases c <;> simp at h
  exact ⟨_, rfl⟩
theorem trod_slice1 {t e : TypeId} (ht : P.underlying t = some (.slice e)) {n : Nat} {c : Value} {x : DataW H × List MemPlace} (h : DataW.trod enc P W base sp held (n + 1) t [c] = some x) :
  c = .slice none 0 0 ∨ ∃ a len cap, c = .slice (some a) len cap ∧ len ≤ cap ∧ cap ≤ maxLen ∧ ∀ i, i < len → ∃ cs y, W.cells? base (a.add (i * P.cellsOf e)) (P.cellsOf e) = some cs ∧ DataW.trod enc P W base sp held n e cs = some y := by
 rw [DataW.trod_step] at h
 unfold DataW.trodStep at h
 rw [ht] at h
 cases c with
 | slice a len cap =>
  cases a with
  | none =>
   cases len with
   | zero => cases cap with
    | zero => exact .inl rfl
    | succ c => simp at h
   | succ l => simp at h
  | some a =>
   right
   simp only at h
   split at h
   ·rename_i hc
    refine ⟨a, len, cap, rfl, hc.2.1, hc.2.2, fun i hi => ?_⟩
    cases hm : (List.range len).mapM fun i => (W.cells? base (a.add (i * P.cellsOf e)) (P.cellsOf e)).bind (DataW.trod enc P W base sp held n e) with
    | none => rw [hm] at h; cases h
    | some r =>
     obtain ⟨b, hb, _⟩ := (mapM_facts hm).2 i i (by simp [hi])
     obtain ⟨cs, h1, h2⟩ := Option.bind_eq_some_iff.1 hb
     exact ⟨cs, b, h1, h2⟩
   ·cases h
 | _ => simp at h
structure TreeTypes (P : Program) (tS tT : TypeId) : Prop where
 ex : ∃ ti tu ts : TypeId, ∃ f0 f1 f2 f3 f4 f5 : Field, P.underlying tS = some (.slice tT) ∧ P.underlying tT = some (.struct #[f0, f1, f2, f3, f4, f5]) ∧ P.cellsOf tT = 6 ∧
  (f0.type = ti ∧ f1.type = ti ∧ f2.type = ti ∧ f3.type = tu ∧ f4.type = ts ∧ f5.type = tS) ∧ (f0.offset = 0 ∧ f1.offset = 1 ∧ f2.offset = 2 ∧ f3.offset = 3 ∧ f4.offset = 4 ∧ f5.offset = 5) ∧
  P.underlying ti = some (.int .i64) ∧ P.underlying tu = some (.int .u64) ∧ P.underlying ts = some .string ∧ P.cellsOf ti = 1 ∧ P.cellsOf tu = 1 ∧ P.cellsOf ts = 1 ∧ P.cellsOf tS = 1
theorem trod_tree {tS tT : TypeId} (hTT : TreeTypes P tS tT) : ∀ n : Nat,
  (∀ (c : Value) (x : DataW H × List MemPlace), DataW.trod enc P W base sp held n tS [c] = some x → ∃ s : Sl, ∃ ts : List Sp.Tree, c = s.v ∧ (∀ (k f t u : Int) (tx : ByteArray), TreeAt (fun _ => True) W s (.mk k f t u tx ts)) ∧ ∀ i (hi : i < ts.length), Sp.NumT ts[i]) ∧
  (∀ (cs : List Value) (x : DataW H × List MemPlace), DataW.trod enc P W base sp held n tT cs = some x → ∃ t s, cs = trow t s ∧ TreeAt (fun _ => True) W s t ∧ Sp.NumT t) := by
 obtain ⟨ti, tu, tx, f0, f1, f2, f3, f4, f5, hS, hT, hc6, ⟨e0, e1, e2, e3, e4, e5⟩, ⟨o0, o1, o2, o3, o4, o5⟩, ui, uu, us, ci, cu, cs1, cS⟩ := hTT.ex
 intro n
 induction n with
 | zero => exact ⟨fun c x h => (by cases h), fun cs x h => (by cases h)⟩
 | succ n ih =>
  refine ⟨fun c x h => ?_, fun cs x h => ?_⟩
  ·rcases trod_slice1 hS h with rfl | ⟨a, len, cap, rfl, hle, hcm, hel⟩
   ·exact ⟨Sl.nil, [], rfl, fun k f t u tx => .mk k f t u tx [] Sl.nil (fun _ => Sl.nil) rfl (by simp) (fun i h => by simp at h) (fun i h => by simp at h), fun i hi => absurd hi (Nat.not_lt_zero i)⟩
   ·rw [hc6] at hel
    have hex : ∀ i, ∃ q : Sp.Tree × Sl, i < len → Row W (a.add (i * 6)) (trow q.1 q.2) ∧ TreeAt (fun _ => True) W q.2 q.1 ∧ Sp.NumT q.1 := by
     intro i
     by_cases hi : i < len
     ·obtain ⟨cs, y, h1, h2⟩ := hel i hi
      obtain ⟨tr, s, e, hTr⟩ := ih.2 cs y h2
      exact ⟨(tr, s), fun _ => ⟨e ▸ (cells_row h1).2, hTr⟩⟩
     ·exact ⟨(Sp.Tree.mk 0 0 0 0 ⟨#[]⟩ [], Sl.nil), fun h => absurd h hi⟩
    obtain ⟨q, hq⟩ := Classical.axiomOfChoice hex
    refine ⟨⟨some a, len, cap⟩, (List.range len).map fun i => (q i).1, rfl, ?_, fun i hi => by rw [List.getElem_map, List.getElem_range]; exact (hq i (by simpa using hi)).2.2⟩
    refine fun k f t u tx => .mk k f t u tx _ _ (fun i => (q i).2) (by simp) (by simp only [maxLen] at hcm; simp; omega) (fun i h => ?_) (fun i h => ?_)
    ·have hi : i < len := by simpa using h
     refine ⟨a.add (i * 6), ⟨by omega, by simpa using hi, a, rfl, by simp⟩, trivial, ?_⟩
     simpa using (hq i hi).1
    ·have hi : i < len := by simpa using h
     simpa using (hq i hi).2.1
  ·rw [DataW.trod_step] at h
   unfold DataW.trodStep at h
   rw [hT] at h
   simp only at h
   split at h
   ·rename_i hl
    rw [hc6] at hl
    match cs, hl with
    | [c0, c1, c2, c3, c4, c5], _ =>
     cases hm : ([f0, f1, f2, f3, f4, f5] : List Field).mapM (fun f => DataW.trod enc P W base sp held n f.type ((([c0, c1, c2, c3, c4, c5] : List Value).drop f.offset).take (P.cellsOf f.type))) with
     | none => rw [hm] at h; cases h
     | some r =>
      have hf := (mapM_facts hm).2
      obtain ⟨_, h0, _⟩ := hf 0 f0 rfl
      obtain ⟨_, h1, _⟩ := hf 1 f1 rfl
      obtain ⟨_, h2, _⟩ := hf 2 f2 rfl
      obtain ⟨_, h3, _⟩ := hf 3 f3 rfl
      obtain ⟨_, h4, _⟩ := hf 4 f4 rfl
      obtain ⟨_, h5, _⟩ := hf 5 f5 rfl
      rw [e0, o0, ci] at h0; rw [e1, o1, ci] at h1; rw [e2, o2, ci] at h2; rw [e3, o3, cu] at h3; rw [e4, o4, cs1] at h4; rw [e5, o5, cS] at h5
      obtain ⟨m0, rfl⟩ := trod_int1 ui h0
      obtain ⟨m1, rfl⟩ := trod_int1 ui h1
      obtain ⟨m2, rfl⟩ := trod_int1 ui h2
      obtain ⟨m3, rfl, hu⟩ := trod_u64 uu h3
      obtain ⟨m4, rfl⟩ := trod_str1 us h4
      obtain ⟨s, ts, rfl, hTr, hNr⟩ := ih.1 c5 _ h5
      exact ⟨.mk m0 m1 m2 m3 m4 ts, s, rfl, hTr m0 m1 m2 m3 m4, .mk _ _ _ _ _ _ hu hNr⟩
   ·cases h
end
theorem treeTypes : TreeTypes Try.prog 22 52 :=
 ⟨3, 50, 9, _, _, _, _, _, _, Try.underlying22, Try.underlying52, by kernel_rfl, ⟨rfl, rfl, rfl, rfl, rfl, rfl⟩, ⟨rfl, rfl, rfl, rfl, rfl, rfl⟩, Try.underlying3, Try.underlying50, Try.underlying9, by kernel_rfl, by kernel_rfl, by kernel_rfl, by kernel_rfl⟩
end Go.Proofs
end
section
open Go Go.SE
namespace Go.Sp
def Dep (L : Pool) (S : List Way) (t y : Int) : Prop :=
 (∃ v ∈ S, v.t = t ∧ v.rule ≠ 0 ∧ y = v.frm) ∨ (t ∉ wkeys S ∧ 0 < y ∧ (y = (madeS L S t).1 ∨ y = (madeS L S t).2.1))
inductive Dp (L : Pool) (S : List Way) : Int → Int → Prop
 | refl (t : Int) : Dp L S t t
 | step {t y z : Int} : Dep L S t y → Dp L S y z → Dp L S t z
theorem Dep.made {L : Pool} {S : List Way} {t y a b : Int} {f m : Bool} (h : madeS L S t = (a, b, f, m)) (ht : t ∉ wkeys S) : Dep L S t y ↔ 0 < y ∧ (y = a ∨ y = b) := by
 unfold Dep
 rw [h]
 constructor
 ·rintro (⟨v, hv, rfl, _⟩ | ⟨_, h⟩)
  ·exact absurd (List.mem_map.2 ⟨v, hv, rfl⟩) ht
  ·exact h
 ·exact fun h => .inr ⟨ht, h⟩
theorem Dep.way {L : Pool} {S : List Way} {t y r f : Int} (hn : (wkeys S).Nodup) (hl : SE.look (S.map fun v => (v.t, (v.rule, v.frm))) t = some (r, f)) : Dep L S t y ↔ r ≠ 0 ∧ y = f := by
 have hm := look_mem hl
 obtain ⟨v, hv, e⟩ := List.mem_map.1 hm
 simp only [Prod.mk.injEq] at e
 obtain ⟨rfl, rfl, rfl⟩ := e
 have hk : v.t ∈ wkeys S := List.mem_map.2 ⟨v, hv, rfl⟩
 unfold Dep
 constructor
 ·rintro (⟨u, hu, e, hr, rfl⟩ | ⟨h, _⟩)
  ·have hnd : ((S.map fun v => (v.t, (v.rule, v.frm))).map Prod.fst).Nodup := by rw [List.map_map]; exact hn
   have h2 := look_of_mem hnd (List.mem_map.2 ⟨u, hu, rfl⟩)
   rw [e, hl] at h2
   simp only [Option.some.injEq, Prod.mk.injEq] at h2
   exact ⟨by rw [h2.1]; exact hr, h2.2.symm⟩
  ·exact absurd hk h
 ·rintro ⟨h1, rfl⟩
  exact .inl ⟨v, hv, rfl, h1, rfl⟩
theorem Dp.all {L : Pool} {S : List Way} {M : List Step} (hc : ∀ s ∈ M, ∀ y, Dep L S s.t y → y ∈ M.map Step.t) {t x : Int} (ht : t ∈ M.map Step.t) (h : Dp L S t x) : x ∈ M.map Step.t := by
 induction h with
 | refl => exact ht
 | step hd _ ih =>
  obtain ⟨s, hs, rfl⟩ := List.mem_map.1 ht
  exact ih (hc s hs _ hd)
end Go.Sp
namespace Go.Proofs
attribute [local irreducible] Calls
def strow (s : Sp.Step) : List Value := [.int .i64 s.rule, .int .i64 s.a, .int .i64 s.b, .int .i64 s.t]
def tru (_ : Unit) : Value := .bool true
def bmap (B : List Int) : List (Int × Unit) := B.map fun t => (t, ())
theorem bmap_snoc (B : List Int) (t : Int) : bmap (B ++ [t]) = bmap B ++ [(t, ())] := by simp [bmap]
def PW (ma mb : Nat) (c5 : Addr) (sl : Sl) (b : Nat) : Prop := b = ma ∨ b = mb ∨ b = c5.block ∨ sl.blk b
def says (f : FuncId) (c1 c2 c3 c4 c5 : Addr) : Value := .func (.func f) #[] #[.pointer (some c1), .pointer (some c2), .pointer (some c3), .pointer (some c4), .pointer (some c5)]
structure PrfAt (w : World) (k : Addr) (c1 c2 c3 c4 c5 : Addr) (ma mb : Nat) (sl : Sl) (l : List Sp.Step) (B : List Int) : Prop where
 a1 : w.cell? c1 = some (.map (some ma))
 a2 : w.cell? c2 = some (.map (some mb))
 a3 : w.cell? c3 = some (.pointer (some k))
 a4 : w.cell? c4 = some (says 107 c1 c2 c3 c4 c5)
 a5 : Box w c5 [sl.v] 93
 am : IMap ikey w ma (Sp.amap l)
 bm : IMap tru w mb (bmap B)
 ls : Rws w 159 4 sl (l.map strow)
 d : ∀ b, PW ma mb c5 sl b → b ≠ c1.block ∧ b ≠ c2.block ∧ b ≠ c3.block ∧ b ≠ c4.block
 n1 : ma ≠ mb
 n2 : ma ≠ c5.block
 n3 : mb ≠ c5.block
 n4 : ¬ sl.blk ma
 n5 : ¬ sl.blk mb
 n6 : ¬ sl.blk c5.block
structure SaysAt (w : World) (k p : Addr) (c1 c2 c3 c4 c5 : Addr) (ma mb : Nat) (L : Sp.Pool) (G : List Int) (S : List Sp.Way) (F FP : NP) (sl : Sl) (l : List Sp.Step) (B : List Int) : Prop where
 prf : PrfAt w k c1 c2 c3 c4 c5 ma mb sl l B
 know : KnowAt w k p G S F
 pool : PoolAt w p L FP
 dF : ∀ b, F b → ¬ PW ma mb c5 sl b
 dP : ∀ b, FP b → ¬ PW ma mb c5 sl b
section
variable {w w' : World} {k p c1 c2 c3 c4 c5 : Addr} {ma mb : Nat} {L : Sp.Pool} {G : List Int} {S : List Sp.Way} {F FP : NP} {sl : Sl} {l : List Sp.Step} {B : List Int}
theorem PrfAt.ext {X : NP} (h : PrfAt w k c1 c2 c3 c4 c5 ma mb sl l B) (hE : Ext X w w') (h1 : ∀ b, PW ma mb c5 sl b → ¬ X b) (x1 : ¬ X c1.block) (x2 : ¬ X c2.block) (x3 : ¬ X c3.block) (x4 : ¬ X c4.block) : PrfAt w' k c1 c2 c3 c4 c5 ma mb sl l B :=
 ⟨hE.cell h.a1 x1, hE.cell h.a2 x2, hE.cell h.a3 x3, hE.cell h.a4 x4, h.a5.ext hE (h1 _ (.inr (.inr (.inl rfl)))), h.am.ext hE (h1 _ (.inl rfl)), h.bm.ext hE (h1 _ (.inr (.inl rfl))), h.ls.ext hE (fun b hb => h1 b (.inr (.inr (.inr hb)))), h.d, h.n1, h.n2, h.n3, h.n4, h.n5, h.n6⟩
theorem PrfAt.lt (h : PrfAt w k c1 c2 c3 c4 c5 ma mb sl l B) {b : Nat} (hb : PW ma mb c5 sl b) : b < w.heap.size := by
 rcases hb with rfl | rfl | rfl | hb
 ·exact h.am.lt
 ·exact h.bm.lt
 ·exact h.a5.lt
 ·exact h.ls.lt hb
theorem SaysAt.ext {X : NP} {n : Nat} (h : SaysAt w k p c1 c2 c3 c4 c5 ma mb L G S F FP sl l B) (hE : Ext X w w') (hn : ∀ b, X b → n ≤ b) (z1 : ∀ b, PW ma mb c5 sl b → b < n ∨ ¬ X b) (zc : c1.block < n ∧ c2.block < n ∧ c3.block < n ∧ c4.block < n) (zF : ∀ b, F b → b < n) (zP : ∀ b, FP b → b < n) : SaysAt w' k p c1 c2 c3 c4 c5 ma mb L G S F FP sl l B := by
 have hx : ∀ b, b < n → ¬ X b := fun b hb hX => by have := hn b hX; omega
 exact ⟨h.prf.ext hE (fun b hb => (z1 b hb).elim (hx b) id) (hx _ zc.1) (hx _ zc.2.1) (hx _ zc.2.2.1) (hx _ zc.2.2.2), h.know.ext hE (fun b hb => hx b (zF b hb)), h.pool.ext hE (fun b hb => hx b (zP b hb)), h.dF, h.dP⟩
theorem SaysAt.pure (h : SaysAt w k p c1 c2 c3 c4 c5 ma mb L G S F FP sl l B) (E : Pure w w') : SaysAt w' k p c1 c2 c3 c4 c5 ma mb L G S F FP sl l B :=
 ⟨h.prf.ext E (fun _ _ h => h) (fun h => h) (fun h => h) (fun h => h) (fun h => h), h.know.pure E, h.pool.pure E, h.dF, h.dP⟩
theorem SaysAt.zc (h : SaysAt w k p c1 c2 c3 c4 c5 ma mb L G S F FP sl l B) : c1.block < w.heap.size ∧ c2.block < w.heap.size ∧ c3.block < w.heap.size ∧ c4.block < w.heap.size :=
 ⟨World.block_lt_of_cell? w _ h.prf.a1, World.block_lt_of_cell? w _ h.prf.a2, World.block_lt_of_cell? w _ h.prf.a3, World.block_lt_of_cell? w _ h.prf.a4⟩
theorem PrfAt.bar (h : PrfAt w k c1 c2 c3 c4 c5 ma mb sl l B) (t : Int) : ∃ w', (Instr.mapUpdate 156 (.map (some mb)) (.int .i64 t) (.bool true)).run Try.prog w = .ok () w' ∧ (∃ B', (B' = B ∨ B' = B ++ [t]) ∧ PrfAt w' k c1 c2 c3 c4 c5 ma mb sl l B') ∧ Ext (· = mb) w w' := by
 have hd := h.d mb (.inr (.inl rfl))
 have back : ∀ {w' : World} {B' : List Int}, IMap tru w' mb (bmap B') → Ext (· = mb) w w' → PrfAt w' k c1 c2 c3 c4 c5 ma mb sl l B' := fun hI hE =>
  ⟨hE.cell h.a1 (fun e => hd.1 e.symm), hE.cell h.a2 (fun e => hd.2.1 e.symm), hE.cell h.a3 (fun e => hd.2.2.1 e.symm), hE.cell h.a4 (fun e => hd.2.2.2 e.symm), h.a5.ext hE (fun e => h.n3 e.symm), h.am.ext hE h.n1, hI, h.ls.ext hE (fun b hb e => h.n5 (e ▸ hb)), h.d, h.n1, h.n2, h.n3, h.n4, h.n5, h.n6⟩
 cases hl : SE.look (bmap B) t with
 | none =>
  obtain ⟨w', h1, h2, h3⟩ := h.bm.put (P := Try.prog) (T := 156) Try.underlying156 Try.underlying32 hl ()
  exact ⟨w', h1, ⟨_, .inr rfl, back (by rw [bmap_snoc]; exact h2) h3⟩, h3⟩
 | some v =>
  cases v
  obtain ⟨w', h1, h2, h3⟩ := h.bm.again (P := Try.prog) (T := 156) Try.underlying156 Try.underlying32 hl
  exact ⟨w', h1, ⟨_, .inl rfl, back h2 h3⟩, h3⟩
end
structure SaysRet (w0 : World) (k p : Addr) (c1 c2 c3 c4 c5 : Addr) (ma mb : Nat) (L : Sp.Pool) (G : List Int) (S : List Sp.Way) (F FP : NP) (sl : Sl) (l : List Sp.Step) (t r : Int) (ok : Bool) (w' : World) (sl' : Sl) (M : List Sp.Step) (B' : List Int) : Prop where
 st : SaysAt w' k p c1 c2 c3 c4 c5 ma mb L G S F FP sl' (l ++ M) B'
 prf : Sp.PrfOk L G (fun x => x ∈ Sp.wkeys S) (l ++ M) B'
 new : ∀ s ∈ M, Sp.rank S s.t ≤ Sp.rank S t ∧ (Sp.Sub L t s.t ∨ s.t ∈ Sp.wkeys S)
 idx : ok = true → ∃ i, r = ((i : Nat) : Int) ∧ ∃ hi : i < (l ++ M).length, (l ++ M)[i].t = t
 drv : ok = true ↔ Sp.Drv L (fun x => x ∈ Sp.wkeys S) t
 ext : Ext (PW ma mb c5 sl) w0 w'
 own : ∀ b, sl'.blk b → sl.blk b ∨ w0.heap.size ≤ b
 last : ok = true → M = [] ∨ Sp.tAt (l ++ M) (((l ++ M).length : Int) - 1) = t
 dp : ∀ s ∈ M, Sp.Dp L S t s.t
 cl : ∀ s ∈ M, ∀ y, Sp.Dep L S s.t y → y ∈ (l ++ M).map Sp.Step.t
structure SaysCur (w0 : World) (H : NP) (w : World) (k p : Addr) (c1 c2 c3 c4 c5 : Addr) (ma mb : Nat) (L : Sp.Pool) (G : List Int) (S : List Sp.Way) (F FP : NP) (sl : Sl) (l : List Sp.Step) (t : Int) (sl1 : Sl) (M B : _) : Prop where
 st : SaysAt w k p c1 c2 c3 c4 c5 ma mb L G S F FP sl1 (l ++ M) B
 prf : Sp.PrfOk L G (fun x => x ∈ Sp.wkeys S) (l ++ M) B
 new : ∀ s ∈ M, Sp.rank S s.t < Sp.rank S t ∧ (Sp.Sub L t s.t ∨ s.t ∈ Sp.wkeys S)
 ext : Ext (PW ma mb c5 sl) w0 w
 own : ∀ b, sl1.blk b → sl.blk b ∨ w0.heap.size ≤ b
 vis : ∀ b, sl1.blk b → ¬ H b
 hs : Hst w0 H w H w
 dp : ∀ s ∈ M, Sp.Dp L S t s.t
 cl : ∀ s ∈ M, ∀ y, Sp.Dep L S s.t y → y ∈ (l ++ M).map Sp.Step.t
section
variable {w0 w w' : World} {H H' : NP} {k p c1 c2 c3 c4 c5 : Addr} {ma mb : Nat} {L : Sp.Pool} {G : List Int} {S : List Sp.Way} {F FP : NP} {sl sl1 sl2 : Sl} {l M M2 : List Sp.Step} {B0 B B2 : List Int} {t : Int}
theorem PW.old (h : SaysAt w0 k p c1 c2 c3 c4 c5 ma mb L G S F FP sl l B0) (ho : ∀ b, sl1.blk b → sl.blk b ∨ w0.heap.size ≤ b) : ∀ b, PW ma mb c5 sl1 b → b < w0.heap.size → PW ma mb c5 sl b := by
 rintro b (hb | hb | hb | hb) hlt
 ·exact .inl hb
 ·exact .inr (.inl hb)
 ·exact .inr (.inr (.inl hb))
 ·exact (ho b hb).elim (fun h => .inr (.inr (.inr h))) (fun h => by omega)
theorem SaysCur.nh (h : SaysCur w0 H w k p c1 c2 c3 c4 c5 ma mb L G S F FP sl l t sl1 M B) (h0 : SaysAt w0 k p c1 c2 c3 c4 c5 ma mb L G S F FP sl l B0) : ∀ b, PW ma mb c5 sl1 b → ¬ H b := by
 have old : ∀ b, b < w0.heap.size → ¬ H b := fun b hb hh => by have := h.hs.old b hh; omega
 rintro b (rfl | rfl | rfl | hb)
 ·exact old _ (h0.prf.lt (.inl rfl))
 ·exact old _ (h0.prf.lt (.inr (.inl rfl)))
 ·exact old _ (h0.prf.lt (.inr (.inr (.inl rfl))))
 ·exact h.vis b hb
theorem SaysCur.hst (h : SaysCur w0 H w k p c1 c2 c3 c4 c5 ma mb L G S F FP sl l t sl1 M B) (h0 : SaysAt w0 k p c1 c2 c3 c4 c5 ma mb L G S F FP sl l B0) (hs : Hst w0 H w H' w') : SaysCur w0 H' w' k p c1 c2 c3 c4 c5 ma mb L G S F FP sl l t sl1 M B := by
 have dj := hs.disj (G := PW ma mb c5 sl1) (fun b hb => ⟨h.st.prf.lt hb, h.nh h0 b hb⟩)
 exact ⟨h.st.ext hs.ext hs.old (fun b hb => .inr (dj b hb)) h0.zc (fun b hb => h0.know.lt hb) (fun b hb => h0.pool.lt hb), h.prf, h.new, h.ext.hst hs, h.own, fun b hb => dj b (.inr (.inr (.inr hb))), hs.here, h.dp, h.cl⟩
theorem SaysCur.step {u r : Int} {ok : Bool} (h : SaysCur w0 H w k p c1 c2 c3 c4 c5 ma mb L G S F FP sl l t sl1 M B) (h0 : SaysAt w0 k p c1 c2 c3 c4 c5 ma mb L G S F FP sl l B0) (hr : SaysRet w k p c1 c2 c3 c4 c5 ma mb L G S F FP sl1 (l ++ M) u r ok w' sl2 M2 B2) (hu : Sp.rank S u < Sp.rank S t) (hsub : Sp.Sub L t u ∨ u ∈ Sp.wkeys S) (hcl : ∀ x, u ∈ Sp.wkeys S → Sp.rank S x ≤ Sp.rank S u → x ∈ Sp.wkeys S) (hdep : Sp.Dep L S t u) :
  Kept H w w' ∧ SaysCur w0 H w' k p c1 c2 c3 c4 c5 ma mb L G S F FP sl l t sl2 (M ++ M2) B2 := by
 have hk : Kept H w w' := hr.ext.kept (fun b hb hx => h.nh h0 b hx hb)
 refine ⟨hk, by rw [← List.append_assoc]; exact hr.st, by rw [← List.append_assoc]; exact hr.prf, fun s hs => ?_, h.ext.trans' hr.ext (fun i hi hb => PW.old h0 h.own i hb hi), fun b hb => ?_, fun b hb hh => ?_, h.hs.again hk, fun s hs => ?_, fun s hs y hy => ?_⟩
 ·rcases List.mem_append.1 hs with hs | hs
  ·exact h.new s hs
  ·obtain ⟨q1, q2⟩ := hr.new s hs
   refine ⟨by omega, ?_⟩
   rcases q2 with q2 | q2
   ·rcases hsub with h1 | h1
    ·exact .inl (h1.trans q2)
    ·exact .inr (hcl _ h1 q1)
   ·exact .inr q2
 ·rcases hr.own b hb with h1 | h1
  ·exact h.own b h1
  ·right; have := h.ext.size; omega
 ·rcases hr.own b hb with h1 | h1
  ·exact h.vis b h1 hh
  ·have := h.hs.lt b hh; omega
 ·rcases List.mem_append.1 hs with hs | hs
  ·exact h.dp s hs
  ·exact .step hdep (hr.dp s hs)
 ·rw [← List.append_assoc]
  rcases List.mem_append.1 hs with hs | hs
  ·rw [List.map_append]; exact List.mem_append_left _ (h.cl s hs y hy)
  ·exact hr.cl s hs y hy
end
end Go.Proofs
end
section
open Go Go.SE
namespace Go.Proofs
section
variable {H : Type} {enc : TypeId × Value → H} {P : Program} {W : World} {base : Nat} {sp : Nat → Bool} {held : Bool}
theorem row_lt {a : Addr} {v : Value} {vs : List Value} (h : Row W a (v :: vs)) : a.block < W.heap.size := by
 have := h 0 (by simp)
 have := World.block_lt_of_cell? W (a.add 0) this
 rwa [add_block] at this
theorem list_of_trod {α : Type} {tS e : TypeId} {sz : Nat} {f : α → List Value} (hS : P.underlying tS = some (.slice e)) (hc : P.cellsOf e = sz) (hf : ∀ a, ∃ v vs, f a = v :: vs) (x0 : α)
  (hel : ∀ (n : Nat) (cs : List Value) (x : DataW H × List MemPlace), DataW.trod enc P W base sp held n e cs = some x → ∃ a, cs = f a) {n : Nat} {c : Value} {x : DataW H × List MemPlace} (h : DataW.trod enc P W base sp held n tS [c] = some x) :
  ∃ s : Sl, ∃ xs : List α, c = s.v ∧ Lst (fun b => b < W.heap.size) W sz s (xs.map f) := by
 cases n with
 | zero => cases h
 | succ n =>
  rcases trod_slice1 hS h with rfl | ⟨a, len, cap, rfl, hle, hcm, hall⟩
  ·exact ⟨Sl.nil, [], rfl, ⟨rfl, fun i hi => by simp at hi⟩⟩
  ·rw [hc] at hall
   have hex : ∀ i, ∃ q : α, i < len → Row W (a.add (i * sz)) (f q) := by
    intro i
    by_cases hi : i < len
    ·obtain ⟨cs, y, h1, h2⟩ := hall i hi
     obtain ⟨q, rfl⟩ := hel n cs y h2
     exact ⟨q, fun _ => (cells_row h1).2⟩
    ·exact ⟨x0, fun h => absurd h hi⟩
   obtain ⟨q, hq⟩ := Classical.axiomOfChoice hex
   refine ⟨⟨some a, len, cap⟩, (List.range len).map q, rfl, ⟨by simp, fun i hi => ?_⟩⟩
   have hi : i < len := by simpa using hi
   have hr := hq i hi
   obtain ⟨v, vs, e⟩ := hf (q i)
   refine ⟨a.add (i * sz), ⟨by omega, by simpa using hi, a, rfl, by simp⟩, ?_, by simpa using hr⟩
   rw [e] at hr; exact row_lt hr
end
section
variable {H : Type} {enc : TypeId × Value → H} {W : World} {base : Nat} {sp : Nat → Bool} {held : Bool}
end
end Go.Proofs
end
section
open Go Go.SE
namespace Go.Proofs
section
variable {H : Type} {enc : TypeId × Value → H} {P : Program} {W : World} {base : Nat} {sp : Nat → Bool} {held : Bool}
theorem bytes_of_trod {tS e : TypeId} (hS : P.underlying tS = some (.slice e)) (he : P.underlying e = some (.int .u8)) (hc : P.cellsOf e = 1) {v : Value} {d : DataW H} {ps : List MemPlace} (h : DataW.Trod enc P W base sp held tS v d ps) (hv : ∃ a n c, v = .slice a n c) :
  ∃ s : Sl, ∃ bs : List UInt8, v = s.v ∧ Lst (fun b => b < W.heap.size) W 1 s (byr bs) ∧ (s.a = none → s = Sl.nil) := by
 obtain ⟨n, h⟩ := h
 obtain ⟨a, m, c, rfl⟩ := hv
 have hz := h
 have := list_of_trod (f := fun b : UInt8 => [Value.int .u8 (b.toNat : Int)]) hS hc (fun a => ⟨_, _, rfl⟩) 0 (fun n cs x h => ?_) h
 ·obtain ⟨s, bs, e1, hL⟩ := this
  refine ⟨s, bs, e1, hL, fun hn => ?_⟩
  cases n with
  | zero => cases hz
  | succ n =>
   change DataW.trod enc P W base sp held (n + 1) tS [_] = _ at hz
   rcases trod_slice1 hS hz with e2 | ⟨a', l', c', e2, _⟩
   ·rw [e1] at e2
    obtain ⟨sa, sl, sc⟩ := s
    simp only [Sl.v, Value.slice.injEq] at e2
    obtain ⟨rfl, rfl, rfl⟩ := e2; rfl
   ·rw [e1] at e2
    obtain ⟨sa, sl, sc⟩ := s
    simp only [Sl.v, Value.slice.injEq] at e2
    simp only at hn
    rw [hn] at e2
    cases e2.1
 ·cases n with
  | zero => cases h
  | succ n =>
   rw [DataW.trod_step] at h
   unfold DataW.trodStep at h
   rw [he] at h
   cases cs with
   | nil => simp at h
   | cons c l =>
    cases l with
    | cons c2 l2 => cases c <;> simp at h
    | nil =>
     cases c with
     | int k z =>
      simp only at h
      split at h
      ·rename_i hw
       obtain ⟨rfl, hw⟩ := hw
       have hr : 0 ≤ z ∧ z < 256 := by
        have h1 : IntKind.u8.min = 0 := by rfl
        have h2 : IntKind.u8.max = 255 := by rfl
        simp only [Lit.wf, Bool.and_eq_true, decide_eq_true_eq, h1, h2] at hw
        omega
       refine ⟨UInt8.ofNat z.toNat, ?_⟩
       have : ((UInt8.ofNat z.toNat).toNat : Int) = z := by simp [UInt8.toNat_ofNat]; omega
       rw [this]
      ·cases h
     | _ => simp at h
end
end Go.Proofs
end
