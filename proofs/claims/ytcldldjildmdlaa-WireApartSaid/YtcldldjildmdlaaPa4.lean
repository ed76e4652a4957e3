import Derived.Test.YtcldldjildmdlaaPa2
import Derived.Test.YtcldldjildmdlaaPa1
import Derived.Test.YtcldldjildmdlaaPa3
import Derived.Test.YtcldldjildmdlaaPa0
import Derived.ProofKit
import Derived.Carry
import Derived.OpenShut
import Derived.Stop.Joined
section
open Go Go.SE
namespace Go.Proofs
attribute [local irreducible] Calls
section
variable {w w' : World} {e : TypeId} {s : Sl} {n : Nat} {V : Int → Bool}
end
end Go.Proofs
end
section
open Go Go.SE
namespace Go.Proofs
attribute [local irreducible] Calls CallsD
structure TxSep (w0 : World) (q : Addr) (FR : NP) (s1 r1 : Sl) (B : Nat) : Prop where
 lR : ∀ x, FR x → x < B
 lr : ∀ x, r1.blk x → x < B
 ls : ∀ x, s1.blk x → x < B ∧ w0.heap.size ≤ x ∧ ¬ FR x ∧ ¬ r1.blk x
 base : w0.heap.size ≤ B
structure TxAt (w0 w : World) (H : NP) (q : Addr) (L : Sp.Pool) (FR : NP) (s1 r1 : Sl) (A xs : List Int) (B : Nat) (b : Sl) (bs : List UInt8) : Prop where
 pool : PoolR w q L FR
 at_ : Rws w 3 1 s1 (tmr A)
 subs : Rws w 32 1 r1 (tmr xs)
 rows : Rws w 5 1 b (byr bs)
 pure : Pure w0 w
 hB : ∀ x, H x → B ≤ x ∧ x < w.heap.size
 own : ∀ x, b.blk x → B ≤ x ∧ ¬ H x
 lt : B ≤ w.heap.size
section
variable {w0 w w' : World} {H H' : NP} {q : Addr} {L : Sp.Pool} {FR : NP} {s1 r1 : Sl} {A xs : List Int} {B : Nat} {b b' : Sl} {bs bs' : List UInt8}
theorem TxAt.hst (h : TxAt w0 w H q L FR s1 r1 A xs B b bs) (S : TxSep w0 q FR s1 r1 B) (hs : Hst w0 H w H' w') : TxAt w0 w' H' q L FR s1 r1 A xs B b bs := by
 have hB' : ∀ x, H' x → B ≤ x := fun x hx => (hs.new x hx).elim (fun h1 => (h.hB x h1).1) (fun h1 => by have := h.lt; omega)
 have hv : ∀ x, b.blk x → ¬ H' x := hs.disj (fun x hx => ⟨h.rows.lt hx, (h.own x hx).2⟩)
 exact ⟨h.pool.ext hs.ext (fun x hx hh => by have := S.lR x hx; have := hB' x hh; omega), h.at_.ext hs.ext (fun x hx hh => by have := S.ls x hx; have := hB' x hh; omega), h.subs.ext hs.ext (fun x hx hh => by have := S.lr x hx; have := hB' x hh; omega), h.rows.ext hs.ext hv, h.pure.hst hs, fun x hx => ⟨hB' x hx, hs.lt x hx⟩, fun x hx => ⟨(h.own x hx).1, hv x hx⟩, Nat.le_trans h.lt hs.ext.size⟩
theorem TxAt.call (h : TxAt w0 w H q L FR s1 r1 A xs B b bs) (hr : RetO w 5 1 (byr bs') b' w') : TxAt w0 w' H q L FR s1 r1 A xs B b' bs' :=
 ⟨h.pool.pure hr.pure, h.at_.pure hr.pure, h.subs.pure hr.pure, hr.rows, h.pure.trans hr.pure, fun x hx => ⟨(h.hB x hx).1, Nat.lt_of_lt_of_le (h.hB x hx).2 hr.pure.size⟩, fun x hx => ⟨Nat.le_trans h.lt (hr.own x hx), fun hh => by have := hr.own x hx; have := (h.hB x hh).2; omega⟩, Nat.le_trans h.lt hr.pure.size⟩
end
section
variable (w0 : World) (q : Addr) {L : Sp.Pool} (hW : Sp.Wf L) (hN : Sp.Nums L) {FR : NP} {s1 r1 : Sl} {A xs : List Int} {B : Nat} (S : TxSep w0 q FR s1 r1 B) (i1 : Int) (n : Sp.Node) (na nb : Nat)
include S
end
end Go.Proofs
end
section
namespace Go.Sp
end Go.Sp
end
section
open Go Go.SE
namespace Go.Sp
end Go.Sp
namespace Go.Proofs
attribute [local irreducible] Calls
structure Pl2 (w0 : World) (H : NP) (w : World) (p q : Addr) (L1 L2 : Sp.Pool) (F1 F2 : NP) : Prop where
 pure : Pure w0 w
 pool : PoolAt w p L1 F1
 ref : PoolR w q L2 F2
 o1 : ∀ b, F1 b → w0.heap.size ≤ b ∧ ¬ H b ∧ ¬ F2 b
 o2 : ∀ b, F2 b → w0.heap.size ≤ b ∧ ¬ H b
section
variable {w0 w w' : World} {H H' : NP} {p q : Addr} {L1 L2 : Sp.Pool} {F1 F2 : NP}
theorem Pl2.pureE (h : Pl2 w0 H w p q L1 L2 F1 F2) (E : Pure w w') : Pl2 w0 H w' p q L1 L2 F1 F2 := ⟨h.pure.trans E, h.pool.pure E, h.ref.pure E, h.o1, h.o2⟩
theorem Pl2.first (h : Pl2 w H w' p q L1 L2 F1 F2) (E : Pure w0 w) : Pl2 w0 H w' p q L1 L2 F1 F2 :=
 ⟨E.trans h.pure, h.pool, h.ref, fun b hb => ⟨Nat.le_trans E.size (h.o1 b hb).1, (h.o1 b hb).2⟩, fun b hb => ⟨Nat.le_trans E.size (h.o2 b hb).1, (h.o2 b hb).2⟩⟩
theorem Pl2.hst (h : Pl2 w0 H w p q L1 L2 F1 F2) (hs : Hst w0 H w H' w') : Pl2 w0 H' w' p q L1 L2 F1 F2 := by
 have d : ∀ b, b < w.heap.size → ¬ H b → ¬ H' b := fun b h1 h2 => hs.disj (G := (· = b)) (fun c e => by subst e; exact ⟨h1, h2⟩) b rfl
 have d1 : ∀ b, F1 b → ¬ H' b := fun b hb => d b (h.pool.lt hb) (h.o1 b hb).2.1
 have d2 : ∀ b, F2 b → ¬ H' b := fun b hb => d b (h.ref.lt hb) (h.o2 b hb).2
 exact ⟨h.pure.hst hs, h.pool.ext hs.ext d1, h.ref.ext hs.ext d2, fun b hb => ⟨(h.o1 b hb).1, d1 b hb, (h.o1 b hb).2.2⟩, fun b hb => ⟨(h.o2 b hb).1, d2 b hb⟩⟩
end
end Go.Proofs
end
section
open Go Go.SE
namespace Go.Sp
open Go.Proofs
end Go.Sp
namespace Go.Proofs
attribute [local irreducible] Calls CallsD
end Go.Proofs
end
section
open Go Go.SE
namespace Go.Proofs
attribute [local irreducible] Calls CallsD
structure ApAt (w0 : World) (H : NP) (w : World) (p p4 : Addr) (L : Sp.Pool) (F : NP) (r4 : Int) : Prop where
 pool : PoolAt w p L F
 b4 : Box w p4 [.int .i64 r4] 32
 oF : ∀ b, F b → w0.heap.size ≤ b ∧ ¬ H b ∧ b ≠ p4.block
 o4 : w0.heap.size ≤ p4.block ∧ ¬ H p4.block
 pure : Pure w0 w
section
variable {w0 w w' : World} {H H' : NP} {p p4 : Addr} {L : Sp.Pool} {F : NP} {r4 : Int}
theorem ApAt.pureE (h : ApAt w0 H w p p4 L F r4) (E : Pure w w') : ApAt w0 H w' p p4 L F r4 := ⟨h.pool.pure E, h.b4.pure E, h.oF, h.o4, h.pure.trans E⟩
theorem ApAt.hst (h : ApAt w0 H w p p4 L F r4) (hs : Hst w0 H w H' w') : ApAt w0 H' w' p p4 L F r4 := by
 have d : ∀ b, b < w.heap.size → ¬ H b → ¬ H' b := fun b h1 h2 => hs.disj (G := (· = b)) (fun c e => by subst e; exact ⟨h1, h2⟩) b rfl
 have d1 : ∀ b, F b → ¬ H' b := fun b hb => d b (h.pool.lt hb) (h.oF b hb).2.1
 have d2 := d _ h.b4.lt h.o4.2
 exact ⟨h.pool.ext hs.ext d1, h.b4.ext hs.ext d2, fun b hb => ⟨(h.oF b hb).1, d1 b hb, (h.oF b hb).2.2⟩, ⟨h.o4.1, d2⟩, h.pure.hst hs⟩
end
theorem func_nil (f : Fn) (a b : Array Value) (w : World) : (Go.binOp .eql 58 (.func f a b) .nilFunc).run Try.prog w = .ok (.bool false) w := by
 have h : Sem.run Try.prog (Op.equalIn Op.maxDepth 58 (.func f a b) .nilFunc) w = .ok false w := by
  have : ∀ d : Nat, Sem.run Try.prog (Op.equalIn (d + 1) 58 (.func f a b) .nilFunc) w = .ok false w := fun d => by
   simp [Op.equalIn, run_underlying Try.underlying58]
  exact this 9999
 simp [Go.binOp, Op.equal, h]
theorem c_apart1 {w0 w : World} {H : NP} {p p4 : Addr} {L : Sp.Pool} {F : NP} {r4 r6 : Int} (hW : Sp.Wf L) (h : ApAt w0 H w p p4 L F r4) (hH : ∀ b, H b → b < w.heap.size) (x1 : Bool) (hx : x1 = true → r4 ∈ Sp.subs L r6) :
  m_J_j1 (some p) p4 r6 x1 w0 H w (fun r w' => r = true ∧ Pure w0 w') := by
 unfold m_J_j1
 refine ⟨fun hc => ?_, fun hc => ?_⟩
 ·have hin := hx hc
  intro p5 w27 n5
  have E27 : Pure w w27 := Ext.new n5
  have B5 := Box.of_newA n5
  have b5 := n5.at_size
  have z27 := E27.size
  have l4 := h.b4.lt
  have nH5 : ¬ H p5.block := fun hh => by have := hH _ hh; omega
  refine ⟨B5.canW0 (by simp), nH5, ?_⟩
  rintro w28 e28
  have X28 : Ext (· = p5.block) w27 w28 := by rw [e28]; exact Ext.setCell _ _
  have B28 : Box w28 p5 [.bool false] 4 := by rw [e28]; exact B5.set0
  have E28 : Pure w w28 := E27.own (by omega) X28
  have h28 := h.pureE E28
  have zw := h.pure.size
  refine (c_Subs p r6 w28).mono ?_
  rintro _ w29 ⟨_, rfl, q2, q3, rfl, Bq2, Bq3, E29⟩
  have h29 := h28.pureE E29
  have B29 := B28.pure E29
  refine ⟨_, rfl, E29.keptP, false, func_nil _ _ _ _, fun hc => (by cases hc), fun _ => ?_⟩
  refine ⟨_, _, rfl, Try.call85, _, _, it_Subs hW h29.pool Bq2 Bq3, ?_⟩
  have d45 : p4.block ≠ p5.block := by omega
  have o5 : w0.heap.size ≤ p5.block := by omega
  refine ⟨fun pre Y A => Box A p5 [.bool (decide (r4 ∈ pre))] 4 ∧ Box A p4 [.int .i64 r4] 32 ∧ ¬ Y p5.block ∧ ¬ Y p4.block ∧ Pure w0 A, ⟨fun _ _ _ _ => trivial, ?_, fun _ _ _ _ _ h => h.elim, fun _ _ _ _ _ h => h.elim⟩, ⟨by simpa using B29, h29.b4, nH5, h29.o4.2, h29.pure⟩, ?_, ?_⟩
  ·rintro pre Y A Y' A' ⟨g1, g2, g3, g4, g5⟩ hst
   have v5 := hst.disj (G := (· = p5.block)) (fun b e => by subst e; exact ⟨g1.lt, g3⟩) _ rfl
   have v4 := hst.disj (G := (· = p4.block)) (fun b e => by subst e; exact ⟨g2.lt, g4⟩) _ rfl
   exact ⟨g1.ext hst.ext v5, g2.ext hst.ext v4, v5, v4, g5.hst hst⟩
  ·rintro pre z Y A ⟨g1, g2, g3, g4, g5⟩ hsA _
   have fin : ∀ (b : Bool) (w30 : World), b = decide (r4 ∈ pre ++ [z]) → w30 = A.setCell p5 (.bool b) → Kept Y A w30 ∧ (Box w30 p5 [.bool (decide (r4 ∈ pre ++ [z]))] 4 ∧ Box w30 p4 [.int .i64 r4] 32 ∧ ¬ Y p5.block ∧ ¬ Y p4.block ∧ Pure w0 w30) := by
    intro b w30 hb e30
    have X : Ext (· = p5.block) A w30 := by rw [e30]; exact Ext.setCell _ _
    refine ⟨X.kept (fun i hi e => g3 (e ▸ hi)), ?_, g2.ext X d45, g3, g4, g5.trans' X (fun i hi e => by omega)⟩
    rw [← hb, e30]; exact g1.set0
   refine ⟨_, g1.cell0, fun hc => ⟨g1.canW0 (by simp), id, fun w30 e30 => fin true w30 ?_ e30⟩, fun hc => ⟨r4, g2.cell0, g1.canW0 (by simp), id, fun w31 e31 => fin _ w31 ?_ e31⟩⟩
   ·have := of_decide_eq_true hc; symm; rw [decide_eq_true_eq]; exact List.mem_append_left _ this
   ·have := of_decide_eq_false hc
    rw [Bool.eq_iff_iff, beq_iff_eq, decide_eq_true_eq, List.mem_append, List.mem_singleton]
    exact ⟨fun e => .inr e.symm, fun hh => (hh.resolve_left this).symm⟩
  ·rintro H5 w32 hs32 _ _ ⟨g1, g2, g3, g4, g5⟩
   refine ⟨_, g1.cell0, fun _ => ?_, fun hc => absurd hin (of_decide_eq_false hc)⟩
   refine (c_live7 w32).mono ?_
   rintro _ w33 ⟨_, rfl, rfl, E33⟩
   exact ⟨_, rfl, E33.keptP, fun w34 hs34 => ⟨rfl, (g5.trans E33).hst hs34⟩⟩
 ·refine (c_live7 w).mono ?_
  rintro _ w33 ⟨_, rfl, rfl, E33⟩
  exact ⟨_, rfl, E33.keptP, rfl, h.pure.trans E33⟩
theorem encS_ok {L : Sp.Pool} {t : Int} (h : (encS L t).2 = 0) : Sp.inP L t = true ∧ (textOf L t).length ≤ 4096 ∧ encS L t = (textOf L t, 0) := by
 unfold encS at *
 split at h
 ·rename_i h1
  rw [if_pos h1]
  split at h
  ·cases h
  ·rename_i h2; rw [if_neg h2]; exact ⟨h1, by omega, rfl⟩
 ·cases h
theorem str_eq {a b : List UInt8} : ((⟨a.toArray⟩ : ByteArray) = ⟨b.toArray⟩) ↔ a = b := ⟨fun h => by simpa using h, fun h => by rw [h]⟩
theorem c_law07_WireApart {SX SY : NP} (x y : Sp.Tree) (sx sy : Sl) (w0 : World) (hX : TreeAt SX w0 sx x) (hSX : ∀ b, SX b → b < w0.heap.size) (hY : TreeAt SY w0 sy y) (hSY : ∀ b, SY b → b < w0.heap.size) (hNx : Sp.NumT x) (hNy : Sp.NumT y) :
  Calls Try.prog 5 #[.agg (trow x sx).toArray, .agg (trow y sy).toArray] w0 (fun e w' => ∃ r : Bool, e = .returned (.bool r) ∧ (r = true ∧ Pure w0 w')) := by
 obtain ⟨xk, xf, xt, xu, xx, xks⟩ := x
 obtain ⟨yk, yf, yt, yu, yx, yks⟩ := y
 refine w_J _ _ _ _ _ _ _ _ _ _ _ _ w0 (fun r w' => r = true ∧ Pure w0 w') ?_
 unfold m_J
 intro H2 w2 hs2
 have E2 : Pure w0 w2 := hs2.first
 intro p3 w3 n3
 have E3 : Pure w0 w3 := E2.trans (Ext.new n3)
 have B3 : Box w3 p3 (trow (.mk xk xf xt xu xx xks) sx ++ trow (.mk yk yf yt yu yx yks) sy) 52 := Box.of_newA n3
 have b3 := n3.at_size
 have zn : w2.heap.size ≤ w3.heap.size := (show Pure w2 w3 from Ext.new n3).size
 have z2 := E2.size; have z3 := E3.size
 have lp3 := B3.lt
 have hT3 : TreeAt (fun b => b < w3.heap.size) w3 ⟨some p3, 2, 2⟩ (.mk 0 0 0 0 ⟨#[]⟩ [.mk xk xf xt xu xx xks, .mk yk yf yt yu yx yks]) :=
  TreeAt.pair B3 lp3 ((hX.pure E3).mono (fun b hb => by have := hSX b hb; omega)) ((hY.pure E3).mono (fun b hb => by have := hSY b hb; omega))
 have hs3 : ∀ b, H2 b → b < w3.heap.size := fun b hb => by have := hs2.lt b hb; omega
 refine (c_law07_large _ _ w3 hT3 (fun _ h => h)).mono ?_
 rintro _ w4 ⟨r1, rfl, hr1, E4⟩
 refine ⟨_, rfl, E4.keptP, fun hc => ?_, fun hc => ?_⟩
 ·refine (c_live7 w4).mono ?_
  rintro _ w5 ⟨_, rfl, rfl, E5⟩
  exact ⟨_, rfl, E5.keptP, rfl, (E3.trans E4).trans E5⟩
 obtain ⟨_, hcn⟩ := hr1 hc
 simp only [Sp.cntAll] at hcn
 have E04 := E3.trans E4
 have z4 := E4.size
 refine (c_New w4).mono ?_
 rintro _ w6 ⟨_, rfl, p, rfl, E6, F0, hP0, hF0⟩
 have z6 := E6.size
 refine ⟨_, rfl, E6.keptP, fun hc => (by cases hc), fun _ => ?_⟩
 have E06 := E04.trans E6
 refine (c_ref05_Lent (.mk xk xf xt xu xx xks) sx w6 (by omega) (hX.pure E06) (fun b hb => by have := hSX b hb; omega)).mono ?_
 rintro _ w7 ⟨sL, rfl, hTL, E7⟩
 refine ⟨_, _, _, _, _, _, rfl, E7.keptP, ?_⟩
 have z7 := E7.size
 refine (c_Of (S := fun b => w6.heap.size ≤ b ∧ b < w7.heap.size) p (.mk xk xf xt xu xx xks) sL w7 hTL.lt (hP0.pure E7) Sp.Ok.nil (fun b hb hh => by have := hP0.lt hb; omega) (fun b hb => hb.2)).mono ?_
 rintro _ w8 ⟨r4, r5, rfl, h45, F1, hP1, X8, hF1⟩
 have z8 := X8.size
 have w1W : Sp.Wf (Sp.of [] (.mk xk xf xt xu xx xks)).2.2 := Sp.of_wf Sp.Wf.nil _
 have w1N : Sp.Nums (Sp.of [] (.mk xk xf xt xu xx xks)).2.2 := Sp.Nums.nil.of hNx
 have hxok := fun h => @Sp.of_tree [] Sp.Wf.nil (.mk xk xf xt xu xx xks) h
 generalize hL1 : Sp.of [] (.mk xk xf xt xu xx xks) = L1 at *
 obtain ⟨e4, e5⟩ := Prod.mk.inj h45
 have oF0 : ∀ b, F0 b → w4.heap.size ≤ b := hF0
 have E08 : Pure w0 w8 := (E06.trans E7).trans' X8 (fun i hi hb => by have := oF0 i hb; omega)
 have oF1 : ∀ b, F1 b → w4.heap.size ≤ b := fun b hb => (hF1 b hb).elim (oF0 b) (fun h => by omega)
 refine ⟨_, _, rfl, X8.kept (fun b hb hh => by have := hs3 b hb; have := oF0 b hh; omega), ?_⟩
 intro p4 w9 n9
 have E9 : Pure w8 w9 := Ext.new n9
 have B9 := Box.of_newA n9
 have b9 := n9.at_size
 have z9 := E9.size
 have nH4 : ¬ H2 p4.block := fun hh => by have := hs3 _ hh; omega
 refine ⟨B9.canW0 (by simp), nH4, ?_⟩
 rintro w10 e10
 have X10 : Ext (· = p4.block) w9 w10 := by rw [e10]; exact Ext.setCell _ _
 have B10 : Box w10 p4 [.int .i64 r4] 32 := by rw [e10]; exact B9.set0
 have z10 := X10.size
 have E8to10 : Pure w8 w10 := E9.own (by omega) X10
 have E010 := E08.trans E8to10
 have hP10 := hP1.pure E8to10
 refine (c_ref05_Lent (.mk yk yf yt yu yx yks) sy w10 (by omega) (hY.pure E010) (fun b hb => by have := hSY b hb; omega)).mono ?_
 rintro _ w11 ⟨sM, rfl, hTM, E11⟩
 have z11 := E11.size
 refine ⟨_, _, _, _, _, _, rfl, E11.keptP, ?_⟩
 have l10 := B10.lt
 refine (c_Of (S := fun b => w10.heap.size ≤ b ∧ b < w11.heap.size) p (.mk yk yf yt yu yx yks) sM w11 hTM.lt (hP10.pure E11) w1W.ok (fun b hb hh => by have := hP10.lt hb; omega) (fun b hb => hb.2)).mono ?_
 rintro _ w12 ⟨r6, r7, rfl, h67, F2, hP2, X12, hF2⟩
 have z12 := X12.size
 have w2W : Sp.Wf (Sp.of L1.2.2 (.mk yk yf yt yu yx yks)).2.2 := Sp.of_wf w1W _
 have w2N : Sp.Nums (Sp.of L1.2.2 (.mk yk yf yt yu yx yks)).2.2 := w1N.of hNy
 have hyok := fun h => @Sp.of_tree L1.2.2 w1W (.mk yk yf yt yu yx yks) h
 obtain ⟨M, hM⟩ := Sp.of_grows w1W.ok (.mk yk yf yt yu yx yks)
 generalize Sp.of L1.2.2 (.mk yk yf yt yu yx yks) = L2 at *
 obtain ⟨e6, e7⟩ := Prod.mk.inj h67
 have E012 : Pure w0 w12 := (E010.trans E11).trans' X12 (fun i hi hb => by have := oF1 i hb; omega)
 have A12 : ApAt w0 H2 w12 p p4 L2.2.2 F2 r4 := ⟨hP2, (B10.pure E11).ext X12 (fun hh => by have := hP1.lt hh; omega), fun b hb => (hF2 b hb).elim (fun h => ⟨by have := oF1 b h; omega, fun hh => by have := hs3 b hh; have := oF1 b h; omega, by have := hP1.lt h; omega⟩) (fun h => ⟨by omega, fun hh => by have := hs3 b hh; omega, by omega⟩), ⟨by omega, nH4⟩, E012⟩
 refine ⟨_, _, rfl, X12.kept (fun b hb hh => by have := hs3 b hb; have := oF1 b hh; omega), fun hc => ?_, fun hc => ?_⟩
 ·intro H3 w15 hs15
  have A15 := A12.hst hs15
  refine (c_live7 w15).mono ?_
  rintro _ w18 ⟨_, rfl, rfl, E18⟩
  exact ⟨_, rfl, E18.keptP, rfl, A15.pure.trans E18⟩
 have hc : r5 = 0 ∧ r7 = 0 := by simpa using hc
 obtain ⟨i1, _⟩ := hxok (by rw [← e5]; exact hc.1)
 obtain ⟨i2, _⟩ := hyok (by rw [← e7]; exact hc.2)
 rw [← e4] at i1; rw [← e6] at i2
 have i1 : Sp.inP L2.2.2 r4 = true := by rw [hM]; exact Sp.inP_app i1
 intro H3 w15 hs15
 have A15 := A12.hst hs15
 refine ⟨_, A15.b4.cell0, ?_⟩
 refine (c_Encode p r4 w15 w2W w2N A15.pool).mono ?_
 rintro _ w19 ⟨r9, r10, rfl, e10', hR9⟩
 have A19 := A15.pureE hR9.pure
 refine ⟨_, _, rfl, hR9.pure.keptP, ?_⟩
 refine (c_Encode p r6 w19 w2W w2N A19.pool).mono ?_
 rintro _ w20 ⟨r11, r12, rfl, e12', hR11⟩
 have A20 := A19.pureE hR11.pure
 have z15 := hR9.pure.size
 refine ⟨_, _, rfl, hR11.pure.keptP, fun hc => ?_, fun hc => ?_⟩
 ·intro H4 w23 hs23
  have A23 := A20.hst hs23
  refine (c_live7 w23).mono ?_
  rintro _ w26 ⟨_, rfl, rfl, E26⟩
  exact ⟨_, rfl, E26.keptP, rfl, A23.pure.trans E26⟩
 have hc2 : r10 = 0 ∧ r12 = 0 := by simpa using hc
 obtain ⟨_, _, ea⟩ := encS_ok (e10'.symm.trans hc2.1)
 obtain ⟨_, _, eb⟩ := encS_ok (e12'.symm.trans hc2.2)
 rw [ea] at hR9; rw [eb] at hR11
 simp only at hR9 hR11
 intro H4 w23 hs23
 have A23 := A20.hst hs23
 have hH3 : ∀ b, H3 b → b < w15.heap.size := fun b hb => hs15.lt b hb
 have hv : ∀ b, (r9.blk b ∨ r11.blk b) → ¬ H4 b := hs23.disj (fun b hb => hb.elim (fun h => ⟨by have := hR9.rows.lt h; have := hR11.pure.size; omega, fun hh => by have := hH3 b hh; have := hR9.own b h; omega⟩) (fun h => ⟨hR11.rows.lt h, fun hh => by have := hH3 b hh; have := hR11.own b h; omega⟩))
 have g9 := (hR9.rows.pure hR11.pure).ext hs23.ext (fun b hb => hv b (.inl hb))
 have g11 := hR11.rows.ext hs23.ext (fun b hb => hv b (.inr hb))
 refine ⟨_, str_of g9.lst, _, str_of g11.lst, _, A23.b4.cell0, fun hc => ?_, fun hc => ?_⟩
 ·exfalso
  have : decide ((⟨(textOf L2.2.2 r4).toArray⟩ : ByteArray) = ⟨(textOf L2.2.2 r6).toArray⟩) = ((r4 : Int) == r6) := by
   rw [Bool.eq_iff_iff, decide_eq_true_eq, beq_iff_eq, str_eq]
   exact ⟨fun h => text_inj w2W w2N i1 i2 h, fun h => by rw [h]⟩
  rw [this] at hc
  simp at hc
 have hl9 : r9.len = (textOf L2.2.2 r4).length := by rw [hR9.rows.len, byr_len]
 have hl11 : r11.len = (textOf L2.2.2 r6).length := by rw [hR11.rows.len, byr_len]
 have hlt4 : ∀ b, H4 b → b < w23.heap.size := fun b hb => hs23.lt b hb
 refine ⟨fun hc => ?_, fun hc => ?_⟩
 ·have hc : (textOf L2.2.2 r4).length < (textOf L2.2.2 r6).length := by have := of_decide_eq_true hc; omega
  intro w38 hs38
  have A38 := A23.hst hs38
  have k9 := g9.ext hs38.ext (fun b hb => hv b (.inl hb))
  have k11 := g11.ext hs38.ext (fun b hb => hv b (.inr hb))
  obtain ⟨s1, hsl, hR1, _⟩ := k11.hiA (P := Try.prog) slT_by (k := .i64) (n := (r9.len : Int)) (by omega) (by rw [byr_len]; omega)
  have hbt : (byr (textOf L2.2.2 r6)).take ((r9.len : Int).toNat) = byr ((textOf L2.2.2 r6).take (textOf L2.2.2 r4).length) := by rw [Int.toNat_natCast, hl9]; simp [byr, List.map_take]
  rw [hbt] at hR1
  refine ⟨_, str_of k9.lst, s1, hsl w38, _, str_of hR1.lst, ?_⟩
  refine c_apart1 w2W A38 (fun b hb => hs38.lt b hb) _ (fun hx => ?_)
  have hx := str_eq.1 (of_decide_eq_true hx)
  refine text_in w2W w2N i1 (c := (textOf L2.2.2 r6).drop (textOf L2.2.2 r4).length) ?_
  exact (congrArg (· ++ (textOf L2.2.2 r6).drop (textOf L2.2.2 r4).length) hx).trans (List.take_append_drop _ _)
 ·intro w38 hs38
  exact c_apart1 w2W (A23.hst hs38) (fun b hb => hs38.lt b hb) false (fun h => by cases h)
end Go.Proofs
end
section
namespace Go.SE
open Go.ChangeShapes Go.WideShapes Go.ChangeAt Go.RowKit
section
variable {H : Type} {enc : TypeId × Value → H} {P : Program}
theorem below_trodAll (hl : laidOutB P = true) {W W' : World} (hb : Below W.heap.size W W') : ∀ (ts : List TypeId) (vs : List Value) (ds : List (DataW H)) (ps : List MemPlace), (ts.all fun t => P.readableRec t && decide (t < P.types.size)) = true →
  DataW.TrodAll enc P W 0 (fun _ => true) true ts vs ds ps → (∀ x ∈ ps, x.block < W.heap.size) → DataW.TrodAll enc P W' 0 (fun b => decide (b < W.heap.size)) true ts vs ds ps
 | [], _, _, _, _, h, _ => by
  obtain ⟨rfl, rfl, rfl⟩ := trodAll_nil h
  exact h
 | t :: ts, _, _, _, hr, h, hlt => by
  obtain ⟨v, vs1, d, ds1, a, b, rfl, rfl, rfl, h1, h2⟩ := trodAll_cons h
  simp only [List.all_cons, Bool.and_eq_true, decide_eq_true_eq] at hr
  exact ⟨a, b, Below.trod hl hr.1.1 hr.1.2 h1 hb (fun x hx => hlt x (by simp [hx])), below_trodAll hl hb ts vs1 ds1 b (by simpa using hr.2) h2 (fun x hx => hlt x (by simp [hx])), rfl⟩
theorem law_post {f : Func} {s : ChangeSpec} {W W' : World} {args : Array Value} {ds gs : List (DataW H)} {before : List MemPlace} {t : TypeId} (hl : laidOutB P = true)
  (hv : s.vars = []) (hf : ∀ ds : List (DataW H), ds.length = f.params.size → s.fn H ds = { results := [.lit (.bool true)], args := ds }) (hrt : f.resultTypes = #[t]) (ht : P.underlying t = some .bool)
  (hr : (f.params.toList.all fun t => P.readableRec t && decide (t < P.types.size)) = true)
  (hW : DataW.Whole enc P f.params.toList s.vars false W args.toList ds gs before) (E : Pure W W') :
  s.post enc P f false true false false W args (.bool true) W' := by
 have hW' := hW
 obtain ⟨p, q, hA, hV, rfl, hfz, hnd⟩ := hW
 rw [hv] at hV
 obtain ⟨rfl, rfl⟩ := trodVars_none hV
 have hlen : ds.length = f.params.size := by
  have : ∀ (ts : List TypeId) (vs : List Value) (ds : List (DataW H)) (ps : List MemPlace), DataW.TrodAll enc P W 0 (fun _ => true) true ts vs ds ps → ds.length = ts.length := by
   intro ts
   induction ts with
   | nil => intro vs ds ps h; obtain ⟨_, rfl, _⟩ := trodAll_nil h; rfl
   | cons t ts ih =>
    intro vs ds ps h
    obtain ⟨v, vs1, d, ds1, a, b, _, rfl, _, _, h2⟩ := trodAll_cons h
    simp [ih _ _ _ h2]
  simpa using this _ _ _ _ hA
 have hfn := hf ds hlen
 have hfn' : s.fn H (ds ++ []) = { results := [.lit (.bool true)], args := ds } := by rw [List.append_nil]; exact hfn
 have hlt : ∀ x ∈ p, x.block < W.heap.size := fun x hx => by simpa using hW'.lt x (by simp [hx])
 have bel := E.below
 refine ⟨ds, [], p ++ [], [], p, [], hW', ?_, ?_, ?_, bel.frame _, fun h => by cases h⟩
 ·rw [hfn', hrt]; exact trodAll_mk1 (shut_bool ht _)
 ·rw [hfn']; exact below_trodAll hl bel _ _ _ _ hr hA hlt
 ·rw [hfn', hv]; exact hV
theorem law_lifted {C : Checked} {os : Os} {f : FuncId} {fn : Func} {s : ChangeSpec} {t : TypeId} (hl : laidOutB C.prog = true)
  (hv : s.vars = []) (hf : ∀ ds : List (DataW H), ds.length = fn.params.size → s.fn H ds = { results := [.lit (.bool true)], args := ds }) (hrt : fn.resultTypes = #[t]) (ht : C.prog.underlying t = some .bool)
  (hr : (fn.params.toList.all fun t => C.prog.readableRec t && decide (t < C.prog.types.size)) = true)
  (own : ownKnob C.prog.godebug = none) (started : os.Started) (noInit : C.prog.inits.idxOf? f = none) (hfn : C.prog.funcs[f]? = some fn)
  (witness : ∃ (w : World) (tape : Tape) (i : Input), w.os = os ∧ (w.forCall tape i).Shaped C.prog ∧ i.vars = [] ∧ Input.okWide C.prog (w.forCall tape i) .any w.heap.size f i ∧
   s.pre6 enc C.prog fn [] false (w.forCall tape i).memory i.args ∧ ({} : Assume).holds C.prog (lone (Frame.enter C.prog f i.args .normal) [] (w.forCall tape i)))
  (contract : ∀ (W : World) (base : Nat) (args : Array Value) (ds : List (DataW H)) (p : List MemPlace),
   (∀ (j : Nat) t v, fn.params[j]? = some t → args[j]? = some v → Value.okWide C.prog W .any base t v) →
   DataW.TrodAll enc C.prog W 0 (fun _ => true) true fn.params.toList args.toList ds p → (∀ x ∈ p, x.block < W.heap.size) →
   Calls C.prog f args W (fun e W' => ∃ r : Bool, e = .returned (.bool r) ∧ (r = true ∧ Pure W W'))) :
  ReturnsInHanded {} C os f .any (s.pre6 enc C.prog fn [] false) (s.post enc C.prog fn false true false false) := by
 refine returnsInHanded_of_change own started noInit hfn witness ?_
 intro W base args ds gs before hval hW _ _
 have hW' := hW
 obtain ⟨p, q, hA, hV, rfl, hfz, hnd⟩ := hW
 refine (contract W base args ds p hval hA (fun x hx => by simpa using hW'.lt x (by simp [hx]))).mono fun e W' ⟨r, he, h1, h2⟩ => ?_
 subst h1
 exact ⟨_, he, law_post hl hv hf hrt ht hr hW' h2⟩
end
end Go.SE
namespace Go.SE
open Go.ChangeShapes Go.WideShapes Go.ChangeAt Go.RowKit
section
variable {P : Program} {W : World} {r : Reach} {b0 : Nat} {t : TypeId} {v : Value}
theorem okWide_cells {fs : Array Field} {ts : List TypeId} (ht : P.underlying t = some (.struct fs)) (hc : P.cellTypes P.depth t = some ts) (hn : P.cellsOf t = ts.length) (h : Value.okWide P W r b0 t v) :
  ∃ cs : Array Value, v = .agg cs ∧ cs.size = ts.length ∧ ∀ (i : Nat) (u : TypeId) (c : Value), ts[i]? = some u → cs[i]? = some c → Cell.okWide P W r b0 u c := by
 unfold Value.okWide at h
 rw [ht] at h
 obtain ⟨cs, rfl, hs, ts', hts, _, hall⟩ := h
 rw [hc] at hts
 cases hts
 refine ⟨cs, rfl, hs.trans hn, fun i u c hu hcs => ?_⟩
 obtain ⟨u', hu', hok⟩ := hall i c hcs
 have hlt : i < ts.length := (List.getElem?_eq_some_iff.1 hu).1
 rw [Nat.mod_eq_of_lt hlt, hu] at hu'
 cases hu'
 exact hok
end
end Go.SE
end
section
open Go Go.SE
namespace Go.Proofs
theorem mapM_facts {α β : Type} {f : α → Option β} : ∀ {l : List α} {r : List β}, l.mapM f = some r → r.length = l.length ∧ ∀ (i : Nat) (a : α), l[i]? = some a → ∃ b, f a = some b ∧ r[i]? = some b
 | [], r, h => by
  have : r = [] := by simpa using h.symm
  subst this
  exact ⟨rfl, fun i a h => by simp at h⟩
 | x :: xs, r, h => by
  rw [List.mapM_cons] at h
  cases hx : f x with
  | none => simp [hx] at h
  | some y =>
   cases hxs : xs.mapM f with
   | none => simp [hx, hxs] at h
   | some ys =>
    have : r = y :: ys := by simpa [hx, hxs] using h.symm
    subst this
    obtain ⟨h1, h2⟩ := mapM_facts hxs
    refine ⟨by simp [h1], fun i a ha => ?_⟩
    cases i with
    | zero => cases ha; exact ⟨y, hx, rfl⟩
    | succ i => exact h2 i a (by simpa using ha)
theorem cells_row {w : World} {base : Nat} {a : Addr} {n : Nat} {cs : List Value} (h : w.cells? base a n = some cs) : cs.length = n ∧ Row w a cs := by
 obtain ⟨_, h1, h2⟩ := World.cells?_some h
 exact ⟨h1, fun j hj => h2 j (by omega)⟩
section
variable {H : Type} {enc : TypeId × Value → H} {P : Program} {W : World} {base : Nat} {sp : Nat → Bool} {held : Bool}
theorem trod_int1 {t : TypeId} {k : IntKind} (ht : P.underlying t = some (.int k)) {n : Nat} {c : Value} {x : DataW H × List MemPlace} (h : DataW.trod enc P W base sp held n t [c] = some x) : ∃ m, c = .int k m := by
 cases n with
 | zero => cases h
 | succ n =>
  rw [DataW.trod_step] at h
  unfold DataW.trodStep at h
  rw [ht] at h
  cases c <;> simp at h
  obtain ⟨⟨rfl, _⟩, _⟩ := h
  exact ⟨_, rfl⟩
theorem trod_u64 {t : TypeId} (ht : P.underlying t = some (.int .u64)) {n : Nat} {c : Value} {x : DataW H × List MemPlace} (h : DataW.trod enc P W base sp held n t [c] = some x) : ∃ m, c = .int .u64 m ∧ Sp.isNum m := by
 cases n with
 | zero => cases h
 | succ n =>
  rw [DataW.trod_step] at h
  unfold DataW.trodStep at h
  rw [ht] at h
  cases c with
  | int k z =>
   simp only at h
   split at h
   ·rename_i hw
    obtain ⟨rfl, hw⟩ := hw
    have h1 : IntKind.u64.min = 0 := by rfl
    have h2 : IntKind.u64.max = 18446744073709551615 := by rfl
    simp only [Lit.wf, Bool.and_eq_true, decide_eq_true_eq, h1, h2] at hw
    exact ⟨z, rfl, by omega, by omega⟩
   ·cases h
  | _ => simp at h
theorem trod_str1 {t : TypeId} (ht : P.underlying t = some .string) {n : Nat} {c : Value} {x : DataW H × List MemPlace} (h : DataW.trod enc P W base sp held n t [c] = some x) : ∃ m, c = .string m := by
 cases n with
 | zero => cases h
 | succ n =>
  rw [DataW.trod_step] at h
  unfold DataW.trodStep at h
  rw [ht] at h
  cases c <;> simp at h
  exact ⟨_, rfl⟩
theorem trod_slice1 {t e : TypeId} (ht : P.underlying t = some (.slice e)) {n : Nat} {c : Value} {x : DataW H × List MemPlace} (h : DataW.trod enc P W base sp held (n + 1) t [c] = some x) :
  c = .slice none 0 0 ∨ ∃ a len cap, c = .slice (some a) len cap ∧ len ≤ cap ∧ cap ≤ maxLen ∧ ∀ i, i < len → ∃ cs y, W.cells? base (a.add (i * P.cellsOf e)) (P.cellsOf e) = some cs ∧ DataW.trod enc P W base sp held n e cs = some y := by
 rw [DataW.trod_step] at h
 unfold DataW.trodStep at h
 rw [ht] at h
 cases c with
 | slice a len cap =>
  cases a with
  | none =>
   cases len with
   | zero => cases cap with
    | zero => exact .inl rfl
    | succ c => simp at h
   | succ l => simp at h
  | some a =>
   right
   simp only at h
   split at h
   ·rename_i hc
    refine ⟨a, len, cap, rfl, hc.2.1, hc.2.2, fun i hi => ?_⟩
    cases hm : (List.range len).mapM fun i => (W.cells? base (a.add (i * P.cellsOf e)) (P.cellsOf e)).bind (DataW.trod enc P W base sp held n e) with
    | none => rw [hm] at h; cases h
    | some r =>
     obtain ⟨b, hb, _⟩ := (mapM_facts hm).2 i i (by simp [hi])
     obtain ⟨cs, h1, h2⟩ := Option.bind_eq_some_iff.1 hb
     exact ⟨cs, b, h1, h2⟩
   ·cases h
 | _ => simp at h
structure TreeTypes (P : Program) (tS tT : TypeId) : Prop where
 ex : ∃ ti tu ts : TypeId, ∃ f0 f1 f2 f3 f4 f5 : Field, P.underlying tS = some (.slice tT) ∧ P.underlying tT = some (.struct #[f0, f1, f2, f3, f4, f5]) ∧ P.cellsOf tT = 6 ∧
  (f0.type = ti ∧ f1.type = ti ∧ f2.type = ti ∧ f3.type = tu ∧ f4.type = ts ∧ f5.type = tS) ∧ (f0.offset = 0 ∧ f1.offset = 1 ∧ f2.offset = 2 ∧ f3.offset = 3 ∧ f4.offset = 4 ∧ f5.offset = 5) ∧
  P.underlying ti = some (.int .i64) ∧ P.underlying tu = some (.int .u64) ∧ P.underlying ts = some .string ∧ P.cellsOf ti = 1 ∧ P.cellsOf tu = 1 ∧ P.cellsOf ts = 1 ∧ P.cellsOf tS = 1
theorem trod_tree {tS tT : TypeId} (hTT : TreeTypes P tS tT) : ∀ n : Nat,
  (∀ (c : Value) (x : DataW H × List MemPlace), DataW.trod enc P W base sp held n tS [c] = some x → ∃ s : Sl, ∃ ts : List Sp.Tree, c = s.v ∧ (∀ (k f t u : Int) (tx : ByteArray), TreeAt (fun _ => True) W s (.mk k f t u tx ts)) ∧ ∀ i (hi : i < ts.length), Sp.NumT ts[i]) ∧
  (∀ (cs : List Value) (x : DataW H × List MemPlace), DataW.trod enc P W base sp held n tT cs = some x → ∃ t s, cs = trow t s ∧ TreeAt (fun _ => True) W s t ∧ Sp.NumT t) := by
 obtain ⟨ti, tu, tx, f0, f1, f2, f3, f4, f5, hS, hT, hc6, ⟨e0, e1, e2, e3, e4, e5⟩, ⟨o0, o1, o2, o3, o4, o5⟩, ui, uu, us, ci, cu, cs1, cS⟩ := hTT.ex
 intro n
 induction n with
 | zero => exact ⟨fun c x h => (by cases h), fun cs x h => (by cases h)⟩
 | succ n ih =>
  refine ⟨fun c x h => ?_, fun cs x h => ?_⟩
  ·rcases trod_slice1 hS h with rfl | ⟨a, len, cap, rfl, hle, hcm, hel⟩
   ·exact ⟨Sl.nil, [], rfl, fun k f t u tx => .mk k f t u tx [] Sl.nil (fun _ => Sl.nil) rfl (by simp) (fun i h => by simp at h) (fun i h => by simp at h), fun i hi => absurd hi (Nat.not_lt_zero i)⟩
   ·rw [hc6] at hel
    have hex : ∀ i, ∃ q : Sp.Tree × Sl, i < len → Row W (a.add (i * 6)) (trow q.1 q.2) ∧ TreeAt (fun _ => True) W q.2 q.1 ∧ Sp.NumT q.1 := by
     intro i
     by_cases hi : i < len
     ·obtain ⟨cs, y, h1, h2⟩ := hel i hi
      obtain ⟨tr, s, e, hTr⟩ := ih.2 cs y h2
      exact ⟨(tr, s), fun _ => ⟨e ▸ (cells_row h1).2, hTr⟩⟩
     ·exact ⟨(Sp.Tree.mk 0 0 0 0 ⟨#[]⟩ [], Sl.nil), fun h => absurd h hi⟩
    obtain ⟨q, hq⟩ := Classical.axiomOfChoice hex
    refine ⟨⟨some a, len, cap⟩, (List.range len).map fun i => (q i).1, rfl, ?_, fun i hi => by rw [List.getElem_map, List.getElem_range]; exact (hq i (by simpa using hi)).2.2⟩
    refine fun k f t u tx => .mk k f t u tx _ _ (fun i => (q i).2) (by simp) (by simp only [maxLen] at hcm; simp; omega) (fun i h => ?_) (fun i h => ?_)
    ·have hi : i < len := by simpa using h
     refine ⟨a.add (i * 6), ⟨by omega, by simpa using hi, a, rfl, by simp⟩, trivial, ?_⟩
     simpa using (hq i hi).1
    ·have hi : i < len := by simpa using h
     simpa using (hq i hi).2.1
  ·rw [DataW.trod_step] at h
   unfold DataW.trodStep at h
   rw [hT] at h
   simp only at h
   split at h
   ·rename_i hl
    rw [hc6] at hl
    match cs, hl with
    | [c0, c1, c2, c3, c4, c5], _ =>
     cases hm : ([f0, f1, f2, f3, f4, f5] : List Field).mapM (fun f => DataW.trod enc P W base sp held n f.type ((([c0, c1, c2, c3, c4, c5] : List Value).drop f.offset).take (P.cellsOf f.type))) with
     | none => rw [hm] at h; cases h
     | some r =>
      have hf := (mapM_facts hm).2
      obtain ⟨_, h0, _⟩ := hf 0 f0 rfl
      obtain ⟨_, h1, _⟩ := hf 1 f1 rfl
      obtain ⟨_, h2, _⟩ := hf 2 f2 rfl
      obtain ⟨_, h3, _⟩ := hf 3 f3 rfl
      obtain ⟨_, h4, _⟩ := hf 4 f4 rfl
      obtain ⟨_, h5, _⟩ := hf 5 f5 rfl
      rw [e0, o0, ci] at h0; rw [e1, o1, ci] at h1; rw [e2, o2, ci] at h2; rw [e3, o3, cu] at h3; rw [e4, o4, cs1] at h4; rw [e5, o5, cS] at h5
      obtain ⟨m0, rfl⟩ := trod_int1 ui h0
      obtain ⟨m1, rfl⟩ := trod_int1 ui h1
      obtain ⟨m2, rfl⟩ := trod_int1 ui h2
      obtain ⟨m3, rfl, hu⟩ := trod_u64 uu h3
      obtain ⟨m4, rfl⟩ := trod_str1 us h4
      obtain ⟨s, ts, rfl, hTr, hNr⟩ := ih.1 c5 _ h5
      exact ⟨.mk m0 m1 m2 m3 m4 ts, s, rfl, hTr m0 m1 m2 m3 m4, .mk _ _ _ _ _ _ hu hNr⟩
   ·cases h
end
theorem treeTypes : TreeTypes Try.prog 22 52 :=
 ⟨3, 50, 9, _, _, _, _, _, _, Try.underlying22, Try.underlying52, by kernel_rfl, ⟨rfl, rfl, rfl, rfl, rfl, rfl⟩, ⟨rfl, rfl, rfl, rfl, rfl, rfl⟩, Try.underlying3, Try.underlying50, Try.underlying9, by kernel_rfl, by kernel_rfl, by kernel_rfl, by kernel_rfl⟩
end Go.Proofs
end
