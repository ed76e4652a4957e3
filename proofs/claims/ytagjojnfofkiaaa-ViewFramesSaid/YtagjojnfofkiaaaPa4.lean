import Derived.Test.YtagjojnfofkiaaaPa3
import Derived.Test.YtagjojnfofkiaaaPa1
import Derived.RangeFuncSeq
import Derived.RangeFuncIn
import Derived.Test.YtagjojnfofkiaaaProg
import Derived.KernelRfl
section
open Go Go.SE
namespace Go.Proofs
attribute [local irreducible] Calls
theorem c_kids (p : Addr) (t : Int) (w : World) {L : Sp.Pool} {F : Nat → Prop} (hP : PoolAt w p L F) (hok : Sp.Ok L) : Calls Try.prog 56 #[.pointer (some p), .int .i64 t] w (fun e w' => ∃ s : Sl, e = .returned s.v ∧ (Lst (fun b => w.heap.size ≤ b ∧ b < w'.heap.size) w' 1 s (tmr (Sp.kidsOf (Sp.nodeOf L t))) ∧ Pure w w')) := by
 refine w_L2 _ _ w (fun s w' => Lst (fun b => w.heap.size ≤ b ∧ b < w'.heap.size) w' 1 s (tmr (Sp.kidsOf (Sp.nodeOf L t))) ∧ Pure w w') ?_
 unfold m_L2
 refine (c_Node p t w hP hok).mono ?_
 rintro _ w1 ⟨k, f, t', u, x, a, b, r, rfl, ⟨hn, _⟩, E1⟩
 refine ⟨_, _, _, _, _, _, _, _, rfl, ?_⟩
 intro p2 w2 h2
 have E2 : Pure w w2 := E1.trans (Ext.new h2)
 have o2 := New.own E1 h2
 refine bx 7 (Box.of_new h2) rfl rfl (fun w3 b2 E => ?_)
 have E3 : Pure w w3 := E2.own o2 E
 refine ⟨k, b2.cell0, ?_⟩
 refine (c_shapeOf k w3).mono ?_
 rintro _ w4 ⟨s1, s2, s3, s4, s5, ok, rfl, ⟨hs, _⟩, E4⟩
 refine ⟨_, _, _, _, _, _, rfl, ?_⟩
 have b24 := b2.pure E4
 intro p3 w5 h5
 have E5 : Pure w4 w5 := Ext.new h5
 have b25 := b24.pure E5
 have ne : p2.block ≠ p3.block := h5.ne b24.blk
 have E05 : Pure w w5 := (E3.trans E4).trans E5
 have o5 := New.own (E3.trans E4) h5
 refine bx 5 (Box.of_new h5) rfl rfl (fun w6 b3 E => ?_)
 have b26 := b25.ext E ne
 have E06 : Pure w w6 := E05.own o5 E
 refine ⟨a, b26.cell rfl, b, b26.cell rfl, ?_⟩
 intro p4 w7 h7
 have E7 : Pure w6 w7 := Ext.new h7
 have b4 := Box.of_new h7
 have hsh : Sp.shapeOf k = ⟨s1, s2, s3, s4, s5⟩ := hs.symm
 have hk5 : s5 = 0 ∨ s5 = 1 ∨ s5 = 2 := by have := Sp.kids_le k; rw [hsh] at this; exact this
 refine ⟨s5, (b3.pure E7).cell rfl, _, run_cut2 p4 s5 w7 hk5, ?_, E06.trans E7⟩
 have hks : Sp.kidsOf (Sp.nodeOf L t) = [a, b].take s5.toNat := by rw [← hn]; simp [Sp.kidsOf, hsh]
 rw [hks]
 have z := h7.at_size
 have z6 := E06.size
 have zl := b4.lt
 refine ⟨by rcases hk5 with rfl | rfl | rfl <;> rfl, fun i hi => ?_⟩
 rw [tmr_len] at hi
 have hi2 : i < s5.toNat := by simp at hi; omega
 refine ⟨p4.add (i * 1), ⟨by omega, by show (i : Int) < (s5.toNat : Int); omega, p4, rfl, rfl⟩, by rw [add_block]; omega, ?_⟩
 intro j hj
 have hj1 : j < 1 := by simp only [tmr, List.getElem_map, List.length_cons, List.length_nil] at hj; omega
 have hj0 : j = 0 := by omega
 subst hj0
 rw [add_add]
 have h01 : i = 0 ∨ i = 1 := by omega
 rcases h01 with rfl | rfl
 ·rw [b4.cell (i := 0 * 1 + 0) rfl]; simp [tmr]
 ·rw [b4.cell (i := 1 * 1 + 0) rfl]; simp [tmr]
theorem c_Tree (p : Addr) {L : Sp.Pool} (hW : Sp.Wf L) : ∀ (n : Nat) (t : Int) (w0 : World) (F : Nat → Prop), t.toNat = n → PoolAt w0 p L F →
  Calls Try.prog 27 #[.pointer (some p), .int .i64 t] w0 (RetT w0.heap.size w0 (Sp.treeOf L t)) := by
 intro n
 induction n using Nat.strongRecOn with
 | _ n ih =>
 intro t w0 F hn hP
 suffices key : ∀ K : Int → Int → Int → Int → ByteArray → Sl → World → Prop, (∀ k f t' u x s' w' ks, Sp.treeOf L t = .mk k f t' u x ks → TreeAt (w0.heap.size ≤ ·) w' s' (.mk k f t' u x ks) → Pure w0 w' → K k f t' u x s' w') → m_C1 (some p) t w0 K by
  refine (w_C1 _ _ w0 (fun k f t' u x s' w' => ∃ ks, Sp.treeOf L t = .mk k f t' u x ks ∧ TreeAt (w0.heap.size ≤ ·) w' s' (.mk k f t' u x ks) ∧ Pure w0 w') (key _ (fun k f t' u x s' w' ks h1 h2 h3 => ⟨ks, h1, h2, h3⟩))).mono ?_
  rintro _ w' ⟨k, f, t', u, x, s', rfl, ks, h1, h2, h3⟩
  rw [h1]
  exact ⟨s', rfl, h2, h3⟩
 intro K hK
 have hok := hW.ok
 have hnil : ∀ b, ¬ Sl.nil.blk b := fun b hb => by obtain ⟨a, h, _⟩ := hb; cases h
 unfold m_C1
 intro p2 w1 h1
 have E1 : Pure w0 w1 := Ext.new h1
 have b1 := Box.of_new h1
 have z1 := h1.at_size
 have l1 := b1.lt
 refine (c_Node p t w1 (hP.pure E1) hok).mono ?_
 rintro _ w2 ⟨k, f, t', u, x, a, b, r, rfl, ⟨hnd, hr⟩, E2⟩
 refine ⟨_, _, _, _, _, _, _, _, rfl, ?_⟩
 intro p3 w3 h3
 have b2 := b1.pure E2
 have n23 : p2.block ≠ p3.block := h3.ne b2.blk
 have E3 : Pure w0 w3 := (E1.trans E2).trans (Ext.new h3)
 have o3 := New.own (E1.trans E2) h3
 have b23 := b2.pure (Ext.new h3 : Pure w2 w3)
 refine bx 7 (Box.of_new h3) rfl rfl (fun w4 b3 X4 => ?_)
 have b24 := b23.ext X4 n23
 have E4 : Pure w0 w4 := E3.own o3 X4
 refine ⟨fun h => ?_, fun h => ?_⟩
 ·have hin : Sp.inP L t = false := by rw [← hr]; simpa using h
  refine bx 6 b24 rfl rfl (fun w5 b5 X5 => ⟨_, _, _, _, _, Sl.nil, b5.row, ?_⟩)
  exact hK _ _ _ _ _ _ _ [] (by rw [Sp.treeOf_none hin]; rfl) TreeAt.leaf (E4.own (by omega) X5)
 ·have hin : Sp.inP L t = true := by rw [← hr]; simpa using h
  have htr := Sp.treeOf_in hW hin
  have hnode := hW.node hin
  obtain ⟨_, _, _, _, hkid, _, _⟩ := hnode
  have hpos := Sp.inP_iff.1 hin
  refine ⟨k, b3.cell0, f, b3.cell rfl, t', b3.cell rfl, u, b3.cell rfl, x, b3.cell rfl, ?_⟩
  intro p4 w6 h6
  have n24 : p2.block ≠ p4.block := h6.ne b24.blk
  have E6 : Pure w4 w6 := Ext.new h6
  have o6 := New.own E4 h6
  have b26 := b24.pure E6
  refine bx 6 (Box.of_new h6) rfl rfl (fun w7 b4 X7 => ?_)
  have b27 := b26.ext X7 n24
  have E7 : Pure w0 w7 := (E4.trans E6).own o6 X7
  refine (c_kids p t w7 (hP.pure E7) hok).mono ?_
  rintro _ w8 ⟨r2, rfl, hL, E8⟩
  refine ⟨r2, rfl, ?_⟩
  generalize hks : Sp.kidsOf (Sp.nodeOf L t) = ks at *
  have hkl : ks.length ≤ 2 := by rw [← hks, Sp.kidsOf_len]; have := Sp.kids_le (Sp.nodeOf L t).kind; omega
  have hrl : r2.len = ks.length := by rw [hL.len, tmr_len]
  have q7 := b4.lt
  have q8 := E8.size
  refine ⟨fun i w => ∃ (j : Nat) (xs : Sl) (ps : List (Sp.Tree × Sl)), i = j ∧ j ≤ ks.length ∧ Pure w0 w ∧ w8.heap.size ≤ w.heap.size ∧ Lst (fun b => w7.heap.size ≤ b ∧ b < w8.heap.size) w 1 r2 (tmr ks) ∧ Box w p2 [.int .i64 0, .int .i64 0, .int .i64 0, .int .u64 0, .string ⟨#[]⟩, Sl.nil.v] 63 ∧ Box w p4 [.int .i64 k, .int .i64 f, .int .i64 t', .int .u64 u, .string x, xs.v] 63 ∧
   Rws w 63 6 xs (ps.map prow) ∧ (∀ b, xs.blk b → w8.heap.size ≤ b) ∧ (∀ q ∈ ps, TreeAt (fun b => w8.heap.size ≤ b ∧ ¬ xs.blk b) w q.2 q.1) ∧ ps.map Prod.fst = (ks.take j).map (Sp.treeOf L), fun i _ => ((ks.length : Int) - i).toNat, ⟨0, Sl.nil, [], rfl, Nat.zero_le _, E7.trans E8, Nat.le_refl _, hL, b27.pure E8, b4.pure E8, Rws.nil _ _ _, fun b hb => (hnil b hb).elim, fun q hq => by simp at hq, by simp⟩, ?_⟩
  rintro _ w ⟨j, xs, ps, rfl, hj, E, zw, hLw, b2w, b4w, hxs, hxo, hps, hpf⟩
  have hpl : ps.length = j := by have := congrArg List.length hpf; simp at this; omega
  unfold m_C1_l1
  refine ⟨fun h => ?_, fun h => ?_⟩
  ·have hlt := lt_of_dec hrl h
   obtain ⟨ad, hat, hSa, hc⟩ := tm_nth hLw hlt
   refine ⟨ad, hat, ks[j], hc, fun w => Box w p4 [.int .i64 k, .int .i64 f, .int .i64 t', .int .u64 u, .string x, xs.v] 63, b4w.pure (Ext.drew w : Pure _ _), ?_⟩
   rintro _ rfl
   refine ⟨xs, fun _ h => h.cell rfl, ?_⟩
   have Ed : Pure w w.drew := Ext.drew w
   have hkj := hkid ks[j] (List.getElem_mem hlt)
   have hkp := Sp.inP_iff.1 hkj.1
   refine (ih ks[j].toNat (by omega) ks[j] w.drew F rfl (hP.pure (E.trans Ed))).mono ?_
   rintro _ w10 ⟨s', rfl, hTb, E10⟩
   generalize hTt : Sp.treeOf L ks[j] = tb at *
   obtain ⟨k2, f2, t2, u2, x2, ks2⟩ := tb
   have E10' : Pure w w10 := Ed.trans E10
   refine ⟨_, _, _, _, _, s', rfl, b4w.pure E10', ?_⟩
   intro p5 w11 h11
   have E11 : Pure w w11 := E10'.trans (Ext.new h11)
   refine ⟨b4w.pure E11, ?_⟩
   have zd : w.drew.heap.size = w.heap.size := rfl
   have z10 := E10.size
   have z11 := (Ext.new h11 : Pure w10 w11).size
   have np4 : ¬ xs.blk p4.block := fun hb => by have := hxo _ hb; omega
   have np2 : ¬ xs.blk p2.block := fun hb => by have := hxo _ hb; have := b27.lt; omega
   obtain ⟨s1, w12, hr12, hR12, X12, hb12⟩ := (hxs.pure E11).append (P := Try.prog) (ty := 22) (c := 1) slT_tree (r := trow (.mk k2 f2 t2 u2 x2 ks2) s') (Box.of_new h11).row rfl (trow_one _ _) (by simp; omega) (by simp [maxLen]; omega)
   have b412 := (b4w.pure E11).ext X12 np4
   refine ⟨s1, w12, hr12, b412, b412.canW (by simp), ?_⟩
   rintro _ rfl
   have X13 := Ext.setCell (w := w12) (p4.add 5) s1.v
   rw [add_block] at X13
   have z12 := X12.size
   have z13 := X13.size
   rw [wrap_succ hlt (by omega)]
   have hs1 : ∀ b, s1.blk b → xs.blk b ∨ w.heap.size ≤ b := fun b hb => (hb12 b hb).imp_right (fun h => by omega)
   have hs1o : ∀ b, s1.blk b → w8.heap.size ≤ b := fun b hb => (hs1 b hb).elim (hxo b) (fun h => by omega)
   have np4' : ¬ s1.blk p4.block := fun hb => by have := hs1o _ hb; omega
   have q12 := b412.lt
   refine ⟨⟨j + 1, s1, ps ++ [(.mk k2 f2 t2 u2 x2 ks2, s')], rfl, hlt, ?_, by omega, ?_, ?_, b412.set 5 s1.v, ?_, hs1o, ?_, ?_⟩, lt_dec hlt⟩
   ·exact ((E.trans E11).trans' X12 (fun i hi hs => by have := hxo i hs; have := E7.size; omega)).trans' X13 (fun i hi e => by omega)
   ·exact ((hLw.pure E11).ext X12 (fun b hb hs => by have := hxo b hs; omega)).ext X13 (fun b hb e => by omega)
   ·exact ((b2w.pure E11).ext X12 np2).ext X13 n24
   ·have := hR12.ext X13 (fun b hb e => np4' (e ▸ hb))
    simpa [prow] using this
   ·intro q hq
    rcases List.mem_append.1 hq with h | h
    ·have h' := ((hps q h).lt.pure E11).ext X12 (fun b hb hs => hb.1.2 hs)
     refine (h'.ext X13 (fun b hb e => by have := hb.1.1; omega)).mono (fun b hb => ⟨hb.1.1, fun hs => (hs1 b hs).elim hb.1.2 (fun h => by have := hb.2; omega)⟩)
    ·simp only [List.mem_singleton] at h; subst h
     have h' := ((hTb.lt.pure (Ext.new h11 : Pure w10 w11)).ext X12 (fun b hb hs => by have := hxs.lt hs; have := hb.1; omega))
     refine (h'.ext X13 (fun b hb e => by have := hb.1; omega)).mono (fun b hb => ⟨by have := hb.1; omega, fun hs => (hb12 b hs).elim (fun h => by have := hxs.lt h; have := hb.1; omega) (fun h => by have := hb.2; omega)⟩)
   ·rw [List.map_append, hpf, List.take_succ_eq_append_getElem hlt, List.map_append]
    simp [hTt]
  ·have hge := eq_of_dec hrl hj h
   subst hge
   rw [List.take_length] at hpf
   refine ⟨k, f, t', u, x, xs, b4w.row, bx 6 b2w rfl rfl (fun w14 b14 X14 => ⟨k, f, t', u, x, xs, b14.row, ?_⟩)⟩
   have np2 : ¬ xs.blk p2.block := fun hb => by have := hxo _ hb; have := b27.lt; omega
   have hT := TreeAt.of_pairs (S := fun b => w0.heap.size ≤ b) (k := k) (f := f) (t := t') (u := u) (x := x) (hxs.ext X14 (fun b hb e => np2 (e ▸ hb))) (fun b hb => by have := hxo b hb; have := E7.size; omega) (fun q hq => ?_) (by omega)
   ·rw [hpf] at hT
    rw [← hnd] at htr
    exact hK _ _ _ _ _ _ _ _ htr hT (E.own (by omega) X14)
   ·exact ((hps q hq).ext X14 (fun b hb e => by have := hb.1; have := b27.lt; omega)).mono (fun b hb => by have := hb.1; have := E7.size; omega)
end Go.Proofs
end
section
open Go Go.SE
namespace Go.SE
theorem Ext.putObj (w : World) (r : Nat) (o : Obj) : Ext (· = r) w (w.putObj r o) := ⟨rfl, rfl, rfl, by simp, fun b _ hne => World.putObj_heap_other hne⟩
abbrev Yld (P : Program) (l : Nat) (args : Array Value) (w : World) (R : Ending → World → Prop) : Prop := YieldAt Fence.wide 0 P l args w R
def IterC (P : Program) (gf : FuncId) (lb : Array Value) {α : Type} (encs : α → Array Value) (xs : List α) (Rd : World → Prop) (w : World) : Prop :=
 ∀ (l : Nat) (J Jx : List α → (Nat → Prop) → World → Prop) (W : World), Pure w W →
  (∀ pre X A, J pre X A → Rd A) →
  (∀ pre X A X' A', J pre X A → Hst W X A X' A' → J pre X' A') →
  (∀ pre X A X' A', Jx pre X A → Hst W X A X' A' → Jx pre X' A') →
  (∀ pre y X A, J pre X A → Hst W X A X A → (∃ post, xs = pre ++ y :: post) → Yld P l (encs y) A (fun e A' => (e = .returned (.bool true) ∧ Kept X A A' ∧ J (pre ++ [y]) X A') ∨ (e = .returned (.bool false) ∧ Kept X A A' ∧ Jx (pre ++ [y]) X A'))) →
  J [] None W →
  Calls P gf (#[.func (.yield l) #[] #[]] ++ lb) W (fun e A => (∃ v, e = .returned v) ∧ ∃ X, Hst W X A X A ∧ (J xs X A ∨ ∃ pre, Jx pre X A))
def setPs : List Nat → List Value → Env → Env
 | p :: ps, v :: vs, ρ => setPs ps vs (upd ρ p v)
 | _, _, ρ => ρ
theorem rep_setPs {n : Nat} : ∀ (ps : List Nat) (vs : List Value) (ρ : Env) (t : Array Value), (∀ p ∈ ps, p < n) → Rep [] n ρ { tmps := t, defers := [] } →
  Rep [] n (setPs ps vs ρ) { tmps := (ps.zip vs).foldl (fun t (x : Nat × Value) => t.setIfInBounds x.1 x.2) t, defers := [] }
 | [], vs, ρ, t, _, h => by cases vs <;> exact h
 | p :: ps, [], ρ, t, _, h => h
 | p :: ps, v :: vs, ρ, t, hp, h => by
  rw [List.zip_cons_cons, List.foldl_cons]
  exact rep_setPs ps vs _ _ (fun q hq => hp q (by simp [hq])) (h.put (d := some p) (fun k hk => by cases hk; exact hp p (by simp)) v)
def roundE (id : Nat) (Y : Nat → Prop) (A : World) (I Ix Ir : (Nat → Prop) → World → Prop) : Exit → Env → World → Prop
 | .normal, _, A' => Kept Y A A' ∧ I Y A'
 | .exit id', _, A' => id' = id ∧ Kept Y A A' ∧ Ix Y A'
 | .ret, _, A' => Kept Y A A' ∧ Ir Y A'
 | _, _, _ => False
def afterE (D : Nat) (Q : Exit → Env → World → Prop) : Exit → Env → World → Prop
 | .ret, ρ, w => w.heap[D]? = some (.deferred (some [])) ∧ Q .ret ρ (w.putObj D (.deferred none))
 | _, _, _ => False
theorem Kept.trans {H : Nat → Prop} {a b c : World} (h : Kept H a b) (k : Kept H b c) : Kept H a c := ⟨Nat.le_trans h.size k.size, fun i hi hH => (k.keep i (Nat.lt_of_lt_of_le hi h.size) hH).trans (h.keep i hi hH)⟩
theorem Kept.mono {H H' : Nat → Prop} {a b : World} (h : Kept H a b) (hs : ∀ b, H' b → H b) : Kept H' a b := ⟨h.size, fun i hi hH => h.keep i hi (hs i hH)⟩
structure RngI {α : Type} (w0 : World) (Rd : World → Prop) (I Ix Ir : List α → (Nat → Prop) → World → Prop) : Prop where
 rd : ∀ pre Y A, I pre Y A → Rd A
 i : ∀ pre Y A Y' A', I pre Y A → Hst w0 Y A Y' A' → I pre Y' A'
 x : ∀ pre Y A Y' A', Ix pre Y A → Hst w0 Y A Y' A' → Ix pre Y' A'
 r : ∀ pre Y A Y' A', Ir pre Y A → Hst w0 Y A Y' A' → Ir pre Y' A'
def wpB (P : Program) (n : Nat) (c y : Code) (Q : Exit → Env → World → Prop) (ρ : Env) (w : World) : Prop := ∀ a, Rep [] n ρ a → c.wpIn (fen none) 0 P (Exit.then (fun a w => y.wpIn (fen none) 0 P (lift ⟨none, []⟩ n Q) a w) (lift ⟨none, []⟩ n Q)) a w
theorem wpE_seqC {P : Program} {n : Nat} {Q : Exit → Env → World → Prop} {ρ : Env} {w : World} {a c y : Code} (h : wpE (x := ⟨none, []⟩) P n a (thenE (fun ρ w => wpB P n c y Q ρ w) Q) ρ w) : wpE (x := ⟨none, []⟩) P n (.seq (.seq a c) y) Q ρ w := fun a ha =>
 wpIn_seq (wpIn_seq (wpIn_mono (h a ha) (fun e a w hl => by
  cases e with
  | normal => obtain ⟨ρ', hr, hq⟩ := lift_norm hl; exact hq a hr
  | _ => exact hl)))
theorem af_r {D : Nat} {Q : Exit → Env → World → Prop} {ρ : Env} {w : World} (h1 : w.heap[D]? = some (.deferred (some []))) (h : ∀ w1, w1 = w.putObj D (.deferred none) → Q .ret ρ w1) : afterE D Q .ret ρ w := ⟨h1, h _ rfl⟩
theorem rd_n {id : Nat} {Y : Nat → Prop} {A A' : World} {I Ix Ir : (Nat → Prop) → World → Prop} {ρ : Env} (h : Kept Y A A' ∧ I Y A') : roundE id Y A I Ix Ir .normal ρ A' := h
theorem rd_r {id : Nat} {Y : Nat → Prop} {A A' : World} {I Ix Ir : (Nat → Prop) → World → Prop} {ρ : Env} (h : Kept Y A A' ∧ Ir Y A') : roundE id Y A I Ix Ir .ret ρ A' := h
theorem HBZ.behind {H Y : Nat → Prop} {w A : World} {l : List HBx} {D : Nat} (hb : HB H w l) (hk : Kept H w A) (hH : ∀ b, H b → Y b) (hD : Y D) (hDe : A.heap[D]? = some (.deferred (some []))) : HBZ [(D, .deferred (some []))] Y A l :=
 ⟨(hb.kept hk).box, fun x hx => hH _ (hb.hid x hx), hb.ne, fun x hx => by
  cases List.mem_singleton.1 hx; exact ⟨hD, hDe, rfl⟩⟩
theorem HBZ.leave {w0 wv : World} {Hv H : Nat → Prop} {w : World} {l : List HBx} {D : Nat} (hb : HBZ [(D, .deferred (some []))] H w l) (hs : Hst w0 Hv wv H w) {w1 : World} (h1 : w1 = w.putObj D (.deferred none)) : Hst w0 Hv wv H w1 ∧ HB H w1 l := by
 have hz := hb.fz _ (List.mem_singleton.2 rfl)
 have E : Ext (· = D) w w1 := by rw [h1]; exact Ext.putObj w D _
 refine ⟨⟨h1 ▸ hs.ext.trans' (Ext.putObj w D _) (fun b _ e => by subst e; exact hz.1), hs.sub, hs.new, hs.old, fun b hb => Nat.lt_of_lt_of_le (hs.lt b hb) E.size, Nat.le_trans hs.base E.size⟩, ?_⟩
 refine ⟨fun x hx => (hb.box x hx).ext E (fun e => ?_), hb.hid, hb.ne, fun x hx => by cases hx⟩
 have h2 := (hb.box x hx).blk
 rw [e, hz.2.1] at h2
 cases h2
theorem HBZ.dead {H : Nat → Prop} {w : World} {l : List HBx} {D : Nat} (hb : HBZ [(D, .deferred (some []))] H w l) : w.heap[D]? = some (.deferred (some [])) := (hb.fz _ (List.mem_singleton.2 rfl)).2.1
theorem x_yield {P : Program} {ε : Operand → Value} {w w' : World} {d : Option Tmp} {ty : TypeId} {pos : String} {aft : Array Edge} {g : Option (Nat × Bool)} {l : Nat} {x : Operand} {v : Value} {c : List Operand} {ts : Array TypeId} {args : Array Value} {r : Next} (hx : ε x = v) (hv : v = .func (.yield l) #[] #[]) (ha : (c.map ε).toArray = args) (hr : (Instr.yield l args).run P w = .ok r w') :
  (execOp ε ⟨d, .call ⟨.value x, c.toArray, ts⟩, ty, pos, aft, g⟩).run P w = .ok r w' := by
 subst hv; subst ha
 simp [execOp, resolve, hx, Deferred.ofValue, invoke, hr]
theorem st_yield {P : Program} {ops : Array Oper} {Q : Env → World → Prop} {ρ : Env} {w : World} {rest : List Oper} {d : Option Tmp} {ty : TypeId} {pos : String} {aft : Array Edge} {g : Option (Nat × Bool)} {l : Nat} {x : Operand} {v : Value} {c : List Operand} {ts : Array TypeId} {args : Array Value}
  (hw : Region.wanted ⟨d, .call ⟨.value x, c.toArray, ts⟩, ty, pos, aft, g⟩ (yieldedE ops ρ) = true) (hx : evE ρ x = v) (hv : v = .func (.yield l) #[] #[]) (ha : (c.map (evE ρ)).toArray = args)
  (h : Yld P l args w (fun e w'' => ∃ v, e = .returned v ∧ wpL P ops Q rest (put ρ d v) w'')) : wpL P ops Q (⟨d, .call ⟨.value x, c.toArray, ts⟩, ty, pos, aft, g⟩ :: rest) ρ w := by
 obtain ⟨fn, tmps, assign, body, hr, hR⟩ := h
 unfold wpL
 rw [if_pos hw]
 unfold yld
 rw [x_yield hx hv ha hr]
 exact hR
theorem Yld.mono {P : Program} {l : Nat} {args : Array Value} {w : World} {R R' : Ending → World → Prop} (h : Yld P l args w R) (hr : ∀ e w, R e w → R' e w) : Yld P l args w R' := by
 obtain ⟨fn, tmps, assign, body, h1, h2⟩ := h
 exact ⟨fn, tmps, assign, body, h1, RoundIn.mono h2 hr⟩
section
variable {P : Program} {n : Nat} {Q : Exit → Env → World → Prop} {ρ : Env} {w w0 : World} {H Hv : Nat → Prop} {wv : World}
theorem wpB_range {id : Nat} {g : Operand} {ps : Array Tmp} {assign body y : Code} {gf : FuncId} {lb : Array Value} {α : Type} {encs : α → Array Value} {xs : List α} {Rd : World → Prop}
  (hg : evE ρ g = .func (.func gf) #[] lb) (eg : ∀ args w, (callFunc gf args).run P w = .ok (.enter gf args) w) (hit : IterC P gf lb encs xs Rd w) (hps : ∀ z, (encs z).size = ps.size) (hpn : ∀ p ∈ ps.toList, p < n)
  (hs : Hst w0 Hv wv H w) (I Ix Ir : List α → (Nat → Prop) → World → Prop) (hRI : RngI w0 Rd I Ix Ir)
  (h0 : I [] H w)
  (hround : ∀ l z A, wpE (x := ⟨some l, []⟩) P n assign (thenE (fun ρ' A' => A' = A ∧ ∀ pre Y A, I pre Y A → Hst w0 Y A Y A → (∃ post, xs = pre ++ z :: post) → wpE (x := ⟨some l, []⟩) P n body (roundE id Y A (I (pre ++ [z])) (Ix (pre ++ [z])) (Ir (pre ++ [z]))) ρ' A) (fun _ _ _ => False)) (setPs ps.toList (encs z).toList ρ) A)
  (hrest : ∀ D Y A, Hst w0 Y A Y A → Y D → A.heap[D]? = some (.deferred (some [])) → (∀ b, H b → Y b) → Kept H w A → (I xs Y A ∨ ∃ pre, Ix pre Y A) → wpE (x := ⟨none, [mark D]⟩) P n y (afterE D Q) ρ A)
  (hret : ∀ D pre Y A, Hst w0 Y A Y A → Y D → A.heap[D]? = some (.deferred (some [])) → Ir pre Y A → Q .ret ρ (A.putObj D (.deferred none))) :
  wpB P n (.block id (.rangeFunc g ps assign body)) y Q ρ w := by
 obtain ⟨hRd, hI, hIx, hIr⟩ := hRI
 intro a ha
 refine wpIn_block (wpIn_rangeFunc ?_)
 intro fn _
 obtain ⟨rec, hrec⟩ : ∃ rec : LoopState → Option Code → Loop, rec = fun st pe => { state := st, pending := pe, fn, tmps := a.tmps, params := ps, assign, body, defers := w.heap.size } := ⟨_, rfl⟩
 obtain ⟨W1, hW1⟩ : ∃ W1, (w.alloc (.deferred (some []))).alloc (.loop (rec .ready none)) = W1 := ⟨_, rfl⟩
 have hL1 : W1.heap[w.heap.size + 1]? = some (.loop (rec .ready none)) := by
  rw [← hW1]; have := World.alloc_heap_new (w.alloc (.deferred (some []))) (.loop (rec .ready none)); rwa [World.size_alloc] at this
 have hK1 : W1.heap[w.heap.size]? = some (.deferred (some [])) := by
  rw [← hW1]; exact (RowKit.Below.heap_alloc _ _ _ (by simp)).trans (World.alloc_heap_new w _)
 have hsz : W1.heap.size = w.heap.size + 2 := by rw [← hW1]; simp
 have E1 : Pure w W1 := by
  rw [← hW1]
  exact ⟨rfl, rfl, rfl, by simp; omega, fun b hb _ => (RowKit.Below.heap_alloc _ _ _ (by simp; omega)).trans (RowKit.Below.heap_alloc _ _ _ hb)⟩
 let Yo : (Nat → Prop) → Nat → Prop := fun X b => H b ∨ b = w.heap.size ∨ b = w.heap.size + 1 ∨ X b
 have hHlt : ∀ b, H b → b < w.heap.size := hs.lt
 have here : ∀ {X : Nat → Prop} {A : World}, Hst W1 X A X A → Hst w0 (Yo X) A (Yo X) A := fun {X A} h =>
  ⟨Ext.refl _, fun _ h => h, fun _ h => .inl h, fun b hb => by
   rcases hb with hb | rfl | rfl | hb
   ·exact hs.old b hb
   ·exact hs.base
   ·have := hs.base; omega
   ·have := h.old b hb; have := hs.base; omega, fun b hb => by
   have z := h.base
   rcases hb with hb | rfl | rfl | hb
   ·have := hHlt b hb; omega
   ·omega
   ·omega
   ·exact h.lt b hb, by have := h.base; have := hs.base; omega⟩
 have up : ∀ {X X' : Nat → Prop} {A A' : World}, Hst W1 X A X A → Hst W1 X A X' A' → Hst w0 (Yo X) A (Yo X') A' := fun {X X' A A'} h k =>
  ⟨k.ext.mono (fun b _ hb => .inr (.inr (.inr hb))), fun b hb => by
   rcases hb with hb | hb | hb | hb
   ·exact .inl hb
   ·exact .inr (.inl hb)
   ·exact .inr (.inr (.inl hb))
   ·exact .inr (.inr (.inr (k.sub b hb))), fun b hb => by
   rcases hb with hb | hb | hb | hb
   ·exact .inl (.inl hb)
   ·exact .inl (.inr (.inl hb))
   ·exact .inl (.inr (.inr (.inl hb)))
   ·exact (k.new b hb).imp_left (fun h => .inr (.inr (.inr h))), (here k.here).old, (here k.here).lt, (here k.here).base⟩
 have nX : ∀ {X : Nat → Prop} {A : World}, Hst W1 X A X A → ∀ b, b < w.heap.size + 2 → ¬ X b := fun h b hb hx => by have := h.old b hx; omega
 have keepH : ∀ {X X' : Nat → Prop} {A A' : World}, Kept H w A → Hst W1 X A X' A' → Kept H w A' := fun {X X' A A'} hk k =>
  hk.trans (k.ext.kept (fun b hb hx => nX k.here b (by have := hHlt b hb; omega) hx))
 have turn : ∀ {X : Nat → Prop} {A : World} (o : Obj), Hst W1 X A X A → Hst w0 (Yo X) A (Yo X) (A.putObj (w.heap.size + 1) o) := fun {X A} o h =>
  ⟨(Ext.putObj A _ o).mono (fun b _ e => by subst e; exact .inr (.inr (.inl rfl))), fun _ h => h, fun _ h => .inl h, (here h).old, fun b hb => by have := (here h).lt b hb; simpa using this, by simpa using (here h).base⟩
 have hstW : ∀ {X : Nat → Prop} {A : World} (o : Obj), Hst W1 X A X A → Hst W1 X (A.putObj (w.heap.size + 1) o) X (A.putObj (w.heap.size + 1) o) := fun o h =>
  ⟨Ext.refl _, fun _ h => h, fun _ h => .inl h, h.old, fun b hb => by have := h.lt b hb; simpa using this, by simpa using h.base⟩
 have keepT : ∀ {A : World} (o : Obj), Kept H w A → Kept H w (A.putObj (w.heap.size + 1) o) := fun {A} o hk => hk.trans ((Ext.putObj A _ o).kept (fun b hb e => by have := hHlt b hb; omega))
 let Jc : Code → List α → (Nat → Prop) → World → Prop := fun c pre Y A => match c with
  | .ret => Ir pre Y A
  | .exit id' => id' = id ∧ Ix pre Y A
  | _ => False
 have hJc : ∀ c pre Y A Y' A', Jc c pre Y A → Hst w0 Y A Y' A' → Jc c pre Y' A' := by
  intro c pre Y A Y' A' h k
  cases c <;> first | exact hIr _ _ _ _ _ h k | exact ⟨h.1, hIx _ _ _ _ _ h.2 k⟩ | exact h
 refine ⟨w.heap.size + 1, [mark w.heap.size], W1, { target := .fn (.func gf) lb, args := #[.func (.yield (w.heap.size + 1)) #[] #[]] }, W1, gf,
  #[.func (.yield (w.heap.size + 1)) #[] #[]] ++ lb, W1, ?_, ?_, fun _ _ => trivial, ?_, (fun h => by cases h), callsIn_wide.2 ?_⟩
 ·rw [← hW1, hrec]; exact run_enterLoop_outer _ _ _ _ _
 ·have hev : a.eval g = .func (.func gf) #[] lb := by rw [ha.eval]; exact hg
  simp only [resolve, hev]
  simp [go_sem]
 ·simp [invoke, go_sem, eg]
 have hst1 : Hst W1 None W1 None W1 := Hst.start W1
 refine (hit (w.heap.size + 1)
  (fun pre X A => Hst W1 X A X A ∧ I pre (Yo X) A ∧ A.heap[w.heap.size + 1]? = some (.loop (rec .ready none)) ∧ A.heap[w.heap.size]? = some (.deferred (some [])) ∧ Kept H w A)
  (fun pre X A => Hst W1 X A X A ∧ ∃ c, Jc c pre (Yo X) A ∧ A.heap[w.heap.size + 1]? = some (.loop (rec .done (some c))) ∧ A.heap[w.heap.size]? = some (.deferred (some [])) ∧ Kept H w A)
  W1 E1 (fun pre X A h => hRd _ _ _ h.2.1)
  (fun pre X A X' A' h k => ⟨k.here, hI _ _ _ _ _ h.2.1 (up h.1 k), k.ext.heap h.2.2.1 (nX k.here _ (by omega)), k.ext.heap h.2.2.2.1 (nX k.here _ (by omega)), keepH h.2.2.2.2 k⟩)
  (fun pre X A X' A' h k => by
   obtain ⟨h1, c, h2, h3, h4, h5⟩ := h
   exact ⟨k.here, c, hJc _ _ _ _ _ _ h2 (up h1 k), k.ext.heap h3 (nX k.here _ (by omega)), k.ext.heap h4 (nX k.here _ (by omega)), keepH h5 k⟩)
  ?_ ⟨hst1, hI _ _ _ _ _ h0 ⟨E1.pure, fun b hb => .inl hb, fun b hb => ?_, (here hst1).old, (here hst1).lt, (here hst1).base⟩, hL1, hK1, E1.keptP⟩).mono ?_
 ·-- one round
  rintro pre z X A ⟨hX, hi, hl, hk, hkH⟩ _ hpost
  have hlt : w.heap.size + 1 < A.heap.size := (Array.getElem?_eq_some_iff.1 hl).1
  have hy := run_yield (P := P) (args := encs z) hl (by rw [hrec]; exact hps z)
  rw [hrec] at hy
  refine ⟨fn, _, assign, body, hy, roundIn_of_wpIn (F := Fence.wide) trivial ?_⟩
  have hrep : Rep [] n (setPs ps.toList (encs z).toList ρ) { tmps := (ps.zip (encs z)).foldl (fun t (x : Nat × Value) => t.setIfInBounds x.1 x.2) a.tmps, defers := [] } := by
   have := rep_setPs ps.toList (encs z).toList ρ a.tmps hpn ⟨rfl, ha.size, ha.get⟩
   rw [← Array.foldl_toList, Array.toList_zip]
   exact this
  refine wpIn_mono (hround (w.heap.size + 1) z A _ hrep) ?_
  rintro e a1 A1 ⟨ρ', hor⟩
  have hor := hor.resolve_right (fun h => by cases h.2.1)
  obtain ⟨hr1, hq⟩ := hor
  cases e <;> first | exact hq.elim | skip
  obtain ⟨rfl, hbody⟩ := hq
  refine ⟨_, run_beginRound hl (by rw [hrec]), ?_⟩
  have T1 := turn (.loop { rec .ready none with state := .busy }) hX
  have hX1 := hstW (.loop { rec .ready none with state := .busy }) hX
  have hl2 : (A1.putObj (w.heap.size + 1) (.loop { rec .ready none with state := .busy })).heap[w.heap.size + 1]? = some (.loop { rec .ready none with state := .busy }) := World.putObj_heap_same hlt
  have hk2 : (A1.putObj (w.heap.size + 1) (.loop { rec .ready none with state := .busy })).heap[w.heap.size]? = some (.deferred (some [])) := (World.putObj_heap_other (by omega)).trans hk
  have hkH2 := keepT (.loop { rec .ready none with state := .busy }) hkH
  have hi2 := hI _ _ _ _ _ hi T1
  refine wpIn_mono (hbody pre (Yo X) _ hi2 T1.here hpost a1 hr1) ?_
  have fin : ∀ (jump : Option Code) (A3 : World), Kept (Yo X) (A1.putObj (w.heap.size + 1) (.loop { rec .ready none with state := .busy })) A3 →
    (Instr.endRound (w.heap.size + 1) jump).run P A3 = .ok (.bool jump.isNone) (A3.putObj (w.heap.size + 1) (.loop (rec (if jump.isNone then .ready else .done) jump))) ∧
    Hst W1 X (A3.putObj (w.heap.size + 1) (.loop (rec (if jump.isNone then .ready else .done) jump))) X (A3.putObj (w.heap.size + 1) (.loop (rec (if jump.isNone then .ready else .done) jump))) ∧
    Hst w0 (Yo X) A3 (Yo X) (A3.putObj (w.heap.size + 1) (.loop (rec (if jump.isNone then .ready else .done) jump))) ∧
    (A3.putObj (w.heap.size + 1) (.loop (rec (if jump.isNone then .ready else .done) jump))).heap[w.heap.size + 1]? = some (.loop (rec (if jump.isNone then .ready else .done) jump)) ∧
    (A3.putObj (w.heap.size + 1) (.loop (rec (if jump.isNone then .ready else .done) jump))).heap[w.heap.size]? = some (.deferred (some [])) ∧
    Kept H w (A3.putObj (w.heap.size + 1) (.loop (rec (if jump.isNone then .ready else .done) jump))) ∧
    Kept X A1 (A3.putObj (w.heap.size + 1) (.loop (rec (if jump.isNone then .ready else .done) jump))) := fun jump A3 hk3 => by
   have hl3 : A3.heap[w.heap.size + 1]? = some (.loop { rec .ready none with state := .busy }) := by
    rw [hk3.keep _ (by simpa using hlt) (.inr (.inr (.inl rfl)))]; exact hl2
   have hD3 : A3.heap[w.heap.size]? = some (.deferred (some [])) := by
    rw [hk3.keep _ (by simp; omega) (.inr (.inl rfl))]; exact hk2
   have hX3 : Hst W1 X A3 X A3 := hX1.again (hk3.mono (fun b hb => .inr (.inr (.inr hb))))
   have hrun := run_endRound (P := P) jump hl3
   rw [hrec] at hrun
   refine ⟨by rw [hrec]; exact hrun, hstW _ hX3, turn _ hX3, World.putObj_heap_same (Array.getElem?_eq_some_iff.1 hl3).1, (World.putObj_heap_other (by omega)).trans hD3, keepT _ (hkH2.trans (hk3.mono (fun b hb => .inl hb))), ?_⟩
   have k1 : Kept X A1 (A1.putObj (w.heap.size + 1) (.loop { rec .ready none with state := .busy })) := (Ext.putObj A1 _ _).kept (fun b hb e => by have := hX.old b hb; omega)
   exact (k1.trans (hk3.mono (fun b hb => .inr (.inr (.inr hb))))).trans ((Ext.putObj A3 _ _).kept (fun b hb e => by have := hX.old b hb; omega))
  rintro e a3 A3 ⟨ρ3, hor⟩
  have hor := hor.resolve_right (fun h => by cases h.2.1)
  obtain ⟨hr3, hq⟩ := hor
  cases e with
  | normal =>
   obtain ⟨hk3, hi3⟩ := hq
   obtain ⟨f1, f2, f3, f4, f5, f6, f7⟩ := fin none A3 hk3
   exact ⟨_, _, f1, .inl ⟨rfl, f7, f2, hI _ _ _ _ _ hi3 f3, f4, f5, f6⟩⟩
  | ret =>
   obtain ⟨hk3, hi3⟩ := hq
   obtain ⟨f1, f2, f3, f4, f5, f6, f7⟩ := fin (some .ret) A3 hk3
   exact ⟨_, _, f1, .inr ⟨rfl, f7, f2, .ret, hIr _ _ _ _ _ hi3 f3, f4, f5, f6⟩⟩
  | exit id' =>
   obtain ⟨rfl, hk3, hi3⟩ := hq
   obtain ⟨f1, f2, f3, f4, f5, f6, f7⟩ := fin (some (.exit id')) A3 hk3
   exact ⟨_, _, f1, .inr ⟨rfl, f7, f2, .exit id', ⟨rfl, hIx _ _ _ _ _ hi3 f3⟩, f4, f5, f6⟩⟩
  | goto t => exact hq.elim
  | panic ch => exact hq.elim
  | outgrown => exact hq.elim
 ·rcases hb with hb | rfl | rfl | hb
  ·exact .inl hb
  ·exact .inr (Nat.le_refl _)
  ·exact .inr (by omega)
  ·exact hb.elim
 ·-- behind the iterator
  have hrepM : Rep [mark w.heap.size] n ρ { a with defers := [mark w.heap.size] ++ a.defers } := ⟨by rw [show a.defers = [] from ha.defers]; rfl, ha.size, ha.get⟩
  have go : ∀ (A : World), Hst w0 (Yo fun b => H b ∨ b = w.heap.size ∨ b = w.heap.size + 1) A (Yo fun b => H b ∨ b = w.heap.size ∨ b = w.heap.size + 1) A → True := fun _ _ => trivial
  have rest : ∀ (X : Nat → Prop) (A : World), Hst w0 (Yo X) A (Yo X) A → A.heap[w.heap.size]? = some (.deferred (some [])) → Kept H w A → (I xs (Yo X) A ∨ ∃ pre, Ix pre (Yo X) A) →
    y.wpIn (fen none) 0 P (lift ⟨none, []⟩ n Q) { a with defers := [mark w.heap.size] ++ a.defers } A := by
   intro X A hA hD hkA hIA
   refine wpIn_mono (hrest w.heap.size (Yo X) A hA (.inr (.inl rfl)) hD (fun b hb => .inl hb) hkA hIA _ hrepM) ?_
   rintro e a2 A2 ⟨ρ2, ⟨hr2, hq⟩ | ⟨_, _, h, _⟩⟩
   ·cases e <;> first | exact hq.elim | skip
    exact ⟨ρ2, .inr ⟨rfl, rfl, rfl, w.heap.size, hr2, hq.1, hq.2⟩⟩
   ·cases h
  rintro e A ⟨⟨v, rfl⟩, X, _, ⟨hX, hi, hl, hk, hkH⟩ | ⟨pre, hX, c, hc, hl, hk, hkH⟩⟩
  ·obtain ⟨o, hrun⟩ : ∃ o, (Instr.endLoop (w.heap.size + 1)).run P A = .ok none (A.putObj (w.heap.size + 1) o) := by
    have := run_endLoop (P := P) hl (by rw [hrec]; simp)
    rw [hrec] at this
    exact ⟨_, this⟩
   have T := turn o hX
   exact ⟨none, _, hrun, rest X _ T.here ((World.putObj_heap_other (by omega)).trans hk) (keepT _ hkH) (.inl (hI _ _ _ _ _ hi T))⟩
  ·obtain ⟨o, hrun⟩ : ∃ o, (Instr.endLoop (w.heap.size + 1)).run P A = .ok (some c) (A.putObj (w.heap.size + 1) o) := by
    have := run_endLoop (P := P) hl (by rw [hrec]; simp)
    rw [hrec] at this
    exact ⟨_, this⟩
   have T := turn o hX
   refine ⟨some c, _, hrun, ?_⟩
   have hc' := hJc _ _ _ _ _ _ hc T
   have hD := (World.putObj_heap_other (w := A) (r := w.heap.size + 1) (o := o) (k := w.heap.size) (by omega)).trans hk
   cases c <;> first | exact hc.elim | skip
   case exit id' =>
    obtain ⟨rfl, hx⟩ := hc'
    refine wpIn_exit ?_
    simp only [Exit.inBlock, if_true]
    exact rest X _ T.here hD (keepT _ hkH) (.inr ⟨pre, hx⟩)
   case ret =>
    refine wpIn_ret ?_
    exact ⟨ρ, .inr ⟨rfl, rfl, rfl, w.heap.size, hrepM, hD, hret w.heap.size pre (Yo X) _ T.here (.inr (.inl rfl)) hD hc'⟩⟩
end
end Go.SE
namespace Go.SE
theorem Hst.putD {w0 w : World} {H : Nat → Prop} {D : Nat} {o : Obj} (hs : Hst w0 H w H w) (hD : H D) : Hst w0 H w H (w.putObj D o) :=
 ⟨(Ext.putObj w D o).mono (fun b _ e => by subst e; exact hD), fun _ h => h, fun _ h => .inl h, hs.old, fun b hb => by have := hs.lt b hb; simpa using this, by simpa using hs.base⟩
end Go.SE
end
section
open Go Go.SE
namespace Go.Proofs
set_option maxRecDepth 100000
set_option maxHeartbeats 4000000
attribute [local irreducible] wpL wpX opE wpE Calls
def m_P1_l1 (yield1 : Value) (r1 : Sl) (x1 : Int) (wl1 : World) (Kc1 : Int → World → Prop) (K : World → Prop) : Prop :=
 Br (decide (x1 < (r1.len : Int)))
  (∃ a1 : Addr, At r1 x1 1 a1 ∧
  ∃ v3 : Int, wl1.cell? a1 = some (vi v3) ∧
  ∃ (ly1 : Nat), yield1 = .func (.yield ly1) #[] #[] ∧
  Yld Try.prog ly1 #[(vi v3)] wl1 (fun e w2 => ∃ b1 : Bool, e = .returned (vb b1) ∧
   Br (!b1)
    (K w2)
    (Kc1 (IntKind.i64.wrap (x1 + 1)) w2)))
  (K wl1)
def m_P1 (yield1 : Value) (cap1 cap2 : Addr) (w0 : World) (K : World → Prop) : Prop :=
 ∃ v1 : Option Addr, w0.cell? cap1 = some (vp v1) ∧
 ∃ v2 : Int, w0.cell? cap2 = some (vi v2) ∧
 Calls Try.prog 68 #[(vp v1), (vi v2)] w0 (fun e w1 => ∃ r1 : Sl, e = .returned r1.v ∧ 
  ∃ (I1 : Int → World → Prop) (mu1 : Int → World → Nat), I1 0 w1 ∧
   ∀ (x1 : Int) (wl1 : World), I1 x1 wl1 → m_P1_l1 yield1 r1 x1 wl1 (fun y'0 w' => I1 y'0 w' ∧ mu1 y'0 w' < mu1 x1 wl1) K)
theorem w_P1 (yield1 : Value) (cap1 cap2 : Addr) (w0 : World) (K : World → Prop) (h : m_P1 yield1 cap1 cap2 w0 K) :
  Calls Try.prog 67 #[yield1, (vp (some cap1)), (vp (some cap2))] w0 (fun e w' => e = .returned (.tuple #[]) ∧ K  w') := by
 unfold m_P1 at h
 refine cw (args := [yield1, (vp (some cap1)), (vp (some cap2))]) Try.func67 Try.ntmps67 (wpE_seq (rg ?_))
 obtain ⟨v1, hv4, h⟩ := h
 refine q2 (vp v1) (xl (Try.isAgg28 _) hv4) ?_
 obtain ⟨v2, hv3, h⟩ := h
 refine q2 (vi v2) (xl (Try.isAgg23 _) hv3) ?_
 refine sc Try.call68 (h.mono ?_)
 rintro e w1 ⟨r1, rfl, h⟩
 refine ⟨_, rfl, ?_⟩
 refine q0 (vi (r1.len : Int)) (q0 (vi 0) (wpL_nil (th_n (wpE_block ?_))))
 obtain ⟨I1, mu1, h0, hr⟩ := h
 refine wpE_loop (σ := Int × World) (fun s ρ w => w = s.2 ∧ Has ρ [(0, yield1), (8, r1.v), (9, (vi (r1.len : Int))), (10, (vi s.1))] ∧ I1 s.1 s.2) (fun s => mu1 s.1 s.2) (0, w1) ⟨rfl, hm, h0⟩ ?_
 rintro ⟨x1, wl1⟩ ρ w ⟨hw, hH, hI⟩
 obtain rfl : wl1 = w := (show w = wl1 from hw).symm
 replace hH : Has ρ [(0, yield1), (8, r1.v), (9, (vi (r1.len : Int))), (10, (vi x1))] := hH
 have h := hr x1 wl1 hI
 clear hr h0
 unfold m_P1_l1 at h
 refine wpE_has hH ?_
 clear hH hI
 refine wpE_seq (rg (q0 (vb (decide (x1 < (r1.len : Int)))) (wpL_nil (th_n (wpE_seq ?_)))))
 refine wpE_cond (t := (decide (x1 < (r1.len : Int)))) (by kernel_rfl) (fun hc1 => ?_) (fun hc1 => ?_)
 ·replace h := h.1 hc1
  refine wpE_skip (th_n (wpE_seq (wpE_block (wpE_seq (rg ?_)))))
  obtain ⟨a1, hv2, h⟩ := h
  refine q2 (vp (some a1)) (xi (Try.runUnderlying36 _) (Try.sizeOf23 _) hv2) ?_
  obtain ⟨v3, hv1, h⟩ := h
  refine q2 (vi v3) (xl (Try.isAgg23 _) hv1) (q0 (vi v3) (wpL_nil (th_n (wpE_seq (rg (q0 yield1 (q0 (vi v3) ?_)))))))
  obtain ⟨ly1, hy1, h⟩ := h
  refine st_yield (want0 rfl) (by kernel_rfl) hy1 (by kernel_rfl) (h.mono ?_)
  rintro e w2 ⟨b1, rfl, h⟩
  refine ⟨_, rfl, ?_⟩
  refine q0 (vb (!b1)) (wpL_nil (th_n ?_))
  refine wpE_cond (t := (!b1)) (by kernel_rfl) (fun hc2 => ?_) (fun hc2 => ?_)
  ·replace h := h.1 hc2
   refine wpE_ret (bl_r (th_r (th_r (bl_r (res0 (.inl rfl) Try.results67 ?_)))))
   exact ⟨rfl, h⟩
  ·replace h := h.2 hc2
   refine wpE_skip (bl_n (th_n (rg (q0 (vi (IntKind.i64.wrap (x1 + 1))) (q0 (vi (IntKind.i64.wrap (x1 + 1))) (wpL_nil (th_n ?_)))))))
   exact ⟨((IntKind.i64.wrap (x1 + 1)), w2), ⟨rfl, hm, h.1⟩, h.2⟩
 ·replace h := h.2 hc1
  refine wpE_exit (th_x (th_x (bl_eq (res0 (.inr rfl) Try.results67 ?_))))
  exact ⟨rfl, h⟩
end Go.Proofs
end
section
open Go Go.SE
namespace Go.SE
theorem Rws.kept {w w' : World} {X : Nat → Prop} {e : TypeId} {sz : Nat} {s : Sl} {rs : List (List Value)} (h : Rws w e sz s rs) (hk : Kept X w w') (hX : ∀ b, s.blk b → X b) : Rws w' e sz s rs := by
 refine ⟨h.each, h.len, ?_⟩
 rcases h.own with h' | ⟨g, cur, ha, hg, r⟩
 ·exact .inl h'
 ·exact .inr ⟨g, cur, ha, by rw [hk.keep g (heap_lt hg) (hX g ⟨_, ha, rfl⟩)]; exact hg, r⟩
end Go.SE
namespace Go.Sp
theorem overS_kids {L : Pool} (hW : Wf L) {t : Int} (ht : inP L t = true) (n : Nat) (st : (Int → Bool) × List Int) : (kidsOf (nodeOf L t)).foldl (fun st k => overS L n k st) st = overS L n (nodeOf L t).b (overS L n (nodeOf L t).a st) := by
 have z : ∀ st, overS L n 0 st = st := fun st => by
  cases n with
  | zero => rfl
  | succ n => rw [overS, if_neg (by simp [inP])]
 have h1 := (hW.node ht).2.1
 have h2 := (hW.node ht).2.2.1
 unfold kidsOf
 rcases kids_le (nodeOf L t).kind with e | e | e
 ·rw [e, h1 (by omega), h2 (by omega), z, z]; rfl
 ·rw [e, h2 (by omega), z]; rfl
 ·rw [e]; rfl
end Go.Sp
namespace Go.Proofs
attribute [local irreducible] Calls
def umap (M : List Int) : List (Int × Unit) := M.map fun t => (t, ())
theorem umap_fst (M : List Int) : (umap M).map Prod.fst = M := by simp [umap, Function.comp_def]
def one1 (_ : Unit) : Value := .int .i64 1
structure WkAt (w : World) (p c1 c2 c3 c4 : Addr) (m : Nat) (so : Sl) (L : Sp.Pool) (FP : Nat → Prop) (st : (Int → Bool) × List Int) : Prop where
 b1 : Box w c1 [.map (some m)] 130
 b2 : Box w c2 [.pointer (some p)] 28
 b3 : Box w c3 [.func (.func 79) #[] #[.pointer (some c1), .pointer (some c2), .pointer (some c3), .pointer (some c4)]] 90
 b4 : Box w c4 [so.v] 36
 mp : ∃ M, IMap one1 w m (umap M) ∧ ∀ x, st.1 x = decide (x ∈ M)
 out : Rws w 23 1 so (tmr st.2)
 pool : PoolAt w p L FP
 n4 : c4.block ≠ c1.block ∧ c4.block ≠ c2.block ∧ c4.block ≠ c3.block ∧ c4.block ≠ m
 nm : m ≠ c1.block ∧ m ≠ c2.block ∧ m ≠ c3.block
 ns : ∀ b, so.blk b → b ≠ c1.block ∧ b ≠ c2.block ∧ b ≠ c3.block ∧ b ≠ c4.block ∧ b ≠ m
 nf : ∀ b, FP b → b ≠ c4.block ∧ b ≠ m ∧ ¬ so.blk b
def WkF (c4 : Addr) (m : Nat) (so : Sl) (b : Nat) : Prop := b = c4.block ∨ b = m ∨ so.blk b
section
variable {w w' : World} {p c1 c2 c3 c4 : Addr} {m : Nat} {so : Sl} {L : Sp.Pool} {FP : Nat → Prop} {st : (Int → Bool) × List Int}
theorem WkAt.pure (h : WkAt w p c1 c2 c3 c4 m so L FP st) (E : Pure w w') : WkAt w' p c1 c2 c3 c4 m so L FP st :=
 ⟨h.b1.pure E, h.b2.pure E, h.b3.pure E, h.b4.pure E, let ⟨M, h1, h2⟩ := h.mp; ⟨M, h1.pure E, h2⟩, h.out.pure E, h.pool.pure E, h.n4, h.nm, h.ns, h.nf⟩
end
theorem c_walk (p c1 c2 c3 c4 : Addr) (m : Nat) {L : Sp.Pool} {FP : Nat → Prop} (hW : Sp.Wf L) : ∀ (n : Nat) (t : Int) (w0 : World) (st : (Int → Bool) × List Int) (so : Sl), t.toNat < n → Sp.inP L t = true → WkAt w0 p c1 c2 c3 c4 m so L FP st → Sp.OvOk L st → (∀ y, st.1 y = true → y ≤ t → y ∈ st.2) →
  Calls Try.prog 79 #[.int .i64 t, .pointer (some c1), .pointer (some c2), .pointer (some c3), .pointer (some c4)] w0 (fun e w' => e = .returned (.tuple #[]) ∧ ∃ so', WkAt w' p c1 c2 c3 c4 m so' L FP (Sp.overS L n t st) ∧ Ext (WkF c4 m so) w0 w' ∧ ∀ b, so'.blk b → so.blk b ∨ w0.heap.size ≤ b) := by
 intro n
 induction n with
 | zero => intro t w0 st so h; omega
 | succ n ih =>
 intro t w0 st so hn hin h hst hm
 have hR := Sp.over_ok hW (n + 1) t st hn hst hm
 suffices key : ∀ K : World → Prop, (∀ so' w', WkAt w' p c1 c2 c3 c4 m so' L FP (Sp.overS L (n + 1) t st) → Ext (WkF c4 m so) w0 w' → (∀ b, so'.blk b → so.blk b ∨ w0.heap.size ≤ b) → K w') → m_G1 t c1 c2 c3 c4 w0 K from
  w_G1 _ _ _ _ _ w0 _ (key _ (fun so' w' a b c => ⟨so', a, b, c⟩))
 intro K hK
 unfold m_G1
 obtain ⟨M, hM, hV⟩ := h.mp
 have hz : ∀ w, (zeroValue 3).run Try.prog w = .ok (.int .i64 0) w := fun w => Try.zeroValue3 w
 rcases hM.get Try.underlying130 Try.underlying23 (hz w0) t false with ⟨hno, hl⟩ | ⟨u, hyes, hl⟩
 ·have hnot : t ∉ M := by have := look_none.1 hno; rwa [umap_fst] at this
  have hv : st.1 t = false := by rw [hV]; simpa using hnot
  rw [Sp.overS, if_pos ⟨hin, hv⟩] at hK hR
  refine ⟨some m, h.b1.cell0, 0, hl, Br.f (by simp) ?_⟩
  obtain ⟨w1, hu, hM1, E1⟩ := hM.put (f := one1) Try.underlying130 Try.underlying23 hno ()
  refine ⟨some m, h.b1.cell0, 0, hl, w1, by rw [i64 (by omega) (by omega)]; exact hu, ?_⟩
  have A1 : WkAt w1 p c1 c2 c3 c4 m so L FP (Sp.upd st.1 t true, st.2) :=
   ⟨h.b1.ext E1 (fun e => h.nm.1 e.symm), h.b2.ext E1 (fun e => h.nm.2.1 e.symm), h.b3.ext E1 (fun e => h.nm.2.2 e.symm), h.b4.ext E1 h.n4.2.2.2,
   ⟨M ++ [t], by rw [show umap (M ++ [t]) = umap M ++ [(t, ())] by simp [umap]]; exact hM1, fun x => by
     simp only [Sp.upd, List.mem_append, List.mem_singleton]
     by_cases e : x = t
     ·simp [e]
     ·rw [if_neg e, hV]; simp [e]⟩,
   h.out.ext E1 (fun b hb => (h.ns b hb).2.2.2.2), h.pool.ext E1 (fun b hb => (h.nf b hb).2.1), h.n4, h.nm, h.ns, h.nf⟩
  refine ⟨some p, A1.b2.cell0, ?_⟩
  refine (c_kids p t w1 A1.pool hW.ok).mono ?_
  rintro _ w2 ⟨r1, rfl, hks, E2⟩
  refine ⟨_, rfl, ?_⟩
  have A2 := A1.pure E2
  have o1 : Sp.OvOk L (Sp.upd st.1 t true, st.2) := ⟨fun y hy => by simp only [Sp.upd]; split <;> simp [hst.marked y hy], hst.closed, hst.nd, hst.inp⟩
  have hkid := (hW.node hin).2.2.2.2.1
  have hlen : (Sp.kidsOf (Sp.nodeOf L t)).length ≤ 2 := by rw [Sp.kidsOf]; simp; omega
  generalize hks0 : Sp.kidsOf (Sp.nodeOf L t) = ks at *
  let sj : Nat → (Int → Bool) × List Int := fun j => (ks.take j).foldl (fun st k => Sp.overS L n k st) (Sp.upd st.1 t true, st.2)
  have good : ∀ j, j ≤ ks.length → Sp.OvOk L (sj j) ∧ ∀ y, (sj j).1 y = true → y < t → y ∈ (sj j).2 := by
   intro j
   induction j with
   | zero =>
    intro _
    refine ⟨o1, fun y hy hlt => ?_⟩
    simp only [sj, List.take_zero, List.foldl_nil, Sp.upd] at hy ⊢
    rw [if_neg (by omega)] at hy
    exact hm y hy (by omega)
   | succ j ihj =>
    intro hj
    obtain ⟨g1, g2⟩ := ihj (by omega)
    have hk := hkid ks[j] (List.getElem_mem _)
    have hk1 := (Sp.inP_iff.1 hk.1).1
    have e : sj (j + 1) = Sp.overS L n ks[j] (sj j) := by simp only [sj]; rw [List.take_succ_eq_append_getElem (by omega), List.foldl_append]; rfl
    have r := Sp.over_ok hW n ks[j] (sj j) (by omega) g1 (fun y hy hle => g2 y hy (by omega))
    rw [e]
    refine ⟨r.toOvOk, fun y hy hlt => ?_⟩
    rcases r.back y hy with h1 | h1
    ·obtain ⟨M', e', _⟩ := r.app
     rw [e']; exact List.mem_append_left _ (g2 y h1 hlt)
    ·exact h1
  refine ⟨fun x A => ∃ (j : Nat) (so' : Sl), x = j ∧ j ≤ ks.length ∧ WkAt A p c1 c2 c3 c4 m so' L FP (sj j) ∧ Ext (WkF c4 m so) w2 A ∧ ∀ b, so'.blk b → so.blk b ∨ w2.heap.size ≤ b, fun x _ => ((ks.length : Int) - x).toNat, ⟨0, so, rfl, Nat.zero_le _, A2, Ext.refl _, fun b hb => .inl hb⟩, ?_⟩
  rintro _ w3 ⟨j, so3, rfl, hj, A3, X3, f3⟩
  unfold m_G1_l1
  have hlen1 : r1.len = ks.length := by rw [hks.len, tmr_len]
  have hks3 : Lst (fun b => w1.heap.size ≤ b ∧ b < w2.heap.size) w3 1 r1 (tmr ks) := hks.ext X3 (fun b hb hx => by
   rcases hx with hx | hx | hx
   ·have := A1.b4.lt; omega
   ·have : m < w1.heap.size := hM1.lt; omega
   ·have := A1.out.lt hx; omega)
  obtain ⟨g1, g2⟩ := good j hj
  refine ⟨fun hc => ?_, fun hc => ?_⟩
  ·have hc : j < ks.length := by have := of_decide_eq_true hc; omega
   obtain ⟨a, hat, _, hv⟩ := tm_nth hks3 hc
   refine ⟨a, hat, _, hv, _, A3.b3.cell0, _, _, _, rfl, Try.call79, ?_⟩
   have hk := hkid ks[j] (List.getElem_mem _)
   have hk1 := (Sp.inP_iff.1 hk.1).1
   refine (ih ks[j] w3 (sj j) so3 (by omega) hk.1 A3 g1 (fun y hy hle => g2 y hy (by omega))).mono ?_
   rintro _ w4 ⟨rfl, so4, A4, X4, f4⟩
   refine ⟨rfl, ⟨j + 1, so4, wrap_succ hc (by omega), hc, ?_, X3.trans' X4 (fun i hi hb => ?_), fun b hb => ?_⟩, ?_⟩
   ·have e : sj (j + 1) = Sp.overS L n ks[j] (sj j) := by simp only [sj]; rw [List.take_succ_eq_append_getElem (by omega), List.foldl_append]; rfl
    rw [e]; exact A4
   ·rcases hb with hb | hb | hb
    ·exact .inl hb
    ·exact .inr (.inl hb)
    ·exact .inr (.inr ((f3 i hb).elim id (fun h => by omega)))
   ·rcases f4 b hb with h1 | h1
    ·exact f3 b h1
    ·have := X3.size; right; omega
   ·rw [wrap_succ hc (by omega)]
    show ((ks.length : Int) - ((j + 1 : Nat) : Int)).toNat < ((ks.length : Int) - (j : Int)).toNat
    omega
  ·have hc : j = ks.length := by have := of_decide_eq_false hc; omega
   subst hc
   have es : sj ks.length = Sp.overS L n (Sp.nodeOf L t).b (Sp.overS L n (Sp.nodeOf L t).a (Sp.upd st.1 t true, st.2)) := by
    rw [← Sp.overS_kids hW hin, hks0]; simp only [sj, List.take_length]
   simp only at hK hR
   rw [← es] at hK hR
   generalize sj ks.length = s3 at *
   refine ⟨so3, A3.b4.cell0, ?_⟩
   intro p1 w4 h4
   have E4 : Pure w3 w4 := Ext.new h4
   have hfew : s3.2.length ≤ 65536 := by have := Sp.pool_few g1.nd g1.inp; have := hW.ok.few; omega
   obtain ⟨s1', w5, hr5, R5, X5, f5⟩ := (A3.out.pure E4).append (P := Try.prog) (ty := 36) (c := 1) slT_tm (r := [.int .i64 t]) (Box.of_new h4).row rfl rfl (by rw [tmr_len]; omega) (by rw [tmr_len]; simp [maxLen]; omega)
   have b5 := (A3.b4.pure E4).ext X5 (fun hb => (A3.ns _ hb).2.2.2.1 rfl)
   refine ⟨s1', w5, hr5, b5.canW0 (by simp), ?_⟩
   intro w6 h6
   have E6 : Ext (· = c4.block) w5 w6 := by rw [h6]; exact Ext.setCell c4 _
   have b6 : Box w6 c4 [s1'.v] 36 := by rw [h6]; exact b5.set0
   have z1 := E1.size
   have z2 := E2.size
   have z3 := X3.size
   have z4 := E4.size
   have f5' : ∀ b, s1'.blk b → so3.blk b ∨ w3.heap.size ≤ b := fun b hb => (f5 b hb).imp_right (fun h => by omega)
   have ns' : ∀ b, s1'.blk b → b ≠ c1.block ∧ b ≠ c2.block ∧ b ≠ c3.block ∧ b ≠ c4.block ∧ b ≠ m := fun b hb => (f5' b hb).elim (A3.ns b) (fun hh => by
    have q1 := A3.b1.lt; have q2 := A3.b2.lt; have q3 := A3.b3.lt; have q4 := A3.b4.lt
    have q5 : m < w3.heap.size := by obtain ⟨M', hM', _⟩ := A3.mp; exact hM'.lt
    exact ⟨by omega, by omega, by omega, by omega, by omega⟩)
   have up : ∀ {T : TypeId} {c : Addr} {vs : List Value}, Box w3 c vs T → ¬ so3.blk c.block → c.block ≠ c4.block → Box w6 c vs T := fun h h1 h2 => ((h.pure E4).ext X5 h1).ext E6 h2
   refine hK s1' w6 ⟨up A3.b1 (fun hb => (A3.ns _ hb).1 rfl) A3.n4.1.symm, up A3.b2 (fun hb => (A3.ns _ hb).2.1 rfl) A3.n4.2.1.symm, up A3.b3 (fun hb => (A3.ns _ hb).2.2.1 rfl) A3.n4.2.2.1.symm, b6, ?_, ?_, ((A3.pool.pure E4).ext X5 (fun b hb => (A3.nf b hb).2.2)).ext E6 (fun b hb e => (A3.nf b hb).1 e), A3.n4, A3.nm, ns', fun b hb => ⟨(A3.nf b hb).1, (A3.nf b hb).2.1, fun hh => (f5' b hh).elim (A3.nf b hb).2.2 (fun hh => by have := A3.pool.lt hb; omega)⟩⟩ ?_ ?_
   ·obtain ⟨M', hM', hV'⟩ := A3.mp
    exact ⟨M', ((hM'.pure E4).ext X5 (fun hb => (A3.ns _ hb).2.2.2.2 rfl)).ext E6 A3.n4.2.2.2.symm, hV'⟩
   ·show Rws _ _ _ _ (tmr (s3.2 ++ [t]))
    rw [show tmr (s3.2 ++ [t]) = tmr s3.2 ++ [[.int .i64 t]] by simp [tmr]]
    exact R5.ext E6 (fun b hb e => (ns' b hb).2.2.2.1 e)
   ·have f33 : ∀ b, so3.blk b → b < w0.heap.size → so.blk b := fun b hb hlt => (f3 b hb).elim id (fun h2 => by omega)
    refine (((E1.mono (fun b _ hb => .inr (.inl hb))).thenPure E2).trans X3).trans' ((E4.pure (F := WkF c4 m so3)).trans ((X5.mono (fun b _ hb => .inr (.inr hb))).trans (E6.mono (fun b _ e => .inl e)))) (fun i hi hb => ?_)
    rcases hb with hb | hb | hb
    ·exact .inl hb
    ·exact .inr (.inl hb)
    ·exact .inr (.inr (f33 i hb hi))
   ·intro b hb
    rcases f5' b hb with h1 | h1
    ·exact (f3 b h1).imp_right (fun h => by omega)
    ·right; omega
 ·have hyes' : t ∈ M := by have := look_mem hyes; simp [umap] at this; exact this
  have hv : st.1 t = true := by rw [hV]; simpa using hyes'
  rw [Sp.overS, if_neg (by simp [hv])] at hK
  refine ⟨some m, h.b1.cell0, 1, hl, Br.t (by simp) ?_⟩
  exact hK so w0 h (Ext.refl _) (fun b hb => .inl hb)
theorem c_subs (p : Addr) (t : Int) (w0 : World) {L : Sp.Pool} {FP : Nat → Prop} (hW : Sp.Wf L) (hP : PoolAt w0 p L FP) :
  Calls Try.prog 68 #[.pointer (some p), .int .i64 t] w0 (fun e w' => ∃ r : Sl, e = .returned r.v ∧ RetO w0 23 1 (tmr (Sp.subs L t)) r w') := by
 refine w_M2 _ _ w0 (fun r w' => RetO w0 23 1 (tmr (Sp.subs L t)) r w') ?_
 unfold m_M2
 intro p2 w1 h1 p3 w2 h2 p4 w3 h3 p5 w4 h4
 have B2 := Box.of_new h1
 have B3 := Box.of_new h2
 have M4 := IMap.of_new (f := one1) h3
 have B5 := Box.of_new h4
 have E1 : Pure w0 w1 := Ext.new h1
 have E2 : Pure w1 w2 := Ext.new h2
 have E3 : Pure w2 w3 := Ext.new h3
 have E4 : Pure w3 w4 := Ext.new h4
 have s1 := h1.at_size; have s2 := h2.at_size; have s3 := h3.at_size; have s4 := h4.at_size
 have z1 := E1.size; have z2 := E2.size; have z3 := E3.size; have z4 := E4.size
 have l1 := B2.lt; have l2 := B3.lt; have l3 := M4.lt; have l4 := B5.lt
 refine ⟨B5.canW0 (by simp), fun w5 h5 => ?_⟩
 have E5 : Ext (· = p5.block) w4 w5 := by rw [h5]; exact Ext.setCell p5 _
 have B5' : Box w5 p5 [.map (some p4.block)] 130 := by rw [h5]; exact B5.set0
 intro p6 w6 h6
 have B6 := Box.of_new h6
 have E6 : Pure w5 w6 := Ext.new h6
 have s6 := h6.at_size; have z5 := E5.size; have z6 := E6.size; have l6 := B6.lt
 refine ⟨B6.canW0 (by simp), fun w7 h7 => ?_⟩
 have E7 : Ext (· = p6.block) w6 w7 := by rw [h7]; exact Ext.setCell p6 _
 have B6' : Box w7 p6 [.func (.func 79) #[] #[.pointer (some p5), .pointer (some p2), .pointer (some p6), .pointer (some p3)]] 90 := by rw [h7]; exact B6.set0
 have z7 := E7.size
 have EE : Pure w0 w7 := ((((((E1.trans E2).trans E3).trans E4).own (by omega) E5).trans E6).own (by omega) E7)
 have up : ∀ {T : TypeId} {c : Addr} {vs : List Value}, Box w4 c vs T → c.block ≠ p5.block → c.block ≠ p6.block → Box w7 c vs T := fun h h1 h2 => ((h.ext E5 h1).pure E6).ext E7 h2
 have hnil : ∀ b, ¬ Sl.nil.blk b := fun b hb => by obtain ⟨a, h, _⟩ := hb; cases h
 have A : WkAt w7 p p5 p2 p6 p3 p4.block Sl.nil L FP (fun _ => false, []) :=
  ⟨(B5'.pure E6).ext E7 (by omega), up (((B2.pure E2).pure E3).pure E4) (by omega) (by omega), B6', up ((B3.pure E3).pure E4) (by omega) (by omega),
  ⟨[], (((M4.pure E4).ext E5 (by omega)).pure E6).ext E7 (by omega), fun x => by simp⟩, Rws.nil _ _ _, hP.pure EE, ⟨by omega, by omega, by omega, by omega⟩, ⟨by omega, by omega, by omega⟩, fun b hb => (hnil b hb).elim, fun b hb => by
   have := hP.lt hb
   exact ⟨by omega, by omega, hnil b⟩⟩
 refine ⟨some p, A.b2.cell0, ?_⟩
 refine (c_in p t w7 A.pool).mono ?_
 rintro _ _ ⟨r1, rfl, rfl, rfl⟩
 refine ⟨_, rfl, fun hc => ?_, fun hc => ?_⟩
 ·refine ⟨_, A.b3.cell0, _, _, _, rfl, Try.call79, ?_⟩
  refine (c_walk p p5 p2 p6 p3 p4.block hW (t.toNat + 1) t w7 _ Sl.nil (by omega) hc A ⟨by simp, by simp, by simp, by simp⟩ (by simp)).mono ?_
  rintro _ w8 ⟨rfl, so, A8, X8, f8⟩
  refine ⟨rfl, so, A8.b4.cell0, A8.out, fun b hb => ?_, EE.trans' X8 (fun i hi hb => ?_)⟩
  ·rcases f8 b hb with h | h
   ·exact (hnil b h).elim
   ·omega
  ·rcases hb with hb | hb | hb
   ·omega
   ·omega
   ·exact hnil _ hb
 ·have : Sp.subs L t = [] := by
   unfold Sp.subs
   rw [Sp.overS, if_neg (by simp [hc])]
  rw [this]
  exact ⟨Sl.nil, A.b4.cell0, Rws.nil _ _ _, fun b hb => (hnil b hb).elim, EE⟩
theorem c_Subs (p : Addr) (t : Int) (w0 : World) : Calls Try.prog 45 #[.pointer (some p), .int .i64 t] w0 (fun e w' => ∃ r : Value, e = .returned r ∧ ∃ p2 p3 : Addr, r = .func (.func 67) #[] #[.pointer (some p2), .pointer (some p3)] ∧ Box w' p2 [.pointer (some p)] 28 ∧ Box w' p3 [.int .i64 t] 23 ∧ Pure w0 w') := by
 refine w_K2 _ _ w0 (fun r w' => ∃ p2 p3 : Addr, r = .func (.func 67) #[] #[.pointer (some p2), .pointer (some p3)] ∧ Box w' p2 [.pointer (some p)] 28 ∧ Box w' p3 [.int .i64 t] 23 ∧ Pure w0 w') ?_
 unfold m_K2
 intro p2 w1 h1 p3 w2 h2
 exact ⟨p2, p3, rfl, (Box.of_new h1).pure (Ext.new h2), Box.of_new h2, (show Pure w0 w1 from Ext.new h1).trans (Ext.new h2)⟩
theorem it_Subs {p p2 p3 : Addr} {t : Int} {w0 : World} {L : Sp.Pool} {FP : Nat → Prop} (hW : Sp.Wf L) (hP : PoolAt w0 p L FP) (B2 : Box w0 p2 [.pointer (some p)] 28) (B3 : Box w0 p3 [.int .i64 t] 23) :
  IterC Try.prog 67 #[.pointer (some p2), .pointer (some p3)] (fun z : Int => #[.int .i64 z]) (Sp.subs L t) (fun _ => True) w0 := by
 intro l J Jx W E _ hJ hJx hyield h0
 refine (w_P1 (.func (.yield l) #[] #[]) p2 p3 W (fun A => ∃ X, Hst W X A X A ∧ (J (Sp.subs L t) X A ∨ ∃ pre, Jx pre X A)) ?_).mono (fun e A h => ⟨⟨_, h.1⟩, h.2⟩)
 unfold m_P1
 refine ⟨some p, (B2.pure E).cell0, t, (B3.pure E).cell0, ?_⟩
 refine (c_subs p t W hW (hP.pure E)).mono ?_
 rintro _ w1 ⟨r, rfl, hr⟩
 refine ⟨_, rfl, ?_⟩
 generalize hxs : Sp.subs L t = xs at *
 have hfew : xs.length ≤ 65536 := by rw [← hxs]; have := Sp.subs_few hW t; have := hW.ok.few; omega
 have hs1 : Hst W None W (fun b => W.heap.size ≤ b ∧ b < w1.heap.size) w1 := ⟨hr.pure.pure, fun _ h => h.elim, fun b h => .inr h.1, fun b h => h.1, fun b h => h.2, hr.pure.size⟩
 have hX : ∀ b, r.blk b → W.heap.size ≤ b ∧ b < w1.heap.size := fun b hb => ⟨hr.own b hb, hr.rows.lt hb⟩
 refine ⟨fun x A => ∃ j : Nat, x = j ∧ j ≤ xs.length ∧ Hst W (fun b => W.heap.size ≤ b ∧ b < w1.heap.size) A (fun b => W.heap.size ≤ b ∧ b < w1.heap.size) A ∧ J (xs.take j) (fun b => W.heap.size ≤ b ∧ b < w1.heap.size) A ∧ Rws A 23 1 r (tmr xs), fun x _ => ((xs.length : Int) - x).toNat, ⟨0, rfl, Nat.zero_le _, hs1.here, hJ _ _ _ _ _ h0 hs1, hr.rows⟩, ?_⟩
 rintro _ A ⟨j, rfl, hj, hA, hJA, hRA⟩
 unfold m_P1_l1
 have hlen : r.len = xs.length := by rw [hr.rows.len, tmr_len]
 refine ⟨fun hc => ?_, fun hc => ?_⟩
 ·have hc : j < xs.length := by have := of_decide_eq_true hc; omega
  obtain ⟨a, hat, _, hv⟩ := tm_nth hRA.lst hc
  refine ⟨a, hat, _, hv, l, rfl, ?_⟩
  refine (hyield (xs.take j) xs[j] _ A hJA hA ⟨xs.drop (j + 1), by rw [← List.drop_eq_getElem_cons hc, List.take_append_drop]⟩).mono ?_
  rintro e A' (⟨rfl, hk, hJ'⟩ | ⟨rfl, hk, hJ'⟩)
  ·refine ⟨_, rfl, Br.f rfl ⟨⟨j + 1, wrap_succ hc (by omega), hc, hA.again hk, by rw [List.take_succ_eq_append_getElem hc]; exact hJ', hRA.kept hk hX⟩, ?_⟩⟩
   rw [wrap_succ hc (by omega)]
   show ((xs.length : Int) - ((j + 1 : Nat) : Int)).toNat < ((xs.length : Int) - (j : Int)).toNat
   omega
  ·exact ⟨_, rfl, Br.t rfl ⟨_, hA.again hk, .inr ⟨_, hJ'⟩⟩⟩
 ·have hc : j = xs.length := by have := of_decide_eq_false hc; omega
  subst hc
  rw [List.take_length] at hJA
  exact ⟨_, hA, .inl hJA⟩
end Go.Proofs
end
