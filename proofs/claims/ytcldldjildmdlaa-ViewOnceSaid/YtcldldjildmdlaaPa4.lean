import Derived.Test.YtcldldjildmdlaaPa3
import Derived.Test.YtcldldjildmdlaaPa1
import Derived.Test.YtcldldjildmdlaaProg
import Derived.KernelRfl
import Derived.RangeFuncSeq
import Derived.RangeFuncIn
section
open Go Go.SE
namespace Go.Proofs
attribute [local irreducible] Calls
theorem TreeAt.hst {S : Nat → Prop} {w0 w w' : World} {H H' : Nat → Prop} {s : Sl} {t : Sp.Tree} (h : TreeAt S w s t) (hs : Hst w0 H w H' w') (hd : ∀ b, S b → b < w.heap.size ∧ ¬ H b) : TreeAt S w' s t :=
 h.ext hs.ext (fun b hb hh => hs.disj (G := S) hd b hb hh)
theorem c_ref05_Parts {S : Nat → Prop} (t : Sp.Tree) : ∀ (s : Sl) (most : Int) (w0 : World), 0 ≤ most → most ≤ 1000000000 → TreeAt S w0 s t → (∀ b, S b → b < w0.heap.size) →
  Calls Try.prog 66 #[.agg (trow t s).toArray, .int .i64 most] w0 (fun e w' => ∃ r : Int, e = .returned (.int .i64 r) ∧ (r = Sp.parts most t ∧ Pure w0 w')) := by
 induction t using Sp.Tree.ind with
 | h k f t u x ks ih =>
 intro s most w0 hm0 hm hT hSw
 suffices key : ∀ K : Int → World → Prop, (∀ r w', (r = Sp.parts most (.mk k f t u x ks) ∧ Pure w0 w') → K r w') → m_ref05_Parts k f t u x s most w0 K from
  w_ref05_Parts _ _ _ _ _ _ _ w0 _ (key _ (fun _ _ h => h))
 intro K hK
 have hlen : s.len = ks.length := by cases hT; assumption
 have hfit : ks.length ≤ 9223372036854775807 := by cases hT; assumption
 unfold m_ref05_Parts
 intro H1 w1 hs1
 refine ⟨fun n i H w' => ∃ j : Nat, i = j ∧ j ≤ ks.length ∧ 1 ≤ n ∧ n ≤ most + 1 ∧ Pure w0 w' ∧ Sp.partsAll most 1 ks = Sp.partsAll most n (ks.drop j), fun _ i _ => ((ks.length : Int) - i).toNat, ⟨0, rfl, Nat.zero_le _, Int.le_refl _, by omega, hs1.first, rfl⟩, ?_⟩
 rintro n _ Hl wl hl ⟨j, rfl, hj, hn1, hn2, El, heq⟩
 unfold m_ref05_Parts_l1
 refine ⟨fun hc => ?_, fun hc => ?_⟩
 ·simp only [Bool.and_eq_true, decide_eq_true_eq] at hc
  have hlt : j < ks.length := by omega
  rw [List.drop_eq_getElem_cons hlt, Sp.partsAll, if_pos hc.2] at heq
  have hT1 := hT.pure El
  cases hT1 with
  | mk _ _ _ _ _ _ _ rs len fit row kid =>
  obtain ⟨a, hat, ha, hr⟩ := row j hlt
  refine ⟨a, hat, ?_⟩
  intro H2 w2 hs2
  have hd : ∀ b, S b → ¬ H2 b := fun b hb hh => by have := hs2.old _ hh; have := hSw b hb; omega
  refine ⟨_, _, _, _, _, rs j, hs2.ext.row hr (hd _ ha), ?_⟩
  rw [i64 (n := most - n) (by omega) (by omega)]
  refine (ih j hlt (rs j) (most - n) w2 (by omega) (by omega) ((kid j hlt).ext hs2.ext hd) (fun b hb => by have := hSw b hb; have := (El.hst hs2).size; omega)).mono ?_
  rintro _ w3 ⟨r, rfl, rfl, E3⟩
  have hpf := Sp.parts_facts ks[j] (most - n) (by omega)
  refine ⟨_, rfl, E3.keptP, ?_⟩
  rw [wrap_succ hlt (by omega), i64 (n := n + Sp.parts (most - n) ks[j]) (by omega) (by omega)]
  exact ⟨⟨j + 1, rfl, hlt, by omega, by omega, (El.hst hs2).trans E3, heq⟩, lt_dec hlt⟩
 ·intro H2 w2 hs2
  refine hK _ _ ⟨?_, El.hst hs2⟩
  rw [Sp.parts, heq]
  by_cases hj2 : j = ks.length
  ·rw [hj2, List.drop_length]; rfl
  ·have hlt : j < ks.length := by omega
   rw [List.drop_eq_getElem_cons hlt, Sp.partsAll, if_neg]
   intro h
   have : decide (n ≤ most) = true := decide_eq_true h
   have h2 : decide ((j : Int) < (s.len : Int)) = true := decide_eq_true (by omega)
   rw [this, h2] at hc; cases hc
theorem sameAll_drop {xs ys : List Sp.Tree} {j : Nat} (hl : xs.length = ys.length) (hj : j < xs.length) : Sp.sameAll (xs.drop j) (ys.drop j) = (Sp.same xs[j] (ys[j]'(by omega)) && Sp.sameAll (xs.drop (j + 1)) (ys.drop (j + 1))) := by
 rw [List.drop_eq_getElem_cons hj, List.drop_eq_getElem_cons (show j < ys.length by omega), Sp.sameAll]
theorem sameAll_len : ∀ {xs ys : List Sp.Tree}, Sp.sameAll xs ys = true → xs.length = ys.length
 | [], [], _ => rfl
 | a :: xs, b :: ys, h => by simp only [Sp.sameAll, Bool.and_eq_true] at h; simp [sameAll_len h.2]
 | [], b :: ys, h => by simp [Sp.sameAll] at h
 | a :: xs, [], h => by simp [Sp.sameAll] at h
theorem c_ref05_Same {S : Nat → Prop} (t : Sp.Tree) : ∀ (t' : Sp.Tree) (s s' : Sl) (w0 : World), TreeAt S w0 s t → TreeAt S w0 s' t' → (∀ b, S b → b < w0.heap.size) →
  Calls Try.prog 36 #[.agg (trow t s).toArray, .agg (trow t' s').toArray] w0 (fun e w' => ∃ r : Bool, e = .returned (.bool r) ∧ (r = Sp.same t t' ∧ Pure w0 w')) := by
 induction t using Sp.Tree.ind with
 | h k f t u x ks ih =>
 intro t' s s' w0 hT hT' hSw
 obtain ⟨k', f', tt', u', x', ks'⟩ := t'
 suffices key : ∀ K : Bool → World → Prop, (∀ r w', (r = Sp.same (.mk k f t u x ks) (.mk k' f' tt' u' x' ks') ∧ Pure w0 w') → K r w') → m_ref05_Same k f t u x s k' f' tt' u' x' s' w0 K from
  w_ref05_Same _ _ _ _ _ _ _ _ _ _ _ _ w0 _ (key _ (fun _ _ h => h))
 intro K hK
 have hlen : s.len = ks.length := by cases hT; assumption
 have hlen' : s'.len = ks'.length := by cases hT'; assumption
 have hfit : ks.length ≤ 9223372036854775807 := by cases hT; assumption
 unfold m_ref05_Same
 rintro y1 rfl
 refine ⟨fun h => ?_, fun h => ?_⟩
 ·intro H7 w7 hs7
  refine hK _ _ ⟨?_, hs7.first⟩
  symm
  apply Bool.eq_false_iff.2
  intro hs
  simp only [Sp.same, Bool.and_eq_true, decide_eq_true_eq] at hs
  obtain ⟨⟨⟨⟨⟨rfl, rfl⟩, rfl⟩, rfl⟩, rfl⟩, h6⟩ := hs
  have := sameAll_len h6
  simp [hlen, hlen', this] at h
 ·have hne : k = k' ∧ f = f' ∧ t = tt' ∧ u = u' ∧ x = x' ∧ ks.length = ks'.length := by
   simp only [Bool.or_eq_false_iff, bne_eq_false_iff_eq, Bool.not_eq_false', decide_eq_true_eq] at h
   obtain ⟨⟨⟨⟨⟨h1, h2⟩, h3⟩, h4⟩, h5⟩, h6⟩ := h
   exact ⟨h1, h2, h3, h4, h5, by omega⟩
  obtain ⟨rfl, rfl, rfl, rfl, rfl, hll⟩ := hne
  have hsp : Sp.same (.mk k f t u x ks) (.mk k f t u x ks') = Sp.sameAll ks ks' := by simp [Sp.same]
  rw [hsp] at hK
  intro H7 w7 hs7
  refine ⟨fun i H w' => ∃ j : Nat, i = j ∧ j ≤ ks.length ∧ Pure w0 w' ∧ Sp.sameAll ks ks' = Sp.sameAll (ks.drop j) (ks'.drop j), fun i _ => ((ks.length : Int) - i).toNat, ⟨0, rfl, Nat.zero_le _, hs7.first, rfl⟩, ?_⟩
  rintro _ Hl wl hl ⟨j, rfl, hj, El, heq⟩
  unfold m_ref05_Same_l1
  refine ⟨fun hc => ?_, fun hc => ?_⟩
  ·have hlt := lt_of_dec hlen hc
   have hlt' : j < ks'.length := by omega
   rw [sameAll_drop hll hlt] at heq
   have g1 : ∃ a r, At s j 6 a ∧ S a.block ∧ (∀ w', Pure w0 w' → Row w' a (trow ks[j] r)) ∧ TreeAt S w0 r ks[j] := by
    cases hT with
    | mk _ _ _ _ _ _ _ rs len fit row kid => obtain ⟨a, h1, h2, h3⟩ := row j hlt; exact ⟨a, rs j, h1, h2, fun w' E => E.row h3 id, kid j hlt⟩
   have g2 : ∃ a r, At s' j 6 a ∧ S a.block ∧ (∀ w', Pure w0 w' → Row w' a (trow ks'[j] r)) ∧ TreeAt S w0 r ks'[j] := by
    cases hT' with
    | mk _ _ _ _ _ _ _ rs len fit row kid => obtain ⟨a, h1, h2, h3⟩ := row j hlt'; exact ⟨a, rs j, h1, h2, fun w' E => E.row h3 id, kid j hlt'⟩
   obtain ⟨a, r, hat, _, hr, hk⟩ := g1
   obtain ⟨a', r', hat', _, hr', hk'⟩ := g2
   refine ⟨fun w' => Pure w0 w', El.trans (Ext.drew wl), ?_⟩
   rintro _ rfl
   have Ed := El.trans (Ext.drew wl)
   refine ⟨a, hat, _, _, _, _, _, r, fun w' h => hr w' h, a', hat', _, _, _, _, _, r', fun w' h => hr' w' h, ?_⟩
   refine (ih j hlt ks'[j] r r' wl.drew (hk.pure Ed) (hk'.pure Ed) (fun b hb => by have := hSw b hb; have := Ed.size; omega)).mono ?_
   rintro _ w13 ⟨q, rfl, rfl, E13⟩
   refine ⟨_, rfl, Ed.trans E13, E13.keptP, fun h => ?_, fun h => ?_⟩
   ·have h : Sp.same ks[j] ks'[j] = false := by simpa using h
    exact hK _ _ ⟨by rw [heq, h]; rfl, Ed.trans E13⟩
   ·have h : Sp.same ks[j] ks'[j] = true := by simpa using h
    rw [h, Bool.true_and] at heq
    rw [wrap_succ hlt (by omega)]
    exact ⟨⟨j + 1, rfl, hlt, Ed.trans E13, heq⟩, lt_dec hlt⟩
  ·have hge := eq_of_dec hlen hj hc
   subst hge
   rw [List.drop_length, hll, List.drop_length] at heq
   exact hK _ _ ⟨heq.symm, El⟩
end Go.Proofs
end
section
open Go Go.SE
namespace Go.Proofs
attribute [local irreducible] wpL wpX opE wpE Calls
end Go.Proofs
end
section
open Go Go.SE
namespace Go.Sp
end Go.Sp
namespace Go.Proofs
attribute [local irreducible] Calls
theorem TreeAt.leaf {S : Nat → Prop} {w : World} {k f t u : Int} {x : ByteArray} : TreeAt S w Sl.nil (.mk k f t u x []) :=
 .mk k f t u x [] Sl.nil (fun _ => Sl.nil) rfl (by simp) (fun i h => by simp at h) (fun i h => by simp at h)
theorem TreeAt.one {S : Nat → Prop} {w : World} {k f t u : Int} {x : ByteArray} {p : Addr} {A : Sp.Tree} {sa : Sl} {T : TypeId} (hB : Box w p (trow A sa) T) (hS : S p.block) (hA : TreeAt S w sa A) : TreeAt S w ⟨some p, 1, 1⟩ (.mk k f t u x [A]) := by
 refine .mk k f t u x [A] _ (fun _ => sa) rfl (by simp) (fun i h => ?_) (fun i h => ?_)
 ·have : i = 0 := by simpa using h
  subst this
  exact ⟨p, ⟨by omega, by simp, p, rfl, rfl⟩, hS, hB.row⟩
 ·have : i = 0 := by simpa using h
  subst this
  exact hA
theorem TreeAt.pair {S : Nat → Prop} {w : World} {k f t u : Int} {x : ByteArray} {p : Addr} {A B : Sp.Tree} {sa sb : Sl} {T : TypeId} (hB : Box w p (trow A sa ++ trow B sb) T) (hS : S p.block) (hA : TreeAt S w sa A) (hB2 : TreeAt S w sb B) : TreeAt S w ⟨some p, 2, 2⟩ (.mk k f t u x [A, B]) := by
 refine .mk k f t u x [A, B] _ (fun i => if i = 0 then sa else sb) rfl (by simp) (fun i h => ?_) (fun i h => ?_)
 ·have : i = 0 ∨ i = 1 := by simp at h; omega
  rcases this with rfl | rfl
  ·refine ⟨p, ⟨by omega, by simp, p, rfl, rfl⟩, hS, fun i hi => ?_⟩
   have := hB.row i (by simp [trow] at hi ⊢; omega)
   have hi' : i < 6 := by simpa [trow] using hi
   rw [this]; exact List.getElem?_append_left (by simp [trow]; omega)
  ·refine ⟨p.add (1 * 6), ⟨by omega, by simp, p, rfl, rfl⟩, by rw [add_block]; exact hS, fun i hi => ?_⟩
   have hi' : i < 6 := by simpa [trow] using hi
   have := hB.row (6 + i) (by simp [trow]; omega)
   rw [add_add, this, List.getElem?_append_right (by simp [trow])]
   simp [trow]
 ·have : i = 0 ∨ i = 1 := by simp at h; omega
  rcases this with rfl | rfl
  ·exact hA
  ·exact hB2
abbrev RetT (n0 : Nat) (w : World) (T : Sp.Tree) (e : Ending) (w' : World) : Prop := ∃ s, e = .returned (.agg (trow T s).toArray) ∧ TreeAt (n0 ≤ ·) w' s T ∧ Pure w w'
end Go.Proofs
end
section
open Go Go.SE
namespace Go.Proofs
attribute [local irreducible] Calls
theorem slT_tree : SlType Try.prog 22 52 6 72 := by
 refine ⟨Try.underlying22, ⟨Try.t52, _, by kernel_rfl, (by kernel_rfl : Try.t52.zero = some (.agg #[.int .i64 0, .int .i64 0, .int .i64 0, .int .u64 0, .string ⟨#[]⟩, .slice none 0 0])), by kernel_rfl, by kernel_rfl, rfl⟩, by omega⟩
def prow (p : Sp.Tree × Sl) : List Value := trow p.1 p.2
theorem TreeAt.of_pairs {S : Nat → Prop} {w : World} {s : Sl} {e : TypeId} {ps : List (Sp.Tree × Sl)} {k f t u : Int} {x : ByteArray} (hR : Rws w e 6 s (ps.map prow)) (hS : ∀ b, s.blk b → S b) (hk : ∀ p ∈ ps, TreeAt S w p.2 p.1) (fit : ps.length ≤ 9223372036854775807) : TreeAt S w s (.mk k f t u x (ps.map Prod.fst)) := by
 refine .mk k f t u x _ s (fun i => (ps.getD i (Sp.noTree, Sl.nil)).2) (by rw [hR.len]; simp) (by simpa using fit) (fun i h => ?_) (fun i h => ?_)
 ·have h' : i < ps.length := by simpa using h
  obtain ⟨a, h1, h2, h3⟩ := hR.at (i := i) (by omega) (by simpa using h')
  refine ⟨a, h1, hS _ h3, ?_⟩
  have e1 : (ps.map Prod.fst)[i] = ps[i].1 := by simp
  have e2 : (ps.getD i (Sp.noTree, Sl.nil)).2 = ps[i].2 := by simp [List.getD_eq_getElem?_getD, h']
  rw [e1, e2]; simpa [prow] using h2
 ·have h' : i < ps.length := by simpa using h
  have e1 : (ps.map Prod.fst)[i] = ps[i].1 := by simp
  have e2 : (ps.getD i (Sp.noTree, Sl.nil)).2 = ps[i].2 := by simp [List.getD_eq_getElem?_getD, h']
  rw [e1, e2]; exact hk _ (List.getElem_mem h')
theorem trow_one (t : Sp.Tree) (s : Sl) : (trow t s).all oneCell = true := by simp [trow, oneCell, Sl.v]
end Go.Proofs
end
section
open Go Go.SE
namespace Go.Proofs
set_option maxRecDepth 100000
set_option maxHeartbeats 4000000
attribute [local irreducible] wpL wpX opE wpE Calls
end Go.Proofs
end
section
open Go Go.SE
namespace Go.Proofs
attribute [local irreducible] Calls
def tmr (ts : List Int) : List (List Value) := ts.map fun t => [.int .i64 t]
theorem tmr_len (ts : List Int) : (tmr ts).length = ts.length := by simp [tmr]
theorem slT_tm : SlType Try.prog 39 32 1 8 := by
 refine ⟨Try.underlying39, ⟨Try.t32, _, by kernel_rfl, (by kernel_rfl : Try.t32.zero = some (.int .i64 0)), by kernel_rfl, by kernel_rfl, rfl⟩, by omega⟩
structure RetO (w : World) (e : TypeId) (sz : Nat) (rs : List (List Value)) (s : Sl) (w' : World) : Prop where
 rows : Rws w' e sz s rs
 own : ∀ b, s.blk b → w.heap.size ≤ b
 pure : Pure w w'
theorem RetO.kept {w : World} {H : Nat → Prop} {e : TypeId} {sz : Nat} {rs : List (List Value)} {s : Sl} {w' : World} (h : RetO w e sz rs s w') : Kept H w w' := h.pure.keptP
theorem tm_nth {S : Nat → Prop} {w : World} {s : Sl} {ts : List Int} (h : Lst S w 1 s (tmr ts)) {j : Nat} (hj : j < ts.length) : ∃ a, At s j 1 a ∧ S a.block ∧ w.cell? a = some (.int .i64 ts[j]) := by
 obtain ⟨a, h1, h2, h3⟩ := h.at_ j (by simpa [tmr] using hj)
 exact ⟨a, h1, h2, row_cell (by simpa [tmr] using h3)⟩
end Go.Proofs
end
section
open Go Go.SE
namespace Go.Proofs
attribute [local irreducible] Calls
theorem c_kids (p : Addr) (t : Int) (w : World) {L : Sp.Pool} {F : Nat → Prop} (hP : PoolAt w p L F) (hok : Sp.Ok L) : Calls Try.prog 91 #[.pointer (some p), .int .i64 t] w (fun e w' => ∃ s : Sl, e = .returned s.v ∧ (Lst (fun b => w.heap.size ≤ b ∧ b < w'.heap.size) w' 1 s (tmr (Sp.kidsOf (Sp.nodeOf L t))) ∧ Pure w w')) := by
 refine w_term_Pool_kids _ _ w (fun s w' => Lst (fun b => w.heap.size ≤ b ∧ b < w'.heap.size) w' 1 s (tmr (Sp.kidsOf (Sp.nodeOf L t))) ∧ Pure w w') ?_
 unfold m_term_Pool_kids
 refine (c_Node p t w hP hok).mono ?_
 rintro _ w1 ⟨k, f, t', u, x, a, b, r, rfl, ⟨hn, _⟩, E1⟩
 refine ⟨_, _, _, _, _, _, _, _, rfl, ?_⟩
 intro p2 w2 h2
 have E2 : Pure w w2 := E1.trans (Ext.new h2)
 have o2 := New.own E1 h2
 refine bx 7 (Box.of_new h2) rfl rfl (fun w3 b2 E => ?_)
 have E3 : Pure w w3 := E2.own o2 E
 refine ⟨k, b2.cell0, ?_⟩
 refine (c_shapeOf k w3).mono ?_
 rintro _ w4 ⟨s1, s2, s3, s4, s5, ok, rfl, ⟨hs, _⟩, E4⟩
 refine ⟨_, _, _, _, _, _, rfl, ?_⟩
 have b24 := b2.pure E4
 intro p3 w5 h5
 have E5 : Pure w4 w5 := Ext.new h5
 have b25 := b24.pure E5
 have ne : p2.block ≠ p3.block := h5.ne b24.blk
 have E05 : Pure w w5 := (E3.trans E4).trans E5
 have o5 := New.own (E3.trans E4) h5
 refine bx 5 (Box.of_new h5) rfl rfl (fun w6 b3 E => ?_)
 have b26 := b25.ext E ne
 have E06 : Pure w w6 := E05.own o5 E
 refine ⟨a, b26.cell rfl, b, b26.cell rfl, ?_⟩
 intro p4 w7 h7
 have E7 : Pure w6 w7 := Ext.new h7
 have b4 := Box.of_new h7
 have hsh : Sp.shapeOf k = ⟨s1, s2, s3, s4, s5⟩ := hs.symm
 have hk5 : s5 = 0 ∨ s5 = 1 ∨ s5 = 2 := by have := Sp.kids_le k; rw [hsh] at this; exact this
 refine ⟨s5, (b3.pure E7).cell rfl, _, run_cut2 p4 s5 w7 hk5, ?_, E06.trans E7⟩
 have hks : Sp.kidsOf (Sp.nodeOf L t) = [a, b].take s5.toNat := by rw [← hn]; simp [Sp.kidsOf, hsh]
 rw [hks]
 have z := h7.at_size
 have z6 := E06.size
 have zl := b4.lt
 refine ⟨by rcases hk5 with rfl | rfl | rfl <;> rfl, fun i hi => ?_⟩
 rw [tmr_len] at hi
 have hi2 : i < s5.toNat := by simp at hi; omega
 refine ⟨p4.add (i * 1), ⟨by omega, by show (i : Int) < (s5.toNat : Int); omega, p4, rfl, rfl⟩, by rw [add_block]; omega, ?_⟩
 intro j hj
 have hj1 : j < 1 := by simp only [tmr, List.getElem_map, List.length_cons, List.length_nil] at hj; omega
 have hj0 : j = 0 := by omega
 subst hj0
 rw [add_add]
 have h01 : i = 0 ∨ i = 1 := by omega
 rcases h01 with rfl | rfl
 ·rw [b4.cell (i := 0 * 1 + 0) rfl]; simp [tmr]
 ·rw [b4.cell (i := 1 * 1 + 0) rfl]; simp [tmr]
end Go.Proofs
end
section
open Go Go.SE
namespace Go.SE
theorem Ext.putObj (w : World) (r : Nat) (o : Obj) : Ext (· = r) w (w.putObj r o) := ⟨rfl, rfl, rfl, by simp, fun b _ hne => World.putObj_heap_other hne⟩
abbrev Yld (P : Program) (l : Nat) (args : Array Value) (w : World) (R : Ending → World → Prop) : Prop := YieldAt Fence.wide 0 P l args w R
def IterC (P : Program) (gf : FuncId) (lb : Array Value) {α : Type} (encs : α → Array Value) (xs : List α) (Rd : World → Prop) (w : World) : Prop :=
 ∀ (l : Nat) (J Jx : List α → (Nat → Prop) → World → Prop) (W : World), Pure w W →
  (∀ pre X A, J pre X A → Rd A) →
  (∀ pre X A X' A', J pre X A → Hst W X A X' A' → J pre X' A') →
  (∀ pre X A X' A', Jx pre X A → Hst W X A X' A' → Jx pre X' A') →
  (∀ pre y X A, J pre X A → Hst W X A X A → (∃ post, xs = pre ++ y :: post) → Yld P l (encs y) A (fun e A' => (e = .returned (.bool true) ∧ Kept X A A' ∧ J (pre ++ [y]) X A') ∨ (e = .returned (.bool false) ∧ Kept X A A' ∧ Jx (pre ++ [y]) X A'))) →
  J [] None W →
  Calls P gf (#[.func (.yield l) #[] #[]] ++ lb) W (fun e A => (∃ v, e = .returned v) ∧ ∃ X, Hst W X A X A ∧ (J xs X A ∨ ∃ pre, Jx pre X A))
def setPs : List Nat → List Value → Env → Env
 | p :: ps, v :: vs, ρ => setPs ps vs (upd ρ p v)
 | _, _, ρ => ρ
theorem rep_setPs {n : Nat} : ∀ (ps : List Nat) (vs : List Value) (ρ : Env) (t : Array Value), (∀ p ∈ ps, p < n) → Rep [] n ρ { tmps := t, defers := [] } →
  Rep [] n (setPs ps vs ρ) { tmps := (ps.zip vs).foldl (fun t (x : Nat × Value) => t.setIfInBounds x.1 x.2) t, defers := [] }
 | [], vs, ρ, t, _, h => by cases vs <;> exact h
 | p :: ps, [], ρ, t, _, h => h
 | p :: ps, v :: vs, ρ, t, hp, h => by
  rw [List.zip_cons_cons, List.foldl_cons]
  exact rep_setPs ps vs _ _ (fun q hq => hp q (by simp [hq])) (h.put (d := some p) (fun k hk => by cases hk; exact hp p (by simp)) v)
def roundE (id : Nat) (Y : Nat → Prop) (A : World) (I Ix Ir : (Nat → Prop) → World → Prop) : Exit → Env → World → Prop
 | .normal, _, A' => Kept Y A A' ∧ I Y A'
 | .exit id', _, A' => id' = id ∧ Kept Y A A' ∧ Ix Y A'
 | .ret, _, A' => Kept Y A A' ∧ Ir Y A'
 | _, _, _ => False
def afterE (D : Nat) (Q : Exit → Env → World → Prop) : Exit → Env → World → Prop
 | .ret, ρ, w => w.heap[D]? = some (.deferred (some [])) ∧ Q .ret ρ (w.putObj D (.deferred none))
 | _, _, _ => False
theorem Kept.trans {H : Nat → Prop} {a b c : World} (h : Kept H a b) (k : Kept H b c) : Kept H a c := ⟨Nat.le_trans h.size k.size, fun i hi hH => (k.keep i (Nat.lt_of_lt_of_le hi h.size) hH).trans (h.keep i hi hH)⟩
theorem Kept.mono {H H' : Nat → Prop} {a b : World} (h : Kept H a b) (hs : ∀ b, H' b → H b) : Kept H' a b := ⟨h.size, fun i hi hH => h.keep i hi (hs i hH)⟩
structure RngI {α : Type} (w0 : World) (Rd : World → Prop) (I Ix Ir : List α → (Nat → Prop) → World → Prop) : Prop where
 rd : ∀ pre Y A, I pre Y A → Rd A
 i : ∀ pre Y A Y' A', I pre Y A → Hst w0 Y A Y' A' → I pre Y' A'
 x : ∀ pre Y A Y' A', Ix pre Y A → Hst w0 Y A Y' A' → Ix pre Y' A'
 r : ∀ pre Y A Y' A', Ir pre Y A → Hst w0 Y A Y' A' → Ir pre Y' A'
def wpB (P : Program) (n : Nat) (c y : Code) (Q : Exit → Env → World → Prop) (ρ : Env) (w : World) : Prop := ∀ a, Rep [] n ρ a → c.wpIn (fen none) 0 P (Exit.then (fun a w => y.wpIn (fen none) 0 P (lift ⟨none, []⟩ n Q) a w) (lift ⟨none, []⟩ n Q)) a w
theorem wpE_seqC {P : Program} {n : Nat} {Q : Exit → Env → World → Prop} {ρ : Env} {w : World} {a c y : Code} (h : wpE (x := ⟨none, []⟩) P n a (thenE (fun ρ w => wpB P n c y Q ρ w) Q) ρ w) : wpE (x := ⟨none, []⟩) P n (.seq (.seq a c) y) Q ρ w := fun a ha =>
 wpIn_seq (wpIn_seq (wpIn_mono (h a ha) (fun e a w hl => by
  cases e with
  | normal => obtain ⟨ρ', hr, hq⟩ := lift_norm hl; exact hq a hr
  | _ => exact hl)))
theorem af_r {D : Nat} {Q : Exit → Env → World → Prop} {ρ : Env} {w : World} (h1 : w.heap[D]? = some (.deferred (some []))) (h : ∀ w1, w1 = w.putObj D (.deferred none) → Q .ret ρ w1) : afterE D Q .ret ρ w := ⟨h1, h _ rfl⟩
theorem rd_n {id : Nat} {Y : Nat → Prop} {A A' : World} {I Ix Ir : (Nat → Prop) → World → Prop} {ρ : Env} (h : Kept Y A A' ∧ I Y A') : roundE id Y A I Ix Ir .normal ρ A' := h
theorem rd_r {id : Nat} {Y : Nat → Prop} {A A' : World} {I Ix Ir : (Nat → Prop) → World → Prop} {ρ : Env} (h : Kept Y A A' ∧ Ir Y A') : roundE id Y A I Ix Ir .ret ρ A' := h
theorem HBZ.behind {H Y : Nat → Prop} {w A : World} {l : List HBx} {D : Nat} (hb : HB H w l) (hk : Kept H w A) (hH : ∀ b, H b → Y b) (hD : Y D) (hDe : A.heap[D]? = some (.deferred (some []))) : HBZ [(D, .deferred (some []))] Y A l :=
 ⟨(hb.kept hk).box, fun x hx => hH _ (hb.hid x hx), hb.ne, fun x hx => by
  cases List.mem_singleton.1 hx; exact ⟨hD, hDe, rfl⟩⟩
theorem HBZ.leave {w0 wv : World} {Hv H : Nat → Prop} {w : World} {l : List HBx} {D : Nat} (hb : HBZ [(D, .deferred (some []))] H w l) (hs : Hst w0 Hv wv H w) {w1 : World} (h1 : w1 = w.putObj D (.deferred none)) : Hst w0 Hv wv H w1 ∧ HB H w1 l := by
 have hz := hb.fz _ (List.mem_singleton.2 rfl)
 have E : Ext (· = D) w w1 := by rw [h1]; exact Ext.putObj w D _
 refine ⟨⟨h1 ▸ hs.ext.trans' (Ext.putObj w D _) (fun b _ e => by subst e; exact hz.1), hs.sub, hs.new, hs.old, fun b hb => Nat.lt_of_lt_of_le (hs.lt b hb) E.size, Nat.le_trans hs.base E.size⟩, ?_⟩
 refine ⟨fun x hx => (hb.box x hx).ext E (fun e => ?_), hb.hid, hb.ne, fun x hx => by cases hx⟩
 have h2 := (hb.box x hx).blk
 rw [e, hz.2.1] at h2
 cases h2
theorem HBZ.dead {H : Nat → Prop} {w : World} {l : List HBx} {D : Nat} (hb : HBZ [(D, .deferred (some []))] H w l) : w.heap[D]? = some (.deferred (some [])) := (hb.fz _ (List.mem_singleton.2 rfl)).2.1
theorem x_yield {P : Program} {ε : Operand → Value} {w w' : World} {d : Option Tmp} {ty : TypeId} {pos : String} {aft : Array Edge} {g : Option (Nat × Bool)} {l : Nat} {x : Operand} {v : Value} {c : List Operand} {ts : Array TypeId} {args : Array Value} {r : Next} (hx : ε x = v) (hv : v = .func (.yield l) #[] #[]) (ha : (c.map ε).toArray = args) (hr : (Instr.yield l args).run P w = .ok r w') :
  (execOp ε ⟨d, .call ⟨.value x, c.toArray, ts⟩, ty, pos, aft, g⟩).run P w = .ok r w' := by
 subst hv; subst ha
 simp [execOp, resolve, hx, Deferred.ofValue, invoke, hr]
theorem st_yield {P : Program} {ops : Array Oper} {Q : Env → World → Prop} {ρ : Env} {w : World} {rest : List Oper} {d : Option Tmp} {ty : TypeId} {pos : String} {aft : Array Edge} {g : Option (Nat × Bool)} {l : Nat} {x : Operand} {v : Value} {c : List Operand} {ts : Array TypeId} {args : Array Value}
  (hw : Region.wanted ⟨d, .call ⟨.value x, c.toArray, ts⟩, ty, pos, aft, g⟩ (yieldedE ops ρ) = true) (hx : evE ρ x = v) (hv : v = .func (.yield l) #[] #[]) (ha : (c.map (evE ρ)).toArray = args)
  (h : Yld P l args w (fun e w'' => ∃ v, e = .returned v ∧ wpL P ops Q rest (put ρ d v) w'')) : wpL P ops Q (⟨d, .call ⟨.value x, c.toArray, ts⟩, ty, pos, aft, g⟩ :: rest) ρ w := by
 obtain ⟨fn, tmps, assign, body, hr, hR⟩ := h
 unfold wpL
 rw [if_pos hw]
 unfold yld
 rw [x_yield hx hv ha hr]
 exact hR
theorem Yld.mono {P : Program} {l : Nat} {args : Array Value} {w : World} {R R' : Ending → World → Prop} (h : Yld P l args w R) (hr : ∀ e w, R e w → R' e w) : Yld P l args w R' := by
 obtain ⟨fn, tmps, assign, body, h1, h2⟩ := h
 exact ⟨fn, tmps, assign, body, h1, RoundIn.mono h2 hr⟩
section
variable {P : Program} {n : Nat} {Q : Exit → Env → World → Prop} {ρ : Env} {w w0 : World} {H Hv : Nat → Prop} {wv : World}
theorem wpB_range {id : Nat} {g : Operand} {ps : Array Tmp} {assign body y : Code} {gf : FuncId} {lb : Array Value} {α : Type} {encs : α → Array Value} {xs : List α} {Rd : World → Prop}
  (hg : evE ρ g = .func (.func gf) #[] lb) (eg : ∀ args w, (callFunc gf args).run P w = .ok (.enter gf args) w) (hit : IterC P gf lb encs xs Rd w) (hps : ∀ z, (encs z).size = ps.size) (hpn : ∀ p ∈ ps.toList, p < n)
  (hs : Hst w0 Hv wv H w) (I Ix Ir : List α → (Nat → Prop) → World → Prop) (hRI : RngI w0 Rd I Ix Ir)
  (h0 : I [] H w)
  (hround : ∀ l z A, wpE (x := ⟨some l, []⟩) P n assign (thenE (fun ρ' A' => A' = A ∧ ∀ pre Y A, I pre Y A → Hst w0 Y A Y A → (∃ post, xs = pre ++ z :: post) → wpE (x := ⟨some l, []⟩) P n body (roundE id Y A (I (pre ++ [z])) (Ix (pre ++ [z])) (Ir (pre ++ [z]))) ρ' A) (fun _ _ _ => False)) (setPs ps.toList (encs z).toList ρ) A)
  (hrest : ∀ D Y A, Hst w0 Y A Y A → Y D → A.heap[D]? = some (.deferred (some [])) → (∀ b, H b → Y b) → Kept H w A → (I xs Y A ∨ ∃ pre, Ix pre Y A) → wpE (x := ⟨none, [mark D]⟩) P n y (afterE D Q) ρ A)
  (hret : ∀ D pre Y A, Hst w0 Y A Y A → Y D → A.heap[D]? = some (.deferred (some [])) → Ir pre Y A → Q .ret ρ (A.putObj D (.deferred none))) :
  wpB P n (.block id (.rangeFunc g ps assign body)) y Q ρ w := by
 obtain ⟨hRd, hI, hIx, hIr⟩ := hRI
 intro a ha
 refine wpIn_block (wpIn_rangeFunc ?_)
 intro fn _
 obtain ⟨rec, hrec⟩ : ∃ rec : LoopState → Option Code → Loop, rec = fun st pe => { state := st, pending := pe, fn, tmps := a.tmps, params := ps, assign, body, defers := w.heap.size } := ⟨_, rfl⟩
 obtain ⟨W1, hW1⟩ : ∃ W1, (w.alloc (.deferred (some []))).alloc (.loop (rec .ready none)) = W1 := ⟨_, rfl⟩
 have hL1 : W1.heap[w.heap.size + 1]? = some (.loop (rec .ready none)) := by
  rw [← hW1]; have := World.alloc_heap_new (w.alloc (.deferred (some []))) (.loop (rec .ready none)); rwa [World.size_alloc] at this
 have hK1 : W1.heap[w.heap.size]? = some (.deferred (some [])) := by
  rw [← hW1]; exact (RowKit.Below.heap_alloc _ _ _ (by simp)).trans (World.alloc_heap_new w _)
 have hsz : W1.heap.size = w.heap.size + 2 := by rw [← hW1]; simp
 have E1 : Pure w W1 := by
  rw [← hW1]
  exact ⟨rfl, rfl, rfl, by simp; omega, fun b hb _ => (RowKit.Below.heap_alloc _ _ _ (by simp; omega)).trans (RowKit.Below.heap_alloc _ _ _ hb)⟩
 let Yo : (Nat → Prop) → Nat → Prop := fun X b => H b ∨ b = w.heap.size ∨ b = w.heap.size + 1 ∨ X b
 have hHlt : ∀ b, H b → b < w.heap.size := hs.lt
 have here : ∀ {X : Nat → Prop} {A : World}, Hst W1 X A X A → Hst w0 (Yo X) A (Yo X) A := fun {X A} h =>
  ⟨Ext.refl _, fun _ h => h, fun _ h => .inl h, fun b hb => by
   rcases hb with hb | rfl | rfl | hb
   ·exact hs.old b hb
   ·exact hs.base
   ·have := hs.base; omega
   ·have := h.old b hb; have := hs.base; omega, fun b hb => by
   have z := h.base
   rcases hb with hb | rfl | rfl | hb
   ·have := hHlt b hb; omega
   ·omega
   ·omega
   ·exact h.lt b hb, by have := h.base; have := hs.base; omega⟩
 have up : ∀ {X X' : Nat → Prop} {A A' : World}, Hst W1 X A X A → Hst W1 X A X' A' → Hst w0 (Yo X) A (Yo X') A' := fun {X X' A A'} h k =>
  ⟨k.ext.mono (fun b _ hb => .inr (.inr (.inr hb))), fun b hb => by
   rcases hb with hb | hb | hb | hb
   ·exact .inl hb
   ·exact .inr (.inl hb)
   ·exact .inr (.inr (.inl hb))
   ·exact .inr (.inr (.inr (k.sub b hb))), fun b hb => by
   rcases hb with hb | hb | hb | hb
   ·exact .inl (.inl hb)
   ·exact .inl (.inr (.inl hb))
   ·exact .inl (.inr (.inr (.inl hb)))
   ·exact (k.new b hb).imp_left (fun h => .inr (.inr (.inr h))), (here k.here).old, (here k.here).lt, (here k.here).base⟩
 have nX : ∀ {X : Nat → Prop} {A : World}, Hst W1 X A X A → ∀ b, b < w.heap.size + 2 → ¬ X b := fun h b hb hx => by have := h.old b hx; omega
 have keepH : ∀ {X X' : Nat → Prop} {A A' : World}, Kept H w A → Hst W1 X A X' A' → Kept H w A' := fun {X X' A A'} hk k =>
  hk.trans (k.ext.kept (fun b hb hx => nX k.here b (by have := hHlt b hb; omega) hx))
 have turn : ∀ {X : Nat → Prop} {A : World} (o : Obj), Hst W1 X A X A → Hst w0 (Yo X) A (Yo X) (A.putObj (w.heap.size + 1) o) := fun {X A} o h =>
  ⟨(Ext.putObj A _ o).mono (fun b _ e => by subst e; exact .inr (.inr (.inl rfl))), fun _ h => h, fun _ h => .inl h, (here h).old, fun b hb => by have := (here h).lt b hb; simpa using this, by simpa using (here h).base⟩
 have hstW : ∀ {X : Nat → Prop} {A : World} (o : Obj), Hst W1 X A X A → Hst W1 X (A.putObj (w.heap.size + 1) o) X (A.putObj (w.heap.size + 1) o) := fun o h =>
  ⟨Ext.refl _, fun _ h => h, fun _ h => .inl h, h.old, fun b hb => by have := h.lt b hb; simpa using this, by simpa using h.base⟩
 have keepT : ∀ {A : World} (o : Obj), Kept H w A → Kept H w (A.putObj (w.heap.size + 1) o) := fun {A} o hk => hk.trans ((Ext.putObj A _ o).kept (fun b hb e => by have := hHlt b hb; omega))
 let Jc : Code → List α → (Nat → Prop) → World → Prop := fun c pre Y A => match c with
  | .ret => Ir pre Y A
  | .exit id' => id' = id ∧ Ix pre Y A
  | _ => False
 have hJc : ∀ c pre Y A Y' A', Jc c pre Y A → Hst w0 Y A Y' A' → Jc c pre Y' A' := by
  intro c pre Y A Y' A' h k
  cases c <;> first | exact hIr _ _ _ _ _ h k | exact ⟨h.1, hIx _ _ _ _ _ h.2 k⟩ | exact h
 refine ⟨w.heap.size + 1, [mark w.heap.size], W1, { target := .fn (.func gf) lb, args := #[.func (.yield (w.heap.size + 1)) #[] #[]] }, W1, gf,
  #[.func (.yield (w.heap.size + 1)) #[] #[]] ++ lb, W1, ?_, ?_, fun _ _ => trivial, ?_, (fun h => by cases h), callsIn_wide.2 ?_⟩
 ·rw [← hW1, hrec]; exact run_enterLoop_outer _ _ _ _ _
 ·have hev : a.eval g = .func (.func gf) #[] lb := by rw [ha.eval]; exact hg
  simp only [resolve, hev]
  simp [go_sem]
 ·simp [invoke, go_sem, eg]
 have hst1 : Hst W1 None W1 None W1 := Hst.start W1
 refine (hit (w.heap.size + 1)
  (fun pre X A => Hst W1 X A X A ∧ I pre (Yo X) A ∧ A.heap[w.heap.size + 1]? = some (.loop (rec .ready none)) ∧ A.heap[w.heap.size]? = some (.deferred (some [])) ∧ Kept H w A)
  (fun pre X A => Hst W1 X A X A ∧ ∃ c, Jc c pre (Yo X) A ∧ A.heap[w.heap.size + 1]? = some (.loop (rec .done (some c))) ∧ A.heap[w.heap.size]? = some (.deferred (some [])) ∧ Kept H w A)
  W1 E1 (fun pre X A h => hRd _ _ _ h.2.1)
  (fun pre X A X' A' h k => ⟨k.here, hI _ _ _ _ _ h.2.1 (up h.1 k), k.ext.heap h.2.2.1 (nX k.here _ (by omega)), k.ext.heap h.2.2.2.1 (nX k.here _ (by omega)), keepH h.2.2.2.2 k⟩)
  (fun pre X A X' A' h k => by
   obtain ⟨h1, c, h2, h3, h4, h5⟩ := h
   exact ⟨k.here, c, hJc _ _ _ _ _ _ h2 (up h1 k), k.ext.heap h3 (nX k.here _ (by omega)), k.ext.heap h4 (nX k.here _ (by omega)), keepH h5 k⟩)
  ?_ ⟨hst1, hI _ _ _ _ _ h0 ⟨E1.pure, fun b hb => .inl hb, fun b hb => ?_, (here hst1).old, (here hst1).lt, (here hst1).base⟩, hL1, hK1, E1.keptP⟩).mono ?_
 ·-- one round
  rintro pre z X A ⟨hX, hi, hl, hk, hkH⟩ _ hpost
  have hlt : w.heap.size + 1 < A.heap.size := (Array.getElem?_eq_some_iff.1 hl).1
  have hy := run_yield (P := P) (args := encs z) hl (by rw [hrec]; exact hps z)
  rw [hrec] at hy
  refine ⟨fn, _, assign, body, hy, roundIn_of_wpIn (F := Fence.wide) trivial ?_⟩
  have hrep : Rep [] n (setPs ps.toList (encs z).toList ρ) { tmps := (ps.zip (encs z)).foldl (fun t (x : Nat × Value) => t.setIfInBounds x.1 x.2) a.tmps, defers := [] } := by
   have := rep_setPs ps.toList (encs z).toList ρ a.tmps hpn ⟨rfl, ha.size, ha.get⟩
   rw [← Array.foldl_toList, Array.toList_zip]
   exact this
  refine wpIn_mono (hround (w.heap.size + 1) z A _ hrep) ?_
  rintro e a1 A1 ⟨ρ', hor⟩
  have hor := hor.resolve_right (fun h => by cases h.2.1)
  obtain ⟨hr1, hq⟩ := hor
  cases e <;> first | exact hq.elim | skip
  obtain ⟨rfl, hbody⟩ := hq
  refine ⟨_, run_beginRound hl (by rw [hrec]), ?_⟩
  have T1 := turn (.loop { rec .ready none with state := .busy }) hX
  have hX1 := hstW (.loop { rec .ready none with state := .busy }) hX
  have hl2 : (A1.putObj (w.heap.size + 1) (.loop { rec .ready none with state := .busy })).heap[w.heap.size + 1]? = some (.loop { rec .ready none with state := .busy }) := World.putObj_heap_same hlt
  have hk2 : (A1.putObj (w.heap.size + 1) (.loop { rec .ready none with state := .busy })).heap[w.heap.size]? = some (.deferred (some [])) := (World.putObj_heap_other (by omega)).trans hk
  have hkH2 := keepT (.loop { rec .ready none with state := .busy }) hkH
  have hi2 := hI _ _ _ _ _ hi T1
  refine wpIn_mono (hbody pre (Yo X) _ hi2 T1.here hpost a1 hr1) ?_
  have fin : ∀ (jump : Option Code) (A3 : World), Kept (Yo X) (A1.putObj (w.heap.size + 1) (.loop { rec .ready none with state := .busy })) A3 →
    (Instr.endRound (w.heap.size + 1) jump).run P A3 = .ok (.bool jump.isNone) (A3.putObj (w.heap.size + 1) (.loop (rec (if jump.isNone then .ready else .done) jump))) ∧
    Hst W1 X (A3.putObj (w.heap.size + 1) (.loop (rec (if jump.isNone then .ready else .done) jump))) X (A3.putObj (w.heap.size + 1) (.loop (rec (if jump.isNone then .ready else .done) jump))) ∧
    Hst w0 (Yo X) A3 (Yo X) (A3.putObj (w.heap.size + 1) (.loop (rec (if jump.isNone then .ready else .done) jump))) ∧
    (A3.putObj (w.heap.size + 1) (.loop (rec (if jump.isNone then .ready else .done) jump))).heap[w.heap.size + 1]? = some (.loop (rec (if jump.isNone then .ready else .done) jump)) ∧
    (A3.putObj (w.heap.size + 1) (.loop (rec (if jump.isNone then .ready else .done) jump))).heap[w.heap.size]? = some (.deferred (some [])) ∧
    Kept H w (A3.putObj (w.heap.size + 1) (.loop (rec (if jump.isNone then .ready else .done) jump))) ∧
    Kept X A1 (A3.putObj (w.heap.size + 1) (.loop (rec (if jump.isNone then .ready else .done) jump))) := fun jump A3 hk3 => by
   have hl3 : A3.heap[w.heap.size + 1]? = some (.loop { rec .ready none with state := .busy }) := by
    rw [hk3.keep _ (by simpa using hlt) (.inr (.inr (.inl rfl)))]; exact hl2
   have hD3 : A3.heap[w.heap.size]? = some (.deferred (some [])) := by
    rw [hk3.keep _ (by simp; omega) (.inr (.inl rfl))]; exact hk2
   have hX3 : Hst W1 X A3 X A3 := hX1.again (hk3.mono (fun b hb => .inr (.inr (.inr hb))))
   have hrun := run_endRound (P := P) jump hl3
   rw [hrec] at hrun
   refine ⟨by rw [hrec]; exact hrun, hstW _ hX3, turn _ hX3, World.putObj_heap_same (Array.getElem?_eq_some_iff.1 hl3).1, (World.putObj_heap_other (by omega)).trans hD3, keepT _ (hkH2.trans (hk3.mono (fun b hb => .inl hb))), ?_⟩
   have k1 : Kept X A1 (A1.putObj (w.heap.size + 1) (.loop { rec .ready none with state := .busy })) := (Ext.putObj A1 _ _).kept (fun b hb e => by have := hX.old b hb; omega)
   exact (k1.trans (hk3.mono (fun b hb => .inr (.inr (.inr hb))))).trans ((Ext.putObj A3 _ _).kept (fun b hb e => by have := hX.old b hb; omega))
  rintro e a3 A3 ⟨ρ3, hor⟩
  have hor := hor.resolve_right (fun h => by cases h.2.1)
  obtain ⟨hr3, hq⟩ := hor
  cases e with
  | normal =>
   obtain ⟨hk3, hi3⟩ := hq
   obtain ⟨f1, f2, f3, f4, f5, f6, f7⟩ := fin none A3 hk3
   exact ⟨_, _, f1, .inl ⟨rfl, f7, f2, hI _ _ _ _ _ hi3 f3, f4, f5, f6⟩⟩
  | ret =>
   obtain ⟨hk3, hi3⟩ := hq
   obtain ⟨f1, f2, f3, f4, f5, f6, f7⟩ := fin (some .ret) A3 hk3
   exact ⟨_, _, f1, .inr ⟨rfl, f7, f2, .ret, hIr _ _ _ _ _ hi3 f3, f4, f5, f6⟩⟩
  | exit id' =>
   obtain ⟨rfl, hk3, hi3⟩ := hq
   obtain ⟨f1, f2, f3, f4, f5, f6, f7⟩ := fin (some (.exit id')) A3 hk3
   exact ⟨_, _, f1, .inr ⟨rfl, f7, f2, .exit id', ⟨rfl, hIx _ _ _ _ _ hi3 f3⟩, f4, f5, f6⟩⟩
  | goto t => exact hq.elim
  | panic ch => exact hq.elim
  | outgrown => exact hq.elim
 ·rcases hb with hb | rfl | rfl | hb
  ·exact .inl hb
  ·exact .inr (Nat.le_refl _)
  ·exact .inr (by omega)
  ·exact hb.elim
 ·-- behind the iterator
  have hrepM : Rep [mark w.heap.size] n ρ { a with defers := [mark w.heap.size] ++ a.defers } := ⟨by rw [show a.defers = [] from ha.defers]; rfl, ha.size, ha.get⟩
  have go : ∀ (A : World), Hst w0 (Yo fun b => H b ∨ b = w.heap.size ∨ b = w.heap.size + 1) A (Yo fun b => H b ∨ b = w.heap.size ∨ b = w.heap.size + 1) A → True := fun _ _ => trivial
  have rest : ∀ (X : Nat → Prop) (A : World), Hst w0 (Yo X) A (Yo X) A → A.heap[w.heap.size]? = some (.deferred (some [])) → Kept H w A → (I xs (Yo X) A ∨ ∃ pre, Ix pre (Yo X) A) →
    y.wpIn (fen none) 0 P (lift ⟨none, []⟩ n Q) { a with defers := [mark w.heap.size] ++ a.defers } A := by
   intro X A hA hD hkA hIA
   refine wpIn_mono (hrest w.heap.size (Yo X) A hA (.inr (.inl rfl)) hD (fun b hb => .inl hb) hkA hIA _ hrepM) ?_
   rintro e a2 A2 ⟨ρ2, ⟨hr2, hq⟩ | ⟨_, _, h, _⟩⟩
   ·cases e <;> first | exact hq.elim | skip
    exact ⟨ρ2, .inr ⟨rfl, rfl, rfl, w.heap.size, hr2, hq.1, hq.2⟩⟩
   ·cases h
  rintro e A ⟨⟨v, rfl⟩, X, _, ⟨hX, hi, hl, hk, hkH⟩ | ⟨pre, hX, c, hc, hl, hk, hkH⟩⟩
  ·obtain ⟨o, hrun⟩ : ∃ o, (Instr.endLoop (w.heap.size + 1)).run P A = .ok none (A.putObj (w.heap.size + 1) o) := by
    have := run_endLoop (P := P) hl (by rw [hrec]; simp)
    rw [hrec] at this
    exact ⟨_, this⟩
   have T := turn o hX
   exact ⟨none, _, hrun, rest X _ T.here ((World.putObj_heap_other (by omega)).trans hk) (keepT _ hkH) (.inl (hI _ _ _ _ _ hi T))⟩
  ·obtain ⟨o, hrun⟩ : ∃ o, (Instr.endLoop (w.heap.size + 1)).run P A = .ok (some c) (A.putObj (w.heap.size + 1) o) := by
    have := run_endLoop (P := P) hl (by rw [hrec]; simp)
    rw [hrec] at this
    exact ⟨_, this⟩
   have T := turn o hX
   refine ⟨some c, _, hrun, ?_⟩
   have hc' := hJc _ _ _ _ _ _ hc T
   have hD := (World.putObj_heap_other (w := A) (r := w.heap.size + 1) (o := o) (k := w.heap.size) (by omega)).trans hk
   cases c <;> first | exact hc.elim | skip
   case exit id' =>
    obtain ⟨rfl, hx⟩ := hc'
    refine wpIn_exit ?_
    simp only [Exit.inBlock, if_true]
    exact rest X _ T.here hD (keepT _ hkH) (.inr ⟨pre, hx⟩)
   case ret =>
    refine wpIn_ret ?_
    exact ⟨ρ, .inr ⟨rfl, rfl, rfl, w.heap.size, hrepM, hD, hret w.heap.size pre (Yo X) _ T.here (.inr (.inl rfl)) hD hc'⟩⟩
end
end Go.SE
namespace Go.SE
theorem Hst.putD {w0 w : World} {H : Nat → Prop} {D : Nat} {o : Obj} (hs : Hst w0 H w H w) (hD : H D) : Hst w0 H w H (w.putObj D o) :=
 ⟨(Ext.putObj w D o).mono (fun b _ e => by subst e; exact hD), fun _ h => h, fun _ h => .inl h, hs.old, fun b hb => by have := hs.lt b hb; simpa using this, by simpa using hs.base⟩
end Go.SE
end
section
open Go Go.SE
namespace Go.Proofs
set_option maxRecDepth 100000
set_option maxHeartbeats 4000000
attribute [local irreducible] wpL wpX opE wpE Calls
def m_term_Pool_Subs_1_l1 (yield1 : Value) (r1 : Sl) (x1 : Int) (wl1 : World) (Kc1 : Int → World → Prop) (K : World → Prop) : Prop :=
 Br (decide (x1 < (r1.len : Int)))
  (∃ a1 : Addr, At r1 x1 1 a1 ∧
  ∃ v3 : Int, wl1.cell? a1 = some (vi v3) ∧
  ∃ (ly1 : Nat), yield1 = .func (.yield ly1) #[] #[] ∧
  Yld Try.prog ly1 #[(vi v3)] wl1 (fun e w2 => ∃ b1 : Bool, e = .returned (vb b1) ∧
   Br (!b1)
    (K w2)
    (Kc1 (IntKind.i64.wrap (x1 + 1)) w2)))
  (K wl1)
def m_term_Pool_Subs_1 (yield1 : Value) (cap1 cap2 : Addr) (w0 : World) (K : World → Prop) : Prop :=
 ∃ v1 : Option Addr, w0.cell? cap1 = some (vp v1) ∧
 ∃ v2 : Int, w0.cell? cap2 = some (vi v2) ∧
 Calls Try.prog 86 #[(vp v1), (vi v2)] w0 (fun e w1 => ∃ r1 : Sl, e = .returned r1.v ∧ 
  ∃ (I1 : Int → World → Prop) (mu1 : Int → World → Nat), I1 0 w1 ∧
   ∀ (x1 : Int) (wl1 : World), I1 x1 wl1 → m_term_Pool_Subs_1_l1 yield1 r1 x1 wl1 (fun y'0 w' => I1 y'0 w' ∧ mu1 y'0 w' < mu1 x1 wl1) K)
theorem w_term_Pool_Subs_1 (yield1 : Value) (cap1 cap2 : Addr) (w0 : World) (K : World → Prop) (h : m_term_Pool_Subs_1 yield1 cap1 cap2 w0 K) :
  Calls Try.prog 85 #[yield1, (vp (some cap1)), (vp (some cap2))] w0 (fun e w' => e = .returned (.tuple #[]) ∧ K  w') := by
 unfold m_term_Pool_Subs_1 at h
 refine calls_of_wpE (args := [yield1, (vp (some cap1)), (vp (some cap2))]) Try.func85 rfl Try.ntmps85 (Nat.le_of_ble_eq_true rfl) (wpE_seq (rg ?_))
 obtain ⟨v1, hv4, h⟩ := h
 refine q2 (vp v1) (xl (Try.isAgg36 _) hv4) ?_
 obtain ⟨v2, hv3, h⟩ := h
 refine q2 (vi v2) (xl (Try.isAgg32 _) hv3) ?_
 refine st_call (want0 rfl) (xc Try.call86) (h.mono ?_)
 rintro e w1 ⟨r1, rfl, h⟩
 refine ⟨_, rfl, ?_⟩
 refine q0 (vi (r1.len : Int)) (q0 (vi 0) (wpL_nil (th_n (wpE_block ?_))))
 obtain ⟨I1, mu1, h0, hr⟩ := h
 refine wpE_loop (σ := Int × World) (fun s ρ w => w = s.2 ∧ Has ρ [(0, yield1), (8, r1.v), (9, (vi (r1.len : Int))), (10, (vi s.1))] ∧ I1 s.1 s.2) (fun s => mu1 s.1 s.2) (0, w1) ⟨rfl, Has.mk (by kernel_rfl), h0⟩ ?_
 rintro ⟨x1, wl1⟩ ρ w ⟨hw, hH, hI⟩
 obtain rfl : wl1 = w := (show w = wl1 from hw).symm
 replace hH : Has ρ [(0, yield1), (8, r1.v), (9, (vi (r1.len : Int))), (10, (vi x1))] := hH
 have h := hr x1 wl1 hI
 clear hr h0
 unfold m_term_Pool_Subs_1_l1 at h
 refine wpE_has hH ?_
 clear hH hI
 refine wpE_seq (rg (q0 (vb (decide (x1 < (r1.len : Int)))) (wpL_nil (th_n (wpE_seq ?_)))))
 refine wpE_cond (t := (decide (x1 < (r1.len : Int)))) (by kernel_rfl) (fun hc1 => ?_) (fun hc1 => ?_)
 ·replace h := h.1 hc1
  refine wpE_skip (th_n (wpE_seq (wpE_block (wpE_seq (rg ?_)))))
  obtain ⟨a1, hv2, h⟩ := h
  refine q2 (vp (some a1)) (x_indexAddr (s := r1) (k := .i64) (i := x1) (by kernel_rfl) (by kernel_rfl) (Try.runUnderlying39 _) (Try.sizeOf32 _) hv2) ?_
  obtain ⟨v3, hv1, h⟩ := h
  refine q2 (vi v3) (xl (Try.isAgg32 _) hv1) (q0 (vi v3) (wpL_nil (th_n (wpE_seq (rg (q0 yield1 (q0 (vi v3) ?_)))))))
  obtain ⟨ly1, hy1, h⟩ := h
  refine st_yield (want0 rfl) (by kernel_rfl) hy1 (by kernel_rfl) (h.mono ?_)
  rintro e w2 ⟨b1, rfl, h⟩
  refine ⟨_, rfl, ?_⟩
  refine q0 (vb (!b1)) (wpL_nil (th_n ?_))
  refine wpE_cond (t := (!b1)) (by kernel_rfl) (fun hc2 => ?_) (fun hc2 => ?_)
  ·replace h := h.1 hc2
   refine wpE_ret (bl_r (th_r (th_r (bl_r (res0 (.inl rfl) Try.results85 ?_)))))
   exact ⟨rfl, h⟩
  ·replace h := h.2 hc2
   refine wpE_skip (bl_n (th_n (rg (q0 (vi (IntKind.i64.wrap (x1 + 1))) (q0 (vi (IntKind.i64.wrap (x1 + 1))) (wpL_nil (th_n ?_)))))))
   exact ⟨((IntKind.i64.wrap (x1 + 1)), w2), ⟨rfl, Has.mk (by kernel_rfl), h.1⟩, h.2⟩
 ·replace h := h.2 hc1
  refine wpE_exit (th_x (th_x (bl_eq (res0 (.inr rfl) Try.results85 ?_))))
  exact ⟨rfl, h⟩
end Go.Proofs
end
section
open Go Go.SE
namespace Go.SE
theorem Rws.kept {w w' : World} {X : Nat → Prop} {e : TypeId} {sz : Nat} {s : Sl} {rs : List (List Value)} (h : Rws w e sz s rs) (hk : Kept X w w') (hX : ∀ b, s.blk b → X b) : Rws w' e sz s rs := by
 refine ⟨h.each, h.len, ?_⟩
 rcases h.own with h' | ⟨g, cur, ha, hg, r⟩
 ·exact .inl h'
 ·exact .inr ⟨g, cur, ha, by rw [hk.keep g (heap_lt hg) (hX g ⟨_, ha, rfl⟩)]; exact hg, r⟩
end Go.SE
namespace Go.Sp
theorem overS_kids {L : Pool} (hW : Wf L) {t : Int} (ht : inP L t = true) (n : Nat) (st : (Int → Bool) × List Int) : (kidsOf (nodeOf L t)).foldl (fun st k => overS L n k st) st = overS L n (nodeOf L t).b (overS L n (nodeOf L t).a st) := by
 have z : ∀ st, overS L n 0 st = st := fun st => by
  cases n with
  | zero => rfl
  | succ n => rw [overS, if_neg (by simp [inP])]
 have h1 := (hW.node ht).2.1
 have h2 := (hW.node ht).2.2.1
 unfold kidsOf
 rcases kids_le (nodeOf L t).kind with e | e | e
 ·rw [e, h1 (by omega), h2 (by omega), z, z]; rfl
 ·rw [e, h2 (by omega), z]; rfl
 ·rw [e]; rfl
end Go.Sp
namespace Go.Proofs
attribute [local irreducible] Calls
def umap (M : List Int) : List (Int × Unit) := M.map fun t => (t, ())
theorem umap_fst (M : List Int) : (umap M).map Prod.fst = M := by simp [umap, Function.comp_def]
def one1 (_ : Unit) : Value := .int .i64 1
structure WkAt (w : World) (p c1 c2 c3 c4 : Addr) (m : Nat) (so : Sl) (L : Sp.Pool) (FP : Nat → Prop) (st : (Int → Bool) × List Int) : Prop where
 b1 : Box w c1 [.map (some m)] 155
 b2 : Box w c2 [.pointer (some p)] 36
 b3 : Box w c3 [.func (.func 134) #[] #[.pointer (some c1), .pointer (some c2), .pointer (some c3), .pointer (some c4)]] 153
 b4 : Box w c4 [so.v] 39
 mp : ∃ M, IMap one1 w m (umap M) ∧ ∀ x, st.1 x = decide (x ∈ M)
 out : Rws w 32 1 so (tmr st.2)
 pool : PoolAt w p L FP
 n4 : c4.block ≠ c1.block ∧ c4.block ≠ c2.block ∧ c4.block ≠ c3.block ∧ c4.block ≠ m
 nm : m ≠ c1.block ∧ m ≠ c2.block ∧ m ≠ c3.block
 ns : ∀ b, so.blk b → b ≠ c1.block ∧ b ≠ c2.block ∧ b ≠ c3.block ∧ b ≠ c4.block ∧ b ≠ m
 nf : ∀ b, FP b → b ≠ c4.block ∧ b ≠ m ∧ ¬ so.blk b
def WkF (c4 : Addr) (m : Nat) (so : Sl) (b : Nat) : Prop := b = c4.block ∨ b = m ∨ so.blk b
section
variable {w w' : World} {p c1 c2 c3 c4 : Addr} {m : Nat} {so : Sl} {L : Sp.Pool} {FP : Nat → Prop} {st : (Int → Bool) × List Int}
theorem WkAt.pure (h : WkAt w p c1 c2 c3 c4 m so L FP st) (E : Pure w w') : WkAt w' p c1 c2 c3 c4 m so L FP st :=
 ⟨h.b1.pure E, h.b2.pure E, h.b3.pure E, h.b4.pure E, let ⟨M, h1, h2⟩ := h.mp; ⟨M, h1.pure E, h2⟩, h.out.pure E, h.pool.pure E, h.n4, h.nm, h.ns, h.nf⟩
end
theorem c_walk (p c1 c2 c3 c4 : Addr) (m : Nat) {L : Sp.Pool} {FP : Nat → Prop} (hW : Sp.Wf L) : ∀ (n : Nat) (t : Int) (w0 : World) (st : (Int → Bool) × List Int) (so : Sl), t.toNat < n → Sp.inP L t = true → WkAt w0 p c1 c2 c3 c4 m so L FP st → Sp.OvOk L st → (∀ y, st.1 y = true → y ≤ t → y ∈ st.2) →
  Calls Try.prog 134 #[.int .i64 t, .pointer (some c1), .pointer (some c2), .pointer (some c3), .pointer (some c4)] w0 (fun e w' => e = .returned (.tuple #[]) ∧ ∃ so', WkAt w' p c1 c2 c3 c4 m so' L FP (Sp.overS L n t st) ∧ Ext (WkF c4 m so) w0 w' ∧ ∀ b, so'.blk b → so.blk b ∨ w0.heap.size ≤ b) := by
 intro n
 induction n with
 | zero => intro t w0 st so h; omega
 | succ n ih =>
 intro t w0 st so hn hin h hst hm
 have hR := Sp.over_ok hW (n + 1) t st hn hst hm
 suffices key : ∀ K : World → Prop, (∀ so' w', WkAt w' p c1 c2 c3 c4 m so' L FP (Sp.overS L (n + 1) t st) → Ext (WkF c4 m so) w0 w' → (∀ b, so'.blk b → so.blk b ∨ w0.heap.size ≤ b) → K w') → m_term_Pool_subs_1 t c1 c2 c3 c4 w0 K from
  w_term_Pool_subs_1 _ _ _ _ _ w0 _ (key _ (fun so' w' a b c => ⟨so', a, b, c⟩))
 intro K hK
 unfold m_term_Pool_subs_1
 obtain ⟨M, hM, hV⟩ := h.mp
 have hz : ∀ w, (zeroValue 3).run Try.prog w = .ok (.int .i64 0) w := fun w => Try.zeroValue3 w
 rcases hM.get Try.underlying155 Try.underlying32 (hz w0) t false with ⟨hno, hl⟩ | ⟨u, hyes, hl⟩
 ·have hnot : t ∉ M := by have := look_none.1 hno; rwa [umap_fst] at this
  have hv : st.1 t = false := by rw [hV]; simpa using hnot
  rw [Sp.overS, if_pos ⟨hin, hv⟩] at hK hR
  refine ⟨some m, h.b1.cell0, 0, hl, Br.f (by simp) ?_⟩
  obtain ⟨w1, hu, hM1, E1⟩ := hM.put (f := one1) Try.underlying155 Try.underlying32 hno ()
  refine ⟨some m, h.b1.cell0, 0, hl, w1, by rw [i64 (by omega) (by omega)]; exact hu, ?_⟩
  have A1 : WkAt w1 p c1 c2 c3 c4 m so L FP (Sp.upd st.1 t true, st.2) :=
   ⟨h.b1.ext E1 (fun e => h.nm.1 e.symm), h.b2.ext E1 (fun e => h.nm.2.1 e.symm), h.b3.ext E1 (fun e => h.nm.2.2 e.symm), h.b4.ext E1 h.n4.2.2.2,
   ⟨M ++ [t], by rw [show umap (M ++ [t]) = umap M ++ [(t, ())] by simp [umap]]; exact hM1, fun x => by
     simp only [Sp.upd, List.mem_append, List.mem_singleton]
     by_cases e : x = t
     ·simp [e]
     ·rw [if_neg e, hV]; simp [e]⟩,
   h.out.ext E1 (fun b hb => (h.ns b hb).2.2.2.2), h.pool.ext E1 (fun b hb => (h.nf b hb).2.1), h.n4, h.nm, h.ns, h.nf⟩
  refine ⟨some p, A1.b2.cell0, ?_⟩
  refine (c_kids p t w1 A1.pool hW.ok).mono ?_
  rintro _ w2 ⟨r1, rfl, hks, E2⟩
  refine ⟨_, rfl, ?_⟩
  have A2 := A1.pure E2
  have o1 : Sp.OvOk L (Sp.upd st.1 t true, st.2) := ⟨fun y hy => by simp only [Sp.upd]; split <;> simp [hst.marked y hy], hst.closed, hst.nd, hst.inp⟩
  have hkid := (hW.node hin).2.2.2.2.1
  have hlen : (Sp.kidsOf (Sp.nodeOf L t)).length ≤ 2 := by rw [Sp.kidsOf]; simp; omega
  generalize hks0 : Sp.kidsOf (Sp.nodeOf L t) = ks at *
  let sj : Nat → (Int → Bool) × List Int := fun j => (ks.take j).foldl (fun st k => Sp.overS L n k st) (Sp.upd st.1 t true, st.2)
  have good : ∀ j, j ≤ ks.length → Sp.OvOk L (sj j) ∧ ∀ y, (sj j).1 y = true → y < t → y ∈ (sj j).2 := by
   intro j
   induction j with
   | zero =>
    intro _
    refine ⟨o1, fun y hy hlt => ?_⟩
    simp only [sj, List.take_zero, List.foldl_nil, Sp.upd] at hy ⊢
    rw [if_neg (by omega)] at hy
    exact hm y hy (by omega)
   | succ j ihj =>
    intro hj
    obtain ⟨g1, g2⟩ := ihj (by omega)
    have hk := hkid ks[j] (List.getElem_mem _)
    have hk1 := (Sp.inP_iff.1 hk.1).1
    have e : sj (j + 1) = Sp.overS L n ks[j] (sj j) := by simp only [sj]; rw [List.take_succ_eq_append_getElem (by omega), List.foldl_append]; rfl
    have r := Sp.over_ok hW n ks[j] (sj j) (by omega) g1 (fun y hy hle => g2 y hy (by omega))
    rw [e]
    refine ⟨r.toOvOk, fun y hy hlt => ?_⟩
    rcases r.back y hy with h1 | h1
    ·obtain ⟨M', e', _⟩ := r.app
     rw [e']; exact List.mem_append_left _ (g2 y h1 hlt)
    ·exact h1
  refine ⟨fun x A => ∃ (j : Nat) (so' : Sl), x = j ∧ j ≤ ks.length ∧ WkAt A p c1 c2 c3 c4 m so' L FP (sj j) ∧ Ext (WkF c4 m so) w2 A ∧ ∀ b, so'.blk b → so.blk b ∨ w2.heap.size ≤ b, fun x _ => ((ks.length : Int) - x).toNat, ⟨0, so, rfl, Nat.zero_le _, A2, Ext.refl _, fun b hb => .inl hb⟩, ?_⟩
  rintro _ w3 ⟨j, so3, rfl, hj, A3, X3, f3⟩
  unfold m_term_Pool_subs_1_l1
  have hlen1 : r1.len = ks.length := by rw [hks.len, tmr_len]
  have hks3 : Lst (fun b => w1.heap.size ≤ b ∧ b < w2.heap.size) w3 1 r1 (tmr ks) := hks.ext X3 (fun b hb hx => by
   rcases hx with hx | hx | hx
   ·have := A1.b4.lt; omega
   ·have : m < w1.heap.size := hM1.lt; omega
   ·have := A1.out.lt hx; omega)
  obtain ⟨g1, g2⟩ := good j hj
  refine ⟨fun hc => ?_, fun hc => ?_⟩
  ·have hc : j < ks.length := by have := of_decide_eq_true hc; omega
   obtain ⟨a, hat, _, hv⟩ := tm_nth hks3 hc
   refine ⟨a, hat, _, hv, _, A3.b3.cell0, _, _, _, rfl, Try.call134, ?_⟩
   have hk := hkid ks[j] (List.getElem_mem _)
   have hk1 := (Sp.inP_iff.1 hk.1).1
   refine (ih ks[j] w3 (sj j) so3 (by omega) hk.1 A3 g1 (fun y hy hle => g2 y hy (by omega))).mono ?_
   rintro _ w4 ⟨rfl, so4, A4, X4, f4⟩
   refine ⟨rfl, ⟨j + 1, so4, wrap_succ hc (by omega), hc, ?_, X3.trans' X4 (fun i hi hb => ?_), fun b hb => ?_⟩, ?_⟩
   ·have e : sj (j + 1) = Sp.overS L n ks[j] (sj j) := by simp only [sj]; rw [List.take_succ_eq_append_getElem (by omega), List.foldl_append]; rfl
    rw [e]; exact A4
   ·rcases hb with hb | hb | hb
    ·exact .inl hb
    ·exact .inr (.inl hb)
    ·exact .inr (.inr ((f3 i hb).elim id (fun h => by omega)))
   ·rcases f4 b hb with h1 | h1
    ·exact f3 b h1
    ·have := X3.size; right; omega
   ·rw [wrap_succ hc (by omega)]
    show ((ks.length : Int) - ((j + 1 : Nat) : Int)).toNat < ((ks.length : Int) - (j : Int)).toNat
    omega
  ·have hc : j = ks.length := by have := of_decide_eq_false hc; omega
   subst hc
   have es : sj ks.length = Sp.overS L n (Sp.nodeOf L t).b (Sp.overS L n (Sp.nodeOf L t).a (Sp.upd st.1 t true, st.2)) := by
    rw [← Sp.overS_kids hW hin, hks0]; simp only [sj, List.take_length]
   simp only at hK hR
   rw [← es] at hK hR
   generalize sj ks.length = s3 at *
   refine ⟨so3, A3.b4.cell0, ?_⟩
   intro p1 w4 h4
   have E4 : Pure w3 w4 := Ext.new h4
   have hfew : s3.2.length ≤ 65536 := by have := Sp.pool_few g1.nd g1.inp; have := hW.ok.few; omega
   obtain ⟨s1', w5, hr5, R5, X5, f5⟩ := (A3.out.pure E4).append (P := Try.prog) (ty := 39) (c := 1) slT_tm (r := [.int .i64 t]) (Box.of_new h4).row rfl rfl (by rw [tmr_len]; omega) (by rw [tmr_len]; simp [maxLen]; omega)
   have b5 := (A3.b4.pure E4).ext X5 (fun hb => (A3.ns _ hb).2.2.2.1 rfl)
   refine ⟨s1', w5, hr5, b5.canW0 (by simp), ?_⟩
   intro w6 h6
   have E6 : Ext (· = c4.block) w5 w6 := by rw [h6]; exact Ext.setCell c4 _
   have b6 : Box w6 c4 [s1'.v] 39 := by rw [h6]; exact b5.set0
   have z1 := E1.size
   have z2 := E2.size
   have z3 := X3.size
   have z4 := E4.size
   have f5' : ∀ b, s1'.blk b → so3.blk b ∨ w3.heap.size ≤ b := fun b hb => (f5 b hb).imp_right (fun h => by omega)
   have ns' : ∀ b, s1'.blk b → b ≠ c1.block ∧ b ≠ c2.block ∧ b ≠ c3.block ∧ b ≠ c4.block ∧ b ≠ m := fun b hb => (f5' b hb).elim (A3.ns b) (fun hh => by
    have q1 := A3.b1.lt; have q2 := A3.b2.lt; have q3 := A3.b3.lt; have q4 := A3.b4.lt
    have q5 : m < w3.heap.size := by obtain ⟨M', hM', _⟩ := A3.mp; exact hM'.lt
    exact ⟨by omega, by omega, by omega, by omega, by omega⟩)
   have up : ∀ {T : TypeId} {c : Addr} {vs : List Value}, Box w3 c vs T → ¬ so3.blk c.block → c.block ≠ c4.block → Box w6 c vs T := fun h h1 h2 => ((h.pure E4).ext X5 h1).ext E6 h2
   refine hK s1' w6 ⟨up A3.b1 (fun hb => (A3.ns _ hb).1 rfl) A3.n4.1.symm, up A3.b2 (fun hb => (A3.ns _ hb).2.1 rfl) A3.n4.2.1.symm, up A3.b3 (fun hb => (A3.ns _ hb).2.2.1 rfl) A3.n4.2.2.1.symm, b6, ?_, ?_, ((A3.pool.pure E4).ext X5 (fun b hb => (A3.nf b hb).2.2)).ext E6 (fun b hb e => (A3.nf b hb).1 e), A3.n4, A3.nm, ns', fun b hb => ⟨(A3.nf b hb).1, (A3.nf b hb).2.1, fun hh => (f5' b hh).elim (A3.nf b hb).2.2 (fun hh => by have := A3.pool.lt hb; omega)⟩⟩ ?_ ?_
   ·obtain ⟨M', hM', hV'⟩ := A3.mp
    exact ⟨M', ((hM'.pure E4).ext X5 (fun hb => (A3.ns _ hb).2.2.2.2 rfl)).ext E6 A3.n4.2.2.2.symm, hV'⟩
   ·show Rws _ _ _ _ (tmr (s3.2 ++ [t]))
    rw [show tmr (s3.2 ++ [t]) = tmr s3.2 ++ [[.int .i64 t]] by simp [tmr]]
    exact R5.ext E6 (fun b hb e => (ns' b hb).2.2.2.1 e)
   ·have f33 : ∀ b, so3.blk b → b < w0.heap.size → so.blk b := fun b hb hlt => (f3 b hb).elim id (fun h2 => by omega)
    refine (((E1.mono (fun b _ hb => .inr (.inl hb))).thenPure E2).trans X3).trans' ((E4.pure (F := WkF c4 m so3)).trans ((X5.mono (fun b _ hb => .inr (.inr hb))).trans (E6.mono (fun b _ e => .inl e)))) (fun i hi hb => ?_)
    rcases hb with hb | hb | hb
    ·exact .inl hb
    ·exact .inr (.inl hb)
    ·exact .inr (.inr (f33 i hb hi))
   ·intro b hb
    rcases f5' b hb with h1 | h1
    ·exact (f3 b h1).imp_right (fun h => by omega)
    ·right; omega
 ·have hyes' : t ∈ M := by have := look_mem hyes; simp [umap] at this; exact this
  have hv : st.1 t = true := by rw [hV]; simpa using hyes'
  rw [Sp.overS, if_neg (by simp [hv])] at hK
  refine ⟨some m, h.b1.cell0, 1, hl, Br.t (by simp) ?_⟩
  exact hK so w0 h (Ext.refl _) (fun b hb => .inl hb)
theorem c_subs (p : Addr) (t : Int) (w0 : World) {L : Sp.Pool} {FP : Nat → Prop} (hW : Sp.Wf L) (hP : PoolAt w0 p L FP) :
  Calls Try.prog 86 #[.pointer (some p), .int .i64 t] w0 (fun e w' => ∃ r : Sl, e = .returned r.v ∧ RetO w0 32 1 (tmr (Sp.subs L t)) r w') := by
 refine w_term_Pool_subs _ _ w0 (fun r w' => RetO w0 32 1 (tmr (Sp.subs L t)) r w') ?_
 unfold m_term_Pool_subs
 intro p2 w1 h1 p3 w2 h2 p4 w3 h3 p5 w4 h4
 have B2 := Box.of_new h1
 have B3 := Box.of_new h2
 have M4 := IMap.of_new (f := one1) h3
 have B5 := Box.of_new h4
 have E1 : Pure w0 w1 := Ext.new h1
 have E2 : Pure w1 w2 := Ext.new h2
 have E3 : Pure w2 w3 := Ext.new h3
 have E4 : Pure w3 w4 := Ext.new h4
 have s1 := h1.at_size; have s2 := h2.at_size; have s3 := h3.at_size; have s4 := h4.at_size
 have z1 := E1.size; have z2 := E2.size; have z3 := E3.size; have z4 := E4.size
 have l1 := B2.lt; have l2 := B3.lt; have l3 := M4.lt; have l4 := B5.lt
 refine ⟨B5.canW0 (by simp), fun w5 h5 => ?_⟩
 have E5 : Ext (· = p5.block) w4 w5 := by rw [h5]; exact Ext.setCell p5 _
 have B5' : Box w5 p5 [.map (some p4.block)] 155 := by rw [h5]; exact B5.set0
 intro p6 w6 h6
 have B6 := Box.of_new h6
 have E6 : Pure w5 w6 := Ext.new h6
 have s6 := h6.at_size; have z5 := E5.size; have z6 := E6.size; have l6 := B6.lt
 refine ⟨B6.canW0 (by simp), fun w7 h7 => ?_⟩
 have E7 : Ext (· = p6.block) w6 w7 := by rw [h7]; exact Ext.setCell p6 _
 have B6' : Box w7 p6 [.func (.func 134) #[] #[.pointer (some p5), .pointer (some p2), .pointer (some p6), .pointer (some p3)]] 153 := by rw [h7]; exact B6.set0
 have z7 := E7.size
 have EE : Pure w0 w7 := ((((((E1.trans E2).trans E3).trans E4).own (by omega) E5).trans E6).own (by omega) E7)
 have up : ∀ {T : TypeId} {c : Addr} {vs : List Value}, Box w4 c vs T → c.block ≠ p5.block → c.block ≠ p6.block → Box w7 c vs T := fun h h1 h2 => ((h.ext E5 h1).pure E6).ext E7 h2
 have hnil : ∀ b, ¬ Sl.nil.blk b := fun b hb => by obtain ⟨a, h, _⟩ := hb; cases h
 have A : WkAt w7 p p5 p2 p6 p3 p4.block Sl.nil L FP (fun _ => false, []) :=
  ⟨(B5'.pure E6).ext E7 (by omega), up (((B2.pure E2).pure E3).pure E4) (by omega) (by omega), B6', up ((B3.pure E3).pure E4) (by omega) (by omega),
  ⟨[], (((M4.pure E4).ext E5 (by omega)).pure E6).ext E7 (by omega), fun x => by simp⟩, Rws.nil _ _ _, hP.pure EE, ⟨by omega, by omega, by omega, by omega⟩, ⟨by omega, by omega, by omega⟩, fun b hb => (hnil b hb).elim, fun b hb => by
   have := hP.lt hb
   exact ⟨by omega, by omega, hnil b⟩⟩
 refine ⟨some p, A.b2.cell0, ?_⟩
 refine (c_in p t w7 A.pool).mono ?_
 rintro _ _ ⟨r1, rfl, rfl, rfl⟩
 refine ⟨_, rfl, fun hc => ?_, fun hc => ?_⟩
 ·refine ⟨_, A.b3.cell0, _, _, _, rfl, Try.call134, ?_⟩
  refine (c_walk p p5 p2 p6 p3 p4.block hW (t.toNat + 1) t w7 _ Sl.nil (by omega) hc A ⟨by simp, by simp, by simp, by simp⟩ (by simp)).mono ?_
  rintro _ w8 ⟨rfl, so, A8, X8, f8⟩
  refine ⟨rfl, so, A8.b4.cell0, A8.out, fun b hb => ?_, EE.trans' X8 (fun i hi hb => ?_)⟩
  ·rcases f8 b hb with h | h
   ·exact (hnil b h).elim
   ·omega
  ·rcases hb with hb | hb | hb
   ·omega
   ·omega
   ·exact hnil _ hb
 ·have : Sp.subs L t = [] := by
   unfold Sp.subs
   rw [Sp.overS, if_neg (by simp [hc])]
  rw [this]
  exact ⟨Sl.nil, A.b4.cell0, Rws.nil _ _ _, fun b hb => (hnil b hb).elim, EE⟩
theorem c_Subs (p : Addr) (t : Int) (w0 : World) : Calls Try.prog 30 #[.pointer (some p), .int .i64 t] w0 (fun e w' => ∃ r : Value, e = .returned r ∧ ∃ p2 p3 : Addr, r = .func (.func 85) #[] #[.pointer (some p2), .pointer (some p3)] ∧ Box w' p2 [.pointer (some p)] 36 ∧ Box w' p3 [.int .i64 t] 32 ∧ Pure w0 w') := by
 refine w_term_Pool_Subs _ _ w0 (fun r w' => ∃ p2 p3 : Addr, r = .func (.func 85) #[] #[.pointer (some p2), .pointer (some p3)] ∧ Box w' p2 [.pointer (some p)] 36 ∧ Box w' p3 [.int .i64 t] 32 ∧ Pure w0 w') ?_
 unfold m_term_Pool_Subs
 intro p2 w1 h1 p3 w2 h2
 exact ⟨p2, p3, rfl, (Box.of_new h1).pure (Ext.new h2), Box.of_new h2, (show Pure w0 w1 from Ext.new h1).trans (Ext.new h2)⟩
theorem it_Subs {p p2 p3 : Addr} {t : Int} {w0 : World} {L : Sp.Pool} {FP : Nat → Prop} (hW : Sp.Wf L) (hP : PoolAt w0 p L FP) (B2 : Box w0 p2 [.pointer (some p)] 36) (B3 : Box w0 p3 [.int .i64 t] 32) :
  IterC Try.prog 85 #[.pointer (some p2), .pointer (some p3)] (fun z : Int => #[.int .i64 z]) (Sp.subs L t) (fun _ => True) w0 := by
 intro l J Jx W E _ hJ hJx hyield h0
 refine (w_term_Pool_Subs_1 (.func (.yield l) #[] #[]) p2 p3 W (fun A => ∃ X, Hst W X A X A ∧ (J (Sp.subs L t) X A ∨ ∃ pre, Jx pre X A)) ?_).mono (fun e A h => ⟨⟨_, h.1⟩, h.2⟩)
 unfold m_term_Pool_Subs_1
 refine ⟨some p, (B2.pure E).cell0, t, (B3.pure E).cell0, ?_⟩
 refine (c_subs p t W hW (hP.pure E)).mono ?_
 rintro _ w1 ⟨r, rfl, hr⟩
 refine ⟨_, rfl, ?_⟩
 generalize hxs : Sp.subs L t = xs at *
 have hfew : xs.length ≤ 65536 := by rw [← hxs]; have := Sp.subs_few hW t; have := hW.ok.few; omega
 have hs1 : Hst W None W (fun b => W.heap.size ≤ b ∧ b < w1.heap.size) w1 := ⟨hr.pure.pure, fun _ h => h.elim, fun b h => .inr h.1, fun b h => h.1, fun b h => h.2, hr.pure.size⟩
 have hX : ∀ b, r.blk b → W.heap.size ≤ b ∧ b < w1.heap.size := fun b hb => ⟨hr.own b hb, hr.rows.lt hb⟩
 refine ⟨fun x A => ∃ j : Nat, x = j ∧ j ≤ xs.length ∧ Hst W (fun b => W.heap.size ≤ b ∧ b < w1.heap.size) A (fun b => W.heap.size ≤ b ∧ b < w1.heap.size) A ∧ J (xs.take j) (fun b => W.heap.size ≤ b ∧ b < w1.heap.size) A ∧ Rws A 32 1 r (tmr xs), fun x _ => ((xs.length : Int) - x).toNat, ⟨0, rfl, Nat.zero_le _, hs1.here, hJ _ _ _ _ _ h0 hs1, hr.rows⟩, ?_⟩
 rintro _ A ⟨j, rfl, hj, hA, hJA, hRA⟩
 unfold m_term_Pool_Subs_1_l1
 have hlen : r.len = xs.length := by rw [hr.rows.len, tmr_len]
 refine ⟨fun hc => ?_, fun hc => ?_⟩
 ·have hc : j < xs.length := by have := of_decide_eq_true hc; omega
  obtain ⟨a, hat, _, hv⟩ := tm_nth hRA.lst hc
  refine ⟨a, hat, _, hv, l, rfl, ?_⟩
  refine (hyield (xs.take j) xs[j] _ A hJA hA ⟨xs.drop (j + 1), by rw [← List.drop_eq_getElem_cons hc, List.take_append_drop]⟩).mono ?_
  rintro e A' (⟨rfl, hk, hJ'⟩ | ⟨rfl, hk, hJ'⟩)
  ·refine ⟨_, rfl, Br.f rfl ⟨⟨j + 1, wrap_succ hc (by omega), hc, hA.again hk, by rw [List.take_succ_eq_append_getElem hc]; exact hJ', hRA.kept hk hX⟩, ?_⟩⟩
   rw [wrap_succ hc (by omega)]
   show ((xs.length : Int) - ((j + 1 : Nat) : Int)).toNat < ((xs.length : Int) - (j : Int)).toNat
   omega
  ·exact ⟨_, rfl, Br.t rfl ⟨_, hA.again hk, .inr ⟨_, hJ'⟩⟩⟩
 ·have hc : j = xs.length := by have := of_decide_eq_false hc; omega
  subst hc
  rw [List.take_length] at hJA
  exact ⟨_, hA, .inl hJA⟩
end Go.Proofs
end
section
open Go Go.SE
namespace Go.Proofs
set_option maxRecDepth 100000
set_option maxHeartbeats 4000000
attribute [local irreducible] wpL wpX opE wpE Calls
def s_view_named (who1 : Int) : Bool :=
 ((decide (who1 ≥ 0)) && (decide (who1 < 16)))
theorem pw_view_named (who1 : Int) (w0 : World) :
  Calls Try.prog 96 #[(vi who1)] w0 (fun e w' => (e = .returned (vb ((decide (who1 ≥ 0)) && (decide (who1 < 16))))) ∧ Pure w0 w') := by
 refine calls_of_wpE (args := [(vi who1)]) Try.func96 rfl Try.ntmps96 (Nat.le_of_ble_eq_true rfl) (wpE_seq (rg (q0 (vb false) (wpL_nil (th_n (wpE_seq ?_))))))
 refine wpE_via (fun ρ wJ => w0 = wJ ∧ Has ρ [(2, (vb ((decide (who1 ≥ 0)) && (decide (who1 < 16)))))]) ?_ ?_
 ·skip
  refine rg (q0 (vi who1) (q0 (vb (decide (who1 ≥ 0))) (q0 (vb (decide (who1 ≥ 0))) ?_)))
  refine wpL_join 3 (fun ρ wJ => ∃ b3'0 : Bool, ((decide (who1 ≥ 0)) = b3'0) ∧ w0 = wJ ∧ Has ρ [(8, (vb (b3'0 && (decide (who1 < 16)))))]) ?_ ?_
  ·rintro ρ w3 ⟨b3'0, he0, hw, hH⟩
   subst he0
   subst hw
   refine wpL_has hH ?_
   clear hH
   refine q0 (vb ((decide (who1 ≥ 0)) && (decide (who1 < 16)))) (wpL_nil (th_n ?_))
   exact ⟨rfl, Has.mk (by kernel_rfl)⟩
  ·skip
   rcases Bool.eq_false_or_eq_true (decide (who1 ≥ 0)) with hg4 | hg4
   ·skip
    refine q1 (vi who1) (want1 rfl (yD 5 hg4)) (q1 (vb (decide (who1 < 16))) (want1 rfl (yD 5 hg4)) (q2 (vb (decide (who1 < 16))) (xT hg4) (wpL_nil ?_)))
    exact ⟨true, hg4, rfl, Has.mk (by kernel_rfl)⟩
   ·skip
    refine sk (yD 5 hg4) (sk (yD 5 hg4) (q2 (vb false) (xF hg4) (wpL_nil ?_)))
    exact ⟨false, hg4, rfl, Has.mk (by kernel_rfl)⟩
 ·rintro ρ w2 ⟨hw, hH⟩
  subst hw
  refine norm_has hH ?_
  clear hH
  refine th_n (wpE_ret (res1 (.inl rfl) Try.results96 (v := (vb ((decide (who1 ≥ 0)) && (decide (who1 < 16))))) (by kernel_rfl) ?_))
  exact ⟨by kernel_rfl, Ext.refl _⟩
theorem p_view_named (who1 : Int) (w0 : World) : Calls Try.prog 96 #[(.int .i64 who1)] w0 (fun e w' => e = .returned (.bool (s_view_named who1)) ∧ Pure w0 w') := pw_view_named who1 w0
def m_view_turned (p1 : Option Addr) (who1 t1 : Int) (turn1 : Value) (w0 : World) (K : Int → Int → World → Prop) : Prop :=
 ∀ (p2 : Addr) (w1 : World), New w0 (.cells #[(vp p1)] 36) p2 w1 →
 turn1.cells = #[turn1] ∧
 ∀ (p3 : Addr) (w2 : World), New w1 (.cells #[turn1] 142) p3 w2 →
 ∀ (p4 : Addr) (w3 : World), New w2 (.cells #[(vi 0)] 32) p4 w3 →
 ∀ (p5 : Addr) (w4 : World), New w3 (.cells #[(vi 0)] 33) p5 w4 →
 ∃ v1 : Option Addr, w4.cell? p2 = some (vp v1) ∧
 Br (Option.isNone v1)
  (CanW w4 p4 ∧ ¬ None p4.block ∧ ∀ w5 : World, w5 = w4.setCell p4 (vi 0) →
  CanW w5 p5 ∧ ¬ None p5.block ∧ ∀ w6 : World, w6 = w5.setCell p5 (vi 7) →
  ∃ q1 : Int, w6.cell? p4 = some (vi q1) ∧
  ∃ q2 : Int, w6.cell? p5 = some (vi q2) ∧
  K q1 q2 w6)
  (Br (!((decide (who1 ≥ 0)) && (decide (who1 < 16))))
   (∀ (w7 : World), Hst w0 None w4 None w7 →
   CanW w7 p4 ∧ ¬ None p4.block ∧ ∀ w8 : World, w8 = w7.setCell p4 (vi 0) →
   CanW w8 p5 ∧ ¬ None p5.block ∧ ∀ w9 : World, w9 = w8.setCell p5 (vi 50) →
   ∃ q3 : Int, w9.cell? p4 = some (vi q3) ∧
   ∃ q4 : Int, w9.cell? p5 = some (vi q4) ∧
   K q3 q4 w9)
   (∀ (w7 : World), Hst w0 None w4 None w7 →
   ∃ v2 : Option Addr, w7.cell? p2 = some (vp v2) ∧
   Calls Try.prog 67 #[(vp v2), (vi t1)] w7 (fun e w10 => ∃ aB aE : Int, ∃ aF aG : Int, ∃ aH : ByteArray, ∃ aN aM : Int, ∃ r1 : Bool, e = .returned (.tuple #[(.agg #[(vi aB), (vi aE), (vi aF), (vu aG), (vs aH), (vi aN), (vi aM)]), (vb r1)]) ∧ 
    Kept None w7 w10 ∧
    Br (!r1)
     (∀ (H1 : Nat → Prop) (w12 : World), Hst w0 None w10 H1 w12 →
     CanW w12 p4 ∧ ¬ H1 p4.block ∧ ∀ w13 : World, w13 = w12.setCell p4 (vi 0) →
     CanW w13 p5 ∧ ¬ H1 p5.block ∧ ∀ w14 : World, w14 = w13.setCell p5 (vi 51) →
     ∃ q5 : Int, w14.cell? p4 = some (vi q5) ∧
     ∃ q6 : Int, w14.cell? p5 = some (vi q6) ∧
     K q5 q6 w14)
     (∀ (H1 : Nat → Prop) (w12 : World), Hst w0 None w10 H1 w12 →
     ∀ (p7 : Addr) (w15 : World), New w12 (.map #[] 0) p7 w15 →
     ∀ (p8 : Addr) (w16 : World), New w15 (.cells #[(.map none)] 146) p8 w16 →
     CanW w16 p8 ∧ ¬ H1 p8.block ∧ ∀ w17 : World, w17 = w16.setCell p8 (.map (some p7.block)) →
     ∃ v3 : Option Addr, w17.cell? p2 = some (vp v3) ∧
     Calls Try.prog 30 #[(vp v3), (vi t1)] w17 (fun e w18 => ∃ r2 : Value, e = .returned r2 ∧ 
      Kept H1 w17 w18 ∧
      ∃ (f1 : FuncId) (cs1 : Array Value), r2 = .func (.func f1) #[] cs1 ∧ (∀ args w, (callFunc f1 args).run Try.prog w = .ok (.enter f1 args) w) ∧
      ∃ (xs1 : List (Int)) (Rd1 : World → Prop), IterC Try.prog f1 cs1 (fun (z2 : Int) => #[(vi z2)]) xs1 Rd1 w18 ∧
      ∃ (I1 Ir1 : List (Int) → (Nat → Prop) → World → Prop), RngI w0 Rd1 I1 (fun _ _ _ => False) Ir1 ∧ I1 [] H1 w18 ∧
      (∀ (pre1 : List (Int)) (z2 : Int) (Y1 : Nat → Prop) (A1 : World), I1 pre1 Y1 A1 → Hst w0 Y1 A1 Y1 A1 → (∃ post, xs1 = pre1 ++ z2 :: post) →
       ∃ v4 : Option Addr, A1.cell? p2 = some (vp v4) ∧
       Calls Try.prog 67 #[(vp v4), (vi z2)] A1 (fun e w19 => ∃ aO aQ : Int, ∃ aP aR : Int, ∃ aS : ByteArray, ∃ aU aT : Int, ∃ r3 : Bool, e = .returned (.tuple #[(.agg #[(vi aO), (vi aQ), (vi aP), (vu aR), (vs aS), (vi aU), (vi aT)]), (vb r3)]) ∧ 
        Kept None A1 w19 ∧
        ∀ (p9 : Addr) (w20 : World), New w19 (.cells #[(vi 0), (vi 0), (vi 0), (vu 0), (vs ⟨#[]⟩), (vi 0), (vi 0)] 106) p9 w20 →
        (∀ j, j < 7 → CanW w20 (p9.add j)) ∧ ¬ None p9.block ∧ ∀ w21 : World, w21 = storeRow w20 p9 [(vi aO), (vi aQ), (vi aP), (vu aR), (vs aS), (vi aU), (vi aT)] →
        ∃ C1 : World → Prop, C1 w21.drew ∧ ∀ w22, w22 = w21.drew →
        ∃ v5 : Option Nat, w22.cell? p8 = some (.map v5) ∧
        ∃ v6 : Int, w22.cell? (p9.add 5) = some (vi v6) ∧
        ∃ v7 : Int, (Instr.lookup 146 (.map v5) (vi v6) false).run Try.prog w22 = .ok (vi v7) w22 ∧
        ∃ v8 : Option Nat, (∀ w', C1 w' → w'.cell? p8 = some (.map v8)) ∧
        ∃ v9 : Int, w22.cell? (p9.add 6) = some (vi v9) ∧
        ∃ v10 : Int, (∀ w', C1 w' → (Instr.lookup 146 (.map v8) (vi v9) false).run Try.prog w' = .ok (vi v10) w') ∧
        CanW w22 (p9.add 5) ∧ ¬ None (p9.add 5).block ∧ ∀ w23 : World, w23 = w22.setCell (p9.add 5) (vi v7) → C1 w23 ∧
        CanW w23 (p9.add 6) ∧ ¬ None (p9.add 6).block ∧ ∀ w24 : World, w24 = w23.setCell (p9.add 6) (vi v10) →
        ∃ C2 : World → Prop, C2 w24.drew ∧ ∀ w25, w25 = w24.drew →
        ∃ v11 : Option Addr, (∀ w', C2 w' → w'.cell? p2 = some (vp v11)) ∧
        ∃ v12 : Value, w25.cell? p3 = some v12 ∧
        ∃ bB bC : Int, ∃ bD bE : Int, ∃ bF : ByteArray, ∃ bY bZ : Int, Row w25 p9 [(vi bB), (vi bC), (vi bD), (vu bE), (vs bF), (vi bY), (vi bZ)] ∧
        ∃ (f2 : FuncId) (fs1 cs2 : Array Value), v12 = .func (.func f2) fs1 cs2 ∧
        (∀ args w, (callFunc f2 args).run Try.prog w = .ok (.enter f2 args) w) ∧ Calls Try.prog f2 (fs1 ++ #[(.agg #[(vi bB), (vi bC), (vi bD), (vu bE), (vs bF), (vi bY), (vi bZ)])] ++ cs2) w25 (fun e w26 => ∃ bT bU : Int, ∃ bV bW : Int, ∃ bX : ByteArray, ∃ cI cJ : Int, e = .returned (.agg #[(vi bT), (vi bU), (vi bV), (vu bW), (vs bX), (vi cI), (vi cJ)]) ∧ C2 w26 ∧ 
         Kept None w25 w26 ∧
         Calls Try.prog 130 #[(vp v11), (.agg #[(vi bT), (vi bU), (vi bV), (vu bW), (vs bX), (vi cI), (vi cJ)])] w26 (fun e w27 => ∃ r4 r5 : Int, e = .returned (.tuple #[(vi r4), (vi r5)]) ∧ C2 w27 ∧ 
          Kept None w26 w27 ∧
          Br (r5 != 0)
           (CanW w27 p4 ∧ ¬ None p4.block ∧ ∀ w28 : World, w28 = w27.setCell p4 (vi 0) →
           CanW w28 p5 ∧ ¬ None p5.block ∧ ∀ w29 : World, w29 = w28.setCell p5 (vi r5) →
           Kept Y1 A1 w29 ∧ Ir1 (pre1 ++ [z2]) Y1 w29)
           (∃ v13 : Option Nat, w27.cell? p8 = some (.map v13) ∧
           ∃ w30 : World, (Instr.mapUpdate 146 (.map v13) (vi z2) (vi r4)).run Try.prog w27 = .ok () w30 ∧
           Kept None w27 w30 ∧
           Kept Y1 A1 w30 ∧ I1 (pre1 ++ [z2]) Y1 w30))))) ∧
      (∀ (H2 : Nat → Prop) (w31 : World), Hst w0 H2 w31 H2 w31 → (∀ b, H1 b → H2 b) → Kept H1 w18 w31 → I1 xs1 H2 w31 →
       ∃ v14 : Option Nat, w31.cell? p8 = some (.map v14) ∧
       ∃ v15 : Int, (Instr.lookup 146 (.map v14) (vi t1) false).run Try.prog w31 = .ok (vi v15) w31 ∧
       CanW w31 p4 ∧ ¬ H2 p4.block ∧ ∀ w32 : World, w32 = w31.setCell p4 (vi v15) →
       CanW w32 p5 ∧ ¬ H2 p5.block ∧ ∀ w33 : World, w33 = w32.setCell p5 (vi 0) →
       ∀ (w34 : World), Hst w0 H2 w33 H2 w34 →
       ∃ q7 : Int, w34.cell? p4 = some (vi q7) ∧
       ∃ q8 : Int, w34.cell? p5 = some (vi q8) ∧
       K q7 q8 w34) ∧
      (∀ (pre2 : List (Int)) (H3 : Nat → Prop) (w36 : World), Hst w0 H3 w36 H3 w36 → Ir1 pre2 H3 w36 →
       ∃ q9 : Int, w36.cell? p4 = some (vi q9) ∧
       ∃ q10 : Int, w36.cell? p5 = some (vi q10) ∧
       K q9 q10 w36))))))
theorem w_view_turned (p1 : Option Addr) (who1 t1 : Int) (turn1 : Value) (w0 : World) (K : Int → Int → World → Prop) (h : m_view_turned p1 who1 t1 turn1 w0 K) :
  Calls Try.prog 92 #[(vp p1), (vi who1), (vi t1), turn1] w0 (fun e w' => ∃ r6 r7 : Int, e = .returned (.tuple #[(vi r6), (vi r7)]) ∧ K r6 r7 w') := by
 unfold m_view_turned at h
 refine calls_of_wpE (args := [(vp p1), (vi who1), (vi t1), turn1]) Try.func92 rfl Try.ntmps92 (Nat.le_of_ble_eq_true rfl) ?_
 have hs := Hst.start w0
 have hb := HB.nil None w0
 refine wpE_seq (rg (sn (O := (.cells #[(vp p1)] 36)) xb ?_))
 intro p2 w1 hn23
 replace h := h p2 w1 hn23
 replace hs := hs.again (Ext.new (F := None) hn23).keptP
 replace hb := hb.kept (Ext.new (F := None) hn23).keptP
 obtain ⟨hcl1, h⟩ := h
 refine sn (O := (.cells #[turn1] 142)) (x_box (Eq.trans (b := turn1.cells) (by kernel_rfl) hcl1)) ?_
 intro p3 w2 hn22
 replace h := h p3 w2 hn22
 replace hs := hs.again (Ext.new (F := None) hn22).keptP
 replace hb := hb.kept (Ext.new (F := None) hn22).keptP
 refine sn (O := (.cells #[(vi 0)] 32)) (x_alloc (Try.zeroValue32 _) rfl) ?_
 intro p4 w3 hn21
 replace h := h p4 w3 hn21
 replace hs := hs.again (Ext.new (F := None) hn21).keptP
 replace hb := hb.kept (Ext.new (F := None) hn21).keptP
 refine sn (O := (.cells #[(vi 0)] 33)) (x_alloc (Try.zeroValue33 _) rfl) ?_
 intro p5 w4 hn20
 replace h := h p5 w4 hn20
 replace hs := hs.again (Ext.new (F := None) hn20).keptP
 replace hb := hb.kept (Ext.new (F := None) hn20).keptP
 refine wpL_nil (th_n (wpE_seq (wpE_seq (rg ?_))))
 obtain ⟨v1, hv28, h⟩ := h
 refine q2 (vp v1) (xl (Try.isAgg36 _) hv28) (q2 (vb (Option.isNone v1)) (x_ptreq (by kernel_rfl) rfl Try.underlying36) (wpL_nil (th_n ?_)))
 refine wpE_cond (t := (Option.isNone v1)) (by kernel_rfl) (fun hc1 => ?_) (fun hc1 => ?_)
 ·replace h := h.1 hc1
  refine wpE_seq (rg ?_)
  obtain ⟨hp1, hnh, h⟩ := h
  refine st_set (want0 rfl) (x_store (a := p4) (v := (vi 0)) (by kernel_rfl) (by kernel_rfl) rfl (Try.sizeOf32 _) hp1) ?_
  intro w5 hn1
  replace h := h w5 hn1
  have hk : Kept None w4 w5 := by rw [hn1]; exact Kept.setCell hnh
  replace hs := hs.again hk
  replace hb := hb.kept hk
  clear hk hnh
  obtain ⟨hp2, hnh, h⟩ := h
  refine st_set (want0 rfl) (x_store (a := p5) (v := (vi 7)) (by kernel_rfl) (by kernel_rfl) rfl (Try.sizeOf33 _) hp2) ?_
  intro w6 hn2
  replace h := h w6 hn2
  have hk : Kept None w5 w6 := by rw [hn2]; exact Kept.setCell hnh
  replace hs := hs.again hk
  replace hb := hb.kept hk
  clear hk hnh
  refine wpL_nil (th_n (wpE_ret (th_r ?_)))
  obtain ⟨q1, hv1, h⟩ := h
  obtain ⟨q2, hv2, h⟩ := h
  refine resG (.inl rfl) (vs := [(vi q1), (vi q2)]) (v := (.tuple #[(vi q1), (vi q2)])) Try.results92 ⟨(RV.cell1 (A := p4) (by kernel_rfl) (Try.isAgg32 _) hv1), (RV.cell1 (A := p5) (by kernel_rfl) (Try.isAgg33 _) hv2), trivial⟩ (by kernel_rfl) ?_
  exact ⟨q1, q2, rfl, h⟩
 ·replace h := h.2 hc1
  refine wpE_skip (th_n (wpE_seq (wpE_seq (rg (q0 (vi who1) ?_)))))
  refine st_call (want0 rfl) (xc Try.call96) ((p_view_named who1 w4).mono ?_)
  rintro e w7 ⟨he, hE⟩
  refine ⟨(vb ((decide (who1 ≥ 0)) && (decide (who1 < 16)))), he.trans (by kernel_rfl), ?_⟩
  replace hs := hs.pure hE
  replace hb := hb.pure hE
  clear hE he
  refine q0 (vb (!((decide (who1 ≥ 0)) && (decide (who1 < 16))))) (wpL_nil (th_n ?_))
  refine wpE_cond (t := (!((decide (who1 ≥ 0)) && (decide (who1 < 16))))) (by kernel_rfl) (fun hc2 => ?_) (fun hc2 => ?_)
  ·replace h := h.1 hc2
   refine wpE_seq (rg ?_)
   replace h := h w7 hs
   replace hs := hs.here
   obtain ⟨hp3, hnh, h⟩ := h
   refine st_set (want0 rfl) (x_store (a := p4) (v := (vi 0)) (by kernel_rfl) (by kernel_rfl) rfl (Try.sizeOf32 _) hp3) ?_
   intro w8 hn3
   replace h := h w8 hn3
   have hk : Kept None w7 w8 := by rw [hn3]; exact Kept.setCell hnh
   replace hs := hs.again hk
   replace hb := hb.kept hk
   clear hk hnh
   obtain ⟨hp4, hnh, h⟩ := h
   refine st_set (want0 rfl) (x_store (a := p5) (v := (vi 50)) (by kernel_rfl) (by kernel_rfl) rfl (Try.sizeOf33 _) hp4) ?_
   intro w9 hn4
   replace h := h w9 hn4
   have hk : Kept None w8 w9 := by rw [hn4]; exact Kept.setCell hnh
   replace hs := hs.again hk
   replace hb := hb.kept hk
   clear hk hnh
   refine wpL_nil (th_n (wpE_ret (th_r ?_)))
   obtain ⟨q3, hv3, h⟩ := h
   obtain ⟨q4, hv4, h⟩ := h
   refine resG (.inl rfl) (vs := [(vi q3), (vi q4)]) (v := (.tuple #[(vi q3), (vi q4)])) Try.results92 ⟨(RV.cell1 (A := p4) (by kernel_rfl) (Try.isAgg32 _) hv3), (RV.cell1 (A := p5) (by kernel_rfl) (Try.isAgg33 _) hv4), trivial⟩ (by kernel_rfl) ?_
   exact ⟨q3, q4, rfl, h⟩
  ·replace h := h.2 hc2
   refine wpE_skip (th_n (wpE_seq (wpE_seq (rg ?_))))
   replace h := h w7 hs
   replace hs := hs.here
   obtain ⟨v2, hv27, h⟩ := h
   refine q2 (vp v2) (xl (Try.isAgg36 _) hv27) (q0 (vi t1) ?_)
   refine st_call (want0 rfl) (xc Try.call67) (h.mono ?_)
   rintro e w10 ⟨aB, aE, aF, aG, aH, aN, aM, r1, rfl, hk, h⟩
   refine ⟨_, rfl, ?_⟩
   obtain ⟨hs, hb⟩ := hk.hh hs hb
   refine q0 (.tuple #[(.agg #[(vi aB), (vi aE), (vi aF), (vu aG), (vs aH), (vi aN), (vi aM)]), (vb r1)]) (q0 (.agg #[(vi aB), (vi aE), (vi aF), (vu aG), (vs aH), (vi aN), (vi aM)]) (q0 (vb r1) (sn (O := (.cells #[(vi 0), (vi 0), (vi 0), (vu 0), (vs ⟨#[]⟩), (vi 0), (vi 0)] 106)) (x_alloc (Try.zeroValue106 _) rfl) ?_)))
   intro p6 w11 hn5
   obtain ⟨H1, hs, hb⟩ := hs.alloc hb hn5
   refine st_set (want0 rfl) (x_storeA (a := p6) (vs := [(vi aB), (vi aE), (vi aF), (vu aG), (vs aH), (vi aN), (vi aM)]) (by kernel_rfl) (by kernel_rfl) rfl (Try.sizeOf106 _) rfl (hb.canWs0 0 7 gZ (by kernel_rfl))) ?_
   intro w12 hn6
   have hsb : Hst w0 None w10 H1 w12 ∧ HB H1 w12 [(p6, [(vi aB), (vi aE), (vi aF), (vu aG), (vs aH), (vi aN), (vi aM)], 106)] := by
    rw [hn6]
    exact hb.store0 (i := 0) (vs := [(vi aB), (vi aE), (vi aF), (vu aG), (vs aH), (vi aN), (vi aM)]) hs gZ (by kernel_rfl) (by kernel_rfl)
   clear hs hb hn6
   obtain ⟨hs, hb⟩ := hsb
   refine q0 (vb r1) (wpL_nil (th_n (wpE_seq (rg (q0 (vb r1) (q0 (vb (!r1)) (wpL_nil (th_n ?_))))))))
   refine wpE_cond (t := (!r1)) (by kernel_rfl) (fun hc3 => ?_) (fun hc3 => ?_)
   ·replace h := h.1 hc3
    refine wpE_seq (rg ?_)
    replace h := h H1 w12 hs
    replace hs := hs.here
    obtain ⟨hp5, hnh, h⟩ := h
    refine st_set (want0 rfl) (x_store (a := p4) (v := (vi 0)) (by kernel_rfl) (by kernel_rfl) rfl (Try.sizeOf32 _) hp5) ?_
    intro w13 hn7
    replace h := h w13 hn7
    have hk : Kept H1 w12 w13 := by rw [hn7]; exact Kept.setCell hnh
    replace hs := hs.again hk
    replace hb := hb.kept hk
    clear hk hnh
    obtain ⟨hp6, hnh, h⟩ := h
    refine st_set (want0 rfl) (x_store (a := p5) (v := (vi 51)) (by kernel_rfl) (by kernel_rfl) rfl (Try.sizeOf33 _) hp6) ?_
    intro w14 hn8
    replace h := h w14 hn8
    have hk : Kept H1 w13 w14 := by rw [hn8]; exact Kept.setCell hnh
    replace hs := hs.again hk
    replace hb := hb.kept hk
    clear hk hnh
    refine wpL_nil (th_n (wpE_ret (th_r ?_)))
    obtain ⟨q5, hv5, h⟩ := h
    obtain ⟨q6, hv6, h⟩ := h
    refine resG (.inl rfl) (vs := [(vi q5), (vi q6)]) (v := (.tuple #[(vi q5), (vi q6)])) Try.results92 ⟨(RV.cell1 (A := p4) (by kernel_rfl) (Try.isAgg32 _) hv5), (RV.cell1 (A := p5) (by kernel_rfl) (Try.isAgg33 _) hv6), trivial⟩ (by kernel_rfl) ?_
    exact ⟨q5, q6, rfl, h⟩
   ·replace h := h.2 hc3
    refine wpE_skip (th_n (wpE_seq (rg ?_)))
    replace h := h H1 w12 hs
    replace hs := hs.here
    refine st_new (O := (.map #[] 0)) (fun p => .map (some p.block)) (want0 rfl) (by kernel_rfl) ?_
    intro p7 w15 hn19
    replace h := h p7 w15 hn19
    replace hs := hs.again (Ext.new (F := None) hn19).keptP
    replace hb := hb.kept (Ext.new (F := None) hn19).keptP
    refine sn (O := (.cells #[(.map none)] 146)) (x_alloc (Try.zeroValue146 _) rfl) ?_
    intro p8 w16 hn18
    replace h := h p8 w16 hn18
    replace hs := hs.again (Ext.new (F := None) hn18).keptP
    replace hb := hb.kept (Ext.new (F := None) hn18).keptP
    obtain ⟨hp7, hnh, h⟩ := h
    refine st_set (want0 rfl) (x_store (a := p8) (v := (.map (some p7.block))) (by kernel_rfl) (by kernel_rfl) rfl (Try.sizeOf146 _) hp7) ?_
    intro w17 hn9
    replace h := h w17 hn9
    have hk : Kept H1 w16 w17 := by rw [hn9]; exact Kept.setCell hnh
    replace hs := hs.again hk
    replace hb := hb.kept hk
    clear hk hnh
    refine wpL_nil (th_n (wpE_seqC (rg ?_)))
    obtain ⟨v3, hv26, h⟩ := h
    refine q2 (vp v3) (xl (Try.isAgg36 _) hv26) (q0 (vi t1) ?_)
    refine st_call (want0 rfl) (xc Try.call30) (h.mono ?_)
    rintro e w18 ⟨r2, rfl, hk, h⟩
    refine ⟨_, rfl, ?_⟩
    obtain ⟨hs, hb⟩ := hk.hh hs hb
    refine wpL_nil (th_n ?_)
    obtain ⟨f1, cs1, hv7, hf1, h⟩ := h
    obtain ⟨xs1, Rd1, hit, I1, Ir1, hRI, h0, hbody, h⟩ := h
    refine wpB_range (encs := (fun (z2 : Int) => #[(vi z2)])) (Eq.trans (b := r2) (by kernel_rfl) hv7) hf1 hit (fun _ => rfl) (by decide) hs I1 (fun _ _ _ => False) Ir1 hRI h0 ?ha ?hr ?ht
    case ha =>
     intro l z2 w37
     refine rg (q0 (vi z2) (wpL_nil (th_n ?_)))
     refine ⟨rfl, ?_⟩
     intro pre1 Y1 A1 hi hY hpost
     replace h := hbody pre1 z2 Y1 A1 hi hY hpost
     clear hbody hs hb hi hY hpost
     have hs := Hst.start A1
     have hb := HB.nil None A1
     refine wpE_block (wpE_seq (rg ?_))
     obtain ⟨v4, hv19, h⟩ := h
     refine q2 (vp v4) (xl (Try.isAgg36 _) hv19) (q0 (vi z2) ?_)
     refine st_call (want0 rfl) (xc Try.call67) (h.mono ?_)
     rintro e w19 ⟨aO, aQ, aP, aR, aS, aU, aT, r3, rfl, hk, h⟩
     refine ⟨_, rfl, ?_⟩
     obtain ⟨hs, hb⟩ := hk.hh hs hb
     refine q0 (.tuple #[(.agg #[(vi aO), (vi aQ), (vi aP), (vu aR), (vs aS), (vi aU), (vi aT)]), (vb r3)]) (q0 (.agg #[(vi aO), (vi aQ), (vi aP), (vu aR), (vs aS), (vi aU), (vi aT)]) (q0 (vb r3) (sn (O := (.cells #[(vi 0), (vi 0), (vi 0), (vu 0), (vs ⟨#[]⟩), (vi 0), (vi 0)] 106)) (x_alloc (Try.zeroValue106 _) rfl) ?_)))
     intro p9 w20 hn15
     replace h := h p9 w20 hn15
     replace hs := hs.again (Ext.new (F := None) hn15).keptP
     replace hb := hb.kept (Ext.new (F := None) hn15).keptP
     obtain ⟨hp8, hnh, h⟩ := h
     refine st_set (want0 rfl) (x_storeA (a := p9) (vs := [(vi aO), (vi aQ), (vi aP), (vu aR), (vs aS), (vi aU), (vi aT)]) (by kernel_rfl) (by kernel_rfl) rfl (Try.sizeOf106 _) rfl hp8) ?_
     intro w21 hn10
     replace h := h w21 hn10
     have hk : Kept None w20 w21 := by rw [hn10]; exact Kept.storeRow hnh
     replace hs := hs.again hk
     replace hb := hb.kept hk
     clear hk hnh
     refine q0 (vb r3) (wpL_nil (th_n (wpE_seq ?_)))
     obtain ⟨C1, hC, h⟩ := h
     refine wpE_drawnC C1 [9, 11] [11] (by kernel_rfl) (by kernel_rfl) (by kernel_rfl) (by kernel_rfl) hC ?_
     clear hC
     intro w22 hw22
     replace h := h w22 hw22
     replace hs : Hst A1 None w21 None w22 := by rw [hw22]; exact hs.drew
     replace hb : HB None w22 [] := by rw [hw22]; exact hb.drew
     replace hs := hs.here
     refine qgo (k := 0) (by kernel_rfl) ?_
     obtain ⟨v5, hv18, h⟩ := h
     refine sxe (v := (.map v5)) Kp0 (want0 rfl) (by kernel_rfl) (by kernel_rfl) (xl (Try.isAgg146 _) hv18) (qx 1 (vp (some (p9.add 5))) Kp1 (qgo (k := 2) (by kernel_rfl) ?_))
     obtain ⟨v6, hv17, h⟩ := h
     refine sxe (v := (vi v6)) Kp2 (want0 rfl) (by kernel_rfl) (by kernel_rfl) (xl (Try.isAgg32 _) hv17) (qgo (k := 3) (by kernel_rfl) ?_)
     obtain ⟨v7, hv16, h⟩ := h
     refine sxe (v := (vi v7)) Kp3 (want0 rfl) (by kernel_rfl) (by kernel_rfl) (x_lookup (by kernel_rfl) (by kernel_rfl) hv16) (qgo (k := 4) (by kernel_rfl) ?_)
     obtain ⟨v8, hv15, h⟩ := h
     refine sx (v := (.map v8)) Kp4 (want0 rfl) (by kernel_rfl) (fun w' hw' => (xl (Try.isAgg146 _) (hv15 w' hw'))) (qx 5 (vp (some (p9.add 6))) Kp5 (qgo (k := 6) (by kernel_rfl) ?_))
     obtain ⟨v9, hv14, h⟩ := h
     refine sxe (v := (vi v9)) Kp6 (want0 rfl) (by kernel_rfl) (by kernel_rfl) (xl (Try.isAgg32 _) hv14) (qgo (k := 7) (by kernel_rfl) ?_)
     obtain ⟨v10, hv13, h⟩ := h
     refine sx (v := (vi v10)) Kp7 (want0 rfl) (by kernel_rfl) (fun w' hw' => (x_lookup (by kernel_rfl) (by kernel_rfl) (hv13 w' hw'))) (qx 8 (vp (some (p9.add 5))) Kp8 (lgo (k := 9) (by kernel_rfl) ?_))
     obtain ⟨hp9, hnh, h⟩ := h
     refine sl_set Kp9 (want0 rfl) (by kernel_rfl) (x_store (a := (p9.add 5)) (v := (vi v7)) (by kernel_rfl) (by kernel_rfl) rfl (Try.sizeOf32 _) hp9) ?_
     intro w23 hn11
     replace h := h w23 hn11
     refine ⟨.inr h.1, ?_⟩
     replace h := h.2
     have hk : Kept None w22 w23 := by rw [hn11]; exact Kept.setCell hnh
     replace hs := hs.again hk
     replace hb := hb.kept hk
     clear hk hnh
     refine qx 10 (vp (some (p9.add 6))) (pickA (S8 (pickS (pickS pickZ)))) (lgo (k := 11) (by kernel_rfl) ?_)
     obtain ⟨hp10, hnh, h⟩ := h
     refine sl_set (pickA (S8 (pickS (pickS (pickS pickZ))))) (want0 rfl) (by kernel_rfl) (x_store (a := (p9.add 6)) (v := (vi v10)) (by kernel_rfl) (by kernel_rfl) rfl (Try.sizeOf32 _) hp10) ?_
     intro w24 hn12
     replace h := h w24 hn12
     refine ⟨.inl (by kernel_rfl), ?_⟩
     have hk : Kept None w23 w24 := by rw [hn12]; exact Kept.setCell hnh
     replace hs := hs.again hk
     replace hb := hb.kept hk
     clear hk hnh
     refine wpX_nil (by kernel_rfl) (th_n (wpE_seq ?_))
     obtain ⟨C2, hC, h⟩ := h
     refine wpE_drawnC C2 [3, 4] [] (by kernel_rfl) (by kernel_rfl) (by kernel_rfl) (by kernel_rfl) hC ?_
     clear hC
     intro w25 hw25
     replace h := h w25 hw25
     replace hs : Hst A1 None w24 None w25 := by rw [hw25]; exact hs.drew
     replace hb : HB None w25 [] := by rw [hw25]; exact hb.drew
     replace hs := hs.here
     refine qgo (k := 0) (by kernel_rfl) ?_
     obtain ⟨v11, hv12, h⟩ := h
     refine sx (v := (vp v11)) Kp0 (want0 rfl) (by kernel_rfl) (fun w' hw' => (xl (Try.isAgg36 _) (hv12 w' hw'))) (qgo (k := 1) (by kernel_rfl) ?_)
     obtain ⟨v12, hv11, h⟩ := h
     refine sxe (v := v12) Kp1 (want0 rfl) (by kernel_rfl) (by kernel_rfl) (xl (Try.isAgg142 _) hv11) (qgo (k := 2) (by kernel_rfl) ?_)
     obtain ⟨bB, bC, bD, bE, bF, bY, bZ, hv10, h⟩ := h
     refine sxe (v := (.agg #[(vi bB), (vi bC), (vi bD), (vu bE), (vs bF), (vi bY), (vi bZ)])) Kp2 (want0 rfl) (by kernel_rfl) (by kernel_rfl) (x_loadA (a := p9) (vs := [(vi bB), (vi bC), (vi bD), (vu bE), (vs bF), (vi bY), (vi bZ)]) (by kernel_rfl) (Try.isAgg106 _) (Try.sizeOf106 _) rfl hv10) (lgo (k := 3) (by kernel_rfl) ?_)
     obtain ⟨f2, fs1, cs2, hp11, h⟩ := h
     obtain ⟨hf2, h⟩ := h
     refine sl_call Kp3 (want0 rfl) (by kernel_rfl) (x_callmE (fs := fs1) (caps := cs2) (args := #[(.agg #[(vi bB), (vi bC), (vi bD), (vu bE), (vs bF), (vi bY), (vi bZ)])]) (by kernel_rfl) hp11 hf2 (by kernel_rfl) rfl) (h.mono ?_)
     rintro e w26 ⟨bT, bU, bV, bW, bX, cI, cJ, rfl, hC, hk, h⟩
     refine ⟨_, rfl, .inr hC, ?_⟩
     obtain ⟨hs, hb⟩ := hk.hh hs hb
     refine lgo (k := 4) (by kernel_rfl) ?_
     refine sl_call Kp4 (want0 rfl) (by kernel_rfl) (xc Try.call130) (h.mono ?_)
     rintro e w27 ⟨r4, r5, rfl, hC, hk, h⟩
     refine ⟨_, rfl, .inr hC, ?_⟩
     obtain ⟨hs, hb⟩ := hk.hh hs hb
     refine qx 5 (.tuple #[(vi r4), (vi r5)]) Kp5 (qx 6 (vi r4) Kp6 (qx 7 (vi r5) Kp7 (qx 8 (vi r4) Kp8 (qx 9 (vi r5) Kp9 (wpX_nil (by kernel_rfl) (th_n (wpE_seq (wpE_seq (rg (q0 (vi r5) (q0 (vb (r5 != 0)) ?_)))))))))))
     refine wpL_nil (th_n ?_)
     refine wpE_cond (t := (r5 != 0)) (by kernel_rfl) (fun hc4 => ?_) (fun hc4 => ?_)
     ·replace h := h.1 hc4
      refine wpE_seq (rg (q0 (vi r5) ?_))
      obtain ⟨hp12, hnh, h⟩ := h
      refine st_set (want0 rfl) (x_store (a := p4) (v := (vi 0)) (by kernel_rfl) (by kernel_rfl) rfl (Try.sizeOf32 _) hp12) ?_
      intro w28 hn13
      replace h := h w28 hn13
      have hk : Kept None w27 w28 := by rw [hn13]; exact Kept.setCell hnh
      replace hs := hs.again hk
      replace hb := hb.kept hk
      clear hk hnh
      obtain ⟨hp13, hnh, h⟩ := h
      refine st_set (want0 rfl) (x_store (a := p5) (v := (vi r5)) (by kernel_rfl) (by kernel_rfl) rfl (Try.sizeOf33 _) hp13) ?_
      intro w29 hn14
      replace h := h w29 hn14
      have hk : Kept None w28 w29 := by rw [hn14]; exact Kept.setCell hnh
      replace hs := hs.again hk
      replace hb := hb.kept hk
      clear hk hnh
      refine wpL_nil (th_n (wpE_ret (th_r (bl_r ?_))))
      exact rd_r h
     ·replace h := h.2 hc4
      refine wpE_skip (th_n (rg ?_))
      obtain ⟨v13, hv9, h⟩ := h
      refine q2 (.map v13) (xl (Try.isAgg146 _) hv9) (q0 (vi z2) (q0 (vi r4) ?_))
      obtain ⟨w30, hv8, hk, h⟩ := h
      refine st_skip (want0 rfl) (x_mapUpdate (by kernel_rfl) (by kernel_rfl) (by kernel_rfl) hv8) ?_
      obtain ⟨hs, hb⟩ := hk.hh hs hb
      refine wpL_nil (bl_n ?_)
      exact rd_n h
    case hr =>
     clear hbody
     intro D1 H2 w31 hs' hD hDe cB hk1 hio1
     have hb' := hb.behind hk1 cB hD hDe
     clear hs hb hD hDe
     have hs := hs'
     have hb := hb'
     clear hs' hb'
     replace h := h.1 H2 w31 hs cB hk1 (hio1.elim id (fun h => h.elim (fun _ h => h.elim)))
     refine wpE_seq (rg ?_)
     obtain ⟨v14, hv23, h⟩ := h
     refine q2 (.map v14) (xl (Try.isAgg146 _) hv23) (q0 (vi t1) ?_)
     obtain ⟨v15, hv22, h⟩ := h
     refine q2 (vi v15) (x_lookup (by kernel_rfl) (by kernel_rfl) hv22) ?_
     obtain ⟨hp14, hnh, h⟩ := h
     refine st_set (want0 rfl) (x_store (a := p4) (v := (vi v15)) (by kernel_rfl) (by kernel_rfl) rfl (Try.sizeOf32 _) hp14) ?_
     intro w32 hn16
     replace h := h w32 hn16
     have hk : Kept H2 w31 w32 := by rw [hn16]; exact Kept.setCell hnh
     replace hs := hs.again hk
     replace hb := hb.kept hk
     clear hk hnh
     obtain ⟨hp15, hnh, h⟩ := h
     refine st_set (want0 rfl) (x_store (a := p5) (v := (vi 0)) (by kernel_rfl) (by kernel_rfl) rfl (Try.sizeOf33 _) hp15) ?_
     intro w33 hn17
     replace h := h w33 hn17
     have hk : Kept H2 w32 w33 := by rw [hn17]; exact Kept.setCell hnh
     replace hs := hs.again hk
     replace hb := hb.kept hk
     clear hk hnh
     refine wpL_nil (th_n (wpE_ret (af_r hb.dead ?_)))
     intro w34 hw'
     have hl := hb.leave hs hw'
     clear hs hb hw'
     obtain ⟨hs, hb⟩ := hl
     -- behind the loop
     replace h := h w34 hs
     replace hs := hs.here
     obtain ⟨q7, hv20, h⟩ := h
     obtain ⟨q8, hv21, h⟩ := h
     refine resG (.inl rfl) (vs := [(vi q7), (vi q8)]) (v := (.tuple #[(vi q7), (vi q8)])) Try.results92 ⟨(RV.cell1 (A := p4) (by kernel_rfl) (Try.isAgg32 _) hv20), (RV.cell1 (A := p5) (by kernel_rfl) (Try.isAgg33 _) hv21), trivial⟩ (by kernel_rfl) ?_
     exact ⟨q7, q8, rfl, h⟩
    case ht =>
     clear hbody
     intro D1 pre2 H3 w35 hs' hD hDe hio
     have hs2 := hs'.putD (o := .deferred none) hD
     replace hio := hRI.r _ _ _ _ _ hio hs2
     replace hs2 := hs2.here
     clear hs hb hDe hs'
     have hs := hs2
     clear hs2
     generalize World.putObj w35 D1 (.deferred none) = w36 at hs hio ⊢
     have hb := HB.nil H3 w36
     replace h := h.2 pre2 H3 w36 hs hio
     obtain ⟨q9, hv24, h⟩ := h
     obtain ⟨q10, hv25, h⟩ := h
     refine resG (.inl rfl) (vs := [(vi q9), (vi q10)]) (v := (.tuple #[(vi q9), (vi q10)])) Try.results92 ⟨(RV.cell1 (A := p4) (by kernel_rfl) (Try.isAgg32 _) hv24), (RV.cell1 (A := p5) (by kernel_rfl) (Try.isAgg33 _) hv25), trivial⟩ (by kernel_rfl) ?_
     exact ⟨q9, q10, rfl, h⟩
def m_view_View (p1 : Option Addr) (who1 t1 : Int) (w0 : World) (K : Int → Int → World → Prop) : Prop :=
 ∀ (p2 : Addr) (w1 : World), New w0 (.cells #[(vi who1)] 3) p2 w1 →
 ∃ v1 : Int, w1.cell? p2 = some (vi v1) ∧
 Calls Try.prog 92 #[(vp p1), (vi v1), (vi t1), (.func (.func 93) #[] #[(vp (some p2))])] w1 (fun e w2 => ∃ r1 r2 : Int, e = .returned (.tuple #[(vi r1), (vi r2)]) ∧ 
  K r1 r2 w2)
theorem w_view_View (p1 : Option Addr) (who1 t1 : Int) (w0 : World) (K : Int → Int → World → Prop) (h : m_view_View p1 who1 t1 w0 K) :
  Calls Try.prog 38 #[(vp p1), (vi who1), (vi t1)] w0 (fun e w' => ∃ r3 r4 : Int, e = .returned (.tuple #[(vi r3), (vi r4)]) ∧ K r3 r4 w') := by
 unfold m_view_View at h
 refine calls_of_wpE (args := [(vp p1), (vi who1), (vi t1)]) Try.func38 rfl Try.ntmps38 (Nat.le_of_ble_eq_true rfl) (wpE_seq (rg (sn (O := (.cells #[(vi who1)] 3)) xb ?_)))
 intro p2 w1 hn1
 replace h := h p2 w1 hn1
 refine q0 (vi 0) (q0 (vi 0) (wpL_nil (th_n (wpE_seq (rg (q0 (vp p1) ?_))))))
 obtain ⟨v1, hv1, h⟩ := h
 refine q2 (vi v1) (xl (Try.isAgg3 _) hv1) (q0 (vi t1) (q0 (.func (.func 93) #[] #[(vp (some p2))]) ?_))
 refine st_call (want0 rfl) (xc Try.call92) (h.mono ?_)
 rintro e w2 ⟨r1, r2, rfl, h⟩
 refine ⟨_, rfl, ?_⟩
 refine q0 (vi r1) (q0 (vi r2) (q0 (vi r1) (q0 (vi r2) (wpL_nil (th_n (wpE_ret (res2 (.inl rfl) Try.results38 (v := (vi r1)) (by kernel_rfl) (v' := (vi r2)) (by kernel_rfl) ?_)))))))
 exact ⟨r1, r2, rfl, h⟩
def m_view_Swap (p1 : Option Addr) (to1 t1 : Int) (w0 : World) (K : Int → Int → World → Prop) : Prop :=
 ∀ (p2 : Addr) (w1 : World), New w0 (.cells #[(vi to1)] 3) p2 w1 →
 ∃ v1 : Int, w1.cell? p2 = some (vi v1) ∧
 Calls Try.prog 92 #[(vp p1), (vi v1), (vi t1), (.func (.func 98) #[] #[(vp (some p2))])] w1 (fun e w2 => ∃ r1 r2 : Int, e = .returned (.tuple #[(vi r1), (vi r2)]) ∧ 
  K r1 r2 w2)
theorem w_view_Swap (p1 : Option Addr) (to1 t1 : Int) (w0 : World) (K : Int → Int → World → Prop) (h : m_view_Swap p1 to1 t1 w0 K) :
  Calls Try.prog 41 #[(vp p1), (vi to1), (vi t1)] w0 (fun e w' => ∃ r3 r4 : Int, e = .returned (.tuple #[(vi r3), (vi r4)]) ∧ K r3 r4 w') := by
 unfold m_view_Swap at h
 refine calls_of_wpE (args := [(vp p1), (vi to1), (vi t1)]) Try.func41 rfl Try.ntmps41 (Nat.le_of_ble_eq_true rfl) (wpE_seq (rg (sn (O := (.cells #[(vi to1)] 3)) xb ?_)))
 intro p2 w1 hn1
 replace h := h p2 w1 hn1
 refine q0 (vi 0) (q0 (vi 0) (wpL_nil (th_n (wpE_seq (rg (q0 (vp p1) ?_))))))
 obtain ⟨v1, hv1, h⟩ := h
 refine q2 (vi v1) (xl (Try.isAgg3 _) hv1) (q0 (vi t1) (q0 (.func (.func 98) #[] #[(vp (some p2))]) ?_))
 refine st_call (want0 rfl) (xc Try.call92) (h.mono ?_)
 rintro e w2 ⟨r1, r2, rfl, h⟩
 refine ⟨_, rfl, ?_⟩
 refine q0 (vi r1) (q0 (vi r2) (q0 (vi r1) (q0 (vi r2) (wpL_nil (th_n (wpE_ret (res2 (.inl rfl) Try.results41 (v := (vi r1)) (by kernel_rfl) (v' := (vi r2)) (by kernel_rfl) ?_)))))))
 exact ⟨r1, r2, rfl, h⟩
def m_view_Promises (p1 : Option Addr) (to1 t1 : Int) (w0 : World) (K : Sl → World → Prop) : Prop :=
 ∀ (p2 : Addr) (w1 : World), New w0 (.cells #[(vp p1)] 36) p2 w1 →
 ∀ (p3 : Addr) (w2 : World), New w1 (.cells #[(vi to1)] 3) p3 w2 →
 ∃ v1 : Option Addr, w2.cell? p2 = some (vp v1) ∧
 Calls Try.prog 67 #[(vp v1), (vi t1)] w2 (fun e w3 => ∃ aB aE : Int, ∃ aF aG : Int, ∃ aH : ByteArray, ∃ aN aM : Int, ∃ r1 : Bool, e = .returned (.tuple #[(.agg #[(vi aB), (vi aE), (vi aF), (vu aG), (vs aH), (vi aN), (vi aM)]), (vb r1)]) ∧ 
  Kept None w2 w3 ∧
  Br (!r1)
   (∀ (H1 : Nat → Prop) (w5 : World), Hst w0 None w3 H1 w5 →
   K Sl.nil w5)
   (∀ (H1 : Nat → Prop) (w5 : World), Hst w0 None w3 H1 w5 →
   ∀ (p5 : Addr) (w6 : World), New w5 (.cells #[Sl.nil.v] 39) p5 w6 →
   ∃ v2 : Option Addr, w6.cell? p2 = some (vp v2) ∧
   Calls Try.prog 30 #[(vp v2), (vi t1)] w6 (fun e w7 => ∃ r2 : Value, e = .returned r2 ∧ 
    Kept H1 w6 w7 ∧
    ∃ (f1 : FuncId) (cs1 : Array Value), r2 = .func (.func f1) #[] cs1 ∧ (∀ args w, (callFunc f1 args).run Try.prog w = .ok (.enter f1 args) w) ∧
    ∃ (xs1 : List (Int)) (Rd1 : World → Prop), IterC Try.prog f1 cs1 (fun (z2 : Int) => #[(vi z2)]) xs1 Rd1 w7 ∧
    ∃ (I1 : List (Int) → (Nat → Prop) → World → Prop), RngI w0 Rd1 I1 (fun _ _ _ => False) (fun _ _ _ => False) ∧ I1 [] H1 w7 ∧
    (∀ (pre1 : List (Int)) (z2 : Int) (Y1 : Nat → Prop) (A1 : World), I1 pre1 Y1 A1 → Hst w0 Y1 A1 Y1 A1 → (∃ post, xs1 = pre1 ++ z2 :: post) →
     ∃ v3 : Option Addr, A1.cell? p2 = some (vp v3) ∧
     Calls Try.prog 67 #[(vp v3), (vi z2)] A1 (fun e w8 => ∃ aO aQ : Int, ∃ aP aR : Int, ∃ aS : ByteArray, ∃ aU aT : Int, ∃ r3 : Bool, e = .returned (.tuple #[(.agg #[(vi aO), (vi aQ), (vi aP), (vu aR), (vs aS), (vi aU), (vi aT)]), (vb r3)]) ∧ 
      Kept None A1 w8 ∧
      Br (aO == 8)
       (∀ (H2 : Nat → Prop) (w10 : World), Hst A1 None w8 H2 w10 →
       ∃ v4 : Int, w10.cell? p3 = some (vi v4) ∧
       Br (aP == v4)
        (∃ v5 : Sl, w10.cell? p5 = some v5.v ∧
        ∀ (p7 : Addr) (w11 : World), New w10 (.cells #[(vi z2)] 32) p7 w11 →
        ∃ s1 : Sl, ∃ w12 : World, (Builtin.append_ #[39, 39] 39 #[v5.v, (Sl.mk (some p7) 1 1).v]).run Try.prog w11 = .ok s1.v w12 ∧
        Kept H2 w11 w12 ∧
        CanW w12 p5 ∧ ¬ H2 p5.block ∧ ∀ w13 : World, w13 = w12.setCell p5 s1.v →
        Kept Y1 A1 w13 ∧ I1 (pre1 ++ [z2]) Y1 w13)
        (Kept Y1 A1 w10 ∧ I1 (pre1 ++ [z2]) Y1 w10))
       (∀ (H2 : Nat → Prop) (w10 : World), Hst A1 None w8 H2 w10 →
       Kept Y1 A1 w10 ∧ I1 (pre1 ++ [z2]) Y1 w10))) ∧
    ∀ (H3 : Nat → Prop) (w14 : World), Hst w0 H3 w14 H3 w14 → (∀ b, H1 b → H3 b) → Kept H1 w7 w14 → I1 xs1 H3 w14 →
    ∃ v6 : Sl, w14.cell? p5 = some v6.v ∧
    Calls Try.prog 103 #[v6.v] w14 (fun e w15 => e = .returned (.tuple #[]) ∧ 
     Kept H3 w14 w15 ∧
     ∃ v7 : Sl, w15.cell? p5 = some v7.v ∧
     ∀ (w16 : World), Hst w0 H3 w15 H3 w16 →
     K v7 w16))))
theorem w_view_Promises (p1 : Option Addr) (to1 t1 : Int) (w0 : World) (K : Sl → World → Prop) (h : m_view_Promises p1 to1 t1 w0 K) :
  Calls Try.prog 46 #[(vp p1), (vi to1), (vi t1)] w0 (fun e w' => ∃ r4 : Sl, e = .returned r4.v ∧ K r4 w') := by
 unfold m_view_Promises at h
 refine calls_of_wpE (args := [(vp p1), (vi to1), (vi t1)]) Try.func46 rfl Try.ntmps46 (Nat.le_of_ble_eq_true rfl) ?_
 have hs := Hst.start w0
 have hb := HB.nil None w0
 refine wpE_seq (rg (sn (O := (.cells #[(vp p1)] 36)) xb ?_))
 intro p2 w1 hn9
 replace h := h p2 w1 hn9
 replace hs := hs.again (Ext.new (F := None) hn9).keptP
 replace hb := hb.kept (Ext.new (F := None) hn9).keptP
 refine sn (O := (.cells #[(vi to1)] 3)) xb ?_
 intro p3 w2 hn8
 replace h := h p3 w2 hn8
 replace hs := hs.again (Ext.new (F := None) hn8).keptP
 replace hb := hb.kept (Ext.new (F := None) hn8).keptP
 refine q0 Sl.nil.v (wpL_nil (th_n (wpE_seq (wpE_seq (rg ?_)))))
 obtain ⟨v1, hv9, h⟩ := h
 refine q2 (vp v1) (xl (Try.isAgg36 _) hv9) (q0 (vi t1) ?_)
 refine st_call (want0 rfl) (xc Try.call67) (h.mono ?_)
 rintro e w3 ⟨aB, aE, aF, aG, aH, aN, aM, r1, rfl, hk, h⟩
 refine ⟨_, rfl, ?_⟩
 obtain ⟨hs, hb⟩ := hk.hh hs hb
 refine q0 (.tuple #[(.agg #[(vi aB), (vi aE), (vi aF), (vu aG), (vs aH), (vi aN), (vi aM)]), (vb r1)]) (q0 (.agg #[(vi aB), (vi aE), (vi aF), (vu aG), (vs aH), (vi aN), (vi aM)]) (q0 (vb r1) (sn (O := (.cells #[(vi 0), (vi 0), (vi 0), (vu 0), (vs ⟨#[]⟩), (vi 0), (vi 0)] 106)) (x_alloc (Try.zeroValue106 _) rfl) ?_)))
 intro p4 w4 hn1
 obtain ⟨H1, hs, hb⟩ := hs.alloc hb hn1
 refine st_set (want0 rfl) (x_storeA (a := p4) (vs := [(vi aB), (vi aE), (vi aF), (vu aG), (vs aH), (vi aN), (vi aM)]) (by kernel_rfl) (by kernel_rfl) rfl (Try.sizeOf106 _) rfl (hb.canWs0 0 7 gZ (by kernel_rfl))) ?_
 intro w5 hn2
 have hsb : Hst w0 None w3 H1 w5 ∧ HB H1 w5 [(p4, [(vi aB), (vi aE), (vi aF), (vu aG), (vs aH), (vi aN), (vi aM)], 106)] := by
  rw [hn2]
  exact hb.store0 (i := 0) (vs := [(vi aB), (vi aE), (vi aF), (vu aG), (vs aH), (vi aN), (vi aM)]) hs gZ (by kernel_rfl) (by kernel_rfl)
 clear hs hb hn2
 obtain ⟨hs, hb⟩ := hsb
 refine q0 (vb r1) (wpL_nil (th_n (wpE_seq (rg (q0 (vb r1) (q0 (vb (!r1)) (wpL_nil (th_n ?_))))))))
 refine wpE_cond (t := (!r1)) (by kernel_rfl) (fun hc1 => ?_) (fun hc1 => ?_)
 ·replace h := h.1 hc1
  refine wpE_seq (rg (q0 Sl.nil.v (wpL_nil (th_n (wpE_ret (th_r ?_))))))
  replace h := h H1 w5 hs
  replace hs := hs.here
  refine res1 (.inl rfl) Try.results46 (v := Sl.nil.v) (by kernel_rfl) ?_
  exact ⟨Sl.nil, rfl, h⟩
 ·replace h := h.2 hc1
  refine wpE_skip (th_n (wpE_seq (rg ?_)))
  replace h := h H1 w5 hs
  replace hs := hs.here
  refine sn (O := (.cells #[Sl.nil.v] 39)) (x_alloc (Try.zeroValue39 _) rfl) ?_
  intro p5 w6 hn7
  replace h := h p5 w6 hn7
  replace hs := hs.again (Ext.new (F := None) hn7).keptP
  replace hb := hb.kept (Ext.new (F := None) hn7).keptP
  refine wpL_nil (th_n (wpE_seqC (rg ?_)))
  obtain ⟨v2, hv8, h⟩ := h
  refine q2 (vp v2) (xl (Try.isAgg36 _) hv8) (q0 (vi t1) ?_)
  refine st_call (want0 rfl) (xc Try.call30) (h.mono ?_)
  rintro e w7 ⟨r2, rfl, hk, h⟩
  refine ⟨_, rfl, ?_⟩
  obtain ⟨hs, hb⟩ := hk.hh hs hb
  refine wpL_nil (th_n ?_)
  obtain ⟨f1, cs1, hv1, hf1, h⟩ := h
  obtain ⟨xs1, Rd1, hit, I1, hRI, h0, hbody, h⟩ := h
  refine wpB_range (encs := (fun (z2 : Int) => #[(vi z2)])) (Eq.trans (b := r2) (by kernel_rfl) hv1) hf1 hit (fun _ => rfl) (by decide) hs I1 (fun _ _ _ => False) (fun _ _ _ => False) hRI h0 ?ha ?hr ?ht
  case ha =>
   intro l z2 w17
   refine rg (q0 (vi z2) (wpL_nil (th_n ?_)))
   refine ⟨rfl, ?_⟩
   intro pre1 Y1 A1 hi hY hpost
   replace h := hbody pre1 z2 Y1 A1 hi hY hpost
   clear hbody hs hb hi hY hpost
   have hs := Hst.start A1
   have hb := HB.nil None A1
   refine wpE_block (wpE_seq (rg ?_))
   obtain ⟨v3, hv5, h⟩ := h
   refine q2 (vp v3) (xl (Try.isAgg36 _) hv5) (q0 (vi z2) ?_)
   refine st_call (want0 rfl) (xc Try.call67) (h.mono ?_)
   rintro e w8 ⟨aO, aQ, aP, aR, aS, aU, aT, r3, rfl, hk, h⟩
   refine ⟨_, rfl, ?_⟩
   obtain ⟨hs, hb⟩ := hk.hh hs hb
   refine q0 (.tuple #[(.agg #[(vi aO), (vi aQ), (vi aP), (vu aR), (vs aS), (vi aU), (vi aT)]), (vb r3)]) (q0 (.agg #[(vi aO), (vi aQ), (vi aP), (vu aR), (vs aS), (vi aU), (vi aT)]) (q0 (vb r3) (sn (O := (.cells #[(vi 0), (vi 0), (vi 0), (vu 0), (vs ⟨#[]⟩), (vi 0), (vi 0)] 106)) (x_alloc (Try.zeroValue106 _) rfl) ?_)))
   intro p6 w9 hn3
   obtain ⟨H2, hs, hb⟩ := hs.alloc hb hn3
   refine st_set (want0 rfl) (x_storeA (a := p6) (vs := [(vi aO), (vi aQ), (vi aP), (vu aR), (vs aS), (vi aU), (vi aT)]) (by kernel_rfl) (by kernel_rfl) rfl (Try.sizeOf106 _) rfl (hb.canWs0 0 7 gZ (by kernel_rfl))) ?_
   intro w10 hn4
   have hsb : Hst A1 None w8 H2 w10 ∧ HB H2 w10 [(p6, [(vi aO), (vi aQ), (vi aP), (vu aR), (vs aS), (vi aU), (vi aT)], 106)] := by
    rw [hn4]
    exact hb.store0 (i := 0) (vs := [(vi aO), (vi aQ), (vi aP), (vu aR), (vs aS), (vi aU), (vi aT)]) hs gZ (by kernel_rfl) (by kernel_rfl)
   clear hs hb hn4
   obtain ⟨hs, hb⟩ := hsb
   refine q0 (vb r3) (wpL_nil (th_n (wpE_seq (rg (q0 (vp (some p6)) (q2 (vi aO) (xl (Try.isAgg3 _) (hb.c0 0 gZ)) (q0 (vb (aO == 8)) (q0 (vb (aO == 8)) ?_))))))))
   rcases Bool.eq_false_or_eq_true (aO == 8) with hg1 | hg1
   ·replace h := h.1 hg1
    refine q1 (vp (some (p6.add 2))) (want1 rfl (yD 34 hg1)) (stp (v := (vi aP)) (want1 rfl (yD 34 hg1)) (xl (Try.isAgg3 _) (hb.c 0 2 gZ)) ?_)
    replace h := h H2 w10 hs
    replace hs := hs.here
    obtain ⟨v4, hv4, h⟩ := h
    refine stp (v := (vi v4)) (want1 rfl (yD 34 hg1)) (xl (Try.isAgg3 _) hv4) (q1 (vb (aP == v4)) (want1 rfl (yD 34 hg1)) (q2 (vb (aP == v4)) (xT hg1) (wpL_nil (th_n ?_))))
    refine wpE_cond (t := (aP == v4)) (by kernel_rfl) (fun hc2 => ?_) (fun hc2 => ?_)
    ·replace h := h.1 hc2
     refine rg ?_
     obtain ⟨v5, hv3, h⟩ := h
     refine q2 v5.v (xl (Try.isAgg39 _) hv3) (q0 (vi z2) (st_new (O := (.cells #[(vi z2)] 32)) (fun p => (Sl.mk (some p) 1 1).v) (want0 rfl) (x_buildSlice (vs := #[(0, (vi z2))]) (by kernel_rfl) (by kernel_rfl)) ?_))
     intro p7 w11 hn6
     replace h := h p7 w11 hn6
     replace hs := hs.again (Ext.new (F := None) hn6).keptP
     replace hb := hb.kept (Ext.new (F := None) hn6).keptP
     obtain ⟨s1, w12, hv2, hk, h⟩ := h
     refine st (v := s1.v) (want0 rfl) (x_builtin (args := #[v5.v, (Sl.mk (some p7) 1 1).v]) (by kernel_rfl) (fun _ => rfl) hv2) ?_
     obtain ⟨hs, hb⟩ := hk.hh hs hb
     obtain ⟨hp1, hnh, h⟩ := h
     refine st_set (want0 rfl) (x_store (a := p5) (v := s1.v) (by kernel_rfl) (by kernel_rfl) rfl (Try.sizeOf39 _) hp1) ?_
     intro w13 hn5
     replace h := h w13 hn5
     have hk : Kept H2 w12 w13 := by rw [hn5]; exact Kept.setCell hnh
     replace hs := hs.again hk
     replace hb := hb.kept hk
     clear hk hnh
     refine wpL_nil (bl_n ?_)
     exact rd_n h
    ·replace h := h.2 hc2
     refine wpE_skip (bl_n ?_)
     exact rd_n h
   ·replace h := h.2 hg1
    refine sk (yD 34 hg1) (sk (yD 34 hg1) (sk (yD 34 hg1) (sk (yD 34 hg1) (q2 (vb false) (xF hg1) (wpL_nil (th_n (wpE_condF (by kernel_rfl) (wpE_skip (bl_n ?_)))))))))
    replace h := h H2 w10 hs
    replace hs := hs.here
    exact rd_n h
  case hr =>
   clear hbody
   intro D1 H3 w14 hs' hD hDe cB hk1 hio1
   have hb' := hb.behind hk1 cB hD hDe
   clear hs hb hD hDe
   have hs := hs'
   have hb := hb'
   clear hs' hb'
   replace h := h H3 w14 hs cB hk1 (hio1.elim id (fun h => h.elim (fun _ h => h.elim)))
   refine wpE_seq (rg ?_)
   obtain ⟨v6, hv7, h⟩ := h
   refine q2 v6.v (xl (Try.isAgg39 _) hv7) ?_
   refine st_call (want0 rfl) (xc Try.call103) (h.mono ?_)
   rintro e w15 ⟨rfl, hk, h⟩
   refine ⟨_, rfl, ?_⟩
   obtain ⟨hs, hb⟩ := hk.hh hs hb
   refine wpL_nil (th_n (wpE_seq (rg ?_)))
   obtain ⟨v7, hv6, h⟩ := h
   refine q2 v7.v (xl (Try.isAgg39 _) hv6) (q0 v7.v (wpL_nil (th_n (wpE_ret (af_r hb.dead ?_)))))
   intro w16 hw'
   have hl := hb.leave hs hw'
   clear hs hb hw'
   obtain ⟨hs, hb⟩ := hl
   -- behind the loop
   replace h := h w16 hs
   replace hs := hs.here
   refine res1 (.inl rfl) Try.results46 (v := v7.v) (by kernel_rfl) ?_
   exact ⟨v7, rfl, h⟩
  case ht =>
   clear hbody
   intro _ _ _ _ _ _ _ h
   exact h.elim
def s_law10_num (e1 : Int) : Int :=
 e1
theorem pw_law10_num (e1 : Int) (w0 : World) :
  Calls Try.prog 43 #[(vi e1)] w0 (fun e w' => (e = .returned (vi e1)) ∧ Pure w0 w') := by
 refine calls_of_wpE (args := [(vi e1)]) Try.func43 rfl Try.ntmps43 (Nat.le_of_ble_eq_true rfl) (wpE_seq (rg (q0 (vi 0) (wpL_nil (th_n (wpE_seq (rg (q0 (vi e1) (q0 (vi e1) (wpL_nil (th_n ?_)))))))))))
 refine wpE_ret (res1 (.inl rfl) Try.results43 (v := (vi e1)) (by kernel_rfl) ?_)
 exact ⟨by kernel_rfl, Ext.refl _⟩
theorem p_law10_num (e1 : Int) (w0 : World) : Calls Try.prog 43 #[(.int .i64 e1)] w0 (fun e w' => e = .returned (.int .i64 (s_law10_num e1)) ∧ Pure w0 w') := pw_law10_num e1 w0
def s_view_vows (aA aD : Int) (aC aI : Int) (aJ : ByteArray) (aK aL : Int) : Bool :=
 ((aA == 8) || (aA == 9))
theorem pw_view_vows (aA aD : Int) (aC aI : Int) (aJ : ByteArray) (aK aL : Int) (w0 : World) :
  Calls Try.prog 94 #[(.agg #[(vi aA), (vi aD), (vi aC), (vu aI), (vs aJ), (vi aK), (vi aL)])] w0 (fun e w' => (e = .returned (vb ((aA == 8) || (aA == 9)))) ∧ Pure w0 w') := by
 refine calls_of_wpE (args := [(.agg #[(vi aA), (vi aD), (vi aC), (vu aI), (vs aJ), (vi aK), (vi aL)])]) Try.func94 rfl Try.ntmps94 (Nat.le_of_ble_eq_true rfl) ?_
 have hs := Hst.start w0
 have hb := HB.nil None w0
 refine wpE_seq (rg (sn (O := (.cells #[(vi aA), (vi aD), (vi aC), (vu aI), (vs aJ), (vi aK), (vi aL)] 106)) xb ?_))
 intro p1 w1 hn1
 obtain ⟨H1, hs, hb⟩ := hs.alloc hb hn1
 refine q0 (vb false) (wpL_nil (th_n (wpE_seq ?_)))
 refine wpE_via (fun ρ wJ => ∃ HJ : Nat → Prop, Hst w0 None w0 HJ wJ ∧ HB HJ wJ [(p1, [(vi aA), (vi aD), (vi aC), (vu aI), (vs aJ), (vi aK), (vi aL)], 106)] ∧ Has ρ [(2, (vb ((aA == 8) || (aA == 9))))]) ?_ ?_
 ·skip
  refine rg (q0 (vp (some p1)) (q2 (vi aA) (xl (Try.isAgg3 _) (hb.c0 0 gZ)) (q0 (vb (aA == 8)) (q0 (vb (aA == 8)) ?_))))
  refine wpL_join 4 (fun ρ wJ => ∃ b3'0 : Bool, ∃ HJ : Nat → Prop, ((aA == 8) = b3'0) ∧ Hst w0 None w0 HJ wJ ∧ HB HJ wJ [(p1, [(vi aA), (vi aD), (vi aC), (vu aI), (vs aJ), (vi aK), (vi aL)], 106)] ∧ Has ρ [(10, (vb (b3'0 || (aA == 9))))]) ?_ ?_
  ·clear hs hb
   rintro ρ w4 ⟨b3'0, H4, he0, hs, hb, hH⟩
   subst he0
   refine wpL_has hH ?_
   clear hH
   refine q0 (vb ((aA == 8) || (aA == 9))) (wpL_nil (th_n ?_))
   exact ⟨_, hs, hb, Has.mk (by kernel_rfl)⟩
  ·skip
   rcases Bool.eq_false_or_eq_true (aA == 8) with hg4 | hg4
   ·skip
    refine sk (yD 6 hg4) (sk (yD 6 hg4) (sk (yD 6 hg4) (q2 (vb true) (xT hg4) (wpL_nil ?_))))
    exact ⟨true, _, hg4, hs, hb, Has.mk (by kernel_rfl)⟩
   ·skip
    refine q1 (vp (some p1)) (want1 rfl (yD 6 hg4)) (stp (v := (vi aA)) (want1 rfl (yD 6 hg4)) (xl (Try.isAgg3 _) (hb.c0 0 gZ)) (q1 (vb (aA == 9)) (want1 rfl (yD 6 hg4)) (q2 (vb (aA == 9)) (xF hg4) (wpL_nil ?_))))
    exact ⟨false, _, hg4, hs, hb, Has.mk (by kernel_rfl)⟩
 ·clear hs hb
  rintro ρ w3 ⟨H3, hs, hb, hH⟩
  refine norm_has hH ?_
  clear hH
  refine th_n (wpE_ret (res1 (.inl rfl) Try.results94 (v := (vb ((aA == 8) || (aA == 9)))) (by kernel_rfl) ?_))
  exact ⟨by kernel_rfl, (Ext.refl (F := None) _).hst hs⟩
theorem p_view_vows (aA aD : Int) (aC aI : Int) (aJ : ByteArray) (aK aL : Int) (w0 : World) : Calls Try.prog 94 #[(.agg #[(.int .i64 aA), (.int .i64 aD), (.int .i64 aC), (.int .u64 aI), (.string aJ), (.int .i64 aK), (.int .i64 aL)])] w0 (fun e w' => e = .returned (.bool (s_view_vows aA aD aC aI aJ aK aL)) ∧ Pure w0 w') := pw_view_vows aA aD aC aI aJ aK aL w0
def s_view_knows (who1 aA : Int) (aD aC aI : Int) (aJ : ByteArray) (aK aL : Int) : Bool :=
 (((aA == 8) || (aA == 9)) && (((who1 == aD) || (who1 == aC)) || (who1 == 2)))
theorem pw_view_knows (who1 aA : Int) (aD aC aI : Int) (aJ : ByteArray) (aK aL : Int) (w0 : World) :
  Calls Try.prog 95 #[(vi who1), (.agg #[(vi aA), (vi aD), (vi aC), (vu aI), (vs aJ), (vi aK), (vi aL)])] w0 (fun e w' => (e = .returned (vb (((aA == 8) || (aA == 9)) && (((who1 == aD) || (who1 == aC)) || (who1 == 2))))) ∧ Pure w0 w') := by
 refine calls_of_wpE (args := [(vi who1), (.agg #[(vi aA), (vi aD), (vi aC), (vu aI), (vs aJ), (vi aK), (vi aL)])]) Try.func95 rfl Try.ntmps95 (Nat.le_of_ble_eq_true rfl) ?_
 have hs := Hst.start w0
 have hb := HB.nil None w0
 refine wpE_seq (rg (sn (O := (.cells #[(vi aA), (vi aD), (vi aC), (vu aI), (vs aJ), (vi aK), (vi aL)] 106)) xb ?_))
 intro p1 w1 hn1
 obtain ⟨H1, hs, hb⟩ := hs.alloc hb hn1
 refine q0 (vb false) (wpL_nil (th_n (wpE_seq ?_)))
 refine wpE_via (fun ρ wJ => ∃ HJ : Nat → Prop, Hst w0 None w0 HJ wJ ∧ HB HJ wJ [(p1, [(vi aA), (vi aD), (vi aC), (vu aI), (vs aJ), (vi aK), (vi aL)], 106)] ∧ Has ρ [(4, (vb (((aA == 8) || (aA == 9)) && (((who1 == aD) || (who1 == aC)) || (who1 == 2)))))]) ?_ ?_
 ·skip
  refine rg (q2 (.agg #[(vi aA), (vi aD), (vi aC), (vu aI), (vs aJ), (vi aK), (vi aL)]) (x_loadA (a := p1) (vs := [(vi aA), (vi aD), (vi aC), (vu aI), (vs aJ), (vi aK), (vi aL)]) (by kernel_rfl) (Try.isAgg106 _) (Try.sizeOf106 _) rfl (hb.row0 0 7 gZ (by kernel_rfl))) ?_)
  refine st_call (want0 rfl) (xc Try.call94) ((p_view_vows aA aD aC aI aJ aK aL w1).mono ?_)
  rintro e w9 ⟨he, hE⟩
  refine ⟨(vb ((aA == 8) || (aA == 9))), he.trans (by kernel_rfl), ?_⟩
  replace hs := hs.pure hE
  replace hb := hb.pure hE
  clear hE he
  refine q0 (vb ((aA == 8) || (aA == 9))) ?_
  refine wpL_join 15 (fun ρ wJ => ∃ b9'0 : Bool, ∃ HJ : Nat → Prop, (((aA == 8) || (aA == 9)) = b9'0) ∧ Hst w0 None w0 HJ wJ ∧ HB HJ wJ [(p1, [(vi aA), (vi aD), (vi aC), (vu aI), (vs aJ), (vi aK), (vi aL)], 106)] ∧ Has ρ [(22, (vb (b9'0 && (((who1 == aD) || (who1 == aC)) || (who1 == 2)))))]) ?_ ?_
  ·clear hs hb
   rintro ρ w12 ⟨b9'0, H10, he0, hs, hb, hH⟩
   subst he0
   refine wpL_has hH ?_
   clear hH
   refine q0 (vb (((aA == 8) || (aA == 9)) && (((who1 == aD) || (who1 == aC)) || (who1 == 2)))) (wpL_nil (th_n ?_))
   exact ⟨_, hs, hb, Has.mk (by kernel_rfl)⟩
  ·skip
   rcases Bool.eq_false_or_eq_true ((aA == 8) || (aA == 9)) with hg16 | hg16
   ·skip
    refine q1 (vi who1) (want1 rfl (yD 7 hg16)) (q1 (vp (some (p1.add 1))) (want1 rfl (yD 7 hg16)) (stp (v := (vi aD)) (want1 rfl (yD 7 hg16)) (xl (Try.isAgg3 _) (hb.c 0 1 gZ)) (q1 (vb (who1 == aD)) (want1 rfl (yD 7 hg16)) (q1 (vb (who1 == aD)) (want1 rfl (yD 7 hg16)) ?_))))
    refine wpL_join 5 (fun ρ wJ => ∃ b10'0 : Bool, ∃ HJ : Nat → Prop, ((who1 == aD) = b10'0) ∧ Hst w0 None w0 HJ wJ ∧ HB HJ wJ [(p1, [(vi aA), (vi aD), (vi aC), (vu aI), (vs aJ), (vi aK), (vi aL)], 106)] ∧ Has ρ [(0, (vi who1)), (7, (vb ((aA == 8) || (aA == 9)))), (17, (vb (b10'0 || (who1 == aC))))]) ?_ ?_
    ·clear hs hb
     rintro ρ w13 ⟨b10'0, H11, he0, hs, hb, hH⟩
     subst he0
     refine wpL_has hH ?_
     clear hH
     refine q1 (vb ((who1 == aD) || (who1 == aC))) (want1 rfl (yD 7 hg16)) ?_
     refine wpL_join 3 (fun ρ wJ => ∃ b11'0 : Bool, ∃ HJ : Nat → Prop, (((who1 == aD) || (who1 == aC)) = b11'0) ∧ Hst w0 None w0 HJ wJ ∧ HB HJ wJ [(p1, [(vi aA), (vi aD), (vi aC), (vu aI), (vs aJ), (vi aK), (vi aL)], 106)] ∧ Has ρ [(7, (vb ((aA == 8) || (aA == 9)))), (21, (vb (b11'0 || (who1 == 2))))]) ?_ ?_
     ·clear hs hb
      rintro ρ w14 ⟨b11'0, H12, he0, hs, hb, hH⟩
      subst he0
      refine wpL_has hH ?_
      clear hH
      refine q2 (vb (((who1 == aD) || (who1 == aC)) || (who1 == 2))) (xT hg16) (wpL_nil ?_)
      exact ⟨true, _, hg16, hs, hb, Has.mk (by kernel_rfl)⟩
     ·skip
      rcases Bool.eq_false_or_eq_true ((who1 == aD) || (who1 == aC)) with hg20 | hg20
      ·skip
       refine sk (yD 18 hg20) (sk (yD 18 hg20) (stp (v := (vb true)) (want1 rfl (yD 7 hg16)) (xT hg20) (wpL_nil ?_)))
       exact ⟨true, _, hg20, hs, hb, Has.mk (by kernel_rfl)⟩
      ·skip
       refine q1 (vi who1) (want1 rfl (yD 18 hg20)) (q1 (vb (who1 == 2)) (want1 rfl (yD 18 hg20)) (stp (v := (vb (who1 == 2))) (want1 rfl (yD 7 hg16)) (xF hg20) (wpL_nil ?_)))
       exact ⟨false, _, hg20, hs, hb, Has.mk (by kernel_rfl)⟩
    ·skip
     rcases Bool.eq_false_or_eq_true (who1 == aD) with hg18 | hg18
     ·skip
      refine sk (yD 12 hg18) (sk (yD 12 hg18) (sk (yD 12 hg18) (sk (yD 12 hg18) (stp (v := (vb true)) (want1 rfl (yD 7 hg16)) (xT hg18) (wpL_nil ?_)))))
      exact ⟨true, _, hg18, hs, hb, Has.mk (by kernel_rfl)⟩
     ·skip
      refine q1 (vi who1) (want1 rfl (yD 12 hg18)) (q1 (vp (some (p1.add 2))) (want1 rfl (yD 12 hg18)) (stp (v := (vi aC)) (want1 rfl (yD 12 hg18)) (xl (Try.isAgg3 _) (hb.c 0 2 gZ)) (q1 (vb (who1 == aC)) (want1 rfl (yD 12 hg18)) (stp (v := (vb (who1 == aC))) (want1 rfl (yD 7 hg16)) (xF hg18) (wpL_nil ?_)))))
      exact ⟨false, _, hg18, hs, hb, Has.mk (by kernel_rfl)⟩
   ·skip
    refine sk (yD 7 hg16) (sk (yD 7 hg16) (sk (yD 7 hg16) (sk (yD 7 hg16) (sk (yD 7 hg16) (st_not (by kernel_rfl) (st_not (by kernel_rfl) (st_not (by kernel_rfl) (st_not (by kernel_rfl) (sk (yD 7 hg16) (sk (yD 7 hg16) (st_not (by kernel_rfl) ?_)))))))))))
    refine st_not (by kernel_rfl) (sk (yD 7 hg16) (q2 (vb false) (xF hg16) (wpL_nil ?_)))
    exact ⟨false, _, hg16, hs, hb, Has.mk (by kernel_rfl)⟩
 ·clear hs hb
  rintro ρ w8 ⟨H7, hs, hb, hH⟩
  refine norm_has hH ?_
  clear hH
  refine th_n (wpE_ret (res1 (.inl rfl) Try.results95 (v := (vb (((aA == 8) || (aA == 9)) && (((who1 == aD) || (who1 == aC)) || (who1 == 2))))) (by kernel_rfl) ?_))
  exact ⟨by kernel_rfl, (Ext.refl (F := None) _).hst hs⟩
theorem p_view_knows (who1 aA : Int) (aD aC aI : Int) (aJ : ByteArray) (aK aL : Int) (w0 : World) : Calls Try.prog 95 #[(.int .i64 who1), (.agg #[(.int .i64 aA), (.int .i64 aD), (.int .i64 aC), (.int .u64 aI), (.string aJ), (.int .i64 aK), (.int .i64 aL)])] w0 (fun e w' => e = .returned (.bool (s_view_knows who1 aA aD aC aI aJ aK aL)) ∧ Pure w0 w') := pw_view_knows who1 aA aD aC aI aJ aK aL w0
def m_view_Tells (p1 : Option Addr) (who1 t1 : Int) (w0 : World) (K : Bool → World → Prop) : Prop :=
 Calls Try.prog 67 #[(vp p1), (vi t1)] w0 (fun e w1 => ∃ aB aE : Int, ∃ aF aG : Int, ∃ aH : ByteArray, ∃ aN aM : Int, ∃ r1 : Bool, e = .returned (.tuple #[(.agg #[(vi aB), (vi aE), (vi aF), (vu aG), (vs aH), (vi aN), (vi aM)]), (vb r1)]) ∧ 
  Kept None w0 w1 ∧
  ∀ (H3 : Nat → Prop) (w7 : World), Hst w0 None w1 H3 w7 →
  K (r1 && (s_view_knows who1 aB aE aF aG aH aN aM)) w7)
theorem w_view_Tells (p1 : Option Addr) (who1 t1 : Int) (w0 : World) (K : Bool → World → Prop) (h : m_view_Tells p1 who1 t1 w0 K) :
  Calls Try.prog 44 #[(vp p1), (vi who1), (vi t1)] w0 (fun e w' => ∃ r2 : Bool, e = .returned (vb r2) ∧ K r2 w') := by
 unfold m_view_Tells at h
 refine calls_of_wpE (args := [(vp p1), (vi who1), (vi t1)]) Try.func44 rfl Try.ntmps44 (Nat.le_of_ble_eq_true rfl) ?_
 have hs := Hst.start w0
 have hb := HB.nil None w0
 refine wpE_seq (rg (q0 (vb false) (wpL_nil (th_n (wpE_seq (rg (q0 (vp p1) (q0 (vi t1) ?_))))))))
 refine st_call (want0 rfl) (xc Try.call67) (h.mono ?_)
 rintro e w1 ⟨aB, aE, aF, aG, aH, aN, aM, r1, rfl, hk, h⟩
 refine ⟨_, rfl, ?_⟩
 obtain ⟨hs, hb⟩ := hk.hh hs hb
 refine q0 (.tuple #[(.agg #[(vi aB), (vi aE), (vi aF), (vu aG), (vs aH), (vi aN), (vi aM)]), (vb r1)]) (q0 (.agg #[(vi aB), (vi aE), (vi aF), (vu aG), (vs aH), (vi aN), (vi aM)]) (q0 (vb r1) (sn (O := (.cells #[(vi 0), (vi 0), (vi 0), (vu 0), (vs ⟨#[]⟩), (vi 0), (vi 0)] 106)) (x_alloc (Try.zeroValue106 _) rfl) ?_)))
 intro p2 w2 hn1
 obtain ⟨H1, hs, hb⟩ := hs.alloc hb hn1
 refine st_set (want0 rfl) (x_storeA (a := p2) (vs := [(vi aB), (vi aE), (vi aF), (vu aG), (vs aH), (vi aN), (vi aM)]) (by kernel_rfl) (by kernel_rfl) rfl (Try.sizeOf106 _) rfl (hb.canWs0 0 7 gZ (by kernel_rfl))) ?_
 intro w3 hn2
 have hsb : Hst w0 None w1 H1 w3 ∧ HB H1 w3 [(p2, [(vi aB), (vi aE), (vi aF), (vu aG), (vs aH), (vi aN), (vi aM)], 106)] := by
  rw [hn2]
  exact hb.store0 (i := 0) (vs := [(vi aB), (vi aE), (vi aF), (vu aG), (vs aH), (vi aN), (vi aM)]) hs gZ (by kernel_rfl) (by kernel_rfl)
 clear hs hb hn2
 obtain ⟨hs, hb⟩ := hsb
 refine q0 (vb r1) (wpL_nil (th_n (wpE_seq ?_)))
 refine wpE_via (fun ρ wJ => ∃ HJ : Nat → Prop, Hst w0 None w1 HJ wJ ∧ HB HJ wJ [(p2, [(vi aB), (vi aE), (vi aF), (vu aG), (vs aH), (vi aN), (vi aM)], 106)] ∧ Has ρ [(6, (vb (r1 && (s_view_knows who1 aB aE aF aG aH aN aM))))]) ?_ ?_
 ·skip
  refine rg (q0 (vb r1) (q0 (vb r1) ?_))
  refine wpL_join 4 (fun ρ wJ => ∃ b3'0 : Bool, ∃ HJ : Nat → Prop, (r1 = b3'0) ∧ Hst w0 None w1 HJ wJ ∧ HB HJ wJ [(p2, [(vi aB), (vi aE), (vi aF), (vu aG), (vs aH), (vi aN), (vi aM)], 106)] ∧ Has ρ [(20, (vb (b3'0 && (s_view_knows who1 aB aE aF aG aH aN aM))))]) ?_ ?_
  ·clear hs hb
   rintro ρ w9 ⟨b3'0, H4, he0, hs, hb, hH⟩
   subst he0
   refine wpL_has hH ?_
   clear hH
   refine q0 (vb (r1 && (s_view_knows who1 aB aE aF aG aH aN aM))) (wpL_nil (th_n ?_))
   exact ⟨_, hs, hb, Has.mk (by kernel_rfl)⟩
  ·skip
   rcases Bool.eq_false_or_eq_true r1 with hg4 | hg4
   ·skip
    refine q1 (vi who1) (want1 rfl (yD 16 hg4)) (stp (v := (.agg #[(vi aB), (vi aE), (vi aF), (vu aG), (vs aH), (vi aN), (vi aM)])) (want1 rfl (yD 16 hg4)) (x_loadA (a := p2) (vs := [(vi aB), (vi aE), (vi aF), (vu aG), (vs aH), (vi aN), (vi aM)]) (by kernel_rfl) (Try.isAgg106 _) (Try.sizeOf106 _) rfl (hb.row0 0 7 gZ (by kernel_rfl))) ?_)
    refine st_call (want1 rfl (yD 16 hg4)) (xc Try.call95) ((p_view_knows who1 aB aE aF aG aH aN aM w3).mono ?_)
    rintro e w10 ⟨he, hE⟩
    refine ⟨(vb (s_view_knows who1 aB aE aF aG aH aN aM)), he.trans (by kernel_rfl), ?_⟩
    replace hs := hs.pure hE
    replace hb := hb.pure hE
    clear hE he
    refine q2 (vb (s_view_knows who1 aB aE aF aG aH aN aM)) (xT hg4) (wpL_nil ?_)
    exact ⟨true, _, hg4, hs, hb, Has.mk (by kernel_rfl)⟩
   ·skip
    refine sk (yD 16 hg4) (sk (yD 16 hg4) (sk (yD 16 hg4) (q2 (vb false) (xF hg4) (wpL_nil ?_))))
    exact ⟨false, _, hg4, hs, hb, Has.mk (by kernel_rfl)⟩
 ·clear hs hb
  rintro ρ w7 ⟨H3, hs, hb, hH⟩
  refine norm_has hH ?_
  clear hH
  refine th_n (wpE_ret ?_)
  replace h := h H3 w7 hs
  replace hs := hs.here
  refine res1 (.inl rfl) Try.results44 (v := (vb (r1 && (s_view_knows who1 aB aE aF aG aH aN aM)))) (by kernel_rfl) ?_
  exact ⟨(r1 && (s_view_knows who1 aB aE aF aG aH aN aM)), rfl, h⟩
def m_view_Alike_l2 (l1 m1 : Sl) (p8 : Addr) (x2 : Int) (Hl1 : Nat → Prop) (wl1 : World) (Kc2 : Int → (Nat → Prop) → World → Prop) (K : Bool → World → Prop) : Prop :=
 Br (decide (x2 < (l1.len : Int)))
  (∃ C1 : World → Prop, C1 wl1.drew ∧ ∀ w11, w11 = wl1.drew →
  ∃ v1 : Value, w11.cell? p8 = some v1 ∧
  ∃ a1 : Addr, At l1 x2 1 a1 ∧
  ∃ v2 : Int, w11.cell? a1 = some (vi v2) ∧
  ∃ a2 : Addr, At m1 x2 1 a2 ∧
  ∃ v3 : Int, w11.cell? a2 = some (vi v3) ∧
  ∃ (f1 : FuncId) (fs1 cs1 : Array Value), v1 = .func (.func f1) fs1 cs1 ∧
  (∀ args w, (callFunc f1 args).run Try.prog w = .ok (.enter f1 args) w) ∧ Calls Try.prog f1 (fs1 ++ #[(vi v2), (vi v3)] ++ cs1) w11 (fun e w12 => ∃ r1 : Bool, e = .returned (vb r1) ∧ C1 w12 ∧ 
   Kept Hl1 w11 w12 ∧
   Br (!r1)
    (K false w12)
    (Kc2 (IntKind.i64.wrap (x2 + 1)) Hl1 w12)))
  (K true wl1)
def m_view_Alike_j1 (l1 m1 : Sl) (p2 p3 : Addr) (x1 : Bool) (w0 : World) (H : Nat → Prop) (w : World) (K : Bool → World → Prop) : Prop :=
 Br x1
  (K false w)
  (∀ (p4 : Addr) (w3 : World), New w (.map #[] 0) p4 w3 →
  ∀ (p5 : Addr) (w4 : World), New w3 (.map #[] 0) p5 w4 →
  ∀ (p6 : Addr) (w5 : World), New w4 (.cells #[(.map none)] 146) p6 w5 →
  ∀ (p7 : Addr) (w6 : World), New w5 (.cells #[(.map none)] 146) p7 w6 →
  CanW w6 p6 ∧ ¬ H p6.block ∧ ∀ w7 : World, w7 = w6.setCell p6 (.map (some p4.block)) →
  CanW w7 p7 ∧ ¬ H p7.block ∧ ∀ w8 : World, w8 = w7.setCell p7 (.map (some p5.block)) →
  ∀ (p8 : Addr) (w9 : World), New w8 (.cells #[(.nilFunc : Value)] 147) p8 w9 →
  CanW w9 p8 ∧ ¬ H p8.block ∧ ∀ w10 : World, w10 = w9.setCell p8 (.func (.func 102) #[] #[(vp (some p6)), (vp (some p7)), (vp (some p2)), (vp (some p3)), (vp (some p8))]) →
  ∃ (I1 : Int → (Nat → Prop) → World → Prop) (mu1 : Int → World → Nat), I1 0 H w10 ∧
   ∀ (x2 : Int) (Hl1 : Nat → Prop) (wl1 : World), Hst w0 Hl1 wl1 Hl1 wl1 → I1 x2 Hl1 wl1 → m_view_Alike_l2 l1 m1 p8 x2 Hl1 wl1 (fun y'0 H' w' => I1 y'0 H' w' ∧ mu1 y'0 w' < mu1 x2 wl1) K)
def m_view_Alike_j3 (l1 m1 : Sl) (p2 p3 : Addr) (x3 : Bool) (w0 : World) (H : Nat → Prop) (w : World) (K : Bool → World → Prop) : Prop :=
 ∀ (H1 : Nat → Prop) (w13 : World), Hst w0 H w H1 w13 →
 m_view_Alike_j1 l1 m1 p2 p3 (x3 || (((l1.len : Int) : Int) != (m1.len : Int))) w0 H1 w13 K
def m_view_Alike (p1 : Option Addr) (who1 : Int) (l1 m1 : Sl) (w0 : World) (K : Bool → World → Prop) : Prop :=
 ∀ (p2 : Addr) (w1 : World), New w0 (.cells #[(vp p1)] 36) p2 w1 →
 ∀ (p3 : Addr) (w2 : World), New w1 (.cells #[(vi who1)] 3) p3 w2 →
 ∃ v4 : Option Addr, w2.cell? p2 = some (vp v4) ∧
 Br (Option.isNone v4)
  (m_view_Alike_j3 l1 m1 p2 p3 true w0 None w2 K)
  (∃ v5 : Int, w2.cell? p3 = some (vi v5) ∧
  ∀ (w14 : World), Hst w0 None w2 None w14 →
  m_view_Alike_j3 l1 m1 p2 p3 (!((decide (v5 ≥ 0)) && (decide (v5 < 16)))) w0 None w14 K)
theorem w_view_Alike (p1 : Option Addr) (who1 : Int) (l1 m1 : Sl) (w0 : World) (K : Bool → World → Prop) (h : m_view_Alike p1 who1 l1 m1 w0 K) :
  Calls Try.prog 45 #[(vp p1), (vi who1), l1.v, m1.v] w0 (fun e w' => ∃ r2 : Bool, e = .returned (vb r2) ∧ K r2 w') := by
 unfold m_view_Alike at h
 refine calls_of_wpE (args := [(vp p1), (vi who1), l1.v, m1.v]) Try.func45 rfl Try.ntmps45 (Nat.le_of_ble_eq_true rfl) ?_
 have hs := Hst.start w0
 have hb := HB.nil None w0
 refine wpE_seq (rg (sn (O := (.cells #[(vp p1)] 36)) xb ?_))
 intro p2 w1 hn10
 replace h := h p2 w1 hn10
 replace hs := hs.again (Ext.new (F := None) hn10).keptP
 replace hb := hb.kept (Ext.new (F := None) hn10).keptP
 refine sn (O := (.cells #[(vi who1)] 3)) xb ?_
 intro p3 w2 hn9
 replace h := h p3 w2 hn9
 replace hs := hs.again (Ext.new (F := None) hn9).keptP
 replace hb := hb.kept (Ext.new (F := None) hn9).keptP
 refine q0 (vb false) (wpL_nil (th_n (wpE_seq (wpE_seq ?_))))
 refine wpE_joinT (fun ρ w => ∃ x1 : Bool, ∃ H : Nat → Prop, Has ρ [(2, l1.v), (3, m1.v), (4, (vp (some p2))), (5, (vp (some p3))), (26, (vb x1))] ∧ Hst w0 H w H w ∧ HB H w [] ∧ m_view_Alike_j1 l1 m1 p2 p3 x1 w0 H w K) ?_ ?_
 ·clear h hs hb
  rintro ρ w ⟨x1, H, hH, hs, hb, h⟩
  unfold m_view_Alike_j1 at h
  refine wpE_has hH ?_
  clear hH
  refine wpE_cond (t := x1) (by kernel_rfl) (fun hc1 => ?_) (fun hc1 => ?_)
  ·replace h := h.1 hc1
   refine wpE_seq (rg (q0 (vb false) (wpL_nil (th_n (wpE_ret (th_r (res1 (.inl rfl) Try.results45 (v := (vb false)) (by kernel_rfl) ?_)))))))
   exact ⟨false, rfl, h⟩
  ·replace h := h.2 hc1
   refine wpE_skip (th_n (wpE_seq (rg (st_new (O := (.map #[] 0)) (fun p => .map (some p.block)) (want0 rfl) (by kernel_rfl) ?_))))
   intro p4 w3 hn8
   replace h := h p4 w3 hn8
   replace hs := hs.again (Ext.new (F := None) hn8).keptP
   replace hb := hb.kept (Ext.new (F := None) hn8).keptP
   refine st_new (O := (.map #[] 0)) (fun p => .map (some p.block)) (want0 rfl) (by kernel_rfl) ?_
   intro p5 w4 hn7
   replace h := h p5 w4 hn7
   replace hs := hs.again (Ext.new (F := None) hn7).keptP
   replace hb := hb.kept (Ext.new (F := None) hn7).keptP
   refine sn (O := (.cells #[(.map none)] 146)) (x_alloc (Try.zeroValue146 _) rfl) ?_
   intro p6 w5 hn6
   replace h := h p6 w5 hn6
   replace hs := hs.again (Ext.new (F := None) hn6).keptP
   replace hb := hb.kept (Ext.new (F := None) hn6).keptP
   refine sn (O := (.cells #[(.map none)] 146)) (x_alloc (Try.zeroValue146 _) rfl) ?_
   intro p7 w6 hn5
   replace h := h p7 w6 hn5
   replace hs := hs.again (Ext.new (F := None) hn5).keptP
   replace hb := hb.kept (Ext.new (F := None) hn5).keptP
   obtain ⟨hp1, hnh, h⟩ := h
   refine st_set (want0 rfl) (x_store (a := p6) (v := (.map (some p4.block))) (by kernel_rfl) (by kernel_rfl) rfl (Try.sizeOf146 _) hp1) ?_
   intro w7 hn1
   replace h := h w7 hn1
   have hk : Kept H w6 w7 := by rw [hn1]; exact Kept.setCell hnh
   replace hs := hs.again hk
   replace hb := hb.kept hk
   clear hk hnh
   obtain ⟨hp2, hnh, h⟩ := h
   refine st_set (want0 rfl) (x_store (a := p7) (v := (.map (some p5.block))) (by kernel_rfl) (by kernel_rfl) rfl (Try.sizeOf146 _) hp2) ?_
   intro w8 hn2
   replace h := h w8 hn2
   have hk : Kept H w7 w8 := by rw [hn2]; exact Kept.setCell hnh
   replace hs := hs.again hk
   replace hb := hb.kept hk
   clear hk hnh
   refine wpL_nil (th_n (wpE_seq (rg (sn (O := (.cells #[(.nilFunc : Value)] 147)) (x_alloc (Try.zeroValue147 _) rfl) ?_))))
   intro p8 w9 hn4
   replace h := h p8 w9 hn4
   replace hs := hs.again (Ext.new (F := None) hn4).keptP
   replace hb := hb.kept (Ext.new (F := None) hn4).keptP
   refine wpL_nil (th_n (wpE_seq (rg (q0 (.func (.func 102) #[] #[(vp (some p6)), (vp (some p7)), (vp (some p2)), (vp (some p3)), (vp (some p8))]) ?_))))
   obtain ⟨hp3, hnh, h⟩ := h
   refine st_set (want0 rfl) (x_store (a := p8) (v := (.func (.func 102) #[] #[(vp (some p6)), (vp (some p7)), (vp (some p2)), (vp (some p3)), (vp (some p8))])) (by kernel_rfl) (by kernel_rfl) rfl (Try.sizeOf147 _) hp3) ?_
   intro w10 hn3
   replace h := h w10 hn3
   have hk : Kept H w9 w10 := by rw [hn3]; exact Kept.setCell hnh
   replace hs := hs.again hk
   replace hb := hb.kept hk
   clear hk hnh
   refine wpL_nil (th_n (wpE_seq (wpE_seq (rg (q0 l1.v (q0 (vi (l1.len : Int)) (q0 (vi 0) (wpL_nil (th_n (wpE_block ?_))))))))))
   obtain ⟨I1, mu1, h0, hr⟩ := h
   refine wpE_loop (σ := Int × (Nat → Prop) × World) (fun s ρ w => w = s.2.2 ∧ Has ρ [(2, l1.v), (3, m1.v), (11, (vp (some p8))), (31, (vi (l1.len : Int))), (32, (vi s.1))] ∧ Hst w0 s.2.1 w s.2.1 w ∧ HB s.2.1 w [] ∧ I1 s.1 s.2.1 s.2.2) (fun s => mu1 s.1 s.2.2) (0, H, w10) ⟨rfl, Has.mk (by kernel_rfl), hs, hb, h0⟩ ?_
   clear hs hb
   rintro ⟨x2, Hl1, wl1⟩ ρ w ⟨hw, hH, hs, hb, hI⟩
   obtain rfl : wl1 = w := (show w = wl1 from hw).symm
   replace hH : Has ρ [(2, l1.v), (3, m1.v), (11, (vp (some p8))), (31, (vi (l1.len : Int))), (32, (vi x2))] := hH
   replace hs : Hst w0 Hl1 wl1 Hl1 wl1 := hs
   replace hb : HB Hl1 wl1 [] := hb
   have h := hr x2 Hl1 wl1 hs hI
   clear hr h0
   unfold m_view_Alike_l2 at h
   refine wpE_has hH ?_
   clear hH hI
   refine wpE_seq (rg (q0 (vb (decide (x2 < (l1.len : Int)))) (wpL_nil (th_n (wpE_seq ?_)))))
   refine wpE_cond (t := (decide (x2 < (l1.len : Int)))) (by kernel_rfl) (fun hc2 => ?_) (fun hc2 => ?_)
   ·replace h := h.1 hc2
    refine wpE_skip (th_n (wpE_seq (wpE_block (wpE_seq (rg (q0 (vi x2) (q0 (vi x2) (wpL_nil (th_n (wpE_seq ?_))))))))))
    obtain ⟨C1, hC, h⟩ := h
    refine wpE_drawnC C1 [9] [] (by kernel_rfl) (by kernel_rfl) (by kernel_rfl) (by kernel_rfl) hC ?_
    clear hC
    intro w11 hw11
    replace h := h w11 hw11
    replace hs : Hst w0 Hl1 wl1 Hl1 w11 := by rw [hw11]; exact hs.drew
    replace hb : HB Hl1 w11 [] := by rw [hw11]; exact hb.drew
    replace hs := hs.here
    refine qgo (k := 0) (by kernel_rfl) ?_
    obtain ⟨v1, hv5, h⟩ := h
    refine sxe (v := v1) Kp0 (want0 rfl) (by kernel_rfl) (by kernel_rfl) (xl (Try.isAgg147 _) hv5) (qx 1 l1.v Kp1 (qx 2 (vi x2) Kp2 (qgo (k := 3) (by kernel_rfl) ?_)))
    obtain ⟨a1, hv4, h⟩ := h
    refine sx (v := (vp (some a1))) Kp3 (want0 rfl) (by kernel_rfl) (fun w' hw' => (x_indexAddr (s := l1) (k := .i64) (i := x2) (by kernel_rfl) (by kernel_rfl) (Try.runUnderlying39 _) (Try.sizeOf32 _) hv4)) (qgo (k := 4) (by kernel_rfl) ?_)
    obtain ⟨v2, hv3, h⟩ := h
    refine sxe (v := (vi v2)) Kp4 (want0 rfl) (by kernel_rfl) (by kernel_rfl) (xl (Try.isAgg32 _) hv3) (qx 5 m1.v Kp5 (qx 6 (vi x2) Kp6 (qgo (k := 7) (by kernel_rfl) ?_)))
    obtain ⟨a2, hv2, h⟩ := h
    refine sx (v := (vp (some a2))) Kp7 (want0 rfl) (by kernel_rfl) (fun w' hw' => (x_indexAddr (s := m1) (k := .i64) (i := x2) (by kernel_rfl) (by kernel_rfl) (Try.runUnderlying39 _) (Try.sizeOf32 _) hv2)) (qgo (k := 8) (by kernel_rfl) ?_)
    obtain ⟨v3, hv1, h⟩ := h
    refine sxe (v := (vi v3)) Kp8 (want0 rfl) (by kernel_rfl) (by kernel_rfl) (xl (Try.isAgg32 _) hv1) (lgo (k := 9) (by kernel_rfl) ?_)
    obtain ⟨f1, fs1, cs1, hp4, h⟩ := h
    obtain ⟨hf1, h⟩ := h
    refine sl_call Kp9 (want0 rfl) (by kernel_rfl) (x_callmE (fs := fs1) (caps := cs1) (args := #[(vi v2), (vi v3)]) (by kernel_rfl) hp4 hf1 (by kernel_rfl) rfl) (h.mono ?_)
    rintro e w12 ⟨r1, rfl, hC, hk, h⟩
    refine ⟨_, rfl, .inr hC, ?_⟩
    obtain ⟨hs, hb⟩ := hk.hh hs hb
    refine qx 10 (vb (!r1)) (pickA (S8 (pickS (pickS pickZ)))) (wpX_nil (by kernel_rfl) (th_n ?_))
    refine wpE_cond (t := (!r1)) (by kernel_rfl) (fun hc3 => ?_) (fun hc3 => ?_)
    ·replace h := h.1 hc3
     refine wpE_seq (rg (q0 (vb false) (wpL_nil (th_n (wpE_ret (bl_r (th_r (th_r (bl_r (th_r (res1 (.inl rfl) Try.results45 (v := (vb false)) (by kernel_rfl) ?_)))))))))))
     exact ⟨false, rfl, h⟩
    ·replace h := h.2 hc3
     refine wpE_skip (bl_n (th_n (rg (q0 (vi (IntKind.i64.wrap (x2 + 1))) (q0 (vi (IntKind.i64.wrap (x2 + 1))) (wpL_nil (th_n ?_)))))))
     exact ⟨((IntKind.i64.wrap (x2 + 1)), Hl1, w12), ⟨rfl, Has.mk (by kernel_rfl), hs, hb, h.1⟩, h.2⟩
   ·replace h := h.2 hc2
    refine wpE_exit (th_x (th_x (bl_eq (th_n (wpE_seq (rg (q0 (vb true) (wpL_nil (th_n (wpE_ret (res1 (.inl rfl) Try.results45 (v := (vb true)) (by kernel_rfl) ?_)))))))))))
    exact ⟨true, rfl, h⟩
 ·skip
  refine rg ?_
  obtain ⟨v4, hv7, h⟩ := h
  refine q2 (vp v4) (xl (Try.isAgg36 _) hv7) (q2 (vb (Option.isNone v4)) (x_ptreq (by kernel_rfl) rfl Try.underlying36) (q0 (vb (Option.isNone v4)) ?_))
  refine wpL_join 4 (fun ρ w => ∃ x3 : Bool, ∃ H : Nat → Prop, Has ρ [(2, l1.v), (3, m1.v), (4, (vp (some p2))), (5, (vp (some p3))), (19, (vb x3))] ∧ Hst w0 H w H w ∧ HB H w [] ∧ m_view_Alike_j3 l1 m1 p2 p3 x3 w0 H w K) ?_ ?_
  ·clear h hs hb
   rintro ρ w ⟨x3, H, hH, hs, hb, h⟩
   unfold m_view_Alike_j3 at h
   refine wpL_has hH ?_
   clear hH
   refine q0 (vb x3) ?_
   refine wpL_join 6 (fun ρ wJ => ∃ b1'0 : Bool, ∃ HJ : Nat → Prop, (x3 = b1'0) ∧ Hst w0 H w HJ wJ ∧ HB HJ wJ [] ∧ Has ρ [(2, l1.v), (3, m1.v), (4, (vp (some p2))), (5, (vp (some p3))), (26, (vb (b1'0 || (((l1.len : Int) : Int) != (m1.len : Int)))))]) ?_ ?_
   ·clear hs hb
    rintro ρ w13 ⟨b1'0, H1, he0, hs, hb, hH⟩
    subst he0
    refine wpL_has hH ?_
    clear hH
    refine wpL_nil ?_
    replace h := h H1 w13 hs
    replace hs := hs.here
    refine th_n ?_
    exact ⟨(x3 || (((l1.len : Int) : Int) != (m1.len : Int))), H1, Has.mk (by kernel_rfl), hs, hb, h⟩
   ·skip
    rcases Bool.eq_false_or_eq_true x3 with hg2 | hg2
    ·skip
     refine sk (yD 20 hg2) (sk (yD 20 hg2) (sk (yD 20 hg2) (sk (yD 20 hg2) (sk (yD 20 hg2) (q2 (vb true) (xT hg2) (wpL_nil ?_))))))
     exact ⟨true, _, hg2, hs, hb, Has.mk (by kernel_rfl)⟩
    ·skip
     refine q1 l1.v (want1 rfl (yD 20 hg2)) (q1 (vi (l1.len : Int)) (want1 rfl (yD 20 hg2)) (q1 m1.v (want1 rfl (yD 20 hg2)) (q1 (vi (m1.len : Int)) (want1 rfl (yD 20 hg2)) (q1 (vb (((l1.len : Int) : Int) != (m1.len : Int))) (want1 rfl (yD 20 hg2)) (q2 (vb (((l1.len : Int) : Int) != (m1.len : Int))) (xF hg2) (wpL_nil ?_))))))
     exact ⟨false, _, hg2, hs, hb, Has.mk (by kernel_rfl)⟩
  ·skip
   rcases Bool.eq_false_or_eq_true (Option.isNone v4) with hg3 | hg3
   ·replace h := h.1 hg3
    refine sk (yD 15 hg3) (sk (yD 15 hg3) (sk (yD 15 hg3) (q2 (vb true) (xT hg3) (wpL_nil ?_))))
    exact ⟨true, None, Has.mk (by kernel_rfl), hs, hb, h⟩
   ·replace h := h.2 hg3
    obtain ⟨v5, hv6, h⟩ := h
    refine stp (v := (vi v5)) (want1 rfl (yD 15 hg3)) (xl (Try.isAgg3 _) hv6) ?_
    refine st_call (want1 rfl (yD 15 hg3)) (xc Try.call96) ((p_view_named v5 w2).mono ?_)
    rintro e w14 ⟨he, hE⟩
    refine ⟨(vb ((decide (v5 ≥ 0)) && (decide (v5 < 16)))), he.trans (by kernel_rfl), ?_⟩
    replace hs := hs.pure hE
    replace hb := hb.pure hE
    clear hE he
    refine q1 (vb (!((decide (v5 ≥ 0)) && (decide (v5 < 16))))) (want1 rfl (yD 15 hg3)) (q2 (vb (!((decide (v5 ≥ 0)) && (decide (v5 < 16))))) (xF hg3) (wpL_nil ?_))
    replace h := h w14 hs
    replace hs := hs.here
    exact ⟨(!((decide (v5 ≥ 0)) && (decide (v5 < 16)))), None, Has.mk (by kernel_rfl), hs, hb, h⟩
def m_law10_live_j3 (r1 : Option Addr) (r4 r6 : Int) (x3 : Bool) (H : Nat → Prop) (w : World) (K : Bool → World → Prop) : Prop :=
 Br x3
  (∀ (p1 : Addr) (w25 : World), New w (.cells #[(vi r4)] 32) p1 w25 →
  ∀ (p2 : Addr) (w26 : World), New w25 (.cells #[(vi r6)] 32) p2 w26 →
  Calls Try.prog 45 #[(vp r1), (vi 1), (Sl.mk (some p1) 1 1).v, (Sl.mk (some p2) 1 1).v] w26 (fun e w27 => ∃ r17 : Bool, e = .returned (vb r17) ∧ 
   Kept H w26 w27 ∧
   K (!r17) w27))
  (K false w)
def m_law10_live_j2 (r1 : Option Addr) (r4 r6 : Int) (x2 : Bool) (H : Nat → Prop) (w : World) (K : Bool → World → Prop) : Prop :=
 Br x2
  (∀ (p3 : Addr) (w28 : World), New w (.cells #[(vi r4)] 32) p3 w28 →
  ∀ (p4 : Addr) (w29 : World), New w28 (.cells #[(vi r6)] 32) p4 w29 →
  Calls Try.prog 45 #[(vp r1), (vi 3), (Sl.mk (some p3) 1 1).v, (Sl.mk (some p4) 1 1).v] w29 (fun e w30 => ∃ r18 : Bool, e = .returned (vb r18) ∧ 
   Kept H w29 w30 ∧
   m_law10_live_j3 r1 r4 r6 r18 H w30 K))
  (m_law10_live_j3 r1 r4 r6 false H w K)
def m_law10_live_j1 (r1 : Option Addr) (r4 r6 : Int) (x1 : Bool) (H : Nat → Prop) (w : World) (K : Bool → World → Prop) : Prop :=
 Br x1
  (Calls Try.prog 44 #[(vp r1), (vi 3), (vi r4)] w (fun e w31 => ∃ r19 : Bool, e = .returned (vb r19) ∧ 
   Kept H w w31 ∧
   m_law10_live_j2 r1 r4 r6 (!r19) H w31 K))
  (m_law10_live_j2 r1 r4 r6 false H w K)
def m_law10_live  (w0 : World) (K : Bool → World → Prop) : Prop :=
 Calls Try.prog 27 #[] w0 (fun e w1 => ∃ r1 : Option Addr, e = .returned (vp r1) ∧ 
  Kept None w0 w1 ∧
  Br (Option.isNone r1)
   (K false w1)
   (Calls Try.prog 99 #[(vp r1), (vu 1)] w1 (fun e w2 => ∃ r2 r3 : Int, e = .returned (.tuple #[(vi r2), (vi r3)]) ∧ 
    Kept None w1 w2 ∧
    Calls Try.prog 100 #[(vp r1), (vi 0), (vi 1), (vi r2)] w2 (fun e w3 => ∃ r4 r5 : Int, e = .returned (.tuple #[(vi r4), (vi r5)]) ∧ 
     Kept None w2 w3 ∧
     Calls Try.prog 101 #[(vp r1), (vi 0), (vi 1), (vi r2)] w3 (fun e w4 => ∃ r6 r7 : Int, e = .returned (.tuple #[(vi r6), (vi r7)]) ∧ 
      Kept None w3 w4 ∧
      Calls Try.prog 38 #[(vp r1), (vi 3), (vi r6)] w4 (fun e w5 => ∃ r8 r9 : Int, e = .returned (.tuple #[(vi r8), (vi r9)]) ∧ 
       Kept None w4 w5 ∧
       Calls Try.prog 38 #[(vp r1), (vi 1), (vi r6)] w5 (fun e w6 => ∃ r10 r11 : Int, e = .returned (.tuple #[(vi r10), (vi r11)]) ∧ 
        Kept None w5 w6 ∧
        Calls Try.prog 41 #[(vp r1), (vi 1), (vi r4)] w6 (fun e w7 => ∃ r12 r13 : Int, e = .returned (.tuple #[(vi r12), (vi r13)]) ∧ 
         Kept None w6 w7 ∧
         Calls Try.prog 38 #[(vp r1), (vi 16), (vi r6)] w7 (fun e w8 => ∃ r14 r15 : Int, e = .returned (.tuple #[(vi r14), (vi r15)]) ∧ 
          Kept None w7 w8 ∧
          Calls Try.prog 46 #[(vp r1), (vi 1), (vi r4)] w8 (fun e w9 => ∃ r16 : Sl, e = .returned r16.v ∧ 
           Kept None w8 w9 ∧
           ∀ y1 : Bool, y1 = (((((r8 == r4) && (r9 == 0)) && (r10 == r6)) && (r11 == 0)) && (r12 == r6)) →
           Br (((y1 && (r13 == 0)) && (r15 == 50)) && (((r16.len : Int) : Int) == 1))
            (∀ (H7 : Nat → Prop) (w24 : World), Hst w0 None w9 H7 w24 →
            Calls Try.prog 44 #[(vp r1), (vi 2), (vi r4)] w24 (fun e w32 => ∃ r20 : Bool, e = .returned (vb r20) ∧ 
             Kept H7 w24 w32 ∧
             m_law10_live_j1 r1 r4 r6 r20 H7 w32 K))
            (∀ (H7 : Nat → Prop) (w24 : World), Hst w0 None w9 H7 w24 →
            m_law10_live_j1 r1 r4 r6 false H7 w24 K)))))))))))
theorem w_law10_live  (w0 : World) (K : Bool → World → Prop) (h : m_law10_live  w0 K) :
  Calls Try.prog 42 #[] w0 (fun e w' => ∃ r21 : Bool, e = .returned (vb r21) ∧ K r21 w') := by
 unfold m_law10_live at h
 refine calls_of_wpE (args := []) Try.func42 rfl Try.ntmps42 (Nat.le_of_ble_eq_true rfl) ?_
 have hs := Hst.start w0
 have hb := HB.nil None w0
 refine wpE_seq (rg (q0 (vb false) (wpL_nil (th_n (wpE_seq (rg ?_))))))
 refine st_call (want0 rfl) (xc Try.call27) (h.mono ?_)
 rintro e w1 ⟨r1, rfl, hk, h⟩
 refine ⟨_, rfl, ?_⟩
 obtain ⟨hs, hb⟩ := hk.hh hs hb
 refine q0 (vp r1) (wpL_nil (th_n (wpE_seq (wpE_seq (rg (q0 (vp r1) (q2 (vb (Option.isNone r1)) (x_ptreq (by kernel_rfl) rfl Try.underlying36) (wpL_nil (th_n ?_)))))))))
 refine wpE_cond (t := (Option.isNone r1)) (by kernel_rfl) (fun hc1 => ?_) (fun hc1 => ?_)
 ·replace h := h.1 hc1
  refine wpE_seq (rg (q0 (vb false) (wpL_nil (th_n (wpE_ret (th_r (res1 (.inl rfl) Try.results42 (v := (vb false)) (by kernel_rfl) ?_)))))))
  exact ⟨false, rfl, h⟩
 ·replace h := h.2 hc1
  refine wpE_skip (th_n (wpE_seq (rg (q0 (vp r1) ?_))))
  refine st_call (want0 rfl) (xc Try.call99) (h.mono ?_)
  rintro e w2 ⟨r2, r3, rfl, hk, h⟩
  refine ⟨_, rfl, ?_⟩
  obtain ⟨hs, hb⟩ := hk.hh hs hb
  refine q0 (.tuple #[(vi r2), (vi r3)]) (q0 (vi r2) (q0 (vi r3) (q0 (vi r2) (q0 (vi r3) (wpL_nil (th_n (wpE_seq (rg (q0 (vp r1) (q0 (vi r2) ?_))))))))))
  refine st_call (want0 rfl) (xc Try.call100) (h.mono ?_)
  rintro e w3 ⟨r4, r5, rfl, hk, h⟩
  refine ⟨_, rfl, ?_⟩
  obtain ⟨hs, hb⟩ := hk.hh hs hb
  refine q0 (.tuple #[(vi r4), (vi r5)]) (q0 (vi r4) (q0 (vi r5) (q0 (vi r4) (q0 (vi r5) (wpL_nil (th_n (wpE_seq (rg (q0 (vp r1) (q0 (vi r2) ?_))))))))))
  refine st_call (want0 rfl) (xc Try.call101) (h.mono ?_)
  rintro e w4 ⟨r6, r7, rfl, hk, h⟩
  refine ⟨_, rfl, ?_⟩
  obtain ⟨hs, hb⟩ := hk.hh hs hb
  refine q0 (.tuple #[(vi r6), (vi r7)]) (q0 (vi r6) (q0 (vi r7) (q0 (vi r6) (q0 (vi r7) (wpL_nil (th_n (wpE_seq (rg (q0 (vp r1) (q0 (vi r6) ?_))))))))))
  refine st_call (want0 rfl) (xc Try.call38) (h.mono ?_)
  rintro e w5 ⟨r8, r9, rfl, hk, h⟩
  refine ⟨_, rfl, ?_⟩
  obtain ⟨hs, hb⟩ := hk.hh hs hb
  refine q0 (.tuple #[(vi r8), (vi r9)]) (q0 (vi r8) (q0 (vi r9) (q0 (vi r8) (q0 (vi r9) (wpL_nil (th_n (wpE_seq (rg (q0 (vp r1) (q0 (vi r6) ?_))))))))))
  refine st_call (want0 rfl) (xc Try.call38) (h.mono ?_)
  rintro e w6 ⟨r10, r11, rfl, hk, h⟩
  refine ⟨_, rfl, ?_⟩
  obtain ⟨hs, hb⟩ := hk.hh hs hb
  refine q0 (.tuple #[(vi r10), (vi r11)]) (q0 (vi r10) (q0 (vi r11) (q0 (vi r10) (q0 (vi r11) (wpL_nil (th_n (wpE_seq (rg (q0 (vp r1) (q0 (vi r4) ?_))))))))))
  refine st_call (want0 rfl) (xc Try.call41) (h.mono ?_)
  rintro e w7 ⟨r12, r13, rfl, hk, h⟩
  refine ⟨_, rfl, ?_⟩
  obtain ⟨hs, hb⟩ := hk.hh hs hb
  refine q0 (.tuple #[(vi r12), (vi r13)]) (q0 (vi r12) (q0 (vi r13) (q0 (vi r12) (q0 (vi r13) (wpL_nil (th_n (wpE_seq (rg (q0 (vp r1) (q0 (vi r6) ?_))))))))))
  refine st_call (want0 rfl) (xc Try.call38) (h.mono ?_)
  rintro e w8 ⟨r14, r15, rfl, hk, h⟩
  refine ⟨_, rfl, ?_⟩
  obtain ⟨hs, hb⟩ := hk.hh hs hb
  refine q0 (.tuple #[(vi r14), (vi r15)]) (q0 (vi r14) (q0 (vi r15) (q0 (vi r14) (q0 (vi r15) (wpL_nil (th_n (wpE_seq (rg (q0 (vp r1) (q0 (vi r4) ?_))))))))))
  refine st_call (want0 rfl) (xc Try.call46) (h.mono ?_)
  rintro e w9 ⟨r16, rfl, hk, h⟩
  refine ⟨_, rfl, ?_⟩
  obtain ⟨hs, hb⟩ := hk.hh hs hb
  refine q0 r16.v (wpL_nil (th_n (wpE_seq (rg (q0 (vi r8) (q0 (vi r4) (q0 (vb (r8 == r4)) (q0 (vb (r8 == r4)) ?_))))))))
  refine wpL_join 4 (fun ρ wJ => ∃ b1'0 : Bool, ∃ HJ : Nat → Prop, ((r8 == r4) = b1'0) ∧ Hst w0 None w9 HJ wJ ∧ HB HJ wJ [] ∧ Has ρ [(1, (vp r1)), (4, (vi r4)), (6, (vi r6)), (10, (vi r10)), (11, (vi r11)), (12, (vi r12)), (13, (vi r13)), (15, (vi r15)), (16, r16.v), (71, (vb (b1'0 && (r9 == 0))))]) ?_ ?_
  ·clear hs hb
   rintro ρ w11 ⟨b1'0, H1, he0, hs, hb, hH⟩
   subst he0
   refine wpL_has hH ?_
   clear hH
   refine q0 (vb ((r8 == r4) && (r9 == 0))) ?_
   refine wpL_join 4 (fun ρ wJ => ∃ b2'0 : Bool, ∃ HJ : Nat → Prop, (((r8 == r4) && (r9 == 0)) = b2'0) ∧ Hst w0 None w9 HJ wJ ∧ HB HJ wJ [] ∧ Has ρ [(1, (vp r1)), (4, (vi r4)), (6, (vi r6)), (11, (vi r11)), (12, (vi r12)), (13, (vi r13)), (15, (vi r15)), (16, r16.v), (76, (vb (b2'0 && (r10 == r6))))]) ?_ ?_
   ·clear hs hb
    rintro ρ w13 ⟨b2'0, H2, he0, hs, hb, hH⟩
    subst he0
    refine wpL_has hH ?_
    clear hH
    refine q0 (vb (((r8 == r4) && (r9 == 0)) && (r10 == r6))) ?_
    refine wpL_join 4 (fun ρ wJ => ∃ b3'0 : Bool, ∃ HJ : Nat → Prop, ((((r8 == r4) && (r9 == 0)) && (r10 == r6)) = b3'0) ∧ Hst w0 None w9 HJ wJ ∧ HB HJ wJ [] ∧ Has ρ [(1, (vp r1)), (4, (vi r4)), (6, (vi r6)), (12, (vi r12)), (13, (vi r13)), (15, (vi r15)), (16, r16.v), (81, (vb (b3'0 && (r11 == 0))))]) ?_ ?_
    ·clear hs hb
     rintro ρ w15 ⟨b3'0, H3, he0, hs, hb, hH⟩
     subst he0
     refine wpL_has hH ?_
     clear hH
     refine q0 (vb ((((r8 == r4) && (r9 == 0)) && (r10 == r6)) && (r11 == 0))) ?_
     refine wpL_join 4 (fun ρ wJ => ∃ b4'0 y1 : Bool, ∃ HJ : Nat → Prop, (((((r8 == r4) && (r9 == 0)) && (r10 == r6)) && (r11 == 0)) = b4'0) ∧ (y1 = (b4'0 && (r12 == r6))) ∧ Hst w0 None w9 HJ wJ ∧ HB HJ wJ [] ∧ Has ρ [(1, (vp r1)), (4, (vi r4)), (6, (vi r6)), (13, (vi r13)), (15, (vi r15)), (16, r16.v), (86, (vb y1))]) ?_ ?_
     ·clear hs hb
      rintro ρ w17 ⟨b4'0, y1, H4, he0, hy1, hs, hb, hH⟩
      subst he0
      replace h := h y1 hy1
      refine wpL_has hH ?_
      clear hH
      refine q0 (vb y1) ?_
      refine wpL_join 4 (fun ρ wJ => ∃ b5'0 : Bool, ∃ HJ : Nat → Prop, (y1 = b5'0) ∧ Hst w0 None w9 HJ wJ ∧ HB HJ wJ [] ∧ Has ρ [(1, (vp r1)), (4, (vi r4)), (6, (vi r6)), (15, (vi r15)), (16, r16.v), (91, (vb (b5'0 && (r13 == 0))))]) ?_ ?_
      ·clear hs hb
       rintro ρ w19 ⟨b5'0, H5, he0, hs, hb, hH⟩
       subst he0
       refine wpL_has hH ?_
       clear hH
       refine q0 (vb (y1 && (r13 == 0))) ?_
       refine wpL_join 4 (fun ρ wJ => ∃ b6'0 : Bool, ∃ HJ : Nat → Prop, ((y1 && (r13 == 0)) = b6'0) ∧ Hst w0 None w9 HJ wJ ∧ HB HJ wJ [] ∧ Has ρ [(1, (vp r1)), (4, (vi r4)), (6, (vi r6)), (16, r16.v), (96, (vb (b6'0 && (r15 == 50))))]) ?_ ?_
       ·clear hs hb
        rintro ρ w22 ⟨b6'0, H6, he0, hs, hb, hH⟩
        subst he0
        refine wpL_has hH ?_
        clear hH
        refine q0 (vb ((y1 && (r13 == 0)) && (r15 == 50))) ?_
        refine wpL_join 4 (fun ρ wJ => ∃ b7'0 : Bool, ∃ HJ : Nat → Prop, (((y1 && (r13 == 0)) && (r15 == 50)) = b7'0) ∧ Hst w0 None w9 HJ wJ ∧ HB HJ wJ [] ∧ Has ρ [(1, (vp r1)), (4, (vi r4)), (6, (vi r6)), (101, (vb (b7'0 && (((r16.len : Int) : Int) == 1))))]) ?_ ?_
        ·clear hs hb
         rintro ρ w24 ⟨b7'0, H7, he0, hs, hb, hH⟩
         subst he0
         refine wpL_has hH ?_
         clear hH
         refine q0 (vb (((y1 && (r13 == 0)) && (r15 == 50)) && (((r16.len : Int) : Int) == 1))) ?_
         refine wpL_join 4 (fun ρ w => ∃ x1 : Bool, ∃ H : Nat → Prop, Has ρ [(1, (vp r1)), (4, (vi r4)), (6, (vi r6)), (106, (vb x1))] ∧ Hst w0 H w H w ∧ HB H w [] ∧ m_law10_live_j1 r1 r4 r6 x1 H w K) ?_ ?_
         ·clear h hs hb
          rintro ρ w ⟨x1, H, hH, hs, hb, h⟩
          unfold m_law10_live_j1 at h
          refine wpL_has hH ?_
          clear hH
          refine q0 (vb x1) ?_
          refine wpL_join 5 (fun ρ w => ∃ x2 : Bool, ∃ H : Nat → Prop, Has ρ [(1, (vp r1)), (4, (vi r4)), (6, (vi r6)), (112, (vb x2))] ∧ Hst w0 H w H w ∧ HB H w [] ∧ m_law10_live_j2 r1 r4 r6 x2 H w K) ?_ ?_
          ·clear h hs hb
           rintro ρ w ⟨x2, H, hH, hs, hb, h⟩
           unfold m_law10_live_j2 at h
           refine wpL_has hH ?_
           clear hH
           refine q0 (vb x2) ?_
           refine wpL_join 7 (fun ρ w => ∃ x3 : Bool, ∃ H : Nat → Prop, Has ρ [(1, (vp r1)), (4, (vi r4)), (6, (vi r6)), (120, (vb x3))] ∧ Hst w0 H w H w ∧ HB H w [] ∧ m_law10_live_j3 r1 r4 r6 x3 H w K) ?_ ?_
           ·clear h hs hb
            rintro ρ w ⟨x3, H, hH, hs, hb, h⟩
            unfold m_law10_live_j3 at h
            refine wpL_has hH ?_
            clear hH
            refine q0 (vb x3) ?_
            rcases Bool.eq_false_or_eq_true x3 with hg15 | hg15
            ·replace h := h.1 hg15
             refine q1 (vp r1) (want1 rfl (yD 121 hg15)) (q1 (vi r4) (want1 rfl (yD 121 hg15)) (st_new (O := (.cells #[(vi r4)] 32)) (fun p => (Sl.mk (some p) 1 1).v) (want1 rfl (yD 121 hg15)) (x_buildSlice (vs := #[(0, (vi r4))]) (by kernel_rfl) (by kernel_rfl)) ?_))
             intro p1 w25 hn2
             replace h := h p1 w25 hn2
             replace hs := hs.again (Ext.new (F := None) hn2).keptP
             replace hb := hb.kept (Ext.new (F := None) hn2).keptP
             refine q1 (vi r6) (want1 rfl (yD 121 hg15)) (st_new (O := (.cells #[(vi r6)] 32)) (fun p => (Sl.mk (some p) 1 1).v) (want1 rfl (yD 121 hg15)) (x_buildSlice (vs := #[(0, (vi r6))]) (by kernel_rfl) (by kernel_rfl)) ?_)
             intro p2 w26 hn1
             replace h := h p2 w26 hn1
             replace hs := hs.again (Ext.new (F := None) hn1).keptP
             replace hb := hb.kept (Ext.new (F := None) hn1).keptP
             refine st_call (want1 rfl (yD 121 hg15)) (xc Try.call45) (h.mono ?_)
             rintro e w27 ⟨r17, rfl, hk, h⟩
             refine ⟨_, rfl, ?_⟩
             obtain ⟨hs, hb⟩ := hk.hh hs hb
             refine q1 (vb (!r17)) (want1 rfl (yD 121 hg15)) (q2 (vb (!r17)) (xT hg15) (q0 (vb (!r17)) (wpL_nil (th_n (wpE_ret (res1 (.inl rfl) Try.results42 (v := (vb (!r17))) (by kernel_rfl) ?_))))))
             exact ⟨(!r17), rfl, h⟩
            ·replace h := h.2 hg15
             refine sk (yD 121 hg15) (sk (yD 121 hg15) (sk (yD 121 hg15) (sk (yD 121 hg15) (sk (yD 121 hg15) (sk (yD 121 hg15) (sk (yD 121 hg15) (q2 (vb false) (xF hg15) (q0 (vb false) (wpL_nil (th_n (wpE_ret ?_)))))))))))
             refine res1 (.inl rfl) Try.results42 (v := (vb false)) (by kernel_rfl) ?_
             exact ⟨false, rfl, h⟩
           ·skip
            rcases Bool.eq_false_or_eq_true x2 with hg16 | hg16
            ·replace h := h.1 hg16
             refine q1 (vp r1) (want1 rfl (yD 113 hg16)) (q1 (vi r4) (want1 rfl (yD 113 hg16)) (st_new (O := (.cells #[(vi r4)] 32)) (fun p => (Sl.mk (some p) 1 1).v) (want1 rfl (yD 113 hg16)) (x_buildSlice (vs := #[(0, (vi r4))]) (by kernel_rfl) (by kernel_rfl)) ?_))
             intro p3 w28 hn4
             replace h := h p3 w28 hn4
             replace hs := hs.again (Ext.new (F := None) hn4).keptP
             replace hb := hb.kept (Ext.new (F := None) hn4).keptP
             refine q1 (vi r6) (want1 rfl (yD 113 hg16)) (st_new (O := (.cells #[(vi r6)] 32)) (fun p => (Sl.mk (some p) 1 1).v) (want1 rfl (yD 113 hg16)) (x_buildSlice (vs := #[(0, (vi r6))]) (by kernel_rfl) (by kernel_rfl)) ?_)
             intro p4 w29 hn3
             replace h := h p4 w29 hn3
             replace hs := hs.again (Ext.new (F := None) hn3).keptP
             replace hb := hb.kept (Ext.new (F := None) hn3).keptP
             refine st_call (want1 rfl (yD 113 hg16)) (xc Try.call45) (h.mono ?_)
             rintro e w30 ⟨r18, rfl, hk, h⟩
             refine ⟨_, rfl, ?_⟩
             obtain ⟨hs, hb⟩ := hk.hh hs hb
             refine q2 (vb r18) (xT hg16) (wpL_nil ?_)
             exact ⟨r18, H, Has.mk (by kernel_rfl), hs, hb, h⟩
            ·replace h := h.2 hg16
             refine sk (yD 113 hg16) (sk (yD 113 hg16) (sk (yD 113 hg16) (sk (yD 113 hg16) (sk (yD 113 hg16) (sk (yD 113 hg16) (q2 (vb false) (xF hg16) (wpL_nil ?_)))))))
             exact ⟨false, H, Has.mk (by kernel_rfl), hs, hb, h⟩
          ·skip
           rcases Bool.eq_false_or_eq_true x1 with hg17 | hg17
           ·replace h := h.1 hg17
            refine q1 (vp r1) (want1 rfl (yD 107 hg17)) (q1 (vi r4) (want1 rfl (yD 107 hg17)) ?_)
            refine st_call (want1 rfl (yD 107 hg17)) (xc Try.call44) (h.mono ?_)
            rintro e w31 ⟨r19, rfl, hk, h⟩
            refine ⟨_, rfl, ?_⟩
            obtain ⟨hs, hb⟩ := hk.hh hs hb
            refine q1 (vb (!r19)) (want1 rfl (yD 107 hg17)) (q2 (vb (!r19)) (xT hg17) (wpL_nil ?_))
            exact ⟨(!r19), H, Has.mk (by kernel_rfl), hs, hb, h⟩
           ·replace h := h.2 hg17
            refine sk (yD 107 hg17) (sk (yD 107 hg17) (sk (yD 107 hg17) (sk (yD 107 hg17) (q2 (vb false) (xF hg17) (wpL_nil ?_)))))
            exact ⟨false, H, Has.mk (by kernel_rfl), hs, hb, h⟩
         ·skip
          rcases Bool.eq_false_or_eq_true (((y1 && (r13 == 0)) && (r15 == 50)) && (((r16.len : Int) : Int) == 1)) with hg18 | hg18
          ·replace h := h.1 hg18
           refine q1 (vp r1) (want1 rfl (yD 102 hg18)) (q1 (vi r4) (want1 rfl (yD 102 hg18)) ?_)
           replace h := h H7 w24 hs
           replace hs := hs.here
           refine st_call (want1 rfl (yD 102 hg18)) (xc Try.call44) (h.mono ?_)
           rintro e w32 ⟨r20, rfl, hk, h⟩
           refine ⟨_, rfl, ?_⟩
           obtain ⟨hs, hb⟩ := hk.hh hs hb
           refine q2 (vb r20) (xT hg18) (wpL_nil ?_)
           exact ⟨r20, H7, Has.mk (by kernel_rfl), hs, hb, h⟩
          ·replace h := h.2 hg18
           refine sk (yD 102 hg18) (sk (yD 102 hg18) (sk (yD 102 hg18) (q2 (vb false) (xF hg18) (wpL_nil ?_))))
           replace h := h H7 w24 hs
           replace hs := hs.here
           exact ⟨false, H7, Has.mk (by kernel_rfl), hs, hb, h⟩
        ·skip
         rcases Bool.eq_false_or_eq_true ((y1 && (r13 == 0)) && (r15 == 50)) with hg14 | hg14
         ·skip
          refine q1 r16.v (want1 rfl (yD 97 hg14)) (q1 (vi (r16.len : Int)) (want1 rfl (yD 97 hg14)) (q1 (vb (((r16.len : Int) : Int) == 1)) (want1 rfl (yD 97 hg14)) (q2 (vb (((r16.len : Int) : Int) == 1)) (xT hg14) (wpL_nil ?_))))
          exact ⟨true, _, hg14, hs, hb, Has.mk (by kernel_rfl)⟩
         ·skip
          refine sk (yD 97 hg14) (sk (yD 97 hg14) (sk (yD 97 hg14) (q2 (vb false) (xF hg14) (wpL_nil ?_))))
          exact ⟨false, _, hg14, hs, hb, Has.mk (by kernel_rfl)⟩
       ·skip
        rcases Bool.eq_false_or_eq_true (y1 && (r13 == 0)) with hg12 | hg12
        ·skip
         refine q1 (vi r15) (want1 rfl (yD 92 hg12)) ?_
         refine st_call (want1 rfl (yD 92 hg12)) (xc Try.call43) ((p_law10_num r15 w19).mono ?_)
         rintro e w23 ⟨he, hE⟩
         refine ⟨(vi r15), he.trans (by kernel_rfl), ?_⟩
         replace hs := hs.pure hE
         replace hb := hb.pure hE
         clear hE he
         refine q1 (vb (r15 == 50)) (want1 rfl (yD 92 hg12)) (q2 (vb (r15 == 50)) (xT hg12) (wpL_nil ?_))
         exact ⟨true, _, hg12, hs, hb, Has.mk (by kernel_rfl)⟩
        ·skip
         refine sk (yD 92 hg12) (sk (yD 92 hg12) (sk (yD 92 hg12) (q2 (vb false) (xF hg12) (wpL_nil ?_))))
         exact ⟨false, _, hg12, hs, hb, Has.mk (by kernel_rfl)⟩
      ·skip
       rcases Bool.eq_false_or_eq_true y1 with hg10 | hg10
       ·skip
        refine q1 (vi r13) (want1 rfl (yD 87 hg10)) ?_
        refine st_call (want1 rfl (yD 87 hg10)) (xc Try.call43) ((p_law10_num r13 w17).mono ?_)
        rintro e w20 ⟨he, hE⟩
        refine ⟨(vi r13), he.trans (by kernel_rfl), ?_⟩
        replace hs := hs.pure hE
        replace hb := hb.pure hE
        clear hE he
        refine q1 (vb (r13 == 0)) (want1 rfl (yD 87 hg10)) (q2 (vb (r13 == 0)) (xT hg10) (wpL_nil ?_))
        exact ⟨true, _, hg10, hs, hb, Has.mk (by kernel_rfl)⟩
       ·skip
        refine sk (yD 87 hg10) (sk (yD 87 hg10) (sk (yD 87 hg10) (q2 (vb false) (xF hg10) (wpL_nil ?_))))
        exact ⟨false, _, hg10, hs, hb, Has.mk (by kernel_rfl)⟩
     ·skip
      rcases Bool.eq_false_or_eq_true ((((r8 == r4) && (r9 == 0)) && (r10 == r6)) && (r11 == 0)) with hg8 | hg8
      ·skip
       refine q1 (vi r12) (want1 rfl (yD 82 hg8)) (q1 (vi r6) (want1 rfl (yD 82 hg8)) (q1 (vb (r12 == r6)) (want1 rfl (yD 82 hg8)) (q2 (vb (r12 == r6)) (xT hg8) (wpL_nil ?_))))
       exact ⟨true, _, _, hg8, rfl, hs, hb, Has.mk (by kernel_rfl)⟩
      ·skip
       refine sk (yD 82 hg8) (sk (yD 82 hg8) (sk (yD 82 hg8) (q2 (vb false) (xF hg8) (wpL_nil ?_))))
       exact ⟨false, _, _, hg8, rfl, hs, hb, Has.mk (by kernel_rfl)⟩
    ·skip
     rcases Bool.eq_false_or_eq_true (((r8 == r4) && (r9 == 0)) && (r10 == r6)) with hg6 | hg6
     ·skip
      refine q1 (vi r11) (want1 rfl (yD 77 hg6)) ?_
      refine st_call (want1 rfl (yD 77 hg6)) (xc Try.call43) ((p_law10_num r11 w13).mono ?_)
      rintro e w16 ⟨he, hE⟩
      refine ⟨(vi r11), he.trans (by kernel_rfl), ?_⟩
      replace hs := hs.pure hE
      replace hb := hb.pure hE
      clear hE he
      refine q1 (vb (r11 == 0)) (want1 rfl (yD 77 hg6)) (q2 (vb (r11 == 0)) (xT hg6) (wpL_nil ?_))
      exact ⟨true, _, hg6, hs, hb, Has.mk (by kernel_rfl)⟩
     ·skip
      refine sk (yD 77 hg6) (sk (yD 77 hg6) (sk (yD 77 hg6) (q2 (vb false) (xF hg6) (wpL_nil ?_))))
      exact ⟨false, _, hg6, hs, hb, Has.mk (by kernel_rfl)⟩
   ·skip
    rcases Bool.eq_false_or_eq_true ((r8 == r4) && (r9 == 0)) with hg4 | hg4
    ·skip
     refine q1 (vi r10) (want1 rfl (yD 72 hg4)) (q1 (vi r6) (want1 rfl (yD 72 hg4)) (q1 (vb (r10 == r6)) (want1 rfl (yD 72 hg4)) (q2 (vb (r10 == r6)) (xT hg4) (wpL_nil ?_))))
     exact ⟨true, _, hg4, hs, hb, Has.mk (by kernel_rfl)⟩
    ·skip
     refine sk (yD 72 hg4) (sk (yD 72 hg4) (sk (yD 72 hg4) (q2 (vb false) (xF hg4) (wpL_nil ?_))))
     exact ⟨false, _, hg4, hs, hb, Has.mk (by kernel_rfl)⟩
  ·skip
   rcases Bool.eq_false_or_eq_true (r8 == r4) with hg2 | hg2
   ·skip
    refine q1 (vi r9) (want1 rfl (yD 67 hg2)) ?_
    refine st_call (want1 rfl (yD 67 hg2)) (xc Try.call43) ((p_law10_num r9 w9).mono ?_)
    rintro e w12 ⟨he, hE⟩
    refine ⟨(vi r9), he.trans (by kernel_rfl), ?_⟩
    replace hs := hs.pure hE
    replace hb := hb.pure hE
    clear hE he
    refine q1 (vb (r9 == 0)) (want1 rfl (yD 67 hg2)) (q2 (vb (r9 == 0)) (xT hg2) (wpL_nil ?_))
    exact ⟨true, _, hg2, hs, hb, Has.mk (by kernel_rfl)⟩
   ·skip
    refine sk (yD 67 hg2) (sk (yD 67 hg2) (sk (yD 67 hg2) (q2 (vb false) (xF hg2) (wpL_nil ?_))))
    exact ⟨false, _, hg2, hs, hb, Has.mk (by kernel_rfl)⟩
def m_law10_wide_l1 (l1 : Sl) (n1 i1 : Int) (wl1 : World) (Kc1 : Int → Int → World → Prop) (K : Bool → World → Prop) : Prop :=
 Br ((decide (i1 < (l1.len : Int))) && (decide (i1 ≤ 10)))
  (∃ a1 : Addr, At l1 i1 6 a1 ∧
  ∃ bB bC : Int, ∃ bD bE : Int, ∃ bF : ByteArray, ∃ bN : Sl, Row wl1 a1 [(vi bB), (vi bC), (vi bD), (vu bE), (vs bF), bN.v] ∧
  Calls Try.prog 66 #[(.agg #[(vi bB), (vi bC), (vi bD), (vu bE), (vs bF), bN.v]), (vi 400)] wl1 (fun e w2 => ∃ r1 : Int, e = .returned (vi r1) ∧ 
   Br (decide ((IntKind.i64.wrap (n1 + r1)) ≥ 400))
    (K true w2)
    (Kc1 (IntKind.i64.wrap (n1 + r1)) (IntKind.i64.wrap (i1 + 1)) w2)))
  (K (decide ((l1.len : Int) > 10)) wl1)
def m_law10_wide (l1 : Sl) (w0 : World) (K : Bool → World → Prop) : Prop :=
 ∃ (I1 : Int → Int → World → Prop) (mu1 : Int → Int → World → Nat), I1 0 0 w0 ∧
  ∀ (n1 i1 : Int) (wl1 : World), I1 n1 i1 wl1 → m_law10_wide_l1 l1 n1 i1 wl1 (fun y'0 y'1 w' => I1 y'0 y'1 w' ∧ mu1 y'0 y'1 w' < mu1 n1 i1 wl1) K
theorem w_law10_wide (l1 : Sl) (w0 : World) (K : Bool → World → Prop) (h : m_law10_wide l1 w0 K) :
  Calls Try.prog 51 #[l1.v] w0 (fun e w' => ∃ r2 : Bool, e = .returned (vb r2) ∧ K r2 w') := by
 unfold m_law10_wide at h
 refine calls_of_wpE (args := [l1.v]) Try.func51 rfl Try.ntmps51 (Nat.le_of_ble_eq_true rfl) (wpE_seq (rg (q0 (vb false) (wpL_nil (th_n (wpE_seq (rg (q0 (vi 0) (wpL_nil (th_n (wpE_seq ?_)))))))))))
 refine wpE_seq (rg (q0 (vi 0) (wpL_nil (th_n (wpE_block ?_)))))
 obtain ⟨I1, mu1, h0, hr⟩ := h
 refine wpE_loop (σ := Int × Int × World) (fun s ρ w => w = s.2.2 ∧ Has ρ [(0, l1.v), (3, (vi s.1)), (4, (vi s.2.1))] ∧ I1 s.1 s.2.1 s.2.2) (fun s => mu1 s.1 s.2.1 s.2.2) (0, 0, w0) ⟨rfl, Has.mk (by kernel_rfl), h0⟩ ?_
 rintro ⟨n1, i1, wl1⟩ ρ w ⟨hw, hH, hI⟩
 obtain rfl : wl1 = w := (show w = wl1 from hw).symm
 replace hH : Has ρ [(0, l1.v), (3, (vi n1)), (4, (vi i1))] := hH
 have h := hr n1 i1 wl1 hI
 clear hr h0
 unfold m_law10_wide_l1 at h
 refine wpE_has hH ?_
 clear hH hI
 refine wpE_seq (wpE_seq ?_)
 refine wpE_via (fun ρ wJ => ∃ b1'0 : Bool, ((decide (i1 < (l1.len : Int))) = b1'0) ∧ wl1 = wJ ∧ Has ρ [(0, l1.v), (3, (vi n1)), (4, (vi i1)), (12, (vb (b1'0 && (decide (i1 ≤ 10)))))]) ?_ ?_
 ·skip
  refine rg (q0 (vi i1) (q0 l1.v (q0 (vi (l1.len : Int)) (q0 (vb (decide (i1 < (l1.len : Int)))) (q0 (vb (decide (i1 < (l1.len : Int)))) ?_)))))
  rcases Bool.eq_false_or_eq_true (decide (i1 < (l1.len : Int))) with hg2 | hg2
  ·skip
   refine q1 (vi i1) (want1 rfl (yD 9 hg2)) (q1 (vb (decide (i1 ≤ 10))) (want1 rfl (yD 9 hg2)) (q2 (vb (decide (i1 ≤ 10))) (xT hg2) (wpL_nil (th_n ?_))))
   exact ⟨true, hg2, rfl, Has.mk (by kernel_rfl)⟩
  ·skip
   refine sk (yD 9 hg2) (sk (yD 9 hg2) (q2 (vb false) (xF hg2) (wpL_nil (th_n ?_))))
   exact ⟨false, hg2, rfl, Has.mk (by kernel_rfl)⟩
 ·rintro ρ w1 ⟨b1'0, he0, hw, hH⟩
  subst he0
  subst hw
  refine norm_has hH ?_
  clear hH
  refine th_n ?_
  refine wpE_cond (t := ((decide (i1 < (l1.len : Int))) && (decide (i1 ≤ 10)))) (by kernel_rfl) (fun hc1 => ?_) (fun hc1 => ?_)
  ·replace h := h.1 hc1
   refine wpE_skip (th_n (wpE_seq (wpE_block (wpE_seq (rg (q0 (vi n1) (q0 l1.v (q0 (vi i1) ?_))))))))
   obtain ⟨a1, hv2, h⟩ := h
   refine q2 (vp (some a1)) (x_indexAddr (s := l1) (k := .i64) (i := i1) (by kernel_rfl) (by kernel_rfl) (Try.runUnderlying22 _) (Try.sizeOf52 _) hv2) ?_
   obtain ⟨bB, bC, bD, bE, bF, bN, hv1, h⟩ := h
   refine q2 (.agg #[(vi bB), (vi bC), (vi bD), (vu bE), (vs bF), bN.v]) (x_loadA (a := a1) (vs := [(vi bB), (vi bC), (vi bD), (vu bE), (vs bF), bN.v]) (by kernel_rfl) (Try.isAgg52 _) (Try.sizeOf52 _) rfl hv1) ?_
   refine st_call (want0 rfl) (xc Try.call66) (h.mono ?_)
   rintro e w2 ⟨r1, rfl, h⟩
   refine ⟨_, rfl, ?_⟩
   refine q0 (vi (IntKind.i64.wrap (n1 + r1))) (q0 (vi (IntKind.i64.wrap (n1 + r1))) (wpL_nil (th_n (wpE_seq (rg (q0 (vi (IntKind.i64.wrap (n1 + r1))) (q0 (vb (decide ((IntKind.i64.wrap (n1 + r1)) ≥ 400))) (wpL_nil (th_n ?_)))))))))
   refine wpE_cond (t := (decide ((IntKind.i64.wrap (n1 + r1)) ≥ 400))) (by kernel_rfl) (fun hc2 => ?_) (fun hc2 => ?_)
   ·replace h := h.1 hc2
    refine wpE_seq (rg (q0 (vb true) (wpL_nil (th_n (wpE_ret (bl_r (th_r (th_r (bl_r (th_r (res1 (.inl rfl) Try.results51 (v := (vb true)) (by kernel_rfl) ?_)))))))))))
    exact ⟨true, rfl, h⟩
   ·replace h := h.2 hc2
    refine wpE_skip (bl_n (th_n (rg (q0 (vi i1) (q0 (vi (IntKind.i64.wrap (i1 + 1))) (q0 (vi (IntKind.i64.wrap (i1 + 1))) (wpL_nil (th_n ?_))))))))
    exact ⟨((IntKind.i64.wrap (n1 + r1)), (IntKind.i64.wrap (i1 + 1)), w2), ⟨rfl, Has.mk (by kernel_rfl), h.1⟩, h.2⟩
  ·replace h := h.2 hc1
   refine wpE_exit (th_x (th_x (bl_eq (th_n (wpE_seq (rg (q0 l1.v (q0 (vi (l1.len : Int)) (q0 (vb (decide ((l1.len : Int) > 10))) (q0 (vb (decide ((l1.len : Int) > 10))) (wpL_nil ?_)))))))))))
   refine th_n (wpE_ret (res1 (.inl rfl) Try.results51 (v := (vb (decide ((l1.len : Int) > 10)))) (by kernel_rfl) ?_))
   exact ⟨(decide ((l1.len : Int) > 10)), rfl, h⟩
def m_law10_pools_l1 (l1 : Sl) (r1 : Option Addr) (r2 : Option Addr) (i1 : Int) (w0 : World) (Hl1 : Nat → Prop) (wl1 : World) (Kc1 : Int → (Nat → Prop) → World → Prop) (K : (Option Addr) → (Option Addr) → Bool → World → Prop) : Prop :=
 Br (decide (i1 < (l1.len : Int)))
  (∃ a1 : Addr, At l1 i1 6 a1 ∧
  ∃ bB bC : Int, ∃ bD bE : Int, ∃ bF : ByteArray, ∃ bN : Sl, Row wl1 a1 [(vi bB), (vi bC), (vi bD), (vu bE), (vs bF), bN.v] ∧
  Calls Try.prog 28 #[(vp r1), (.agg #[(vi bB), (vi bC), (vi bD), (vu bE), (vs bF), bN.v])] wl1 (fun e w3 => ∃ r3 r4 : Int, e = .returned (.tuple #[(vi r3), (vi r4)]) ∧ 
   Kept Hl1 wl1 w3 ∧
   ∃ a2 : Addr, At l1 i1 6 a2 ∧
   ∃ cC cD : Int, ∃ cE cF : Int, ∃ cG : ByteArray, ∃ cH : Sl, Row w3 a2 [(vi cC), (vi cD), (vi cE), (vu cF), (vs cG), cH.v] ∧
   Calls Try.prog 69 #[(vp r2), (.agg #[(vi cC), (vi cD), (vi cE), (vu cF), (vs cG), cH.v])] w3 (fun e w4 => ∃ r5 r6 : Int, e = .returned (.tuple #[(vi r5), (vi r6)]) ∧ 
    Kept Hl1 w3 w4 ∧
    Br ((r4 != r6) || (r3 != r5))
     (∀ (H1 : Nat → Prop) (w6 : World), Hst w0 Hl1 w4 H1 w6 →
     K none none false w6)
     (∀ (H1 : Nat → Prop) (w6 : World), Hst w0 Hl1 w4 H1 w6 →
     Kc1 (IntKind.i64.wrap (i1 + 1)) H1 w6))))
  (K r1 r2 true wl1)
def m_law10_pools (l1 : Sl) (w0 : World) (K : (Option Addr) → (Option Addr) → Bool → World → Prop) : Prop :=
 Calls Try.prog 27 #[] w0 (fun e w1 => ∃ r1 : Option Addr, e = .returned (vp r1) ∧ 
  Kept None w0 w1 ∧
  Calls Try.prog 68 #[] w1 (fun e w2 => ∃ r2 : Option Addr, e = .returned (vp r2) ∧ 
   Kept None w1 w2 ∧
   Br (Option.isNone r1)
    (K none none false w2)
    (∃ (I1 : Int → (Nat → Prop) → World → Prop) (mu1 : Int → World → Nat), I1 0 None w2 ∧
     ∀ (i1 : Int) (Hl1 : Nat → Prop) (wl1 : World), Hst w0 Hl1 wl1 Hl1 wl1 → I1 i1 Hl1 wl1 → m_law10_pools_l1 l1 r1 r2 i1 w0 Hl1 wl1 (fun y'0 H' w' => I1 y'0 H' w' ∧ mu1 y'0 w' < mu1 i1 wl1) K)))
theorem w_law10_pools (l1 : Sl) (w0 : World) (K : (Option Addr) → (Option Addr) → Bool → World → Prop) (h : m_law10_pools l1 w0 K) :
  Calls Try.prog 48 #[l1.v] w0 (fun e w' => ∃ r7 : Option Addr, ∃ r8 : Option Addr, ∃ r9 : Bool, e = .returned (.tuple #[(vp r7), (vp r8), (vb r9)]) ∧ K r7 r8 r9 w') := by
 unfold m_law10_pools at h
 refine calls_of_wpE (args := [l1.v]) Try.func48 rfl Try.ntmps48 (Nat.le_of_ble_eq_true rfl) ?_
 have hs := Hst.start w0
 have hb := HB.nil None w0
 refine wpE_seq (rg (q0 (vp none) (q0 (vp none) (q0 (vb false) (wpL_nil (th_n (wpE_seq (rg ?_))))))))
 refine st_call (want0 rfl) (xc Try.call27) (h.mono ?_)
 rintro e w1 ⟨r1, rfl, hk, h⟩
 refine ⟨_, rfl, ?_⟩
 obtain ⟨hs, hb⟩ := hk.hh hs hb
 refine q0 (vp r1) (wpL_nil (th_n (wpE_seq (rg ?_))))
 refine st_call (want0 rfl) (xc Try.call68) (h.mono ?_)
 rintro e w2 ⟨r2, rfl, hk, h⟩
 refine ⟨_, rfl, ?_⟩
 obtain ⟨hs, hb⟩ := hk.hh hs hb
 refine q0 (vp r2) (wpL_nil (th_n (wpE_seq (wpE_seq (rg (q0 (vp r1) (q2 (vb (Option.isNone r1)) (x_ptreq (by kernel_rfl) rfl Try.underlying36) (wpL_nil (th_n ?_)))))))))
 refine wpE_cond (t := (Option.isNone r1)) (by kernel_rfl) (fun hc1 => ?_) (fun hc1 => ?_)
 ·replace h := h.1 hc1
  refine wpE_seq (rg (q0 (vp none) (q0 (vp none) (q0 (vb false) (wpL_nil (th_n (wpE_ret (th_r (res3 (.inl rfl) Try.results48 (v := (vp none)) (by kernel_rfl) (v' := (vp none)) (by kernel_rfl) (v'' := (vb false)) (by kernel_rfl) ?_)))))))))
  exact ⟨none, none, false, rfl, h⟩
 ·replace h := h.2 hc1
  refine wpE_skip (th_n (wpE_seq (wpE_seq (rg (q0 (vi 0) (wpL_nil (th_n (wpE_block ?_))))))))
  obtain ⟨I1, mu1, h0, hr⟩ := h
  refine wpE_loop (σ := Int × (Nat → Prop) × World) (fun s ρ w => w = s.2.2 ∧ Has ρ [(0, l1.v), (5, (vp r1)), (6, (vp r2)), (7, (vi s.1))] ∧ Hst w0 s.2.1 w s.2.1 w ∧ HB s.2.1 w [] ∧ I1 s.1 s.2.1 s.2.2) (fun s => mu1 s.1 s.2.2) (0, None, w2) ⟨rfl, Has.mk (by kernel_rfl), hs, hb, h0⟩ ?_
  clear hs hb
  rintro ⟨i1, Hl1, wl1⟩ ρ w ⟨hw, hH, hs, hb, hI⟩
  obtain rfl : wl1 = w := (show w = wl1 from hw).symm
  replace hH : Has ρ [(0, l1.v), (5, (vp r1)), (6, (vp r2)), (7, (vi i1))] := hH
  replace hs : Hst w0 Hl1 wl1 Hl1 wl1 := hs
  replace hb : HB Hl1 wl1 [] := hb
  have h := hr i1 Hl1 wl1 hs hI
  clear hr h0
  unfold m_law10_pools_l1 at h
  refine wpE_has hH ?_
  clear hH hI
  refine wpE_seq (wpE_seq (rg (q0 (vi i1) (q0 l1.v (q0 (vi (l1.len : Int)) (q0 (vb (decide (i1 < (l1.len : Int)))) (wpL_nil (th_n ?_))))))))
  refine wpE_cond (t := (decide (i1 < (l1.len : Int)))) (by kernel_rfl) (fun hc2 => ?_) (fun hc2 => ?_)
  ·replace h := h.1 hc2
   refine wpE_skip (th_n (wpE_seq (wpE_block (wpE_seq (rg (q0 (vp r1) (q0 l1.v (q0 (vi i1) ?_))))))))
   obtain ⟨a1, hv4, h⟩ := h
   refine q2 (vp (some a1)) (x_indexAddr (s := l1) (k := .i64) (i := i1) (by kernel_rfl) (by kernel_rfl) (Try.runUnderlying22 _) (Try.sizeOf52 _) hv4) ?_
   obtain ⟨bB, bC, bD, bE, bF, bN, hv3, h⟩ := h
   refine q2 (.agg #[(vi bB), (vi bC), (vi bD), (vu bE), (vs bF), bN.v]) (x_loadA (a := a1) (vs := [(vi bB), (vi bC), (vi bD), (vu bE), (vs bF), bN.v]) (by kernel_rfl) (Try.isAgg52 _) (Try.sizeOf52 _) rfl hv3) ?_
   refine st_call (want0 rfl) (xc Try.call28) (h.mono ?_)
   rintro e w3 ⟨r3, r4, rfl, hk, h⟩
   refine ⟨_, rfl, ?_⟩
   obtain ⟨hs, hb⟩ := hk.hh hs hb
   refine q0 (.tuple #[(vi r3), (vi r4)]) (q0 (vi r3) (q0 (vi r4) (q0 (vi r3) (q0 (vi r4) (wpL_nil (th_n (wpE_seq (rg (q0 (vp r2) (q0 l1.v (q0 (vi i1) ?_)))))))))))
   obtain ⟨a2, hv2, h⟩ := h
   refine q2 (vp (some a2)) (x_indexAddr (s := l1) (k := .i64) (i := i1) (by kernel_rfl) (by kernel_rfl) (Try.runUnderlying22 _) (Try.sizeOf52 _) hv2) ?_
   obtain ⟨cC, cD, cE, cF, cG, cH, hv1, h⟩ := h
   refine q2 (.agg #[(vi cC), (vi cD), (vi cE), (vu cF), (vs cG), cH.v]) (x_loadA (a := a2) (vs := [(vi cC), (vi cD), (vi cE), (vu cF), (vs cG), cH.v]) (by kernel_rfl) (Try.isAgg52 _) (Try.sizeOf52 _) rfl hv1) ?_
   refine st_call (want0 rfl) (xc Try.call69) (h.mono ?_)
   rintro e w4 ⟨r5, r6, rfl, hk, h⟩
   refine ⟨_, rfl, ?_⟩
   obtain ⟨hs, hb⟩ := hk.hh hs hb
   refine q0 (.tuple #[(vi r5), (vi r6)]) (q0 (vi r5) (q0 (vi r6) (q0 (vi r5) (q0 (vi r6) (wpL_nil (th_n (wpE_seq ?_)))))))
   refine wpE_via (fun ρ wJ => ∃ b1'0 : Bool, ∃ HJ : Nat → Prop, ((r4 != r6) = b1'0) ∧ Hst w0 Hl1 w4 HJ wJ ∧ HB HJ wJ [] ∧ Has ρ [(0, l1.v), (5, (vp r1)), (6, (vp r2)), (7, (vi i1)), (48, (vb (b1'0 || (r3 != r5))))]) ?_ ?_
   ·skip
    refine rg (q0 (vi r4) ?_)
    refine st_call (want0 rfl) (xc Try.call43) ((p_law10_num r4 w4).mono ?_)
    rintro e w7 ⟨he, hE⟩
    refine ⟨(vi r4), he.trans (by kernel_rfl), ?_⟩
    replace hs := hs.pure hE
    replace hb := hb.pure hE
    clear hE he
    refine q0 (vi r6) (q0 (vb (r4 != r6)) (q0 (vb (r4 != r6)) ?_))
    rcases Bool.eq_false_or_eq_true (r4 != r6) with hg2 | hg2
    ·skip
     refine sk (yD 44 hg2) (sk (yD 44 hg2) (sk (yD 44 hg2) (q2 (vb true) (xT hg2) (wpL_nil (th_n ?_)))))
     exact ⟨true, _, hg2, hs, hb, Has.mk (by kernel_rfl)⟩
    ·skip
     refine q1 (vi r3) (want1 rfl (yD 44 hg2)) (q1 (vi r5) (want1 rfl (yD 44 hg2)) (q1 (vb (r3 != r5)) (want1 rfl (yD 44 hg2)) (q2 (vb (r3 != r5)) (xF hg2) (wpL_nil (th_n ?_)))))
     exact ⟨false, _, hg2, hs, hb, Has.mk (by kernel_rfl)⟩
   ·clear hs hb
    rintro ρ w6 ⟨b1'0, H1, he0, hs, hb, hH⟩
    subst he0
    refine norm_has hH ?_
    clear hH
    refine th_n ?_
    refine wpE_cond (t := ((r4 != r6) || (r3 != r5))) (by kernel_rfl) (fun hc3 => ?_) (fun hc3 => ?_)
    ·replace h := h.1 hc3
     refine wpE_seq (rg (q0 (vp none) (q0 (vp none) (q0 (vb false) (wpL_nil (th_n (wpE_ret (bl_r (th_r (th_r (bl_r ?_)))))))))))
     refine th_r ?_
     replace h := h H1 w6 hs
     replace hs := hs.here
     refine res3 (.inl rfl) Try.results48 (v := (vp none)) (by kernel_rfl) (v' := (vp none)) (by kernel_rfl) (v'' := (vb false)) (by kernel_rfl) ?_
     exact ⟨none, none, false, rfl, h⟩
    ·replace h := h.2 hc3
     refine wpE_skip (bl_n (th_n (rg (q0 (vi i1) (q0 (vi (IntKind.i64.wrap (i1 + 1))) (q0 (vi (IntKind.i64.wrap (i1 + 1))) (wpL_nil ?_)))))))
     replace h := h H1 w6 hs
     replace hs := hs.here
     refine th_n ?_
     exact ⟨((IntKind.i64.wrap (i1 + 1)), H1, w6), ⟨rfl, Has.mk (by kernel_rfl), hs, hb, h.1⟩, h.2⟩
  ·replace h := h.2 hc2
   refine wpE_exit (th_x (th_x (bl_eq (th_n (wpE_seq (rg (q0 (vp r1) (q0 (vp r2) (q0 (vp r1) (q0 (vp r2) (q0 (vb true) ?_)))))))))))
   refine wpL_nil (th_n (wpE_ret (res3 (.inl rfl) Try.results48 (v := (vp r1)) (by kernel_rfl) (v' := (vp r2)) (by kernel_rfl) (v'' := (vb true)) (by kernel_rfl) ?_)))
   exact ⟨r1, r2, true, rfl, h⟩
def s_ref10_tells (who1 from1 to1 : Int) : Bool :=
 (((who1 == from1) || (who1 == to1)) || (who1 == 2))
theorem pw_ref10_tells (who1 from1 to1 : Int) (w0 : World) :
  Calls Try.prog 105 #[(vi who1), (vi from1), (vi to1)] w0 (fun e w' => (e = .returned (vb (((who1 == from1) || (who1 == to1)) || (who1 == 2)))) ∧ Pure w0 w') := by
 refine calls_of_wpE (args := [(vi who1), (vi from1), (vi to1)]) Try.func105 rfl Try.ntmps105 (Nat.le_of_ble_eq_true rfl) (wpE_seq (rg (q0 (vb false) (wpL_nil (th_n (wpE_seq ?_))))))
 refine wpE_via (fun ρ wJ => w0 = wJ ∧ Has ρ [(6, (vb (((who1 == from1) || (who1 == to1)) || (who1 == 2))))]) ?_ ?_
 ·skip
  refine rg (q0 (vi who1) (q0 (vi from1) (q0 (vb (who1 == from1)) (q0 (vb (who1 == from1)) ?_))))
  refine wpL_join 4 (fun ρ wJ => ∃ b4'0 : Bool, ((who1 == from1) = b4'0) ∧ w0 = wJ ∧ Has ρ [(0, (vi who1)), (14, (vb (b4'0 || (who1 == to1))))]) ?_ ?_
  ·rintro ρ w4 ⟨b4'0, he0, hw, hH⟩
   subst he0
   subst hw
   refine wpL_has hH ?_
   clear hH
   refine q0 (vb ((who1 == from1) || (who1 == to1))) ?_
   refine wpL_join 3 (fun ρ wJ => ∃ b5'0 : Bool, (((who1 == from1) || (who1 == to1)) = b5'0) ∧ w0 = wJ ∧ Has ρ [(18, (vb (b5'0 || (who1 == 2))))]) ?_ ?_
   ·rintro ρ w5 ⟨b5'0, he0, hw, hH⟩
    subst he0
    subst hw
    refine wpL_has hH ?_
    clear hH
    refine q0 (vb (((who1 == from1) || (who1 == to1)) || (who1 == 2))) (wpL_nil (th_n ?_))
    exact ⟨rfl, Has.mk (by kernel_rfl)⟩
   ·skip
    rcases Bool.eq_false_or_eq_true ((who1 == from1) || (who1 == to1)) with hg8 | hg8
    ·skip
     refine sk (yD 15 hg8) (sk (yD 15 hg8) (q2 (vb true) (xT hg8) (wpL_nil ?_)))
     exact ⟨true, hg8, rfl, Has.mk (by kernel_rfl)⟩
    ·skip
     refine q1 (vi who1) (want1 rfl (yD 15 hg8)) (q1 (vb (who1 == 2)) (want1 rfl (yD 15 hg8)) (q2 (vb (who1 == 2)) (xF hg8) (wpL_nil ?_)))
     exact ⟨false, hg8, rfl, Has.mk (by kernel_rfl)⟩
  ·skip
   rcases Bool.eq_false_or_eq_true (who1 == from1) with hg6 | hg6
   ·skip
    refine sk (yD 10 hg6) (sk (yD 10 hg6) (sk (yD 10 hg6) (q2 (vb true) (xT hg6) (wpL_nil ?_))))
    exact ⟨true, hg6, rfl, Has.mk (by kernel_rfl)⟩
   ·skip
    refine q1 (vi who1) (want1 rfl (yD 10 hg6)) (q1 (vi to1) (want1 rfl (yD 10 hg6)) (q1 (vb (who1 == to1)) (want1 rfl (yD 10 hg6)) (q2 (vb (who1 == to1)) (xF hg6) (wpL_nil ?_))))
    exact ⟨false, hg6, rfl, Has.mk (by kernel_rfl)⟩
 ·rintro ρ w3 ⟨hw, hH⟩
  subst hw
  refine norm_has hH ?_
  clear hH
  refine th_n (wpE_ret (res1 (.inl rfl) Try.results105 (v := (vb (((who1 == from1) || (who1 == to1)) || (who1 == 2)))) (by kernel_rfl) ?_))
  exact ⟨by kernel_rfl, Ext.refl _⟩
theorem p_ref10_tells (who1 from1 to1 : Int) (w0 : World) : Calls Try.prog 105 #[(.int .i64 who1), (.int .i64 from1), (.int .i64 to1)] w0 (fun e w' => e = .returned (.bool (s_ref10_tells who1 from1 to1)) ∧ Pure w0 w') := pw_ref10_tells who1 from1 to1 w0
def m_ref10_View_l1 (who1 : Int) (aY : Sl) (i1 bG : Int) (bH bI bJ : Int) (bK : ByteArray) (bL : Sl) (w0 : World) (Hl1 : Nat → Prop) (wl1 : World) (Kc1 : Int → Int → Int → Int → Int → ByteArray → Sl → (Nat → Prop) → World → Prop) (K : Int → Int → Int → Int → ByteArray → Sl → World → Prop) : Prop :=
 Br (decide (i1 < (aY.len : Int)))
  (∃ C1 : World → Prop, C1 wl1.drew ∧ ∀ w12, w12 = wl1.drew →
  ∃ a1 : Addr, At aY i1 6 a1 ∧
  ∃ bB bC : Int, ∃ bD bE : Int, ∃ bF : ByteArray, ∃ bN : Sl, Row w12 a1 [(vi bB), (vi bC), (vi bD), (vu bE), (vs bF), bN.v] ∧
  Calls Try.prog 53 #[(vi who1), (.agg #[(vi bB), (vi bC), (vi bD), (vu bE), (vs bF), bN.v])] w12 (fun e w13 => ∃ aB aE : Int, ∃ aF aG : Int, ∃ aH : ByteArray, ∃ bR : Sl, e = .returned (.agg #[(vi aB), (vi aE), (vi aF), (vu aG), (vs aH), bR.v]) ∧ C1 w13 ∧ 
   Kept Hl1 w12 w13 ∧
   ∀ (p4 : Addr) (w14 : World), New w13 (.cells #[(vi aB), (vi aE), (vi aF), (vu aG), (vs aH), bR.v] 52) p4 w14 → C1 w14 ∧
   ∃ s1 : Sl, ∃ w15 : World, (Builtin.append_ #[22, 22] 22 #[bL.v, (Sl.mk (some p4) 1 1).v]).run Try.prog w14 = .ok s1.v w15 ∧ C1 w15 ∧
   Kept Hl1 w14 w15 ∧
   ∀ (w16 : World), Hst w0 Hl1 w15 Hl1 w16 →
   Kc1 (IntKind.i64.wrap (i1 + 1)) bG bH bI bJ bK s1 Hl1 w16))
  (∀ (w17 : World), Hst w0 Hl1 wl1 Hl1 w17 →
  K bG bH bI bJ bK bL w17)
def m_ref10_View (who1 aX : Int) (aV aW aZ : Int) (bA : ByteArray) (aY : Sl) (w0 : World) (K : Int → Int → Int → Int → ByteArray → Sl → World → Prop) : Prop :=
 ∀ (H5 : Nat → Prop) (w10 : World), Hst w0 None w0 H5 w10 →
 ∃ (I1 : Int → Int → Int → Int → Int → ByteArray → Sl → (Nat → Prop) → World → Prop) (mu1 : Int → Int → Int → Int → Int → ByteArray → Sl → World → Nat), I1 0 (cond ((aX == 9) && (!(s_ref10_tells who1 aV aW))) 8 aX) aV aW aZ bA Sl.nil H5 w10 ∧
  ∀ (i1 bG : Int) (bH bI bJ : Int) (bK : ByteArray) (bL : Sl) (Hl1 : Nat → Prop) (wl1 : World), Hst w0 Hl1 wl1 Hl1 wl1 → I1 i1 bG bH bI bJ bK bL Hl1 wl1 → m_ref10_View_l1 who1 aY i1 bG bH bI bJ bK bL w0 Hl1 wl1 (fun y'0 y'1 y'2 y'3 y'4 y'5 y'6 H' w' => I1 y'0 y'1 y'2 y'3 y'4 y'5 y'6 H' w' ∧ mu1 y'0 y'1 y'2 y'3 y'4 y'5 y'6 w' < mu1 i1 bG bH bI bJ bK bL wl1) K
theorem w_ref10_View (who1 aX : Int) (aV aW aZ : Int) (bA : ByteArray) (aY : Sl) (w0 : World) (K : Int → Int → Int → Int → ByteArray → Sl → World → Prop) (h : m_ref10_View who1 aX aV aW aZ bA aY w0 K) :
  Calls Try.prog 53 #[(vi who1), (.agg #[(vi aX), (vi aV), (vi aW), (vu aZ), (vs bA), aY.v])] w0 (fun e w' => ∃ aO aQ : Int, ∃ aP aR : Int, ∃ aS : ByteArray, ∃ cA : Sl, e = .returned (.agg #[(vi aO), (vi aQ), (vi aP), (vu aR), (vs aS), cA.v]) ∧ K aO aQ aP aR aS cA w') := by
 unfold m_ref10_View at h
 refine calls_of_wpE (args := [(vi who1), (.agg #[(vi aX), (vi aV), (vi aW), (vu aZ), (vs bA), aY.v])]) Try.func53 rfl Try.ntmps53 (Nat.le_of_ble_eq_true rfl) ?_
 have hs := Hst.start w0
 have hb := HB.nil None w0
 refine wpE_seq (rg (sn (O := (.cells #[(vi aX), (vi aV), (vi aW), (vu aZ), (vs bA), aY.v] 52)) xb ?_))
 intro p1 w1 hn1
 obtain ⟨H1, hs, hb⟩ := hs.alloc hb hn1
 refine sn (O := (.cells #[(vi 0), (vi 0), (vi 0), (vu 0), (vs ⟨#[]⟩), Sl.nil.v] 52)) (x_alloc (Try.zeroValue52 _) rfl) ?_
 intro p2 w2 hn2
 obtain ⟨H2, hs, hb⟩ := hs.alloc hb hn2
 refine wpL_nil (th_n (wpE_seq (rg (q2 (.agg #[(vi aX), (vi aV), (vi aW), (vu aZ), (vs bA), aY.v]) (x_loadA (a := p1) (vs := [(vi aX), (vi aV), (vi aW), (vu aZ), (vs bA), aY.v]) (by kernel_rfl) (Try.isAgg52 _) (Try.sizeOf52 _) rfl (hb.row0 1 6 (gS gZ) (by kernel_rfl))) (sn (O := (.cells #[(vi 0), (vi 0), (vi 0), (vu 0), (vs ⟨#[]⟩), Sl.nil.v] 52)) (x_alloc (Try.zeroValue52 _) rfl) ?_)))))
 intro p3 w3 hn3
 obtain ⟨H3, hs, hb⟩ := hs.alloc hb hn3
 refine st_set (want0 rfl) (x_storeA (a := p3) (vs := [(vi aX), (vi aV), (vi aW), (vu aZ), (vs bA), aY.v]) (by kernel_rfl) (by kernel_rfl) rfl (Try.sizeOf52 _) rfl (hb.canWs0 0 6 gZ (by kernel_rfl))) ?_
 intro w4 hn4
 have hsb : Hst w0 None w0 H3 w4 ∧ HB H3 w4 [(p3, [(vi aX), (vi aV), (vi aW), (vu aZ), (vs bA), aY.v], 52), (p2, [(vi 0), (vi 0), (vi 0), (vu 0), (vs ⟨#[]⟩), Sl.nil.v], 52), (p1, [(vi aX), (vi aV), (vi aW), (vu aZ), (vs bA), aY.v], 52)] := by
  rw [hn4]
  exact hb.store0 (i := 0) (vs := [(vi aX), (vi aV), (vi aW), (vu aZ), (vs bA), aY.v]) hs gZ (by kernel_rfl) (by kernel_rfl)
 clear hs hb hn4
 obtain ⟨hs, hb⟩ := hsb
 refine wpL_nil (th_n (wpE_seq (rg (q0 (vp (some (p3.add 5))) (st_set (want0 rfl) (x_store (a := (p3.add 5)) (v := Sl.nil.v) (by kernel_rfl) (by kernel_rfl) rfl (Try.sizeOf22 _) (hb.canW 0 5 gZ (by kernel_rfl))) ?_)))))
 intro w5 hn5
 have hsb : Hst w0 None w0 H3 w5 ∧ HB H3 w5 [(p3, [(vi aX), (vi aV), (vi aW), (vu aZ), (vs bA), Sl.nil.v], 52), (p2, [(vi 0), (vi 0), (vi 0), (vu 0), (vs ⟨#[]⟩), Sl.nil.v], 52), (p1, [(vi aX), (vi aV), (vi aW), (vu aZ), (vs bA), aY.v], 52)] := by
  rw [hn5]
  exact hb.set (i := 0) 5 (v := Sl.nil.v) hs gZ (by kernel_rfl)
 clear hs hb hn5
 obtain ⟨hs, hb⟩ := hsb
 refine wpL_nil (th_n (wpE_seq (wpE_seq ?_)))
 refine wpE_via (fun ρ wJ => ∃ b1'0 : Bool, ∃ HJ : Nat → Prop, ((aX == 9) = b1'0) ∧ Hst w0 None w0 HJ wJ ∧ HB HJ wJ [(p3, [(vi aX), (vi aV), (vi aW), (vu aZ), (vs bA), Sl.nil.v], 52), (p2, [(vi 0), (vi 0), (vi 0), (vu 0), (vs ⟨#[]⟩), Sl.nil.v], 52), (p1, [(vi aX), (vi aV), (vi aW), (vu aZ), (vs bA), aY.v], 52)] ∧ Has ρ [(0, (vi who1)), (3, (vp (some p1))), (4, (vp (some p2))), (5, (vp (some p3))), (20, (vb (b1'0 && (!(s_ref10_tells who1 aV aW)))))]) ?_ ?_
 ·skip
  refine rg (q0 (vp (some p3)) (q2 (vi aX) (xl (Try.isAgg3 _) (hb.c0 0 gZ)) (q0 (vb (aX == 9)) (q0 (vb (aX == 9)) ?_))))
  rcases Bool.eq_false_or_eq_true (aX == 9) with hg2 | hg2
  ·skip
   refine q1 (vi who1) (want1 rfl (yD 12 hg2)) (q1 (vp (some (p1.add 1))) (want1 rfl (yD 12 hg2)) (stp (v := (vi aV)) (want1 rfl (yD 12 hg2)) (xl (Try.isAgg3 _) (hb.c 2 1 (gS (gS gZ)))) (q1 (vp (some (p1.add 2))) (want1 rfl (yD 12 hg2)) (stp (v := (vi aW)) (want1 rfl (yD 12 hg2)) (xl (Try.isAgg3 _) (hb.c 2 2 (gS (gS gZ)))) ?_))))
   refine st_call (want1 rfl (yD 12 hg2)) (xc Try.call105) ((p_ref10_tells who1 aV aW w5).mono ?_)
   rintro e w8 ⟨he, hE⟩
   refine ⟨(vb (s_ref10_tells who1 aV aW)), he.trans (by kernel_rfl), ?_⟩
   replace hs := hs.pure hE
   replace hb := hb.pure hE
   clear hE he
   refine q1 (vb (!(s_ref10_tells who1 aV aW))) (want1 rfl (yD 12 hg2)) (q2 (vb (!(s_ref10_tells who1 aV aW))) (xT hg2) (wpL_nil (th_n ?_)))
   exact ⟨true, _, hg2, hs, hb, Has.mk (by kernel_rfl)⟩
  ·skip
   refine sk (yD 12 hg2) (sk (yD 12 hg2) (sk (yD 12 hg2) (sk (yD 12 hg2) (sk (yD 12 hg2) (sk (yD 12 hg2) (sk (yD 12 hg2) (q2 (vb false) (xF hg2) (wpL_nil (th_n ?_)))))))))
   exact ⟨false, _, hg2, hs, hb, Has.mk (by kernel_rfl)⟩
 ·clear hs hb
  rintro ρ w7 ⟨b1'0, H4, he0, hs, hb, hH⟩
  subst he0
  refine norm_has hH ?_
  clear hH
  refine th_n ?_
  refine wpE_via (fun ρ wJ => ∃ b2'0 : Bool, ∃ HJ : Nat → Prop, (((aX == 9) && (!(s_ref10_tells who1 aV aW))) = b2'0) ∧ Hst w0 None w0 HJ wJ ∧ HB HJ wJ [(p3, [(vi (cond b2'0 8 aX)), (vi aV), (vi aW), (vu aZ), (vs bA), Sl.nil.v], 52), (p2, [(vi 0), (vi 0), (vi 0), (vu 0), (vs ⟨#[]⟩), Sl.nil.v], 52), (p1, [(vi aX), (vi aV), (vi aW), (vu aZ), (vs bA), aY.v], 52)] ∧ Has ρ [(0, (vi who1)), (3, (vp (some p1))), (4, (vp (some p2))), (5, (vp (some p3)))]) ?_ ?_
  ·skip
   refine wpE_cond (t := ((aX == 9) && (!(s_ref10_tells who1 aV aW)))) (by kernel_rfl) (fun hc2 => ?_) (fun hc2 => ?_)
   ·skip
    refine rg (q0 (vp (some p3)) (st_set (want0 rfl) (x_store (a := p3) (v := (vi 8)) (by kernel_rfl) (by kernel_rfl) rfl (Try.sizeOf3 _) (hb.canW0 0 gZ (by kernel_rfl))) ?_))
    intro w11 hn7
    have hsb : Hst w0 None w0 H4 w11 ∧ HB H4 w11 [(p3, [(vi 8), (vi aV), (vi aW), (vu aZ), (vs bA), Sl.nil.v], 52), (p2, [(vi 0), (vi 0), (vi 0), (vu 0), (vs ⟨#[]⟩), Sl.nil.v], 52), (p1, [(vi aX), (vi aV), (vi aW), (vu aZ), (vs bA), aY.v], 52)] := by
     rw [hn7]
     exact hb.set0 (i := 0) (v := (vi 8)) hs gZ (by kernel_rfl)
    clear hs hb hn7
    obtain ⟨hs, hb⟩ := hsb
    refine wpL_nil (th_n ?_)
    exact ⟨true, _, hc2, hs, hb, Has.mk (by kernel_rfl)⟩
   ·skip
    refine wpE_skip (th_n ?_)
    exact ⟨false, _, hc2, hs, hb, Has.mk (by kernel_rfl)⟩
  ·clear hs hb
   rintro ρ w10 ⟨b2'0, H5, he0, hs, hb, hH⟩
   subst he0
   refine norm_has hH ?_
   clear hH
   refine th_n (wpE_seq (wpE_seq (rg (q0 (vi 0) (wpL_nil (th_n (wpE_block ?_)))))))
   replace h := h H5 w10 hs
   replace hs := hs.here
   obtain ⟨I1, mu1, h0, hr⟩ := h
   refine wpE_loop (σ := Int × Int × Int × Int × Int × ByteArray × Sl × (Nat → Prop) × World) (fun s ρ w => w = s.2.2.2.2.2.2.2.2 ∧ Has ρ [(0, (vi who1)), (3, (vp (some p1))), (4, (vp (some p2))), (5, (vp (some p3))), (6, (vi s.1))] ∧ Hst w0 s.2.2.2.2.2.2.2.1 w s.2.2.2.2.2.2.2.1 w ∧ HB s.2.2.2.2.2.2.2.1 w [(p3, [(vi s.2.1), (vi s.2.2.1), (vi s.2.2.2.1), (vu s.2.2.2.2.1), (vs s.2.2.2.2.2.1), s.2.2.2.2.2.2.1.v], 52), (p2, [(vi 0), (vi 0), (vi 0), (vu 0), (vs ⟨#[]⟩), Sl.nil.v], 52), (p1, [(vi aX), (vi aV), (vi aW), (vu aZ), (vs bA), aY.v], 52)] ∧ I1 s.1 s.2.1 s.2.2.1 s.2.2.2.1 s.2.2.2.2.1 s.2.2.2.2.2.1 s.2.2.2.2.2.2.1 s.2.2.2.2.2.2.2.1 s.2.2.2.2.2.2.2.2) (fun s => mu1 s.1 s.2.1 s.2.2.1 s.2.2.2.1 s.2.2.2.2.1 s.2.2.2.2.2.1 s.2.2.2.2.2.2.1 s.2.2.2.2.2.2.2.2) (0, (cond ((aX == 9) && (!(s_ref10_tells who1 aV aW))) 8 aX), aV, aW, aZ, bA, Sl.nil, H5, w10) ⟨rfl, Has.mk (by kernel_rfl), hs, hb, h0⟩ ?_
   clear hs hb
   rintro ⟨i1, bG, bH, bI, bJ, bK, bL, Hl1, wl1⟩ ρ w ⟨hw, hH, hs, hb, hI⟩
   obtain rfl : wl1 = w := (show w = wl1 from hw).symm
   replace hH : Has ρ [(0, (vi who1)), (3, (vp (some p1))), (4, (vp (some p2))), (5, (vp (some p3))), (6, (vi i1))] := hH
   replace hs : Hst w0 Hl1 wl1 Hl1 wl1 := hs
   replace hb : HB Hl1 wl1 [(p3, [(vi bG), (vi bH), (vi bI), (vu bJ), (vs bK), bL.v], 52), (p2, [(vi 0), (vi 0), (vi 0), (vu 0), (vs ⟨#[]⟩), Sl.nil.v], 52), (p1, [(vi aX), (vi aV), (vi aW), (vu aZ), (vs bA), aY.v], 52)] := hb
   have h := hr i1 bG bH bI bJ bK bL Hl1 wl1 hs hI
   clear hr h0
   unfold m_ref10_View_l1 at h
   refine wpE_has hH ?_
   clear hH hI
   refine wpE_seq (wpE_seq (rg (q0 (vi i1) (q0 (vp (some (p1.add 5))) (q2 aY.v (xl (Try.isAgg22 _) (hb.c 2 5 (gS (gS gZ)))) (q0 (vi (aY.len : Int)) (q0 (vb (decide (i1 < (aY.len : Int)))) (wpL_nil (th_n ?_)))))))))
   refine wpE_cond (t := (decide (i1 < (aY.len : Int)))) (by kernel_rfl) (fun hc3 => ?_) (fun hc3 => ?_)
   ·replace h := h.1 hc3
    refine wpE_skip (th_n (wpE_seq (wpE_block ?_)))
    obtain ⟨C1, hC, h⟩ := h
    refine wpE_drawnC (fun x => C1 x ∧ HB Hl1 x [(p3, [(vi bG), (vi bH), (vi bI), (vu bJ), (vs bK), bL.v], 52), (p2, [(vi 0), (vi 0), (vi 0), (vu 0), (vs ⟨#[]⟩), Sl.nil.v], 52), (p1, [(vi aX), (vi aV), (vi aW), (vu aZ), (vs bA), aY.v], 52)]) [8, 9, 10, 12] [12] (by kernel_rfl) (by kernel_rfl) (by kernel_rfl) (by kernel_rfl) ⟨hC, hb.drew⟩ ?_
    clear hC
    intro w12 hw12
    replace h := h w12 hw12
    replace hs : Hst w0 Hl1 wl1 Hl1 w12 := by rw [hw12]; exact hs.drew
    replace hb : HB Hl1 w12 [(p3, [(vi bG), (vi bH), (vi bI), (vu bJ), (vs bK), bL.v], 52), (p2, [(vi 0), (vi 0), (vi 0), (vu 0), (vs ⟨#[]⟩), Sl.nil.v], 52), (p1, [(vi aX), (vi aV), (vi aW), (vu aZ), (vs bA), aY.v], 52)] := by rw [hw12]; exact hb.drew
    replace hs := hs.here
    refine qx 0 (vp (some (p3.add 5))) Kp0 (qz 1 bL.v Kp1 (fun w' hw' => (xl (Try.isAgg22 _) (hw'.2.cell 0 5 gZ (by kernel_rfl)))) (qx 2 (vi who1) Kp2 (qx 3 (vp (some (p1.add 5))) Kp3 (qz 4 aY.v Kp4 (fun w' hw' => (xl (Try.isAgg22 _) (hw'.2.cell 2 5 (gS (gS gZ)) (by kernel_rfl)))) (qx 5 (vi i1) Kp5 (qgo (k := 6) (by kernel_rfl) ?_))))))
    obtain ⟨a1, hv3, h⟩ := h
    refine sx (v := (vp (some a1))) Kp6 (want0 rfl) (by kernel_rfl) (fun w' hw' => (x_indexAddr (s := aY) (k := .i64) (i := i1) (by kernel_rfl) (by kernel_rfl) (Try.runUnderlying22 _) (Try.sizeOf52 _) hv3)) (qgo (k := 7) (by kernel_rfl) ?_)
    obtain ⟨bB, bC, bD, bE, bF, bN, hv2, h⟩ := h
    refine sxe (v := (.agg #[(vi bB), (vi bC), (vi bD), (vu bE), (vs bF), bN.v])) Kp7 (want0 rfl) (by kernel_rfl) (by kernel_rfl) (x_loadA (a := a1) (vs := [(vi bB), (vi bC), (vi bD), (vu bE), (vs bF), bN.v]) (by kernel_rfl) (Try.isAgg52 _) (Try.sizeOf52 _) rfl hv2) (lgo (k := 8) (by kernel_rfl) ?_)
    refine sl_call Kp8 (want0 rfl) (by kernel_rfl) (xc Try.call53) (h.mono ?_)
    rintro e w13 ⟨aB, aE, aF, aG, aH, bR, rfl, hC, hk, h⟩
    refine ⟨_, rfl, .inr ⟨hC, hb.kept hk⟩, ?_⟩
    obtain ⟨hs, hb⟩ := hk.hh hs hb
    refine lgo (k := 9) (by kernel_rfl) (sl_new (O := (.cells #[(vi aB), (vi aE), (vi aF), (vu aG), (vs aH), bR.v] 52)) (fun p => (Sl.mk (some p) 1 1).v) Kp9 (want0 rfl) (by kernel_rfl) (x_buildSlice (vs := #[(0, (.agg #[(vi aB), (vi aE), (vi aF), (vu aG), (vs aH), bR.v]))]) (by kernel_rfl) (by kernel_rfl)) ?_)
    intro p4 w14 hn9
    replace h := h p4 w14 hn9
    refine ⟨.inr ⟨h.1, hb.kept (Ext.new (F := None) hn9).keptP⟩, ?_⟩
    replace h := h.2
    replace hs := hs.again (Ext.new (F := None) hn9).keptP
    replace hb := hb.kept (Ext.new (F := None) hn9).keptP
    refine lgo (k := 10) (by kernel_rfl) ?_
    obtain ⟨s1, w15, hv1, hC, hk, h⟩ := h
    refine sl (v := s1.v) (pickA (S8 (pickS (pickS pickZ)))) (want0 rfl) (by kernel_rfl) (x_builtin (args := #[bL.v, (Sl.mk (some p4) 1 1).v]) (by kernel_rfl) (fun _ => rfl) hv1) (.inr ⟨hC, hb.kept hk⟩) ?_
    clear hC
    obtain ⟨hs, hb⟩ := hk.hh hs hb
    refine qx 11 (vp (some (p3.add 5))) (pickA (S8 (pickS (pickS (pickS pickZ))))) (lgo (k := 12) (by kernel_rfl) (sl_set (pickA (S8 (S4 pickZ))) (want0 rfl) (by kernel_rfl) (x_store (a := (p3.add 5)) (v := s1.v) (by kernel_rfl) (by kernel_rfl) rfl (Try.sizeOf22 _) (hb.canW 0 5 gZ (by kernel_rfl))) ?_))
    intro w16 hn8
    have hsb : Hst w0 Hl1 w15 Hl1 w16 ∧ HB Hl1 w16 [(p3, [(vi bG), (vi bH), (vi bI), (vu bJ), (vs bK), s1.v], 52), (p2, [(vi 0), (vi 0), (vi 0), (vu 0), (vs ⟨#[]⟩), Sl.nil.v], 52), (p1, [(vi aX), (vi aV), (vi aW), (vu aZ), (vs bA), aY.v], 52)] := by
     rw [hn8]
     exact hb.set (i := 0) 5 (v := s1.v) hs gZ (by kernel_rfl)
    clear hs hb hn8
    obtain ⟨hs, hb⟩ := hsb
    refine ⟨.inl (by kernel_rfl), ?_⟩
    refine wpX_nil (by kernel_rfl) (bl_n (th_n (rg (q0 (vi i1) (q0 (vi (IntKind.i64.wrap (i1 + 1))) (q0 (vi (IntKind.i64.wrap (i1 + 1))) (wpL_nil ?_)))))))
    replace h := h w16 hs
    replace hs := hs.here
    refine th_n ?_
    exact ⟨((IntKind.i64.wrap (i1 + 1)), bG, bH, bI, bJ, bK, s1, Hl1, w16), ⟨rfl, Has.mk (by kernel_rfl), hs, hb, h.1⟩, h.2⟩
   ·replace h := h.2 hc3
    refine wpE_exit (th_x (th_x (bl_eq (th_n (wpE_seq (rg (q2 (.agg #[(vi bG), (vi bH), (vi bI), (vu bJ), (vs bK), bL.v]) (x_loadA (a := p3) (vs := [(vi bG), (vi bH), (vi bI), (vu bJ), (vs bK), bL.v]) (by kernel_rfl) (Try.isAgg52 _) (Try.sizeOf52 _) rfl (hb.row0 0 6 gZ (by kernel_rfl))) (st_set (want0 rfl) (x_storeA (a := p2) (vs := [(vi bG), (vi bH), (vi bI), (vu bJ), (vs bK), bL.v]) (by kernel_rfl) (by kernel_rfl) rfl (Try.sizeOf52 _) rfl (hb.canWs0 1 6 (gS gZ) (by kernel_rfl))) ?_))))))))
    intro w17 hn10
    have hsb : Hst w0 Hl1 wl1 Hl1 w17 ∧ HB Hl1 w17 [(p3, [(vi bG), (vi bH), (vi bI), (vu bJ), (vs bK), bL.v], 52), (p2, [(vi bG), (vi bH), (vi bI), (vu bJ), (vs bK), bL.v], 52), (p1, [(vi aX), (vi aV), (vi aW), (vu aZ), (vs bA), aY.v], 52)] := by
     rw [hn10]
     exact hb.store0 (i := 1) (vs := [(vi bG), (vi bH), (vi bI), (vu bJ), (vs bK), bL.v]) hs (gS gZ) (by kernel_rfl) (by kernel_rfl)
    clear hs hb hn10
    obtain ⟨hs, hb⟩ := hsb
    refine wpL_nil (th_n (wpE_ret ?_))
    replace h := h w17 hs
    replace hs := hs.here
    refine resG (.inl rfl) (vs := [(.agg #[(vi bG), (vi bH), (vi bI), (vu bJ), (vs bK), bL.v])]) (v := (.agg #[(vi bG), (vi bH), (vi bI), (vu bJ), (vs bK), bL.v])) Try.results53 ⟨(RV.cellA (by kernel_rfl) (Try.isAgg52 _) (Try.sizeOf52 _) rfl (hb.row0 1 6 (gS gZ) (by kernel_rfl))), trivial⟩ (by kernel_rfl) ?_
    exact ⟨bG, bH, bI, bJ, bK, bL, rfl, h⟩
def m_law10_ViewOnce_l2 (who1 : Int) (r4 : Option Addr) (r11 : Sl) (i1 k1 : Int) (Hl2 : Nat → Prop) (wl2 : World) (Kc1 : Int → (Nat → Prop) → World → Prop) (Kc2 : Int → (Nat → Prop) → World → Prop) (K : Bool → World → Prop) : Prop :=
 Br (decide (k1 < i1))
  (∃ C1 : World → Prop, C1 wl2.drew ∧ ∀ w12, w12 = wl2.drew →
  ∃ a1 : Addr, At r11 i1 1 a1 ∧
  ∃ v1 : Int, w12.cell? a1 = some (vi v1) ∧
  ∃ a2 : Addr, At r11 k1 1 a2 ∧
  ∃ v2 : Int, (∀ w', C1 w' → w'.cell? a2 = some (vi v2)) ∧
  Calls Try.prog 54 #[(vp r4), (vi v1)] w12 (fun e w13 => ∃ aB aE : Int, ∃ aF aG : Int, ∃ aH : ByteArray, ∃ bR : Sl, e = .returned (.agg #[(vi aB), (vi aE), (vi aF), (vu aG), (vs aH), bR.v]) ∧ C1 w13 ∧ 
   Kept Hl2 w12 w13 ∧
   Calls Try.prog 53 #[(vi who1), (.agg #[(vi aB), (vi aE), (vi aF), (vu aG), (vs aH), bR.v])] w13 (fun e w14 => ∃ aO aQ : Int, ∃ aP aR : Int, ∃ aS : ByteArray, ∃ cA : Sl, e = .returned (.agg #[(vi aO), (vi aQ), (vi aP), (vu aR), (vs aS), cA.v]) ∧ C1 w14 ∧ 
    Kept Hl2 w13 w14 ∧
    Calls Try.prog 54 #[(vp r4), (vi v2)] w14 (fun e w15 => ∃ bT bU : Int, ∃ bV bW : Int, ∃ bX : ByteArray, ∃ cK : Sl, e = .returned (.agg #[(vi bT), (vi bU), (vi bV), (vu bW), (vs bX), cK.v]) ∧ C1 w15 ∧ 
     Kept Hl2 w14 w15 ∧
     Calls Try.prog 53 #[(vi who1), (.agg #[(vi bT), (vi bU), (vi bV), (vu bW), (vs bX), cK.v])] w15 (fun e w16 => ∃ cL cM : Int, ∃ cN cO : Int, ∃ cP : ByteArray, ∃ cQ : Sl, e = .returned (.agg #[(vi cL), (vi cM), (vi cN), (vu cO), (vs cP), cQ.v]) ∧ 
      Kept Hl2 w15 w16 ∧
      Calls Try.prog 36 #[(.agg #[(vi aO), (vi aQ), (vi aP), (vu aR), (vs aS), cA.v]), (.agg #[(vi cL), (vi cM), (vi cN), (vu cO), (vs cP), cQ.v])] w16 (fun e w17 => ∃ r12 : Bool, e = .returned (vb r12) ∧ 
       Kept Hl2 w16 w17 ∧
       Br r12
        (Calls Try.prog 42 #[] w17 (fun e w18 => ∃ r13 : Bool, e = .returned (vb r13) ∧ 
         Kept Hl2 w17 w18 ∧
         K r13 w18))
        (Kc2 (IntKind.i64.wrap (k1 + 1)) Hl2 w17)))))))
  (Kc1 (IntKind.i64.wrap (i1 + 1)) Hl2 wl2)
def m_law10_ViewOnce_l1 (t1 who1 : Int) (r3 : Option Addr) (r4 : Option Addr) (r6 : Int) (r11 : Sl) (i1 : Int) (w0 : World) (Hl1 : Nat → Prop) (wl1 : World) (Kc1 : Int → (Nat → Prop) → World → Prop) (K : Bool → World → Prop) : Prop :=
 Br (decide (i1 < (r11.len : Int)))
  (∃ (I2 : Int → (Nat → Prop) → World → Prop) (mu2 : Int → World → Nat), I2 0 Hl1 wl1 ∧
   ∀ (k1 : Int) (Hl2 : Nat → Prop) (wl2 : World), Hst w0 Hl2 wl2 Hl2 wl2 → I2 k1 Hl2 wl2 → m_law10_ViewOnce_l2 who1 r4 r11 i1 k1 Hl2 wl2 Kc1 (fun y'0 H' w' => I2 y'0 H' w' ∧ mu2 y'0 w' < mu2 k1 wl2) K)
  (∀ (p1 : Addr) (w19 : World), New wl1 (.cells #[(vi t1)] 32) p1 w19 →
  ∀ (p2 : Addr) (w20 : World), New w19 (.cells #[(vi r6)] 32) p2 w20 →
  Calls Try.prog 45 #[(vp r3), (vi who1), (Sl.mk (some p1) 1 1).v, (Sl.mk (some p2) 1 1).v] w20 (fun e w21 => ∃ r14 : Bool, e = .returned (vb r14) ∧ 
   Kept Hl1 w20 w21 ∧
   Br r14
    (Calls Try.prog 42 #[] w21 (fun e w22 => ∃ r15 : Bool, e = .returned (vb r15) ∧ 
     Kept Hl1 w21 w22 ∧
     K r15 w22))
    (K false w21)))
def m_law10_ViewOnce (l1 : Sl) (t1 who1 : Int) (w0 : World) (K : Bool → World → Prop) : Prop :=
 Calls Try.prog 51 #[l1.v] w0 (fun e w1 => ∃ r1 : Bool, e = .returned (vb r1) ∧ 
  Kept None w0 w1 ∧
  Br r1
   (Calls Try.prog 42 #[] w1 (fun e w2 => ∃ r2 : Bool, e = .returned (vb r2) ∧ 
    Kept None w1 w2 ∧
    K r2 w2))
   (Calls Try.prog 48 #[l1.v] w1 (fun e w3 => ∃ r3 : Option Addr, ∃ r4 : Option Addr, ∃ r5 : Bool, e = .returned (.tuple #[(vp r3), (vp r4), (vb r5)]) ∧ 
    Kept None w1 w3 ∧
    Br (!r5)
     (K false w3)
     (Calls Try.prog 38 #[(vp r3), (vi who1), (vi t1)] w3 (fun e w4 => ∃ r6 r7 : Int, e = .returned (.tuple #[(vi r6), (vi r7)]) ∧ 
      Kept None w3 w4 ∧
      Br (r7 != 0)
       (∀ (w5 : World), Hst w0 None w4 None w5 →
       Calls Try.prog 42 #[] w5 (fun e w6 => ∃ r8 : Bool, e = .returned (vb r8) ∧ 
        Kept None w5 w6 ∧
        K r8 w6))
       (∀ (w5 : World), Hst w0 None w4 None w5 →
       Calls Try.prog 38 #[(vp r3), (vi who1), (vi r6)] w5 (fun e w7 => ∃ r9 r10 : Int, e = .returned (.tuple #[(vi r9), (vi r10)]) ∧ 
        Kept None w5 w7 ∧
        Br ((r10 != 0) || (r9 != r6))
         (∀ (H1 : Nat → Prop) (w9 : World), Hst w0 None w7 H1 w9 →
         K false w9)
         (∀ (H1 : Nat → Prop) (w9 : World), Hst w0 None w7 H1 w9 →
         Calls Try.prog 52 #[(vp r4), (vi t1)] w9 (fun e w11 => ∃ r11 : Sl, e = .returned r11.v ∧ 
          Kept H1 w9 w11 ∧
          ∃ (I1 : Int → (Nat → Prop) → World → Prop) (mu1 : Int → World → Nat), I1 0 H1 w11 ∧
           ∀ (i1 : Int) (Hl1 : Nat → Prop) (wl1 : World), Hst w0 Hl1 wl1 Hl1 wl1 → I1 i1 Hl1 wl1 → m_law10_ViewOnce_l1 t1 who1 r3 r4 r6 r11 i1 w0 Hl1 wl1 (fun y'0 H' w' => I1 y'0 H' w' ∧ mu1 y'0 w' < mu1 i1 wl1) K)))))))))
theorem w_law10_ViewOnce (l1 : Sl) (t1 who1 : Int) (w0 : World) (K : Bool → World → Prop) (h : m_law10_ViewOnce l1 t1 who1 w0 K) :
  Calls Try.prog 10 #[l1.v, (vi t1), (vi who1)] w0 (fun e w' => ∃ r16 : Bool, e = .returned (vb r16) ∧ K r16 w') := by
 unfold m_law10_ViewOnce at h
 refine calls_of_wpE (args := [l1.v, (vi t1), (vi who1)]) Try.func10 rfl Try.ntmps10 (Nat.le_of_ble_eq_true rfl) ?_
 have hs := Hst.start w0
 have hb := HB.nil None w0
 refine wpE_seq (rg (q0 (vb false) (wpL_nil (th_n (wpE_seq (wpE_seq (rg (q0 l1.v ?_))))))))
 refine st_call (want0 rfl) (xc Try.call51) (h.mono ?_)
 rintro e w1 ⟨r1, rfl, hk, h⟩
 refine ⟨_, rfl, ?_⟩
 obtain ⟨hs, hb⟩ := hk.hh hs hb
 refine wpL_nil (th_n ?_)
 refine wpE_cond (t := r1) (by kernel_rfl) (fun hc1 => ?_) (fun hc1 => ?_)
 ·replace h := h.1 hc1
  refine wpE_seq (rg ?_)
  refine st_call (want0 rfl) (xc Try.call42) (h.mono ?_)
  rintro e w2 ⟨r2, rfl, hk, h⟩
  refine ⟨_, rfl, ?_⟩
  obtain ⟨hs, hb⟩ := hk.hh hs hb
  refine q0 (vb r2) (wpL_nil (th_n (wpE_ret (th_r (res1 (.inl rfl) Try.results10 (v := (vb r2)) (by kernel_rfl) ?_)))))
  exact ⟨r2, rfl, h⟩
 ·replace h := h.2 hc1
  refine wpE_skip (th_n (wpE_seq (rg (q0 l1.v ?_))))
  refine st_call (want0 rfl) (xc Try.call48) (h.mono ?_)
  rintro e w3 ⟨r3, r4, r5, rfl, hk, h⟩
  refine ⟨_, rfl, ?_⟩
  obtain ⟨hs, hb⟩ := hk.hh hs hb
  refine q0 (.tuple #[(vp r3), (vp r4), (vb r5)]) (q0 (vp r3) (q0 (vp r4) (q0 (vb r5) (q0 (vp r3) (q0 (vp r4) (q0 (vb r5) (wpL_nil (th_n (wpE_seq (wpE_seq (rg ?_)))))))))))
  refine q0 (vb r5) (q0 (vb (!r5)) (wpL_nil (th_n ?_)))
  refine wpE_cond (t := (!r5)) (by kernel_rfl) (fun hc2 => ?_) (fun hc2 => ?_)
  ·replace h := h.1 hc2
   refine wpE_seq (rg (q0 (vb false) (wpL_nil (th_n (wpE_ret (th_r (res1 (.inl rfl) Try.results10 (v := (vb false)) (by kernel_rfl) ?_)))))))
   exact ⟨false, rfl, h⟩
  ·replace h := h.2 hc2
   refine wpE_skip (th_n (wpE_seq (rg (q0 (vp r3) (q0 (vi who1) (q0 (vi t1) ?_))))))
   refine st_call (want0 rfl) (xc Try.call38) (h.mono ?_)
   rintro e w4 ⟨r6, r7, rfl, hk, h⟩
   refine ⟨_, rfl, ?_⟩
   obtain ⟨hs, hb⟩ := hk.hh hs hb
   refine q0 (.tuple #[(vi r6), (vi r7)]) (q0 (vi r6) (q0 (vi r7) (q0 (vi r6) (q0 (vi r7) (wpL_nil (th_n (wpE_seq (wpE_seq (rg (q0 (vi r7) ?_))))))))))
   refine st_call (want0 rfl) (xc Try.call43) ((p_law10_num r7 w4).mono ?_)
   rintro e w5 ⟨he, hE⟩
   refine ⟨(vi r7), he.trans (by kernel_rfl), ?_⟩
   replace hs := hs.pure hE
   replace hb := hb.pure hE
   clear hE he
   refine q0 (vb (r7 != 0)) (wpL_nil (th_n ?_))
   refine wpE_cond (t := (r7 != 0)) (by kernel_rfl) (fun hc3 => ?_) (fun hc3 => ?_)
   ·replace h := h.1 hc3
    refine wpE_seq (rg ?_)
    replace h := h w5 hs
    replace hs := hs.here
    refine st_call (want0 rfl) (xc Try.call42) (h.mono ?_)
    rintro e w6 ⟨r8, rfl, hk, h⟩
    refine ⟨_, rfl, ?_⟩
    obtain ⟨hs, hb⟩ := hk.hh hs hb
    refine q0 (vb r8) (wpL_nil (th_n (wpE_ret (th_r (res1 (.inl rfl) Try.results10 (v := (vb r8)) (by kernel_rfl) ?_)))))
    exact ⟨r8, rfl, h⟩
   ·replace h := h.2 hc3
    refine wpE_skip (th_n (wpE_seq (rg (q0 (vp r3) (q0 (vi who1) (q0 (vi r6) ?_))))))
    replace h := h w5 hs
    replace hs := hs.here
    refine st_call (want0 rfl) (xc Try.call38) (h.mono ?_)
    rintro e w7 ⟨r9, r10, rfl, hk, h⟩
    refine ⟨_, rfl, ?_⟩
    obtain ⟨hs, hb⟩ := hk.hh hs hb
    refine q0 (.tuple #[(vi r9), (vi r10)]) (q0 (vi r9) (q0 (vi r10) (q0 (vi r9) (q0 (vi r10) (wpL_nil (th_n (wpE_seq (wpE_seq ?_))))))))
    refine wpE_via (fun ρ wJ => ∃ b1'0 : Bool, ∃ HJ : Nat → Prop, ((r10 != 0) = b1'0) ∧ Hst w0 None w7 HJ wJ ∧ HB HJ wJ [] ∧ Has ρ [(1, (vi t1)), (2, (vi who1)), (7, (vp r3)), (8, (vp r4)), (10, (vi r6)), (53, (vb (b1'0 || (r9 != r6))))]) ?_ ?_
    ·skip
     refine rg (q0 (vi r10) ?_)
     refine st_call (want0 rfl) (xc Try.call43) ((p_law10_num r10 w7).mono ?_)
     rintro e w10 ⟨he, hE⟩
     refine ⟨(vi r10), he.trans (by kernel_rfl), ?_⟩
     replace hs := hs.pure hE
     replace hb := hb.pure hE
     clear hE he
     refine q0 (vb (r10 != 0)) (q0 (vb (r10 != 0)) ?_)
     rcases Bool.eq_false_or_eq_true (r10 != 0) with hg2 | hg2
     ·skip
      refine sk (yD 49 hg2) (sk (yD 49 hg2) (sk (yD 49 hg2) (q2 (vb true) (xT hg2) (wpL_nil (th_n ?_)))))
      exact ⟨true, _, hg2, hs, hb, Has.mk (by kernel_rfl)⟩
     ·skip
      refine q1 (vi r9) (want1 rfl (yD 49 hg2)) (q1 (vi r6) (want1 rfl (yD 49 hg2)) (q1 (vb (r9 != r6)) (want1 rfl (yD 49 hg2)) (q2 (vb (r9 != r6)) (xF hg2) (wpL_nil (th_n ?_)))))
      exact ⟨false, _, hg2, hs, hb, Has.mk (by kernel_rfl)⟩
    ·clear hs hb
     rintro ρ w9 ⟨b1'0, H1, he0, hs, hb, hH⟩
     subst he0
     refine norm_has hH ?_
     clear hH
     refine th_n ?_
     refine wpE_cond (t := ((r10 != 0) || (r9 != r6))) (by kernel_rfl) (fun hc4 => ?_) (fun hc4 => ?_)
     ·replace h := h.1 hc4
      refine wpE_seq (rg (q0 (vb false) (wpL_nil (th_n (wpE_ret (th_r ?_))))))
      replace h := h H1 w9 hs
      replace hs := hs.here
      refine res1 (.inl rfl) Try.results10 (v := (vb false)) (by kernel_rfl) ?_
      exact ⟨false, rfl, h⟩
     ·replace h := h.2 hc4
      refine wpE_skip (th_n (wpE_seq (rg (q0 (vp r4) (q0 (vi t1) ?_)))))
      replace h := h H1 w9 hs
      replace hs := hs.here
      refine st_call (want0 rfl) (xc Try.call52) (h.mono ?_)
      rintro e w11 ⟨r11, rfl, hk, h⟩
      refine ⟨_, rfl, ?_⟩
      obtain ⟨hs, hb⟩ := hk.hh hs hb
      refine q0 r11.v (wpL_nil (th_n (wpE_seq (wpE_seq (rg (q0 (vi 0) (wpL_nil (th_n (wpE_block ?_)))))))))
      obtain ⟨I1, mu1, h0, hr⟩ := h
      refine wpE_loop (σ := Int × (Nat → Prop) × World) (fun s ρ w => w = s.2.2 ∧ Has ρ [(1, (vi t1)), (2, (vi who1)), (7, (vp r3)), (8, (vp r4)), (10, (vi r6)), (14, r11.v), (15, (vi s.1))] ∧ Hst w0 s.2.1 w s.2.1 w ∧ HB s.2.1 w [] ∧ I1 s.1 s.2.1 s.2.2) (fun s => mu1 s.1 s.2.2) (0, H1, w11) ⟨rfl, Has.mk (by kernel_rfl), hs, hb, h0⟩ ?_
      clear hs hb
      rintro ⟨i1, Hl1, wl1⟩ ρ w ⟨hw, hH, hs, hb, hI⟩
      obtain rfl : wl1 = w := (show w = wl1 from hw).symm
      replace hH : Has ρ [(1, (vi t1)), (2, (vi who1)), (7, (vp r3)), (8, (vp r4)), (10, (vi r6)), (14, r11.v), (15, (vi i1))] := hH
      replace hs : Hst w0 Hl1 wl1 Hl1 wl1 := hs
      replace hb : HB Hl1 wl1 [] := hb
      have h := hr i1 Hl1 wl1 hs hI
      clear hr h0
      unfold m_law10_ViewOnce_l1 at h
      refine wpE_has hH ?_
      clear hH hI
      refine wpE_seq (wpE_seq (rg (q0 (vi i1) (q0 r11.v (q0 (vi (r11.len : Int)) (q0 (vb (decide (i1 < (r11.len : Int)))) (wpL_nil (th_n ?_))))))))
      refine wpE_cond (t := (decide (i1 < (r11.len : Int)))) (by kernel_rfl) (fun hc5 => ?_) (fun hc5 => ?_)
      ·replace h := h.1 hc5
       refine wpE_skip (th_n (wpE_seq (wpE_block (wpE_seq (rg (q0 (vi 0) (wpL_nil (th_n (wpE_block ?_)))))))))
       obtain ⟨I2, mu2, h0, hr⟩ := h
       refine wpE_loop (σ := Int × (Nat → Prop) × World) (fun s ρ w => w = s.2.2 ∧ Has ρ [(1, (vi t1)), (2, (vi who1)), (7, (vp r3)), (8, (vp r4)), (10, (vi r6)), (14, r11.v), (15, (vi i1)), (16, (vi s.1))] ∧ Hst w0 s.2.1 w s.2.1 w ∧ HB s.2.1 w [] ∧ I2 s.1 s.2.1 s.2.2) (fun s => mu2 s.1 s.2.2) (0, Hl1, wl1) ⟨rfl, Has.mk (by kernel_rfl), hs, hb, h0⟩ ?_
       clear hs hb
       rintro ⟨k1, Hl2, wl2⟩ ρ w ⟨hw, hH, hs, hb, hI⟩
       obtain rfl : wl2 = w := (show w = wl2 from hw).symm
       replace hH : Has ρ [(1, (vi t1)), (2, (vi who1)), (7, (vp r3)), (8, (vp r4)), (10, (vi r6)), (14, r11.v), (15, (vi i1)), (16, (vi k1))] := hH
       replace hs : Hst w0 Hl2 wl2 Hl2 wl2 := hs
       replace hb : HB Hl2 wl2 [] := hb
       have h := hr k1 Hl2 wl2 hs hI
       clear hr h0
       unfold m_law10_ViewOnce_l2 at h
       refine wpE_has hH ?_
       clear hH hI
       refine wpE_seq (wpE_seq (rg (q0 (vi k1) (q0 (vi i1) (q0 (vb (decide (k1 < i1))) (wpL_nil (th_n ?_)))))))
       refine wpE_cond (t := (decide (k1 < i1))) (by kernel_rfl) (fun hc6 => ?_) (fun hc6 => ?_)
       ·replace h := h.1 hc6
        refine wpE_skip (th_n (wpE_seq (wpE_block (wpE_seq ?_))))
        obtain ⟨C1, hC, h⟩ := h
        refine wpE_drawnC C1 [6, 7, 14, 15, 16] [15, 16] (by kernel_rfl) (by kernel_rfl) (by kernel_rfl) (by kernel_rfl) hC ?_
        clear hC
        intro w12 hw12
        replace h := h w12 hw12
        replace hs : Hst w0 Hl2 wl2 Hl2 w12 := by rw [hw12]; exact hs.drew
        replace hb : HB Hl2 w12 [] := by rw [hw12]; exact hb.drew
        replace hs := hs.here
        refine qx 0 (vi who1) Kp0 (qx 1 (vp r4) Kp1 (qx 2 r11.v Kp2 (qx 3 (vi i1) Kp3 (qgo (k := 4) (by kernel_rfl) ?_))))
        obtain ⟨a1, hv4, h⟩ := h
        refine sx (v := (vp (some a1))) Kp4 (want0 rfl) (by kernel_rfl) (fun w' hw' => (x_indexAddr (s := r11) (k := .i64) (i := i1) (by kernel_rfl) (by kernel_rfl) (Try.runUnderlying39 _) (Try.sizeOf32 _) hv4)) (qgo (k := 5) (by kernel_rfl) ?_)
        obtain ⟨v1, hv3, h⟩ := h
        refine sxe (v := (vi v1)) Kp5 (want0 rfl) (by kernel_rfl) (by kernel_rfl) (xl (Try.isAgg32 _) hv3) (qx 8 (vi who1) Kp8 (qx 9 (vp r4) Kp9 (qx 10 r11.v (pickA (S8 (pickS (pickS pickZ)))) (qx 11 (vi k1) (pickA (S8 (pickS (pickS (pickS pickZ))))) (qgo (k := 12) (by kernel_rfl) ?_)))))
        obtain ⟨a2, hv2, h⟩ := h
        refine sx (v := (vp (some a2))) (pickA (S8 (S4 pickZ))) (want0 rfl) (by kernel_rfl) (fun w' hw' => (x_indexAddr (s := r11) (k := .i64) (i := k1) (by kernel_rfl) (by kernel_rfl) (Try.runUnderlying39 _) (Try.sizeOf32 _) hv2)) (qgo (k := 13) (by kernel_rfl) ?_)
        obtain ⟨v2, hv1, h⟩ := h
        refine sx (v := (vi v2)) (pickA (S8 (S4 (pickS pickZ)))) (want0 rfl) (by kernel_rfl) (fun w' hw' => (xl (Try.isAgg32 _) (hv1 w' hw'))) (lgo (k := 6) (by kernel_rfl) ?_)
        refine sl_call Kp6 (want0 rfl) (by kernel_rfl) (xc Try.call54) (h.mono ?_)
        rintro e w13 ⟨aB, aE, aF, aG, aH, bR, rfl, hC, hk, h⟩
        refine ⟨_, rfl, .inr hC, ?_⟩
        obtain ⟨hs, hb⟩ := hk.hh hs hb
        refine lgo (k := 7) (by kernel_rfl) ?_
        refine sl_call Kp7 (want0 rfl) (by kernel_rfl) (xc Try.call53) (h.mono ?_)
        rintro e w14 ⟨aO, aQ, aP, aR, aS, cA, rfl, hC, hk, h⟩
        refine ⟨_, rfl, .inr hC, ?_⟩
        obtain ⟨hs, hb⟩ := hk.hh hs hb
        refine lgo (k := 14) (by kernel_rfl) ?_
        refine sl_call (pickA (S8 (S4 (pickS (pickS pickZ))))) (want0 rfl) (by kernel_rfl) (xc Try.call54) (h.mono ?_)
        rintro e w15 ⟨bT, bU, bV, bW, bX, cK, rfl, hC, hk, h⟩
        refine ⟨_, rfl, .inr hC, ?_⟩
        obtain ⟨hs, hb⟩ := hk.hh hs hb
        refine lgo (k := 15) (by kernel_rfl) ?_
        refine sl_call (pickA (S8 (S4 (pickS (pickS (pickS pickZ)))))) (want0 rfl) (by kernel_rfl) (xc Try.call53) (h.mono ?_)
        rintro e w16 ⟨cL, cM, cN, cO, cP, cQ, rfl, hk, h⟩
        refine ⟨_, rfl, .inl (by kernel_rfl), ?_⟩
        obtain ⟨hs, hb⟩ := hk.hh hs hb
        refine lgo (k := 16) (by kernel_rfl) ?_
        refine sl_call (pickA (S8 (S8 pickZ))) (want0 rfl) (by kernel_rfl) (xc Try.call36) (h.mono ?_)
        rintro e w17 ⟨r12, rfl, hk, h⟩
        refine ⟨_, rfl, .inl (by kernel_rfl), ?_⟩
        obtain ⟨hs, hb⟩ := hk.hh hs hb
        refine wpX_nil (by kernel_rfl) (th_n ?_)
        refine wpE_cond (t := r12) (by kernel_rfl) (fun hc7 => ?_) (fun hc7 => ?_)
        ·replace h := h.1 hc7
         refine wpE_seq (rg ?_)
         refine st_call (want0 rfl) (xc Try.call42) (h.mono ?_)
         rintro e w18 ⟨r13, rfl, hk, h⟩
         refine ⟨_, rfl, ?_⟩
         obtain ⟨hs, hb⟩ := hk.hh hs hb
         refine q0 (vb r13) (wpL_nil (th_n (wpE_ret (bl_r (th_r (th_r (bl_r (bl_r (th_r (th_r (bl_r ?_)))))))))))
         refine th_r (res1 (.inl rfl) Try.results10 (v := (vb r13)) (by kernel_rfl) ?_)
         exact ⟨r13, rfl, h⟩
        ·replace h := h.2 hc7
         refine wpE_skip (bl_n (th_n (rg (q0 (vi k1) (q0 (vi (IntKind.i64.wrap (k1 + 1))) (q0 (vi (IntKind.i64.wrap (k1 + 1))) (wpL_nil (th_n ?_))))))))
         exact ⟨((IntKind.i64.wrap (k1 + 1)), Hl2, w17), ⟨rfl, Has.mk (by kernel_rfl), hs, hb, h.1⟩, h.2⟩
       ·replace h := h.2 hc6
        refine wpE_exit (th_x (th_x (bl_eq (bl_n (th_n (rg (q0 (vi i1) (q0 (vi (IntKind.i64.wrap (i1 + 1))) (q0 (vi (IntKind.i64.wrap (i1 + 1))) (wpL_nil (th_n ?_)))))))))))
        exact ⟨((IntKind.i64.wrap (i1 + 1)), Hl2, wl2), ⟨rfl, Has.mk (by kernel_rfl), hs, hb, h.1⟩, h.2⟩
      ·replace h := h.2 hc5
       refine wpE_exit (th_x (th_x (bl_eq (th_n (wpE_seq (rg (q0 (vp r3) (q0 (vi who1) (q0 (vi t1) (st_new (O := (.cells #[(vi t1)] 32)) (fun p => (Sl.mk (some p) 1 1).v) (want0 rfl) (x_buildSlice (vs := #[(0, (vi t1))]) (by kernel_rfl) (by kernel_rfl)) ?_))))))))))
       intro p1 w19 hn2
       replace h := h p1 w19 hn2
       replace hs := hs.again (Ext.new (F := None) hn2).keptP
       replace hb := hb.kept (Ext.new (F := None) hn2).keptP
       refine q0 (vi r6) (st_new (O := (.cells #[(vi r6)] 32)) (fun p => (Sl.mk (some p) 1 1).v) (want0 rfl) (x_buildSlice (vs := #[(0, (vi r6))]) (by kernel_rfl) (by kernel_rfl)) ?_)
       intro p2 w20 hn1
       replace h := h p2 w20 hn1
       replace hs := hs.again (Ext.new (F := None) hn1).keptP
       replace hb := hb.kept (Ext.new (F := None) hn1).keptP
       refine st_call (want0 rfl) (xc Try.call45) (h.mono ?_)
       rintro e w21 ⟨r14, rfl, hk, h⟩
       refine ⟨_, rfl, ?_⟩
       obtain ⟨hs, hb⟩ := hk.hh hs hb
       refine q0 (vb r14) ?_
       rcases Bool.eq_false_or_eq_true r14 with hg3 | hg3
       ·replace h := h.1 hg3
        refine st_call (want1 rfl (yD 93 hg3)) (xc Try.call42) (h.mono ?_)
        rintro e w22 ⟨r15, rfl, hk, h⟩
        refine ⟨_, rfl, ?_⟩
        obtain ⟨hs, hb⟩ := hk.hh hs hb
        refine q2 (vb r15) (xT hg3) (q0 (vb r15) (wpL_nil (th_n (wpE_ret (res1 (.inl rfl) Try.results10 (v := (vb r15)) (by kernel_rfl) ?_)))))
        exact ⟨r15, rfl, h⟩
       ·replace h := h.2 hg3
        refine sk (yD 93 hg3) (q2 (vb false) (xF hg3) (q0 (vb false) (wpL_nil (th_n (wpE_ret (res1 (.inl rfl) Try.results10 (v := (vb false)) (by kernel_rfl) ?_))))))
        exact ⟨false, rfl, h⟩
def m_view_View_1 (aA aD : Int) (aC aI : Int) (aJ : ByteArray) (aK aL : Int) (cap1 : Addr) (w0 : World) (K : Int → Int → Int → Int → ByteArray → Int → Int → World → Prop) : Prop :=
 Br ((aA == 8) || (aA == 9))
  (∀ (H2 : Nat → Prop) (w3 : World), Hst w0 None w0 H2 w3 →
  ∃ v1 : Int, w3.cell? cap1 = some (vi v1) ∧
  ∀ (H3 : Nat → Prop) (w8 : World), Hst w0 H2 w3 H3 w8 →
  K (cond (!(s_view_knows v1 aA aD aC aI aJ aK aL)) 8 aA) aD aC aI aJ aK aL w8)
  (∀ (H2 : Nat → Prop) (w9 : World), Hst w0 None w0 H2 w9 →
  K aA aD aC aI aJ aK aL w9)
theorem w_view_View_1 (aA aD : Int) (aC aI : Int) (aJ : ByteArray) (aK aL : Int) (cap1 : Addr) (w0 : World) (K : Int → Int → Int → Int → ByteArray → Int → Int → World → Prop) (h : m_view_View_1 aA aD aC aI aJ aK aL cap1 w0 K) :
  Calls Try.prog 93 #[(.agg #[(vi aA), (vi aD), (vi aC), (vu aI), (vs aJ), (vi aK), (vi aL)]), (vp (some cap1))] w0 (fun e w' => ∃ aB aE : Int, ∃ aF aG : Int, ∃ aH : ByteArray, ∃ aN aM : Int, e = .returned (.agg #[(vi aB), (vi aE), (vi aF), (vu aG), (vs aH), (vi aN), (vi aM)]) ∧ K aB aE aF aG aH aN aM w') := by
 unfold m_view_View_1 at h
 refine calls_of_wpE (args := [(.agg #[(vi aA), (vi aD), (vi aC), (vu aI), (vs aJ), (vi aK), (vi aL)]), (vp (some cap1))]) Try.func93 rfl Try.ntmps93 (Nat.le_of_ble_eq_true rfl) ?_
 have hs := Hst.start w0
 have hb := HB.nil None w0
 refine wpE_seq (rg (sn (O := (.cells #[(vi aA), (vi aD), (vi aC), (vu aI), (vs aJ), (vi aK), (vi aL)] 106)) xb ?_))
 intro p1 w1 hn1
 obtain ⟨H1, hs, hb⟩ := hs.alloc hb hn1
 refine sn (O := (.cells #[(vi 0), (vi 0), (vi 0), (vu 0), (vs ⟨#[]⟩), (vi 0), (vi 0)] 106)) (x_alloc (Try.zeroValue106 _) rfl) ?_
 intro p2 w2 hn2
 obtain ⟨H2, hs, hb⟩ := hs.alloc hb hn2
 refine wpL_nil (th_n (wpE_seq (wpE_seq (rg (q2 (.agg #[(vi aA), (vi aD), (vi aC), (vu aI), (vs aJ), (vi aK), (vi aL)]) (x_loadA (a := p1) (vs := [(vi aA), (vi aD), (vi aC), (vu aI), (vs aJ), (vi aK), (vi aL)]) (by kernel_rfl) (Try.isAgg106 _) (Try.sizeOf106 _) rfl (hb.row0 1 7 (gS gZ) (by kernel_rfl))) ?_)))))
 refine st_call (want0 rfl) (xc Try.call94) ((p_view_vows aA aD aC aI aJ aK aL w2).mono ?_)
 rintro e w3 ⟨he, hE⟩
 refine ⟨(vb ((aA == 8) || (aA == 9))), he.trans (by kernel_rfl), ?_⟩
 replace hs := hs.pure hE
 replace hb := hb.pure hE
 clear hE he
 refine q0 (vb ((aA == 8) || (aA == 9))) ?_
 rcases Bool.eq_false_or_eq_true ((aA == 8) || (aA == 9)) with hg1 | hg1
 ·replace h := h.1 hg1
  replace h := h H2 w3 hs
  replace hs := hs.here
  obtain ⟨v1, hv1, h⟩ := h
  refine stp (v := (vi v1)) (want1 rfl (yD 6 hg1)) (xl (Try.isAgg3 _) hv1) (stp (v := (.agg #[(vi aA), (vi aD), (vi aC), (vu aI), (vs aJ), (vi aK), (vi aL)])) (want1 rfl (yD 6 hg1)) (x_loadA (a := p1) (vs := [(vi aA), (vi aD), (vi aC), (vu aI), (vs aJ), (vi aK), (vi aL)]) (by kernel_rfl) (Try.isAgg106 _) (Try.sizeOf106 _) rfl (hb.row0 1 7 (gS gZ) (by kernel_rfl))) ?_)
  refine st_call (want1 rfl (yD 6 hg1)) (xc Try.call95) ((p_view_knows v1 aA aD aC aI aJ aK aL w3).mono ?_)
  rintro e w4 ⟨he, hE⟩
  refine ⟨(vb (s_view_knows v1 aA aD aC aI aJ aK aL)), he.trans (by kernel_rfl), ?_⟩
  replace hs := hs.pure hE
  replace hb := hb.pure hE
  clear hE he
  refine q1 (vb (!(s_view_knows v1 aA aD aC aI aJ aK aL))) (want1 rfl (yD 6 hg1)) (q2 (vb (!(s_view_knows v1 aA aD aC aI aJ aK aL))) (xT hg1) (wpL_nil (th_n ?_)))
  refine wpE_via (fun ρ wJ => ∃ b1'0 : Bool, ∃ HJ : Nat → Prop, ((!(s_view_knows v1 aA aD aC aI aJ aK aL)) = b1'0) ∧ Hst w0 H2 w3 HJ wJ ∧ HB HJ wJ [(p2, [(vi 0), (vi 0), (vi 0), (vu 0), (vs ⟨#[]⟩), (vi 0), (vi 0)], 106), (p1, [(vi (cond b1'0 8 aA)), (vi aD), (vi aC), (vu aI), (vs aJ), (vi aK), (vi aL)], 106)] ∧ Has ρ [(2, (vp (some p1))), (3, (vp (some p2)))]) ?_ ?_
  ·skip
   refine wpE_cond (t := (!(s_view_knows v1 aA aD aC aI aJ aK aL))) (by kernel_rfl) (fun hc2 => ?_) (fun hc2 => ?_)
   ·skip
    refine rg (q0 (vp (some p1)) (st_set (want0 rfl) (x_store (a := p1) (v := (vi 8)) (by kernel_rfl) (by kernel_rfl) rfl (Try.sizeOf3 _) (hb.canW0 1 (gS gZ) (by kernel_rfl))) ?_))
    intro w7 hn4
    have hsb : Hst w0 H2 w3 H2 w7 ∧ HB H2 w7 [(p2, [(vi 0), (vi 0), (vi 0), (vu 0), (vs ⟨#[]⟩), (vi 0), (vi 0)], 106), (p1, [(vi 8), (vi aD), (vi aC), (vu aI), (vs aJ), (vi aK), (vi aL)], 106)] := by
     rw [hn4]
     exact hb.set0 (i := 1) (v := (vi 8)) hs (gS gZ) (by kernel_rfl)
    clear hs hb hn4
    obtain ⟨hs, hb⟩ := hsb
    refine wpL_nil (th_n ?_)
    exact ⟨true, _, hc2, hs, hb, Has.mk (by kernel_rfl)⟩
   ·skip
    refine wpE_skip (th_n ?_)
    exact ⟨false, _, hc2, hs, hb, Has.mk (by kernel_rfl)⟩
  ·clear hs hb
   rintro ρ w6 ⟨b1'0, H3, he0, hs, hb, hH⟩
   subst he0
   refine norm_has hH ?_
   clear hH
   refine th_n (wpE_seq (rg (q2 (.agg #[(vi (cond (!(s_view_knows v1 aA aD aC aI aJ aK aL)) 8 aA)), (vi aD), (vi aC), (vu aI), (vs aJ), (vi aK), (vi aL)]) (x_loadA (a := p1) (vs := [(vi (cond (!(s_view_knows v1 aA aD aC aI aJ aK aL)) 8 aA)), (vi aD), (vi aC), (vu aI), (vs aJ), (vi aK), (vi aL)]) (by kernel_rfl) (Try.isAgg106 _) (Try.sizeOf106 _) rfl (hb.row0 1 7 (gS gZ) (by kernel_rfl))) (st_set (want0 rfl) (x_storeA (a := p2) (vs := [(vi (cond (!(s_view_knows v1 aA aD aC aI aJ aK aL)) 8 aA)), (vi aD), (vi aC), (vu aI), (vs aJ), (vi aK), (vi aL)]) (by kernel_rfl) (by kernel_rfl) rfl (Try.sizeOf106 _) rfl (hb.canWs0 0 7 gZ (by kernel_rfl))) ?_))))
   intro w8 hn5
   have hsb : Hst w0 H2 w3 H3 w8 ∧ HB H3 w8 [(p2, [(vi (cond (!(s_view_knows v1 aA aD aC aI aJ aK aL)) 8 aA)), (vi aD), (vi aC), (vu aI), (vs aJ), (vi aK), (vi aL)], 106), (p1, [(vi (cond (!(s_view_knows v1 aA aD aC aI aJ aK aL)) 8 aA)), (vi aD), (vi aC), (vu aI), (vs aJ), (vi aK), (vi aL)], 106)] := by
    rw [hn5]
    exact hb.store0 (i := 0) (vs := [(vi (cond (!(s_view_knows v1 aA aD aC aI aJ aK aL)) 8 aA)), (vi aD), (vi aC), (vu aI), (vs aJ), (vi aK), (vi aL)]) hs gZ (by kernel_rfl) (by kernel_rfl)
   clear hs hb hn5
   obtain ⟨hs, hb⟩ := hsb
   refine wpL_nil (th_n (wpE_ret ?_))
   replace h := h H3 w8 hs
   replace hs := hs.here
   refine resG (.inl rfl) (vs := [(.agg #[(vi (cond (!(s_view_knows v1 aA aD aC aI aJ aK aL)) 8 aA)), (vi aD), (vi aC), (vu aI), (vs aJ), (vi aK), (vi aL)])]) (v := (.agg #[(vi (cond (!(s_view_knows v1 aA aD aC aI aJ aK aL)) 8 aA)), (vi aD), (vi aC), (vu aI), (vs aJ), (vi aK), (vi aL)])) Try.results93 ⟨(RV.cellA (by kernel_rfl) (Try.isAgg106 _) (Try.sizeOf106 _) rfl (hb.row0 0 7 gZ (by kernel_rfl))), trivial⟩ (by kernel_rfl) ?_
   exact ⟨(cond (!(s_view_knows v1 aA aD aC aI aJ aK aL)) 8 aA), aD, aC, aI, aJ, aK, aL, rfl, h⟩
 ·replace h := h.2 hg1
  refine sk (yD 6 hg1) (sk (yD 6 hg1) (sk (yD 6 hg1) (sk (yD 6 hg1) (q2 (vb false) (xF hg1) (wpL_nil (th_n (wpE_condF (by kernel_rfl) (wpE_skip (th_n (wpE_seq (rg ?_)))))))))))
  refine q2 (.agg #[(vi aA), (vi aD), (vi aC), (vu aI), (vs aJ), (vi aK), (vi aL)]) (x_loadA (a := p1) (vs := [(vi aA), (vi aD), (vi aC), (vu aI), (vs aJ), (vi aK), (vi aL)]) (by kernel_rfl) (Try.isAgg106 _) (Try.sizeOf106 _) rfl (hb.row0 1 7 (gS gZ) (by kernel_rfl))) (st_set (want0 rfl) (x_storeA (a := p2) (vs := [(vi aA), (vi aD), (vi aC), (vu aI), (vs aJ), (vi aK), (vi aL)]) (by kernel_rfl) (by kernel_rfl) rfl (Try.sizeOf106 _) rfl (hb.canWs0 0 7 gZ (by kernel_rfl))) ?_)
  intro w9 hn6
  have hsb : Hst w0 None w0 H2 w9 ∧ HB H2 w9 [(p2, [(vi aA), (vi aD), (vi aC), (vu aI), (vs aJ), (vi aK), (vi aL)], 106), (p1, [(vi aA), (vi aD), (vi aC), (vu aI), (vs aJ), (vi aK), (vi aL)], 106)] := by
   rw [hn6]
   exact hb.store0 (i := 0) (vs := [(vi aA), (vi aD), (vi aC), (vu aI), (vs aJ), (vi aK), (vi aL)]) hs gZ (by kernel_rfl) (by kernel_rfl)
  clear hs hb hn6
  obtain ⟨hs, hb⟩ := hsb
  refine wpL_nil (th_n (wpE_ret ?_))
  replace h := h H2 w9 hs
  replace hs := hs.here
  refine resG (.inl rfl) (vs := [(.agg #[(vi aA), (vi aD), (vi aC), (vu aI), (vs aJ), (vi aK), (vi aL)])]) (v := (.agg #[(vi aA), (vi aD), (vi aC), (vu aI), (vs aJ), (vi aK), (vi aL)])) Try.results93 ⟨(RV.cellA (by kernel_rfl) (Try.isAgg106 _) (Try.sizeOf106 _) rfl (hb.row0 0 7 gZ (by kernel_rfl))), trivial⟩ (by kernel_rfl) ?_
  exact ⟨aA, aD, aC, aI, aJ, aK, aL, rfl, h⟩
def m_view_Swap_1 (aA aD : Int) (aC aI : Int) (aJ : ByteArray) (aK aL : Int) (cap1 : Addr) (w0 : World) (K : Int → Int → Int → Int → ByteArray → Int → Int → World → Prop) : Prop :=
 Br (aA == 8)
  (∀ (H2 : Nat → Prop) (w2 : World), Hst w0 None w0 H2 w2 →
  ∃ v1 : Int, w2.cell? cap1 = some (vi v1) ∧
  ∀ (H3 : Nat → Prop) (w6 : World), Hst w0 H2 w2 H3 w6 →
  K (cond (aC == v1) 9 aA) aD aC aI aJ aK aL w6)
  (∀ (H2 : Nat → Prop) (w7 : World), Hst w0 None w0 H2 w7 →
  K aA aD aC aI aJ aK aL w7)
theorem w_view_Swap_1 (aA aD : Int) (aC aI : Int) (aJ : ByteArray) (aK aL : Int) (cap1 : Addr) (w0 : World) (K : Int → Int → Int → Int → ByteArray → Int → Int → World → Prop) (h : m_view_Swap_1 aA aD aC aI aJ aK aL cap1 w0 K) :
  Calls Try.prog 98 #[(.agg #[(vi aA), (vi aD), (vi aC), (vu aI), (vs aJ), (vi aK), (vi aL)]), (vp (some cap1))] w0 (fun e w' => ∃ aB aE : Int, ∃ aF aG : Int, ∃ aH : ByteArray, ∃ aN aM : Int, e = .returned (.agg #[(vi aB), (vi aE), (vi aF), (vu aG), (vs aH), (vi aN), (vi aM)]) ∧ K aB aE aF aG aH aN aM w') := by
 unfold m_view_Swap_1 at h
 refine calls_of_wpE (args := [(.agg #[(vi aA), (vi aD), (vi aC), (vu aI), (vs aJ), (vi aK), (vi aL)]), (vp (some cap1))]) Try.func98 rfl Try.ntmps98 (Nat.le_of_ble_eq_true rfl) ?_
 have hs := Hst.start w0
 have hb := HB.nil None w0
 refine wpE_seq (rg (sn (O := (.cells #[(vi aA), (vi aD), (vi aC), (vu aI), (vs aJ), (vi aK), (vi aL)] 106)) xb ?_))
 intro p1 w1 hn1
 obtain ⟨H1, hs, hb⟩ := hs.alloc hb hn1
 refine sn (O := (.cells #[(vi 0), (vi 0), (vi 0), (vu 0), (vs ⟨#[]⟩), (vi 0), (vi 0)] 106)) (x_alloc (Try.zeroValue106 _) rfl) ?_
 intro p2 w2 hn2
 obtain ⟨H2, hs, hb⟩ := hs.alloc hb hn2
 refine wpL_nil (th_n (wpE_seq (wpE_seq (rg (q0 (vp (some p1)) (q2 (vi aA) (xl (Try.isAgg3 _) (hb.c0 1 (gS gZ))) (q0 (vb (aA == 8)) (q0 (vb (aA == 8)) ?_))))))))
 rcases Bool.eq_false_or_eq_true (aA == 8) with hg1 | hg1
 ·replace h := h.1 hg1
  refine q1 (vp (some (p1.add 2))) (want1 rfl (yD 7 hg1)) (stp (v := (vi aC)) (want1 rfl (yD 7 hg1)) (xl (Try.isAgg3 _) (hb.c 1 2 (gS gZ))) ?_)
  replace h := h H2 w2 hs
  replace hs := hs.here
  obtain ⟨v1, hv1, h⟩ := h
  refine stp (v := (vi v1)) (want1 rfl (yD 7 hg1)) (xl (Try.isAgg3 _) hv1) (q1 (vb (aC == v1)) (want1 rfl (yD 7 hg1)) (q2 (vb (aC == v1)) (xT hg1) (wpL_nil (th_n ?_))))
  refine wpE_via (fun ρ wJ => ∃ b1'0 : Bool, ∃ HJ : Nat → Prop, ((aC == v1) = b1'0) ∧ Hst w0 H2 w2 HJ wJ ∧ HB HJ wJ [(p2, [(vi 0), (vi 0), (vi 0), (vu 0), (vs ⟨#[]⟩), (vi 0), (vi 0)], 106), (p1, [(vi (cond b1'0 9 aA)), (vi aD), (vi aC), (vu aI), (vs aJ), (vi aK), (vi aL)], 106)] ∧ Has ρ [(2, (vp (some p1))), (3, (vp (some p2)))]) ?_ ?_
  ·skip
   refine wpE_cond (t := (aC == v1)) (by kernel_rfl) (fun hc2 => ?_) (fun hc2 => ?_)
   ·skip
    refine rg (q0 (vp (some p1)) (st_set (want0 rfl) (x_store (a := p1) (v := (vi 9)) (by kernel_rfl) (by kernel_rfl) rfl (Try.sizeOf3 _) (hb.canW0 1 (gS gZ) (by kernel_rfl))) ?_))
    intro w5 hn4
    have hsb : Hst w0 H2 w2 H2 w5 ∧ HB H2 w5 [(p2, [(vi 0), (vi 0), (vi 0), (vu 0), (vs ⟨#[]⟩), (vi 0), (vi 0)], 106), (p1, [(vi 9), (vi aD), (vi aC), (vu aI), (vs aJ), (vi aK), (vi aL)], 106)] := by
     rw [hn4]
     exact hb.set0 (i := 1) (v := (vi 9)) hs (gS gZ) (by kernel_rfl)
    clear hs hb hn4
    obtain ⟨hs, hb⟩ := hsb
    refine wpL_nil (th_n ?_)
    exact ⟨true, _, hc2, hs, hb, Has.mk (by kernel_rfl)⟩
   ·skip
    refine wpE_skip (th_n ?_)
    exact ⟨false, _, hc2, hs, hb, Has.mk (by kernel_rfl)⟩
  ·clear hs hb
   rintro ρ w4 ⟨b1'0, H3, he0, hs, hb, hH⟩
   subst he0
   refine norm_has hH ?_
   clear hH
   refine th_n (wpE_seq (rg (q2 (.agg #[(vi (cond (aC == v1) 9 aA)), (vi aD), (vi aC), (vu aI), (vs aJ), (vi aK), (vi aL)]) (x_loadA (a := p1) (vs := [(vi (cond (aC == v1) 9 aA)), (vi aD), (vi aC), (vu aI), (vs aJ), (vi aK), (vi aL)]) (by kernel_rfl) (Try.isAgg106 _) (Try.sizeOf106 _) rfl (hb.row0 1 7 (gS gZ) (by kernel_rfl))) (st_set (want0 rfl) (x_storeA (a := p2) (vs := [(vi (cond (aC == v1) 9 aA)), (vi aD), (vi aC), (vu aI), (vs aJ), (vi aK), (vi aL)]) (by kernel_rfl) (by kernel_rfl) rfl (Try.sizeOf106 _) rfl (hb.canWs0 0 7 gZ (by kernel_rfl))) ?_))))
   intro w6 hn5
   have hsb : Hst w0 H2 w2 H3 w6 ∧ HB H3 w6 [(p2, [(vi (cond (aC == v1) 9 aA)), (vi aD), (vi aC), (vu aI), (vs aJ), (vi aK), (vi aL)], 106), (p1, [(vi (cond (aC == v1) 9 aA)), (vi aD), (vi aC), (vu aI), (vs aJ), (vi aK), (vi aL)], 106)] := by
    rw [hn5]
    exact hb.store0 (i := 0) (vs := [(vi (cond (aC == v1) 9 aA)), (vi aD), (vi aC), (vu aI), (vs aJ), (vi aK), (vi aL)]) hs gZ (by kernel_rfl) (by kernel_rfl)
   clear hs hb hn5
   obtain ⟨hs, hb⟩ := hsb
   refine wpL_nil (th_n (wpE_ret ?_))
   replace h := h H3 w6 hs
   replace hs := hs.here
   refine resG (.inl rfl) (vs := [(.agg #[(vi (cond (aC == v1) 9 aA)), (vi aD), (vi aC), (vu aI), (vs aJ), (vi aK), (vi aL)])]) (v := (.agg #[(vi (cond (aC == v1) 9 aA)), (vi aD), (vi aC), (vu aI), (vs aJ), (vi aK), (vi aL)])) Try.results98 ⟨(RV.cellA (by kernel_rfl) (Try.isAgg106 _) (Try.sizeOf106 _) rfl (hb.row0 0 7 gZ (by kernel_rfl))), trivial⟩ (by kernel_rfl) ?_
   exact ⟨(cond (aC == v1) 9 aA), aD, aC, aI, aJ, aK, aL, rfl, h⟩
 ·replace h := h.2 hg1
  refine sk (yD 7 hg1) (sk (yD 7 hg1) (sk (yD 7 hg1) (sk (yD 7 hg1) (q2 (vb false) (xF hg1) (wpL_nil (th_n (wpE_condF (by kernel_rfl) (wpE_skip (th_n (wpE_seq (rg ?_)))))))))))
  refine q2 (.agg #[(vi aA), (vi aD), (vi aC), (vu aI), (vs aJ), (vi aK), (vi aL)]) (x_loadA (a := p1) (vs := [(vi aA), (vi aD), (vi aC), (vu aI), (vs aJ), (vi aK), (vi aL)]) (by kernel_rfl) (Try.isAgg106 _) (Try.sizeOf106 _) rfl (hb.row0 1 7 (gS gZ) (by kernel_rfl))) (st_set (want0 rfl) (x_storeA (a := p2) (vs := [(vi aA), (vi aD), (vi aC), (vu aI), (vs aJ), (vi aK), (vi aL)]) (by kernel_rfl) (by kernel_rfl) rfl (Try.sizeOf106 _) rfl (hb.canWs0 0 7 gZ (by kernel_rfl))) ?_)
  intro w7 hn6
  have hsb : Hst w0 None w0 H2 w7 ∧ HB H2 w7 [(p2, [(vi aA), (vi aD), (vi aC), (vu aI), (vs aJ), (vi aK), (vi aL)], 106), (p1, [(vi aA), (vi aD), (vi aC), (vu aI), (vs aJ), (vi aK), (vi aL)], 106)] := by
   rw [hn6]
   exact hb.store0 (i := 0) (vs := [(vi aA), (vi aD), (vi aC), (vu aI), (vs aJ), (vi aK), (vi aL)]) hs gZ (by kernel_rfl) (by kernel_rfl)
  clear hs hb hn6
  obtain ⟨hs, hb⟩ := hsb
  refine wpL_nil (th_n (wpE_ret ?_))
  replace h := h H2 w7 hs
  replace hs := hs.here
  refine resG (.inl rfl) (vs := [(.agg #[(vi aA), (vi aD), (vi aC), (vu aI), (vs aJ), (vi aK), (vi aL)])]) (v := (.agg #[(vi aA), (vi aD), (vi aC), (vu aI), (vs aJ), (vi aK), (vi aL)])) Try.results98 ⟨(RV.cellA (by kernel_rfl) (Try.isAgg106 _) (Try.sizeOf106 _) rfl (hb.row0 0 7 gZ (by kernel_rfl))), trivial⟩ (by kernel_rfl) ?_
  exact ⟨aA, aD, aC, aI, aJ, aK, aL, rfl, h⟩
theorem eqt_view_Alike_1_eql_106 (a0 a1 : Int) (a2 a3 : Int) (a4 : ByteArray) (a5 a6 : Int) (b0 b1 : Int) (b2 b3 : Int) (b4 : ByteArray) (b5 b6 : Int) (w : World) : (Go.binOp .eql 106 (.agg #[(.int .i64 a0), (.int .i64 a1), (.int .i64 a2), (.int .u64 a3), (.string a4), (.int .i64 a5), (.int .i64 a6)]) (.agg #[(.int .i64 b0), (.int .i64 b1), (.int .i64 b2), (.int .u64 b3), (.string b4), (.int .i64 b5), (.int .i64 b6)])).run Try.prog w = .ok (.bool ((a0 == b0) && ((a1 == b1) && ((a2 == b2) && ((a3 == b3) && ((decide (a4 = b4)) && ((a5 == b5) && (a6 == b6)))))))) w := by
 simp [Go.binOp, Op.equal, Op.maxDepth, go_sem, streq, bne]
 repeat' split
 all_goals simp_all
def m_view_Alike_1_j2 (cap5 : Addr) (aM aT : Int) (x2 : Bool) (H : Nat → Prop) (w : World) (K : Bool → World → Prop) : Prop :=
 Br x2
  (Br (aM == 0)
   (K true w)
   (∃ v9 : Value, w.cell? cap5 = some v9 ∧
   ∃ (f1 : FuncId) (fs1 cs1 : Array Value), v9 = .func (.func f1) fs1 cs1 ∧
   (∀ args w, (callFunc f1 args).run Try.prog w = .ok (.enter f1 args) w) ∧ Calls Try.prog f1 (fs1 ++ #[(vi aM), (vi aT)] ++ cs1) w (fun e w28 => ∃ r3 : Bool, e = .returned (vb r3) ∧ 
    Kept H w w28 ∧
    K r3 w28)))
  (K false w)
def m_view_Alike_1_j3 (cap5 : Addr) (aB aE : Int) (aF aG : Int) (aH : ByteArray) (aM aO : Int) (aQ aP aR : Int) (aS : ByteArray) (aT : Int) (x1 x3 : Bool) (H : Nat → Prop) (w : World) (K : Bool → World → Prop) : Prop :=
 Br ((aB == (cond x1 aB aO)) && ((aE == aQ) && ((aF == aP) && ((aG == aR) && ((decide (aH = aS)) && (((0 : Int) == 0) && ((0 : Int) == 0)))))))
  (m_view_Alike_1_j2 cap5 aM aT x3 H w K)
  (m_view_Alike_1_j2 cap5 aM aT false H w K)
def m_view_Alike_1_j1 (cap5 : Addr) (aB aE : Int) (aF aG : Int) (aH : ByteArray) (aN aM : Int) (aO aQ : Int) (aP aR : Int) (aS : ByteArray) (aU aT : Int) (x1 : Bool) (w0 : World) (H : Nat → Prop) (w : World) (K : Bool → World → Prop) : Prop :=
 Br ((aB == (cond x1 aB aO)) && ((aE == aQ) && ((aF == aP) && ((aG == aR) && ((decide (aH = aS)) && (((0 : Int) == 0) && ((0 : Int) == 0)))))))
  (Br (aN == 0)
   (∀ (H12 : Nat → Prop) (w27 : World), Hst w0 H w H12 w27 →
   m_view_Alike_1_j3 cap5 aB aE aF aG aH aM aO aQ aP aR aS aT x1 true H12 w27 K)
   (∀ (H12 : Nat → Prop) (w27 : World), Hst w0 H w H12 w27 →
   ∃ v10 : Value, w27.cell? cap5 = some v10 ∧
   ∃ (f2 : FuncId) (fs2 cs2 : Array Value), v10 = .func (.func f2) fs2 cs2 ∧
   (∀ args w, (callFunc f2 args).run Try.prog w = .ok (.enter f2 args) w) ∧ Calls Try.prog f2 (fs2 ++ #[(vi aN), (vi aU)] ++ cs2) w27 (fun e w29 => ∃ r4 : Bool, e = .returned (vb r4) ∧ 
    Kept H12 w27 w29 ∧
    m_view_Alike_1_j3 cap5 aB aE aF aG aH aM aO aQ aP aR aS aT x1 r4 H12 w29 K)))
  (∀ (H12 : Nat → Prop) (w27 : World), Hst w0 H w H12 w27 →
  m_view_Alike_1_j2 cap5 aM aT false H12 w27 K)
def m_view_Alike_1_j4 (cap4 cap5 : Addr) (aB aE : Int) (aF aG : Int) (aH : ByteArray) (aN aM : Int) (aO aQ : Int) (aP aR : Int) (aS : ByteArray) (aU aT : Int) (x4 : Bool) (w0 : World) (H : Nat → Prop) (w : World) (K : Bool → World → Prop) : Prop :=
 Br x4
  (∃ v11 : Int, w.cell? cap4 = some (vi v11) ∧
  ∀ (w34 : World), Hst w0 H w H w34 →
  m_view_Alike_1_j1 cap5 aB aE aF aG aH aN aM aO aQ aP aR aS aU aT (!(s_view_knows v11 aO aQ aP aR aS aU aT)) w0 H w34 K)
  (m_view_Alike_1_j1 cap5 aB aE aF aG aH aN aM aO aQ aP aR aS aU aT false w0 H w K)
def m_view_Alike_1 (a1 b1 : Int) (cap1 cap2 : Addr) (cap3 cap4 cap5 : Addr) (w0 : World) (K : Bool → World → Prop) : Prop :=
 ∃ v1 : Option Nat, w0.cell? cap1 = some (.map v1) ∧
 ∃ v2 : Int, ∃ ok1 : Bool, (Instr.lookup 146 (.map v1) (vi a1) true).run Try.prog w0 = .ok (.tuple #[(vi v2), (vb ok1)]) w0 ∧
 ∃ v3 : Option Nat, w0.cell? cap2 = some (.map v3) ∧
 ∃ v4 : Int, ∃ ok2 : Bool, (Instr.lookup 146 (.map v3) (vi b1) true).run Try.prog w0 = .ok (.tuple #[(vi v4), (vb ok2)]) w0 ∧
 Br (ok1 || ok2)
  (∀ (H5 : Nat → Prop) (w5 : World), Hst w0 None w0 H5 w5 →
  K (((ok1 && ok2) && (v2 == b1)) && (v4 == a1)) w5)
  (∀ (H1 : Nat → Prop) (w1 : World), Hst w0 None w0 H1 w1 →
  ∃ v5 : Option Addr, w1.cell? cap3 = some (vp v5) ∧
  Calls Try.prog 67 #[(vp v5), (vi a1)] w1 (fun e w9 => ∃ aB aE : Int, ∃ aF aG : Int, ∃ aH : ByteArray, ∃ aN aM : Int, ∃ r1 : Bool, e = .returned (.tuple #[(.agg #[(vi aB), (vi aE), (vi aF), (vu aG), (vs aH), (vi aN), (vi aM)]), (vb r1)]) ∧ 
   Kept H1 w1 w9 ∧
   ∀ (H9 : Nat → Prop) (w11 : World), Hst w0 H1 w9 H9 w11 →
   ∃ v6 : Option Addr, w11.cell? cap3 = some (vp v6) ∧
   Calls Try.prog 67 #[(vp v6), (vi b1)] w11 (fun e w12 => ∃ aO aQ : Int, ∃ aP aR : Int, ∃ aS : ByteArray, ∃ aU aT : Int, ∃ r2 : Bool, e = .returned (.tuple #[(.agg #[(vi aO), (vi aQ), (vi aP), (vu aR), (vs aS), (vi aU), (vi aT)]), (vb r2)]) ∧ 
    Kept H9 w11 w12 ∧
    Br ((!r1) || (!r2))
     (∀ (H11 : Nat → Prop) (w15 : World), Hst w0 H9 w12 H11 w15 →
     K false w15)
     (∀ (H11 : Nat → Prop) (w15 : World), Hst w0 H9 w12 H11 w15 →
     ∃ C1 : World → Prop, C1 w15.drew ∧ ∀ w16, w16 = w15.drew →
     ∃ v7 : Option Nat, w16.cell? cap1 = some (.map v7) ∧
     ∃ v8 : Option Nat, (∀ w', C1 w' → w'.cell? cap2 = some (.map v8)) ∧
     ∃ w17 : World, (Instr.mapUpdate 146 (.map v7) (vi a1) (vi b1)).run Try.prog w16 = .ok () w17 ∧ C1 w17 ∧
     Kept H11 w16 w17 ∧
     ∃ w18 : World, (Instr.mapUpdate 146 (.map v8) (vi b1) (vi a1)).run Try.prog w17 = .ok () w18 ∧
     Kept H11 w17 w18 ∧
     ∀ y1 : Bool, y1 = (((aB == 8) || (aB == 9)) && ((aO == 8) || (aO == 9))) →
     Br y1
      (∀ (H13 : Nat → Prop) (w32 : World), Hst w0 H11 w18 H13 w32 →
      ∃ v12 : Int, w32.cell? cap4 = some (vi v12) ∧
      ∀ (w35 : World), Hst w0 H13 w32 H13 w35 →
      m_view_Alike_1_j4 cap4 cap5 aB aE aF aG aH aN aM aO aQ aP aR aS aU aT (!(s_view_knows v12 aB aE aF aG aH aN aM)) w0 H13 w35 K)
      (∀ (H13 : Nat → Prop) (w32 : World), Hst w0 H11 w18 H13 w32 →
      m_view_Alike_1_j4 cap4 cap5 aB aE aF aG aH aN aM aO aQ aP aR aS aU aT false w0 H13 w32 K)))))
theorem w_view_Alike_1 (a1 b1 : Int) (cap1 cap2 : Addr) (cap3 cap4 cap5 : Addr) (w0 : World) (K : Bool → World → Prop) (h : m_view_Alike_1 a1 b1 cap1 cap2 cap3 cap4 cap5 w0 K) :
  Calls Try.prog 102 #[(vi a1), (vi b1), (vp (some cap1)), (vp (some cap2)), (vp (some cap3)), (vp (some cap4)), (vp (some cap5))] w0 (fun e w' => ∃ r5 : Bool, e = .returned (vb r5) ∧ K r5 w') := by
 unfold m_view_Alike_1 at h
 refine calls_of_wpE (args := [(vi a1), (vi b1), (vp (some cap1)), (vp (some cap2)), (vp (some cap3)), (vp (some cap4)), (vp (some cap5))]) Try.func102 rfl Try.ntmps102 (Nat.le_of_ble_eq_true rfl) ?_
 have hs := Hst.start w0
 have hb := HB.nil None w0
 refine wpE_seq (rg (q0 (vb false) (wpL_nil (th_n (wpE_seq (rg ?_))))))
 obtain ⟨v1, hv14, h⟩ := h
 refine q2 (.map v1) (xl (Try.isAgg146 _) hv14) (q0 (vi a1) ?_)
 obtain ⟨v2, ok1, hv13, h⟩ := h
 refine q2 (.tuple #[(vi v2), (vb ok1)]) (x_lookup (by kernel_rfl) (by kernel_rfl) hv13) (q0 (.tuple #[(vi v2), (vb ok1)]) (q0 (vi v2) (q0 (vb ok1) (q0 (vi v2) (q0 (vb ok1) (wpL_nil (th_n (wpE_seq (rg ?_)))))))))
 obtain ⟨v3, hv12, h⟩ := h
 refine q2 (.map v3) (xl (Try.isAgg146 _) hv12) (q0 (vi b1) ?_)
 obtain ⟨v4, ok2, hv11, h⟩ := h
 refine q2 (.tuple #[(vi v4), (vb ok2)]) (x_lookup (by kernel_rfl) (by kernel_rfl) hv11) (q0 (.tuple #[(vi v4), (vb ok2)]) (q0 (vi v4) (q0 (vb ok2) (q0 (vi v4) (q0 (vb ok2) (wpL_nil (th_n (wpE_seq (wpE_seq ?_)))))))))
 refine wpE_via (fun ρ wJ => ∃ b2'0 : Bool, ∃ HJ : Nat → Prop, (ok1 = b2'0) ∧ Hst w0 None w0 HJ wJ ∧ HB HJ wJ [] ∧ Has ρ [(0, (vi a1)), (1, (vi b1)), (2, (vp (some cap1))), (3, (vp (some cap2))), (4, (vp (some cap3))), (5, (vp (some cap4))), (6, (vp (some cap5))), (10, (vi v2)), (11, (vb ok1)), (12, (vi v4)), (13, (vb ok2)), (37, (vb (b2'0 || ok2)))]) ?_ ?_
 ·skip
  refine rg (q0 (vb ok1) (q0 (vb ok1) ?_))
  rcases Bool.eq_false_or_eq_true ok1 with hg2 | hg2
  ·skip
   refine sk (yD 35 hg2) (q2 (vb true) (xT hg2) (wpL_nil (th_n ?_)))
   exact ⟨true, _, hg2, hs, hb, Has.mk (by kernel_rfl)⟩
  ·skip
   refine q1 (vb ok2) (want1 rfl (yD 35 hg2)) (q2 (vb ok2) (xF hg2) (wpL_nil (th_n ?_)))
   exact ⟨false, _, hg2, hs, hb, Has.mk (by kernel_rfl)⟩
 ·clear hs hb
  rintro ρ w1 ⟨b2'0, H1, he0, hs, hb, hH⟩
  subst he0
  refine norm_has hH ?_
  clear hH
  refine th_n ?_
  refine wpE_cond (t := (ok1 || ok2)) (by kernel_rfl) (fun hc1 => ?_) (fun hc1 => ?_)
  ·replace h := h.1 hc1
   refine wpE_seq ?_
   refine wpE_via (fun ρ wJ => ∃ HJ : Nat → Prop, Hst w0 None w0 HJ wJ ∧ HB HJ wJ [] ∧ Has ρ [(9, (vb (((ok1 && ok2) && (v2 == b1)) && (v4 == a1))))]) ?_ ?_
   ·skip
    refine rg (q0 (vb ok1) (q0 (vb ok1) ?_))
    refine wpL_join 2 (fun ρ wJ => ∃ b7'0 : Bool, ∃ HJ : Nat → Prop, (ok1 = b7'0) ∧ Hst w0 None w0 HJ wJ ∧ HB HJ wJ [] ∧ Has ρ [(0, (vi a1)), (1, (vi b1)), (10, (vi v2)), (12, (vi v4)), (41, (vb (b7'0 && ok2)))]) ?_ ?_
    ·clear hs hb
     rintro ρ w6 ⟨b7'0, H6, he0, hs, hb, hH⟩
     subst he0
     refine wpL_has hH ?_
     clear hH
     refine q0 (vb (ok1 && ok2)) ?_
     refine wpL_join 4 (fun ρ wJ => ∃ b8'0 : Bool, ∃ HJ : Nat → Prop, ((ok1 && ok2) = b8'0) ∧ Hst w0 None w0 HJ wJ ∧ HB HJ wJ [] ∧ Has ρ [(0, (vi a1)), (12, (vi v4)), (46, (vb (b8'0 && (v2 == b1))))]) ?_ ?_
     ·clear hs hb
      rintro ρ w7 ⟨b8'0, H7, he0, hs, hb, hH⟩
      subst he0
      refine wpL_has hH ?_
      clear hH
      refine q0 (vb ((ok1 && ok2) && (v2 == b1))) ?_
      refine wpL_join 4 (fun ρ wJ => ∃ b9'0 : Bool, ∃ HJ : Nat → Prop, (((ok1 && ok2) && (v2 == b1)) = b9'0) ∧ Hst w0 None w0 HJ wJ ∧ HB HJ wJ [] ∧ Has ρ [(51, (vb (b9'0 && (v4 == a1))))]) ?_ ?_
      ·clear hs hb
       rintro ρ w8 ⟨b9'0, H8, he0, hs, hb, hH⟩
       subst he0
       refine wpL_has hH ?_
       clear hH
       refine q0 (vb (((ok1 && ok2) && (v2 == b1)) && (v4 == a1))) (wpL_nil (th_n ?_))
       exact ⟨_, hs, hb, Has.mk (by kernel_rfl)⟩
      ·skip
       rcases Bool.eq_false_or_eq_true ((ok1 && ok2) && (v2 == b1)) with hg14 | hg14
       ·skip
        refine q1 (vi v4) (want1 rfl (yD 47 hg14)) (q1 (vi a1) (want1 rfl (yD 47 hg14)) (q1 (vb (v4 == a1)) (want1 rfl (yD 47 hg14)) (q2 (vb (v4 == a1)) (xT hg14) (wpL_nil ?_))))
        exact ⟨true, _, hg14, hs, hb, Has.mk (by kernel_rfl)⟩
       ·skip
        refine sk (yD 47 hg14) (sk (yD 47 hg14) (sk (yD 47 hg14) (q2 (vb false) (xF hg14) (wpL_nil ?_))))
        exact ⟨false, _, hg14, hs, hb, Has.mk (by kernel_rfl)⟩
     ·skip
      rcases Bool.eq_false_or_eq_true (ok1 && ok2) with hg12 | hg12
      ·skip
       refine q1 (vi v2) (want1 rfl (yD 42 hg12)) (q1 (vi b1) (want1 rfl (yD 42 hg12)) (q1 (vb (v2 == b1)) (want1 rfl (yD 42 hg12)) (q2 (vb (v2 == b1)) (xT hg12) (wpL_nil ?_))))
       exact ⟨true, _, hg12, hs, hb, Has.mk (by kernel_rfl)⟩
      ·skip
       refine sk (yD 42 hg12) (sk (yD 42 hg12) (sk (yD 42 hg12) (q2 (vb false) (xF hg12) (wpL_nil ?_))))
       exact ⟨false, _, hg12, hs, hb, Has.mk (by kernel_rfl)⟩
    ·skip
     rcases Bool.eq_false_or_eq_true ok1 with hg10 | hg10
     ·skip
      refine q1 (vb ok2) (want1 rfl (yD 39 hg10)) (q2 (vb ok2) (xT hg10) (wpL_nil ?_))
      exact ⟨true, _, hg10, hs, hb, Has.mk (by kernel_rfl)⟩
     ·skip
      refine sk (yD 39 hg10) (q2 (vb false) (xF hg10) (wpL_nil ?_))
      exact ⟨false, _, hg10, hs, hb, Has.mk (by kernel_rfl)⟩
   ·clear hs hb
    rintro ρ w5 ⟨H5, hs, hb, hH⟩
    refine norm_has hH ?_
    clear hH
    refine th_n (wpE_ret (th_r ?_))
    replace h := h H5 w5 hs
    replace hs := hs.here
    refine res1 (.inl rfl) Try.results102 (v := (vb (((ok1 && ok2) && (v2 == b1)) && (v4 == a1)))) (by kernel_rfl) ?_
    exact ⟨(((ok1 && ok2) && (v2 == b1)) && (v4 == a1)), rfl, h⟩
  ·replace h := h.2 hc1
   refine wpE_skip (th_n (wpE_seq (rg ?_)))
   replace h := h H1 w1 hs
   replace hs := hs.here
   obtain ⟨v5, hv10, h⟩ := h
   refine q2 (vp v5) (xl (Try.isAgg36 _) hv10) (q0 (vi a1) ?_)
   refine st_call (want0 rfl) (xc Try.call67) (h.mono ?_)
   rintro e w9 ⟨aB, aE, aF, aG, aH, aN, aM, r1, rfl, hk, h⟩
   refine ⟨_, rfl, ?_⟩
   obtain ⟨hs, hb⟩ := hk.hh hs hb
   refine q0 (.tuple #[(.agg #[(vi aB), (vi aE), (vi aF), (vu aG), (vs aH), (vi aN), (vi aM)]), (vb r1)]) (q0 (.agg #[(vi aB), (vi aE), (vi aF), (vu aG), (vs aH), (vi aN), (vi aM)]) (q0 (vb r1) (sn (O := (.cells #[(vi 0), (vi 0), (vi 0), (vu 0), (vs ⟨#[]⟩), (vi 0), (vi 0)] 106)) (x_alloc (Try.zeroValue106 _) rfl) ?_)))
   intro p1 w10 hn1
   obtain ⟨H9, hs, hb⟩ := hs.alloc hb hn1
   refine st_set (want0 rfl) (x_storeA (a := p1) (vs := [(vi aB), (vi aE), (vi aF), (vu aG), (vs aH), (vi aN), (vi aM)]) (by kernel_rfl) (by kernel_rfl) rfl (Try.sizeOf106 _) rfl (hb.canWs0 0 7 gZ (by kernel_rfl))) ?_
   intro w11 hn2
   have hsb : Hst w0 H1 w9 H9 w11 ∧ HB H9 w11 [(p1, [(vi aB), (vi aE), (vi aF), (vu aG), (vs aH), (vi aN), (vi aM)], 106)] := by
    rw [hn2]
    exact hb.store0 (i := 0) (vs := [(vi aB), (vi aE), (vi aF), (vu aG), (vs aH), (vi aN), (vi aM)]) hs gZ (by kernel_rfl) (by kernel_rfl)
   clear hs hb hn2
   obtain ⟨hs, hb⟩ := hsb
   refine q0 (vb r1) (wpL_nil (th_n (wpE_seq (rg ?_))))
   replace h := h H9 w11 hs
   replace hs := hs.here
   obtain ⟨v6, hv9, h⟩ := h
   refine q2 (vp v6) (xl (Try.isAgg36 _) hv9) (q0 (vi b1) ?_)
   refine st_call (want0 rfl) (xc Try.call67) (h.mono ?_)
   rintro e w12 ⟨aO, aQ, aP, aR, aS, aU, aT, r2, rfl, hk, h⟩
   refine ⟨_, rfl, ?_⟩
   obtain ⟨hs, hb⟩ := hk.hh hs hb
   refine q0 (.tuple #[(.agg #[(vi aO), (vi aQ), (vi aP), (vu aR), (vs aS), (vi aU), (vi aT)]), (vb r2)]) (q0 (.agg #[(vi aO), (vi aQ), (vi aP), (vu aR), (vs aS), (vi aU), (vi aT)]) (q0 (vb r2) (sn (O := (.cells #[(vi 0), (vi 0), (vi 0), (vu 0), (vs ⟨#[]⟩), (vi 0), (vi 0)] 106)) (x_alloc (Try.zeroValue106 _) rfl) ?_)))
   intro p2 w13 hn3
   obtain ⟨H10, hs, hb⟩ := hs.alloc hb hn3
   refine st_set (want0 rfl) (x_storeA (a := p2) (vs := [(vi aO), (vi aQ), (vi aP), (vu aR), (vs aS), (vi aU), (vi aT)]) (by kernel_rfl) (by kernel_rfl) rfl (Try.sizeOf106 _) rfl (hb.canWs0 0 7 gZ (by kernel_rfl))) ?_
   intro w14 hn4
   have hsb : Hst w0 H9 w12 H10 w14 ∧ HB H10 w14 [(p2, [(vi aO), (vi aQ), (vi aP), (vu aR), (vs aS), (vi aU), (vi aT)], 106), (p1, [(vi aB), (vi aE), (vi aF), (vu aG), (vs aH), (vi aN), (vi aM)], 106)] := by
    rw [hn4]
    exact hb.store0 (i := 0) (vs := [(vi aO), (vi aQ), (vi aP), (vu aR), (vs aS), (vi aU), (vi aT)]) hs gZ (by kernel_rfl) (by kernel_rfl)
   clear hs hb hn4
   obtain ⟨hs, hb⟩ := hsb
   refine q0 (vb r2) (wpL_nil (th_n (wpE_seq (wpE_seq ?_))))
   refine wpE_via (fun ρ wJ => ∃ b10'0 : Bool, ∃ HJ : Nat → Prop, ((!r1) = b10'0) ∧ Hst w0 H9 w12 HJ wJ ∧ HB HJ wJ [(p2, [(vi aO), (vi aQ), (vi aP), (vu aR), (vs aS), (vi aU), (vi aT)], 106), (p1, [(vi aB), (vi aE), (vi aF), (vu aG), (vs aH), (vi aN), (vi aM)], 106)] ∧ Has ρ [(0, (vi a1)), (1, (vi b1)), (2, (vp (some cap1))), (3, (vp (some cap2))), (5, (vp (some cap4))), (6, (vp (some cap5))), (14, (vp (some p1))), (16, (vp (some p2))), (69, (vb (b10'0 || (!r2))))]) ?_ ?_
   ·skip
    refine rg (q0 (vb r1) (q0 (vb (!r1)) (q0 (vb (!r1)) ?_)))
    rcases Bool.eq_false_or_eq_true (!r1) with hg16 | hg16
    ·skip
     refine sk (yD 66 hg16) (sk (yD 66 hg16) (q2 (vb true) (xT hg16) (wpL_nil (th_n ?_))))
     exact ⟨true, _, hg16, hs, hb, Has.mk (by kernel_rfl)⟩
    ·skip
     refine q1 (vb r2) (want1 rfl (yD 66 hg16)) (q1 (vb (!r2)) (want1 rfl (yD 66 hg16)) (q2 (vb (!r2)) (xF hg16) (wpL_nil (th_n ?_))))
     exact ⟨false, _, hg16, hs, hb, Has.mk (by kernel_rfl)⟩
   ·clear hs hb
    rintro ρ w15 ⟨b10'0, H11, he0, hs, hb, hH⟩
    subst he0
    refine norm_has hH ?_
    clear hH
    refine th_n ?_
    refine wpE_cond (t := ((!r1) || (!r2))) (by kernel_rfl) (fun hc2 => ?_) (fun hc2 => ?_)
    ·replace h := h.1 hc2
     refine wpE_seq (rg (q0 (vb false) (wpL_nil (th_n (wpE_ret (th_r ?_))))))
     replace h := h H11 w15 hs
     replace hs := hs.here
     refine res1 (.inl rfl) Try.results102 (v := (vb false)) (by kernel_rfl) ?_
     exact ⟨false, rfl, h⟩
    ·replace h := h.2 hc2
     refine wpE_skip (th_n (wpE_seq ?_))
     replace h := h H11 w15 hs
     replace hs := hs.here
     obtain ⟨C1, hC, h⟩ := h
     refine wpE_drawnC (fun x => C1 x ∧ HB H11 x [(p2, [(vi aO), (vi aQ), (vi aP), (vu aR), (vs aS), (vi aU), (vi aT)], 106), (p1, [(vi aB), (vi aE), (vi aF), (vu aG), (vs aH), (vi aN), (vi aM)], 106)]) [6, 7] [7] (by kernel_rfl) (by kernel_rfl) (by kernel_rfl) (by kernel_rfl) ⟨hC, hb.drew⟩ ?_
     clear hC
     intro w16 hw16
     replace h := h w16 hw16
     replace hs : Hst w0 H11 w15 H11 w16 := by rw [hw16]; exact hs.drew
     replace hb : HB H11 w16 [(p2, [(vi aO), (vi aQ), (vi aP), (vu aR), (vs aS), (vi aU), (vi aT)], 106), (p1, [(vi aB), (vi aE), (vi aF), (vu aG), (vs aH), (vi aN), (vi aM)], 106)] := by rw [hw16]; exact hb.drew
     replace hs := hs.here
     refine qgo (k := 0) (by kernel_rfl) ?_
     obtain ⟨v7, hv8, h⟩ := h
     refine sxe (v := (.map v7)) Kp0 (want0 rfl) (by kernel_rfl) (by kernel_rfl) (xl (Try.isAgg146 _) hv8) (qx 1 (vi a1) Kp1 (qgo (k := 2) (by kernel_rfl) ?_))
     obtain ⟨v8, hv7, h⟩ := h
     refine sx (v := (.map v8)) Kp2 (want0 rfl) (by kernel_rfl) (fun w' hw' => (xl (Try.isAgg146 _) (hv7 w' hw'.1))) (qx 3 (vi b1) Kp3 (qx 4 (vi b1) Kp4 (qx 5 (vi a1) Kp5 (lgo (k := 6) (by kernel_rfl) ?_))))
     obtain ⟨w17, hv6, hC, hk, h⟩ := h
     refine sl_skip Kp6 (want0 rfl) (by kernel_rfl) (x_mapUpdate (by kernel_rfl) (by kernel_rfl) (by kernel_rfl) hv6) (.inr ⟨hC, hb.kept hk⟩) ?_
     clear hC
     obtain ⟨hs, hb⟩ := hk.hh hs hb
     refine lgo (k := 7) (by kernel_rfl) ?_
     obtain ⟨w18, hv5, hk, h⟩ := h
     refine sl_skip Kp7 (want0 rfl) (by kernel_rfl) (x_mapUpdate (by kernel_rfl) (by kernel_rfl) (by kernel_rfl) hv5) (.inl (by kernel_rfl)) ?_
     obtain ⟨hs, hb⟩ := hk.hh hs hb
     refine wpX_nil (by kernel_rfl) (th_n (wpE_seq (wpE_seq ?_)))
     refine wpE_joinT (fun ρ w => ∃ x1 : Bool, ∃ H : Nat → Prop, Has ρ [(6, (vp (some cap5))), (14, (vp (some p1))), (16, (vp (some p2))), (93, (vb x1))] ∧ Hst w0 H w H w ∧ HB H w [(p2, [(vi aO), (vi aQ), (vi aP), (vu aR), (vs aS), (vi aU), (vi aT)], 106), (p1, [(vi aB), (vi aE), (vi aF), (vu aG), (vs aH), (vi aN), (vi aM)], 106)] ∧ m_view_Alike_1_j1 cap5 aB aE aF aG aH aN aM aO aQ aP aR aS aU aT x1 w0 H w K) ?_ ?_
     ·clear h hs hb
      rintro ρ w ⟨x1, H, hH, hs, hb, h⟩
      unfold m_view_Alike_1_j1 at h
      refine wpE_has hH ?_
      clear hH
      refine wpE_via (fun ρ wJ => ∃ b11'0 : Bool, ∃ HJ : Nat → Prop, (x1 = b11'0) ∧ Hst w0 H w HJ wJ ∧ HB HJ wJ [(p2, [(vi (cond b11'0 aB aO)), (vi aQ), (vi aP), (vu aR), (vs aS), (vi aU), (vi aT)], 106), (p1, [(vi aB), (vi aE), (vi aF), (vu aG), (vs aH), (vi aN), (vi aM)], 106)] ∧ Has ρ [(6, (vp (some cap5))), (14, (vp (some p1))), (16, (vp (some p2)))]) ?_ ?_
      ·skip
       refine wpE_cond (t := x1) (by kernel_rfl) (fun hc4 => ?_) (fun hc4 => ?_)
       ·skip
        refine rg (q0 (vp (some p1)) (q2 (vi aB) (xl (Try.isAgg3 _) (hb.c0 1 (gS gZ))) (q0 (vp (some p2)) (st_set (want0 rfl) (x_store (a := p2) (v := (vi aB)) (by kernel_rfl) (by kernel_rfl) rfl (Try.sizeOf3 _) (hb.canW0 0 gZ (by kernel_rfl))) ?_))))
        intro w21 hn6
        have hsb : Hst w0 H w H w21 ∧ HB H w21 [(p2, [(vi aB), (vi aQ), (vi aP), (vu aR), (vs aS), (vi aU), (vi aT)], 106), (p1, [(vi aB), (vi aE), (vi aF), (vu aG), (vs aH), (vi aN), (vi aM)], 106)] := by
         rw [hn6]
         exact hb.set0 (i := 0) (v := (vi aB)) hs gZ (by kernel_rfl)
        clear hs hb hn6
        obtain ⟨hs, hb⟩ := hsb
        refine wpL_nil (th_n ?_)
        exact ⟨true, _, hc4, hs, hb, Has.mk (by kernel_rfl)⟩
       ·skip
        refine wpE_skip (th_n ?_)
        exact ⟨false, _, hc4, hs, hb, Has.mk (by kernel_rfl)⟩
      ·clear hs hb
       rintro ρ w20 ⟨b11'0, H12, he0, hs, hb, hH⟩
       subst he0
       refine norm_has hH ?_
       clear hH
       refine th_n (wpE_seq (wpE_drawnQ (by kernel_rfl) (by kernel_rfl) (by kernel_rfl) (by kernel_rfl) ?_))
       intro w22 hw22
       replace hs : Hst w0 H w H12 w22 := by rw [hw22]; exact hs.drew
       replace hb : HB H12 w22 [(p2, [(vi (cond x1 aB aO)), (vi aQ), (vi aP), (vu aR), (vs aS), (vi aU), (vi aT)], 106), (p1, [(vi aB), (vi aE), (vi aF), (vu aG), (vs aH), (vi aN), (vi aM)], 106)] := by rw [hw22]; exact hb.drew
       clear hw22
       refine qq 0 (vp (some (p1.add 5))) Kp0 (qr 1 (vi aN) Kp1 (xl (Try.isAgg32 _) (hb.c 1 5 (gS gZ))) (qq 2 (vp (some (p2.add 5))) Kp2 (qr 3 (vi aU) Kp3 (xl (Try.isAgg32 _) (hb.c 0 5 gZ)) (qq 4 (vi aN) Kp4 (qq 5 (vi aU) Kp5 (wpX_nil (by kernel_rfl) (th_n (wpE_seq (wpE_drawnQ (by kernel_rfl) (by kernel_rfl) (by kernel_rfl) (by kernel_rfl) ?_)))))))))
       intro w23 hw23
       replace hs : Hst w0 H w H12 w23 := by rw [hw23]; exact hs.drew
       replace hb : HB H12 w23 [(p2, [(vi (cond x1 aB aO)), (vi aQ), (vi aP), (vu aR), (vs aS), (vi aU), (vi aT)], 106), (p1, [(vi aB), (vi aE), (vi aF), (vu aG), (vs aH), (vi aN), (vi aM)], 106)] := by rw [hw23]; exact hb.drew
       clear hw23
       refine qq 0 (vp (some (p1.add 6))) Kp0 (qr 1 (vi aM) Kp1 (xl (Try.isAgg32 _) (hb.c 1 6 (gS gZ))) (qq 2 (vp (some (p2.add 6))) Kp2 (qr 3 (vi aT) Kp3 (xl (Try.isAgg32 _) (hb.c 0 6 gZ)) (qq 4 (vi aM) Kp4 (qq 5 (vi aT) Kp5 (wpX_nil (by kernel_rfl) (th_n (wpE_seq (rg (q0 (vp (some (p1.add 5))) (st_set (want0 rfl) (x_store (a := (p1.add 5)) (v := (vi 0)) (by kernel_rfl) (by kernel_rfl) rfl (Try.sizeOf32 _) (hb.canW 1 5 (gS gZ) (by kernel_rfl))) ?_)))))))))))
       intro w24 hn7
       have hsb : Hst w0 H w H12 w24 ∧ HB H12 w24 [(p2, [(vi (cond x1 aB aO)), (vi aQ), (vi aP), (vu aR), (vs aS), (vi aU), (vi aT)], 106), (p1, [(vi aB), (vi aE), (vi aF), (vu aG), (vs aH), (vi 0), (vi aM)], 106)] := by
        rw [hn7]
        exact hb.set (i := 1) 5 (v := (vi 0)) hs (gS gZ) (by kernel_rfl)
       clear hs hb hn7
       obtain ⟨hs, hb⟩ := hsb
       refine q0 (vp (some (p1.add 6))) (st_set (want0 rfl) (x_store (a := (p1.add 6)) (v := (vi 0)) (by kernel_rfl) (by kernel_rfl) rfl (Try.sizeOf32 _) (hb.canW 1 6 (gS gZ) (by kernel_rfl))) ?_)
       intro w25 hn8
       have hsb : Hst w0 H w H12 w25 ∧ HB H12 w25 [(p2, [(vi (cond x1 aB aO)), (vi aQ), (vi aP), (vu aR), (vs aS), (vi aU), (vi aT)], 106), (p1, [(vi aB), (vi aE), (vi aF), (vu aG), (vs aH), (vi 0), (vi 0)], 106)] := by
        rw [hn8]
        exact hb.set (i := 1) 6 (v := (vi 0)) hs (gS gZ) (by kernel_rfl)
       clear hs hb hn8
       obtain ⟨hs, hb⟩ := hsb
       refine q0 (vp (some (p2.add 5))) (st_set (want0 rfl) (x_store (a := (p2.add 5)) (v := (vi 0)) (by kernel_rfl) (by kernel_rfl) rfl (Try.sizeOf32 _) (hb.canW 0 5 gZ (by kernel_rfl))) ?_)
       intro w26 hn9
       have hsb : Hst w0 H w H12 w26 ∧ HB H12 w26 [(p2, [(vi (cond x1 aB aO)), (vi aQ), (vi aP), (vu aR), (vs aS), (vi 0), (vi aT)], 106), (p1, [(vi aB), (vi aE), (vi aF), (vu aG), (vs aH), (vi 0), (vi 0)], 106)] := by
        rw [hn9]
        exact hb.set (i := 0) 5 (v := (vi 0)) hs gZ (by kernel_rfl)
       clear hs hb hn9
       obtain ⟨hs, hb⟩ := hsb
       refine q0 (vp (some (p2.add 6))) (st_set (want0 rfl) (x_store (a := (p2.add 6)) (v := (vi 0)) (by kernel_rfl) (by kernel_rfl) rfl (Try.sizeOf32 _) (hb.canW 0 6 gZ (by kernel_rfl))) ?_)
       intro w27 hn10
       have hsb : Hst w0 H w H12 w27 ∧ HB H12 w27 [(p2, [(vi (cond x1 aB aO)), (vi aQ), (vi aP), (vu aR), (vs aS), (vi 0), (vi 0)], 106), (p1, [(vi aB), (vi aE), (vi aF), (vu aG), (vs aH), (vi 0), (vi 0)], 106)] := by
        rw [hn10]
        exact hb.set (i := 0) 6 (v := (vi 0)) hs gZ (by kernel_rfl)
       clear hs hb hn10
       obtain ⟨hs, hb⟩ := hsb
       refine wpL_nil (th_n (wpE_seq (rg (q2 (.agg #[(vi aB), (vi aE), (vi aF), (vu aG), (vs aH), (vi 0), (vi 0)]) (x_loadA (a := p1) (vs := [(vi aB), (vi aE), (vi aF), (vu aG), (vs aH), (vi 0), (vi 0)]) (by kernel_rfl) (Try.isAgg106 _) (Try.sizeOf106 _) rfl (hb.row0 1 7 (gS gZ) (by kernel_rfl))) (q2 (.agg #[(vi (cond x1 aB aO)), (vi aQ), (vi aP), (vu aR), (vs aS), (vi 0), (vi 0)]) (x_loadA (a := p2) (vs := [(vi (cond x1 aB aO)), (vi aQ), (vi aP), (vu aR), (vs aS), (vi 0), (vi 0)]) (by kernel_rfl) (Try.isAgg106 _) (Try.sizeOf106 _) rfl (hb.row0 0 7 gZ (by kernel_rfl))) (q2 (vb ((aB == (cond x1 aB aO)) && ((aE == aQ) && ((aF == aP) && ((aG == aR) && ((decide (aH = aS)) && (((0 : Int) == 0) && ((0 : Int) == 0)))))))) (x_aggeq (by kernel_rfl) (by kernel_rfl) (by kernel_rfl) (eqt_view_Alike_1_eql_106 aB aE aF aG aH 0 0 (cond x1 aB aO) aQ aP aR aS 0 0 _)) (q0 (vb ((aB == (cond x1 aB aO)) && ((aE == aQ) && ((aF == aP) && ((aG == aR) && ((decide (aH = aS)) && (((0 : Int) == 0) && ((0 : Int) == 0)))))))) ?_)))))))
       refine wpL_join 9 (fun ρ w => ∃ x2 : Bool, ∃ H : Nat → Prop, Has ρ [(6, (vp (some cap5))), (20, (vi aM)), (21, (vi aT)), (121, (vb x2))] ∧ Hst w0 H w H w ∧ HB H w [(p2, [(vi (cond x1 aB aO)), (vi aQ), (vi aP), (vu aR), (vs aS), (vi 0), (vi 0)], 106), (p1, [(vi aB), (vi aE), (vi aF), (vu aG), (vs aH), (vi 0), (vi 0)], 106)] ∧ m_view_Alike_1_j2 cap5 aM aT x2 H w K) ?_ ?_
       ·clear h hs hb
        rintro ρ w ⟨x2, H, hH, hs, hb, h⟩
        unfold m_view_Alike_1_j2 at h
        refine wpL_has hH ?_
        clear hH
        refine q0 (vb x2) ?_
        rcases Bool.eq_false_or_eq_true x2 with hg17 | hg17
        ·replace h := h.1 hg17
         refine q1 (vi aM) (want1 rfl (yD 122 hg17)) (q1 (vb (aM == 0)) (want1 rfl (yD 122 hg17)) (q1 (vb (aM == 0)) (want1 rfl (yD 122 hg17)) ?_))
         rcases Bool.eq_false_or_eq_true (aM == 0) with hg18 | hg18
         ·replace h := h.1 hg18
          refine sk (yD 125 hg18) (sk (yD 125 hg18) (sk (yD 125 hg18) (sk (yD 125 hg18) (stp (v := (vb true)) (want1 rfl (yD 122 hg17)) (xT hg18) (q2 (vb true) (xT hg17) (q0 (vb true) (wpL_nil (th_n (wpE_ret (res1 (.inl rfl) Try.results102 (v := (vb true)) (by kernel_rfl) ?_))))))))))
          exact ⟨true, rfl, h⟩
         ·replace h := h.2 hg18
          obtain ⟨v9, hv1, h⟩ := h
          refine stp (v := v9) (want1 rfl (yD 125 hg18)) (xl (Try.isAgg147 _) hv1) (q1 (vi aM) (want1 rfl (yD 125 hg18)) (q1 (vi aT) (want1 rfl (yD 125 hg18)) ?_))
          obtain ⟨f1, fs1, cs1, hp1, h⟩ := h
          obtain ⟨hf1, h⟩ := h
          refine st_call (want1 rfl (yD 125 hg18)) (x_callmE (fs := fs1) (caps := cs1) (args := #[(vi aM), (vi aT)]) (by kernel_rfl) hp1 hf1 (by kernel_rfl) rfl) (h.mono ?_)
          rintro e w28 ⟨r3, rfl, hk, h⟩
          refine ⟨_, rfl, ?_⟩
          obtain ⟨hs, hb⟩ := hk.hh hs hb
          refine stp (v := (vb r3)) (want1 rfl (yD 122 hg17)) (xF hg18) (q2 (vb r3) (xT hg17) (q0 (vb r3) (wpL_nil (th_n (wpE_ret (res1 (.inl rfl) Try.results102 (v := (vb r3)) (by kernel_rfl) ?_))))))
          exact ⟨r3, rfl, h⟩
        ·replace h := h.2 hg17
         refine sk (yD 122 hg17) (sk (yD 122 hg17) (sk (yD 122 hg17) (st_not (by kernel_rfl) (st_not (by kernel_rfl) (st_not (by kernel_rfl) (st_not (by kernel_rfl) (sk (yD 122 hg17) (q2 (vb false) (xF hg17) (q0 (vb false) (wpL_nil (th_n ?_)))))))))))
         refine wpE_ret (res1 (.inl rfl) Try.results102 (v := (vb false)) (by kernel_rfl) ?_)
         exact ⟨false, rfl, h⟩
       ·skip
        rcases Bool.eq_false_or_eq_true ((aB == (cond x1 aB aO)) && ((aE == aQ) && ((aF == aP) && ((aG == aR) && ((decide (aH = aS)) && (((0 : Int) == 0) && ((0 : Int) == 0))))))) with hg19 | hg19
        ·replace h := h.1 hg19
         refine q1 (vi aN) (want1 rfl (yD 112 hg19)) (q1 (vb (aN == 0)) (want1 rfl (yD 112 hg19)) (q1 (vb (aN == 0)) (want1 rfl (yD 112 hg19)) ?_))
         refine wpL_join 5 (fun ρ w => ∃ x3 : Bool, ∃ H : Nat → Prop, Has ρ [(6, (vp (some cap5))), (20, (vi aM)), (21, (vi aT)), (112, (vb ((aB == (cond x1 aB aO)) && ((aE == aQ) && ((aF == aP) && ((aG == aR) && ((decide (aH = aS)) && (((0 : Int) == 0) && ((0 : Int) == 0))))))))), (120, (vb x3))] ∧ Hst w0 H w H w ∧ HB H w [(p2, [(vi (cond x1 aB aO)), (vi aQ), (vi aP), (vu aR), (vs aS), (vi 0), (vi 0)], 106), (p1, [(vi aB), (vi aE), (vi aF), (vu aG), (vs aH), (vi 0), (vi 0)], 106)] ∧ m_view_Alike_1_j3 cap5 aB aE aF aG aH aM aO aQ aP aR aS aT x1 x3 H w K) ?_ ?_
         ·clear h hs hb
          rintro ρ w ⟨x3, H, hH, hs, hb, h⟩
          unfold m_view_Alike_1_j3 at h
          refine wpL_has hH ?_
          clear hH
          rcases Bool.eq_false_or_eq_true ((aB == (cond x1 aB aO)) && ((aE == aQ) && ((aF == aP) && ((aG == aR) && ((decide (aH = aS)) && (((0 : Int) == 0) && ((0 : Int) == 0))))))) with hg20 | hg20
          ·replace h := h.1 hg20
           refine q2 (vb x3) (xT hg20) (wpL_nil ?_)
           exact ⟨x3, H, Has.mk (by kernel_rfl), hs, hb, h⟩
          ·replace h := h.2 hg20
           refine q2 (vb false) (xF hg20) (wpL_nil ?_)
           exact ⟨false, H, Has.mk (by kernel_rfl), hs, hb, h⟩
         ·skip
          rcases Bool.eq_false_or_eq_true (aN == 0) with hg21 | hg21
          ·replace h := h.1 hg21
           refine sk (yD 115 hg21) (sk (yD 115 hg21) (sk (yD 115 hg21) (sk (yD 115 hg21) (stp (v := (vb true)) (want1 rfl (yD 112 hg19)) (xT hg21) (wpL_nil ?_)))))
           replace h := h H12 w27 hs
           replace hs := hs.here
           exact ⟨true, H12, Has.mk (by kernel_rfl), hs, hb, h⟩
          ·replace h := h.2 hg21
           replace h := h H12 w27 hs
           replace hs := hs.here
           obtain ⟨v10, hv2, h⟩ := h
           refine stp (v := v10) (want1 rfl (yD 115 hg21)) (xl (Try.isAgg147 _) hv2) (q1 (vi aN) (want1 rfl (yD 115 hg21)) (q1 (vi aU) (want1 rfl (yD 115 hg21)) ?_))
           obtain ⟨f2, fs2, cs2, hp2, h⟩ := h
           obtain ⟨hf2, h⟩ := h
           refine st_call (want1 rfl (yD 115 hg21)) (x_callmE (fs := fs2) (caps := cs2) (args := #[(vi aN), (vi aU)]) (by kernel_rfl) hp2 hf2 (by kernel_rfl) rfl) (h.mono ?_)
           rintro e w29 ⟨r4, rfl, hk, h⟩
           refine ⟨_, rfl, ?_⟩
           obtain ⟨hs, hb⟩ := hk.hh hs hb
           refine stp (v := (vb r4)) (want1 rfl (yD 112 hg19)) (xF hg21) (wpL_nil ?_)
           exact ⟨r4, H12, Has.mk (by kernel_rfl), hs, hb, h⟩
        ·replace h := h.2 hg19
         refine sk (yD 112 hg19) (sk (yD 112 hg19) (sk (yD 112 hg19) (st_not (by kernel_rfl) (st_not (by kernel_rfl) (st_not (by kernel_rfl) (st_not (by kernel_rfl) (sk (yD 112 hg19) (q2 (vb false) (xF hg19) (wpL_nil ?_)))))))))
         replace h := h H12 w27 hs
         replace hs := hs.here
         exact ⟨false, H12, Has.mk (by kernel_rfl), hs, hb, h⟩
     ·skip
      refine rg (q2 (.agg #[(vi aB), (vi aE), (vi aF), (vu aG), (vs aH), (vi aN), (vi aM)]) (x_loadA (a := p1) (vs := [(vi aB), (vi aE), (vi aF), (vu aG), (vs aH), (vi aN), (vi aM)]) (by kernel_rfl) (Try.isAgg106 _) (Try.sizeOf106 _) rfl (hb.row0 1 7 (gS gZ) (by kernel_rfl))) ?_)
      refine st_call (want0 rfl) (xc Try.call94) ((p_view_vows aB aE aF aG aH aN aM w18).mono ?_)
      rintro e w30 ⟨he, hE⟩
      refine ⟨(vb ((aB == 8) || (aB == 9))), he.trans (by kernel_rfl), ?_⟩
      replace hs := hs.pure hE
      replace hb := hb.pure hE
      clear hE he
      refine q0 (vb ((aB == 8) || (aB == 9))) ?_
      refine wpL_join 3 (fun ρ wJ => ∃ b12'0 y1 : Bool, ∃ HJ : Nat → Prop, (((aB == 8) || (aB == 9)) = b12'0) ∧ (y1 = (b12'0 && ((aO == 8) || (aO == 9)))) ∧ Hst w0 H11 w18 HJ wJ ∧ HB HJ wJ [(p2, [(vi aO), (vi aQ), (vi aP), (vu aR), (vs aS), (vi aU), (vi aT)], 106), (p1, [(vi aB), (vi aE), (vi aF), (vu aG), (vs aH), (vi aN), (vi aM)], 106)] ∧ Has ρ [(5, (vp (some cap4))), (6, (vp (some cap5))), (14, (vp (some p1))), (16, (vp (some p2))), (81, (vb y1))]) ?_ ?_
      ·clear hs hb
       rintro ρ w32 ⟨b12'0, y1, H13, he0, hy1, hs, hb, hH⟩
       subst he0
       replace h := h y1 hy1
       refine wpL_has hH ?_
       clear hH
       refine q0 (vb y1) ?_
       refine wpL_join 5 (fun ρ w => ∃ x4 : Bool, ∃ H : Nat → Prop, Has ρ [(5, (vp (some cap4))), (6, (vp (some cap5))), (14, (vp (some p1))), (16, (vp (some p2))), (87, (vb x4))] ∧ Hst w0 H w H w ∧ HB H w [(p2, [(vi aO), (vi aQ), (vi aP), (vu aR), (vs aS), (vi aU), (vi aT)], 106), (p1, [(vi aB), (vi aE), (vi aF), (vu aG), (vs aH), (vi aN), (vi aM)], 106)] ∧ m_view_Alike_1_j4 cap4 cap5 aB aE aF aG aH aN aM aO aQ aP aR aS aU aT x4 w0 H w K) ?_ ?_
       ·clear h hs hb
        rintro ρ w ⟨x4, H, hH, hs, hb, h⟩
        unfold m_view_Alike_1_j4 at h
        refine wpL_has hH ?_
        clear hH
        refine q0 (vb x4) ?_
        rcases Bool.eq_false_or_eq_true x4 with hg24 | hg24
        ·replace h := h.1 hg24
         obtain ⟨v11, hv3, h⟩ := h
         refine stp (v := (vi v11)) (want1 rfl (yD 88 hg24)) (xl (Try.isAgg3 _) hv3) (stp (v := (.agg #[(vi aO), (vi aQ), (vi aP), (vu aR), (vs aS), (vi aU), (vi aT)])) (want1 rfl (yD 88 hg24)) (x_loadA (a := p2) (vs := [(vi aO), (vi aQ), (vi aP), (vu aR), (vs aS), (vi aU), (vi aT)]) (by kernel_rfl) (Try.isAgg106 _) (Try.sizeOf106 _) rfl (hb.row0 0 7 gZ (by kernel_rfl))) ?_)
         refine st_call (want1 rfl (yD 88 hg24)) (xc Try.call95) ((p_view_knows v11 aO aQ aP aR aS aU aT w).mono ?_)
         rintro e w34 ⟨he, hE⟩
         refine ⟨(vb (s_view_knows v11 aO aQ aP aR aS aU aT)), he.trans (by kernel_rfl), ?_⟩
         replace hs := hs.pure hE
         replace hb := hb.pure hE
         clear hE he
         refine q1 (vb (!(s_view_knows v11 aO aQ aP aR aS aU aT))) (want1 rfl (yD 88 hg24)) (q2 (vb (!(s_view_knows v11 aO aQ aP aR aS aU aT))) (xT hg24) (wpL_nil ?_))
         replace h := h w34 hs
         replace hs := hs.here
         refine th_n ?_
         exact ⟨(!(s_view_knows v11 aO aQ aP aR aS aU aT)), H, Has.mk (by kernel_rfl), hs, hb, h⟩
        ·replace h := h.2 hg24
         refine sk (yD 88 hg24) (sk (yD 88 hg24) (sk (yD 88 hg24) (sk (yD 88 hg24) (q2 (vb false) (xF hg24) (wpL_nil (th_n ?_))))))
         exact ⟨false, H, Has.mk (by kernel_rfl), hs, hb, h⟩
       ·skip
        rcases Bool.eq_false_or_eq_true y1 with hg25 | hg25
        ·replace h := h.1 hg25
         replace h := h H13 w32 hs
         replace hs := hs.here
         obtain ⟨v12, hv4, h⟩ := h
         refine stp (v := (vi v12)) (want1 rfl (yD 82 hg25)) (xl (Try.isAgg3 _) hv4) (stp (v := (.agg #[(vi aB), (vi aE), (vi aF), (vu aG), (vs aH), (vi aN), (vi aM)])) (want1 rfl (yD 82 hg25)) (x_loadA (a := p1) (vs := [(vi aB), (vi aE), (vi aF), (vu aG), (vs aH), (vi aN), (vi aM)]) (by kernel_rfl) (Try.isAgg106 _) (Try.sizeOf106 _) rfl (hb.row0 1 7 (gS gZ) (by kernel_rfl))) ?_)
         refine st_call (want1 rfl (yD 82 hg25)) (xc Try.call95) ((p_view_knows v12 aB aE aF aG aH aN aM w32).mono ?_)
         rintro e w35 ⟨he, hE⟩
         refine ⟨(vb (s_view_knows v12 aB aE aF aG aH aN aM)), he.trans (by kernel_rfl), ?_⟩
         replace hs := hs.pure hE
         replace hb := hb.pure hE
         clear hE he
         refine q1 (vb (!(s_view_knows v12 aB aE aF aG aH aN aM))) (want1 rfl (yD 82 hg25)) (q2 (vb (!(s_view_knows v12 aB aE aF aG aH aN aM))) (xT hg25) (wpL_nil ?_))
         replace h := h w35 hs
         replace hs := hs.here
         exact ⟨(!(s_view_knows v12 aB aE aF aG aH aN aM)), H13, Has.mk (by kernel_rfl), hs, hb, h⟩
        ·replace h := h.2 hg25
         refine sk (yD 82 hg25) (sk (yD 82 hg25) (sk (yD 82 hg25) (sk (yD 82 hg25) (q2 (vb false) (xF hg25) (wpL_nil ?_)))))
         replace h := h H13 w32 hs
         replace hs := hs.here
         exact ⟨false, H13, Has.mk (by kernel_rfl), hs, hb, h⟩
      ·skip
       rcases Bool.eq_false_or_eq_true ((aB == 8) || (aB == 9)) with hg23 | hg23
       ·skip
        refine stp (v := (.agg #[(vi aO), (vi aQ), (vi aP), (vu aR), (vs aS), (vi aU), (vi aT)])) (want1 rfl (yD 78 hg23)) (x_loadA (a := p2) (vs := [(vi aO), (vi aQ), (vi aP), (vu aR), (vs aS), (vi aU), (vi aT)]) (by kernel_rfl) (Try.isAgg106 _) (Try.sizeOf106 _) rfl (hb.row0 0 7 gZ (by kernel_rfl))) ?_
        refine st_call (want1 rfl (yD 78 hg23)) (xc Try.call94) ((p_view_vows aO aQ aP aR aS aU aT w30).mono ?_)
        rintro e w33 ⟨he, hE⟩
        refine ⟨(vb ((aO == 8) || (aO == 9))), he.trans (by kernel_rfl), ?_⟩
        replace hs := hs.pure hE
        replace hb := hb.pure hE
        clear hE he
        refine q2 (vb ((aO == 8) || (aO == 9))) (xT hg23) (wpL_nil ?_)
        exact ⟨true, _, _, hg23, rfl, hs, hb, Has.mk (by kernel_rfl)⟩
       ·skip
        refine sk (yD 78 hg23) (sk (yD 78 hg23) (q2 (vb false) (xF hg23) (wpL_nil ?_)))
        exact ⟨false, _, _, hg23, rfl, hs, hb, Has.mk (by kernel_rfl)⟩
end Go.Proofs
end
