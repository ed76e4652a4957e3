import Derived.Test.YtakogcapgbilaaaPa4
import Derived.Test.YtakogcapgbilaaaPa2
import Derived.Test.YtakogcapgbilaaaProg
import Derived.KernelRfl
import Derived.Test.YtakogcapgbilaaaPa0
import Derived.Test.YtakogcapgbilaaaPa3
import Derived.Test.YtakogcapgbilaaaPa1
section
namespace Go.Sp
mutual
def cnt : Tree → Nat
 | .mk _ _ _ _ _ ks => 1 + cntAll ks
def cntAll : List Tree → Nat
 | [] => 0
 | t :: ts => cnt t + cntAll ts
end
theorem cnt_pos (t : Tree) : 1 ≤ cnt t := by cases t; simp [cnt]
theorem cntAll_len : ∀ ks : List Tree, ks.length ≤ cntAll ks
 | [] => by simp
 | t :: ts => by have := cnt_pos t; have := cntAll_len ts; simp only [cntAll, List.length_cons]; omega
theorem cntAll_get : ∀ {ks : List Tree} {i : Nat} (hi : i < ks.length), cnt ks[i] ≤ cntAll ks
 | t :: ts, 0, _ => by simp [cntAll]
 | t :: ts, i + 1, hi => by
  have := cntAll_get (ks := ts) (i := i) (by simpa using hi)
  simp only [cntAll, List.getElem_cons_succ]; omega
mutual
def parts (most : Int) : Tree → Int
 | .mk _ _ _ _ _ ks => partsAll most 1 ks
def partsAll (most n : Int) : List Tree → Int
 | [] => n
 | t :: ts => if n ≤ most then partsAll most (n + parts (most - n) t) ts else n
end
theorem parts_facts (t : Tree) : ∀ most : Int, 0 ≤ most → 1 ≤ parts most t ∧ parts most t ≤ most + 1 ∧ (parts most t ≤ most → (cnt t : Int) = parts most t) := by
 induction t using Tree.ind with
 | h k f tt u x ks ih =>
  have hA : ∀ (ks : List Tree), (∀ i (hi : i < ks.length), ∀ most : Int, 0 ≤ most → 1 ≤ parts most ks[i] ∧ parts most ks[i] ≤ most + 1 ∧ (parts most ks[i] ≤ most → (cnt ks[i] : Int) = parts most ks[i])) →
    ∀ most n : Int, 1 ≤ n → n ≤ most + 1 → n ≤ partsAll most n ks ∧ partsAll most n ks ≤ most + 1 ∧ (partsAll most n ks ≤ most → n + (cntAll ks : Int) = partsAll most n ks) := by
   intro ks
   induction ks with
   | nil => intro _ most n h1 h2; simp [partsAll, cntAll, h2]
   | cons t ts iht =>
    intro hh most n h1 h2
    unfold partsAll
    by_cases hn : n ≤ most
    ·rw [if_pos hn]
     have h0 := hh 0 (by simp) (most - n) (by omega)
     simp only [List.getElem_cons_zero] at h0
     have h3 := iht (fun i hi => hh (i + 1) (by simpa using hi)) most (n + parts (most - n) t) (by omega) (by omega)
     refine ⟨by omega, h3.2.1, fun h => ?_⟩
     have h4 := h3.2.2 h
     have h5 := h0.2.2 (by omega)
     simp only [cntAll]; omega
    ·rw [if_neg hn]; exact ⟨Int.le_refl _, h2, fun h => absurd h hn⟩
  intro most hm
  have := hA ks ih most 1 (by omega) (by omega)
  simp only [parts, cnt]
  refine ⟨this.1, this.2.1, fun h => ?_⟩
  have := this.2.2 h
  omega
mutual
def same : Tree → Tree → Bool
 | .mk k f t u x ks, .mk k' f' t' u' x' ks' => decide (k = k') && decide (f = f') && decide (t = t') && decide (u = u') && decide (x = x') && sameAll ks ks'
def sameAll : List Tree → List Tree → Bool
 | [], [] => true
 | t :: ts, t' :: ts' => same t t' && sameAll ts ts'
 | _, _ => false
end
theorem same_iff (a : Tree) : ∀ b, same a b = true ↔ a = b := by
 induction a using Tree.ind with
 | h k f t u x ks ih =>
  have hA : ∀ (ks : List Tree), (∀ i (hi : i < ks.length), ∀ b, same ks[i] b = true ↔ ks[i] = b) → ∀ ks', sameAll ks ks' = true ↔ ks = ks' := by
   intro ks
   induction ks with
   | nil => intro _ ks'; cases ks' <;> simp [sameAll]
   | cons t ts iht =>
    intro hh ks'
    cases ks' with
    | nil => simp [sameAll]
    | cons t' ts' =>
     have h0 := hh 0 (by simp) t'
     simp only [List.getElem_cons_zero] at h0
     simp only [sameAll, Bool.and_eq_true, h0, iht (fun i hi => hh (i + 1) (by simpa using hi)) ts', List.cons.injEq]
  intro b
  obtain ⟨k', f', t', u', x', ks'⟩ := b
  simp only [same, Bool.and_eq_true, decide_eq_true_eq, hA ks ih ks', Tree.mk.injEq]
  constructor
  ·rintro ⟨⟨⟨⟨⟨h1, h2⟩, h3⟩, h4⟩, h5⟩, h6⟩; exact ⟨h1, h2, h3, h4, h5, h6⟩
  ·rintro ⟨h1, h2, h3, h4, h5, h6⟩; exact ⟨⟨⟨⟨⟨h1, h2⟩, h3⟩, h4⟩, h5⟩, h6⟩
end Go.Sp
end
section
open Go Go.SE
namespace Go.Proofs
attribute [local irreducible] Calls
theorem TreeAt.hst {S : Nat → Prop} {w0 w w' : World} {H H' : Nat → Prop} {s : Sl} {t : Sp.Tree} (h : TreeAt S w s t) (hs : Hst w0 H w H' w') (hd : ∀ b, S b → b < w.heap.size ∧ ¬ H b) : TreeAt S w' s t :=
 h.ext hs.ext (fun b hb hh => hs.disj (G := S) hd b hb hh)
theorem c_ref05_Parts {S : Nat → Prop} (t : Sp.Tree) : ∀ (s : Sl) (most : Int) (w0 : World), 0 ≤ most → most ≤ 1000000000 → TreeAt S w0 s t → (∀ b, S b → b < w0.heap.size) →
  Calls Try.prog 71 #[.agg (trow t s).toArray, .int .i64 most] w0 (fun e w' => ∃ r : Int, e = .returned (.int .i64 r) ∧ (r = Sp.parts most t ∧ Pure w0 w')) := by
 induction t using Sp.Tree.ind with
 | h k f t u x ks ih =>
 intro s most w0 hm0 hm hT hSw
 suffices key : ∀ K : Int → World → Prop, (∀ r w', (r = Sp.parts most (.mk k f t u x ks) ∧ Pure w0 w') → K r w') → m_ref05_Parts k f t u x s most w0 K from
  w_ref05_Parts _ _ _ _ _ _ _ w0 _ (key _ (fun _ _ h => h))
 intro K hK
 have hlen : s.len = ks.length := by cases hT; assumption
 have hfit : ks.length ≤ 9223372036854775807 := by cases hT; assumption
 unfold m_ref05_Parts
 intro H1 w1 hs1
 refine ⟨fun n i H w' => ∃ j : Nat, i = j ∧ j ≤ ks.length ∧ 1 ≤ n ∧ n ≤ most + 1 ∧ Pure w0 w' ∧ Sp.partsAll most 1 ks = Sp.partsAll most n (ks.drop j), fun _ i _ => ((ks.length : Int) - i).toNat, ⟨0, rfl, Nat.zero_le _, Int.le_refl _, by omega, hs1.first, rfl⟩, ?_⟩
 rintro n _ Hl wl hl ⟨j, rfl, hj, hn1, hn2, El, heq⟩
 unfold m_ref05_Parts_l1
 refine ⟨fun hc => ?_, fun hc => ?_⟩
 ·simp only [Bool.and_eq_true, decide_eq_true_eq] at hc
  have hlt : j < ks.length := by omega
  rw [List.drop_eq_getElem_cons hlt, Sp.partsAll, if_pos hc.2] at heq
  have hT1 := hT.pure El
  cases hT1 with
  | mk _ _ _ _ _ _ _ rs len fit row kid =>
  obtain ⟨a, hat, ha, hr⟩ := row j hlt
  refine ⟨a, hat, ?_⟩
  intro H2 w2 hs2
  have hd : ∀ b, S b → ¬ H2 b := fun b hb hh => by have := hs2.old _ hh; have := hSw b hb; omega
  refine ⟨_, _, _, _, _, rs j, hs2.ext.row hr (hd _ ha), ?_⟩
  rw [i64 (n := most - n) (by omega) (by omega)]
  refine (ih j hlt (rs j) (most - n) w2 (by omega) (by omega) ((kid j hlt).ext hs2.ext hd) (fun b hb => by have := hSw b hb; have := (El.hst hs2).size; omega)).mono ?_
  rintro _ w3 ⟨r, rfl, rfl, E3⟩
  have hpf := Sp.parts_facts ks[j] (most - n) (by omega)
  refine ⟨_, rfl, E3.keptP, ?_⟩
  rw [wrap_succ hlt (by omega), i64 (n := n + Sp.parts (most - n) ks[j]) (by omega) (by omega)]
  exact ⟨⟨j + 1, rfl, hlt, by omega, by omega, (El.hst hs2).trans E3, heq⟩, lt_dec hlt⟩
 ·intro H2 w2 hs2
  refine hK _ _ ⟨?_, El.hst hs2⟩
  rw [Sp.parts, heq]
  by_cases hj2 : j = ks.length
  ·rw [hj2, List.drop_length]; rfl
  ·have hlt : j < ks.length := by omega
   rw [List.drop_eq_getElem_cons hlt, Sp.partsAll, if_neg]
   intro h
   have : decide (n ≤ most) = true := decide_eq_true h
   have h2 : decide ((j : Int) < (s.len : Int)) = true := decide_eq_true (by omega)
   rw [this, h2] at hc; cases hc
theorem sameAll_drop {xs ys : List Sp.Tree} {j : Nat} (hl : xs.length = ys.length) (hj : j < xs.length) : Sp.sameAll (xs.drop j) (ys.drop j) = (Sp.same xs[j] (ys[j]'(by omega)) && Sp.sameAll (xs.drop (j + 1)) (ys.drop (j + 1))) := by
 rw [List.drop_eq_getElem_cons hj, List.drop_eq_getElem_cons (show j < ys.length by omega), Sp.sameAll]
theorem sameAll_len : ∀ {xs ys : List Sp.Tree}, Sp.sameAll xs ys = true → xs.length = ys.length
 | [], [], _ => rfl
 | a :: xs, b :: ys, h => by simp only [Sp.sameAll, Bool.and_eq_true] at h; simp [sameAll_len h.2]
 | [], b :: ys, h => by simp [Sp.sameAll] at h
 | a :: xs, [], h => by simp [Sp.sameAll] at h
theorem c_ref05_Same {S : Nat → Prop} (t : Sp.Tree) : ∀ (t' : Sp.Tree) (s s' : Sl) (w0 : World), TreeAt S w0 s t → TreeAt S w0 s' t' → (∀ b, S b → b < w0.heap.size) →
  Calls Try.prog 61 #[.agg (trow t s).toArray, .agg (trow t' s').toArray] w0 (fun e w' => ∃ r : Bool, e = .returned (.bool r) ∧ (r = Sp.same t t' ∧ Pure w0 w')) := by
 induction t using Sp.Tree.ind with
 | h k f t u x ks ih =>
 intro t' s s' w0 hT hT' hSw
 obtain ⟨k', f', tt', u', x', ks'⟩ := t'
 suffices key : ∀ K : Bool → World → Prop, (∀ r w', (r = Sp.same (.mk k f t u x ks) (.mk k' f' tt' u' x' ks') ∧ Pure w0 w') → K r w') → m_ref05_Same k f t u x s k' f' tt' u' x' s' w0 K from
  w_ref05_Same _ _ _ _ _ _ _ _ _ _ _ _ w0 _ (key _ (fun _ _ h => h))
 intro K hK
 have hlen : s.len = ks.length := by cases hT; assumption
 have hlen' : s'.len = ks'.length := by cases hT'; assumption
 have hfit : ks.length ≤ 9223372036854775807 := by cases hT; assumption
 unfold m_ref05_Same
 rintro y1 rfl
 refine ⟨fun h => ?_, fun h => ?_⟩
 ·intro H7 w7 hs7
  refine hK _ _ ⟨?_, hs7.first⟩
  symm
  apply Bool.eq_false_iff.2
  intro hs
  simp only [Sp.same, Bool.and_eq_true, decide_eq_true_eq] at hs
  obtain ⟨⟨⟨⟨⟨rfl, rfl⟩, rfl⟩, rfl⟩, rfl⟩, h6⟩ := hs
  have := sameAll_len h6
  simp [hlen, hlen', this] at h
 ·have hne : k = k' ∧ f = f' ∧ t = tt' ∧ u = u' ∧ x = x' ∧ ks.length = ks'.length := by
   simp only [Bool.or_eq_false_iff, bne_eq_false_iff_eq, Bool.not_eq_false', decide_eq_true_eq] at h
   obtain ⟨⟨⟨⟨⟨h1, h2⟩, h3⟩, h4⟩, h5⟩, h6⟩ := h
   exact ⟨h1, h2, h3, h4, h5, by omega⟩
  obtain ⟨rfl, rfl, rfl, rfl, rfl, hll⟩ := hne
  have hsp : Sp.same (.mk k f t u x ks) (.mk k f t u x ks') = Sp.sameAll ks ks' := by simp [Sp.same]
  rw [hsp] at hK
  intro H7 w7 hs7
  refine ⟨fun i H w' => ∃ j : Nat, i = j ∧ j ≤ ks.length ∧ Pure w0 w' ∧ Sp.sameAll ks ks' = Sp.sameAll (ks.drop j) (ks'.drop j), fun i _ => ((ks.length : Int) - i).toNat, ⟨0, rfl, Nat.zero_le _, hs7.first, rfl⟩, ?_⟩
  rintro _ Hl wl hl ⟨j, rfl, hj, El, heq⟩
  unfold m_ref05_Same_l1
  refine ⟨fun hc => ?_, fun hc => ?_⟩
  ·have hlt := lt_of_dec hlen hc
   have hlt' : j < ks'.length := by omega
   rw [sameAll_drop hll hlt] at heq
   have g1 : ∃ a r, At s j 6 a ∧ S a.block ∧ (∀ w', Pure w0 w' → Row w' a (trow ks[j] r)) ∧ TreeAt S w0 r ks[j] := by
    cases hT with
    | mk _ _ _ _ _ _ _ rs len fit row kid => obtain ⟨a, h1, h2, h3⟩ := row j hlt; exact ⟨a, rs j, h1, h2, fun w' E => E.row h3 id, kid j hlt⟩
   have g2 : ∃ a r, At s' j 6 a ∧ S a.block ∧ (∀ w', Pure w0 w' → Row w' a (trow ks'[j] r)) ∧ TreeAt S w0 r ks'[j] := by
    cases hT' with
    | mk _ _ _ _ _ _ _ rs len fit row kid => obtain ⟨a, h1, h2, h3⟩ := row j hlt'; exact ⟨a, rs j, h1, h2, fun w' E => E.row h3 id, kid j hlt'⟩
   obtain ⟨a, r, hat, _, hr, hk⟩ := g1
   obtain ⟨a', r', hat', _, hr', hk'⟩ := g2
   refine ⟨fun w' => Pure w0 w', El.trans (Ext.drew wl), ?_⟩
   rintro _ rfl
   have Ed := El.trans (Ext.drew wl)
   refine ⟨a, hat, _, _, _, _, _, r, fun w' h => hr w' h, a', hat', _, _, _, _, _, r', fun w' h => hr' w' h, ?_⟩
   refine (ih j hlt ks'[j] r r' wl.drew (hk.pure Ed) (hk'.pure Ed) (fun b hb => by have := hSw b hb; have := Ed.size; omega)).mono ?_
   rintro _ w13 ⟨q, rfl, rfl, E13⟩
   refine ⟨_, rfl, Ed.trans E13, E13.keptP, fun h => ?_, fun h => ?_⟩
   ·have h : Sp.same ks[j] ks'[j] = false := by simpa using h
    exact hK _ _ ⟨by rw [heq, h]; rfl, Ed.trans E13⟩
   ·have h : Sp.same ks[j] ks'[j] = true := by simpa using h
    rw [h, Bool.true_and] at heq
    rw [wrap_succ hlt (by omega)]
    exact ⟨⟨j + 1, rfl, hlt, Ed.trans E13, heq⟩, lt_dec hlt⟩
  ·have hge := eq_of_dec hlen hj hc
   subst hge
   rw [List.drop_length, hll, List.drop_length] at heq
   exact hK _ _ ⟨heq.symm, El⟩
end Go.Proofs
end
section
open Go Go.SE
namespace Go.Proofs
attribute [local irreducible] Calls
theorem slT_tree : SlType Try.prog 22 116 6 72 := by
 refine ⟨Try.underlying22, ⟨Try.t116, _, by kernel_rfl, (by kernel_rfl : Try.t116.zero = some (.agg #[.int .i64 0, .int .i64 0, .int .i64 0, .int .u64 0, .string ⟨#[]⟩, .slice none 0 0])), by kernel_rfl, by kernel_rfl, rfl⟩, by omega⟩
def prow (p : Sp.Tree × Sl) : List Value := trow p.1 p.2
theorem TreeAt.of_pairs {S : Nat → Prop} {w : World} {s : Sl} {e : TypeId} {ps : List (Sp.Tree × Sl)} {k f t u : Int} {x : ByteArray} (hR : Rws w e 6 s (ps.map prow)) (hS : ∀ b, s.blk b → S b) (hk : ∀ p ∈ ps, TreeAt S w p.2 p.1) (fit : ps.length ≤ 9223372036854775807) : TreeAt S w s (.mk k f t u x (ps.map Prod.fst)) := by
 refine .mk k f t u x _ s (fun i => (ps.getD i (Sp.noTree, Sl.nil)).2) (by rw [hR.len]; simp) (by simpa using fit) (fun i h => ?_) (fun i h => ?_)
 ·have h' : i < ps.length := by simpa using h
  obtain ⟨a, h1, h2, h3⟩ := hR.at (i := i) (by omega) (by simpa using h')
  refine ⟨a, h1, hS _ h3, ?_⟩
  have e1 : (ps.map Prod.fst)[i] = ps[i].1 := by simp
  have e2 : (ps.getD i (Sp.noTree, Sl.nil)).2 = ps[i].2 := by simp [List.getD_eq_getElem?_getD, h']
  rw [e1, e2]; simpa [prow] using h2
 ·have h' : i < ps.length := by simpa using h
  have e1 : (ps.map Prod.fst)[i] = ps[i].1 := by simp
  have e2 : (ps.getD i (Sp.noTree, Sl.nil)).2 = ps[i].2 := by simp [List.getD_eq_getElem?_getD, h']
  rw [e1, e2]; exact hk _ (List.getElem_mem h')
theorem trow_one (t : Sp.Tree) (s : Sl) : (trow t s).all oneCell = true := by simp [trow, oneCell, Sl.v]
theorem c_ref05_Lent {S : Nat → Prop} (t : Sp.Tree) : ∀ (s : Sl) (w0 : World), Sp.cnt t ≤ 1000000 → TreeAt S w0 s t → (∀ b, S b → b < w0.heap.size) →
  Calls Try.prog 76 #[.agg (trow t s).toArray] w0 (RetT w0.heap.size w0 t) := by
 induction t using Sp.Tree.ind with
 | h k f t u x ks ih =>
 intro s w0 hcnt hT hSw
 suffices key : ∀ K : Int → Int → Int → Int → ByteArray → Sl → World → Prop, (∀ s' w', TreeAt (w0.heap.size ≤ ·) w' s' (.mk k f t u x ks) → Pure w0 w' → K k f t u x s' w') → m_ref05_Lent k f t u x s w0 K by
  refine (w_ref05_Lent _ _ _ _ _ _ w0 (fun k' f' t' u' x' s' w' => (k' = k ∧ f' = f ∧ t' = t ∧ u' = u ∧ x' = x) ∧ TreeAt (w0.heap.size ≤ ·) w' s' (.mk k f t u x ks) ∧ Pure w0 w') (key _ (fun s' w' h1 h2 => ⟨⟨rfl, rfl, rfl, rfl, rfl⟩, h1, h2⟩))).mono ?_
  rintro _ w' ⟨_, _, _, _, _, s', rfl, ⟨rfl, rfl, rfl, rfl, rfl⟩, h1, h2⟩
  exact ⟨s', rfl, h1, h2⟩
 intro K hK
 have hlen : s.len = ks.length := by cases hT; assumption
 have hca : 1 + Sp.cntAll ks ≤ 1000000 := by simpa [Sp.cnt] using hcnt
 have hkl := Sp.cntAll_len ks
 have hnil : ∀ b, ¬ Sl.nil.blk b := fun b hb => by obtain ⟨a, h, _⟩ := hb; cases h
 unfold m_ref05_Lent
 intro H3 w5 hs5
 refine ⟨fun i _ _ _ _ _ yk H w' => ∃ j : Nat, i = j ∧ j ≤ ks.length ∧ Pure w0 w' ∧ ∃ (ps : List (Sp.Tree × Sl)) (S' : Nat → Prop), ps.map Prod.fst = ks.take j ∧ Own H w' 116 6 yk (ps.map prow) ∧ (∀ p ∈ ps, TreeAt S' w' p.2 p.1) ∧ (∀ b, S' b → w0.heap.size ≤ b ∧ b < w'.heap.size ∧ ¬ H b ∧ ¬ yk.blk b) ∧ (∀ b, yk.blk b → w0.heap.size ≤ b),
  fun i _ _ _ _ _ _ _ => ((ks.length : Int) - i).toNat, ⟨0, rfl, Nat.zero_le _, hs5.first, [], fun _ => False, by simp, Own.nil _ _, by simp, fun b h => h.elim, fun b h => (hnil b h).elim⟩, ?_⟩
 rintro _ y1 y2 y3 y4 y5 yk Hl wl hl ⟨j, rfl, hj, El, ps, S', hps, Oy, hkids, hS', hyk⟩
 have hpl : ps.length = j := by have := congrArg List.length hps; simpa [Nat.min_eq_left hj] using this
 unfold m_ref05_Lent_l1
 refine ⟨fun hc => ?_, fun hc => ?_⟩
 ·have hlt := lt_of_dec hlen hc
  have g1 : ∃ a r, At s j 6 a ∧ S a.block ∧ (∀ w', Pure w0 w' → Row w' a (trow ks[j] r)) ∧ TreeAt S w0 r ks[j] := by
   cases hT with
   | mk _ _ _ _ _ _ _ rs len fit row kid => obtain ⟨a, h1, h2, h3⟩ := row j hlt; exact ⟨a, rs j, h1, h2, fun w' E => E.row h3 id, kid j hlt⟩
  obtain ⟨a, r, hat, _, hr, hk⟩ := g1
  have E6 : Pure wl wl.drew := Ext.drew wl
  have Ed := El.trans E6
  refine ⟨fun w' => Pure w0 w', Ed, ?_⟩
  rintro _ rfl
  refine ⟨a, hat, _, _, _, _, _, r, fun w' h => hr w' h, ?_⟩
  have hcj := Sp.cntAll_get (ks := ks) hlt
  refine (ih j hlt r wl.drew (by omega) (hk.pure Ed) (fun b hb => by have := hSw b hb; have := Ed.size; omega)).mono ?_
  rintro _ w7 ⟨s', rfl, hTk, E7⟩
  have E07 := Ed.trans E7
  refine ⟨_, _, _, _, _, s', rfl, E07, E7.keptP, ?_⟩
  intro p4 w8 h8
  have E8 : Pure w7 w8 := Ext.new h8
  refine ⟨E07.trans E8, ?_⟩
  have hs8 : Hst w0 Hl w8 Hl w8 := (hl.again E6.keptP).again (E7.trans E8).keptP
  have O8 := Oy.pure ((E6.trans E7).trans E8)
  obtain ⟨s1, w9, hr9, hO9, hE9, hk9, hb9⟩ := O8.append (P := Try.prog) (ty := 22) (c := 1) slT_tree hs8 (r := trow ks[j] s') (Box.of_new h8).row rfl (trow_one _ _) (by simp; omega) (by simp [maxLen]; omega)
  have E09 : Pure w0 w9 := (E07.trans E8).trans' hE9 (fun i hi hb => by have := hyk i hb; omega)
  refine ⟨s1, w9, hr9, E09, hk9, ?_⟩
  intro w10 hs10
  have hsd : wl.drew.heap.size = wl.heap.size := rfl
  have z7 := E7.size
  have z8 := E8.size
  have z9 := hE9.size
  have hSn : ∀ b, (S' b ∨ (wl.heap.size ≤ b ∧ b < w7.heap.size)) → w0.heap.size ≤ b ∧ b < w9.heap.size ∧ ¬ Hl b ∧ ¬ s1.blk b := by
   rintro b (hb | ⟨h1, h2⟩)
   ·obtain ⟨q1, q2, q3, q4⟩ := hS' b hb
    exact ⟨q1, by omega, q3, fun h => (hb9 b h).elim q4 (fun h => by omega)⟩
   ·refine ⟨by have := El.size; omega, by omega, fun h => by have := hl.lt b h; omega, fun h => (hb9 b h).elim (fun h => by have := Oy.rows.lt h; omega) (fun h => by omega)⟩
  rw [wrap_succ hlt (by omega)]
  refine ⟨⟨j + 1, rfl, hlt, E09.hst hs10, ps ++ [(ks[j], s')], fun b => S' b ∨ (wl.heap.size ≤ b ∧ b < w7.heap.size), ?_, ?_, ?_, ?_, ?_⟩, lt_dec hlt⟩
  ·rw [List.map_append, hps, List.take_succ_eq_append_getElem hlt]; rfl
  ·have : (ps ++ [(ks[j], s')]).map prow = ps.map prow ++ [trow ks[j] s'] := by simp [prow]
   rw [this]; exact hO9.hst hs10
  ·intro p hp
   have hnb : ∀ b, (S' b ∨ (wl.heap.size ≤ b ∧ b < w7.heap.size)) → b < w9.heap.size ∧ ¬ Hl b := fun b hb => ⟨(hSn b hb).2.1, (hSn b hb).2.2.1⟩
   rcases List.mem_append.1 hp with h | h
   ·have := (hkids p h).pure ((E6.trans E7).trans E8)
    have := this.ext hE9 (fun b hb hy => (hS' b hb).2.2.2 hy)
    exact (this.mono (fun b hb => .inl hb)).hst hs10 hnb
   ·simp only [List.mem_singleton] at h; subst h
    have := (hTk.lt.pure E8).ext hE9 (fun b hb hy => by have := Oy.rows.lt hy; have := hb.1; omega)
    exact (this.mono (S' := fun b => S' b ∨ (wl.heap.size ≤ b ∧ b < w7.heap.size)) (fun b hb => .inr ⟨by have := hb.1; omega, hb.2⟩)).hst hs10 hnb
  ·intro b hb
   obtain ⟨q1, q2, q3, q4⟩ := hSn b hb
   exact ⟨q1, Nat.lt_of_lt_of_le q2 hs10.ext.size, q3, q4⟩
  ·intro b hb
   exact (hb9 b hb).elim (hyk b) (fun h => by have := (E07.trans E8).size; omega)
 ·have hge := eq_of_dec hlen hj hc
  subst hge
  rw [List.take_length] at hps
  have E6 : Pure wl wl.drew := Ext.drew wl
  refine ⟨fun _ => True, trivial, ?_⟩
  rintro _ rfl
  intro p5 w12 h12
  have E12 : Pure wl w12 := E6.trans (Ext.new h12)
  refine ⟨trivial, ?_⟩
  have hs12 : Hst w0 Hl w12 Hl w12 := hl.again E12.keptP
  obtain ⟨s2, w13, hr13, hO13, hE13, hk13, hb13⟩ := (Oy.pure E12).append (P := Try.prog) (ty := 22) (c := 1) slT_tree hs12 (r := trow (.mk (-1) 0 0 0 ⟨#[]⟩ []) Sl.nil) (Box.of_new h12).row rfl (trow_one _ _) (by simp; omega) (by simp [maxLen]; omega)
  refine ⟨s2, w13, hr13, trivial, hk13, ?_⟩
  have hyl : yk.len = ks.length := by rw [Oy.len]; simp [hpl]
  obtain ⟨s3, hr3, hR3, hb3⟩ := Rws.hiA (P := Try.prog) slT_tree hO13.rows (k := .i64) (n := (ks.length : Int)) (by omega) (by simp [hpl]; omega)
  rw [hyl]
  refine ⟨s3, fun w' _ => hr3 w', ?_⟩
  intro w14 hs14
  have hR3' : Rws w13 116 6 s3 (ps.map prow) := by
   have e : ((ps.map prow) ++ [trow (.mk (-1) 0 0 0 ⟨#[]⟩ []) Sl.nil]).take (ks.length : Int).toNat = ps.map prow := by
    rw [Int.toNat_natCast]; exact List.take_left' (by simp [hpl])
   rw [e] at hR3; exact hR3
  have hv3 : ∀ b, s3.blk b → b < w13.heap.size ∧ ¬ Hl b := fun b hb => ⟨hR3'.lt hb, hO13.vis b ((hb3 b).1 hb)⟩
  have hR14 := hR3'.ext hs14.ext (hs14.disj (G := s3.blk) hv3)
  have z12 := E12.size
  have z13 := hE13.size
  have hs3 : ∀ b, s3.blk b → w0.heap.size ≤ b := fun b hb => (hb13 b ((hb3 b).1 hb)).elim (hyk b) (fun h => by have := El.size; omega)
  refine hK s3 w14 ?_ ?_
  ·have hT3 := TreeAt.of_pairs (S := fun b => w0.heap.size ≤ b) (k := k) (f := f) (t := t) (u := u) (x := x) hR14 hs3 (fun p hp => ?_) (by omega)
   ·rw [hps] at hT3; exact hT3
   ·have h1 := ((hkids p hp).pure E12).ext hE13 (fun b hb hy => (hS' b hb).2.2.2 hy)
    exact (h1.hst hs14 (fun b hb => ⟨by have := (hS' b hb).2.1; omega, (hS' b hb).2.2.1⟩)).mono (fun b hb => (hS' b hb).1)
  ·exact ((El.trans E12).trans' hE13 (fun i hi hb => by have := hyk i hb; omega)).hst hs14
end Go.Proofs
end
section
open Go Go.SE
namespace Go.Proofs
set_option maxRecDepth 100000
set_option maxHeartbeats 4000000
attribute [local irreducible] wpL wpX opE wpE Calls
def m_law13_large (l1 : Sl) (w0 : World) (K : Bool → World → Prop) : Prop :=
 Br (decide ((l1.len : Int) > 40))
  (K true w0)
  (Calls Try.prog 71 #[(.agg #[(vi 0), (vi 0), (vi 0), (vu 0), (vs ⟨#[]⟩), l1.v]), (vi 6000)] w0 (fun e w1 => ∃ r1 : Int, e = .returned (vi r1) ∧ 
   K (decide (r1 > 6000)) w1))
theorem w_law13_large (l1 : Sl) (w0 : World) (K : Bool → World → Prop) (h : m_law13_large l1 w0 K) :
  Calls Try.prog 15 #[l1.v] w0 (fun e w' => ∃ r2 : Bool, e = .returned (vb r2) ∧ K r2 w') := by
 unfold m_law13_large at h
 refine calls_of_wpE (args := [l1.v]) Try.func15 rfl Try.ntmps15 (Nat.le_of_ble_eq_true rfl) (wpE_seq (rg (q0 (vb false) (wpL_nil (th_n (wpE_seq (rg (q0 l1.v (q0 (vi (l1.len : Int)) (q0 (vb (decide ((l1.len : Int) > 40))) (q0 (vb (decide ((l1.len : Int) > 40))) ?_)))))))))))
 rcases Bool.eq_false_or_eq_true (decide ((l1.len : Int) > 40)) with hg1 | hg1
 ·replace h := h.1 hg1
  refine sk (yD 6 hg1) (sk (yD 6 hg1) (sk (yD 6 hg1) (sk (yD 6 hg1) (q2 (vb true) (xT hg1) (q0 (vb true) (wpL_nil (th_n (wpE_ret (res1 (.inl rfl) Try.results15 (v := (vb true)) (by kernel_rfl) ?_)))))))))
  exact ⟨true, rfl, h⟩
 ·replace h := h.2 hg1
  refine q1 l1.v (want1 rfl (yD 6 hg1)) (q1 (.agg #[(vi 0), (vi 0), (vi 0), (vu 0), (vs ⟨#[]⟩), l1.v]) (want1 rfl (yD 6 hg1)) ?_)
  refine st_call (want1 rfl (yD 6 hg1)) (xc Try.call71) (h.mono ?_)
  rintro e w1 ⟨r1, rfl, h⟩
  refine ⟨_, rfl, ?_⟩
  refine q1 (vb (decide (r1 > 6000))) (want1 rfl (yD 6 hg1)) (q2 (vb (decide (r1 > 6000))) (xF hg1) (q0 (vb (decide (r1 > 6000))) (wpL_nil (th_n (wpE_ret (res1 (.inl rfl) Try.results15 (v := (vb (decide (r1 > 6000)))) (by kernel_rfl) ?_))))))
  exact ⟨(decide (r1 > 6000)), rfl, h⟩
theorem eqt_law13_live_eql_43 (a0 : Bool) (a1 a2 : Int) (b0 : Bool) (b1 b2 : Int) (w : World) : (Go.binOp .eql 43 (.agg #[(.bool a0), (.int .i64 a1), (.int .i64 a2)]) (.agg #[(.bool b0), (.int .i64 b1), (.int .i64 b2)])).run Try.prog w = .ok (.bool ((a0 == b0) && ((a1 == b1) && (a2 == b2)))) w := by
 simp [Go.binOp, Op.equal, Op.maxDepth, go_sem, streq, bne]
 repeat' split
 all_goals simp_all
theorem eqt_law13_live_eql_134 (a0 a1 : Int) (a2 a3 : Int) (a4 b0 : Int) (b1 b2 : Int) (b3 b4 : Int) (w : World) : (Go.binOp .eql 134 (.agg #[(.int .i64 a0), (.int .u64 a1), (.int .i64 a2), (.int .i64 a3), (.int .i64 a4)]) (.agg #[(.int .i64 b0), (.int .u64 b1), (.int .i64 b2), (.int .i64 b3), (.int .i64 b4)])).run Try.prog w = .ok (.bool ((a0 == b0) && ((a1 == b1) && ((a2 == b2) && ((a3 == b3) && (a4 == b4)))))) w := by
 simp [Go.binOp, Op.equal, Op.maxDepth, go_sem, streq, bne]
 repeat' split
 all_goals simp_all
def m_law13_live  (w0 : World) (K : Bool → World → Prop) : Prop :=
 Calls Try.prog 72 #[] w0 (fun e w1 => ∃ r1 : Option Addr, e = .returned (vp r1) ∧ 
  Kept None w0 w1 ∧
  Br (Option.isNone r1)
   (K false w1)
   (Calls Try.prog 74 #[(.agg #[(vi 2), (vi 1), (vu 7), (vs (⟨#[116]⟩ : ByteArray)), (vb false)]), (vb false), (vb false)] w1 (fun e w2 => ∃ bE bF : Int, ∃ bG bH : Int, ∃ bI : ByteArray, ∃ bJ : Sl, e = .returned (.agg #[(vi bE), (vi bF), (vi bG), (vu bH), (vs bI), bJ.v]) ∧ 
    Kept None w1 w2 ∧
    Calls Try.prog 73 #[(vp r1), (.agg #[(vi bE), (vi bF), (vi bG), (vu bH), (vs bI), bJ.v])] w2 (fun e w3 => ∃ r2 r3 : Int, e = .returned (.tuple #[(vi r2), (vi r3)]) ∧ 
     Kept None w2 w3 ∧
     Calls Try.prog 74 #[(.agg #[(vi 1), (vi 1), (vu 7), (vs (⟨#[116]⟩ : ByteArray)), (vb false)]), (vb false), (vb false)] w3 (fun e w4 => ∃ aQ aR : Int, ∃ bS bT : Int, ∃ aS : ByteArray, ∃ bU : Sl, e = .returned (.agg #[(vi aQ), (vi aR), (vi bS), (vu bT), (vs aS), bU.v]) ∧ 
      Kept None w3 w4 ∧
      Calls Try.prog 73 #[(vp r1), (.agg #[(vi aQ), (vi aR), (vi bS), (vu bT), (vs aS), bU.v])] w4 (fun e w5 => ∃ r4 r5 : Int, e = .returned (.tuple #[(vi r4), (vi r5)]) ∧ 
       Kept None w4 w5 ∧
       Calls Try.prog 74 #[(.agg #[(vi 2), (vi 1), (vu 7), (vs (⟨#[117]⟩ : ByteArray)), (vb false)]), (vb false), (vb false)] w5 (fun e w6 => ∃ bV bW : Int, ∃ bX bY : Int, ∃ bZ : ByteArray, ∃ cA : Sl, e = .returned (.agg #[(vi bV), (vi bW), (vi bX), (vu bY), (vs bZ), cA.v]) ∧ 
        Kept None w5 w6 ∧
        Calls Try.prog 73 #[(vp r1), (.agg #[(vi bV), (vi bW), (vi bX), (vu bY), (vs bZ), cA.v])] w6 (fun e w7 => ∃ r6 r7 : Int, e = .returned (.tuple #[(vi r6), (vi r7)]) ∧ 
         Kept None w6 w7 ∧
         Br (((r3 != 0) || (r5 != 0)) || (r7 != 0))
          (∀ (H2 : Nat → Prop) (w9 : World), Hst w0 None w7 H2 w9 →
          K false w9)
          (∀ (H2 : Nat → Prop) (w9 : World), Hst w0 None w7 H2 w9 →
          ∀ (p1 : Addr) (w11 : World), New w9 (.cells #[(vi r4), (vi r2)] 41) p1 w11 →
          Calls Try.prog 24 #[(vp r1), (Sl.mk (some p1) 2 2).v, (.agg #[(vi 1), (vu 7), (vs (⟨#[116]⟩ : ByteArray))])] w11 (fun e w12 => ∃ aE : Bool, ∃ aF aG : Int, e = .returned (.agg #[(vb aE), (vi aF), (vi aG)]) ∧ 
           Kept H2 w11 w12 ∧
           ∀ (H4 : Nat → Prop) (w14 : World), Hst w0 H2 w12 H4 w14 →
           ∀ (p3 : Addr) (w15 : World), New w14 (.cells #[(vi r4)] 41) p3 w15 →
           Calls Try.prog 24 #[(vp r1), (Sl.mk (some p3) 1 1).v, (.agg #[(vi 1), (vu 7), (vs (⟨#[116]⟩ : ByteArray))])] w15 (fun e w16 => ∃ aH : Bool, ∃ aI aJ : Int, e = .returned (.agg #[(vb aH), (vi aI), (vi aJ)]) ∧ 
            Kept H4 w15 w16 ∧
            ∀ (H5 : Nat → Prop) (w18 : World), Hst w0 H4 w16 H5 w18 →
            ∀ (p5 : Addr) (w19 : World), New w18 (.cells #[(vi r2), (vi r4), (vi r6)] 41) p5 w19 →
            Calls Try.prog 22 #[(vp r1), (Sl.mk (some p5) 3 3).v] w19 (fun e w20 => ∃ r8 : Sl, e = .returned r8.v ∧ 
             Kept H5 w19 w20 ∧
             ∀ y1 : Bool, y1 = (((aE == true) && ((aF == 1) && (aG == 1))) && ((aH == false) && ((aI == 0) && (aJ == (-1))))) →
             Br (y1 && (((r8.len : Int) : Int) == 1))
              (∃ a1 : Addr, At r8 0 5 a1 ∧
              ∀ (H7 : Nat → Prop) (w22 : World), Hst w0 H5 w20 H7 w22 →
              ∃ aA aB : Int, ∃ aD aM aN : Int, Row w22 a1 [(vi aA), (vu aB), (vi aD), (vi aM), (vi aN)] ∧
              K ((aA == 1) && ((aB == 7) && ((aD == 1) && ((aM == 0) && (aN == 2))))) w22)
              (∀ (H7 : Nat → Prop) (w22 : World), Hst w0 H5 w20 H7 w22 →
              K false w22)))))))))))))
theorem w_law13_live  (w0 : World) (K : Bool → World → Prop) (h : m_law13_live  w0 K) :
  Calls Try.prog 16 #[] w0 (fun e w' => ∃ r9 : Bool, e = .returned (vb r9) ∧ K r9 w') := by
 unfold m_law13_live at h
 refine calls_of_wpE (args := []) Try.func16 rfl Try.ntmps16 (Nat.le_of_ble_eq_true rfl) ?_
 have hs := Hst.start w0
 have hb := HB.nil None w0
 refine wpE_seq (rg (q0 (vb false) (wpL_nil (th_n (wpE_seq (rg ?_))))))
 refine st_call (want0 rfl) (xc Try.call72) (h.mono ?_)
 rintro e w1 ⟨r1, rfl, hk, h⟩
 refine ⟨_, rfl, ?_⟩
 obtain ⟨hs, hb⟩ := hk.hh hs hb
 refine q0 (vp r1) (wpL_nil (th_n (wpE_seq (wpE_seq (rg (q0 (vp r1) (q2 (vb (Option.isNone r1)) (x_ptreq (by kernel_rfl) rfl Try.underlying25) (wpL_nil (th_n ?_)))))))))
 refine wpE_cond (t := (Option.isNone r1)) (by kernel_rfl) (fun hc1 => ?_) (fun hc1 => ?_)
 ·replace h := h.1 hc1
  refine wpE_seq (rg (q0 (vb false) (wpL_nil (th_n (wpE_ret (th_r (res1 (.inl rfl) Try.results16 (v := (vb false)) (by kernel_rfl) ?_)))))))
  exact ⟨false, rfl, h⟩
 ·replace h := h.2 hc1
  refine wpE_skip (th_n (wpE_seq (rg (q0 (vp r1) (q0 (.agg #[(vi 2), (vi 1), (vu 7), (vs (⟨#[116]⟩ : ByteArray)), (vb false)]) ?_)))))
  refine st_call (want0 rfl) (xc Try.call74) (h.mono ?_)
  rintro e w2 ⟨bE, bF, bG, bH, bI, bJ, rfl, hk, h⟩
  refine ⟨_, rfl, ?_⟩
  obtain ⟨hs, hb⟩ := hk.hh hs hb
  refine st_call (want0 rfl) (xc Try.call73) (h.mono ?_)
  rintro e w3 ⟨r2, r3, rfl, hk, h⟩
  refine ⟨_, rfl, ?_⟩
  obtain ⟨hs, hb⟩ := hk.hh hs hb
  refine q0 (.tuple #[(vi r2), (vi r3)]) (q0 (vi r2) (q0 (vi r3) (q0 (vi r2) (q0 (vi r3) (wpL_nil (th_n (wpE_seq (rg (q0 (vp r1) (q0 (.agg #[(vi 1), (vi 1), (vu 7), (vs (⟨#[116]⟩ : ByteArray)), (vb false)]) ?_))))))))))
  refine st_call (want0 rfl) (xc Try.call74) (h.mono ?_)
  rintro e w4 ⟨aQ, aR, bS, bT, aS, bU, rfl, hk, h⟩
  refine ⟨_, rfl, ?_⟩
  obtain ⟨hs, hb⟩ := hk.hh hs hb
  refine st_call (want0 rfl) (xc Try.call73) (h.mono ?_)
  rintro e w5 ⟨r4, r5, rfl, hk, h⟩
  refine ⟨_, rfl, ?_⟩
  obtain ⟨hs, hb⟩ := hk.hh hs hb
  refine q0 (.tuple #[(vi r4), (vi r5)]) (q0 (vi r4) (q0 (vi r5) (q0 (vi r4) (q0 (vi r5) (wpL_nil (th_n (wpE_seq (rg (q0 (vp r1) (q0 (.agg #[(vi 2), (vi 1), (vu 7), (vs (⟨#[117]⟩ : ByteArray)), (vb false)]) ?_))))))))))
  refine st_call (want0 rfl) (xc Try.call74) (h.mono ?_)
  rintro e w6 ⟨bV, bW, bX, bY, bZ, cA, rfl, hk, h⟩
  refine ⟨_, rfl, ?_⟩
  obtain ⟨hs, hb⟩ := hk.hh hs hb
  refine st_call (want0 rfl) (xc Try.call73) (h.mono ?_)
  rintro e w7 ⟨r6, r7, rfl, hk, h⟩
  refine ⟨_, rfl, ?_⟩
  obtain ⟨hs, hb⟩ := hk.hh hs hb
  refine q0 (.tuple #[(vi r6), (vi r7)]) (q0 (vi r6) (q0 (vi r7) (q0 (vi r6) (q0 (vi r7) (wpL_nil (th_n (wpE_seq (wpE_seq ?_))))))))
  refine wpE_via (fun ρ wJ => ∃ b2'0 : Bool, ∃ HJ : Nat → Prop, (((r3 != 0) || (r5 != 0)) = b2'0) ∧ Hst w0 None w7 HJ wJ ∧ HB HJ wJ [] ∧ Has ρ [(1, (vp r1)), (2, (vi r2)), (4, (vi r4)), (6, (vi r6)), (44, (vb (b2'0 || (r7 != 0))))]) ?_ ?_
  ·skip
   refine rg (q0 (vi r3) (q0 (vb (r3 != 0)) (q0 (vb (r3 != 0)) ?_)))
   refine wpL_join 3 (fun ρ wJ => ∃ b3'0 : Bool, ∃ HJ : Nat → Prop, ((r3 != 0) = b3'0) ∧ Hst w0 None w7 HJ wJ ∧ HB HJ wJ [] ∧ Has ρ [(1, (vp r1)), (2, (vi r2)), (4, (vi r4)), (6, (vi r6)), (7, (vi r7)), (40, (vb (b3'0 || (r5 != 0))))]) ?_ ?_
   ·clear hs hb
    rintro ρ w10 ⟨b3'0, H3, he0, hs, hb, hH⟩
    subst he0
    refine wpL_has hH ?_
    clear hH
    refine q0 (vb ((r3 != 0) || (r5 != 0))) ?_
    rcases Bool.eq_false_or_eq_true ((r3 != 0) || (r5 != 0)) with hg6 | hg6
    ·skip
     refine sk (yD 41 hg6) (sk (yD 41 hg6) (q2 (vb true) (xT hg6) (wpL_nil (th_n ?_))))
     exact ⟨true, _, hg6, hs, hb, Has.mk (by kernel_rfl)⟩
    ·skip
     refine q1 (vi r7) (want1 rfl (yD 41 hg6)) (q1 (vb (r7 != 0)) (want1 rfl (yD 41 hg6)) (q2 (vb (r7 != 0)) (xF hg6) (wpL_nil (th_n ?_))))
     exact ⟨false, _, hg6, hs, hb, Has.mk (by kernel_rfl)⟩
   ·skip
    rcases Bool.eq_false_or_eq_true (r3 != 0) with hg5 | hg5
    ·skip
     refine sk (yD 37 hg5) (sk (yD 37 hg5) (q2 (vb true) (xT hg5) (wpL_nil ?_)))
     exact ⟨true, _, hg5, hs, hb, Has.mk (by kernel_rfl)⟩
    ·skip
     refine q1 (vi r5) (want1 rfl (yD 37 hg5)) (q1 (vb (r5 != 0)) (want1 rfl (yD 37 hg5)) (q2 (vb (r5 != 0)) (xF hg5) (wpL_nil ?_)))
     exact ⟨false, _, hg5, hs, hb, Has.mk (by kernel_rfl)⟩
  ·clear hs hb
   rintro ρ w9 ⟨b2'0, H2, he0, hs, hb, hH⟩
   subst he0
   refine norm_has hH ?_
   clear hH
   refine th_n ?_
   refine wpE_cond (t := (((r3 != 0) || (r5 != 0)) || (r7 != 0))) (by kernel_rfl) (fun hc2 => ?_) (fun hc2 => ?_)
   ·replace h := h.1 hc2
    refine wpE_seq (rg (q0 (vb false) (wpL_nil (th_n (wpE_ret (th_r ?_))))))
    replace h := h H2 w9 hs
    replace hs := hs.here
    refine res1 (.inl rfl) Try.results16 (v := (vb false)) (by kernel_rfl) ?_
    exact ⟨false, rfl, h⟩
   ·replace h := h.2 hc2
    refine wpE_skip (th_n (wpE_seq (rg (q0 (vp r1) (q0 (vi r4) (q0 (vi r2) ?_))))))
    replace h := h H2 w9 hs
    replace hs := hs.here
    refine st_new (O := (.cells #[(vi r4), (vi r2)] 41)) (fun p => (Sl.mk (some p) 2 2).v) (want0 rfl) (x_buildSlice (vs := #[(0, (vi r4)), (1, (vi r2))]) (by kernel_rfl) (by kernel_rfl)) ?_
    intro p1 w11 hn7
    replace h := h p1 w11 hn7
    replace hs := hs.again (Ext.new (F := None) hn7).keptP
    replace hb := hb.kept (Ext.new (F := None) hn7).keptP
    refine q0 (.agg #[(vi 1), (vu 7), (vs (⟨#[116]⟩ : ByteArray))]) ?_
    refine st_call (want0 rfl) (xc Try.call24) (h.mono ?_)
    rintro e w12 ⟨aE, aF, aG, rfl, hk, h⟩
    refine ⟨_, rfl, ?_⟩
    obtain ⟨hs, hb⟩ := hk.hh hs hb
    refine sn (O := (.cells #[(vb false), (vi 0), (vi 0)] 43)) (x_alloc (Try.zeroValue43 _) rfl) ?_
    intro p2 w13 hn1
    obtain ⟨H4, hs, hb⟩ := hs.alloc hb hn1
    refine st_set (want0 rfl) (x_storeA (a := p2) (vs := [(vb aE), (vi aF), (vi aG)]) (by kernel_rfl) (by kernel_rfl) rfl (Try.sizeOf43 _) rfl (hb.canWs0 0 3 gZ (by kernel_rfl))) ?_
    intro w14 hn2
    have hsb : Hst w0 H2 w12 H4 w14 ∧ HB H4 w14 [(p2, [(vb aE), (vi aF), (vi aG)], 43)] := by
     rw [hn2]
     exact hb.store0 (i := 0) (vs := [(vb aE), (vi aF), (vi aG)]) hs gZ (by kernel_rfl) (by kernel_rfl)
    clear hs hb hn2
    obtain ⟨hs, hb⟩ := hsb
    refine wpL_nil (th_n (wpE_seq (rg (q0 (vp r1) (q0 (vi r4) ?_)))))
    replace h := h H4 w14 hs
    replace hs := hs.here
    refine st_new (O := (.cells #[(vi r4)] 41)) (fun p => (Sl.mk (some p) 1 1).v) (want0 rfl) (x_buildSlice (vs := #[(0, (vi r4))]) (by kernel_rfl) (by kernel_rfl)) ?_
    intro p3 w15 hn6
    replace h := h p3 w15 hn6
    replace hs := hs.again (Ext.new (F := None) hn6).keptP
    replace hb := hb.kept (Ext.new (F := None) hn6).keptP
    refine q0 (.agg #[(vi 1), (vu 7), (vs (⟨#[116]⟩ : ByteArray))]) ?_
    refine st_call (want0 rfl) (xc Try.call24) (h.mono ?_)
    rintro e w16 ⟨aH, aI, aJ, rfl, hk, h⟩
    refine ⟨_, rfl, ?_⟩
    obtain ⟨hs, hb⟩ := hk.hh hs hb
    refine sn (O := (.cells #[(vb false), (vi 0), (vi 0)] 43)) (x_alloc (Try.zeroValue43 _) rfl) ?_
    intro p4 w17 hn3
    obtain ⟨H5, hs, hb⟩ := hs.alloc hb hn3
    refine st_set (want0 rfl) (x_storeA (a := p4) (vs := [(vb aH), (vi aI), (vi aJ)]) (by kernel_rfl) (by kernel_rfl) rfl (Try.sizeOf43 _) rfl (hb.canWs0 0 3 gZ (by kernel_rfl))) ?_
    intro w18 hn4
    have hsb : Hst w0 H4 w16 H5 w18 ∧ HB H5 w18 [(p4, [(vb aH), (vi aI), (vi aJ)], 43), (p2, [(vb aE), (vi aF), (vi aG)], 43)] := by
     rw [hn4]
     exact hb.store0 (i := 0) (vs := [(vb aH), (vi aI), (vi aJ)]) hs gZ (by kernel_rfl) (by kernel_rfl)
    clear hs hb hn4
    obtain ⟨hs, hb⟩ := hsb
    refine wpL_nil (th_n (wpE_seq (rg (q0 (vp r1) (q0 (vi r2) (q0 (vi r4) (q0 (vi r6) ?_)))))))
    replace h := h H5 w18 hs
    replace hs := hs.here
    refine st_new (O := (.cells #[(vi r2), (vi r4), (vi r6)] 41)) (fun p => (Sl.mk (some p) 3 3).v) (want0 rfl) (x_buildSlice (vs := #[(0, (vi r2)), (1, (vi r4)), (2, (vi r6))]) (by kernel_rfl) (by kernel_rfl)) ?_
    intro p5 w19 hn5
    replace h := h p5 w19 hn5
    replace hs := hs.again (Ext.new (F := None) hn5).keptP
    replace hb := hb.kept (Ext.new (F := None) hn5).keptP
    refine st_call (want0 rfl) (xc Try.call22) (h.mono ?_)
    rintro e w20 ⟨r8, rfl, hk, h⟩
    refine ⟨_, rfl, ?_⟩
    obtain ⟨hs, hb⟩ := hk.hh hs hb
    refine q0 r8.v (wpL_nil (th_n (wpE_seq (rg (q2 (.agg #[(vb aE), (vi aF), (vi aG)]) (x_loadA (a := p2) (vs := [(vb aE), (vi aF), (vi aG)]) (by kernel_rfl) (Try.isAgg43 _) (Try.sizeOf43 _) rfl (hb.row0 1 3 (gS gZ) (by kernel_rfl))) (q0 (.agg #[(vb true), (vi 1), (vi 1)]) (q2 (vb ((aE == true) && ((aF == 1) && (aG == 1)))) (x_aggeq (by kernel_rfl) (by kernel_rfl) (by kernel_rfl) (eqt_law13_live_eql_43 aE aF aG true 1 1 _)) (q0 (vb ((aE == true) && ((aF == 1) && (aG == 1)))) ?_))))))))
    refine wpL_join 4 (fun ρ wJ => ∃ b4'0 y1 : Bool, ∃ HJ : Nat → Prop, (((aE == true) && ((aF == 1) && (aG == 1))) = b4'0) ∧ (y1 = (b4'0 && ((aH == false) && ((aI == 0) && (aJ == (-1)))))) ∧ Hst w0 H5 w20 HJ wJ ∧ HB HJ wJ [(p4, [(vb aH), (vi aI), (vi aJ)], 43), (p2, [(vb aE), (vi aF), (vi aG)], 43)] ∧ Has ρ [(10, r8.v), (69, (vb y1))]) ?_ ?_
    ·clear hs hb
     rintro ρ w21 ⟨b4'0, y1, H6, he0, hy1, hs, hb, hH⟩
     subst he0
     replace h := h y1 hy1
     refine wpL_has hH ?_
     clear hH
     refine q0 (vb y1) ?_
     refine wpL_join 4 (fun ρ wJ => ∃ b5'0 : Bool, ∃ HJ : Nat → Prop, (y1 = b5'0) ∧ Hst w0 H5 w20 HJ wJ ∧ HB HJ wJ [(p4, [(vb aH), (vi aI), (vi aJ)], 43), (p2, [(vb aE), (vi aF), (vi aG)], 43)] ∧ Has ρ [(10, r8.v), (74, (vb (b5'0 && (((r8.len : Int) : Int) == 1))))]) ?_ ?_
     ·clear hs hb
      rintro ρ w22 ⟨b5'0, H7, he0, hs, hb, hH⟩
      subst he0
      refine wpL_has hH ?_
      clear hH
      refine q0 (vb (y1 && (((r8.len : Int) : Int) == 1))) ?_
      rcases Bool.eq_false_or_eq_true (y1 && (((r8.len : Int) : Int) == 1)) with hg11 | hg11
      ·replace h := h.1 hg11
       refine q1 r8.v (want1 rfl (yD 75 hg11)) ?_
       obtain ⟨a1, hv2, h⟩ := h
       refine stp (v := (vp (some a1))) (want1 rfl (yD 75 hg11)) (x_indexAddr (s := r8) (k := .i64) (i := 0) (by kernel_rfl) (by kernel_rfl) (Try.runUnderlying35 _) (Try.sizeOf134 _) hv2) ?_
       replace h := h H7 w22 hs
       replace hs := hs.here
       obtain ⟨aA, aB, aD, aM, aN, hv1, h⟩ := h
       refine stp (v := (.agg #[(vi aA), (vu aB), (vi aD), (vi aM), (vi aN)])) (want1 rfl (yD 75 hg11)) (x_loadA (a := a1) (vs := [(vi aA), (vu aB), (vi aD), (vi aM), (vi aN)]) (by kernel_rfl) (Try.isAgg134 _) (Try.sizeOf134 _) rfl hv1) (q1 (.agg #[(vi 1), (vu 7), (vi 1), (vi 0), (vi 2)]) (want1 rfl (yD 75 hg11)) (stp (v := (vb ((aA == 1) && ((aB == 7) && ((aD == 1) && ((aM == 0) && (aN == 2))))))) (want1 rfl (yD 75 hg11)) (x_aggeq (by kernel_rfl) (by kernel_rfl) (by kernel_rfl) (eqt_law13_live_eql_134 aA aB aD aM aN 1 7 1 0 2 _)) (q2 (vb ((aA == 1) && ((aB == 7) && ((aD == 1) && ((aM == 0) && (aN == 2)))))) (xT hg11) (q0 (vb ((aA == 1) && ((aB == 7) && ((aD == 1) && ((aM == 0) && (aN == 2)))))) (wpL_nil (th_n (wpE_ret (res1 (.inl rfl) Try.results16 (v := (vb ((aA == 1) && ((aB == 7) && ((aD == 1) && ((aM == 0) && (aN == 2))))))) (by kernel_rfl) ?_))))))))
       exact ⟨((aA == 1) && ((aB == 7) && ((aD == 1) && ((aM == 0) && (aN == 2))))), rfl, h⟩
      ·replace h := h.2 hg11
       refine sk (yD 75 hg11) (sk (yD 75 hg11) (sk (yD 75 hg11) (sk (yD 75 hg11) (sk (yD 75 hg11) (q2 (vb false) (xF hg11) (q0 (vb false) (wpL_nil (th_n (wpE_ret ?_)))))))))
       replace h := h H7 w22 hs
       replace hs := hs.here
       refine res1 (.inl rfl) Try.results16 (v := (vb false)) (by kernel_rfl) ?_
       exact ⟨false, rfl, h⟩
     ·skip
      rcases Bool.eq_false_or_eq_true y1 with hg10 | hg10
      ·skip
       refine q1 r8.v (want1 rfl (yD 70 hg10)) (q1 (vi (r8.len : Int)) (want1 rfl (yD 70 hg10)) (q1 (vb (((r8.len : Int) : Int) == 1)) (want1 rfl (yD 70 hg10)) (q2 (vb (((r8.len : Int) : Int) == 1)) (xT hg10) (wpL_nil ?_))))
       exact ⟨true, _, hg10, hs, hb, Has.mk (by kernel_rfl)⟩
      ·skip
       refine sk (yD 70 hg10) (sk (yD 70 hg10) (sk (yD 70 hg10) (q2 (vb false) (xF hg10) (wpL_nil ?_))))
       exact ⟨false, _, hg10, hs, hb, Has.mk (by kernel_rfl)⟩
    ·skip
     rcases Bool.eq_false_or_eq_true ((aE == true) && ((aF == 1) && (aG == 1))) with hg8 | hg8
     ·skip
      refine stp (v := (.agg #[(vb aH), (vi aI), (vi aJ)])) (want1 rfl (yD 65 hg8)) (x_loadA (a := p4) (vs := [(vb aH), (vi aI), (vi aJ)]) (by kernel_rfl) (Try.isAgg43 _) (Try.sizeOf43 _) rfl (hb.row0 0 3 gZ (by kernel_rfl))) (q1 (.agg #[(vb false), (vi 0), (vi (-1))]) (want1 rfl (yD 65 hg8)) (stp (v := (vb ((aH == false) && ((aI == 0) && (aJ == (-1)))))) (want1 rfl (yD 65 hg8)) (x_aggeq (by kernel_rfl) (by kernel_rfl) (by kernel_rfl) (eqt_law13_live_eql_43 aH aI aJ false 0 (-1) _)) (q2 (vb ((aH == false) && ((aI == 0) && (aJ == (-1))))) (xT hg8) (wpL_nil ?_))))
      exact ⟨true, _, _, hg8, rfl, hs, hb, Has.mk (by kernel_rfl)⟩
     ·skip
      refine sk (yD 65 hg8) (sk (yD 65 hg8) (sk (yD 65 hg8) (q2 (vb false) (xF hg8) (wpL_nil ?_))))
      exact ⟨false, _, _, hg8, rfl, hs, hb, Has.mk (by kernel_rfl)⟩
def m_law13_shown_l1 (l1 : Sl) (r1 : Option Addr) (r2 : Option Addr) (t1 letters1 : Sl) (i1 : Int) (w0 : World) (Hl1 : Nat → Prop) (wl1 : World) (Kc1 : Sl → Sl → Int → (Nat → Prop) → World → Prop) (K : (Option Addr) → Sl → Sl → World → Prop) : Prop :=
 Br (decide (i1 < (l1.len : Int)))
  (∃ a1 : Addr, At l1 i1 6 a1 ∧
  ∃ aD bK : Int, ∃ bL bM : Int, ∃ aT : ByteArray, ∃ bN : Sl, Row wl1 a1 [(vi aD), (vi bK), (vi bL), (vu bM), (vs aT), bN.v] ∧
  Calls Try.prog 76 #[(.agg #[(vi aD), (vi bK), (vi bL), (vu bM), (vs aT), bN.v])] wl1 (fun e w3 => ∃ bE bF : Int, ∃ bG bH : Int, ∃ bI : ByteArray, ∃ bJ : Sl, e = .returned (.agg #[(vi bE), (vi bF), (vi bG), (vu bH), (vs bI), bJ.v]) ∧ 
   Kept Hl1 wl1 w3 ∧
   Calls Try.prog 73 #[(vp r1), (.agg #[(vi bE), (vi bF), (vi bG), (vu bH), (vs bI), bJ.v])] w3 (fun e w4 => ∃ r3 r4 : Int, e = .returned (.tuple #[(vi r3), (vi r4)]) ∧ 
    Kept Hl1 w3 w4 ∧
    ∃ a2 : Addr, At l1 i1 6 a2 ∧
    ∃ aU bO : Int, ∃ bP bQ : Int, ∃ aV : ByteArray, ∃ bR : Sl, Row w4 a2 [(vi aU), (vi bO), (vi bP), (vu bQ), (vs aV), bR.v] ∧
    Calls Try.prog 77 #[(vp r2), (.agg #[(vi aU), (vi bO), (vi bP), (vu bQ), (vs aV), bR.v])] w4 (fun e w5 => ∃ r5 r6 : Int, e = .returned (.tuple #[(vi r5), (vi r6)]) ∧ 
     Kept Hl1 w4 w5 ∧
     ∀ (H1 : Nat → Prop) (w6 : World), Hst w0 Hl1 w5 H1 w6 →
     ∀ (p1 : Addr) (w7 : World), New w6 (.cells #[(vi (cond (r4 != 0) 9999 r3))] 41) p1 w7 →
     ∃ s1 : Sl, ∃ w8 : World, (Builtin.append_ #[26, 26] 26 #[t1.v, (Sl.mk (some p1) 1 1).v]).run Try.prog w7 = .ok s1.v w8 ∧
     Kept H1 w7 w8 ∧
     Calls Try.prog 78 #[(vp r2), (vi r5)] w8 (fun e w9 => ∃ aQ aR aW : Int, ∃ aS : ByteArray, ∃ aX r7 : Bool, e = .returned (.tuple #[(.agg #[(vi aQ), (vi aR), (vu aW), (vs aS), (vb aX)]), (vb r7)]) ∧ 
      Kept H1 w8 w9 ∧
      ∀ (H2 : Nat → Prop) (w11 : World), Hst w0 H1 w9 H2 w11 →
      ∀ (p3 : Addr) (w12 : World), New w11 (.cells #[(vi aQ), (vi aR), (vu aW), (vs aS), (vb aX)] 132) p3 w12 →
      ∃ s2 : Sl, ∃ w13 : World, (Builtin.append_ #[27, 27] 27 #[letters1.v, (Sl.mk (some p3) 1 1).v]).run Try.prog w12 = .ok s2.v w13 ∧
      Kept H2 w12 w13 ∧
      Kc1 s1 s2 (IntKind.i64.wrap (i1 + 1)) H2 w13)))))
  (K r1 t1 letters1 wl1)
def m_law13_shown (l1 : Sl) (w0 : World) (K : (Option Addr) → Sl → Sl → World → Prop) : Prop :=
 Calls Try.prog 72 #[] w0 (fun e w1 => ∃ r1 : Option Addr, e = .returned (vp r1) ∧ 
  Kept None w0 w1 ∧
  Calls Try.prog 75 #[] w1 (fun e w2 => ∃ r2 : Option Addr, e = .returned (vp r2) ∧ 
   Kept None w1 w2 ∧
   Br (Option.isNone r1)
    (K none Sl.nil Sl.nil w2)
    (∃ (I1 : Sl → Sl → Int → (Nat → Prop) → World → Prop) (mu1 : Sl → Sl → Int → World → Nat), I1 Sl.nil Sl.nil 0 None w2 ∧
     ∀ (t1 letters1 : Sl) (i1 : Int) (Hl1 : Nat → Prop) (wl1 : World), Hst w0 Hl1 wl1 Hl1 wl1 → I1 t1 letters1 i1 Hl1 wl1 → m_law13_shown_l1 l1 r1 r2 t1 letters1 i1 w0 Hl1 wl1 (fun y'0 y'1 y'2 H' w' => I1 y'0 y'1 y'2 H' w' ∧ mu1 y'0 y'1 y'2 w' < mu1 t1 letters1 i1 wl1) K)))
theorem w_law13_shown (l1 : Sl) (w0 : World) (K : (Option Addr) → Sl → Sl → World → Prop) (h : m_law13_shown l1 w0 K) :
  Calls Try.prog 17 #[l1.v] w0 (fun e w' => ∃ r8 : Option Addr, ∃ r9 r10 : Sl, e = .returned (.tuple #[(vp r8), r9.v, r10.v]) ∧ K r8 r9 r10 w') := by
 unfold m_law13_shown at h
 refine calls_of_wpE (args := [l1.v]) Try.func17 rfl Try.ntmps17 (Nat.le_of_ble_eq_true rfl) ?_
 have hs := Hst.start w0
 have hb := HB.nil None w0
 refine wpE_seq (rg (q0 (vp none) (q0 Sl.nil.v (q0 Sl.nil.v (wpL_nil (th_n (wpE_seq (rg ?_))))))))
 refine st_call (want0 rfl) (xc Try.call72) (h.mono ?_)
 rintro e w1 ⟨r1, rfl, hk, h⟩
 refine ⟨_, rfl, ?_⟩
 obtain ⟨hs, hb⟩ := hk.hh hs hb
 refine q0 (vp r1) (wpL_nil (th_n (wpE_seq (rg ?_))))
 refine st_call (want0 rfl) (xc Try.call75) (h.mono ?_)
 rintro e w2 ⟨r2, rfl, hk, h⟩
 refine ⟨_, rfl, ?_⟩
 obtain ⟨hs, hb⟩ := hk.hh hs hb
 refine q0 (vp r2) (wpL_nil (th_n (wpE_seq (wpE_seq (rg (q0 (vp r1) (q2 (vb (Option.isNone r1)) (x_ptreq (by kernel_rfl) rfl Try.underlying25) (wpL_nil (th_n ?_)))))))))
 refine wpE_cond (t := (Option.isNone r1)) (by kernel_rfl) (fun hc1 => ?_) (fun hc1 => ?_)
 ·replace h := h.1 hc1
  refine wpE_seq (rg (q0 (vp none) (q0 Sl.nil.v (q0 Sl.nil.v (wpL_nil (th_n (wpE_ret (th_r (res3 (.inl rfl) Try.results17 (v := (vp none)) (by kernel_rfl) (v' := Sl.nil.v) (by kernel_rfl) (v'' := Sl.nil.v) (by kernel_rfl) ?_)))))))))
  exact ⟨none, Sl.nil, Sl.nil, rfl, h⟩
 ·replace h := h.2 hc1
  refine wpE_skip (th_n (wpE_seq (rg (q0 Sl.nil.v (wpL_nil (th_n (wpE_seq (rg (q0 Sl.nil.v (wpL_nil (th_n ?_)))))))))))
  refine wpE_seq (wpE_seq (rg (q0 (vi 0) (wpL_nil (th_n (wpE_block ?_))))))
  obtain ⟨I1, mu1, h0, hr⟩ := h
  refine wpE_loop (σ := Sl × Sl × Int × (Nat → Prop) × World) (fun s ρ w => w = s.2.2.2.2 ∧ Has ρ [(0, l1.v), (5, (vp r1)), (6, (vp r2)), (7, s.1.v), (8, s.2.1.v), (9, (vi s.2.2.1))] ∧ Hst w0 s.2.2.2.1 w s.2.2.2.1 w ∧ HB s.2.2.2.1 w [] ∧ I1 s.1 s.2.1 s.2.2.1 s.2.2.2.1 s.2.2.2.2) (fun s => mu1 s.1 s.2.1 s.2.2.1 s.2.2.2.2) (Sl.nil, Sl.nil, 0, None, w2) ⟨rfl, Has.mk (by kernel_rfl), hs, hb, h0⟩ ?_
  clear hs hb
  rintro ⟨t1, letters1, i1, Hl1, wl1⟩ ρ w ⟨hw, hH, hs, hb, hI⟩
  obtain rfl : wl1 = w := (show w = wl1 from hw).symm
  replace hH : Has ρ [(0, l1.v), (5, (vp r1)), (6, (vp r2)), (7, t1.v), (8, letters1.v), (9, (vi i1))] := hH
  replace hs : Hst w0 Hl1 wl1 Hl1 wl1 := hs
  replace hb : HB Hl1 wl1 [] := hb
  have h := hr t1 letters1 i1 Hl1 wl1 hs hI
  clear hr h0
  unfold m_law13_shown_l1 at h
  refine wpE_has hH ?_
  clear hH hI
  refine wpE_seq (wpE_seq (rg (q0 (vi i1) (q0 l1.v (q0 (vi (l1.len : Int)) (q0 (vb (decide (i1 < (l1.len : Int)))) (wpL_nil (th_n ?_))))))))
  refine wpE_cond (t := (decide (i1 < (l1.len : Int)))) (by kernel_rfl) (fun hc2 => ?_) (fun hc2 => ?_)
  ·replace h := h.1 hc2
   refine wpE_skip (th_n (wpE_seq (wpE_block (wpE_seq (rg (q0 (vp r1) (q0 l1.v (q0 (vi i1) ?_))))))))
   obtain ⟨a1, hv6, h⟩ := h
   refine q2 (vp (some a1)) (x_indexAddr (s := l1) (k := .i64) (i := i1) (by kernel_rfl) (by kernel_rfl) (Try.runUnderlying22 _) (Try.sizeOf116 _) hv6) ?_
   obtain ⟨aD, bK, bL, bM, aT, bN, hv5, h⟩ := h
   refine q2 (.agg #[(vi aD), (vi bK), (vi bL), (vu bM), (vs aT), bN.v]) (x_loadA (a := a1) (vs := [(vi aD), (vi bK), (vi bL), (vu bM), (vs aT), bN.v]) (by kernel_rfl) (Try.isAgg116 _) (Try.sizeOf116 _) rfl hv5) ?_
   refine st_call (want0 rfl) (xc Try.call76) (h.mono ?_)
   rintro e w3 ⟨bE, bF, bG, bH, bI, bJ, rfl, hk, h⟩
   refine ⟨_, rfl, ?_⟩
   obtain ⟨hs, hb⟩ := hk.hh hs hb
   refine st_call (want0 rfl) (xc Try.call73) (h.mono ?_)
   rintro e w4 ⟨r3, r4, rfl, hk, h⟩
   refine ⟨_, rfl, ?_⟩
   obtain ⟨hs, hb⟩ := hk.hh hs hb
   refine q0 (.tuple #[(vi r3), (vi r4)]) (q0 (vi r3) (q0 (vi r4) (q0 (vi r3) (q0 (vi r4) (wpL_nil (th_n (wpE_seq (rg (q0 (vp r2) (q0 l1.v (q0 (vi i1) ?_)))))))))))
   obtain ⟨a2, hv4, h⟩ := h
   refine q2 (vp (some a2)) (x_indexAddr (s := l1) (k := .i64) (i := i1) (by kernel_rfl) (by kernel_rfl) (Try.runUnderlying22 _) (Try.sizeOf116 _) hv4) ?_
   obtain ⟨aU, bO, bP, bQ, aV, bR, hv3, h⟩ := h
   refine q2 (.agg #[(vi aU), (vi bO), (vi bP), (vu bQ), (vs aV), bR.v]) (x_loadA (a := a2) (vs := [(vi aU), (vi bO), (vi bP), (vu bQ), (vs aV), bR.v]) (by kernel_rfl) (Try.isAgg116 _) (Try.sizeOf116 _) rfl hv3) ?_
   refine st_call (want0 rfl) (xc Try.call77) (h.mono ?_)
   rintro e w5 ⟨r5, r6, rfl, hk, h⟩
   refine ⟨_, rfl, ?_⟩
   obtain ⟨hs, hb⟩ := hk.hh hs hb
   refine q0 (.tuple #[(vi r5), (vi r6)]) (q0 (vi r5) (q0 (vi r6) (q0 (vi r5) (q0 (vi r6) (wpL_nil (th_n (wpE_seq (wpE_seq (rg (q0 (vi r4) (q0 (vb (r4 != 0)) ?_)))))))))))
   refine wpL_nil (th_n ?_)
   refine wpE_via (fun ρ wJ => ∃ b1'0 : Bool, ∃ HJ : Nat → Prop, ((r4 != 0) = b1'0) ∧ Hst w0 Hl1 w5 HJ wJ ∧ HB HJ wJ [] ∧ Has ρ [(0, l1.v), (5, (vp r1)), (6, (vp r2)), (7, t1.v), (8, letters1.v), (9, (vi i1)), (10, (vi (cond b1'0 9999 r3))), (12, (vi r5))]) ?_ ?_
   ·skip
    refine wpE_cond (t := (r4 != 0)) (by kernel_rfl) (fun hc4 => ?_) (fun hc4 => ?_)
    ·skip
     refine rg (q0 (vi 9999) (wpL_nil (th_n ?_)))
     exact ⟨true, _, hc4, hs, hb, Has.mk (by kernel_rfl)⟩
    ·skip
     refine wpE_skip (th_n ?_)
     exact ⟨false, _, hc4, hs, hb, Has.mk (by kernel_rfl)⟩
   ·clear hs hb
    rintro ρ w6 ⟨b1'0, H1, he0, hs, hb, hH⟩
    subst he0
    refine norm_has hH ?_
    clear hH
    refine th_n (wpE_seq (rg (q0 t1.v (q0 (vi (cond (r4 != 0) 9999 r3)) ?_))))
    replace h := h H1 w6 hs
    replace hs := hs.here
    refine st_new (O := (.cells #[(vi (cond (r4 != 0) 9999 r3))] 41)) (fun p => (Sl.mk (some p) 1 1).v) (want0 rfl) (x_buildSlice (vs := #[(0, (vi (cond (r4 != 0) 9999 r3)))]) (by kernel_rfl) (by kernel_rfl)) ?_
    intro p1 w7 hn4
    replace h := h p1 w7 hn4
    replace hs := hs.again (Ext.new (F := None) hn4).keptP
    replace hb := hb.kept (Ext.new (F := None) hn4).keptP
    obtain ⟨s1, w8, hv2, hk, h⟩ := h
    refine st (v := s1.v) (want0 rfl) (x_builtin (args := #[t1.v, (Sl.mk (some p1) 1 1).v]) (by kernel_rfl) (fun _ => rfl) hv2) ?_
    obtain ⟨hs, hb⟩ := hk.hh hs hb
    refine q0 s1.v (wpL_nil (th_n (wpE_seq (rg (q0 (vp r2) (q0 (vi r5) ?_))))))
    refine st_call (want0 rfl) (xc Try.call78) (h.mono ?_)
    rintro e w9 ⟨aQ, aR, aW, aS, aX, r7, rfl, hk, h⟩
    refine ⟨_, rfl, ?_⟩
    obtain ⟨hs, hb⟩ := hk.hh hs hb
    refine q0 (.tuple #[(.agg #[(vi aQ), (vi aR), (vu aW), (vs aS), (vb aX)]), (vb r7)]) (q0 (.agg #[(vi aQ), (vi aR), (vu aW), (vs aS), (vb aX)]) (q0 (vb r7) (sn (O := (.cells #[(vi 0), (vi 0), (vu 0), (vs ⟨#[]⟩), (vb false)] 132)) (x_alloc (Try.zeroValue132 _) rfl) ?_)))
    intro p2 w10 hn1
    obtain ⟨H2, hs, hb⟩ := hs.alloc hb hn1
    refine st_set (want0 rfl) (x_storeA (a := p2) (vs := [(vi aQ), (vi aR), (vu aW), (vs aS), (vb aX)]) (by kernel_rfl) (by kernel_rfl) rfl (Try.sizeOf132 _) rfl (hb.canWs0 0 5 gZ (by kernel_rfl))) ?_
    intro w11 hn2
    have hsb : Hst w0 H1 w9 H2 w11 ∧ HB H2 w11 [(p2, [(vi aQ), (vi aR), (vu aW), (vs aS), (vb aX)], 132)] := by
     rw [hn2]
     exact hb.store0 (i := 0) (vs := [(vi aQ), (vi aR), (vu aW), (vs aS), (vb aX)]) hs gZ (by kernel_rfl) (by kernel_rfl)
    clear hs hb hn2
    obtain ⟨hs, hb⟩ := hsb
    refine q0 (vb r7) (wpL_nil (th_n (rg (q0 letters1.v (q2 (.agg #[(vi aQ), (vi aR), (vu aW), (vs aS), (vb aX)]) (x_loadA (a := p2) (vs := [(vi aQ), (vi aR), (vu aW), (vs aS), (vb aX)]) (by kernel_rfl) (Try.isAgg132 _) (Try.sizeOf132 _) rfl (hb.row0 0 5 gZ (by kernel_rfl))) ?_)))))
    replace h := h H2 w11 hs
    replace hs := hs.here
    refine st_new (O := (.cells #[(vi aQ), (vi aR), (vu aW), (vs aS), (vb aX)] 132)) (fun p => (Sl.mk (some p) 1 1).v) (want0 rfl) (x_buildSlice (vs := #[(0, (.agg #[(vi aQ), (vi aR), (vu aW), (vs aS), (vb aX)]))]) (by kernel_rfl) (by kernel_rfl)) ?_
    intro p3 w12 hn3
    replace h := h p3 w12 hn3
    replace hs := hs.again (Ext.new (F := None) hn3).keptP
    replace hb := hb.kept (Ext.new (F := None) hn3).keptP
    obtain ⟨s2, w13, hv1, hk, h⟩ := h
    refine st (v := s2.v) (want0 rfl) (x_builtin (args := #[letters1.v, (Sl.mk (some p3) 1 1).v]) (by kernel_rfl) (fun _ => rfl) hv1) ?_
    obtain ⟨hs, hb⟩ := hk.hh hs hb
    refine q0 s2.v (wpL_nil (bl_n (th_n (rg (q0 (vi i1) (q0 (vi (IntKind.i64.wrap (i1 + 1))) (q0 (vi (IntKind.i64.wrap (i1 + 1))) (wpL_nil (th_n ?_)))))))))
    exact ⟨(s1, s2, (IntKind.i64.wrap (i1 + 1)), H2, w13), ⟨rfl, Has.mk (by kernel_rfl), hs, hb.drop 1, h.1⟩, h.2⟩
  ·replace h := h.2 hc2
   refine wpE_exit (th_x (th_x (bl_eq (th_n (wpE_seq (rg (q0 (vp r1) (q0 t1.v (q0 letters1.v (q0 (vp r1) (q0 t1.v ?_)))))))))))
   refine q0 letters1.v (wpL_nil (th_n (wpE_ret (res3 (.inl rfl) Try.results17 (v := (vp r1)) (by kernel_rfl) (v' := t1.v) (by kernel_rfl) (v'' := letters1.v) (by kernel_rfl) ?_))))
   exact ⟨r1, t1, letters1, rfl, h⟩
theorem eqt_law13_bonds_neq_46 (a0 a1 : Int) (a2 : ByteArray) (a3 a4 : Int) (b0 b1 : Int) (b2 : ByteArray) (b3 b4 : Int) (w : World) : (Go.binOp .neq 46 (.agg #[(.int .i64 a0), (.int .u64 a1), (.string a2), (.int .i64 a3), (.int .i64 a4)]) (.agg #[(.int .i64 b0), (.int .u64 b1), (.string b2), (.int .i64 b3), (.int .i64 b4)])).run Try.prog w = .ok (.bool (!((a0 == b0) && ((a1 == b1) && ((decide (a2 = b2)) && ((a3 == b3) && (a4 == b4))))))) w := by
 simp [Go.binOp, Op.equal, Op.maxDepth, go_sem, streq, bne]
 repeat' split
 all_goals simp_all
def m_law13_bonds_l1 (a1 b1 : Sl) (i1 : Int) (w0 : World) (Hl1 : Nat → Prop) (wl1 : World) (Kc1 : Int → (Nat → Prop) → World → Prop) (K : Bool → World → Prop) : Prop :=
 Br (decide (i1 < (a1.len : Int)))
  (∃ a2 : Addr, At a1 i1 5 a2 ∧
  ∀ (w1 : World), Hst w0 Hl1 wl1 Hl1 w1 →
  ∃ aA aB : Int, ∃ aT : ByteArray, ∃ aY aZ : Int, Row w1 a2 [(vi aA), (vu aB), (vs aT), (vi aY), (vi aZ)] ∧
  ∃ a3 : Addr, At b1 i1 5 a3 ∧
  ∃ aO aP : Int, ∃ aV : ByteArray, ∃ bA bB : Int, Row w1 a3 [(vi aO), (vu aP), (vs aV), (vi bA), (vi bB)] ∧
  Br (!((aA == aO) && ((aB == aP) && ((decide (aT = aV)) && ((aY == bA) && (aZ == bB))))))
   (K false w1)
   (Kc1 (IntKind.i64.wrap (i1 + 1)) Hl1 w1))
  (K true wl1)
def m_law13_bonds (a1 b1 : Sl) (w0 : World) (K : Bool → World → Prop) : Prop :=
 Br (((a1.len : Int) : Int) != (b1.len : Int))
  (K false w0)
  (∃ (I1 : Int → (Nat → Prop) → World → Prop) (mu1 : Int → World → Nat), I1 0 None w0 ∧
   ∀ (i1 : Int) (Hl1 : Nat → Prop) (wl1 : World), Hst w0 Hl1 wl1 Hl1 wl1 → I1 i1 Hl1 wl1 → m_law13_bonds_l1 a1 b1 i1 w0 Hl1 wl1 (fun y'0 H' w' => I1 y'0 H' w' ∧ mu1 y'0 w' < mu1 i1 wl1) K)
theorem w_law13_bonds (a1 b1 : Sl) (w0 : World) (K : Bool → World → Prop) (h : m_law13_bonds a1 b1 w0 K) :
  Calls Try.prog 18 #[a1.v, b1.v] w0 (fun e w' => ∃ r1 : Bool, e = .returned (vb r1) ∧ K r1 w') := by
 unfold m_law13_bonds at h
 refine calls_of_wpE (args := [a1.v, b1.v]) Try.func18 rfl Try.ntmps18 (Nat.le_of_ble_eq_true rfl) ?_
 have hs := Hst.start w0
 have hb := HB.nil None w0
 refine wpE_seq (rg (q0 (vb false) (wpL_nil (th_n (wpE_seq (wpE_seq (rg (q0 a1.v (q0 (vi (a1.len : Int)) (q0 b1.v (q0 (vi (b1.len : Int)) ?_)))))))))))
 refine q0 (vb (((a1.len : Int) : Int) != (b1.len : Int))) (wpL_nil (th_n ?_))
 refine wpE_cond (t := (((a1.len : Int) : Int) != (b1.len : Int))) (by kernel_rfl) (fun hc1 => ?_) (fun hc1 => ?_)
 ·replace h := h.1 hc1
  refine wpE_seq (rg (q0 (vb false) (wpL_nil (th_n (wpE_ret (th_r (res1 (.inl rfl) Try.results18 (v := (vb false)) (by kernel_rfl) ?_)))))))
  exact ⟨false, rfl, h⟩
 ·replace h := h.2 hc1
  refine wpE_skip (th_n (wpE_seq (wpE_seq (rg (q0 (vi 0) (wpL_nil (th_n (wpE_block ?_))))))))
  obtain ⟨I1, mu1, h0, hr⟩ := h
  refine wpE_loop (σ := Int × (Nat → Prop) × World) (fun s ρ w => w = s.2.2 ∧ Has ρ [(0, a1.v), (1, b1.v), (5, (vi s.1))] ∧ Hst w0 s.2.1 w s.2.1 w ∧ HB s.2.1 w [] ∧ I1 s.1 s.2.1 s.2.2) (fun s => mu1 s.1 s.2.2) (0, None, w0) ⟨rfl, Has.mk (by kernel_rfl), hs, hb, h0⟩ ?_
  clear hs hb
  rintro ⟨i1, Hl1, wl1⟩ ρ w ⟨hw, hH, hs, hb, hI⟩
  obtain rfl : wl1 = w := (show w = wl1 from hw).symm
  replace hH : Has ρ [(0, a1.v), (1, b1.v), (5, (vi i1))] := hH
  replace hs : Hst w0 Hl1 wl1 Hl1 wl1 := hs
  replace hb : HB Hl1 wl1 [] := hb
  have h := hr i1 Hl1 wl1 hs hI
  clear hr h0
  unfold m_law13_bonds_l1 at h
  refine wpE_has hH ?_
  clear hH hI
  refine wpE_seq (wpE_seq (rg (q0 (vi i1) (q0 a1.v (q0 (vi (a1.len : Int)) (q0 (vb (decide (i1 < (a1.len : Int)))) (wpL_nil (th_n ?_))))))))
  refine wpE_cond (t := (decide (i1 < (a1.len : Int)))) (by kernel_rfl) (fun hc2 => ?_) (fun hc2 => ?_)
  ·replace h := h.1 hc2
   refine wpE_skip (th_n (wpE_seq (wpE_block (wpE_seq (wpE_drawnQ (by kernel_rfl) (by kernel_rfl) (by kernel_rfl) (by kernel_rfl) ?_)))))
   intro w1 hw1
   replace hs : Hst w0 Hl1 wl1 Hl1 w1 := by rw [hw1]; exact hs.drew
   replace hb : HB Hl1 w1 [] := by rw [hw1]; exact hb.drew
   clear hw1
   refine qq 0 a1.v Kp0 (qq 1 (vi i1) Kp1 (qgo (k := 2) (by kernel_rfl) ?_))
   obtain ⟨a2, hv4, h⟩ := h
   refine sxQ (v := (vp (some a2))) Kp2 (want0 rfl) rfl (x_indexAddr (s := a1) (k := .i64) (i := i1) (by kernel_rfl) (by kernel_rfl) (Try.runUnderlying31 _) (Try.sizeOf46 _) hv4) (qgo (k := 3) (by kernel_rfl) ?_)
   replace h := h w1 hs
   replace hs := hs.here
   obtain ⟨aA, aB, aT, aY, aZ, hv3, h⟩ := h
   refine sxQ (v := (.agg #[(vi aA), (vu aB), (vs aT), (vi aY), (vi aZ)])) Kp3 (want0 rfl) rfl (x_loadA (a := a2) (vs := [(vi aA), (vu aB), (vs aT), (vi aY), (vi aZ)]) (by kernel_rfl) (Try.isAgg46 _) (Try.sizeOf46 _) rfl hv3) (qq 4 b1.v Kp4 (qq 5 (vi i1) Kp5 (qgo (k := 6) (by kernel_rfl) ?_)))
   obtain ⟨a3, hv2, h⟩ := h
   refine sxQ (v := (vp (some a3))) Kp6 (want0 rfl) rfl (x_indexAddr (s := b1) (k := .i64) (i := i1) (by kernel_rfl) (by kernel_rfl) (Try.runUnderlying31 _) (Try.sizeOf46 _) hv2) (qgo (k := 7) (by kernel_rfl) ?_)
   obtain ⟨aO, aP, aV, bA, bB, hv1, h⟩ := h
   refine sxQ (v := (.agg #[(vi aO), (vu aP), (vs aV), (vi bA), (vi bB)])) Kp7 (want0 rfl) rfl (x_loadA (a := a3) (vs := [(vi aO), (vu aP), (vs aV), (vi bA), (vi bB)]) (by kernel_rfl) (Try.isAgg46 _) (Try.sizeOf46 _) rfl hv1) (qr 8 (vb (!((aA == aO) && ((aB == aP) && ((decide (aT = aV)) && ((aY == bA) && (aZ == bB))))))) Kp8 (x_aggeq (by kernel_rfl) (by kernel_rfl) (by kernel_rfl) (eqt_law13_bonds_neq_46 aA aB aT aY aZ aO aP aV bA bB _)) (wpX_nil (by kernel_rfl) (th_n ?_)))
   refine wpE_cond (t := (!((aA == aO) && ((aB == aP) && ((decide (aT = aV)) && ((aY == bA) && (aZ == bB))))))) (by kernel_rfl) (fun hc3 => ?_) (fun hc3 => ?_)
   ·replace h := h.1 hc3
    refine wpE_seq (rg (q0 (vb false) (wpL_nil (th_n (wpE_ret (bl_r (th_r (th_r (bl_r (th_r (res1 (.inl rfl) Try.results18 (v := (vb false)) (by kernel_rfl) ?_)))))))))))
    exact ⟨false, rfl, h⟩
   ·replace h := h.2 hc3
    refine wpE_skip (bl_n (th_n (rg (q0 (vi i1) (q0 (vi (IntKind.i64.wrap (i1 + 1))) (q0 (vi (IntKind.i64.wrap (i1 + 1))) (wpL_nil (th_n ?_))))))))
    exact ⟨((IntKind.i64.wrap (i1 + 1)), Hl1, w1), ⟨rfl, Has.mk (by kernel_rfl), hs, hb, h.1⟩, h.2⟩
  ·replace h := h.2 hc2
   refine wpE_exit (th_x (th_x (bl_eq (th_n (wpE_seq (rg (q0 (vb true) (wpL_nil (th_n (wpE_ret (res1 (.inl rfl) Try.results18 (v := (vb true)) (by kernel_rfl) ?_)))))))))))
   exact ⟨true, rfl, h⟩
theorem eqt_law13_faults_neq_134 (a0 a1 : Int) (a2 a3 : Int) (a4 b0 : Int) (b1 b2 : Int) (b3 b4 : Int) (w : World) : (Go.binOp .neq 134 (.agg #[(.int .i64 a0), (.int .u64 a1), (.int .i64 a2), (.int .i64 a3), (.int .i64 a4)]) (.agg #[(.int .i64 b0), (.int .u64 b1), (.int .i64 b2), (.int .i64 b3), (.int .i64 b4)])).run Try.prog w = .ok (.bool (!((a0 == b0) && ((a1 == b1) && ((a2 == b2) && ((a3 == b3) && (a4 == b4))))))) w := by
 simp [Go.binOp, Op.equal, Op.maxDepth, go_sem, streq, bne]
 repeat' split
 all_goals simp_all
def m_law13_faults_l1 (a1 b1 : Sl) (i1 : Int) (w0 : World) (Hl1 : Nat → Prop) (wl1 : World) (Kc1 : Int → (Nat → Prop) → World → Prop) (K : Bool → World → Prop) : Prop :=
 Br (decide (i1 < (a1.len : Int)))
  (∃ a2 : Addr, At a1 i1 5 a2 ∧
  ∀ (w1 : World), Hst w0 Hl1 wl1 Hl1 w1 →
  ∃ aA aB : Int, ∃ aD aM aN : Int, Row w1 a2 [(vi aA), (vu aB), (vi aD), (vi aM), (vi aN)] ∧
  ∃ a3 : Addr, At b1 i1 5 a3 ∧
  ∃ aO aP : Int, ∃ aU bC bD : Int, Row w1 a3 [(vi aO), (vu aP), (vi aU), (vi bC), (vi bD)] ∧
  Br (!((aA == aO) && ((aB == aP) && ((aD == aU) && ((aM == bC) && (aN == bD))))))
   (K false w1)
   (Kc1 (IntKind.i64.wrap (i1 + 1)) Hl1 w1))
  (K true wl1)
def m_law13_faults (a1 b1 : Sl) (w0 : World) (K : Bool → World → Prop) : Prop :=
 Br (((a1.len : Int) : Int) != (b1.len : Int))
  (K false w0)
  (∃ (I1 : Int → (Nat → Prop) → World → Prop) (mu1 : Int → World → Nat), I1 0 None w0 ∧
   ∀ (i1 : Int) (Hl1 : Nat → Prop) (wl1 : World), Hst w0 Hl1 wl1 Hl1 wl1 → I1 i1 Hl1 wl1 → m_law13_faults_l1 a1 b1 i1 w0 Hl1 wl1 (fun y'0 H' w' => I1 y'0 H' w' ∧ mu1 y'0 w' < mu1 i1 wl1) K)
theorem w_law13_faults (a1 b1 : Sl) (w0 : World) (K : Bool → World → Prop) (h : m_law13_faults a1 b1 w0 K) :
  Calls Try.prog 21 #[a1.v, b1.v] w0 (fun e w' => ∃ r1 : Bool, e = .returned (vb r1) ∧ K r1 w') := by
 unfold m_law13_faults at h
 refine calls_of_wpE (args := [a1.v, b1.v]) Try.func21 rfl Try.ntmps21 (Nat.le_of_ble_eq_true rfl) ?_
 have hs := Hst.start w0
 have hb := HB.nil None w0
 refine wpE_seq (rg (q0 (vb false) (wpL_nil (th_n (wpE_seq (wpE_seq (rg (q0 a1.v (q0 (vi (a1.len : Int)) (q0 b1.v (q0 (vi (b1.len : Int)) ?_)))))))))))
 refine q0 (vb (((a1.len : Int) : Int) != (b1.len : Int))) (wpL_nil (th_n ?_))
 refine wpE_cond (t := (((a1.len : Int) : Int) != (b1.len : Int))) (by kernel_rfl) (fun hc1 => ?_) (fun hc1 => ?_)
 ·replace h := h.1 hc1
  refine wpE_seq (rg (q0 (vb false) (wpL_nil (th_n (wpE_ret (th_r (res1 (.inl rfl) Try.results21 (v := (vb false)) (by kernel_rfl) ?_)))))))
  exact ⟨false, rfl, h⟩
 ·replace h := h.2 hc1
  refine wpE_skip (th_n (wpE_seq (wpE_seq (rg (q0 (vi 0) (wpL_nil (th_n (wpE_block ?_))))))))
  obtain ⟨I1, mu1, h0, hr⟩ := h
  refine wpE_loop (σ := Int × (Nat → Prop) × World) (fun s ρ w => w = s.2.2 ∧ Has ρ [(0, a1.v), (1, b1.v), (5, (vi s.1))] ∧ Hst w0 s.2.1 w s.2.1 w ∧ HB s.2.1 w [] ∧ I1 s.1 s.2.1 s.2.2) (fun s => mu1 s.1 s.2.2) (0, None, w0) ⟨rfl, Has.mk (by kernel_rfl), hs, hb, h0⟩ ?_
  clear hs hb
  rintro ⟨i1, Hl1, wl1⟩ ρ w ⟨hw, hH, hs, hb, hI⟩
  obtain rfl : wl1 = w := (show w = wl1 from hw).symm
  replace hH : Has ρ [(0, a1.v), (1, b1.v), (5, (vi i1))] := hH
  replace hs : Hst w0 Hl1 wl1 Hl1 wl1 := hs
  replace hb : HB Hl1 wl1 [] := hb
  have h := hr i1 Hl1 wl1 hs hI
  clear hr h0
  unfold m_law13_faults_l1 at h
  refine wpE_has hH ?_
  clear hH hI
  refine wpE_seq (wpE_seq (rg (q0 (vi i1) (q0 a1.v (q0 (vi (a1.len : Int)) (q0 (vb (decide (i1 < (a1.len : Int)))) (wpL_nil (th_n ?_))))))))
  refine wpE_cond (t := (decide (i1 < (a1.len : Int)))) (by kernel_rfl) (fun hc2 => ?_) (fun hc2 => ?_)
  ·replace h := h.1 hc2
   refine wpE_skip (th_n (wpE_seq (wpE_block (wpE_seq (wpE_drawnQ (by kernel_rfl) (by kernel_rfl) (by kernel_rfl) (by kernel_rfl) ?_)))))
   intro w1 hw1
   replace hs : Hst w0 Hl1 wl1 Hl1 w1 := by rw [hw1]; exact hs.drew
   replace hb : HB Hl1 w1 [] := by rw [hw1]; exact hb.drew
   clear hw1
   refine qq 0 a1.v Kp0 (qq 1 (vi i1) Kp1 (qgo (k := 2) (by kernel_rfl) ?_))
   obtain ⟨a2, hv4, h⟩ := h
   refine sxQ (v := (vp (some a2))) Kp2 (want0 rfl) rfl (x_indexAddr (s := a1) (k := .i64) (i := i1) (by kernel_rfl) (by kernel_rfl) (Try.runUnderlying35 _) (Try.sizeOf134 _) hv4) (qgo (k := 3) (by kernel_rfl) ?_)
   replace h := h w1 hs
   replace hs := hs.here
   obtain ⟨aA, aB, aD, aM, aN, hv3, h⟩ := h
   refine sxQ (v := (.agg #[(vi aA), (vu aB), (vi aD), (vi aM), (vi aN)])) Kp3 (want0 rfl) rfl (x_loadA (a := a2) (vs := [(vi aA), (vu aB), (vi aD), (vi aM), (vi aN)]) (by kernel_rfl) (Try.isAgg134 _) (Try.sizeOf134 _) rfl hv3) (qq 4 b1.v Kp4 (qq 5 (vi i1) Kp5 (qgo (k := 6) (by kernel_rfl) ?_)))
   obtain ⟨a3, hv2, h⟩ := h
   refine sxQ (v := (vp (some a3))) Kp6 (want0 rfl) rfl (x_indexAddr (s := b1) (k := .i64) (i := i1) (by kernel_rfl) (by kernel_rfl) (Try.runUnderlying35 _) (Try.sizeOf134 _) hv2) (qgo (k := 7) (by kernel_rfl) ?_)
   obtain ⟨aO, aP, aU, bC, bD, hv1, h⟩ := h
   refine sxQ (v := (.agg #[(vi aO), (vu aP), (vi aU), (vi bC), (vi bD)])) Kp7 (want0 rfl) rfl (x_loadA (a := a3) (vs := [(vi aO), (vu aP), (vi aU), (vi bC), (vi bD)]) (by kernel_rfl) (Try.isAgg134 _) (Try.sizeOf134 _) rfl hv1) (qr 8 (vb (!((aA == aO) && ((aB == aP) && ((aD == aU) && ((aM == bC) && (aN == bD))))))) Kp8 (x_aggeq (by kernel_rfl) (by kernel_rfl) (by kernel_rfl) (eqt_law13_faults_neq_134 aA aB aD aM aN aO aP aU bC bD _)) (wpX_nil (by kernel_rfl) (th_n ?_)))
   refine wpE_cond (t := (!((aA == aO) && ((aB == aP) && ((aD == aU) && ((aM == bC) && (aN == bD))))))) (by kernel_rfl) (fun hc3 => ?_) (fun hc3 => ?_)
   ·replace h := h.1 hc3
    refine wpE_seq (rg (q0 (vb false) (wpL_nil (th_n (wpE_ret (bl_r (th_r (th_r (bl_r (th_r (res1 (.inl rfl) Try.results21 (v := (vb false)) (by kernel_rfl) ?_)))))))))))
    exact ⟨false, rfl, h⟩
   ·replace h := h.2 hc3
    refine wpE_skip (bl_n (th_n (rg (q0 (vi i1) (q0 (vi (IntKind.i64.wrap (i1 + 1))) (q0 (vi (IntKind.i64.wrap (i1 + 1))) (wpL_nil (th_n ?_))))))))
    exact ⟨((IntKind.i64.wrap (i1 + 1)), Hl1, w1), ⟨rfl, Has.mk (by kernel_rfl), hs, hb, h.1⟩, h.2⟩
  ·replace h := h.2 hc2
   refine wpE_exit (th_x (th_x (bl_eq (th_n (wpE_seq (rg (q0 (vb true) (wpL_nil (th_n (wpE_ret (res1 (.inl rfl) Try.results21 (v := (vb true)) (by kernel_rfl) ?_)))))))))))
   exact ⟨true, rfl, h⟩
def m_law13_ArbiterLists_j1 (x1 : Bool) (w : World) (K : Bool → World → Prop) : Prop :=
 Br x1
  (Calls Try.prog 16 #[] w (fun e w7 => ∃ r9 : Bool, e = .returned (vb r9) ∧ 
   K r9 w7))
  (K false w)
def m_law13_ArbiterLists (l1 : Sl) (w0 : World) (K : Bool → World → Prop) : Prop :=
 Calls Try.prog 15 #[l1.v] w0 (fun e w1 => ∃ r1 : Bool, e = .returned (vb r1) ∧ 
  Br r1
   (Calls Try.prog 16 #[] w1 (fun e w2 => ∃ r2 : Bool, e = .returned (vb r2) ∧ 
    K r2 w2))
   (Calls Try.prog 17 #[l1.v] w1 (fun e w3 => ∃ r3 : Option Addr, ∃ r4 r5 : Sl, e = .returned (.tuple #[(vp r3), r4.v, r5.v]) ∧ 
    Br (Option.isNone r3)
     (K false w3)
     (Calls Try.prog 19 #[(vp r3), r4.v] w3 (fun e w4 => ∃ r6 : Sl, e = .returned r6.v ∧ 
      Calls Try.prog 20 #[r5.v] w4 (fun e w5 => ∃ r7 : Sl, e = .returned r7.v ∧ 
       Calls Try.prog 18 #[r6.v, r7.v] w5 (fun e w6 => ∃ r8 : Bool, e = .returned (vb r8) ∧ 
        Br r8
         (Calls Try.prog 22 #[(vp r3), r4.v] w6 (fun e w8 => ∃ r10 : Sl, e = .returned r10.v ∧ 
          Calls Try.prog 23 #[r5.v] w8 (fun e w9 => ∃ r11 : Sl, e = .returned r11.v ∧ 
           Calls Try.prog 21 #[r10.v, r11.v] w9 (fun e w10 => ∃ r12 : Bool, e = .returned (vb r12) ∧ 
            m_law13_ArbiterLists_j1 r12 w10 K))))
         (m_law13_ArbiterLists_j1 false w6 K))))))))
theorem w_law13_ArbiterLists (l1 : Sl) (w0 : World) (K : Bool → World → Prop) (h : m_law13_ArbiterLists l1 w0 K) :
  Calls Try.prog 3 #[l1.v] w0 (fun e w' => ∃ r13 : Bool, e = .returned (vb r13) ∧ K r13 w') := by
 unfold m_law13_ArbiterLists at h
 refine calls_of_wpE (args := [l1.v]) Try.func3 rfl Try.ntmps3 (Nat.le_of_ble_eq_true rfl) (wpE_seq (rg (q0 (vb false) (wpL_nil (th_n (wpE_seq (wpE_seq (rg (q0 l1.v ?_)))))))))
 refine st_call (want0 rfl) (xc Try.call15) (h.mono ?_)
 rintro e w1 ⟨r1, rfl, h⟩
 refine ⟨_, rfl, ?_⟩
 refine wpL_nil (th_n ?_)
 refine wpE_cond (t := r1) (by kernel_rfl) (fun hc1 => ?_) (fun hc1 => ?_)
 ·replace h := h.1 hc1
  refine wpE_seq (rg ?_)
  refine st_call (want0 rfl) (xc Try.call16) (h.mono ?_)
  rintro e w2 ⟨r2, rfl, h⟩
  refine ⟨_, rfl, ?_⟩
  refine q0 (vb r2) (wpL_nil (th_n (wpE_ret (th_r (res1 (.inl rfl) Try.results3 (v := (vb r2)) (by kernel_rfl) ?_)))))
  exact ⟨r2, rfl, h⟩
 ·replace h := h.2 hc1
  refine wpE_skip (th_n (wpE_seq (rg (q0 l1.v ?_))))
  refine st_call (want0 rfl) (xc Try.call17) (h.mono ?_)
  rintro e w3 ⟨r3, r4, r5, rfl, h⟩
  refine ⟨_, rfl, ?_⟩
  refine q0 (.tuple #[(vp r3), r4.v, r5.v]) (q0 (vp r3) (q0 r4.v (q0 r5.v (q0 (vp r3) (q0 r4.v (q0 r5.v (wpL_nil (th_n (wpE_seq (wpE_seq (rg ?_)))))))))))
  refine q0 (vp r3) (q2 (vb (Option.isNone r3)) (x_ptreq (by kernel_rfl) rfl Try.underlying25) (wpL_nil (th_n ?_)))
  refine wpE_cond (t := (Option.isNone r3)) (by kernel_rfl) (fun hc2 => ?_) (fun hc2 => ?_)
  ·replace h := h.1 hc2
   refine wpE_seq (rg (q0 (vb false) (wpL_nil (th_n (wpE_ret (th_r (res1 (.inl rfl) Try.results3 (v := (vb false)) (by kernel_rfl) ?_)))))))
   exact ⟨false, rfl, h⟩
  ·replace h := h.2 hc2
   refine wpE_skip (th_n (wpE_seq (rg (q0 (vp r3) (q0 r4.v ?_)))))
   refine st_call (want0 rfl) (xc Try.call19) (h.mono ?_)
   rintro e w4 ⟨r6, rfl, h⟩
   refine ⟨_, rfl, ?_⟩
   refine q0 r5.v ?_
   refine st_call (want0 rfl) (xc Try.call20) (h.mono ?_)
   rintro e w5 ⟨r7, rfl, h⟩
   refine ⟨_, rfl, ?_⟩
   refine st_call (want0 rfl) (xc Try.call18) (h.mono ?_)
   rintro e w6 ⟨r8, rfl, h⟩
   refine ⟨_, rfl, ?_⟩
   refine q0 (vb r8) ?_
   refine wpL_join 7 (fun ρ w => ∃ x1 : Bool, Has ρ [(30, (vb x1))] ∧ m_law13_ArbiterLists_j1 x1 w K) ?_ ?_
   ·rintro ρ w ⟨x1, hH, h⟩
    unfold m_law13_ArbiterLists_j1 at h
    refine wpL_has hH ?_
    clear hH
    refine q0 (vb x1) ?_
    rcases Bool.eq_false_or_eq_true x1 with hg1 | hg1
    ·replace h := h.1 hg1
     refine st_call (want1 rfl (yD 31 hg1)) (xc Try.call16) (h.mono ?_)
     rintro e w7 ⟨r9, rfl, h⟩
     refine ⟨_, rfl, ?_⟩
     refine q2 (vb r9) (xT hg1) (q0 (vb r9) (wpL_nil (th_n (wpE_ret (res1 (.inl rfl) Try.results3 (v := (vb r9)) (by kernel_rfl) ?_)))))
     exact ⟨r9, rfl, h⟩
    ·replace h := h.2 hg1
     refine sk (yD 31 hg1) (q2 (vb false) (xF hg1) (q0 (vb false) (wpL_nil (th_n (wpE_ret (res1 (.inl rfl) Try.results3 (v := (vb false)) (by kernel_rfl) ?_))))))
     exact ⟨false, rfl, h⟩
   ·skip
    rcases Bool.eq_false_or_eq_true r8 with hg2 | hg2
    ·replace h := h.1 hg2
     refine q1 (vp r3) (want1 rfl (yD 23 hg2)) (q1 r4.v (want1 rfl (yD 23 hg2)) ?_)
     refine st_call (want1 rfl (yD 23 hg2)) (xc Try.call22) (h.mono ?_)
     rintro e w8 ⟨r10, rfl, h⟩
     refine ⟨_, rfl, ?_⟩
     refine q1 r5.v (want1 rfl (yD 23 hg2)) ?_
     refine st_call (want1 rfl (yD 23 hg2)) (xc Try.call23) (h.mono ?_)
     rintro e w9 ⟨r11, rfl, h⟩
     refine ⟨_, rfl, ?_⟩
     refine st_call (want1 rfl (yD 23 hg2)) (xc Try.call21) (h.mono ?_)
     rintro e w10 ⟨r12, rfl, h⟩
     refine ⟨_, rfl, ?_⟩
     refine q2 (vb r12) (xT hg2) (wpL_nil ?_)
     exact ⟨r12, Has.mk (by kernel_rfl), h⟩
    ·replace h := h.2 hg2
     refine sk (yD 23 hg2) (sk (yD 23 hg2) (sk (yD 23 hg2) (sk (yD 23 hg2) (sk (yD 23 hg2) (sk (yD 23 hg2) (q2 (vb false) (xF hg2) (wpL_nil ?_)))))))
     exact ⟨false, Has.mk (by kernel_rfl), h⟩
end Go.Proofs
end
section
open Go Go.SE
namespace Go.Proofs
attribute [local irreducible] Calls
theorem c_law13_large {S : Nat → Prop} (ts : List Sp.Tree) (s : Sl) (w0 : World) (hT : TreeAt S w0 s (.mk 0 0 0 0 ⟨#[]⟩ ts)) (hS : ∀ b, S b → b < w0.heap.size) :
  Calls Try.prog 15 #[s.v] w0 (fun e w' => ∃ r : Bool, e = .returned (.bool r) ∧ ((r = false → ts.length ≤ 40 ∧ Sp.cntAll ts ≤ 6000) ∧ Pure w0 w')) := by
 refine w_law13_large _ w0 (fun r w' => (r = false → ts.length ≤ 40 ∧ Sp.cntAll ts ≤ 6000) ∧ Pure w0 w') ?_
 unfold m_law13_large
 have hlen : s.len = ts.length := by cases hT; assumption
 refine ⟨fun h => ⟨fun h => (by cases h), Ext.refl _⟩, fun h => ?_⟩
 have hle : ts.length ≤ 40 := by have := of_decide_eq_false h; omega
 refine (c_ref05_Parts (.mk 0 0 0 0 ⟨#[]⟩ ts) s 6000 w0 (by omega) (by omega) hT hS).mono ?_
 rintro _ w1 ⟨r, rfl, hr, E⟩
 refine ⟨_, rfl, fun h => ⟨hle, ?_⟩, E⟩
 have h := of_decide_eq_false h
 have hp := (Sp.parts_facts (.mk 0 0 0 0 ⟨#[]⟩ ts) 6000 (by omega)).2.2 (by omega)
 rw [Sp.cnt] at hp
 omega
theorem c_law13_bonds (bs : List Sp.Bond) (s1 s2 : Sl) (w0 : World) (h1 : Rws w0 46 5 s1 (bs.map brow)) (h2 : Rws w0 46 5 s2 (bs.map brow)) (hn : bs.length ≤ 2000000) :
  Calls Try.prog 18 #[s1.v, s2.v] w0 (fun e w' => ∃ r : Bool, e = .returned (.bool r) ∧ (r = true ∧ Pure w0 w')) := by
 refine w_law13_bonds _ _ w0 (fun r w' => r = true ∧ Pure w0 w') ?_
 unfold m_law13_bonds
 have l1 : s1.len = bs.length := by rw [h1.len]; simp
 have l2 : s2.len = bs.length := by rw [h2.len]; simp
 refine ⟨fun h => by rw [l1, l2] at h; simp at h, fun _ => ?_⟩
 refine ⟨fun i H w' => ∃ j : Nat, i = j ∧ j ≤ bs.length ∧ Pure w0 w', fun i _ => ((bs.length : Int) - i).toNat, ⟨0, rfl, Nat.zero_le _, Ext.refl _⟩, ?_⟩
 rintro _ Hl wl hl ⟨j, rfl, hj, El⟩
 unfold m_law13_bonds_l1
 refine ⟨fun h => ?_, fun h => ⟨rfl, El⟩⟩
 have hlt := lt_of_dec l1 h
 obtain ⟨a1, at1, r1⟩ := h1.nth hlt
 obtain ⟨a2, at2, r2⟩ := h2.nth hlt
 refine ⟨a1, at1, ?_⟩
 intro w1 hs1
 have E := El.hst hs1
 refine ⟨_, _, _, _, _, E.row r1 (fun h => h), a2, at2, _, _, _, _, _, E.row r2 (fun h => h), fun h => by simp at h, fun _ => ?_⟩
 rw [wrap_succ hlt (by omega)]
 exact ⟨⟨j + 1, rfl, hlt, E⟩, lt_dec hlt⟩
theorem c_law13_faults (bs : List Sp.Fault) (s1 s2 : Sl) (w0 : World) (h1 : Rws w0 134 5 s1 (bs.map frow)) (h2 : Rws w0 134 5 s2 (bs.map frow)) (hn : bs.length ≤ 2000000) :
  Calls Try.prog 21 #[s1.v, s2.v] w0 (fun e w' => ∃ r : Bool, e = .returned (.bool r) ∧ (r = true ∧ Pure w0 w')) := by
 refine w_law13_faults _ _ w0 (fun r w' => r = true ∧ Pure w0 w') ?_
 unfold m_law13_faults
 have l1 : s1.len = bs.length := by rw [h1.len]; simp
 have l2 : s2.len = bs.length := by rw [h2.len]; simp
 refine ⟨fun h => by rw [l1, l2] at h; simp at h, fun _ => ?_⟩
 refine ⟨fun i H w' => ∃ j : Nat, i = j ∧ j ≤ bs.length ∧ Pure w0 w', fun i _ => ((bs.length : Int) - i).toNat, ⟨0, rfl, Nat.zero_le _, Ext.refl _⟩, ?_⟩
 rintro _ Hl wl hl ⟨j, rfl, hj, El⟩
 unfold m_law13_faults_l1
 refine ⟨fun h => ?_, fun h => ⟨rfl, El⟩⟩
 have hlt := lt_of_dec l1 h
 obtain ⟨a1, at1, r1⟩ := h1.nth hlt
 obtain ⟨a2, at2, r2⟩ := h2.nth hlt
 refine ⟨a1, at1, ?_⟩
 intro w1 hs1
 have E := El.hst hs1
 refine ⟨_, _, _, _, _, E.row r1 (fun h => h), a2, at2, _, _, _, _, _, E.row r2 (fun h => h), fun h => by simp at h, fun _ => ?_⟩
 rw [wrap_succ hlt (by omega)]
 exact ⟨⟨j + 1, rfl, hlt, E⟩, lt_dec hlt⟩
end Go.Proofs
end
section
open Go Go.SE
namespace Go.Proofs
attribute [local irreducible] Calls
theorem c_ref05_Tree (p : Addr) {L : Sp.Pool} (hW : Sp.Wf L) : ∀ (n : Nat) (t : Int) (w0 : World) (F : Nat → Prop), t.toNat = n → PoolR w0 p L F →
  Calls Try.prog 63 #[.pointer (some p), .int .i64 t] w0 (RetT w0.heap.size w0 (Sp.treeOf L t)) := by
 intro n
 induction n using Nat.strongRecOn with
 | _ n ih =>
 intro t w0 F hn hP
 suffices key : ∀ K : Int → Int → Int → Int → ByteArray → Sl → World → Prop, (∀ k f t' u x s' w' ks, Sp.treeOf L t = .mk k f t' u x ks → TreeAt (w0.heap.size ≤ ·) w' s' (.mk k f t' u x ks) → Pure w0 w' → K k f t' u x s' w') → m_ref05_Pool_Tree (some p) t w0 K by
  refine (w_ref05_Pool_Tree _ _ w0 (fun k f t' u x s' w' => ∃ ks, Sp.treeOf L t = .mk k f t' u x ks ∧ TreeAt (w0.heap.size ≤ ·) w' s' (.mk k f t' u x ks) ∧ Pure w0 w') (key _ (fun k f t' u x s' w' ks h1 h2 h3 => ⟨ks, h1, h2, h3⟩))).mono ?_
  rintro _ w' ⟨k, f, t', u, x, s', rfl, ks, h1, h2, h3⟩
  rw [h1]
  exact ⟨s', rfl, h2, h3⟩
 intro K hK
 have hok := hW.ok
 have hnil : ∀ b, ¬ Sl.nil.blk b := fun b hb => by obtain ⟨a, h, _⟩ := hb; cases h
 unfold m_ref05_Pool_Tree
 intro H1 w1 hs1
 have E1 := hs1.first
 refine (c_ref05_Node p t w1 (hP.pure E1) hok).mono ?_
 rintro _ w2 ⟨k, f, t', u, x, a, b, r, rfl, ⟨hnd, hr⟩, E2⟩
 have E02 := E1.trans E2
 have hs2 := hs1.again E2.keptP
 refine ⟨_, _, _, _, _, _, _, _, rfl, E2.keptP, fun h => ?_, fun h => ?_⟩
 ·intro H2 w5 hs5
  have hin : Sp.inP L t = false := by rw [← hr]; simpa using h
  exact hK _ _ _ _ _ _ _ [] (by rw [Sp.treeOf_none hin]; rfl) TreeAt.leaf (E02.hst hs5)
 ·have hin : Sp.inP L t = true := by rw [← hr]; simpa using h
  have htr := Sp.treeOf_in hW hin
  have hnode := hW.node hin
  rw [← hnd] at htr hnode
  simp only at htr hnode
  obtain ⟨_, _, _, _, hkid, _, _⟩ := hnode
  have hpos := Sp.inP_iff.1 hin
  rw [ref05_kids]
  have J1 : ∀ (xs : Sl) (H : Nat → Prop) (w : World) (ps : List (Sp.Tree × Sl)) (S' : Nat → Prop), Hst w0 H w H w → Pure w0 w → Own H w 116 6 xs (ps.map prow) → ps.length ≤ 1 → (∀ p ∈ ps, TreeAt S' w p.2 p.1) → (∀ b, S' b → w0.heap.size ≤ b ∧ b < w.heap.size ∧ ¬ H b ∧ ¬ xs.blk b) → (∀ b, xs.blk b → w0.heap.size ≤ b) →
    ((Sp.shapeOf k).kids = 2 → ps.map Prod.fst = [Sp.treeOf L a]) → ((Sp.shapeOf k).kids ≠ 2 → ps.map Prod.fst = (Sp.kidsOf ⟨k, f, t', u, x, a, b⟩).map (Sp.treeOf L)) →
    m_ref05_Pool_Tree_j1 (some p) k b k f t' u x xs w0 H w K := by
   intro xs H w ps S' hs E O hpl hkids hS' hxs h2 h1
   unfold m_ref05_Pool_Tree_j1
   rw [ref05_kids]
   refine ⟨fun h => ?_, fun h => ?_⟩
   ·have hk2 : (Sp.shapeOf k).kids = 2 := by simpa using h
    have hps := h2 hk2
    intro w9 hs9
    have E9 := E.hst hs9
    have O9 := O.hst hs9
    have E10 : Pure w9 w9.drew := Ext.drew w9
    refine ⟨fun _ => True, trivial, ?_⟩
    rintro _ rfl
    have hb := hkid b (by simp [Sp.kidsOf, hk2])
    have hbp := Sp.inP_iff.1 hb.1
    refine (ih b.toNat (by omega) b w9.drew F rfl (hP.pure (E9.trans E10))).mono ?_
    rintro _ w11 ⟨s', rfl, hTb, E11⟩
    generalize hTt : Sp.treeOf L b = tb at *
    obtain ⟨k2, f2, t2, u2, x2, ks2⟩ := tb
    refine ⟨_, _, _, _, _, s', rfl, trivial, E11.keptP, ?_⟩
    intro p5 w12 h12
    have E12 : Pure w11 w12 := Ext.new h12
    refine ⟨trivial, ?_⟩
    have hs12 : Hst w0 H w12 H w12 := (hs9.again E10.keptP).again (E11.trans E12).keptP
    obtain ⟨s1, w13, hr13, hO13, hE13, hk13, hb13⟩ := (O9.pure ((E10.trans E11).trans E12)).append (P := Try.prog) (ty := 22) (c := 1) slT_tree hs12 (r := trow (.mk k2 f2 t2 u2 x2 ks2) s') (Box.of_new h12).row rfl (trow_one _ _) (by simp; omega) (by simp [maxLen]; omega)
    refine ⟨s1, w13, hr13, trivial, hk13, ?_⟩
    intro w15 hs15
    have zd : w9.drew.heap.size = w9.heap.size := rfl
    have z9 := hs9.ext.size
    have z11 := E11.size
    have z12 := E12.size
    have z13 := hE13.size
    have hS9 : ∀ b, S' b → w0.heap.size ≤ b ∧ b < w9.heap.size ∧ ¬ H b ∧ ¬ xs.blk b := fun b hb => ⟨(hS' b hb).1, by have := (hS' b hb).2.1; omega, (hS' b hb).2.2.1, (hS' b hb).2.2.2⟩
    have hvs : ∀ b, s1.blk b → b < w13.heap.size ∧ ¬ H b := fun b hb => ⟨hO13.rows.lt hb, hO13.vis b hb⟩
    have hR15 := hO13.rows.ext hs15.ext (hs15.disj (G := s1.blk) hvs)
    have e1 : ps.map prow ++ [trow (.mk k2 f2 t2 u2 x2 ks2) s'] = (ps ++ [((.mk k2 f2 t2 u2 x2 ks2 : Sp.Tree), s')]).map prow := by simp [prow]
    rw [e1] at hR15
    have hT := TreeAt.of_pairs (S := fun b => w0.heap.size ≤ b) (k := k) (f := f) (t := t') (u := u) (x := x) hR15 (fun b hb => (hb13 b hb).elim (hxs b) (fun h => by have := E9.size; omega)) (fun q hq => ?_) (by simp; omega)
    ·have e2 : (ps ++ [((.mk k2 f2 t2 u2 x2 ks2 : Sp.Tree), s')]).map Prod.fst = (Sp.kidsOf ⟨k, f, t', u, x, a, b⟩).map (Sp.treeOf L) := by
      rw [List.map_append, hps]; simp [Sp.kidsOf, hk2, hTt]
     rw [e2] at hT
     exact hK _ _ _ _ _ _ _ _ htr hT ((((E9.trans E10).trans E11).trans E12).trans' hE13 (fun i hi hb => by have := hxs i hb; omega) |>.hst hs15)
    ·rcases List.mem_append.1 hq with h | h
     ·have q1 := (hkids q h).hst hs9 (fun b hb => ⟨(hS' b hb).2.1, (hS' b hb).2.2.1⟩)
      have q2 := (q1.pure ((E10.trans E11).trans E12)).ext hE13 (fun b hb hy => (hS' b hb).2.2.2 hy)
      exact (q2.hst hs15 (fun b hb => ⟨by have := (hS9 b hb).2.1; omega, (hS' b hb).2.2.1⟩)).mono (fun b hb => (hS' b hb).1)
     ·simp only [List.mem_singleton] at h; subst h
      have q1 := (hTb.lt.pure E12).ext hE13 (fun b hb hy => by have := O9.rows.lt hy; have := hb.1; omega)
      exact (q1.hst hs15 (fun b hb => ⟨by have := hb.2; omega, fun hh => by have := hs9.lt b hh; have := hb.1; omega⟩)).mono (fun b hb => by have := hb.1; have := E9.size; omega)
   ·have hk2 : (Sp.shapeOf k).kids ≠ 2 := by simpa using h
    intro w16 hs16
    have O16 := O.hst hs16
    have hT := TreeAt.of_pairs (S := fun b => w0.heap.size ≤ b) (k := k) (f := f) (t := t') (u := u) (x := x) O16.rows hxs (fun q hq => ((hkids q hq).hst hs16 (fun b hb => ⟨(hS' b hb).2.1, (hS' b hb).2.2.1⟩)).mono (fun b hb => (hS' b hb).1)) (by omega)
    rw [h1 hk2] at hT
    exact hK _ _ _ _ _ _ _ _ htr hT (E.hst hs16)
  have hkk := Sp.kids_le k
  refine ⟨fun h => ?_, fun h => ?_⟩
  ·have hk1 : 1 ≤ (Sp.shapeOf k).kids := by have := of_decide_eq_true h; omega
   intro H3 w8 hs8
   have E8 := E02.hst hs8
   have E17 : Pure w8 w8.drew := Ext.drew w8
   refine ⟨fun _ => True, trivial, ?_⟩
   rintro _ rfl
   have ha := hkid a (by rcases hkk with h | h | h <;> simp [Sp.kidsOf, h] <;> omega)
   have hap := Sp.inP_iff.1 ha.1
   refine (ih a.toNat (by omega) a w8.drew F rfl (hP.pure (E8.trans E17))).mono ?_
   rintro _ w18 ⟨s', rfl, hTa, E18⟩
   generalize hTt : Sp.treeOf L a = ta at *
   obtain ⟨k2, f2, t2, u2, x2, ks2⟩ := ta
   refine ⟨_, _, _, _, _, s', rfl, trivial, E18.keptP, ?_⟩
   intro p6 w19 h19
   have E19 : Pure w18 w19 := Ext.new h19
   refine ⟨trivial, ?_⟩
   have hs19 : Hst w0 H3 w19 H3 w19 := (hs8.again E17.keptP).again (E18.trans E19).keptP
   obtain ⟨s2, w20, hr20, hO20, hE20, hk20, hb20⟩ := (Own.nil (sz := 6) (e := 116) H3 w19).append (P := Try.prog) (ty := 22) (c := 1) slT_tree hs19 (r := trow (.mk k2 f2 t2 u2 x2 ks2) s') (Box.of_new h19).row rfl (trow_one _ _) (by simp) (by simp [maxLen])
   refine ⟨s2, w20, hr20, trivial, hk20, ?_⟩
   intro w21 hs21
   have zd : w8.drew.heap.size = w8.heap.size := rfl
   have z18 := E18.size
   have z19 := E19.size
   have z20 := hE20.size
   have z21 := hs21.ext.size
   have E20 : Pure w19 w20 := hE20.mono (fun b _ hb => hnil b hb)
   have hs2n : ∀ b, s2.blk b → w19.heap.size ≤ b := fun b hb => (hb20 b hb).elim (fun h => (hnil b h).elim) id
   refine J1 s2 H3 w21 [((.mk k2 f2 t2 u2 x2 ks2 : Sp.Tree), s')] (fun b => w8.heap.size ≤ b ∧ b < w18.heap.size) hs21.here ((((E8.trans E17).trans E18).trans E19).trans E20 |>.hst hs21) ?_ (by simp) ?_ ?_ (fun b hb => by have := hs2n b hb; have := E8.size; omega) (fun _ => by simp) (fun hne => ?_)
   ·have := hO20.hst hs21; simpa [prow] using this
   ·intro q hq
    simp only [List.mem_singleton] at hq; subst hq
    exact ((hTa.lt.pure E19).pure E20).hst hs21 (fun b hb => ⟨by have := hb.2; omega, fun hh => by have := hs8.lt b hh; have := hb.1; omega⟩)
   ·rintro b ⟨h1, h2⟩
    exact ⟨by have := E8.size; omega, by omega, fun hh => by have := hs8.lt b hh; omega, fun hh => by have := hs2n b hh; omega⟩
   ·rcases hkk with h | h | h
    ·omega
    ·simp [Sp.kidsOf, h, hTt]
    ·exact absurd h hne
  ·have hk0 : (Sp.shapeOf k).kids = 0 := by have := of_decide_eq_false h; omega
   intro H3 w8 hs8
   exact J1 Sl.nil H3 w8 [] (fun _ => False) hs8.here (E02.hst hs8) (Own.nil _ _) (by simp) (by simp) (fun b h => h.elim) (fun b h => (hnil b h).elim) (fun h => by omega) (fun _ => by simp [Sp.kidsOf, hk0])
end Go.Proofs
end
section
namespace Go.Sp
def kidT (x : Tree) : List Nat → Tree
 | [] => x
 | i :: path => match x.kids[i]? with
  | none => noTree
  | some y => kidT y path
def isSigned (k : Int) : Bool := (k == 1 || k == 2) || k == 4
def isTexted (k : Int) : Bool := isSigned k || k == 6
def letErr (l : Letter) : Int :=
 if l.kind < 1 ∨ l.kind > 7 ∨ (l.frm ≠ 0 ∧ l.frm ≠ 1) ∨ (isSigned l.kind = false ∧ l.frm ≠ 0) ∨ (isTexted l.kind = false ∧ l.text ≠ ⟨#[]⟩) ∨ (l.fake = true ∧ l.kind ≠ 1 ∧ l.kind ≠ 4) then 110 else if l.text.size > 64 then 1 else 0
def cand (x : Tree) (kind : Int) (p : List Nat) : Letter :=
 ⟨kind, if isSigned kind then x.node.frm else 0,
  if isTexted kind then (kidT (kidT x p) [1, 0]).node.num else if kind == 7 then (kidT x [1]).node.num else (kidT x [0, 1]).node.num,
  if isTexted kind then (kidT (kidT x p) [1, 1]).node.text else ⟨#[]⟩, false⟩
def withFake (l : Letter) (f : Nat) : Letter := { l with fake := decide (f > 0) }
def fits (x : Tree) (l : Letter) (f : Nat) : Bool :=
 decide (letErr (withFake l f) = 0) && (l.kind == 4 || decide (f ≠ 2)) && same (letterT (withFake l f) (f % 2 == 1) (f / 2 == 1)) x
def tryFakes (x : Tree) (l : Letter) : Nat → Nat → Option Letter
 | 0, _ => none
 | n + 1, f => if fits x l f then some (withFake l f) else tryFakes x l n (f + 1)
def tryDeals (x : Tree) (kind : Int) : List (List Nat) → Option Letter
 | [] => none
 | p :: ps => match tryFakes x (cand x kind p) 4 0 with
  | some l => some l
  | none => tryDeals x kind ps
def deals : List (List Nat) := [[0], [0, 1, 0, 0], [0, 1]]
def tryKinds (x : Tree) : Nat → Int → Option Letter
 | 0, _ => none
 | n + 1, k => match tryDeals x k deals with
  | some l => some l
  | none => tryKinds x n (k + 1)
def readTree (x : Tree) : Letter × Bool := match tryKinds x 7 1 with
 | some l => (l, true)
 | none => (noLetter, false)
def refRead (L : Pool) (t : Int) : Letter × Bool := if inP L t = true ∧ ¬ sizeOf L t > 40 then readTree (treeOf L t) else (noLetter, false)
end Go.Sp
end
section
open Go Go.SE
namespace Go.Proofs
set_option maxRecDepth 100000
set_option maxHeartbeats 4000000
attribute [local irreducible] wpL wpX opE wpE Calls
def m_ref11_kid_l1 (path1 : Sl) (i1 aV : Int) (aW bL bM : Int) (aX : ByteArray) (bN : Sl) (aI aJ : Int) (aY aZ : Int) (aK : ByteArray) (aT : Sl) (w0 : World) (Hl1 : Nat → Prop) (wl1 : World) (Kc1 : Int → Int → Int → Int → Int → ByteArray → Sl → Int → Int → Int → Int → ByteArray → Sl → (Nat → Prop) → World → Prop) (K : Int → Int → Int → Int → ByteArray → Sl → World → Prop) : Prop :=
 Br (decide (i1 < (path1.len : Int)))
  (∃ a1 : Addr, At path1 i1 1 a1 ∧
  ∀ (w3 : World), Hst w0 Hl1 wl1 Hl1 w3 →
  ∃ v1 : Int, w3.cell? a1 = some (vi v1) ∧
  Br (decide (v1 ≥ (aT.len : Int)))
   (∀ (w4 : World), Hst w0 Hl1 w3 Hl1 w4 →
   K 0 0 0 0 ⟨#[]⟩ Sl.nil w4)
   (∃ a2 : Addr, At path1 i1 1 a2 ∧
   ∃ v2 : Int, w3.cell? a2 = some (vi v2) ∧ ¬ Hl1 a2.block ∧
   ∃ a3 : Addr, At aT v2 6 a3 ∧
   ∃ bF bG : Int, ∃ bH bI : Int, ∃ bJ : ByteArray, ∃ bK : Sl, Row w3 a3 [(vi bF), (vi bG), (vi bH), (vu bI), (vs bJ), bK.v] ∧ ¬ Hl1 a3.block ∧
   ∀ (H3 : Nat → Prop) (w7 : World), Hst w0 Hl1 w3 H3 w7 →
   Kc1 (IntKind.i64.wrap (i1 + 1)) aV aW bL bM aX bN bF bG bH bI bJ bK H3 w7))
  (∀ (w9 : World), Hst w0 Hl1 wl1 Hl1 w9 →
  K aI aJ aY aZ aK aT w9)
def m_ref11_kid (aD aC : Int) (aE aF : Int) (aG : ByteArray) (aH path1 : Sl) (w0 : World) (K : Int → Int → Int → Int → ByteArray → Sl → World → Prop) : Prop :=
 ∀ (H2 : Nat → Prop) (w2 : World), Hst w0 None w0 H2 w2 →
 ∃ (I1 : Int → Int → Int → Int → Int → ByteArray → Sl → Int → Int → Int → Int → ByteArray → Sl → (Nat → Prop) → World → Prop) (mu1 : Int → Int → Int → Int → Int → ByteArray → Sl → Int → Int → Int → Int → ByteArray → Sl → World → Nat), I1 0 0 0 0 0 ⟨#[]⟩ Sl.nil aD aC aE aF aG aH H2 w2 ∧
  ∀ (i1 aV : Int) (aW bL bM : Int) (aX : ByteArray) (bN : Sl) (aI aJ : Int) (aY aZ : Int) (aK : ByteArray) (aT : Sl) (Hl1 : Nat → Prop) (wl1 : World), Hst w0 Hl1 wl1 Hl1 wl1 → I1 i1 aV aW bL bM aX bN aI aJ aY aZ aK aT Hl1 wl1 → m_ref11_kid_l1 path1 i1 aV aW bL bM aX bN aI aJ aY aZ aK aT w0 Hl1 wl1 (fun y'0 y'1 y'2 y'3 y'4 y'5 y'6 y'7 y'8 y'9 y'10 y'11 y'12 H' w' => I1 y'0 y'1 y'2 y'3 y'4 y'5 y'6 y'7 y'8 y'9 y'10 y'11 y'12 H' w' ∧ mu1 y'0 y'1 y'2 y'3 y'4 y'5 y'6 y'7 y'8 y'9 y'10 y'11 y'12 w' < mu1 i1 aV aW bL bM aX bN aI aJ aY aZ aK aT wl1) K
theorem w_ref11_kid (aD aC : Int) (aE aF : Int) (aG : ByteArray) (aH path1 : Sl) (w0 : World) (K : Int → Int → Int → Int → ByteArray → Sl → World → Prop) (h : m_ref11_kid aD aC aE aF aG aH path1 w0 K) :
  Calls Try.prog 161 #[(.agg #[(vi aD), (vi aC), (vi aE), (vu aF), (vs aG), aH.v]), path1.v] w0 (fun e w' => ∃ bT bU : Int, ∃ bV bW : Int, ∃ bX : ByteArray, ∃ bY : Sl, e = .returned (.agg #[(vi bT), (vi bU), (vi bV), (vu bW), (vs bX), bY.v]) ∧ K bT bU bV bW bX bY w') := by
 unfold m_ref11_kid at h
 refine calls_of_wpE (args := [(.agg #[(vi aD), (vi aC), (vi aE), (vu aF), (vs aG), aH.v]), path1.v]) Try.func161 rfl Try.ntmps161 (Nat.le_of_ble_eq_true rfl) ?_
 have hs := Hst.start w0
 have hb := HB.nil None w0
 refine wpE_seq (rg (sn (O := (.cells #[(vi aD), (vi aC), (vi aE), (vu aF), (vs aG), aH.v] 116)) xb ?_))
 intro p1 w1 hn1
 obtain ⟨H1, hs, hb⟩ := hs.alloc hb hn1
 refine sn (O := (.cells #[(vi 0), (vi 0), (vi 0), (vu 0), (vs ⟨#[]⟩), Sl.nil.v] 116)) (x_alloc (Try.zeroValue116 _) rfl) ?_
 intro p2 w2 hn2
 obtain ⟨H2, hs, hb⟩ := hs.alloc hb hn2
 refine wpL_nil (th_n (wpE_seq (wpE_seq (rg (q0 (vi 0) (wpL_nil (th_n (wpE_block ?_))))))))
 replace h := h H2 w2 hs
 replace hs := hs.here
 obtain ⟨I1, mu1, h0, hr⟩ := h
 refine wpE_loop (σ := Int × Int × Int × Int × Int × ByteArray × Sl × Int × Int × Int × Int × ByteArray × Sl × (Nat → Prop) × World) (fun s ρ w => w = s.2.2.2.2.2.2.2.2.2.2.2.2.2.2 ∧ Has ρ [(1, path1.v), (2, (vp (some p1))), (4, (vp (some p2))), (5, (vi s.1))] ∧ Hst w0 s.2.2.2.2.2.2.2.2.2.2.2.2.2.1 w s.2.2.2.2.2.2.2.2.2.2.2.2.2.1 w ∧ HB s.2.2.2.2.2.2.2.2.2.2.2.2.2.1 w [(p2, [(vi s.2.1), (vi s.2.2.1), (vi s.2.2.2.1), (vu s.2.2.2.2.1), (vs s.2.2.2.2.2.1), s.2.2.2.2.2.2.1.v], 116), (p1, [(vi s.2.2.2.2.2.2.2.1), (vi s.2.2.2.2.2.2.2.2.1), (vi s.2.2.2.2.2.2.2.2.2.1), (vu s.2.2.2.2.2.2.2.2.2.2.1), (vs s.2.2.2.2.2.2.2.2.2.2.2.1), s.2.2.2.2.2.2.2.2.2.2.2.2.1.v], 116)] ∧ I1 s.1 s.2.1 s.2.2.1 s.2.2.2.1 s.2.2.2.2.1 s.2.2.2.2.2.1 s.2.2.2.2.2.2.1 s.2.2.2.2.2.2.2.1 s.2.2.2.2.2.2.2.2.1 s.2.2.2.2.2.2.2.2.2.1 s.2.2.2.2.2.2.2.2.2.2.1 s.2.2.2.2.2.2.2.2.2.2.2.1 s.2.2.2.2.2.2.2.2.2.2.2.2.1 s.2.2.2.2.2.2.2.2.2.2.2.2.2.1 s.2.2.2.2.2.2.2.2.2.2.2.2.2.2) (fun s => mu1 s.1 s.2.1 s.2.2.1 s.2.2.2.1 s.2.2.2.2.1 s.2.2.2.2.2.1 s.2.2.2.2.2.2.1 s.2.2.2.2.2.2.2.1 s.2.2.2.2.2.2.2.2.1 s.2.2.2.2.2.2.2.2.2.1 s.2.2.2.2.2.2.2.2.2.2.1 s.2.2.2.2.2.2.2.2.2.2.2.1 s.2.2.2.2.2.2.2.2.2.2.2.2.1 s.2.2.2.2.2.2.2.2.2.2.2.2.2.2) (0, 0, 0, 0, 0, ⟨#[]⟩, Sl.nil, aD, aC, aE, aF, aG, aH, H2, w2) ⟨rfl, Has.mk (by kernel_rfl), hs, hb, h0⟩ ?_
 clear hs hb
 rintro ⟨i1, aV, aW, bL, bM, aX, bN, aI, aJ, aY, aZ, aK, aT, Hl1, wl1⟩ ρ w ⟨hw, hH, hs, hb, hI⟩
 obtain rfl : wl1 = w := (show w = wl1 from hw).symm
 replace hH : Has ρ [(1, path1.v), (2, (vp (some p1))), (4, (vp (some p2))), (5, (vi i1))] := hH
 replace hs : Hst w0 Hl1 wl1 Hl1 wl1 := hs
 replace hb : HB Hl1 wl1 [(p2, [(vi aV), (vi aW), (vi bL), (vu bM), (vs aX), bN.v], 116), (p1, [(vi aI), (vi aJ), (vi aY), (vu aZ), (vs aK), aT.v], 116)] := hb
 have h := hr i1 aV aW bL bM aX bN aI aJ aY aZ aK aT Hl1 wl1 hs hI
 clear hr h0
 unfold m_ref11_kid_l1 at h
 refine wpE_has hH ?_
 clear hH hI
 refine wpE_seq (wpE_seq (rg (q0 (vi i1) (q0 path1.v (q0 (vi (path1.len : Int)) (q0 (vb (decide (i1 < (path1.len : Int)))) (wpL_nil (th_n ?_))))))))
 refine wpE_cond (t := (decide (i1 < (path1.len : Int)))) (by kernel_rfl) (fun hc1 => ?_) (fun hc1 => ?_)
 ·replace h := h.1 hc1
  refine wpE_skip (th_n (wpE_seq (wpE_block (wpE_seq (wpE_seq (wpE_drawnQ (by kernel_rfl) (by kernel_rfl) (by kernel_rfl) (by kernel_rfl) ?_))))))
  intro w3 hw3
  replace hs : Hst w0 Hl1 wl1 Hl1 w3 := by rw [hw3]; exact hs.drew
  replace hb : HB Hl1 w3 [(p2, [(vi aV), (vi aW), (vi bL), (vu bM), (vs aX), bN.v], 116), (p1, [(vi aI), (vi aJ), (vi aY), (vu aZ), (vs aK), aT.v], 116)] := by rw [hw3]; exact hb.drew
  clear hw3
  refine qq 0 path1.v Kp0 (qq 1 (vi i1) Kp1 (qgo (k := 2) (by kernel_rfl) ?_))
  obtain ⟨a1, hv6, h⟩ := h
  refine sxQ (v := (vp (some a1))) Kp2 (want0 rfl) rfl (x_indexAddr (s := path1) (k := .i64) (i := i1) (by kernel_rfl) (by kernel_rfl) (Try.runUnderlying73 _) (Try.sizeOf3 _) hv6) (qgo (k := 3) (by kernel_rfl) ?_)
  replace h := h w3 hs
  replace hs := hs.here
  obtain ⟨v1, hv5, h⟩ := h
  refine sxQ (v := (vi v1)) Kp3 (want0 rfl) rfl (xl (Try.isAgg3 _) hv5) (qq 4 (vp (some (p1.add 5))) Kp4 (qr 5 aT.v Kp5 (xl (Try.isAgg22 _) (hb.c 1 5 (gS gZ))) (qq 6 (vi (aT.len : Int)) Kp6 (qq 7 (vb (decide (v1 ≥ (aT.len : Int)))) Kp7 (wpX_nil (by kernel_rfl) (th_n ?_))))))
  refine wpE_cond (t := (decide (v1 ≥ (aT.len : Int)))) (by kernel_rfl) (fun hc2 => ?_) (fun hc2 => ?_)
  ·replace h := h.1 hc2
   refine wpE_seq (rg (q0 (.agg #[(vi 0), (vi 0), (vi 0), (vu 0), (vs ⟨#[]⟩), Sl.nil.v]) (st_set (want0 rfl) (x_storeA (a := p2) (vs := [(vi 0), (vi 0), (vi 0), (vu 0), (vs ⟨#[]⟩), Sl.nil.v]) (by kernel_rfl) (by kernel_rfl) rfl (Try.sizeOf116 _) rfl (hb.canWs0 0 6 gZ (by kernel_rfl))) ?_)))
   intro w4 hn3
   have hsb : Hst w0 Hl1 w3 Hl1 w4 ∧ HB Hl1 w4 [(p2, [(vi 0), (vi 0), (vi 0), (vu 0), (vs ⟨#[]⟩), Sl.nil.v], 116), (p1, [(vi aI), (vi aJ), (vi aY), (vu aZ), (vs aK), aT.v], 116)] := by
    rw [hn3]
    exact hb.store0 (i := 0) (vs := [(vi 0), (vi 0), (vi 0), (vu 0), (vs ⟨#[]⟩), Sl.nil.v]) hs gZ (by kernel_rfl) (by kernel_rfl)
   clear hs hb hn3
   obtain ⟨hs, hb⟩ := hsb
   refine wpL_nil (th_n (wpE_ret (th_r (bl_r (th_r (th_r (bl_r (th_r ?_))))))))
   replace h := h w4 hs
   replace hs := hs.here
   refine resG (.inl rfl) (vs := [(.agg #[(vi 0), (vi 0), (vi 0), (vu 0), (vs ⟨#[]⟩), Sl.nil.v])]) (v := (.agg #[(vi 0), (vi 0), (vi 0), (vu 0), (vs ⟨#[]⟩), Sl.nil.v])) Try.results161 ⟨(RV.cellA (by kernel_rfl) (Try.isAgg116 _) (Try.sizeOf116 _) rfl (hb.row0 0 6 gZ (by kernel_rfl))), trivial⟩ (by kernel_rfl) ?_
   exact ⟨0, 0, 0, 0, ⟨#[]⟩, Sl.nil, rfl, h⟩
  ·replace h := h.2 hc2
   refine wpE_skip (th_n (wpE_drawnC (fun x => ∃ H', Hst w0 Hl1 w3 H' x ∧ HB H' x [(p2, [(vi aV), (vi aW), (vi bL), (vu bM), (vs aX), bN.v], 116), (p1, [(vi aI), (vi aJ), (vi aY), (vu aZ), (vs aK), aT.v], 116)]) [8] [8] (by kernel_rfl) (by kernel_rfl) (by kernel_rfl) (by kernel_rfl) ⟨_, hs.drew, hb.drew⟩ ?_))
   intro w5 hw5
   replace hs : Hst w0 Hl1 w3 Hl1 w5 := by rw [hw5]; exact hs.drew
   replace hb : HB Hl1 w5 [(p2, [(vi aV), (vi aW), (vi bL), (vu bM), (vs aX), bN.v], 116), (p1, [(vi aI), (vi aJ), (vi aY), (vu aZ), (vs aK), aT.v], 116)] := by rw [hw5]; exact hb.drew
   clear hw5
   refine qx 0 (vp (some (p1.add 5))) Kp0 (qz 1 aT.v Kp1 (fun w' hw' => (by obtain ⟨H', hs', hb'⟩ := hw'; exact (xl (Try.isAgg22 _) (hb'.cell 1 5 (gS gZ) (by kernel_rfl))))) (qx 2 path1.v Kp2 (qx 3 (vi i1) Kp3 (qgo (k := 4) (by kernel_rfl) ?_))))
   obtain ⟨a2, hv4, h⟩ := h
   refine sx (v := (vp (some a2))) Kp4 (want0 rfl) (by kernel_rfl) (fun w' hw' => (x_indexAddr (s := path1) (k := .i64) (i := i1) (by kernel_rfl) (by kernel_rfl) (Try.runUnderlying73 _) (Try.sizeOf3 _) hv4)) (qgo (k := 5) (by kernel_rfl) ?_)
   obtain ⟨v2, hv3, hnh, h⟩ := h
   refine sx (v := (vi v2)) Kp5 (want0 rfl) (by kernel_rfl) (fun w' hw' => by obtain ⟨H', hs', hb'⟩ := hw'; exact (xl (Try.isAgg3 _) (cell_hst hv3 hnh hs'))) ?_
   clear hnh
   refine qgo (k := 6) (by kernel_rfl) ?_
   obtain ⟨a3, hv2, h⟩ := h
   refine sx (v := (vp (some a3))) Kp6 (want0 rfl) (by kernel_rfl) (fun w' hw' => (x_indexAddr (s := aT) (k := .i64) (i := v2) (by kernel_rfl) (by kernel_rfl) (Try.runUnderlying22 _) (Try.sizeOf116 _) hv2)) (qgo (k := 7) (by kernel_rfl) ?_)
   obtain ⟨bF, bG, bH, bI, bJ, bK, hv1, hnh, h⟩ := h
   refine sx (v := (.agg #[(vi bF), (vi bG), (vi bH), (vu bI), (vs bJ), bK.v])) Kp7 (want0 rfl) (by kernel_rfl) (fun w' hw' => by obtain ⟨H', hs', hb'⟩ := hw'; exact (x_loadA (a := a3) (vs := [(vi bF), (vi bG), (vi bH), (vu bI), (vs bJ), bK.v]) (by kernel_rfl) (Try.isAgg116 _) (Try.sizeOf116 _) rfl (row_hst hv1 hnh hs'))) ?_
   clear hnh
   refine wpX_via (fun ρ wJ => ∃ HJ : Nat → Prop, Hst w0 Hl1 w3 HJ wJ ∧ HB HJ wJ [(p2, [(vi aV), (vi aW), (vi bL), (vu bM), (vs aX), bN.v], 116), (p1, [(vi bF), (vi bG), (vi bH), (vu bI), (vs bJ), bK.v], 116)] ∧ Has ρ [(1, path1.v), (2, (vp (some p1))), (4, (vp (some p2))), (5, (vi i1))]) ?_ ?_
   ·skip
    refine lgo (k := 8) (by kernel_rfl) (sl_set Kp8 (want0 rfl) (by kernel_rfl) (x_storeA (a := p1) (vs := [(vi bF), (vi bG), (vi bH), (vu bI), (vs bJ), bK.v]) (by kernel_rfl) (by kernel_rfl) rfl (Try.sizeOf116 _) rfl (hb.canWs0 1 6 (gS gZ) (by kernel_rfl))) ?_)
    intro w8 hn5
    have hsb : Hst w0 Hl1 w3 Hl1 w8 ∧ HB Hl1 w8 [(p2, [(vi aV), (vi aW), (vi bL), (vu bM), (vs aX), bN.v], 116), (p1, [(vi bF), (vi bG), (vi bH), (vu bI), (vs bJ), bK.v], 116)] := by
     rw [hn5]
     exact hb.store0 (i := 1) (vs := [(vi bF), (vi bG), (vi bH), (vu bI), (vs bJ), bK.v]) hs (gS gZ) (by kernel_rfl) (by kernel_rfl)
    clear hs hb hn5
    obtain ⟨hs, hb⟩ := hsb
    refine ⟨.inl (by kernel_rfl), ?_⟩
    refine wpX_nil (by kernel_rfl) ?_
    exact ⟨_, hs, hb, Has.mk (by kernel_rfl)⟩
   ·clear hs hb
    rintro ρ w7 ⟨H3, hs, hb, hH⟩
    refine q_has hH ?_
    clear hH
    refine bl_n (th_n (rg (q0 (vi i1) (q0 (vi (IntKind.i64.wrap (i1 + 1))) (q0 (vi (IntKind.i64.wrap (i1 + 1))) (wpL_nil ?_))))))
    replace h := h H3 w7 hs
    replace hs := hs.here
    refine th_n ?_
    exact ⟨((IntKind.i64.wrap (i1 + 1)), aV, aW, bL, bM, aX, bN, bF, bG, bH, bI, bJ, bK, H3, w7), ⟨rfl, Has.mk (by kernel_rfl), hs, hb, h.1⟩, h.2⟩
 ·replace h := h.2 hc1
  refine wpE_exit (th_x (th_x (bl_eq (th_n (wpE_seq (rg (q2 (.agg #[(vi aI), (vi aJ), (vi aY), (vu aZ), (vs aK), aT.v]) (x_loadA (a := p1) (vs := [(vi aI), (vi aJ), (vi aY), (vu aZ), (vs aK), aT.v]) (by kernel_rfl) (Try.isAgg116 _) (Try.sizeOf116 _) rfl (hb.row0 1 6 (gS gZ) (by kernel_rfl))) (st_set (want0 rfl) (x_storeA (a := p2) (vs := [(vi aI), (vi aJ), (vi aY), (vu aZ), (vs aK), aT.v]) (by kernel_rfl) (by kernel_rfl) rfl (Try.sizeOf116 _) rfl (hb.canWs0 0 6 gZ (by kernel_rfl))) ?_))))))))
  intro w9 hn6
  have hsb : Hst w0 Hl1 wl1 Hl1 w9 ∧ HB Hl1 w9 [(p2, [(vi aI), (vi aJ), (vi aY), (vu aZ), (vs aK), aT.v], 116), (p1, [(vi aI), (vi aJ), (vi aY), (vu aZ), (vs aK), aT.v], 116)] := by
   rw [hn6]
   exact hb.store0 (i := 0) (vs := [(vi aI), (vi aJ), (vi aY), (vu aZ), (vs aK), aT.v]) hs gZ (by kernel_rfl) (by kernel_rfl)
  clear hs hb hn6
  obtain ⟨hs, hb⟩ := hsb
  refine wpL_nil (th_n (wpE_ret ?_))
  replace h := h w9 hs
  replace hs := hs.here
  refine resG (.inl rfl) (vs := [(.agg #[(vi aI), (vi aJ), (vi aY), (vu aZ), (vs aK), aT.v])]) (v := (.agg #[(vi aI), (vi aJ), (vi aY), (vu aZ), (vs aK), aT.v])) Try.results161 ⟨(RV.cellA (by kernel_rfl) (Try.isAgg116 _) (Try.sizeOf116 _) rfl (hb.row0 0 6 gZ (by kernel_rfl))), trivial⟩ (by kernel_rfl) ?_
  exact ⟨aI, aJ, aY, aZ, aK, aT, rfl, h⟩
def s_ref11_signed (kind1 : Int) : Bool :=
 (((kind1 == 1) || (kind1 == 2)) || (kind1 == 4))
theorem pw_ref11_signed (kind1 : Int) (w0 : World) :
  Calls Try.prog 162 #[(vi kind1)] w0 (fun e w' => (e = .returned (vb (((kind1 == 1) || (kind1 == 2)) || (kind1 == 4)))) ∧ Pure w0 w') := by
 refine calls_of_wpE (args := [(vi kind1)]) Try.func162 rfl Try.ntmps162 (Nat.le_of_ble_eq_true rfl) (wpE_seq (rg (q0 (vb false) (wpL_nil (th_n (wpE_seq ?_))))))
 refine wpE_via (fun ρ wJ => w0 = wJ ∧ Has ρ [(2, (vb (((kind1 == 1) || (kind1 == 2)) || (kind1 == 4))))]) ?_ ?_
 ·skip
  refine rg (q0 (vi kind1) (q0 (vb (kind1 == 1)) (q0 (vb (kind1 == 1)) ?_)))
  refine wpL_join 3 (fun ρ wJ => ∃ b4'0 : Bool, ((kind1 == 1) = b4'0) ∧ w0 = wJ ∧ Has ρ [(0, (vi kind1)), (8, (vb (b4'0 || (kind1 == 2))))]) ?_ ?_
  ·rintro ρ w4 ⟨b4'0, he0, hw, hH⟩
   subst he0
   subst hw
   refine wpL_has hH ?_
   clear hH
   refine q0 (vb ((kind1 == 1) || (kind1 == 2))) ?_
   refine wpL_join 3 (fun ρ wJ => ∃ b5'0 : Bool, (((kind1 == 1) || (kind1 == 2)) = b5'0) ∧ w0 = wJ ∧ Has ρ [(12, (vb (b5'0 || (kind1 == 4))))]) ?_ ?_
   ·rintro ρ w5 ⟨b5'0, he0, hw, hH⟩
    subst he0
    subst hw
    refine wpL_has hH ?_
    clear hH
    refine q0 (vb (((kind1 == 1) || (kind1 == 2)) || (kind1 == 4))) (wpL_nil (th_n ?_))
    exact ⟨rfl, Has.mk (by kernel_rfl)⟩
   ·skip
    rcases Bool.eq_false_or_eq_true ((kind1 == 1) || (kind1 == 2)) with hg8 | hg8
    ·skip
     refine sk (yD 9 hg8) (sk (yD 9 hg8) (q2 (vb true) (xT hg8) (wpL_nil ?_)))
     exact ⟨true, hg8, rfl, Has.mk (by kernel_rfl)⟩
    ·skip
     refine q1 (vi kind1) (want1 rfl (yD 9 hg8)) (q1 (vb (kind1 == 4)) (want1 rfl (yD 9 hg8)) (q2 (vb (kind1 == 4)) (xF hg8) (wpL_nil ?_)))
     exact ⟨false, hg8, rfl, Has.mk (by kernel_rfl)⟩
  ·skip
   rcases Bool.eq_false_or_eq_true (kind1 == 1) with hg6 | hg6
   ·skip
    refine sk (yD 5 hg6) (sk (yD 5 hg6) (q2 (vb true) (xT hg6) (wpL_nil ?_)))
    exact ⟨true, hg6, rfl, Has.mk (by kernel_rfl)⟩
   ·skip
    refine q1 (vi kind1) (want1 rfl (yD 5 hg6)) (q1 (vb (kind1 == 2)) (want1 rfl (yD 5 hg6)) (q2 (vb (kind1 == 2)) (xF hg6) (wpL_nil ?_)))
    exact ⟨false, hg6, rfl, Has.mk (by kernel_rfl)⟩
 ·rintro ρ w3 ⟨hw, hH⟩
  subst hw
  refine norm_has hH ?_
  clear hH
  refine th_n (wpE_ret (res1 (.inl rfl) Try.results162 (v := (vb (((kind1 == 1) || (kind1 == 2)) || (kind1 == 4)))) (by kernel_rfl) ?_))
  exact ⟨by kernel_rfl, Ext.refl _⟩
theorem p_ref11_signed (kind1 : Int) (w0 : World) : Calls Try.prog 162 #[(.int .i64 kind1)] w0 (fun e w' => e = .returned (.bool (s_ref11_signed kind1)) ∧ Pure w0 w') := pw_ref11_signed kind1 w0
def s_ref11_texted (kind1 : Int) : Bool :=
 ((s_ref11_signed kind1) || (kind1 == 6))
theorem pw_ref11_texted (kind1 : Int) (w0 : World) :
  Calls Try.prog 163 #[(vi kind1)] w0 (fun e w' => (e = .returned (vb ((s_ref11_signed kind1) || (kind1 == 6)))) ∧ Pure w0 w') := by
 refine calls_of_wpE (args := [(vi kind1)]) Try.func163 rfl Try.ntmps163 (Nat.le_of_ble_eq_true rfl) ?_
 have hs := Hst.start w0
 have hb := HB.nil None w0
 refine wpE_seq (rg (q0 (vb false) (wpL_nil (th_n (wpE_seq ?_)))))
 refine wpE_via (fun ρ wJ => ∃ HJ : Nat → Prop, Hst w0 None w0 HJ wJ ∧ HB HJ wJ [] ∧ Has ρ [(2, (vb ((s_ref11_signed kind1) || (kind1 == 6))))]) ?_ ?_
 ·skip
  refine rg (q0 (vi kind1) ?_)
  refine st_call (want0 rfl) (xc Try.call162) ((p_ref11_signed kind1 w0).mono ?_)
  rintro e w4 ⟨he, hE⟩
  refine ⟨(vb (s_ref11_signed kind1)), he.trans (by kernel_rfl), ?_⟩
  replace hs := hs.pure hE
  replace hb := hb.pure hE
  clear hE he
  refine q0 (vb (s_ref11_signed kind1)) ?_
  refine wpL_join 3 (fun ρ wJ => ∃ b3'0 : Bool, ∃ HJ : Nat → Prop, ((s_ref11_signed kind1) = b3'0) ∧ Hst w0 None w0 HJ wJ ∧ HB HJ wJ [] ∧ Has ρ [(8, (vb (b3'0 || (kind1 == 6))))]) ?_ ?_
  ·clear hs hb
   rintro ρ w5 ⟨b3'0, H3, he0, hs, hb, hH⟩
   subst he0
   refine wpL_has hH ?_
   clear hH
   refine q0 (vb ((s_ref11_signed kind1) || (kind1 == 6))) (wpL_nil (th_n ?_))
   exact ⟨_, hs, hb, Has.mk (by kernel_rfl)⟩
  ·skip
   rcases Bool.eq_false_or_eq_true (s_ref11_signed kind1) with hg4 | hg4
   ·skip
    refine sk (yD 5 hg4) (sk (yD 5 hg4) (q2 (vb true) (xT hg4) (wpL_nil ?_)))
    exact ⟨true, _, hg4, hs, hb, Has.mk (by kernel_rfl)⟩
   ·skip
    refine q1 (vi kind1) (want1 rfl (yD 5 hg4)) (q1 (vb (kind1 == 6)) (want1 rfl (yD 5 hg4)) (q2 (vb (kind1 == 6)) (xF hg4) (wpL_nil ?_)))
    exact ⟨false, _, hg4, hs, hb, Has.mk (by kernel_rfl)⟩
 ·clear hs hb
  rintro ρ w3 ⟨H2, hs, hb, hH⟩
  refine norm_has hH ?_
  clear hH
  refine th_n (wpE_ret (res1 (.inl rfl) Try.results163 (v := (vb ((s_ref11_signed kind1) || (kind1 == 6)))) (by kernel_rfl) ?_))
  exact ⟨by kernel_rfl, (Ext.refl (F := None) _).hst hs⟩
theorem p_ref11_texted (kind1 : Int) (w0 : World) : Calls Try.prog 163 #[(.int .i64 kind1)] w0 (fun e w' => e = .returned (.bool (s_ref11_texted kind1)) ∧ Pure w0 w') := pw_ref11_texted kind1 w0
def s_ref11_Check (aA aB aU : Int) (aP : ByteArray) (aQ : Bool) : Int :=
 (cond ((((((decide (aA < 1)) || (decide (aA > 7))) || ((aB != 0) && (aB != 1))) || ((!(s_ref11_signed aA)) && (aB != 0))) || ((!((s_ref11_signed aA) || (aA == 6))) && (!(decide (aP = ⟨#[]⟩))))) || ((aQ && (aA != 1)) && (aA != 4))) 110 (cond (decide ((aP.size : Int) > 64)) 1 0))
theorem pw_ref11_Check (aA aB aU : Int) (aP : ByteArray) (aQ : Bool) (w0 : World) :
  Calls Try.prog 164 #[(.agg #[(vi aA), (vi aB), (vu aU), (vs aP), (vb aQ)])] w0 (fun e w' => ∃ b'0 b'1 : Bool, (((((((decide (aA < 1)) || (decide (aA > 7))) || ((aB != 0) && (aB != 1))) || ((!(s_ref11_signed aA)) && (aB != 0))) || ((!((s_ref11_signed aA) || (aA == 6))) && (!(decide (aP = ⟨#[]⟩))))) || ((aQ && (aA != 1)) && (aA != 4))) = b'0 ∧ (decide ((aP.size : Int) > 64)) = b'1) ∧ (e = .returned (vi (cond b'0 110 (cond b'1 1 0)))) ∧ Pure w0 w') := by
 refine calls_of_wpE (args := [(.agg #[(vi aA), (vi aB), (vu aU), (vs aP), (vb aQ)])]) Try.func164 rfl Try.ntmps164 (Nat.le_of_ble_eq_true rfl) ?_
 have hs := Hst.start w0
 have hb := HB.nil None w0
 refine wpE_seq (rg (sn (O := (.cells #[(vi aA), (vi aB), (vu aU), (vs aP), (vb aQ)] 132)) xb ?_))
 intro p1 w1 hn1
 obtain ⟨H1, hs, hb⟩ := hs.alloc hb hn1
 refine q0 (vi 0) (wpL_nil (th_n (wpE_seq (wpE_seq ?_))))
 refine wpE_via (fun ρ wJ => ∃ b13'0 : Bool, ∃ HJ : Nat → Prop, ((((((decide (aA < 1)) || (decide (aA > 7))) || ((aB != 0) && (aB != 1))) || ((!(s_ref11_signed aA)) && (aB != 0))) || ((!((s_ref11_signed aA) || (aA == 6))) && (!(decide (aP = ⟨#[]⟩))))) = b13'0) ∧ Hst w0 None w0 HJ wJ ∧ HB HJ wJ [(p1, [(vi aA), (vi aB), (vu aU), (vs aP), (vb aQ)], 132)] ∧ Has ρ [(1, (vp (some p1))), (56, (vb (b13'0 || ((aQ && (aA != 1)) && (aA != 4)))))]) ?_ ?_
 ·skip
  refine rg (q0 (vp (some p1)) (q2 (vi aA) (xl (Try.isAgg3 _) (hb.c0 0 gZ)) (q0 (vb (decide (aA < 1))) (q0 (vb (decide (aA < 1))) ?_))))
  refine wpL_join 4 (fun ρ wJ => ∃ b14'0 : Bool, ∃ HJ : Nat → Prop, ((decide (aA < 1)) = b14'0) ∧ Hst w0 None w0 HJ wJ ∧ HB HJ wJ [(p1, [(vi aA), (vi aB), (vu aU), (vs aP), (vb aQ)], 132)] ∧ Has ρ [(1, (vp (some p1))), (10, (vb (b14'0 || (decide (aA > 7)))))]) ?_ ?_
  ·clear hs hb
   rintro ρ w19 ⟨b14'0, H15, he0, hs, hb, hH⟩
   subst he0
   refine wpL_has hH ?_
   clear hH
   refine q0 (vb ((decide (aA < 1)) || (decide (aA > 7)))) ?_
   refine wpL_join 9 (fun ρ wJ => ∃ b16'0 : Bool, ∃ HJ : Nat → Prop, (((decide (aA < 1)) || (decide (aA > 7))) = b16'0) ∧ Hst w0 None w0 HJ wJ ∧ HB HJ wJ [(p1, [(vi aA), (vi aB), (vu aU), (vs aP), (vb aQ)], 132)] ∧ Has ρ [(1, (vp (some p1))), (20, (vb (b16'0 || ((aB != 0) && (aB != 1)))))]) ?_ ?_
   ·clear hs hb
    rintro ρ w21 ⟨b16'0, H17, he0, hs, hb, hH⟩
    subst he0
    refine wpL_has hH ?_
    clear hH
    refine q0 (vb (((decide (aA < 1)) || (decide (aA > 7))) || ((aB != 0) && (aB != 1)))) ?_
    refine wpL_join 10 (fun ρ wJ => ∃ b19'0 : Bool, ∃ HJ : Nat → Prop, ((((decide (aA < 1)) || (decide (aA > 7))) || ((aB != 0) && (aB != 1))) = b19'0) ∧ Hst w0 None w0 HJ wJ ∧ HB HJ wJ [(p1, [(vi aA), (vi aB), (vu aU), (vs aP), (vb aQ)], 132)] ∧ Has ρ [(1, (vp (some p1))), (31, (vb (b19'0 || ((!(s_ref11_signed aA)) && (aB != 0)))))]) ?_ ?_
    ·clear hs hb
     rintro ρ w25 ⟨b19'0, H20, he0, hs, hb, hH⟩
     subst he0
     refine wpL_has hH ?_
     clear hH
     refine q0 (vb ((((decide (aA < 1)) || (decide (aA > 7))) || ((aB != 0) && (aB != 1))) || ((!(s_ref11_signed aA)) && (aB != 0)))) ?_
     refine wpL_join 10 (fun ρ wJ => ∃ b22'0 : Bool, ∃ HJ : Nat → Prop, (((((decide (aA < 1)) || (decide (aA > 7))) || ((aB != 0) && (aB != 1))) || ((!(s_ref11_signed aA)) && (aB != 0))) = b22'0) ∧ Hst w0 None w0 HJ wJ ∧ HB HJ wJ [(p1, [(vi aA), (vi aB), (vu aU), (vs aP), (vb aQ)], 132)] ∧ Has ρ [(1, (vp (some p1))), (42, (vb (b22'0 || ((!((s_ref11_signed aA) || (aA == 6))) && (!(decide (aP = ⟨#[]⟩)))))))]) ?_ ?_
     ·clear hs hb
      rintro ρ w30 ⟨b22'0, H23, he0, hs, hb, hH⟩
      subst he0
      refine wpL_has hH ?_
      clear hH
      refine q0 (vb (((((decide (aA < 1)) || (decide (aA > 7))) || ((aB != 0) && (aB != 1))) || ((!(s_ref11_signed aA)) && (aB != 0))) || ((!((s_ref11_signed aA) || (aA == 6))) && (!(decide (aP = ⟨#[]⟩)))))) ?_
      rcases Bool.eq_false_or_eq_true (((((decide (aA < 1)) || (decide (aA > 7))) || ((aB != 0) && (aB != 1))) || ((!(s_ref11_signed aA)) && (aB != 0))) || ((!((s_ref11_signed aA) || (aA == 6))) && (!(decide (aP = ⟨#[]⟩))))) with hg46 | hg46
      ·skip
       refine sk (yD 43 hg46) (sk (yD 43 hg46) (sk (yD 43 hg46) (st_not (by kernel_rfl) (st_not (by kernel_rfl) (st_not (by kernel_rfl) (sk (yD 43 hg46) (sk (yD 43 hg46) (st_not (by kernel_rfl) (st_not (by kernel_rfl) (st_not (by kernel_rfl) (sk (yD 43 hg46) ?_)))))))))))
       refine q2 (vb true) (xT hg46) (wpL_nil (th_n ?_))
       exact ⟨true, _, hg46, hs, hb, Has.mk (by kernel_rfl)⟩
      ·skip
       refine q1 (vp (some (p1.add 4))) (want1 rfl (yD 43 hg46)) (stp (v := (vb aQ)) (want1 rfl (yD 43 hg46)) (xl (Try.isAgg4 _) (hb.c 0 4 gZ)) (q1 (vb aQ) (want1 rfl (yD 43 hg46)) ?_))
       refine wpL_join 4 (fun ρ wJ => ∃ b24'0 : Bool, ∃ HJ : Nat → Prop, (aQ = b24'0) ∧ Hst w0 None w0 HJ wJ ∧ HB HJ wJ [(p1, [(vi aA), (vi aB), (vu aU), (vs aP), (vb aQ)], 132)] ∧ Has ρ [(1, (vp (some p1))), (43, (vb (((((decide (aA < 1)) || (decide (aA > 7))) || ((aB != 0) && (aB != 1))) || ((!(s_ref11_signed aA)) && (aB != 0))) || ((!((s_ref11_signed aA) || (aA == 6))) && (!(decide (aP = ⟨#[]⟩))))))), (50, (vb (b24'0 && (aA != 1))))]) ?_ ?_
       ·clear hs hb
        rintro ρ w33 ⟨b24'0, H25, he0, hs, hb, hH⟩
        subst he0
        refine wpL_has hH ?_
        clear hH
        refine q1 (vb (aQ && (aA != 1))) (want1 rfl (yD 43 hg46)) ?_
        refine wpL_join 4 (fun ρ wJ => ∃ b25'0 : Bool, ∃ HJ : Nat → Prop, ((aQ && (aA != 1)) = b25'0) ∧ Hst w0 None w0 HJ wJ ∧ HB HJ wJ [(p1, [(vi aA), (vi aB), (vu aU), (vs aP), (vb aQ)], 132)] ∧ Has ρ [(1, (vp (some p1))), (43, (vb (((((decide (aA < 1)) || (decide (aA > 7))) || ((aB != 0) && (aB != 1))) || ((!(s_ref11_signed aA)) && (aB != 0))) || ((!((s_ref11_signed aA) || (aA == 6))) && (!(decide (aP = ⟨#[]⟩))))))), (55, (vb (b25'0 && (aA != 4))))]) ?_ ?_
        ·clear hs hb
         rintro ρ w34 ⟨b25'0, H26, he0, hs, hb, hH⟩
         subst he0
         refine wpL_has hH ?_
         clear hH
         refine q2 (vb ((aQ && (aA != 1)) && (aA != 4))) (xF hg46) (wpL_nil (th_n ?_))
         exact ⟨false, _, hg46, hs, hb, Has.mk (by kernel_rfl)⟩
        ·skip
         rcases Bool.eq_false_or_eq_true (aQ && (aA != 1)) with hg50 | hg50
         ·skip
          refine q1 (vp (some p1)) (want1 rfl (yD 51 hg50)) (stp (v := (vi aA)) (want1 rfl (yD 51 hg50)) (xl (Try.isAgg3 _) (hb.c0 0 gZ)) (q1 (vb (aA != 4)) (want1 rfl (yD 51 hg50)) (stp (v := (vb (aA != 4))) (want1 rfl (yD 43 hg46)) (xT hg50) (wpL_nil ?_))))
          exact ⟨true, _, hg50, hs, hb, Has.mk (by kernel_rfl)⟩
         ·skip
          refine sk (yD 51 hg50) (sk (yD 51 hg50) (sk (yD 51 hg50) (stp (v := (vb false)) (want1 rfl (yD 43 hg46)) (xF hg50) (wpL_nil ?_))))
          exact ⟨false, _, hg50, hs, hb, Has.mk (by kernel_rfl)⟩
       ·skip
        rcases Bool.eq_false_or_eq_true aQ with hg48 | hg48
        ·skip
         refine q1 (vp (some p1)) (want1 rfl (yD 46 hg48)) (stp (v := (vi aA)) (want1 rfl (yD 46 hg48)) (xl (Try.isAgg3 _) (hb.c0 0 gZ)) (q1 (vb (aA != 1)) (want1 rfl (yD 46 hg48)) (stp (v := (vb (aA != 1))) (want1 rfl (yD 43 hg46)) (xT hg48) (wpL_nil ?_))))
         exact ⟨true, _, hg48, hs, hb, Has.mk (by kernel_rfl)⟩
        ·skip
         refine sk (yD 46 hg48) (sk (yD 46 hg48) (sk (yD 46 hg48) (stp (v := (vb false)) (want1 rfl (yD 43 hg46)) (xF hg48) (wpL_nil ?_))))
         exact ⟨false, _, hg48, hs, hb, Has.mk (by kernel_rfl)⟩
     ·skip
      rcases Bool.eq_false_or_eq_true ((((decide (aA < 1)) || (decide (aA > 7))) || ((aB != 0) && (aB != 1))) || ((!(s_ref11_signed aA)) && (aB != 0))) with hg43 | hg43
      ·skip
       refine sk (yD 32 hg43) (sk (yD 32 hg43) (sk (yD 32 hg43) (sk (yD 32 hg43) (sk (yD 32 hg43) (st_not (by kernel_rfl) (st_not (by kernel_rfl) (st_not (by kernel_rfl) (sk (yD 32 hg43) (q2 (vb true) (xT hg43) (wpL_nil ?_))))))))))
       exact ⟨true, _, hg43, hs, hb, Has.mk (by kernel_rfl)⟩
      ·skip
       refine q1 (vp (some p1)) (want1 rfl (yD 32 hg43)) (stp (v := (vi aA)) (want1 rfl (yD 32 hg43)) (xl (Try.isAgg3 _) (hb.c0 0 gZ)) ?_)
       refine st_call (want1 rfl (yD 32 hg43)) (xc Try.call163) ((p_ref11_texted aA w25).mono ?_)
       rintro e w31 ⟨he, hE⟩
       refine ⟨(vb ((s_ref11_signed aA) || (aA == 6))), he.trans (by kernel_rfl), ?_⟩
       replace hs := hs.pure hE
       replace hb := hb.pure hE
       clear hE he
       refine q1 (vb (!((s_ref11_signed aA) || (aA == 6)))) (want1 rfl (yD 32 hg43)) (q1 (vb (!((s_ref11_signed aA) || (aA == 6)))) (want1 rfl (yD 32 hg43)) ?_)
       refine wpL_join 4 (fun ρ wJ => ∃ b23'0 : Bool, ∃ HJ : Nat → Prop, ((!((s_ref11_signed aA) || (aA == 6))) = b23'0) ∧ Hst w0 None w0 HJ wJ ∧ HB HJ wJ [(p1, [(vi aA), (vi aB), (vu aU), (vs aP), (vb aQ)], 132)] ∧ Has ρ [(1, (vp (some p1))), (32, (vb ((((decide (aA < 1)) || (decide (aA > 7))) || ((aB != 0) && (aB != 1))) || ((!(s_ref11_signed aA)) && (aB != 0))))), (41, (vb (b23'0 && (!(decide (aP = ⟨#[]⟩))))))]) ?_ ?_
       ·clear hs hb
        rintro ρ w32 ⟨b23'0, H24, he0, hs, hb, hH⟩
        subst he0
        refine wpL_has hH ?_
        clear hH
        refine q2 (vb ((!((s_ref11_signed aA) || (aA == 6))) && (!(decide (aP = ⟨#[]⟩))))) (xF hg43) (wpL_nil ?_)
        exact ⟨false, _, hg43, hs, hb, Has.mk (by kernel_rfl)⟩
       ·skip
        rcases Bool.eq_false_or_eq_true (!((s_ref11_signed aA) || (aA == 6))) with hg45 | hg45
        ·skip
         refine q1 (vp (some (p1.add 3))) (want1 rfl (yD 37 hg45)) (stp (v := (vs aP)) (want1 rfl (yD 37 hg45)) (xl (Try.isAgg9 _) (hb.c 0 3 gZ)) (stp (v := (vb (!(decide (aP = ⟨#[]⟩))))) (want1 rfl (yD 37 hg45)) (x_strneq (by kernel_rfl) (by kernel_rfl)) (stp (v := (vb (!(decide (aP = ⟨#[]⟩))))) (want1 rfl (yD 32 hg43)) (xT hg45) (wpL_nil ?_))))
         exact ⟨true, _, hg45, hs, hb, Has.mk (by kernel_rfl)⟩
        ·skip
         refine sk (yD 37 hg45) (sk (yD 37 hg45) (sk (yD 37 hg45) (stp (v := (vb false)) (want1 rfl (yD 32 hg43)) (xF hg45) (wpL_nil ?_))))
         exact ⟨false, _, hg45, hs, hb, Has.mk (by kernel_rfl)⟩
    ·skip
     rcases Bool.eq_false_or_eq_true (((decide (aA < 1)) || (decide (aA > 7))) || ((aB != 0) && (aB != 1))) with hg37 | hg37
     ·skip
      refine sk (yD 21 hg37) (sk (yD 21 hg37) (sk (yD 21 hg37) (sk (yD 21 hg37) (sk (yD 21 hg37) (st_not (by kernel_rfl) (st_not (by kernel_rfl) (st_not (by kernel_rfl) (sk (yD 21 hg37) (q2 (vb true) (xT hg37) (wpL_nil ?_))))))))))
      exact ⟨true, _, hg37, hs, hb, Has.mk (by kernel_rfl)⟩
     ·skip
      refine q1 (vp (some p1)) (want1 rfl (yD 21 hg37)) (stp (v := (vi aA)) (want1 rfl (yD 21 hg37)) (xl (Try.isAgg3 _) (hb.c0 0 gZ)) ?_)
      refine st_call (want1 rfl (yD 21 hg37)) (xc Try.call162) ((p_ref11_signed aA w21).mono ?_)
      rintro e w26 ⟨he, hE⟩
      refine ⟨(vb (s_ref11_signed aA)), he.trans (by kernel_rfl), ?_⟩
      replace hs := hs.pure hE
      replace hb := hb.pure hE
      clear hE he
      refine q1 (vb (!(s_ref11_signed aA))) (want1 rfl (yD 21 hg37)) (q1 (vb (!(s_ref11_signed aA))) (want1 rfl (yD 21 hg37)) ?_)
      refine wpL_join 4 (fun ρ wJ => ∃ b20'0 : Bool, ∃ HJ : Nat → Prop, ((!(s_ref11_signed aA)) = b20'0) ∧ Hst w0 None w0 HJ wJ ∧ HB HJ wJ [(p1, [(vi aA), (vi aB), (vu aU), (vs aP), (vb aQ)], 132)] ∧ Has ρ [(1, (vp (some p1))), (21, (vb (((decide (aA < 1)) || (decide (aA > 7))) || ((aB != 0) && (aB != 1))))), (30, (vb (b20'0 && (aB != 0))))]) ?_ ?_
      ·clear hs hb
       rintro ρ w27 ⟨b20'0, H21, he0, hs, hb, hH⟩
       subst he0
       refine wpL_has hH ?_
       clear hH
       refine q2 (vb ((!(s_ref11_signed aA)) && (aB != 0))) (xF hg37) (wpL_nil ?_)
       exact ⟨false, _, hg37, hs, hb, Has.mk (by kernel_rfl)⟩
      ·skip
       rcases Bool.eq_false_or_eq_true (!(s_ref11_signed aA)) with hg39 | hg39
       ·skip
        refine q1 (vp (some (p1.add 1))) (want1 rfl (yD 26 hg39)) (stp (v := (vi aB)) (want1 rfl (yD 26 hg39)) (xl (Try.isAgg3 _) (hb.c 0 1 gZ)) (q1 (vb (aB != 0)) (want1 rfl (yD 26 hg39)) (stp (v := (vb (aB != 0))) (want1 rfl (yD 21 hg37)) (xT hg39) (wpL_nil ?_))))
        exact ⟨true, _, hg39, hs, hb, Has.mk (by kernel_rfl)⟩
       ·skip
        refine sk (yD 26 hg39) (sk (yD 26 hg39) (sk (yD 26 hg39) (stp (v := (vb false)) (want1 rfl (yD 21 hg37)) (xF hg39) (wpL_nil ?_))))
        exact ⟨false, _, hg39, hs, hb, Has.mk (by kernel_rfl)⟩
   ·skip
    rcases Bool.eq_false_or_eq_true ((decide (aA < 1)) || (decide (aA > 7))) with hg31 | hg31
    ·skip
     refine sk (yD 11 hg31) (sk (yD 11 hg31) (sk (yD 11 hg31) (sk (yD 11 hg31) (st_not (by kernel_rfl) (st_not (by kernel_rfl) (st_not (by kernel_rfl) (sk (yD 11 hg31) (q2 (vb true) (xT hg31) (wpL_nil ?_)))))))))
     exact ⟨true, _, hg31, hs, hb, Has.mk (by kernel_rfl)⟩
    ·skip
     refine q1 (vp (some (p1.add 1))) (want1 rfl (yD 11 hg31)) (stp (v := (vi aB)) (want1 rfl (yD 11 hg31)) (xl (Try.isAgg3 _) (hb.c 0 1 gZ)) (q1 (vb (aB != 0)) (want1 rfl (yD 11 hg31)) (q1 (vb (aB != 0)) (want1 rfl (yD 11 hg31)) ?_)))
     refine wpL_join 4 (fun ρ wJ => ∃ b17'0 : Bool, ∃ HJ : Nat → Prop, ((aB != 0) = b17'0) ∧ Hst w0 None w0 HJ wJ ∧ HB HJ wJ [(p1, [(vi aA), (vi aB), (vu aU), (vs aP), (vb aQ)], 132)] ∧ Has ρ [(1, (vp (some p1))), (11, (vb ((decide (aA < 1)) || (decide (aA > 7))))), (19, (vb (b17'0 && (aB != 1))))]) ?_ ?_
     ·clear hs hb
      rintro ρ w22 ⟨b17'0, H18, he0, hs, hb, hH⟩
      subst he0
      refine wpL_has hH ?_
      clear hH
      refine q2 (vb ((aB != 0) && (aB != 1))) (xF hg31) (wpL_nil ?_)
      exact ⟨false, _, hg31, hs, hb, Has.mk (by kernel_rfl)⟩
     ·skip
      rcases Bool.eq_false_or_eq_true (aB != 0) with hg33 | hg33
      ·skip
       refine q1 (vp (some (p1.add 1))) (want1 rfl (yD 15 hg33)) (stp (v := (vi aB)) (want1 rfl (yD 15 hg33)) (xl (Try.isAgg3 _) (hb.c 0 1 gZ)) (q1 (vb (aB != 1)) (want1 rfl (yD 15 hg33)) (stp (v := (vb (aB != 1))) (want1 rfl (yD 11 hg31)) (xT hg33) (wpL_nil ?_))))
       exact ⟨true, _, hg33, hs, hb, Has.mk (by kernel_rfl)⟩
      ·skip
       refine sk (yD 15 hg33) (sk (yD 15 hg33) (sk (yD 15 hg33) (stp (v := (vb false)) (want1 rfl (yD 11 hg31)) (xF hg33) (wpL_nil ?_))))
       exact ⟨false, _, hg33, hs, hb, Has.mk (by kernel_rfl)⟩
  ·skip
   rcases Bool.eq_false_or_eq_true (decide (aA < 1)) with hg27 | hg27
   ·skip
    refine sk (yD 6 hg27) (sk (yD 6 hg27) (sk (yD 6 hg27) (q2 (vb true) (xT hg27) (wpL_nil ?_))))
    exact ⟨true, _, hg27, hs, hb, Has.mk (by kernel_rfl)⟩
   ·skip
    refine q1 (vp (some p1)) (want1 rfl (yD 6 hg27)) (stp (v := (vi aA)) (want1 rfl (yD 6 hg27)) (xl (Try.isAgg3 _) (hb.c0 0 gZ)) (q1 (vb (decide (aA > 7))) (want1 rfl (yD 6 hg27)) (q2 (vb (decide (aA > 7))) (xF hg27) (wpL_nil ?_))))
    exact ⟨false, _, hg27, hs, hb, Has.mk (by kernel_rfl)⟩
 ·clear hs hb
  rintro ρ w18 ⟨b13'0, H14, he0, hs, hb, hH⟩
  subst he0
  refine norm_has hH ?_
  clear hH
  refine th_n ?_
  refine wpE_cond (t := ((((((decide (aA < 1)) || (decide (aA > 7))) || ((aB != 0) && (aB != 1))) || ((!(s_ref11_signed aA)) && (aB != 0))) || ((!((s_ref11_signed aA) || (aA == 6))) && (!(decide (aP = ⟨#[]⟩))))) || ((aQ && (aA != 1)) && (aA != 4)))) (by kernel_rfl) (fun hc1 => ?_) (fun hc1 => ?_)
  ·skip
   refine wpE_seq (rg (q0 (vi 110) (wpL_nil (th_n (wpE_ret (th_r (res1 (.inl rfl) Try.results164 (v := (vi 110)) (by kernel_rfl) ?_)))))))
   exact ⟨true, _, ⟨hc1, rfl⟩, by kernel_rfl, (Ext.refl (F := None) _).hst hs⟩
  ·skip
   refine wpE_skip (th_n (wpE_seq (wpE_seq (rg (q0 (vp (some (p1.add 3))) (q2 (vs aP) (xl (Try.isAgg9 _) (hb.c 0 3 gZ)) (q0 (vi (aP.size : Int)) (q0 (vb (decide ((aP.size : Int) > 64))) (wpL_nil (th_n ?_))))))))))
   refine wpE_cond (t := (decide ((aP.size : Int) > 64))) (by kernel_rfl) (fun hc2 => ?_) (fun hc2 => ?_)
   ·skip
    refine wpE_seq (rg (q0 (vi 1) (wpL_nil (th_n (wpE_ret (th_r (res1 (.inl rfl) Try.results164 (v := (vi 1)) (by kernel_rfl) ?_)))))))
    exact ⟨false, true, ⟨hc1, hc2⟩, by kernel_rfl, (Ext.refl (F := None) _).hst hs⟩
   ·skip
    refine wpE_skip (th_n (wpE_seq (rg (q0 (vi 0) (wpL_nil (th_n (wpE_ret (res1 (.inl rfl) Try.results164 (v := (vi 0)) (by kernel_rfl) ?_))))))))
    exact ⟨false, false, ⟨hc1, hc2⟩, by kernel_rfl, (Ext.refl (F := None) _).hst hs⟩
theorem p_ref11_Check (aA aB aU : Int) (aP : ByteArray) (aQ : Bool) (w0 : World) : Calls Try.prog 164 #[(.agg #[(.int .i64 aA), (.int .i64 aB), (.int .u64 aU), (.string aP), (.bool aQ)])] w0 (fun e w' => e = .returned (.int .i64 (s_ref11_Check aA aB aU aP aQ)) ∧ Pure w0 w') := by
 refine (pw_ref11_Check aA aB aU aP aQ w0).mono ?_
 rintro e w' ⟨b'0, b'1, ⟨e0, e1⟩, h, E⟩
 subst e0
 subst e1
 exact ⟨h, E⟩
def m_ref11_ReadTree_l5 (aD aC : Int) (aE aF : Int) (aG : ByteArray) (aH : Sl) (kind1 i1 : Int) (fakes1 aL : Int) (aM aN : Int) (aO : ByteArray) (cF : Bool) (bA bB bC : Int) (bD : ByteArray) (bE : Bool) (w0 : World) (Hl3 : Nat → Prop) (wl3 : World) (Kc2 : Int → Int → Int → Int → ByteArray → Bool → (Nat → Prop) → World → Prop) (Kc5 : Int → Int → Int → Int → ByteArray → Bool → Int → Int → Int → ByteArray → Bool → (Nat → Prop) → World → Prop) (K : Int → Int → Int → ByteArray → Bool → Bool → World → Prop) : Prop :=
 Br (decide (fakes1 < 4))
  (∀ (w14 : World), Hst w0 Hl3 wl3 Hl3 w14 →
  ∃ C1 : World → Prop, C1 w14.drew ∧ ∀ w15, w15 = w14.drew →
  Calls Try.prog 164 #[(.agg #[(vi aL), (vi aM), (vu aN), (vs aO), (vb (decide (fakes1 > 0)))])] w15 (fun e w16 => ∃ r1 : Int, e = .returned (vi r1) ∧ C1 w16 ∧ 
   Kept Hl3 w15 w16 ∧
   Br (r1 == 0)
    (Br (kind1 == 4)
     (∃ z1 : Int, (∀ w', C1 w' → (Go.binOp .rem 3 (vi fakes1) (vi 2)).run Try.prog w' = .ok (vi z1) w') ∧
     ∃ z2 : Int, (∀ w', C1 w' → (Go.binOp .quo 3 (vi fakes1) (vi 2)).run Try.prog w' = .ok (vi z2) w') ∧
     Calls Try.prog 74 #[(.agg #[(vi aL), (vi aM), (vu aN), (vs aO), (vb (decide (fakes1 > 0)))]), (vb (z1 == 1)), (vb (z2 == 1))] w16 (fun e w17 => ∃ bT bU : Int, ∃ bV bW : Int, ∃ bX : ByteArray, ∃ bY : Sl, e = .returned (.agg #[(vi bT), (vi bU), (vi bV), (vu bW), (vs bX), bY.v]) ∧ C1 w17 ∧ 
      Kept Hl3 w16 w17 ∧
      Calls Try.prog 61 #[(.agg #[(vi bT), (vi bU), (vi bV), (vu bW), (vs bX), bY.v]), (.agg #[(vi aD), (vi aC), (vi aE), (vu aF), (vs aG), aH.v])] w17 (fun e w18 => ∃ r2 : Bool, e = .returned (vb r2) ∧ C1 w18 ∧ 
       Kept Hl3 w17 w18 ∧
       Br r2
        (∀ (w19 : World), Hst w0 Hl3 w18 Hl3 w19 →
        K aL aM aN aO (decide (fakes1 > 0)) true w19)
        (Kc5 (IntKind.i64.wrap (fakes1 + 1)) aL aM aN aO (decide (fakes1 > 0)) bA bB bC bD bE Hl3 w18))))
     (Br (fakes1 != 2)
      (∃ z3 : Int, (∀ w', C1 w' → (Go.binOp .rem 3 (vi fakes1) (vi 2)).run Try.prog w' = .ok (vi z3) w') ∧
      ∃ z4 : Int, (∀ w', C1 w' → (Go.binOp .quo 3 (vi fakes1) (vi 2)).run Try.prog w' = .ok (vi z4) w') ∧
      Calls Try.prog 74 #[(.agg #[(vi aL), (vi aM), (vu aN), (vs aO), (vb (decide (fakes1 > 0)))]), (vb (z3 == 1)), (vb (z4 == 1))] w16 (fun e w20 => ∃ bO bP : Int, ∃ dB dC : Int, ∃ bQ : ByteArray, ∃ dD : Sl, e = .returned (.agg #[(vi bO), (vi bP), (vi dB), (vu dC), (vs bQ), dD.v]) ∧ C1 w20 ∧ 
       Kept Hl3 w16 w20 ∧
       Calls Try.prog 61 #[(.agg #[(vi bO), (vi bP), (vi dB), (vu dC), (vs bQ), dD.v]), (.agg #[(vi aD), (vi aC), (vi aE), (vu aF), (vs aG), aH.v])] w20 (fun e w21 => ∃ r3 : Bool, e = .returned (vb r3) ∧ C1 w21 ∧ 
        Kept Hl3 w20 w21 ∧
        Br r3
         (∀ (w22 : World), Hst w0 Hl3 w21 Hl3 w22 →
         K aL aM aN aO (decide (fakes1 > 0)) true w22)
         (Kc5 (IntKind.i64.wrap (fakes1 + 1)) aL aM aN aO (decide (fakes1 > 0)) bA bB bC bD bE Hl3 w21))))
      (Kc5 (IntKind.i64.wrap (fakes1 + 1)) aL aM aN aO (decide (fakes1 > 0)) bA bB bC bD bE Hl3 w16)))
    (Kc5 (IntKind.i64.wrap (fakes1 + 1)) aL aM aN aO (decide (fakes1 > 0)) bA bB bC bD bE Hl3 w16)))
  (Kc2 (IntKind.i64.wrap (i1 + 1)) bA bB bC bD bE Hl3 wl3)
def m_ref11_ReadTree_j4 (aD aC : Int) (aE aF : Int) (aG : ByteArray) (aH : Sl) (kind1 i1 : Int) (aI aJ aR : Int) (aK : ByteArray) (aS : Bool) (aA aB aU : Int) (aP : ByteArray) (aQ : Bool) (w0 : World) (H : Nat → Prop) (w : World) (Kc2 : Int → Int → Int → Int → ByteArray → Bool → (Nat → Prop) → World → Prop) (K : Int → Int → Int → ByteArray → Bool → Bool → World → Prop) : Prop :=
 ∃ (I3 : Int → Int → Int → Int → ByteArray → Bool → Int → Int → Int → ByteArray → Bool → (Nat → Prop) → World → Prop) (mu3 : Int → Int → Int → Int → ByteArray → Bool → Int → Int → Int → ByteArray → Bool → World → Nat), I3 0 aA aB aU aP aQ aI aJ aR aK aS H w ∧
  ∀ (fakes1 aL : Int) (aM aN : Int) (aO : ByteArray) (cF : Bool) (bA bB bC : Int) (bD : ByteArray) (bE : Bool) (Hl3 : Nat → Prop) (wl3 : World), Hst w0 Hl3 wl3 Hl3 wl3 → I3 fakes1 aL aM aN aO cF bA bB bC bD bE Hl3 wl3 → m_ref11_ReadTree_l5 aD aC aE aF aG aH kind1 i1 fakes1 aL aM aN aO cF bA bB bC bD bE w0 Hl3 wl3 Kc2 (fun y'0 y'1 y'2 y'3 y'4 y'5 y'6 y'7 y'8 y'9 y'10 H' w' => I3 y'0 y'1 y'2 y'3 y'4 y'5 y'6 y'7 y'8 y'9 y'10 H' w' ∧ mu3 y'0 y'1 y'2 y'3 y'4 y'5 y'6 y'7 y'8 y'9 y'10 w' < mu3 fakes1 aL aM aN aO cF bA bB bC bD bE wl3) K
def m_ref11_ReadTree_j3 (aD aC : Int) (aE aF : Int) (aG : ByteArray) (aH : Sl) (kind1 i1 : Int) (aI aJ aR : Int) (aK : ByteArray) (aS : Bool) (a1 : Addr) (w0 : World) (H : Nat → Prop) (w : World) (Kc2 : Int → Int → Int → Int → ByteArray → Bool → (Nat → Prop) → World → Prop) (K : Int → Int → Int → ByteArray → Bool → Bool → World → Prop) : Prop :=
 Br ((s_ref11_signed kind1) || (kind1 == 6))
  (∀ (H4 : Nat → Prop) (w13 : World), Hst w0 H w H4 w13 →
  ∃ bF bG : Int, ∃ bH bI : Int, ∃ bJ : ByteArray, ∃ bK : Sl, Row w13 a1 [(vi bF), (vi bG), (vi bH), (vu bI), (vs bJ), bK.v] ∧
  ∀ (p8 : Addr) (w23 : World), New w13 (.cells #[(vi 1), (vi 0)] 3) p8 w23 →
  Calls Try.prog 161 #[(.agg #[(vi bF), (vi bG), (vi bH), (vu bI), (vs bJ), bK.v]), (Sl.mk (some p8) 2 2).v] w23 (fun e w24 => ∃ cG cH : Int, ∃ dE bZ : Int, ∃ cI : ByteArray, ∃ dF : Sl, e = .returned (.agg #[(vi cG), (vi cH), (vi dE), (vu bZ), (vs cI), dF.v]) ∧ 
   Kept H4 w23 w24 ∧
   ∀ (w25 : World), Hst w0 H4 w24 H4 w25 →
   ∃ cJ cK : Int, ∃ cL cM : Int, ∃ cN : ByteArray, ∃ cO : Sl, Row w25 a1 [(vi cJ), (vi cK), (vi cL), (vu cM), (vs cN), cO.v] ∧
   ∀ (p9 : Addr) (w26 : World), New w25 (.cells #[(vi 1), (vi 1)] 3) p9 w26 →
   Calls Try.prog 161 #[(.agg #[(vi cJ), (vi cK), (vi cL), (vu cM), (vs cN), cO.v]), (Sl.mk (some p9) 2 2).v] w26 (fun e w27 => ∃ dG dH : Int, ∃ dI dJ : Int, ∃ cC : ByteArray, ∃ dK : Sl, e = .returned (.agg #[(vi dG), (vi dH), (vi dI), (vu dJ), (vs cC), dK.v]) ∧ 
    Kept H4 w26 w27 ∧
    ∀ (w28 : World), Hst w0 H4 w27 H4 w28 →
    m_ref11_ReadTree_j4 aD aC aE aF aG aH kind1 i1 aI aJ aR aK aS kind1 (cond (s_ref11_signed kind1) aC 0) bZ cC false w0 H4 w28 Kc2 K)))
  (Br (kind1 == 7)
   (∀ (H4 : Nat → Prop) (w13 : World), Hst w0 H w H4 w13 →
   ∀ (p10 : Addr) (w29 : World), New w13 (.cells #[(vi 1)] 3) p10 w29 →
   Calls Try.prog 161 #[(.agg #[(vi aD), (vi aC), (vi aE), (vu aF), (vs aG), aH.v]), (Sl.mk (some p10) 1 1).v] w29 (fun e w30 => ∃ dL dM : Int, ∃ dN cD : Int, ∃ dO : ByteArray, ∃ dP : Sl, e = .returned (.agg #[(vi dL), (vi dM), (vi dN), (vu cD), (vs dO), dP.v]) ∧ 
    Kept H4 w29 w30 ∧
    ∀ (w31 : World), Hst w0 H4 w30 H4 w31 →
    m_ref11_ReadTree_j4 aD aC aE aF aG aH kind1 i1 aI aJ aR aK aS kind1 (cond (s_ref11_signed kind1) aC 0) cD ⟨#[]⟩ false w0 H4 w31 Kc2 K))
   (∀ (H4 : Nat → Prop) (w13 : World), Hst w0 H w H4 w13 →
   ∀ (p11 : Addr) (w32 : World), New w13 (.cells #[(vi 0), (vi 1)] 3) p11 w32 →
   Calls Try.prog 161 #[(.agg #[(vi aD), (vi aC), (vi aE), (vu aF), (vs aG), aH.v]), (Sl.mk (some p11) 2 2).v] w32 (fun e w33 => ∃ dQ dR : Int, ∃ dS cE : Int, ∃ dT : ByteArray, ∃ dU : Sl, e = .returned (.agg #[(vi dQ), (vi dR), (vi dS), (vu cE), (vs dT), dU.v]) ∧ 
    Kept H4 w32 w33 ∧
    ∀ (w34 : World), Hst w0 H4 w33 H4 w34 →
    m_ref11_ReadTree_j4 aD aC aE aF aG aH kind1 i1 aI aJ aR aK aS kind1 (cond (s_ref11_signed kind1) aC 0) cE ⟨#[]⟩ false w0 H4 w34 Kc2 K)))
def m_ref11_ReadTree_l2 (aD aC : Int) (aE aF : Int) (aG : ByteArray) (aH : Sl) (p6 : Addr) (kind1 i1 : Int) (aI aJ aR : Int) (aK : ByteArray) (aS : Bool) (w0 : World) (Hl2 : Nat → Prop) (wl2 : World) (Kc1 : Int → Int → Int → Int → ByteArray → Bool → (Nat → Prop) → World → Prop) (Kc2 : Int → Int → Int → Int → ByteArray → Bool → (Nat → Prop) → World → Prop) (K : Int → Int → Int → ByteArray → Bool → Bool → World → Prop) : Prop :=
 Br (decide (i1 < ((Sl.mk (some p6) 3 3).len : Int)))
  (∃ C2 : World → Prop, C2 wl2.drew ∧ ∀ w35, w35 = wl2.drew →
  ∃ a2 : Addr, At (Sl.mk (some p6) 3 3) i1 1 a2 ∧
  ∃ v1 : Sl, (∀ w', C2 w' → w'.cell? a2 = some v1.v) ∧
  (Calls Try.prog 161 #[(.agg #[(vi aD), (vi aC), (vi aE), (vu aF), (vs aG), aH.v]), v1.v] w35 (fun e w36 => ∃ cP cQ : Int, ∃ cR cS : Int, ∃ cT : ByteArray, ∃ cU : Sl, e = .returned (.agg #[(vi cP), (vi cQ), (vi cR), (vu cS), (vs cT), cU.v]) ∧ 
   Kept Hl2 w35 w36 ∧
   ∀ (p12 : Addr) (w37 : World), New w36 (.cells #[(vi 0), (vi 0), (vi 0), (vu 0), (vs ⟨#[]⟩), Sl.nil.v] 116) p12 w37 → C2 w37 ∧
   (∀ j, j < 6 → CanW w37 (p12.add j)) ∧ ¬ Hl2 p12.block ∧ ∀ w38 : World, w38 = storeRow w37 p12 [(vi cP), (vi cQ), (vi cR), (vu cS), (vs cT), cU.v] →
   m_ref11_ReadTree_j3 aD aC aE aF aG aH kind1 i1 aI aJ aR aK aS p12 w0 Hl2 w38 Kc2 K)) ∧
  (∀ (p13 : Addr) (w39 : World), New w35 (.cells #[(vi 0), (vi 0), (vi 0), (vu 0), (vs ⟨#[]⟩), Sl.nil.v] 116) p13 w39 → C2 w39 ∧
  Calls Try.prog 161 #[(.agg #[(vi aD), (vi aC), (vi aE), (vu aF), (vs aG), aH.v]), v1.v] w39 (fun e w40 => ∃ cV cW : Int, ∃ cX cY : Int, ∃ cZ : ByteArray, ∃ dA : Sl, e = .returned (.agg #[(vi cV), (vi cW), (vi cX), (vu cY), (vs cZ), dA.v]) ∧ 
   Kept Hl2 w39 w40 ∧
   (∀ j, j < 6 → CanW w40 (p13.add j)) ∧ ¬ Hl2 p13.block ∧ ∀ w41 : World, w41 = storeRow w40 p13 [(vi cV), (vi cW), (vi cX), (vu cY), (vs cZ), dA.v] →
   m_ref11_ReadTree_j3 aD aC aE aF aG aH kind1 i1 aI aJ aR aK aS p13 w0 Hl2 w41 Kc2 K)))
  (Kc1 (IntKind.i64.wrap (kind1 + 1)) aI aJ aR aK aS Hl2 wl2)
def m_ref11_ReadTree_l1 (aD aC : Int) (aE aF : Int) (aG : ByteArray) (aH : Sl) (p6 : Addr) (kind1 aV : Int) (aW cA : Int) (aX : ByteArray) (cB : Bool) (w0 : World) (Hl1 : Nat → Prop) (wl1 : World) (Kc1 : Int → Int → Int → Int → ByteArray → Bool → (Nat → Prop) → World → Prop) (K : Int → Int → Int → ByteArray → Bool → Bool → World → Prop) : Prop :=
 Br (decide (kind1 ≤ 7))
  (∃ (I2 : Int → Int → Int → Int → ByteArray → Bool → (Nat → Prop) → World → Prop) (mu2 : Int → Int → Int → Int → ByteArray → Bool → World → Nat), I2 0 aV aW cA aX cB Hl1 wl1 ∧
   ∀ (i1 aI : Int) (aJ aR : Int) (aK : ByteArray) (aS : Bool) (Hl2 : Nat → Prop) (wl2 : World), Hst w0 Hl2 wl2 Hl2 wl2 → I2 i1 aI aJ aR aK aS Hl2 wl2 → m_ref11_ReadTree_l2 aD aC aE aF aG aH p6 kind1 i1 aI aJ aR aK aS w0 Hl2 wl2 Kc1 (fun y'0 y'1 y'2 y'3 y'4 y'5 H' w' => I2 y'0 y'1 y'2 y'3 y'4 y'5 H' w' ∧ mu2 y'0 y'1 y'2 y'3 y'4 y'5 w' < mu2 i1 aI aJ aR aK aS wl2) K)
  (∀ (w42 : World), Hst w0 Hl1 wl1 Hl1 w42 →
  K 0 0 0 ⟨#[]⟩ false false w42)
def m_ref11_ReadTree (aD aC : Int) (aE aF : Int) (aG : ByteArray) (aH : Sl) (w0 : World) (K : Int → Int → Int → ByteArray → Bool → Bool → World → Prop) : Prop :=
 ∀ (H2 : Nat → Prop) (w2 : World), Hst w0 None w0 H2 w2 →
 ∀ (p3 : Addr) (w3 : World), New w2 (.cells #[(vi 0)] 3) p3 w3 →
 ∀ (p4 : Addr) (w4 : World), New w3 (.cells #[(vi 0), (vi 1), (vi 0), (vi 0)] 3) p4 w4 →
 ∀ (p5 : Addr) (w5 : World), New w4 (.cells #[(vi 0), (vi 1)] 3) p5 w5 →
 ∀ (p6 : Addr) (w6 : World), New w5 (.cells #[(Sl.mk (some p3) 1 1).v, (Sl.mk (some p4) 4 4).v, (Sl.mk (some p5) 2 2).v] 73) p6 w6 →
 ∃ (I1 : Int → Int → Int → Int → ByteArray → Bool → (Nat → Prop) → World → Prop) (mu1 : Int → Int → Int → Int → ByteArray → Bool → World → Nat), I1 1 0 0 0 ⟨#[]⟩ false H2 w6 ∧
  ∀ (kind1 aV : Int) (aW cA : Int) (aX : ByteArray) (cB : Bool) (Hl1 : Nat → Prop) (wl1 : World), Hst w0 Hl1 wl1 Hl1 wl1 → I1 kind1 aV aW cA aX cB Hl1 wl1 → m_ref11_ReadTree_l1 aD aC aE aF aG aH p6 kind1 aV aW cA aX cB w0 Hl1 wl1 (fun y'0 y'1 y'2 y'3 y'4 y'5 H' w' => I1 y'0 y'1 y'2 y'3 y'4 y'5 H' w' ∧ mu1 y'0 y'1 y'2 y'3 y'4 y'5 w' < mu1 kind1 aV aW cA aX cB wl1) K
theorem w_ref11_ReadTree (aD aC : Int) (aE aF : Int) (aG : ByteArray) (aH : Sl) (w0 : World) (K : Int → Int → Int → ByteArray → Bool → Bool → World → Prop) (h : m_ref11_ReadTree aD aC aE aF aG aH w0 K) :
  Calls Try.prog 129 #[(.agg #[(vi aD), (vi aC), (vi aE), (vu aF), (vs aG), aH.v])] w0 (fun e w' => ∃ dV dW bR : Int, ∃ dX : ByteArray, ∃ bS r4 : Bool, e = .returned (.tuple #[(.agg #[(vi dV), (vi dW), (vu bR), (vs dX), (vb bS)]), (vb r4)]) ∧ K dV dW bR dX bS r4 w') := by
 unfold m_ref11_ReadTree at h
 refine calls_of_wpE (args := [(.agg #[(vi aD), (vi aC), (vi aE), (vu aF), (vs aG), aH.v])]) Try.func129 rfl Try.ntmps129 (Nat.le_of_ble_eq_true rfl) ?_
 have hs := Hst.start w0
 have hb := HB.nil None w0
 refine wpE_seq (rg (sn (O := (.cells #[(vi aD), (vi aC), (vi aE), (vu aF), (vs aG), aH.v] 116)) xb ?_))
 intro p1 w1 hn1
 obtain ⟨H1, hs, hb⟩ := hs.alloc hb hn1
 refine sn (O := (.cells #[(vi 0), (vi 0), (vu 0), (vs ⟨#[]⟩), (vb false)] 132)) (x_alloc (Try.zeroValue132 _) rfl) ?_
 intro p2 w2 hn2
 obtain ⟨H2, hs, hb⟩ := hs.alloc hb hn2
 refine q0 (vb false) (wpL_nil (th_n (wpE_seq (rg ?_))))
 replace h := h H2 w2 hs
 replace hs := hs.here
 refine st_new (O := (.cells #[(vi 0)] 3)) (fun p => (Sl.mk (some p) 1 1).v) (want0 rfl) (x_buildSlice (vs := #[(0, (vi 0))]) (by kernel_rfl) (by kernel_rfl)) ?_
 intro p3 w3 hn26
 replace h := h p3 w3 hn26
 replace hs := hs.again (Ext.new (F := None) hn26).keptP
 replace hb := hb.kept (Ext.new (F := None) hn26).keptP
 refine st_new (O := (.cells #[(vi 0), (vi 1), (vi 0), (vi 0)] 3)) (fun p => (Sl.mk (some p) 4 4).v) (want0 rfl) (x_buildSlice (vs := #[(0, (vi 0)), (1, (vi 1)), (2, (vi 0)), (3, (vi 0))]) (by kernel_rfl) (by kernel_rfl)) ?_
 intro p4 w4 hn25
 replace h := h p4 w4 hn25
 replace hs := hs.again (Ext.new (F := None) hn25).keptP
 replace hb := hb.kept (Ext.new (F := None) hn25).keptP
 refine st_new (O := (.cells #[(vi 0), (vi 1)] 3)) (fun p => (Sl.mk (some p) 2 2).v) (want0 rfl) (x_buildSlice (vs := #[(0, (vi 0)), (1, (vi 1))]) (by kernel_rfl) (by kernel_rfl)) ?_
 intro p5 w5 hn24
 replace h := h p5 w5 hn24
 replace hs := hs.again (Ext.new (F := None) hn24).keptP
 replace hb := hb.kept (Ext.new (F := None) hn24).keptP
 refine st_new (O := (.cells #[(Sl.mk (some p3) 1 1).v, (Sl.mk (some p4) 4 4).v, (Sl.mk (some p5) 2 2).v] 73)) (fun p => (Sl.mk (some p) 3 3).v) (want0 rfl) (x_buildSlice (vs := #[(0, (Sl.mk (some p3) 1 1).v), (1, (Sl.mk (some p4) 4 4).v), (2, (Sl.mk (some p5) 2 2).v)]) (by kernel_rfl) (by kernel_rfl)) ?_
 intro p6 w6 hn23
 replace h := h p6 w6 hn23
 replace hs := hs.again (Ext.new (F := None) hn23).keptP
 replace hb := hb.kept (Ext.new (F := None) hn23).keptP
 refine q0 ((Sl.mk (some p6) 3 3).v) (wpL_nil (th_n (wpE_seq (wpE_seq (rg (q0 (vi 1) (wpL_nil (th_n (wpE_block ?_)))))))))
 obtain ⟨I1, mu1, h0, hr⟩ := h
 refine wpE_loop (σ := Int × Int × Int × Int × ByteArray × Bool × (Nat → Prop) × World) (fun s ρ w => w = s.2.2.2.2.2.2.2 ∧ Has ρ [(1, (vp (some p1))), (2, (vp (some p2))), (4, (Sl.mk (some p6) 3 3).v), (5, (vi s.1))] ∧ Hst w0 s.2.2.2.2.2.2.1 w s.2.2.2.2.2.2.1 w ∧ HB s.2.2.2.2.2.2.1 w [(p2, [(vi s.2.1), (vi s.2.2.1), (vu s.2.2.2.1), (vs s.2.2.2.2.1), (vb s.2.2.2.2.2.1)], 132), (p1, [(vi aD), (vi aC), (vi aE), (vu aF), (vs aG), aH.v], 116)] ∧ I1 s.1 s.2.1 s.2.2.1 s.2.2.2.1 s.2.2.2.2.1 s.2.2.2.2.2.1 s.2.2.2.2.2.2.1 s.2.2.2.2.2.2.2) (fun s => mu1 s.1 s.2.1 s.2.2.1 s.2.2.2.1 s.2.2.2.2.1 s.2.2.2.2.2.1 s.2.2.2.2.2.2.2) (1, 0, 0, 0, ⟨#[]⟩, false, H2, w6) ⟨rfl, Has.mk (by kernel_rfl), hs, hb, h0⟩ ?_
 clear hs hb
 rintro ⟨kind1, aV, aW, cA, aX, cB, Hl1, wl1⟩ ρ w ⟨hw, hH, hs, hb, hI⟩
 obtain rfl : wl1 = w := (show w = wl1 from hw).symm
 replace hH : Has ρ [(1, (vp (some p1))), (2, (vp (some p2))), (4, (Sl.mk (some p6) 3 3).v), (5, (vi kind1))] := hH
 replace hs : Hst w0 Hl1 wl1 Hl1 wl1 := hs
 replace hb : HB Hl1 wl1 [(p2, [(vi aV), (vi aW), (vu cA), (vs aX), (vb cB)], 132), (p1, [(vi aD), (vi aC), (vi aE), (vu aF), (vs aG), aH.v], 116)] := hb
 have h := hr kind1 aV aW cA aX cB Hl1 wl1 hs hI
 clear hr h0
 unfold m_ref11_ReadTree_l1 at h
 refine wpE_has hH ?_
 clear hH hI
 refine wpE_seq (wpE_seq (rg (q0 (vi kind1) (q0 (vb (decide (kind1 ≤ 7))) (wpL_nil (th_n ?_))))))
 refine wpE_cond (t := (decide (kind1 ≤ 7))) (by kernel_rfl) (fun hc1 => ?_) (fun hc1 => ?_)
 ·replace h := h.1 hc1
  refine wpE_skip (th_n (wpE_seq (wpE_block (wpE_seq (rg (q0 (vi 0) (wpL_nil (th_n (wpE_block ?_)))))))))
  obtain ⟨I2, mu2, h0, hr⟩ := h
  refine wpE_loop (σ := Int × Int × Int × Int × ByteArray × Bool × (Nat → Prop) × World) (fun s ρ w => w = s.2.2.2.2.2.2.2 ∧ Has ρ [(1, (vp (some p1))), (2, (vp (some p2))), (4, (Sl.mk (some p6) 3 3).v), (5, (vi kind1)), (6, (vi s.1))] ∧ Hst w0 s.2.2.2.2.2.2.1 w s.2.2.2.2.2.2.1 w ∧ HB s.2.2.2.2.2.2.1 w [(p2, [(vi s.2.1), (vi s.2.2.1), (vu s.2.2.2.1), (vs s.2.2.2.2.1), (vb s.2.2.2.2.2.1)], 132), (p1, [(vi aD), (vi aC), (vi aE), (vu aF), (vs aG), aH.v], 116)] ∧ I2 s.1 s.2.1 s.2.2.1 s.2.2.2.1 s.2.2.2.2.1 s.2.2.2.2.2.1 s.2.2.2.2.2.2.1 s.2.2.2.2.2.2.2) (fun s => mu2 s.1 s.2.1 s.2.2.1 s.2.2.2.1 s.2.2.2.2.1 s.2.2.2.2.2.1 s.2.2.2.2.2.2.2) (0, aV, aW, cA, aX, cB, Hl1, wl1) ⟨rfl, Has.mk (by kernel_rfl), hs, hb, h0⟩ ?_
  clear hs hb
  rintro ⟨i1, aI, aJ, aR, aK, aS, Hl2, wl2⟩ ρ w ⟨hw, hH, hs, hb, hI⟩
  obtain rfl : wl2 = w := (show w = wl2 from hw).symm
  replace hH : Has ρ [(1, (vp (some p1))), (2, (vp (some p2))), (4, (Sl.mk (some p6) 3 3).v), (5, (vi kind1)), (6, (vi i1))] := hH
  replace hs : Hst w0 Hl2 wl2 Hl2 wl2 := hs
  replace hb : HB Hl2 wl2 [(p2, [(vi aI), (vi aJ), (vu aR), (vs aK), (vb aS)], 132), (p1, [(vi aD), (vi aC), (vi aE), (vu aF), (vs aG), aH.v], 116)] := hb
  have h := hr i1 aI aJ aR aK aS Hl2 wl2 hs hI
  clear hr h0
  unfold m_ref11_ReadTree_l2 at h
  refine wpE_has hH ?_
  clear hH hI
  refine wpE_seq (wpE_seq (rg (q0 (vi i1) (q0 ((Sl.mk (some p6) 3 3).v) (q0 (vi ((Sl.mk (some p6) 3 3).len : Int)) (q0 (vb (decide (i1 < ((Sl.mk (some p6) 3 3).len : Int)))) (wpL_nil (th_n ?_))))))))
  refine wpE_cond (t := (decide (i1 < ((Sl.mk (some p6) 3 3).len : Int)))) (by kernel_rfl) (fun hc2 => ?_) (fun hc2 => ?_)
  ·replace h := h.1 hc2
   refine wpE_skip (th_n (wpE_seq (wpE_block (wpE_seq ?_))))
   refine wpE_joinT (fun ρ w => ∃ a1 : Addr, ∃ H : Nat → Prop, Has ρ [(1, (vp (some p1))), (2, (vp (some p2))), (4, (Sl.mk (some p6) 3 3).v), (5, (vi kind1)), (6, (vi i1)), (7, (vp (some a1)))] ∧ Hst w0 H w H w ∧ HB H w [(p2, [(vi aI), (vi aJ), (vu aR), (vs aK), (vb aS)], 132), (p1, [(vi aD), (vi aC), (vi aE), (vu aF), (vs aG), aH.v], 116)] ∧ m_ref11_ReadTree_j3 aD aC aE aF aG aH kind1 i1 aI aJ aR aK aS a1 w0 H w (fun y'0 y'1 y'2 y'3 y'4 y'5 H' w' => I2 y'0 y'1 y'2 y'3 y'4 y'5 H' w' ∧ mu2 y'0 y'1 y'2 y'3 y'4 y'5 w' < mu2 i1 aI aJ aR aK aS wl2) K) ?_ ?_
   ·clear h hs hb
    rintro ρ w ⟨a1, H, hH, hs, hb, h⟩
    unfold m_ref11_ReadTree_j3 at h
    refine wpE_has hH ?_
    clear hH
    refine wpE_seq (rg (q0 (vi kind1) (q0 (.agg #[(vi kind1), (vi 0), (vu 0), (vs ⟨#[]⟩), (vb false)]) (sn (O := (.cells #[(vi 0), (vi 0), (vu 0), (vs ⟨#[]⟩), (vb false)] 132)) (x_alloc (Try.zeroValue132 _) rfl) ?_))))
    intro p7 w7 hn3
    obtain ⟨H3, hs, hb⟩ := hs.alloc hb hn3
    refine st_set (want0 rfl) (x_storeA (a := p7) (vs := [(vi kind1), (vi 0), (vu 0), (vs ⟨#[]⟩), (vb false)]) (by kernel_rfl) (by kernel_rfl) rfl (Try.sizeOf132 _) rfl (hb.canWs0 0 5 gZ (by kernel_rfl))) ?_
    intro w8 hn4
    have hsb : Hst w0 H w H3 w8 ∧ HB H3 w8 [(p7, [(vi kind1), (vi 0), (vu 0), (vs ⟨#[]⟩), (vb false)], 132), (p2, [(vi aI), (vi aJ), (vu aR), (vs aK), (vb aS)], 132), (p1, [(vi aD), (vi aC), (vi aE), (vu aF), (vs aG), aH.v], 116)] := by
     rw [hn4]
     exact hb.store0 (i := 0) (vs := [(vi kind1), (vi 0), (vu 0), (vs ⟨#[]⟩), (vb false)]) hs gZ (by kernel_rfl) (by kernel_rfl)
    clear hs hb hn4
    obtain ⟨hs, hb⟩ := hsb
    refine wpL_nil (th_n (wpE_seq (wpE_seq (rg (q0 (vi kind1) ?_)))))
    refine st_call (want0 rfl) (xc Try.call162) ((p_ref11_signed kind1 w8).mono ?_)
    rintro e w9 ⟨he, hE⟩
    refine ⟨(vb (s_ref11_signed kind1)), he.trans (by kernel_rfl), ?_⟩
    replace hs := hs.pure hE
    replace hb := hb.pure hE
    clear hE he
    refine wpL_nil (th_n ?_)
    refine wpE_via (fun ρ wJ => ∃ b1'0 : Bool, ∃ HJ : Nat → Prop, ((s_ref11_signed kind1) = b1'0) ∧ Hst w0 H w HJ wJ ∧ HB HJ wJ [(p7, [(vi kind1), (vi (cond b1'0 aC 0)), (vu 0), (vs ⟨#[]⟩), (vb false)], 132), (p2, [(vi aI), (vi aJ), (vu aR), (vs aK), (vb aS)], 132), (p1, [(vi aD), (vi aC), (vi aE), (vu aF), (vs aG), aH.v], 116)] ∧ Has ρ [(1, (vp (some p1))), (2, (vp (some p2))), (4, (Sl.mk (some p6) 3 3).v), (5, (vi kind1)), (6, (vi i1)), (7, (vp (some a1))), (8, (vp (some p7)))]) ?_ ?_
    ·skip
     refine wpE_cond (t := (s_ref11_signed kind1)) (by kernel_rfl) (fun hc4 => ?_) (fun hc4 => ?_)
     ·skip
      refine rg (q0 (vp (some (p1.add 1))) (q2 (vi aC) (xl (Try.isAgg3 _) (hb.c 2 1 (gS (gS gZ)))) (q0 (vp (some (p7.add 1))) (st_set (want0 rfl) (x_store (a := (p7.add 1)) (v := (vi aC)) (by kernel_rfl) (by kernel_rfl) rfl (Try.sizeOf3 _) (hb.canW 0 1 gZ (by kernel_rfl))) ?_))))
      intro w12 hn6
      have hsb : Hst w0 H w H3 w12 ∧ HB H3 w12 [(p7, [(vi kind1), (vi aC), (vu 0), (vs ⟨#[]⟩), (vb false)], 132), (p2, [(vi aI), (vi aJ), (vu aR), (vs aK), (vb aS)], 132), (p1, [(vi aD), (vi aC), (vi aE), (vu aF), (vs aG), aH.v], 116)] := by
       rw [hn6]
       exact hb.set (i := 0) 1 (v := (vi aC)) hs gZ (by kernel_rfl)
      clear hs hb hn6
      obtain ⟨hs, hb⟩ := hsb
      refine wpL_nil (th_n ?_)
      exact ⟨true, _, hc4, hs, hb, Has.mk (by kernel_rfl)⟩
     ·skip
      refine wpE_skip (th_n ?_)
      exact ⟨false, _, hc4, hs, hb, Has.mk (by kernel_rfl)⟩
    ·clear hs hb
     rintro ρ w11 ⟨b1'0, H4, he0, hs, hb, hH⟩
     subst he0
     refine norm_has hH ?_
     clear hH
     refine th_n (wpE_seq (wpE_seq (rg (q0 (vi kind1) ?_))))
     refine st_call (want0 rfl) (xc Try.call163) ((p_ref11_texted kind1 w11).mono ?_)
     rintro e w13 ⟨he, hE⟩
     refine ⟨(vb ((s_ref11_signed kind1) || (kind1 == 6))), he.trans (by kernel_rfl), ?_⟩
     replace hs := hs.pure hE
     replace hb := hb.pure hE
     clear hE he
     refine wpL_nil (th_n ?_)
     refine wpE_joinT (fun ρ w => ∃ aA aB aU : Int, ∃ aP : ByteArray, ∃ aQ : Bool, ∃ H : Nat → Prop, Has ρ [(1, (vp (some p1))), (2, (vp (some p2))), (4, (Sl.mk (some p6) 3 3).v), (5, (vi kind1)), (6, (vi i1)), (8, (vp (some p7)))] ∧ Hst w0 H w H w ∧ HB H w [(p7, [(vi aA), (vi aB), (vu aU), (vs aP), (vb aQ)], 132), (p2, [(vi aI), (vi aJ), (vu aR), (vs aK), (vb aS)], 132), (p1, [(vi aD), (vi aC), (vi aE), (vu aF), (vs aG), aH.v], 116)] ∧ m_ref11_ReadTree_j4 aD aC aE aF aG aH kind1 i1 aI aJ aR aK aS aA aB aU aP aQ w0 H w (fun y'0 y'1 y'2 y'3 y'4 y'5 H' w' => I2 y'0 y'1 y'2 y'3 y'4 y'5 H' w' ∧ mu2 y'0 y'1 y'2 y'3 y'4 y'5 w' < mu2 i1 aI aJ aR aK aS wl2) K) ?_ ?_
     ·clear h hs hb
      rintro ρ w ⟨aA, aB, aU, aP, aQ, H, hH, hs, hb, h⟩
      unfold m_ref11_ReadTree_j4 at h
      refine wpE_has hH ?_
      clear hH
      refine wpE_seq (rg (q0 (vi 0) (wpL_nil (th_n (wpE_block ?_)))))
      obtain ⟨I3, mu3, h0, hr⟩ := h
      refine wpE_loop (σ := Int × Int × Int × Int × ByteArray × Bool × Int × Int × Int × ByteArray × Bool × (Nat → Prop) × World) (fun s ρ w => w = s.2.2.2.2.2.2.2.2.2.2.2.2 ∧ Has ρ [(1, (vp (some p1))), (2, (vp (some p2))), (4, (Sl.mk (some p6) 3 3).v), (5, (vi kind1)), (6, (vi i1)), (8, (vp (some p7))), (9, (vi s.1))] ∧ Hst w0 s.2.2.2.2.2.2.2.2.2.2.2.1 w s.2.2.2.2.2.2.2.2.2.2.2.1 w ∧ HB s.2.2.2.2.2.2.2.2.2.2.2.1 w [(p7, [(vi s.2.1), (vi s.2.2.1), (vu s.2.2.2.1), (vs s.2.2.2.2.1), (vb s.2.2.2.2.2.1)], 132), (p2, [(vi s.2.2.2.2.2.2.1), (vi s.2.2.2.2.2.2.2.1), (vu s.2.2.2.2.2.2.2.2.1), (vs s.2.2.2.2.2.2.2.2.2.1), (vb s.2.2.2.2.2.2.2.2.2.2.1)], 132), (p1, [(vi aD), (vi aC), (vi aE), (vu aF), (vs aG), aH.v], 116)] ∧ I3 s.1 s.2.1 s.2.2.1 s.2.2.2.1 s.2.2.2.2.1 s.2.2.2.2.2.1 s.2.2.2.2.2.2.1 s.2.2.2.2.2.2.2.1 s.2.2.2.2.2.2.2.2.1 s.2.2.2.2.2.2.2.2.2.1 s.2.2.2.2.2.2.2.2.2.2.1 s.2.2.2.2.2.2.2.2.2.2.2.1 s.2.2.2.2.2.2.2.2.2.2.2.2) (fun s => mu3 s.1 s.2.1 s.2.2.1 s.2.2.2.1 s.2.2.2.2.1 s.2.2.2.2.2.1 s.2.2.2.2.2.2.1 s.2.2.2.2.2.2.2.1 s.2.2.2.2.2.2.2.2.1 s.2.2.2.2.2.2.2.2.2.1 s.2.2.2.2.2.2.2.2.2.2.1 s.2.2.2.2.2.2.2.2.2.2.2.2) (0, aA, aB, aU, aP, aQ, aI, aJ, aR, aK, aS, H, w) ⟨rfl, Has.mk (by kernel_rfl), hs, hb, h0⟩ ?_
      clear hs hb
      rintro ⟨fakes1, aL, aM, aN, aO, cF, bA, bB, bC, bD, bE, Hl3, wl3⟩ ρ w ⟨hw, hH, hs, hb, hI⟩
      obtain rfl : wl3 = w := (show w = wl3 from hw).symm
      replace hH : Has ρ [(1, (vp (some p1))), (2, (vp (some p2))), (4, (Sl.mk (some p6) 3 3).v), (5, (vi kind1)), (6, (vi i1)), (8, (vp (some p7))), (9, (vi fakes1))] := hH
      replace hs : Hst w0 Hl3 wl3 Hl3 wl3 := hs
      replace hb : HB Hl3 wl3 [(p7, [(vi aL), (vi aM), (vu aN), (vs aO), (vb cF)], 132), (p2, [(vi bA), (vi bB), (vu bC), (vs bD), (vb bE)], 132), (p1, [(vi aD), (vi aC), (vi aE), (vu aF), (vs aG), aH.v], 116)] := hb
      have h := hr fakes1 aL aM aN aO cF bA bB bC bD bE Hl3 wl3 hs hI
      clear hr h0
      unfold m_ref11_ReadTree_l5 at h
      refine wpE_has hH ?_
      clear hH hI
      refine wpE_seq (wpE_seq (rg (q0 (vi fakes1) (q0 (vb (decide (fakes1 < 4))) (wpL_nil (th_n ?_))))))
      refine wpE_cond (t := (decide (fakes1 < 4))) (by kernel_rfl) (fun hc5 => ?_) (fun hc5 => ?_)
      ·replace h := h.1 hc5
       refine wpE_skip (th_n (wpE_seq (wpE_block (wpE_seq (rg (q0 (vi fakes1) (q0 (vb (decide (fakes1 > 0))) (q0 (vp (some (p7.add 4))) (st_set (want0 rfl) (x_store (a := (p7.add 4)) (v := (vb (decide (fakes1 > 0)))) (by kernel_rfl) (by kernel_rfl) rfl (Try.sizeOf4 _) (hb.canW 0 4 gZ (by kernel_rfl))) ?_)))))))))
       intro w14 hn7
       have hsb : Hst w0 Hl3 wl3 Hl3 w14 ∧ HB Hl3 w14 [(p7, [(vi aL), (vi aM), (vu aN), (vs aO), (vb (decide (fakes1 > 0)))], 132), (p2, [(vi bA), (vi bB), (vu bC), (vs bD), (vb bE)], 132), (p1, [(vi aD), (vi aC), (vi aE), (vu aF), (vs aG), aH.v], 116)] := by
        rw [hn7]
        exact hb.set (i := 0) 4 (v := (vb (decide (fakes1 > 0)))) hs gZ (by kernel_rfl)
       clear hs hb hn7
       obtain ⟨hs, hb⟩ := hsb
       refine wpL_nil (th_n (wpE_seq ?_))
       replace h := h w14 hs
       replace hs := hs.here
       obtain ⟨C1, hC, h⟩ := h
       refine wpE_drawnC (fun x => C1 x ∧ HB Hl3 x [(p7, [(vi aL), (vi aM), (vu aN), (vs aO), (vb (decide (fakes1 > 0)))], 132), (p2, [(vi bA), (vi bB), (vu bC), (vs bD), (vb bE)], 132), (p1, [(vi aD), (vi aC), (vi aE), (vu aF), (vs aG), aH.v], 116)]) [1, 19, 21] [] (by kernel_rfl) (by kernel_rfl) (by kernel_rfl) (by kernel_rfl) ⟨hC, hb.drew⟩ ?_
       clear hC
       intro w15 hw15
       replace h := h w15 hw15
       replace hs : Hst w0 Hl3 w14 Hl3 w15 := by rw [hw15]; exact hs.drew
       replace hb : HB Hl3 w15 [(p7, [(vi aL), (vi aM), (vu aN), (vs aO), (vb (decide (fakes1 > 0)))], 132), (p2, [(vi bA), (vi bB), (vu bC), (vs bD), (vb bE)], 132), (p1, [(vi aD), (vi aC), (vi aE), (vu aF), (vs aG), aH.v], 116)] := by rw [hw15]; exact hb.drew
       replace hs := hs.here
       refine qz 0 (.agg #[(vi aL), (vi aM), (vu aN), (vs aO), (vb (decide (fakes1 > 0)))]) Kp0 (fun w' hw' => (x_loadA (a := p7) (vs := [(vi aL), (vi aM), (vu aN), (vs aO), (vb (decide (fakes1 > 0)))]) (by kernel_rfl) (Try.isAgg132 _) (Try.sizeOf132 _) rfl (hw'.2.row0 0 5 gZ (by kernel_rfl)))) (lgo (k := 1) (by kernel_rfl) ?_)
       refine sl_call Kp1 (want0 rfl) (by kernel_rfl) (xc Try.call164) (h.mono ?_)
       rintro e w16 ⟨r1, rfl, hC, hk, h⟩
       refine ⟨_, rfl, .inr ⟨hC, hb.kept hk⟩, ?_⟩
       obtain ⟨hs, hb⟩ := hk.hh hs hb
       refine qx 2 (vb (r1 == 0)) Kp2 (qx 3 (vb (r1 == 0)) Kp3 (qgo (k := 4) (by kernel_rfl) ?_))
       rcases Bool.eq_false_or_eq_true (r1 == 0) with hg1 | hg1
       ·replace h := h.1 hg1
        refine sx (v := (vi kind1)) Kp4 (want1 rfl (yD 71 hg1)) (by kernel_rfl) (fun w' hw' => (by kernel_rfl)) (qw 5 (vb (kind1 == 4)) Kp5 (want1 rfl (yD 71 hg1)) (qw 6 (vb (kind1 == 4)) Kp6 (want1 rfl (yD 71 hg1)) (qgo (k := 7) (by kernel_rfl) ?_)))
        rcases Bool.eq_false_or_eq_true (kind1 == 4) with hg2 | hg2
        ·replace h := h.1 hg2
         refine sx_not Kp7 (unwant rfl (yD 74 hg2) rfl) (qn 8 Kp8 (unwant rfl (yD 74 hg2) rfl) (qgo (k := 9) (by kernel_rfl) (sx (v := (vb true)) Kp9 (want1 rfl (yD 71 hg1)) (by kernel_rfl) (fun w' hw' => (xT hg2)) (qz 10 (vb true) (pickA (S8 (pickS (pickS pickZ)))) (fun w' hw' => (xT hg1)) (qx 11 (vb true) (pickA (S8 (pickS (pickS (pickS pickZ))))) (qgo (k := 12) (by kernel_rfl) (sx (v := (.agg #[(vi aL), (vi aM), (vu aN), (vs aO), (vb (decide (fakes1 > 0)))])) (pickA (S8 (S4 pickZ))) (want1 rfl (yD (c := true) 79 rfl)) (by kernel_rfl) (fun w' hw' => (x_loadA (a := p7) (vs := [(vi aL), (vi aM), (vu aN), (vs aO), (vb (decide (fakes1 > 0)))]) (by kernel_rfl) (Try.isAgg132 _) (Try.sizeOf132 _) rfl (hw'.2.row0 0 5 gZ (by kernel_rfl)))) (qw 13 (vi fakes1) (pickA (S8 (S4 (pickS pickZ)))) (want1 rfl (yD (c := true) 79 rfl)) (qgo (k := 14) (by kernel_rfl) ?_)))))))))
         obtain ⟨z1, hv2, h⟩ := h
         refine sx (v := (vi z1)) (pickA (S8 (S4 (pickS (pickS pickZ))))) (want1 rfl (yD (c := true) 79 rfl)) (by kernel_rfl) (fun w' hw' => (x_bin (by kernel_rfl) (by kernel_rfl) (by kernel_rfl) (hv2 w' hw'.1))) (qw 15 (vb (z1 == 1)) (pickA (S8 (S4 (pickS (pickS (pickS pickZ)))))) (want1 rfl (yD (c := true) 79 rfl)) (qw 16 (vi fakes1) (pickA (S8 (S8 pickZ))) (want1 rfl (yD (c := true) 79 rfl)) (qgo (k := 17) (by kernel_rfl) ?_)))
         obtain ⟨z2, hv1, h⟩ := h
         refine sx (v := (vi z2)) (pickA (S8 (S8 (pickS pickZ)))) (want1 rfl (yD (c := true) 79 rfl)) (by kernel_rfl) (fun w' hw' => (x_bin (by kernel_rfl) (by kernel_rfl) (by kernel_rfl) (hv1 w' hw'.1))) (qw 18 (vb (z2 == 1)) (pickA (S8 (S8 (pickS (pickS pickZ))))) (want1 rfl (yD (c := true) 79 rfl)) (qgo (k := 20) (by kernel_rfl) (sx (v := (.agg #[(vi aD), (vi aC), (vi aE), (vu aF), (vs aG), aH.v])) (pickA (S8 (S8 (S4 pickZ)))) (want1 rfl (yD (c := true) 79 rfl)) (by kernel_rfl) (fun w' hw' => (x_loadA (a := p1) (vs := [(vi aD), (vi aC), (vi aE), (vu aF), (vs aG), aH.v]) (by kernel_rfl) (Try.isAgg116 _) (Try.sizeOf116 _) rfl (hw'.2.row0 2 6 (gS (gS gZ)) (by kernel_rfl)))) (lgo (k := 19) (by kernel_rfl) ?_))))
         refine sl_call (pickA (S8 (S8 (pickS (pickS (pickS pickZ)))))) (want1 rfl (yD (c := true) 79 rfl)) (by kernel_rfl) (xc Try.call74) (h.mono ?_)
         rintro e w17 ⟨bT, bU, bV, bW, bX, bY, rfl, hC, hk, h⟩
         refine ⟨_, rfl, .inr ⟨hC, hb.kept hk⟩, ?_⟩
         obtain ⟨hs, hb⟩ := hk.hh hs hb
         refine lgo (k := 21) (by kernel_rfl) ?_
         refine sl_call (pickA (S8 (S8 (S4 (pickS pickZ))))) (want1 rfl (yD (c := true) 79 rfl)) (by kernel_rfl) (xc Try.call61) (h.mono ?_)
         rintro e w18 ⟨r2, rfl, hC, hk, h⟩
         refine ⟨_, rfl, .inr ⟨hC, hb.kept hk⟩, ?_⟩
         obtain ⟨hs, hb⟩ := hk.hh hs hb
         refine qx 22 (vb r2) (pickA (S8 (S8 (S4 (pickS (pickS pickZ)))))) (wpX_nil (by kernel_rfl) (th_n ?_))
         refine wpE_cond (t := r2) (by kernel_rfl) (fun hc6 => ?_) (fun hc6 => ?_)
         ·replace h := h.1 hc6
          refine wpE_seq (rg (q2 (.agg #[(vi aL), (vi aM), (vu aN), (vs aO), (vb (decide (fakes1 > 0)))]) (x_loadA (a := p7) (vs := [(vi aL), (vi aM), (vu aN), (vs aO), (vb (decide (fakes1 > 0)))]) (by kernel_rfl) (Try.isAgg132 _) (Try.sizeOf132 _) rfl (hb.row0 0 5 gZ (by kernel_rfl))) (st_set (want0 rfl) (x_storeA (a := p2) (vs := [(vi aL), (vi aM), (vu aN), (vs aO), (vb (decide (fakes1 > 0)))]) (by kernel_rfl) (by kernel_rfl) rfl (Try.sizeOf132 _) rfl (hb.canWs0 1 5 (gS gZ) (by kernel_rfl))) ?_)))
          intro w19 hn8
          have hsb : Hst w0 Hl3 w18 Hl3 w19 ∧ HB Hl3 w19 [(p7, [(vi aL), (vi aM), (vu aN), (vs aO), (vb (decide (fakes1 > 0)))], 132), (p2, [(vi aL), (vi aM), (vu aN), (vs aO), (vb (decide (fakes1 > 0)))], 132), (p1, [(vi aD), (vi aC), (vi aE), (vu aF), (vs aG), aH.v], 116)] := by
           rw [hn8]
           exact hb.store0 (i := 1) (vs := [(vi aL), (vi aM), (vu aN), (vs aO), (vb (decide (fakes1 > 0)))]) hs (gS gZ) (by kernel_rfl) (by kernel_rfl)
          clear hs hb hn8
          obtain ⟨hs, hb⟩ := hsb
          refine q0 (vb true) (wpL_nil (th_n (wpE_ret (bl_r (th_r (th_r (bl_r (bl_r (th_r (th_r (bl_r ?_)))))))))))
          refine bl_r (th_r (th_r (bl_r (th_r ?_))))
          replace h := h w19 hs
          replace hs := hs.here
          refine resG (.inl rfl) (vs := [(.agg #[(vi aL), (vi aM), (vu aN), (vs aO), (vb (decide (fakes1 > 0)))]), (vb true)]) (v := (.tuple #[(.agg #[(vi aL), (vi aM), (vu aN), (vs aO), (vb (decide (fakes1 > 0)))]), (vb true)])) Try.results129 ⟨(RV.cellA (by kernel_rfl) (Try.isAgg132 _) (Try.sizeOf132 _) rfl (hb.row0 1 5 (gS gZ) (by kernel_rfl))), (rvT (by kernel_rfl)), trivial⟩ (by kernel_rfl) ?_
          exact ⟨aL, aM, aN, aO, (decide (fakes1 > 0)), true, rfl, h⟩
         ·replace h := h.2 hc6
          refine wpE_skip (bl_n (th_n (rg (q0 (vi fakes1) (q0 (vi (IntKind.i64.wrap (fakes1 + 1))) (q0 (vi (IntKind.i64.wrap (fakes1 + 1))) (wpL_nil (th_n ?_))))))))
          exact ⟨((IntKind.i64.wrap (fakes1 + 1)), aL, aM, aN, aO, (decide (fakes1 > 0)), bA, bB, bC, bD, bE, Hl3, w18), ⟨rfl, Has.mk (by kernel_rfl), hs, hb, h.1⟩, h.2⟩
        ·replace h := h.2 hg2
         refine sx (v := (vi fakes1)) Kp7 (want1 rfl (yD 74 hg2)) (by kernel_rfl) (fun w' hw' => (by kernel_rfl)) (qw 8 (vb (fakes1 != 2)) Kp8 (want1 rfl (yD 74 hg2)) (qgo (k := 9) (by kernel_rfl) (sx (v := (vb (fakes1 != 2))) Kp9 (want1 rfl (yD 71 hg1)) (by kernel_rfl) (fun w' hw' => (xF hg2)) (qz 10 (vb (fakes1 != 2)) (pickA (S8 (pickS (pickS pickZ)))) (fun w' hw' => (xT hg1)) (qx 11 (vb (fakes1 != 2)) (pickA (S8 (pickS (pickS (pickS pickZ))))) (qgo (k := 12) (by kernel_rfl) ?_))))))
         rcases Bool.eq_false_or_eq_true (fakes1 != 2) with hg3 | hg3
         ·replace h := h.1 hg3
          refine sx (v := (.agg #[(vi aL), (vi aM), (vu aN), (vs aO), (vb (decide (fakes1 > 0)))])) (pickA (S8 (S4 pickZ))) (want1 rfl (yD 79 hg3)) (by kernel_rfl) (fun w' hw' => (x_loadA (a := p7) (vs := [(vi aL), (vi aM), (vu aN), (vs aO), (vb (decide (fakes1 > 0)))]) (by kernel_rfl) (Try.isAgg132 _) (Try.sizeOf132 _) rfl (hw'.2.row0 0 5 gZ (by kernel_rfl)))) (qw 13 (vi fakes1) (pickA (S8 (S4 (pickS pickZ)))) (want1 rfl (yD 79 hg3)) (qgo (k := 14) (by kernel_rfl) ?_))
          obtain ⟨z3, hv4, h⟩ := h
          refine sx (v := (vi z3)) (pickA (S8 (S4 (pickS (pickS pickZ))))) (want1 rfl (yD 79 hg3)) (by kernel_rfl) (fun w' hw' => (x_bin (by kernel_rfl) (by kernel_rfl) (by kernel_rfl) (hv4 w' hw'.1))) (qw 15 (vb (z3 == 1)) (pickA (S8 (S4 (pickS (pickS (pickS pickZ)))))) (want1 rfl (yD 79 hg3)) (qw 16 (vi fakes1) (pickA (S8 (S8 pickZ))) (want1 rfl (yD 79 hg3)) (qgo (k := 17) (by kernel_rfl) ?_)))
          obtain ⟨z4, hv3, h⟩ := h
          refine sx (v := (vi z4)) (pickA (S8 (S8 (pickS pickZ)))) (want1 rfl (yD 79 hg3)) (by kernel_rfl) (fun w' hw' => (x_bin (by kernel_rfl) (by kernel_rfl) (by kernel_rfl) (hv3 w' hw'.1))) (qw 18 (vb (z4 == 1)) (pickA (S8 (S8 (pickS (pickS pickZ))))) (want1 rfl (yD 79 hg3)) (qgo (k := 20) (by kernel_rfl) (sx (v := (.agg #[(vi aD), (vi aC), (vi aE), (vu aF), (vs aG), aH.v])) (pickA (S8 (S8 (S4 pickZ)))) (want1 rfl (yD 79 hg3)) (by kernel_rfl) (fun w' hw' => (x_loadA (a := p1) (vs := [(vi aD), (vi aC), (vi aE), (vu aF), (vs aG), aH.v]) (by kernel_rfl) (Try.isAgg116 _) (Try.sizeOf116 _) rfl (hw'.2.row0 2 6 (gS (gS gZ)) (by kernel_rfl)))) (lgo (k := 19) (by kernel_rfl) ?_))))
          refine sl_call (pickA (S8 (S8 (pickS (pickS (pickS pickZ)))))) (want1 rfl (yD 79 hg3)) (by kernel_rfl) (xc Try.call74) (h.mono ?_)
          rintro e w20 ⟨bO, bP, dB, dC, bQ, dD, rfl, hC, hk, h⟩
          refine ⟨_, rfl, .inr ⟨hC, hb.kept hk⟩, ?_⟩
          obtain ⟨hs, hb⟩ := hk.hh hs hb
          refine lgo (k := 21) (by kernel_rfl) ?_
          refine sl_call (pickA (S8 (S8 (S4 (pickS pickZ))))) (want1 rfl (yD 79 hg3)) (by kernel_rfl) (xc Try.call61) (h.mono ?_)
          rintro e w21 ⟨r3, rfl, hC, hk, h⟩
          refine ⟨_, rfl, .inr ⟨hC, hb.kept hk⟩, ?_⟩
          obtain ⟨hs, hb⟩ := hk.hh hs hb
          refine qz 22 (vb r3) (pickA (S8 (S8 (S4 (pickS (pickS pickZ)))))) (fun w' hw' => (xT hg3)) (wpX_nil (by kernel_rfl) (th_n ?_))
          refine wpE_cond (t := r3) (by kernel_rfl) (fun hc7 => ?_) (fun hc7 => ?_)
          ·replace h := h.1 hc7
           refine wpE_seq (rg (q2 (.agg #[(vi aL), (vi aM), (vu aN), (vs aO), (vb (decide (fakes1 > 0)))]) (x_loadA (a := p7) (vs := [(vi aL), (vi aM), (vu aN), (vs aO), (vb (decide (fakes1 > 0)))]) (by kernel_rfl) (Try.isAgg132 _) (Try.sizeOf132 _) rfl (hb.row0 0 5 gZ (by kernel_rfl))) (st_set (want0 rfl) (x_storeA (a := p2) (vs := [(vi aL), (vi aM), (vu aN), (vs aO), (vb (decide (fakes1 > 0)))]) (by kernel_rfl) (by kernel_rfl) rfl (Try.sizeOf132 _) rfl (hb.canWs0 1 5 (gS gZ) (by kernel_rfl))) ?_)))
           intro w22 hn9
           have hsb : Hst w0 Hl3 w21 Hl3 w22 ∧ HB Hl3 w22 [(p7, [(vi aL), (vi aM), (vu aN), (vs aO), (vb (decide (fakes1 > 0)))], 132), (p2, [(vi aL), (vi aM), (vu aN), (vs aO), (vb (decide (fakes1 > 0)))], 132), (p1, [(vi aD), (vi aC), (vi aE), (vu aF), (vs aG), aH.v], 116)] := by
            rw [hn9]
            exact hb.store0 (i := 1) (vs := [(vi aL), (vi aM), (vu aN), (vs aO), (vb (decide (fakes1 > 0)))]) hs (gS gZ) (by kernel_rfl) (by kernel_rfl)
           clear hs hb hn9
           obtain ⟨hs, hb⟩ := hsb
           refine q0 (vb true) (wpL_nil (th_n (wpE_ret (bl_r (th_r (th_r (bl_r (bl_r (th_r (th_r (bl_r ?_)))))))))))
           refine bl_r (th_r (th_r (bl_r (th_r ?_))))
           replace h := h w22 hs
           replace hs := hs.here
           refine resG (.inl rfl) (vs := [(.agg #[(vi aL), (vi aM), (vu aN), (vs aO), (vb (decide (fakes1 > 0)))]), (vb true)]) (v := (.tuple #[(.agg #[(vi aL), (vi aM), (vu aN), (vs aO), (vb (decide (fakes1 > 0)))]), (vb true)])) Try.results129 ⟨(RV.cellA (by kernel_rfl) (Try.isAgg132 _) (Try.sizeOf132 _) rfl (hb.row0 1 5 (gS gZ) (by kernel_rfl))), (rvT (by kernel_rfl)), trivial⟩ (by kernel_rfl) ?_
           exact ⟨aL, aM, aN, aO, (decide (fakes1 > 0)), true, rfl, h⟩
          ·replace h := h.2 hc7
           refine wpE_skip (bl_n (th_n (rg (q0 (vi fakes1) (q0 (vi (IntKind.i64.wrap (fakes1 + 1))) (q0 (vi (IntKind.i64.wrap (fakes1 + 1))) (wpL_nil (th_n ?_))))))))
           exact ⟨((IntKind.i64.wrap (fakes1 + 1)), aL, aM, aN, aO, (decide (fakes1 > 0)), bA, bB, bC, bD, bE, Hl3, w21), ⟨rfl, Has.mk (by kernel_rfl), hs, hb, h.1⟩, h.2⟩
         ·replace h := h.2 hg3
          refine sx_not (pickA (S8 (S4 pickZ))) (unwant rfl (yD 79 hg3) rfl) (qn 13 (pickA (S8 (S4 (pickS pickZ)))) (unwant rfl (yD 79 hg3) rfl) (qn 14 (pickA (S8 (S4 (pickS (pickS pickZ))))) (unwant rfl (yD 79 hg3) rfl) (qn 15 (pickA (S8 (S4 (pickS (pickS (pickS pickZ)))))) (unwant rfl (yD 79 hg3) rfl) (qn 16 (pickA (S8 (S8 pickZ))) (unwant rfl (yD 79 hg3) rfl) (qn 17 (pickA (S8 (S8 (pickS pickZ)))) (unwant rfl (yD 79 hg3) rfl) (qn 18 (pickA (S8 (S8 (pickS (pickS pickZ))))) (unwant rfl (yD 79 hg3) rfl) (qn 20 (pickA (S8 (S8 (S4 pickZ)))) (unwant rfl (yD 79 hg3) rfl) (lgo (k := 19) (by kernel_rfl) (sx_not (pickA (S8 (S8 (pickS (pickS (pickS pickZ)))))) (unwant rfl (yD 79 hg3) rfl) (lgo (k := 21) (by kernel_rfl) (sx_not (pickA (S8 (S8 (S4 (pickS pickZ))))) (unwant rfl (yD 79 hg3) rfl) ?_)))))))))))
          refine qz 22 (vb false) (pickA (S8 (S8 (S4 (pickS (pickS pickZ)))))) (fun w' hw' => (xF hg3)) (wpX_nil (by kernel_rfl) (th_n (wpE_condF (by kernel_rfl) (wpE_skip (bl_n (th_n (rg (q0 (vi fakes1) (q0 (vi (IntKind.i64.wrap (fakes1 + 1))) (q0 (vi (IntKind.i64.wrap (fakes1 + 1))) (wpL_nil ?_)))))))))))
          refine th_n ?_
          exact ⟨((IntKind.i64.wrap (fakes1 + 1)), aL, aM, aN, aO, (decide (fakes1 > 0)), bA, bB, bC, bD, bE, Hl3, w16), ⟨rfl, Has.mk (by kernel_rfl), hs, hb, h.1⟩, h.2⟩
       ·replace h := h.2 hg1
        refine sx_not Kp4 (unwant rfl (yD 71 hg1) rfl) (qn 5 Kp5 (unwant rfl (yD 71 hg1) rfl) (qn 6 Kp6 (unwant rfl (yD 71 hg1) rfl) (qn 7 Kp7 (by kernel_rfl) (qn 8 Kp8 (by kernel_rfl) (qn 9 Kp9 (unwant rfl (yD 71 hg1) rfl) (qz 10 (vb false) (pickA (S8 (pickS (pickS pickZ)))) (fun w' hw' => (xF hg1)) (qx 11 (vb false) (pickA (S8 (pickS (pickS (pickS pickZ))))) (qn 12 (pickA (S8 (S4 pickZ))) (unwant rfl (yD (c := false) 79 rfl) rfl) (qn 13 (pickA (S8 (S4 (pickS pickZ)))) (unwant rfl (yD (c := false) 79 rfl) rfl) (qn 14 (pickA (S8 (S4 (pickS (pickS pickZ))))) (unwant rfl (yD (c := false) 79 rfl) rfl) (qn 15 (pickA (S8 (S4 (pickS (pickS (pickS pickZ)))))) (unwant rfl (yD (c := false) 79 rfl) rfl) ?_)))))))))))
        refine qn 16 (pickA (S8 (S8 pickZ))) (unwant rfl (yD (c := false) 79 rfl) rfl) (qn 17 (pickA (S8 (S8 (pickS pickZ)))) (unwant rfl (yD (c := false) 79 rfl) rfl) (qn 18 (pickA (S8 (S8 (pickS (pickS pickZ))))) (unwant rfl (yD (c := false) 79 rfl) rfl) (qn 20 (pickA (S8 (S8 (S4 pickZ)))) (unwant rfl (yD (c := false) 79 rfl) rfl) (lgo (k := 19) (by kernel_rfl) (sx_not (pickA (S8 (S8 (pickS (pickS (pickS pickZ)))))) (unwant rfl (yD (c := false) 79 rfl) rfl) (lgo (k := 21) (by kernel_rfl) (sx_not (pickA (S8 (S8 (S4 (pickS pickZ))))) (unwant rfl (yD (c := false) 79 rfl) rfl) (qx 22 (vb false) (pickA (S8 (S8 (S4 (pickS (pickS pickZ)))))) (wpX_nil (by kernel_rfl) (th_n (wpE_condF (by kernel_rfl) ?_)))))))))))
        refine wpE_skip (bl_n (th_n (rg (q0 (vi fakes1) (q0 (vi (IntKind.i64.wrap (fakes1 + 1))) (q0 (vi (IntKind.i64.wrap (fakes1 + 1))) (wpL_nil (th_n ?_))))))))
        exact ⟨((IntKind.i64.wrap (fakes1 + 1)), aL, aM, aN, aO, (decide (fakes1 > 0)), bA, bB, bC, bD, bE, Hl3, w16), ⟨rfl, Has.mk (by kernel_rfl), hs, hb, h.1⟩, h.2⟩
      ·replace h := h.2 hc5
       refine wpE_exit (th_x (th_x (bl_eq (bl_n (th_n (rg (q0 (vi i1) (q0 (vi (IntKind.i64.wrap (i1 + 1))) (q0 (vi (IntKind.i64.wrap (i1 + 1))) (wpL_nil (th_n ?_)))))))))))
       exact ⟨((IntKind.i64.wrap (i1 + 1)), bA, bB, bC, bD, bE, Hl3, wl3), ⟨rfl, Has.mk (by kernel_rfl), hs, hb.drop 1, h.1⟩, h.2⟩
     ·skip
      refine wpE_cond (t := ((s_ref11_signed kind1) || (kind1 == 6))) (by kernel_rfl) (fun hc8 => ?_) (fun hc8 => ?_)
      ·replace h := h.1 hc8
       refine wpE_seq (rg ?_)
       replace h := h H4 w13 hs
       replace hs := hs.here
       obtain ⟨bF, bG, bH, bI, bJ, bK, hv6, h⟩ := h
       refine q2 (.agg #[(vi bF), (vi bG), (vi bH), (vu bI), (vs bJ), bK.v]) (x_loadA (a := a1) (vs := [(vi bF), (vi bG), (vi bH), (vu bI), (vs bJ), bK.v]) (by kernel_rfl) (Try.isAgg116 _) (Try.sizeOf116 _) rfl hv6) (st_new (O := (.cells #[(vi 1), (vi 0)] 3)) (fun p => (Sl.mk (some p) 2 2).v) (want0 rfl) (x_buildSlice (vs := #[(0, (vi 1)), (1, (vi 0))]) (by kernel_rfl) (by kernel_rfl)) ?_)
       intro p8 w23 hn13
       replace h := h p8 w23 hn13
       replace hs := hs.again (Ext.new (F := None) hn13).keptP
       replace hb := hb.kept (Ext.new (F := None) hn13).keptP
       refine st_call (want0 rfl) (xc Try.call161) (h.mono ?_)
       rintro e w24 ⟨cG, cH, dE, bZ, cI, dF, rfl, hk, h⟩
       refine ⟨_, rfl, ?_⟩
       obtain ⟨hs, hb⟩ := hk.hh hs hb
       refine q0 (vu bZ) (q0 (vp (some (p7.add 2))) (st_set (want0 rfl) (x_store (a := (p7.add 2)) (v := (vu bZ)) (by kernel_rfl) (by kernel_rfl) rfl (Try.sizeOf38 _) (hb.canW 0 2 gZ (by kernel_rfl))) ?_))
       intro w25 hn10
       have hsb : Hst w0 H4 w24 H4 w25 ∧ HB H4 w25 [(p7, [(vi kind1), (vi (cond (s_ref11_signed kind1) aC 0)), (vu bZ), (vs ⟨#[]⟩), (vb false)], 132), (p2, [(vi aI), (vi aJ), (vu aR), (vs aK), (vb aS)], 132), (p1, [(vi aD), (vi aC), (vi aE), (vu aF), (vs aG), aH.v], 116)] := by
        rw [hn10]
        exact hb.set (i := 0) 2 (v := (vu bZ)) hs gZ (by kernel_rfl)
       clear hs hb hn10
       obtain ⟨hs, hb⟩ := hsb
       refine wpL_nil (th_n (rg ?_))
       replace h := h w25 hs
       replace hs := hs.here
       obtain ⟨cJ, cK, cL, cM, cN, cO, hv5, h⟩ := h
       refine q2 (.agg #[(vi cJ), (vi cK), (vi cL), (vu cM), (vs cN), cO.v]) (x_loadA (a := a1) (vs := [(vi cJ), (vi cK), (vi cL), (vu cM), (vs cN), cO.v]) (by kernel_rfl) (Try.isAgg116 _) (Try.sizeOf116 _) rfl hv5) (st_new (O := (.cells #[(vi 1), (vi 1)] 3)) (fun p => (Sl.mk (some p) 2 2).v) (want0 rfl) (x_buildSlice (vs := #[(0, (vi 1)), (1, (vi 1))]) (by kernel_rfl) (by kernel_rfl)) ?_)
       intro p9 w26 hn12
       replace h := h p9 w26 hn12
       replace hs := hs.again (Ext.new (F := None) hn12).keptP
       replace hb := hb.kept (Ext.new (F := None) hn12).keptP
       refine st_call (want0 rfl) (xc Try.call161) (h.mono ?_)
       rintro e w27 ⟨dG, dH, dI, dJ, cC, dK, rfl, hk, h⟩
       refine ⟨_, rfl, ?_⟩
       obtain ⟨hs, hb⟩ := hk.hh hs hb
       refine q0 (vs cC) (q0 (vp (some (p7.add 3))) (st_set (want0 rfl) (x_store (a := (p7.add 3)) (v := (vs cC)) (by kernel_rfl) (by kernel_rfl) rfl (Try.sizeOf9 _) (hb.canW 0 3 gZ (by kernel_rfl))) ?_))
       intro w28 hn11
       have hsb : Hst w0 H4 w27 H4 w28 ∧ HB H4 w28 [(p7, [(vi kind1), (vi (cond (s_ref11_signed kind1) aC 0)), (vu bZ), (vs cC), (vb false)], 132), (p2, [(vi aI), (vi aJ), (vu aR), (vs aK), (vb aS)], 132), (p1, [(vi aD), (vi aC), (vi aE), (vu aF), (vs aG), aH.v], 116)] := by
        rw [hn11]
        exact hb.set (i := 0) 3 (v := (vs cC)) hs gZ (by kernel_rfl)
       clear hs hb hn11
       obtain ⟨hs, hb⟩ := hsb
       refine wpL_nil ?_
       replace h := h w28 hs
       replace hs := hs.here
       refine th_n ?_
       exact ⟨kind1, (cond (s_ref11_signed kind1) aC 0), bZ, cC, false, H4, Has.mk (by kernel_rfl), hs, hb, h⟩
      ·replace h := h.2 hc8
       refine wpE_seq (rg (q0 (vi kind1) (q0 (vb (kind1 == 7)) (wpL_nil (th_n ?_)))))
       refine wpE_cond (t := (kind1 == 7)) (by kernel_rfl) (fun hc9 => ?_) (fun hc9 => ?_)
       ·replace h := h.1 hc9
        refine rg (q2 (.agg #[(vi aD), (vi aC), (vi aE), (vu aF), (vs aG), aH.v]) (x_loadA (a := p1) (vs := [(vi aD), (vi aC), (vi aE), (vu aF), (vs aG), aH.v]) (by kernel_rfl) (Try.isAgg116 _) (Try.sizeOf116 _) rfl (hb.row0 2 6 (gS (gS gZ)) (by kernel_rfl))) ?_)
        replace h := h H4 w13 hs
        replace hs := hs.here
        refine st_new (O := (.cells #[(vi 1)] 3)) (fun p => (Sl.mk (some p) 1 1).v) (want0 rfl) (x_buildSlice (vs := #[(0, (vi 1))]) (by kernel_rfl) (by kernel_rfl)) ?_
        intro p10 w29 hn15
        replace h := h p10 w29 hn15
        replace hs := hs.again (Ext.new (F := None) hn15).keptP
        replace hb := hb.kept (Ext.new (F := None) hn15).keptP
        refine st_call (want0 rfl) (xc Try.call161) (h.mono ?_)
        rintro e w30 ⟨dL, dM, dN, cD, dO, dP, rfl, hk, h⟩
        refine ⟨_, rfl, ?_⟩
        obtain ⟨hs, hb⟩ := hk.hh hs hb
        refine q0 (vu cD) (q0 (vp (some (p7.add 2))) (st_set (want0 rfl) (x_store (a := (p7.add 2)) (v := (vu cD)) (by kernel_rfl) (by kernel_rfl) rfl (Try.sizeOf38 _) (hb.canW 0 2 gZ (by kernel_rfl))) ?_))
        intro w31 hn14
        have hsb : Hst w0 H4 w30 H4 w31 ∧ HB H4 w31 [(p7, [(vi kind1), (vi (cond (s_ref11_signed kind1) aC 0)), (vu cD), (vs ⟨#[]⟩), (vb false)], 132), (p2, [(vi aI), (vi aJ), (vu aR), (vs aK), (vb aS)], 132), (p1, [(vi aD), (vi aC), (vi aE), (vu aF), (vs aG), aH.v], 116)] := by
         rw [hn14]
         exact hb.set (i := 0) 2 (v := (vu cD)) hs gZ (by kernel_rfl)
        clear hs hb hn14
        obtain ⟨hs, hb⟩ := hsb
        refine wpL_nil ?_
        replace h := h w31 hs
        replace hs := hs.here
        refine th_n ?_
        exact ⟨kind1, (cond (s_ref11_signed kind1) aC 0), cD, ⟨#[]⟩, false, H4, Has.mk (by kernel_rfl), hs, hb, h⟩
       ·replace h := h.2 hc9
        refine rg (q2 (.agg #[(vi aD), (vi aC), (vi aE), (vu aF), (vs aG), aH.v]) (x_loadA (a := p1) (vs := [(vi aD), (vi aC), (vi aE), (vu aF), (vs aG), aH.v]) (by kernel_rfl) (Try.isAgg116 _) (Try.sizeOf116 _) rfl (hb.row0 2 6 (gS (gS gZ)) (by kernel_rfl))) ?_)
        replace h := h H4 w13 hs
        replace hs := hs.here
        refine st_new (O := (.cells #[(vi 0), (vi 1)] 3)) (fun p => (Sl.mk (some p) 2 2).v) (want0 rfl) (x_buildSlice (vs := #[(0, (vi 0)), (1, (vi 1))]) (by kernel_rfl) (by kernel_rfl)) ?_
        intro p11 w32 hn17
        replace h := h p11 w32 hn17
        replace hs := hs.again (Ext.new (F := None) hn17).keptP
        replace hb := hb.kept (Ext.new (F := None) hn17).keptP
        refine st_call (want0 rfl) (xc Try.call161) (h.mono ?_)
        rintro e w33 ⟨dQ, dR, dS, cE, dT, dU, rfl, hk, h⟩
        refine ⟨_, rfl, ?_⟩
        obtain ⟨hs, hb⟩ := hk.hh hs hb
        refine q0 (vu cE) (q0 (vp (some (p7.add 2))) (st_set (want0 rfl) (x_store (a := (p7.add 2)) (v := (vu cE)) (by kernel_rfl) (by kernel_rfl) rfl (Try.sizeOf38 _) (hb.canW 0 2 gZ (by kernel_rfl))) ?_))
        intro w34 hn16
        have hsb : Hst w0 H4 w33 H4 w34 ∧ HB H4 w34 [(p7, [(vi kind1), (vi (cond (s_ref11_signed kind1) aC 0)), (vu cE), (vs ⟨#[]⟩), (vb false)], 132), (p2, [(vi aI), (vi aJ), (vu aR), (vs aK), (vb aS)], 132), (p1, [(vi aD), (vi aC), (vi aE), (vu aF), (vs aG), aH.v], 116)] := by
         rw [hn16]
         exact hb.set (i := 0) 2 (v := (vu cE)) hs gZ (by kernel_rfl)
        clear hs hb hn16
        obtain ⟨hs, hb⟩ := hsb
        refine wpL_nil ?_
        replace h := h w34 hs
        replace hs := hs.here
        refine th_n ?_
        exact ⟨kind1, (cond (s_ref11_signed kind1) aC 0), cE, ⟨#[]⟩, false, H4, Has.mk (by kernel_rfl), hs, hb, h⟩
   ·skip
    obtain ⟨C2, hC, h⟩ := h
    refine wpE_drawnC (fun x => C2 x ∧ HB Hl2 x [(p2, [(vi aI), (vi aJ), (vu aR), (vs aK), (vb aS)], 132), (p1, [(vi aD), (vi aC), (vi aE), (vu aF), (vs aG), aH.v], 116)]) [5, 6, 7] [5, 7] (by kernel_rfl) (by kernel_rfl) (by kernel_rfl) (by kernel_rfl) ⟨hC, hb.drew⟩ ?_
    clear hC
    intro w35 hw35
    replace h := h w35 hw35
    replace hs : Hst w0 Hl2 wl2 Hl2 w35 := by rw [hw35]; exact hs.drew
    replace hb : HB Hl2 w35 [(p2, [(vi aI), (vi aJ), (vu aR), (vs aK), (vb aS)], 132), (p1, [(vi aD), (vi aC), (vi aE), (vu aF), (vs aG), aH.v], 116)] := by rw [hw35]; exact hb.drew
    replace hs := hs.here
    refine qz 0 (.agg #[(vi aD), (vi aC), (vi aE), (vu aF), (vs aG), aH.v]) Kp0 (fun w' hw' => (x_loadA (a := p1) (vs := [(vi aD), (vi aC), (vi aE), (vu aF), (vs aG), aH.v]) (by kernel_rfl) (Try.isAgg116 _) (Try.sizeOf116 _) rfl (hw'.2.row0 1 6 (gS gZ) (by kernel_rfl)))) (qx 1 ((Sl.mk (some p6) 3 3).v) Kp1 (qx 2 (vi i1) Kp2 (qgo (k := 3) (by kernel_rfl) ?_)))
    obtain ⟨a2, hv8, h⟩ := h
    refine sx (v := (vp (some a2))) Kp3 (want0 rfl) (by kernel_rfl) (fun w' hw' => (x_indexAddr (s := (Sl.mk (some p6) 3 3)) (k := .i64) (i := i1) (by kernel_rfl) (by kernel_rfl) (Try.runUnderlying259 _) (Try.sizeOf73 _) hv8)) (qgo (k := 4) (by kernel_rfl) ?_)
    obtain ⟨v1, hv7, h⟩ := h
    refine sx (v := v1.v) Kp4 (want0 rfl) (by kernel_rfl) (fun w' hw' => (xl (Try.isAgg73 _) (hv7 w' hw'.1))) ?_
    refine lgo2 (k := 5) (k' := 6) (by kernel_rfl) ?_ ?_
    ·replace h := h.1
     refine sl_call Kp5 (want0 rfl) (by kernel_rfl) (xc Try.call161) (h.mono ?_)
     rintro e w36 ⟨cP, cQ, cR, cS, cT, cU, rfl, hk, h⟩
     refine ⟨_, rfl, .inl (by kernel_rfl), ?_⟩
     obtain ⟨hs, hb⟩ := hk.hh hs hb
     refine lgo (k := 6) (by kernel_rfl) (sl_new (O := (.cells #[(vi 0), (vi 0), (vi 0), (vu 0), (vs ⟨#[]⟩), Sl.nil.v] 116)) (fun p => .pointer (some p)) Kp6 (want0 rfl) (by kernel_rfl) (x_alloc (Try.zeroValue116 _) rfl) ?_)
     intro p12 w37 hn19
     replace h := h p12 w37 hn19
     refine ⟨.inr ⟨h.1, hb.kept (Ext.new (F := None) hn19).keptP⟩, ?_⟩
     replace h := h.2
     replace hs := hs.again (Ext.new (F := None) hn19).keptP
     replace hb := hb.kept (Ext.new (F := None) hn19).keptP
     refine lgo (k := 7) (by kernel_rfl) ?_
     obtain ⟨hp1, hnh, h⟩ := h
     refine sl_set Kp7 (want0 rfl) (by kernel_rfl) (x_storeA (a := p12) (vs := [(vi cP), (vi cQ), (vi cR), (vu cS), (vs cT), cU.v]) (by kernel_rfl) (by kernel_rfl) rfl (Try.sizeOf116 _) rfl hp1) ?_
     intro w38 hn18
     replace h := h w38 hn18
     refine ⟨.inl (by kernel_rfl), ?_⟩
     have hk : Kept Hl2 w37 w38 := by rw [hn18]; exact Kept.storeRow hnh
     replace hs := hs.again hk
     replace hb := hb.kept hk
     clear hk hnh
     refine wpX_nil (by kernel_rfl) (th_n ?_)
     exact ⟨p12, Hl2, Has.mk (by kernel_rfl), hs, hb, h⟩
    ·replace h := h.2
     refine sl_new (O := (.cells #[(vi 0), (vi 0), (vi 0), (vu 0), (vs ⟨#[]⟩), Sl.nil.v] 116)) (fun p => .pointer (some p)) Kp6 (want0 rfl) (by kernel_rfl) (x_alloc (Try.zeroValue116 _) rfl) ?_
     intro p13 w39 hn21
     replace h := h p13 w39 hn21
     refine ⟨.inr ⟨h.1, hb.kept (Ext.new (F := None) hn21).keptP⟩, ?_⟩
     replace h := h.2
     replace hs := hs.again (Ext.new (F := None) hn21).keptP
     replace hb := hb.kept (Ext.new (F := None) hn21).keptP
     refine lgo (k := 5) (by kernel_rfl) ?_
     refine sl_call Kp5 (want0 rfl) (by kernel_rfl) (xc Try.call161) (h.mono ?_)
     rintro e w40 ⟨cV, cW, cX, cY, cZ, dA, rfl, hk, h⟩
     refine ⟨_, rfl, .inl (by kernel_rfl), ?_⟩
     obtain ⟨hs, hb⟩ := hk.hh hs hb
     refine lgo (k := 7) (by kernel_rfl) ?_
     obtain ⟨hp2, hnh, h⟩ := h
     refine sl_set Kp7 (want0 rfl) (by kernel_rfl) (x_storeA (a := p13) (vs := [(vi cV), (vi cW), (vi cX), (vu cY), (vs cZ), dA.v]) (by kernel_rfl) (by kernel_rfl) rfl (Try.sizeOf116 _) rfl hp2) ?_
     intro w41 hn20
     replace h := h w41 hn20
     refine ⟨.inl (by kernel_rfl), ?_⟩
     have hk : Kept Hl2 w40 w41 := by rw [hn20]; exact Kept.storeRow hnh
     replace hs := hs.again hk
     replace hb := hb.kept hk
     clear hk hnh
     refine wpX_nil (by kernel_rfl) (th_n ?_)
     exact ⟨p13, Hl2, Has.mk (by kernel_rfl), hs, hb, h⟩
  ·replace h := h.2 hc2
   refine wpE_exit (th_x (th_x (bl_eq (bl_n (th_n (rg (q0 (vi kind1) (q0 (vi (IntKind.i64.wrap (kind1 + 1))) (q0 (vi (IntKind.i64.wrap (kind1 + 1))) (wpL_nil (th_n ?_)))))))))))
   exact ⟨((IntKind.i64.wrap (kind1 + 1)), aI, aJ, aR, aK, aS, Hl2, wl2), ⟨rfl, Has.mk (by kernel_rfl), hs, hb, h.1⟩, h.2⟩
 ·replace h := h.2 hc1
  refine wpE_exit (th_x (th_x (bl_eq (th_n (wpE_seq (rg (q0 (.agg #[(vi 0), (vi 0), (vu 0), (vs ⟨#[]⟩), (vb false)]) (st_set (want0 rfl) (x_storeA (a := p2) (vs := [(vi 0), (vi 0), (vu 0), (vs ⟨#[]⟩), (vb false)]) (by kernel_rfl) (by kernel_rfl) rfl (Try.sizeOf132 _) rfl (hb.canWs0 0 5 gZ (by kernel_rfl))) ?_))))))))
  intro w42 hn22
  have hsb : Hst w0 Hl1 wl1 Hl1 w42 ∧ HB Hl1 w42 [(p2, [(vi 0), (vi 0), (vu 0), (vs ⟨#[]⟩), (vb false)], 132), (p1, [(vi aD), (vi aC), (vi aE), (vu aF), (vs aG), aH.v], 116)] := by
   rw [hn22]
   exact hb.store0 (i := 0) (vs := [(vi 0), (vi 0), (vu 0), (vs ⟨#[]⟩), (vb false)]) hs gZ (by kernel_rfl) (by kernel_rfl)
  clear hs hb hn22
  obtain ⟨hs, hb⟩ := hsb
  refine q0 (vb false) (wpL_nil (th_n (wpE_ret ?_)))
  replace h := h w42 hs
  replace hs := hs.here
  refine resG (.inl rfl) (vs := [(.agg #[(vi 0), (vi 0), (vu 0), (vs ⟨#[]⟩), (vb false)]), (vb false)]) (v := (.tuple #[(.agg #[(vi 0), (vi 0), (vu 0), (vs ⟨#[]⟩), (vb false)]), (vb false)])) Try.results129 ⟨(RV.cellA (by kernel_rfl) (Try.isAgg132 _) (Try.sizeOf132 _) rfl (hb.row0 0 5 gZ (by kernel_rfl))), (rvT (by kernel_rfl)), trivial⟩ (by kernel_rfl) ?_
  exact ⟨0, 0, 0, ⟨#[]⟩, false, false, rfl, h⟩
def m_ref11_Read (p1 : Option Addr) (t1 : Int) (w0 : World) (K : Int → Int → Int → ByteArray → Bool → Bool → World → Prop) : Prop :=
 ∀ (H1 : Nat → Prop) (w1 : World), Hst w0 None w0 H1 w1 →
 Calls Try.prog 94 #[(vp p1), (vi t1)] w1 (fun e w2 => ∃ r1 : Bool, e = .returned (vb r1) ∧ 
  Kept H1 w1 w2 ∧
  Br (!r1)
   (∀ (w3 : World), Hst w0 H1 w2 H1 w3 →
   K 0 0 0 ⟨#[]⟩ false false w3)
   (Calls Try.prog 128 #[(vp p1), (vi t1)] w2 (fun e w4 => ∃ r2 : Int, e = .returned (vi r2) ∧ 
    Kept H1 w2 w4 ∧
    Br (decide (r2 > 40))
     (∀ (w5 : World), Hst w0 H1 w4 H1 w5 →
     K 0 0 0 ⟨#[]⟩ false false w5)
     (Calls Try.prog 63 #[(vp p1), (vi t1)] w4 (fun e w6 => ∃ bT bU : Int, ∃ bV bW : Int, ∃ bX : ByteArray, ∃ bY : Sl, e = .returned (.agg #[(vi bT), (vi bU), (vi bV), (vu bW), (vs bX), bY.v]) ∧ 
      Kept H1 w4 w6 ∧
      Calls Try.prog 129 #[(.agg #[(vi bT), (vi bU), (vi bV), (vu bW), (vs bX), bY.v])] w6 (fun e w7 => ∃ bO bP bR : Int, ∃ bQ : ByteArray, ∃ bS r3 : Bool, e = .returned (.tuple #[(.agg #[(vi bO), (vi bP), (vu bR), (vs bQ), (vb bS)]), (vb r3)]) ∧ 
       Kept H1 w6 w7 ∧
       ∀ (w8 : World), Hst w0 H1 w7 H1 w8 →
       K bO bP bR bQ bS r3 w8))))))
theorem w_ref11_Read (p1 : Option Addr) (t1 : Int) (w0 : World) (K : Int → Int → Int → ByteArray → Bool → Bool → World → Prop) (h : m_ref11_Read p1 t1 w0 K) :
  Calls Try.prog 78 #[(vp p1), (vi t1)] w0 (fun e w' => ∃ cG cH dY : Int, ∃ cI : ByteArray, ∃ dZ r4 : Bool, e = .returned (.tuple #[(.agg #[(vi cG), (vi cH), (vu dY), (vs cI), (vb dZ)]), (vb r4)]) ∧ K cG cH dY cI dZ r4 w') := by
 unfold m_ref11_Read at h
 refine calls_of_wpE (args := [(vp p1), (vi t1)]) Try.func78 rfl Try.ntmps78 (Nat.le_of_ble_eq_true rfl) ?_
 have hs := Hst.start w0
 have hb := HB.nil None w0
 refine wpE_seq (rg (sn (O := (.cells #[(vi 0), (vi 0), (vu 0), (vs ⟨#[]⟩), (vb false)] 132)) (x_alloc (Try.zeroValue132 _) rfl) ?_))
 intro p2 w1 hn1
 obtain ⟨H1, hs, hb⟩ := hs.alloc hb hn1
 refine q0 (vb false) (wpL_nil (th_n (wpE_seq (wpE_seq (rg (q0 (vp p1) (q0 (vi t1) ?_)))))))
 replace h := h H1 w1 hs
 replace hs := hs.here
 refine st_call (want0 rfl) (xc Try.call94) (h.mono ?_)
 rintro e w2 ⟨r1, rfl, hk, h⟩
 refine ⟨_, rfl, ?_⟩
 obtain ⟨hs, hb⟩ := hk.hh hs hb
 refine q0 (vb (!r1)) (q0 (vb (!r1)) ?_)
 rcases Bool.eq_false_or_eq_true (!r1) with hg1 | hg1
 ·replace h := h.1 hg1
  refine sk (yD 10 hg1) (sk (yD 10 hg1) (sk (yD 10 hg1) (sk (yD 10 hg1) (q2 (vb true) (xT hg1) (wpL_nil (th_n (wpE_condT (by kernel_rfl) (wpE_seq (rg (q0 (.agg #[(vi 0), (vi 0), (vu 0), (vs ⟨#[]⟩), (vb false)]) (st_set (want0 rfl) (x_storeA (a := p2) (vs := [(vi 0), (vi 0), (vu 0), (vs ⟨#[]⟩), (vb false)]) (by kernel_rfl) (by kernel_rfl) rfl (Try.sizeOf132 _) rfl (hb.canWs0 0 5 gZ (by kernel_rfl))) ?_)))))))))))
  intro w3 hn2
  have hsb : Hst w0 H1 w2 H1 w3 ∧ HB H1 w3 [(p2, [(vi 0), (vi 0), (vu 0), (vs ⟨#[]⟩), (vb false)], 132)] := by
   rw [hn2]
   exact hb.store0 (i := 0) (vs := [(vi 0), (vi 0), (vu 0), (vs ⟨#[]⟩), (vb false)]) hs gZ (by kernel_rfl) (by kernel_rfl)
  clear hs hb hn2
  obtain ⟨hs, hb⟩ := hsb
  refine q0 (vb false) (wpL_nil (th_n (wpE_ret (th_r ?_))))
  replace h := h w3 hs
  replace hs := hs.here
  refine resG (.inl rfl) (vs := [(.agg #[(vi 0), (vi 0), (vu 0), (vs ⟨#[]⟩), (vb false)]), (vb false)]) (v := (.tuple #[(.agg #[(vi 0), (vi 0), (vu 0), (vs ⟨#[]⟩), (vb false)]), (vb false)])) Try.results78 ⟨(RV.cellA (by kernel_rfl) (Try.isAgg132 _) (Try.sizeOf132 _) rfl (hb.row0 0 5 gZ (by kernel_rfl))), (rvT (by kernel_rfl)), trivial⟩ (by kernel_rfl) ?_
  exact ⟨0, 0, 0, ⟨#[]⟩, false, false, rfl, h⟩
 ·replace h := h.2 hg1
  refine q1 (vp p1) (want1 rfl (yD 10 hg1)) (q1 (vi t1) (want1 rfl (yD 10 hg1)) ?_)
  refine st_call (want1 rfl (yD 10 hg1)) (xc Try.call128) (h.mono ?_)
  rintro e w4 ⟨r2, rfl, hk, h⟩
  refine ⟨_, rfl, ?_⟩
  obtain ⟨hs, hb⟩ := hk.hh hs hb
  refine q1 (vb (decide (r2 > 40))) (want1 rfl (yD 10 hg1)) (q2 (vb (decide (r2 > 40))) (xF hg1) (wpL_nil (th_n ?_)))
  refine wpE_cond (t := (decide (r2 > 40))) (by kernel_rfl) (fun hc1 => ?_) (fun hc1 => ?_)
  ·replace h := h.1 hc1
   refine wpE_seq (rg (q0 (.agg #[(vi 0), (vi 0), (vu 0), (vs ⟨#[]⟩), (vb false)]) (st_set (want0 rfl) (x_storeA (a := p2) (vs := [(vi 0), (vi 0), (vu 0), (vs ⟨#[]⟩), (vb false)]) (by kernel_rfl) (by kernel_rfl) rfl (Try.sizeOf132 _) rfl (hb.canWs0 0 5 gZ (by kernel_rfl))) ?_)))
   intro w5 hn3
   have hsb : Hst w0 H1 w4 H1 w5 ∧ HB H1 w5 [(p2, [(vi 0), (vi 0), (vu 0), (vs ⟨#[]⟩), (vb false)], 132)] := by
    rw [hn3]
    exact hb.store0 (i := 0) (vs := [(vi 0), (vi 0), (vu 0), (vs ⟨#[]⟩), (vb false)]) hs gZ (by kernel_rfl) (by kernel_rfl)
   clear hs hb hn3
   obtain ⟨hs, hb⟩ := hsb
   refine q0 (vb false) (wpL_nil (th_n (wpE_ret (th_r ?_))))
   replace h := h w5 hs
   replace hs := hs.here
   refine resG (.inl rfl) (vs := [(.agg #[(vi 0), (vi 0), (vu 0), (vs ⟨#[]⟩), (vb false)]), (vb false)]) (v := (.tuple #[(.agg #[(vi 0), (vi 0), (vu 0), (vs ⟨#[]⟩), (vb false)]), (vb false)])) Try.results78 ⟨(RV.cellA (by kernel_rfl) (Try.isAgg132 _) (Try.sizeOf132 _) rfl (hb.row0 0 5 gZ (by kernel_rfl))), (rvT (by kernel_rfl)), trivial⟩ (by kernel_rfl) ?_
   exact ⟨0, 0, 0, ⟨#[]⟩, false, false, rfl, h⟩
  ·replace h := h.2 hc1
   refine wpE_skip (th_n (wpE_seq (rg (q0 (vp p1) (q0 (vi t1) ?_)))))
   refine st_call (want0 rfl) (xc Try.call63) (h.mono ?_)
   rintro e w6 ⟨bT, bU, bV, bW, bX, bY, rfl, hk, h⟩
   refine ⟨_, rfl, ?_⟩
   obtain ⟨hs, hb⟩ := hk.hh hs hb
   refine st_call (want0 rfl) (xc Try.call129) (h.mono ?_)
   rintro e w7 ⟨bO, bP, bR, bQ, bS, r3, rfl, hk, h⟩
   refine ⟨_, rfl, ?_⟩
   obtain ⟨hs, hb⟩ := hk.hh hs hb
   refine q0 (.agg #[(vi bO), (vi bP), (vu bR), (vs bQ), (vb bS)]) (q0 (vb r3) (st_set (want0 rfl) (x_storeA (a := p2) (vs := [(vi bO), (vi bP), (vu bR), (vs bQ), (vb bS)]) (by kernel_rfl) (by kernel_rfl) rfl (Try.sizeOf132 _) rfl (hb.canWs0 0 5 gZ (by kernel_rfl))) ?_))
   intro w8 hn4
   have hsb : Hst w0 H1 w7 H1 w8 ∧ HB H1 w8 [(p2, [(vi bO), (vi bP), (vu bR), (vs bQ), (vb bS)], 132)] := by
    rw [hn4]
    exact hb.store0 (i := 0) (vs := [(vi bO), (vi bP), (vu bR), (vs bQ), (vb bS)]) hs gZ (by kernel_rfl) (by kernel_rfl)
   clear hs hb hn4
   obtain ⟨hs, hb⟩ := hsb
   refine q0 (vb r3) (wpL_nil (th_n (wpE_ret ?_)))
   replace h := h w8 hs
   replace hs := hs.here
   refine resG (.inl rfl) (vs := [(.agg #[(vi bO), (vi bP), (vu bR), (vs bQ), (vb bS)]), (vb r3)]) (v := (.tuple #[(.agg #[(vi bO), (vi bP), (vu bR), (vs bQ), (vb bS)]), (vb r3)])) Try.results78 ⟨(RV.cellA (by kernel_rfl) (Try.isAgg132 _) (Try.sizeOf132 _) rfl (hb.row0 0 5 gZ (by kernel_rfl))), (rvT (by kernel_rfl)), trivial⟩ (by kernel_rfl) ?_
   exact ⟨bO, bP, bR, bQ, bS, r3, rfl, h⟩
end Go.Proofs
end
section
open Go Go.SE
namespace Go.Proofs
attribute [local irreducible] Calls
theorem ref11_Check (l : Sp.Letter) : s_ref11_Check l.kind l.frm l.c l.text l.fake = Sp.letErr l := by
 obtain ⟨k, f, c, x, g⟩ := l
 unfold s_ref11_Check Sp.letErr
 have e1 : s_ref11_signed k = Sp.isSigned k := rfl
 rw [e1]
 have e2 : (Sp.isSigned k || k == 6) = Sp.isTexted k := rfl
 rw [e2]
 have e3 : decide (((x.size : Int)) > 64) = decide (x.size > 64) := decide_eq_decide.2 (by omega)
 rw [e3]
 generalize Sp.isSigned k = a; generalize Sp.isTexted k = b
 have hc : ((((((decide (k < 1)) || (decide (k > 7))) || (((f : Int) != 0) && ((f : Int) != 1))) || ((!a) && ((f : Int) != 0))) || ((!b) && (!(decide (x = (⟨#[]⟩ : ByteArray)))))) || ((g && ((k : Int) != 1)) && ((k : Int) != 4))) = decide (k < 1 ∨ k > 7 ∨ (f ≠ 0 ∧ f ≠ 1) ∨ (a = false ∧ f ≠ 0) ∨ (b = false ∧ x ≠ ⟨#[]⟩) ∨ (g = true ∧ k ≠ 1 ∧ k ≠ 4)) := by
  rw [Bool.eq_iff_iff]
  simp only [Bool.or_eq_true, Bool.and_eq_true, decide_eq_true_eq, bne_iff_ne, Bool.not_eq_true', decide_eq_false_iff_not]
  simp only [or_assoc, and_assoc]
 rw [hc]
 by_cases h : (k < 1 ∨ k > 7 ∨ (f ≠ 0 ∧ f ≠ 1) ∨ (a = false ∧ f ≠ 0) ∨ (b = false ∧ x ≠ ⟨#[]⟩) ∨ (g = true ∧ k ≠ 1 ∧ k ≠ 4))
 ·rw [decide_eq_true h, if_pos h]; rfl
 ·rw [decide_eq_false h, if_neg h]
  by_cases h2 : x.size > 64
  ·rw [decide_eq_true h2, if_pos h2]; rfl
  ·rw [decide_eq_false h2, if_neg h2]; rfl
def path (p : List Nat) : List (List Value) := p.map fun i : Nat => [Value.int .i64 (i : Int)]
theorem c_ref11_kid {S S2 : Nat → Prop} (x : Sp.Tree) (s sp : Sl) (p : List Nat) (w0 : World) (hT : TreeAt S w0 s x) (hSw : ∀ b, S b → b < w0.heap.size) (hp : Lst S2 w0 1 sp (path p)) (hS2 : ∀ b, S2 b → b < w0.heap.size) (hpl : p.length ≤ 100) :
  Calls Try.prog 161 #[.agg (trow x s).toArray, sp.v] w0 (fun e w' => ∃ s', e = .returned (.agg (trow (Sp.kidT x p) s').toArray) ∧ TreeAt S w0 s' (Sp.kidT x p) ∧ Pure w0 w') := by
 obtain ⟨k, f, t, u, tx, ks⟩ := x
 suffices key : ∀ K : Int → Int → Int → Int → ByteArray → Sl → World → Prop, (∀ k' f' t' u' x' s' w' ks', Sp.kidT (.mk k f t u tx ks) p = .mk k' f' t' u' x' ks' → TreeAt S w0 s' (.mk k' f' t' u' x' ks') → Pure w0 w' → K k' f' t' u' x' s' w') → m_ref11_kid k f t u tx s sp w0 K by
  refine (w_ref11_kid _ _ _ _ _ _ _ w0 (fun k' f' t' u' x' s' w' => ∃ ks', Sp.kidT (.mk k f t u tx ks) p = .mk k' f' t' u' x' ks' ∧ TreeAt S w0 s' (.mk k' f' t' u' x' ks') ∧ Pure w0 w') (key _ (fun k' f' t' u' x' s' w' ks' h1 h2 h3 => ⟨ks', h1, h2, h3⟩))).mono ?_
  rintro _ w' ⟨k', f', t', u', x', s', rfl, ks', h1, h2, h3⟩
  rw [h1]
  exact ⟨s', rfl, h2, h3⟩
 intro K hK
 have hlen : sp.len = p.length := by rw [hp.len]; simp [path]
 unfold m_ref11_kid
 intro H2 w2 hs2
 refine ⟨fun i _ _ _ _ _ _ k' f' t' u' x' s' H w' => ∃ j : Nat, i = j ∧ j ≤ p.length ∧ Pure w0 w' ∧ ∃ ks', TreeAt S w0 s' (.mk k' f' t' u' x' ks') ∧ Sp.kidT (.mk k f t u tx ks) p = Sp.kidT (.mk k' f' t' u' x' ks') (p.drop j), fun i _ _ _ _ _ _ _ _ _ _ _ _ _ => ((p.length : Int) - i).toNat,
  ⟨0, rfl, Nat.zero_le _, hs2.first, ks, hT, rfl⟩, ?_⟩
 rintro _ _ _ _ _ _ _ k' f' t' u' x' s' Hl wl hl ⟨j, rfl, hj, El, ks', hT', heq⟩
 unfold m_ref11_kid_l1
 refine ⟨fun hc => ?_, fun hc => ?_⟩
 ·have hlt := lt_of_dec hlen hc
  rw [List.drop_eq_getElem_cons hlt, Sp.kidT] at heq
  have hpp : ∀ w', Pure w0 w' → ∃ a, At sp j 1 a ∧ S2 a.block ∧ w'.cell? a = some (.int .i64 (p[j] : Int)) := by
   intro w' E
   obtain ⟨a, h1, h2, h3⟩ := (hp.pure E).nth (f := fun i : Nat => [Value.int .i64 (i : Int)]) (xs := p) hlt
   exact ⟨a, h1, h2, row_cell h3⟩
  obtain ⟨a, hat, _, _⟩ := hpp wl El
  refine ⟨a, hat, ?_⟩
  intro w3 hs3
  have E3 := El.hst hs3
  have hs3' := hs3.here
  obtain ⟨a1, hat1, hS1, hc1⟩ := hpp w3 E3
  have haa : a1 = a := by
   obtain ⟨_, _, x, hx, rfl⟩ := hat
   obtain ⟨_, _, y, hy, rfl⟩ := hat1
   rw [hx] at hy; cases hy; rfl
  subst haa
  have hl' : s'.len = ks'.length := by cases hT'; assumption
  refine ⟨_, hc1, fun h => ?_, fun h => ?_⟩
  ·have : ks'[p[j]]? = none := by
    have h := of_decide_eq_true h
    exact List.getElem?_eq_none (by omega)
   rw [show (Sp.Tree.mk k' f' t' u' x' ks').kids = ks' from rfl, this] at heq
   intro w4 hs4
   exact hK _ _ _ _ _ _ _ _ heq TreeAt.leaf (E3.hst hs4)
  ·have hlt2 : p[j] < ks'.length := by have h := of_decide_eq_false h; omega
   rw [show (Sp.Tree.mk k' f' t' u' x' ks').kids = ks' from rfl, List.getElem?_eq_getElem hlt2] at heq
   have hd : ∀ b, S b → ¬ Hl b := fun b hb hh => by have := hl.old b hh; have := hSw b hb; omega
   have hd2 : ∀ b, S2 b → ¬ Hl b := fun b hb hh => by have := hl.old b hh; have := hS2 b hb; omega
   cases hT' with
   | mk _ _ _ _ _ _ _ rs len fit row kid =>
   obtain ⟨a3, hat3, hS3, hr3⟩ := row _ hlt2
   refine ⟨a1, hat1, _, hc1, hd2 _ hS1, a3, hat3, _, _, _, _, _, rs p[j], E3.row hr3 id, hd _ hS3, ?_⟩
   intro H3 w7 hs7
   rw [wrap_succ hlt (by omega)]
   refine ⟨⟨j + 1, rfl, hlt, E3.hst hs7, ks'[p[j]].kids, ?_, ?_⟩, lt_dec hlt⟩
   ·have := kid _ hlt2
    generalize ks'[p[j]] = y at *
    obtain ⟨_, _, _, _, _, _⟩ := y
    exact this
   ·rw [heq]
    generalize ks'[p[j]] = y
    obtain ⟨_, _, _, _, _, _⟩ := y
    rfl
 ·have hge := eq_of_dec hlen hj hc
  subst hge
  rw [List.drop_length] at heq
  intro w9 hs9
  exact hK _ _ _ _ _ _ _ _ heq hT' (El.hst hs9)
end Go.Proofs
end
section
open Go Go.SE
namespace Go.Proofs
attribute [local irreducible] Calls
theorem run_rem2 : ∀ j : Nat, j < 4 → ∀ w, (Go.binOp .rem 3 (.int .i64 (j : Int)) (.int .i64 2)).run Try.prog w = .ok (.int .i64 ((j % 2 : Nat) : Int)) w
 | 0, _, w => by kernel_rfl
 | 1, _, w => by kernel_rfl
 | 2, _, w => by kernel_rfl
 | 3, _, w => by kernel_rfl
 | n + 4, h, _ => by omega
theorem run_quo2 : ∀ j : Nat, j < 4 → ∀ w, (Go.binOp .quo 3 (.int .i64 (j : Int)) (.int .i64 2)).run Try.prog w = .ok (.int .i64 ((j / 2 : Nat) : Int)) w
 | 0, _, w => by kernel_rfl
 | 1, _, w => by kernel_rfl
 | 2, _, w => by kernel_rfl
 | 3, _, w => by kernel_rfl
 | n + 4, h, _ => by omega
theorem Lst.of_path {w : World} {p : Addr} {T : TypeId} (ts : List Nat) (h : Box w p (ts.map fun t : Nat => Value.int .i64 (t : Int)) T) : Lst (· = p.block) w 1 ⟨some p, ts.length, ts.length⟩ (path ts) := by
 refine ⟨by simp [path], fun i hi => ?_⟩
 have hi' : i < ts.length := by simpa [path] using hi
 refine ⟨p.add (i * 1), ⟨by omega, by simpa using hi', p, rfl, by simp⟩, by rw [add_block], fun j hj => ?_⟩
 have hj0 : j = 0 := by simpa [path] using hj
 subst hj0
 have := h.cell (i := i) (v := .int .i64 (ts[i] : Int)) (by simp [hi'])
 rw [add_add, Nat.mul_one, Nat.add_zero, this]
 simp [path]
theorem TreeAt.back {S : Nat → Prop} {w w' : World} {s : Sl} {t : Sp.Tree} (h : TreeAt S w' s t) (hE : Pure w w') (hd : ∀ b, S b → b < w.heap.size) : TreeAt S w s t := by
 induction h with
 | mk k f t u x ks s rs len fit row kid ih =>
  refine .mk k f t u x ks s rs len fit (fun i h => let ⟨a, h1, h2, h3⟩ := row i h; ⟨a, h1, h2, fun j hj => ?_⟩) ih
  rw [← h3 j hj]
  unfold World.cell?
  rw [add_block, hE.keep _ (hd _ h2) (fun h => h)]
theorem c_ref11_ReadTree {S : Nat → Prop} (x : Sp.Tree) (s : Sl) (w0 : World) (hT : TreeAt S w0 s x) (hSw : ∀ b, S b → b < w0.heap.size) :
  Calls Try.prog 129 #[.agg (trow x s).toArray] w0 (fun e w' => ∃ k f c : Int, ∃ t : ByteArray, ∃ g r : Bool, e = .returned (.tuple #[.agg #[.int .i64 k, .int .i64 f, .int .u64 c, .string t, .bool g], .bool r]) ∧ (((⟨k, f, c, t, g⟩ : Sp.Letter), r) = Sp.readTree x ∧ Pure w0 w')) := by
 obtain ⟨xk, xf, xt, xu, xx, ks⟩ := x
 generalize hx : Sp.Tree.mk xk xf xt xu xx ks = x at *
 have hxr : trow x s = [.int .i64 xk, .int .i64 xf, .int .i64 xt, .int .u64 xu, .string xx, s.v] := by rw [← hx]; rfl
 have hxn : x.node.frm = xf := by rw [← hx]; rfl
 rw [hxr]
 suffices key : ∀ K : Int → Int → Int → ByteArray → Bool → Bool → World → Prop, (∀ k f c t g r w', (((⟨k, f, c, t, g⟩ : Sp.Letter), r) = Sp.readTree x ∧ Pure w0 w') → K k f c t g r w') → m_ref11_ReadTree xk xf xt xu xx s w0 K from
  w_ref11_ReadTree _ _ _ _ _ _ w0 _ (key _ (fun _ _ _ _ _ _ _ h => h))
 intro K hK
 have hxv : (Value.agg #[.int .i64 xk, .int .i64 xf, .int .i64 xt, .int .u64 xu, .string xx, s.v]) = .agg (trow x s).toArray := by rw [hxr]
 have tS : ∀ {w}, Pure w0 w → TreeAt S w s x ∧ ∀ b, S b → b < w.heap.size := fun E => ⟨hT.pure E, fun b hb => by have := hSw b hb; have := E.size; omega⟩
 unfold m_ref11_ReadTree
 intro H2 w2 hs2 p3 w3 h3 p4 w4 h4 p5 w5 h5 p6 w6 h6
 have E2 := hs2.first
 have b3 := (((Box.of_new h3).pure (Ext.new h4)).pure (Ext.new h5)).pure (Ext.new h6)
 have b4 := ((Box.of_new h4).pure (Ext.new h5)).pure (Ext.new h6)
 have b5 := (Box.of_new h5).pure (Ext.new h6)
 have b6 := Box.of_new h6
 have E6 : Pure w2 w6 := (((Ext.new h3 : Pure w2 w3).trans (Ext.new h4)).trans (Ext.new h5)).trans (Ext.new h6)
 have hs6 := hs2.again E6.keptP
 have v3 : w2.heap.size ≤ p3.block := by have := h3.at_size; omega
 have v4 : w2.heap.size ≤ p4.block := by have := h4.at_size; have := (Ext.new (F := None) h3).size; omega
 have v5 : w2.heap.size ≤ p5.block := by have := h5.at_size; have := (Ext.new (F := None) h3).size; have := (Ext.new (F := None) h4).size; omega
 have v6 : w2.heap.size ≤ p6.block := by have := h6.at_size; have := (Ext.new (F := None) h3).size; have := (Ext.new (F := None) h4).size; have := (Ext.new (F := None) h5).size; omega
 let B : World → Prop := fun w => Box w p3 [.int .i64 0] 3 ∧ Box w p4 [.int .i64 0, .int .i64 1, .int .i64 0, .int .i64 0] 3 ∧ Box w p5 [.int .i64 0, .int .i64 1] 3 ∧ Box w p6 [(Sl.mk (some p3) 1 1).v, (Sl.mk (some p4) 4 4).v, (Sl.mk (some p5) 2 2).v] 73
 let V : (Nat → Prop) → Prop := fun H => ¬ H p3.block ∧ ¬ H p4.block ∧ ¬ H p5.block ∧ ¬ H p6.block
 have B6 : B w6 := ⟨b3, b4, b5, b6⟩
 have V6 : V H2 := ⟨fun h => by have := hs2.lt _ h; omega, fun h => by have := hs2.lt _ h; omega, fun h => by have := hs2.lt _ h; omega, fun h => by have := hs2.lt _ h; omega⟩
 have Bp : ∀ {w w'}, B w → Pure w w' → B w' := fun h E => ⟨h.1.pure E, h.2.1.pure E, h.2.2.1.pure E, h.2.2.2.pure E⟩
 have BV : ∀ {H w H' w'}, B w ∧ V H → Hst w0 H w H' w' → B w' ∧ V H' := by
  rintro H w H' w' ⟨⟨q3, q4, q5, q6⟩, ⟨n3, n4, n5, n6⟩⟩ hs
  have d : ∀ (p : Addr), p.block < w.heap.size → ¬ H p.block → ¬ H' p.block := fun p h1 h2 => hs.disj (G := (· = p.block)) (fun b e => by subst e; exact ⟨h1, h2⟩) _ rfl
  have m3 := d p3 q3.lt n3; have m4 := d p4 q4.lt n4; have m5 := d p5 q5.lt n5; have m6 := d p6 q6.lt n6
  exact ⟨⟨q3.ext hs.ext m3, q4.ext hs.ext m4, q5.ext hs.ext m5, q6.ext hs.ext m6⟩, ⟨m3, m4, m5, m6⟩⟩
 refine ⟨fun kd _ _ _ _ _ H w' => ∃ q : Nat, kd = (q : Int) + 1 ∧ q ≤ 7 ∧ Pure w0 w' ∧ (B w' ∧ V H) ∧ Sp.tryKinds x 7 1 = Sp.tryKinds x (7 - q) ((q : Int) + 1), fun kd _ _ _ _ _ _ => (8 - kd).toNat, ⟨0, rfl, by omega, E2.trans E6, ⟨B6, V6⟩, rfl⟩, ?_⟩
 rintro _ d1 d2 d3 d4 d5 Hl wl hl ⟨q, rfl, hq, El, BVl, heq⟩
 unfold m_ref11_ReadTree_l1
 refine ⟨fun hc => ?_, fun hc => ?_⟩
 ·have hq7 : q < 7 := by have := of_decide_eq_true hc; omega
  obtain ⟨n, hn⟩ : ∃ n, 7 - q = n + 1 := ⟨7 - q - 1, by omega⟩
  have hstep : Sp.tryKinds x (n + 1) ((q : Int) + 1) = (match Sp.tryDeals x ((q : Int) + 1) Sp.deals with | some l => some l | none => Sp.tryKinds x n ((q : Int) + 1 + 1)) := rfl
  rw [hn, hstep] at heq
  clear hstep
  generalize hkd : ((q : Int) + 1) = kd at *
  refine ⟨fun i _ _ _ _ _ H w' => ∃ j : Nat, i = j ∧ j ≤ 3 ∧ Pure w0 w' ∧ (B w' ∧ V H) ∧ Sp.tryDeals x kd Sp.deals = Sp.tryDeals x kd (Sp.deals.drop j), fun i _ _ _ _ _ _ => (3 - i).toNat, ⟨0, rfl, by omega, El, BVl, rfl⟩, ?_⟩
  rintro _ d1 d2 d3 d4 d5 Hm wm hm ⟨j, rfl, hj, Em, BVm, heqd⟩
  unfold m_ref11_ReadTree_l2
  refine ⟨fun hc2 => ?_, fun hc2 => ?_⟩
  ·have hj3 : j < 3 := by have := of_decide_eq_true hc2; simp only at this; omega
   have hjd : j < Sp.deals.length := hj3
   have hstep : Sp.tryDeals x kd (Sp.deals[j] :: Sp.deals.drop (j + 1)) = (match Sp.tryFakes x (Sp.cand x kd Sp.deals[j]) 4 0 with | some l => some l | none => Sp.tryDeals x kd (Sp.deals.drop (j + 1))) := rfl
   rw [List.drop_eq_getElem_cons hjd, hstep] at heqd
   clear hstep
   generalize hpp : Sp.deals[j] = pp at *
   have hpath : ∃ a : Addr, ∃ sl : Sl, At (Sl.mk (some p6) 3 3) (j : Int) 1 a ∧ (∀ w, B w → w.cell? a = some sl.v ∧ ∃ S2 : Nat → Prop, Lst S2 w 1 sl (path pp) ∧ ∀ b, S2 b → b < w.heap.size) := by
    have hj' : j = 0 ∨ j = 1 ∨ j = 2 := by omega
    rcases hj' with rfl | rfl | rfl
    ·have : pp = [0] := hpp.symm
     subst this
     refine ⟨p6, ⟨some p3, 1, 1⟩, ⟨by omega, by simp, p6, rfl, by simp [Addr.add]⟩, fun w h => ⟨h.2.2.2.cell0, _, Lst.of_path [0] h.1, fun b e => by subst e; exact h.1.lt⟩⟩
    ·have : pp = [0, 1, 0, 0] := hpp.symm
     subst this
     refine ⟨p6.add 1, ⟨some p4, 4, 4⟩, ⟨by omega, by simp, p6, rfl, rfl⟩, fun w h => ⟨h.2.2.2.cell rfl, _, Lst.of_path [0, 1, 0, 0] h.2.1, fun b e => by subst e; exact h.2.1.lt⟩⟩
    ·have : pp = [0, 1] := hpp.symm
     subst this
     refine ⟨p6.add 2, ⟨some p5, 2, 2⟩, ⟨by omega, by simp, p6, rfl, rfl⟩, fun w h => ⟨h.2.2.2.cell rfl, _, Lst.of_path [0, 1] h.2.2.1, fun b e => by subst e; exact h.2.2.1.lt⟩⟩
   obtain ⟨a, sl, hat, hcell⟩ := hpath
   have hppl : pp.length ≤ 100 := by
    have hj' : j = 0 ∨ j = 1 ∨ j = 2 := by omega
    rcases hj' with rfl | rfl | rfl <;> (rw [← hpp]; simp [Sp.deals])
   have J3 : ∀ (a1 : Addr) (w : World) (sd : Sl) (Td : TypeId), Hst w0 Hm w Hm w → Pure w0 w → (B w ∧ V Hm) → Box w a1 (trow (Sp.kidT x pp) sd) Td → ¬ Hm a1.block → TreeAt S w0 sd (Sp.kidT x pp) →
     m_ref11_ReadTree_j3 xk xf xt xu xx s kd j d1 d2 d3 d4 d5 a1 w0 Hm w (fun y'0 y'1 y'2 y'3 y'4 y'5 H' w' => (∃ j : Nat, y'0 = j ∧ j ≤ 3 ∧ Pure w0 w' ∧ (B w' ∧ V H') ∧ Sp.tryDeals x kd Sp.deals = Sp.tryDeals x kd (Sp.deals.drop j)) ∧ (3 - y'0).toNat < (3 - (j : Int)).toNat) K := by
    intro a1 w sd Td hs E hBV hB1 hv1 hTd
    unfold m_ref11_ReadTree_j3
    have J4 : ∀ (c : Int) (t : ByteArray) (H : Nat → Prop) (w : World), Hst w0 H w H w → Pure w0 w → (B w ∧ V H) → (⟨kd, cond (s_ref11_signed kd) xf 0, c, t, false⟩ : Sp.Letter) = Sp.cand x kd pp →
      m_ref11_ReadTree_j4 xk xf xt xu xx s kd j d1 d2 d3 d4 d5 kd (cond (s_ref11_signed kd) xf 0) c t false w0 H w (fun y'0 y'1 y'2 y'3 y'4 y'5 H' w' => (∃ j : Nat, y'0 = j ∧ j ≤ 3 ∧ Pure w0 w' ∧ (B w' ∧ V H') ∧ Sp.tryDeals x kd Sp.deals = Sp.tryDeals x kd (Sp.deals.drop j)) ∧ (3 - y'0).toNat < (3 - (j : Int)).toNat) K := by
     intro c t H w hs E hBV hcand
     generalize hlf : cond (s_ref11_signed kd) xf 0 = lf at *
     rw [← hcand] at heqd
     unfold m_ref11_ReadTree_j4
     refine ⟨fun fk lk lf' lc lt lg _ _ _ _ _ H w' => (kd = lk ∧ lf = lf' ∧ c = lc ∧ t = lt) ∧ ∃ f : Nat, fk = f ∧ f ≤ 4 ∧ Pure w0 w' ∧ (B w' ∧ V H) ∧ Sp.tryFakes x ⟨kd, lf, c, t, false⟩ 4 0 = Sp.tryFakes x ⟨kd, lf, c, t, false⟩ (4 - f) f, fun fk _ _ _ _ _ _ _ _ _ _ _ => (4 - fk).toNat, ⟨⟨rfl, rfl, rfl, rfl⟩, 0, rfl, by omega, E, hBV, rfl⟩, ?_⟩
     rintro _ _ _ _ _ lg e1 e2 e3 e4 e5 Hf wf hsf ⟨⟨rfl, rfl, rfl, rfl⟩, f, rfl, hf4, Ef, BVf, heqf⟩
     unfold m_ref11_ReadTree_l5
     refine ⟨fun hc3 => ?_, fun hc3 => ?_⟩
     ·have hf : f < 4 := by have := of_decide_eq_true hc3; omega
      obtain ⟨m, hm'⟩ : ∃ m, 4 - f = m + 1 := ⟨4 - f - 1, by omega⟩
      have hstep : Sp.tryFakes x ⟨kd, lf, c, t, false⟩ (m + 1) f = (if Sp.fits x ⟨kd, lf, c, t, false⟩ f then some (Sp.withFake ⟨kd, lf, c, t, false⟩ f) else Sp.tryFakes x ⟨kd, lf, c, t, false⟩ m (f + 1)) := rfl
      rw [hm', hstep] at heqf
      clear hstep
      intro w14 hs14
      have E14 := Ef.hst hs14
      have BV14 := BV BVf hs14
      have hd14 : Pure w14 w14.drew := Ext.drew w14
      refine ⟨fun w' => Pure w14 w', hd14, ?_⟩
      rintro _ rfl
      have hfd : decide ((f : Int) > 0) = decide (f > 0) := decide_eq_decide.2 (by omega)
      rw [hfd]
      refine (p_ref11_Check kd lf c t (decide (f > 0)) w14.drew).mono ?_
      rintro _ w16 ⟨rfl, E16⟩
      rw [ref11_Check ⟨kd, lf, c, t, decide (f > 0)⟩]
      have Ed := hd14.trans E16
      refine ⟨_, rfl, Ed, E16.keptP, ?_⟩
      have hwf : Sp.withFake ⟨kd, lf, c, t, false⟩ f = ⟨kd, lf, c, t, decide (f > 0)⟩ := rfl
      have next : ∀ w', Pure w14 w' → Sp.fits x ⟨kd, lf, c, t, false⟩ f = false → ((((kd = kd ∧ lf = lf ∧ c = c ∧ t = t) ∧ ∃ f' : Nat, IntKind.i64.wrap ((f : Int) + 1) = f' ∧ f' ≤ 4 ∧ Pure w0 w' ∧ (B w' ∧ V Hf) ∧ Sp.tryFakes x ⟨kd, lf, c, t, false⟩ 4 0 = Sp.tryFakes x ⟨kd, lf, c, t, false⟩ (4 - f') f')) ∧ (4 - IntKind.i64.wrap ((f : Int) + 1)).toNat < (4 - (f : Int)).toNat) := by
       intro w' E' hno
       rw [hno, if_neg (by simp)] at heqf
       rw [wrap_succ hf (by omega)]
       exact ⟨⟨⟨rfl, rfl, rfl, rfl⟩, f + 1, rfl, hf, E14.trans E', ⟨Bp BV14.1 E', BV14.2⟩, by rw [heqf, show m = 4 - (f + 1) from by omega]⟩, by omega⟩
      have found : ∀ w', Pure w0 w' → Sp.fits x ⟨kd, lf, c, t, false⟩ f = true → K kd lf c t (decide (f > 0)) true w' := by
       intro w' E' hyes
       rw [hyes, if_pos rfl, hwf] at heqf
       rw [heqf] at heqd
       rw [heqd] at heq
       exact hK _ _ _ _ _ _ _ ⟨by unfold Sp.readTree; rw [heq], E'⟩
      have cmp : ∀ w, Pure w14 w → Sp.letErr ⟨kd, lf, c, t, decide (f > 0)⟩ = 0 → (kd == 4 || decide (f ≠ 2)) = true →
        Calls Try.prog 74 #[.agg #[.int .i64 kd, .int .i64 lf, .int .u64 c, .string t, .bool (decide (f > 0))], .bool (((f % 2 : Nat) : Int) == 1), .bool (((f / 2 : Nat) : Int) == 1)] w (fun e w17 => ∃ rKind1 : Int, ∃ rFrom1 : Int, ∃ rTo1 : Int, ∃ rNum1 : Int, ∃ rText1 : ByteArray, ∃ rKids1 : Sl, e = .returned (.agg #[(.int .i64 rKind1), (.int .i64 rFrom1), (.int .i64 rTo1), (.int .u64 rNum1), (.string rText1), rKids1.v]) ∧ Pure w14 w17 ∧ Kept Hf w w17 ∧
         Calls Try.prog 61 #[.agg #[(.int .i64 rKind1), (.int .i64 rFrom1), (.int .i64 rTo1), (.int .u64 rNum1), (.string rText1), rKids1.v], .agg #[.int .i64 xk, .int .i64 xf, .int .i64 xt, .int .u64 xu, .string xx, s.v]] w17 (fun e w18 => ∃ r2 : Bool, e = .returned (.bool r2) ∧ Pure w14 w18 ∧ Kept Hf w17 w18 ∧ r2 = Sp.fits x ⟨kd, lf, c, t, false⟩ f)) := by
       intro w Ew herr hk4
       have hfr : lf = 0 ∨ lf = 1 := by
        unfold Sp.letErr at herr
        simp only at herr
        split at herr
        ·cases herr
        ·rename_i h; simp only [not_or, not_and] at h
         have := h.2.2.1
         by_cases h0 : lf = 0
         ·exact .inl h0
         ·exact .inr (Classical.not_not.1 (this h0))
       have hb1 : (((f % 2 : Nat) : Int) == 1) = (f % 2 == 1) := by rw [Bool.eq_iff_iff]; simp; omega
       have hb2 : (((f / 2 : Nat) : Int) == 1) = (f / 2 == 1) := by rw [Bool.eq_iff_iff]; simp; omega
       rw [hb1, hb2]
       refine (c_ref11_Tree w.heap.size kd lf c t (decide (f > 0)) (f % 2 == 1) (f / 2 == 1) w (Nat.le_refl _) hfr).mono ?_
       rintro _ w17 ⟨s', rfl, hT', E17⟩
       generalize hLT : Sp.letterT ⟨kd, lf, c, t, decide (f > 0)⟩ (f % 2 == 1) (f / 2 == 1) = LT at *
       obtain ⟨lk, lff, lt, lu, lx, lks⟩ := LT
       refine ⟨_, _, _, _, _, s', rfl, Ew.trans E17, E17.keptP, ?_⟩
       rw [hxv]
       have E017 := (E14.trans Ew).trans E17
       refine (c_ref05_Same (S := fun b => b < w17.heap.size) (.mk lk lff lt lu lx lks) x s' s w17 (hT'.lt.mono (fun b hb => hb.2)) ((tS E017).1.mono (tS E017).2) (fun b hb => hb)).mono ?_
       rintro _ w18 ⟨r, rfl, hr, E18⟩
       refine ⟨_, rfl, (Ew.trans E17).trans E18, E18.keptP, ?_⟩
       unfold Sp.fits
       rw [hwf, hLT, hr]
       simp [herr]
       intro _
       simpa using hk4
      refine ⟨fun h1 => ⟨fun h2 => ?_, fun h2 => ⟨fun h3 => ?_, fun h3 => ?_⟩⟩, fun h1 => ?_⟩
      ·refine ⟨_, fun w' _ => run_rem2 f hf w', _, fun w' _ => run_quo2 f hf w', ?_⟩
       refine (cmp w16 Ed (by simpa using h1) (by rw [h2]; rfl)).mono ?_
       rintro _ w17 ⟨_, _, _, _, _, s', rfl, E17, K17, h17⟩
       refine ⟨_, _, _, _, _, s', rfl, E17, K17, ?_⟩
       refine h17.mono ?_
       rintro _ w18 ⟨r, rfl, E18, K18, hr⟩
       refine ⟨_, rfl, E18, K18, fun h => ?_, fun h => next _ E18 (by rw [← hr]; exact h)⟩
       intro w19 hs19
       exact found _ ((E14.trans E18).hst hs19) (by rw [← hr]; exact h)
      ·refine ⟨_, fun w' _ => run_rem2 f hf w', _, fun w' _ => run_quo2 f hf w', ?_⟩
       have hf2 : decide (f ≠ 2) = true := decide_eq_true (fun e => by subst e; simp at h3)
       refine (cmp w16 Ed (by simpa using h1) (by rw [hf2]; simp)).mono ?_
       rintro _ w17 ⟨_, _, _, _, _, s', rfl, E17, K17, h17⟩
       refine ⟨_, _, _, _, _, s', rfl, E17, K17, ?_⟩
       refine h17.mono ?_
       rintro _ w18 ⟨r, rfl, E18, K18, hr⟩
       refine ⟨_, rfl, E18, K18, fun h => ?_, fun h => next _ E18 (by rw [← hr]; exact h)⟩
       intro w19 hs19
       exact found _ ((E14.trans E18).hst hs19) (by rw [← hr]; exact h)
      ·refine next _ Ed ?_
       have hf2 : f = 2 := by have : (f : Int) = 2 := by simpa using h3
                              omega
       unfold Sp.fits
       simp only
       rw [h2, hf2]; simp
      ·refine next _ Ed ?_
       unfold Sp.fits
       rw [hwf]
       have : decide (Sp.letErr ⟨kd, lf, c, t, decide (f > 0)⟩ = 0) = false := decide_eq_false (by simpa using h1)
       rw [this]; rfl
     ·have hf : f = 4 := by have := of_decide_eq_false hc3; omega
      subst hf
      rw [Nat.sub_self, Sp.tryFakes] at heqf
      rw [heqf] at heqd
      simp only at heqd
      rw [wrap_succ hj3 (by omega)]
      exact ⟨⟨j + 1, rfl, hj3, Ef, BVf, heqd⟩, by omega⟩
    have hsg : s_ref11_signed kd = Sp.isSigned kd := rfl
    have hcf : cond (s_ref11_signed kd) xf 0 = (Sp.cand x kd pp).frm := by
     rw [hsg]; unfold Sp.cand; simp only; rw [hxn]
     cases Sp.isSigned kd <;> rfl
    have place : ∀ (y : Sp.Tree) (sy : Sl) (pth : List Nat) (w : World) (p8 : Addr) (w23 : World), Pure w0 w → TreeAt S w0 sy y → New w (.cells (pth.map fun t : Nat => Value.int .i64 (t : Int)).toArray 3) p8 w23 → pth.length ≤ 100 →
      Calls Try.prog 161 #[.agg (trow y sy).toArray, (Sl.mk (some p8) pth.length pth.length).v] w23 (fun e w' => ∃ s', e = .returned (.agg (trow (Sp.kidT y pth) s').toArray) ∧ TreeAt S w23 s' (Sp.kidT y pth) ∧ Pure w23 w') := by
     intro y sy pth w p8 w23 E hTy h8 hpl
     have E23 : Pure w0 w23 := E.trans (Ext.new h8)
     exact c_ref11_kid (S2 := (· = p8.block)) y sy _ pth w23 (hTy.pure E23) (tS E23).2 (Lst.of_path pth (Box.of_new h8)) (fun b e => by subst e; exact (Box.of_new h8).lt) hpl
    refine ⟨fun htx => ?_, fun htx => ⟨fun h7 => ?_, fun h7 => ?_⟩⟩
    ·have htx' : Sp.isTexted kd = true := htx
     intro H4 w13 hs13
     have E13 := E.hst hs13
     have BV13 := BV hBV hs13
     have hv13 : ¬ H4 a1.block := hs13.disj (G := (· = a1.block)) (fun b e => by subst e; exact ⟨hB1.lt, hv1⟩) _ rfl
     have B13 := hB1.ext hs13.ext hv13
     generalize hD : Sp.kidT x pp = D at *
     obtain ⟨dk, df, dt, du, dx, dks⟩ := D
     refine ⟨_, _, _, _, _, sd, B13.row, ?_⟩
     intro p8 w23 h8
     have E23 : Pure w13 w23 := Ext.new h8
     refine (place (.mk dk df dt du dx dks) sd [1, 0] w13 p8 w23 E13 hTd h8 (by simp)).mono ?_
     rintro _ w24 ⟨s1, rfl, _, E24⟩
     generalize hk1 : Sp.kidT (.mk dk df dt du dx dks) [1, 0] = y1 at *
     obtain ⟨y1k, y1f, y1t, y1u, y1x, y1s⟩ := y1
     refine ⟨_, _, _, _, _, s1, rfl, E24.keptP, ?_⟩
     intro w25 hs25
     have E1324 := E23.trans E24
     have B24 := B13.pure E1324
     have hv25 : ¬ H4 a1.block := hv13
     have B25 := B24.ext hs25.ext hv25
     refine ⟨_, _, _, _, _, sd, B25.row, ?_⟩
     have E25 := (E13.trans E1324).hst hs25
     have BV25 := BV ⟨Bp BV13.1 E1324, BV13.2⟩ hs25
     intro p9 w26 h9
     have E26 : Pure w25 w26 := Ext.new h9
     refine (place (.mk dk df dt du dx dks) sd [1, 1] w25 p9 w26 E25 hTd h9 (by simp)).mono ?_
     rintro _ w27 ⟨s2, rfl, _, E27⟩
     generalize hk2 : Sp.kidT (.mk dk df dt du dx dks) [1, 1] = y2 at *
     obtain ⟨y2k, y2f, y2t, y2u, y2x, y2s⟩ := y2
     refine ⟨_, _, _, _, _, s2, rfl, E27.keptP, ?_⟩
     intro w28 hs28
     have E2527 := E26.trans E27
     refine J4 y1u y2x H4 w28 hs28.here ((E25.trans E2527).hst hs28) (BV ⟨Bp BV25.1 E2527, BV25.2⟩ hs28) ?_
     rw [hcf]
     unfold Sp.cand
     simp only [htx', if_true, hD, hk1, hk2]
     rfl
    ·have h7 : kd = 7 := by simpa using h7
     intro H4 w13 hs13
     have E13 := E.hst hs13
     have BV13 := BV hBV hs13
     intro p10 w29 h10
     have E29 : Pure w13 w29 := Ext.new h10
     rw [hxv]
     refine (place x s [1] w13 p10 w29 E13 hT h10 (by simp)).mono ?_
     rintro _ w30 ⟨s1, rfl, _, E30⟩
     generalize hk1 : Sp.kidT x [1] = y1 at *
     obtain ⟨y1k, y1f, y1t, y1u, y1x, y1s⟩ := y1
     refine ⟨_, _, _, _, _, s1, rfl, E30.keptP, ?_⟩
     intro w31 hs31
     have E1330 := E29.trans E30
     refine J4 y1u ⟨#[]⟩ H4 w31 hs31.here ((E13.trans E1330).hst hs31) (BV ⟨Bp BV13.1 E1330, BV13.2⟩ hs31) ?_
     rw [hcf]
     unfold Sp.cand
     subst h7
     simp only [hk1]
     rfl
    ·have h7 : kd ≠ 7 := by simpa using h7
     have htx' : Sp.isTexted kd = false := htx
     intro H4 w13 hs13
     have E13 := E.hst hs13
     have BV13 := BV hBV hs13
     intro p11 w32 h11
     have E32 : Pure w13 w32 := Ext.new h11
     rw [hxv]
     refine (place x s [0, 1] w13 p11 w32 E13 hT h11 (by simp)).mono ?_
     rintro _ w33 ⟨s1, rfl, _, E33⟩
     generalize hk1 : Sp.kidT x [0, 1] = y1 at *
     obtain ⟨y1k, y1f, y1t, y1u, y1x, y1s⟩ := y1
     refine ⟨_, _, _, _, _, s1, rfl, E33.keptP, ?_⟩
     intro w34 hs34
     have E1333 := E32.trans E33
     refine J4 y1u ⟨#[]⟩ H4 w34 hs34.here ((E13.trans E1333).hst hs34) (BV ⟨Bp BV13.1 E1333, BV13.2⟩ hs34) ?_
     rw [hcf]
     unfold Sp.cand
     have h7b : (kd == 7) = false := by simpa using h7
     simp only [htx', h7b, hk1, Bool.false_eq_true, if_false]
     rfl
   have Edr : Pure wm wm.drew := Ext.drew wm
   have Emd := Em.trans Edr
   have Bmd := Bp BVm.1 Edr
   refine ⟨fun w' => B w', Bmd, ?_⟩
   rintro _ rfl
   refine ⟨a, hat, sl, fun w' h => (hcell w' h).1, ?_, ?_⟩
   ·rw [hxv]
    obtain ⟨_, S2, hL, hS2⟩ := hcell _ Bmd
    refine (c_ref11_kid x s sl pp wm.drew (tS Emd).1 (tS Emd).2 hL hS2 hppl).mono ?_
    rintro _ w36 ⟨sd, rfl, hTd, E36⟩
    generalize hD : Sp.kidT x pp = D at *
    obtain ⟨dk, df, dt, du, dx, dks⟩ := D
    refine ⟨_, _, _, _, _, sd, rfl, E36.keptP, ?_⟩
    intro p12 w37 h12
    have E37 := E36.trans (Ext.new h12)
    have b12 := Box.of_new h12
    have hnh : ¬ Hm p12.block := by intro hh; have := hm.lt _ hh; have := h12.at_size; have := (Edr.trans E36).size; omega
    have B36 := Bp Bmd E36
    have B37 := Bp Bmd E37
    have hTd0 : TreeAt S w0 sd (Sp.Tree.mk dk df dt du dx dks) := hTd.back Emd hSw
    refine ⟨B37, b12.canWs (n := 6) (by simp), hnh, ?_⟩
    rintro _ rfl
    have E38 := Ext.storeRow w37 p12 [(.int .i64 dk), (.int .i64 df), (.int .i64 dt), (.int .u64 du), (.string dx), sd.v]
    have b38 := b12.store (vs := [(.int .i64 dk), (.int .i64 df), (.int .i64 dt), (.int .u64 du), (.string dx), sd.v]) rfl
    exact J3 p12 _ sd _ ((hm.again (Edr.trans E37).keptP).again (E38.kept (fun b hb e => hnh (e ▸ hb)))) ((Emd.trans E37).own (by have := h12.at_size; have := (Emd.trans E36).size; omega) E38) ⟨⟨B37.1.ext E38 (New.ne h12 B36.1.blk), B37.2.1.ext E38 (New.ne h12 B36.2.1.blk), B37.2.2.1.ext E38 (New.ne h12 B36.2.2.1.blk), B37.2.2.2.ext E38 (New.ne h12 B36.2.2.2.blk)⟩, BVm.2⟩ b38 hnh hTd0
   ·rw [hxv]
    intro p13 w39 h13
    have E39 : Pure wm.drew w39 := Ext.new h13
    have B39 := Bp Bmd E39
    have Em39 := Emd.trans E39
    have b13 := Box.of_new h13
    have hnh : ¬ Hm p13.block := by intro hh; have := hm.lt _ hh; have := h13.at_size; have := Edr.size; omega
    obtain ⟨_, S2, hL, hS2⟩ := hcell _ B39
    refine ⟨B39, (c_ref11_kid x s sl pp w39 (tS Em39).1 (tS Em39).2 hL hS2 hppl).mono ?_⟩
    rintro _ w40 ⟨sd, rfl, hTd, E40⟩
    generalize hD : Sp.kidT x pp = D at *
    obtain ⟨dk, df, dt, du, dx, dks⟩ := D
    have hTd0 : TreeAt S w0 sd (Sp.Tree.mk dk df dt du dx dks) := hTd.back Em39 hSw
    have B40 := Bp B39 E40
    have b40 := b13.pure E40
    refine ⟨_, _, _, _, _, sd, rfl, E40.keptP, b40.canWs (n := 6) (by simp), hnh, ?_⟩
    rintro _ rfl
    have E41 := Ext.storeRow w40 p13 [(.int .i64 dk), (.int .i64 df), (.int .i64 dt), (.int .u64 du), (.string dx), sd.v]
    have b41 := b40.store (vs := [(.int .i64 dk), (.int .i64 df), (.int .i64 dt), (.int .u64 du), (.string dx), sd.v]) rfl
    exact J3 p13 _ sd _ ((hm.again ((Edr.trans E39).trans E40).keptP).again (E41.kept (fun b hb e => hnh (e ▸ hb)))) ((Em39.trans E40).own (by have := h13.at_size; have := Emd.size; omega) E41) ⟨⟨B40.1.ext E41 (New.ne h13 Bmd.1.blk), B40.2.1.ext E41 (New.ne h13 Bmd.2.1.blk), B40.2.2.1.ext E41 (New.ne h13 Bmd.2.2.1.blk), B40.2.2.2.ext E41 (New.ne h13 Bmd.2.2.2.blk)⟩, BVm.2⟩ b41 hnh hTd0
  ·have hj3 : j = 3 := by have := of_decide_eq_false hc2; simp only at this; omega
   subst hj3
   have : Sp.deals.drop 3 = [] := rfl
   rw [this, Sp.tryDeals] at heqd
   rw [heqd] at heq
   simp only at heq
   have hkw : IntKind.i64.wrap (kd + 1) = ((q + 1 : Nat) : Int) + 1 := by rw [IntWalk.i64_in _ (by omega)]; omega
   rw [hkw]
   exact ⟨⟨q + 1, rfl, hq7, Em, BVm, by rw [heq]; congr 1 <;> omega⟩, by show (8 - _ : Int).toNat < (8 - _ : Int).toNat; omega⟩
 ·have hq7 : q = 7 := by have := of_decide_eq_false hc; omega
  subst hq7
  rw [Nat.sub_self, Sp.tryKinds] at heq
  intro w42 hs42
  exact hK _ _ _ _ _ _ _ ⟨by unfold Sp.readTree; rw [heq]; rfl, El.hst hs42⟩
end Go.Proofs
end
section
open Go Go.SE
namespace Go.Proofs
attribute [local irreducible] Calls
theorem c_ref11_Read (p : Addr) {L : Sp.Pool} (hW : Sp.Wf L) (t : Int) (w0 : World) (F : Nat → Prop) (hP : PoolR w0 p L F) :
  Calls Try.prog 78 #[.pointer (some p), .int .i64 t] w0 (fun e w' => ∃ k f c : Int, ∃ t' : ByteArray, ∃ g r : Bool, e = .returned (.tuple #[.agg #[.int .i64 k, .int .i64 f, .int .u64 c, .string t', .bool g], .bool r]) ∧ (((⟨k, f, c, t', g⟩ : Sp.Letter), r) = Sp.refRead L t ∧ Pure w0 w')) := by
 suffices key : ∀ K : Int → Int → Int → ByteArray → Bool → Bool → World → Prop, (∀ k f c t' g r w', (((⟨k, f, c, t', g⟩ : Sp.Letter), r) = Sp.refRead L t ∧ Pure w0 w') → K k f c t' g r w') → m_ref11_Read (some p) t w0 K from
  w_ref11_Read _ _ w0 _ (key _ (fun _ _ _ _ _ _ _ h => h))
 intro K hK
 have hok := hW.ok
 unfold m_ref11_Read
 intro H1 w1 hs1
 have E1 := hs1.first
 refine (c_ref05_In p t w1 (hP.pure E1)).mono ?_
 rintro _ w2 ⟨r, rfl, hr, rfl⟩
 refine ⟨_, rfl, (Ext.refl _ : Pure w2 w2).keptP, fun h => ?_, fun h => ?_⟩
 ·intro w3 hs3
  refine hK _ _ _ _ _ _ _ ⟨?_, E1.hst hs3⟩
  unfold Sp.refRead
  rw [if_neg (fun hh => by rw [hr, hh.1] at h; cases h)]
  rfl
 ·have hin : Sp.inP L t = true := by rw [← hr]; simpa using h
  refine (c_ref05_Size p t w2 (hP.pure E1) hok).mono ?_
  rintro _ w4 ⟨z, rfl, hz, rfl⟩
  refine ⟨_, rfl, (Ext.refl _ : Pure w4 w4).keptP, fun h2 => ?_, fun h2 => ?_⟩
  ·intro w5 hs5
   refine hK _ _ _ _ _ _ _ ⟨?_, E1.hst hs5⟩
   have h2 := of_decide_eq_true h2
   unfold Sp.refRead
   rw [if_neg (fun hh => hh.2 (hz ▸ h2))]
   rfl
  ·have h2 := of_decide_eq_false h2
   refine (c_ref05_Tree p hW _ t w4 F rfl (hP.pure E1)).mono ?_
   rintro _ w6 ⟨s', rfl, hT, E6⟩
   generalize hD : Sp.treeOf L t = D at *
   obtain ⟨dk, df, dt, du, dx, dks⟩ := D
   refine ⟨_, _, _, _, _, s', rfl, E6.keptP, ?_⟩
   refine (c_ref11_ReadTree _ s' w6 hT.lt (fun b hb => hb.2)).mono ?_
   rintro _ w7 ⟨k, f, c, t', g, r, rfl, hrd, E7⟩
   refine ⟨_, _, _, _, _, _, rfl, E7.keptP, ?_⟩
   intro w8 hs8
   refine hK _ _ _ _ _ _ _ ⟨?_, ((E1.trans E6).trans E7).hst hs8⟩
   unfold Sp.refRead
   rw [if_pos ⟨hin, hz ▸ h2⟩, hD, hrd]
end Go.Proofs
end
section
namespace Go.Sp
theorem size_cnt {L : Pool} (hW : Wf L) : ∀ (n : Nat) (t : Int), t.toNat = n → inP L t = true → sizeOf L t = cnt (treeOf L t) := by
 intro n
 induction n using Nat.strongRecOn with
 | _ n ih =>
 intro t hn ht
 have h := hW.node ht
 rw [treeOf_in hW ht, h.2.2.2.2.2.1, cnt]
 have : ∀ l : List Int, (∀ k ∈ l, sizeOf L k = cnt (treeOf L k)) → (l.map (sizeOf L)).sum = (cntAll (l.map (treeOf L)) : Int) := by
  intro l
  induction l with
  | nil => intro _; rfl
  | cons a l ihl => intro hh; simp only [List.map_cons, List.sum_cons, cntAll, hh a (by simp), ihl (fun k hk => hh k (by simp [hk]))]; omega
 rw [this _ (fun k hk => ?_)]
 ·omega
 ·have hk2 := h.2.2.2.2.1 k hk
  have := inP_iff.1 hk2.1
  exact ih k.toNat (by omega) k rfl hk2.1
theorem rdNode_ok {L : Pool} {t k : Int} (h : (rdNode L t k).2 = false) : inP L t = true ∧ (nodeOf L t).kind = k ∧ rdNode L t k = (nodeOf L t, false) := by
 unfold rdNode at h ⊢
 split at h
 ·rename_i hh; exact ⟨hh.1, hh.2, by rw [if_pos hh]⟩
 ·cases h
theorem rdNode_of {L : Pool} {t k : Int} (h : inP L t = true) (hk : (nodeOf L t).kind = k) : rdNode L t k = (nodeOf L t, false) := by unfold rdNode; rw [if_pos ⟨h, hk⟩]
section
variable {L : Pool} (hW : Wf L) {t : Int} (ht : inP L t = true)
include hW ht
theorem nd_text : (nodeOf L t).text.size ≤ 64 := by
 have := (hW.node ht).2.2.2.1
 unfold fieldsErr at this
 split at this
 ·cases this
 split at this
 ·cases this
 ·omega
theorem nd3 (hk : (nodeOf L t).kind = 3) : treeOf L t = dataT (nodeOf L t).text := by
 have h := (hW.node ht).1
 rw [treeOf_in hW ht, hk, dataT]
 have hkk : kidsOf (nodeOf L t) = [] := by unfold kidsOf; rw [hk]; rfl
 rw [hkk]
 unfold plainErr at h
 rw [hk] at h
 simp [shapeOf, isKind] at h
 simp [h]
theorem nd2 (hk : (nodeOf L t).kind = 2) : treeOf L t = numT (nodeOf L t).num := by
 have h := (hW.node ht).1
 rw [treeOf_in hW ht, hk, numT]
 have hkk : kidsOf (nodeOf L t) = [] := by unfold kidsOf; rw [hk]; rfl
 rw [hkk]
 unfold plainErr at h
 rw [hk] at h
 simp [shapeOf, isKind] at h
 simp [h]
theorem nd4 (hk : (nodeOf L t).kind = 4) : inP L (nodeOf L t).a = true ∧ inP L (nodeOf L t).b = true ∧ treeOf L t = pairT (treeOf L (nodeOf L t).a) (treeOf L (nodeOf L t).b) := by
 have h := (hW.node ht).1
 have hp := (hW.node ht).2.2.2.2.1
 have hkk : kidsOf (nodeOf L t) = [(nodeOf L t).a, (nodeOf L t).b] := by unfold kidsOf; rw [hk]; rfl
 rw [hkk] at hp
 refine ⟨(hp _ (by simp)).1, (hp _ (by simp)).1, ?_⟩
 rw [treeOf_in hW ht, hk, pairT, hkk]
 unfold plainErr at h
 rw [hk] at h
 simp [shapeOf, isKind] at h
 simp [h]
theorem nd7 (hk : (nodeOf L t).kind = 7) : inP L (nodeOf L t).a = true ∧ 0 ≤ (nodeOf L t).frm ∧ treeOf L t = signT (nodeOf L t).frm (treeOf L (nodeOf L t).a) := by
 have h := (hW.node ht).1
 have hf := (hW.node ht).2.2.2.1
 have hp := (hW.node ht).2.2.2.2.1
 have hkk : kidsOf (nodeOf L t) = [(nodeOf L t).a] := by unfold kidsOf; rw [hk]; rfl
 rw [hkk] at hp
 refine ⟨(hp _ (by simp)).1, ?_, ?_⟩
 ·unfold fieldsErr at hf
  rw [hk] at hf
  split at hf
  ·cases hf
  ·rename_i hh; simp [shapeOf, isName] at hh; omega
 rw [treeOf_in hW ht, hk, signT, hkk]
 unfold plainErr at h
 rw [hk] at h
 simp [shapeOf, isKind] at h
 simp [h]
theorem nd89 (hk : (nodeOf L t).kind = 8 ∨ (nodeOf L t).kind = 9) : inP L (nodeOf L t).a = true ∧ 0 ≤ (nodeOf L t).frm ∧ (nodeOf L t).frm < 16 ∧ ((nodeOf L t).to = 1 - (nodeOf L t).frm → treeOf L t = promT (nodeOf L t).frm (treeOf L (nodeOf L t).a) ((nodeOf L t).kind == 9)) := by
 have h := (hW.node ht).1
 have hf := (hW.node ht).2.2.2.1
 have hp := (hW.node ht).2.2.2.2.1
 have hkk : kidsOf (nodeOf L t) = [(nodeOf L t).a] := by unfold kidsOf; rcases hk with hk | hk <;> (rw [hk]; rfl)
 rw [hkk] at hp
 have hff : 0 ≤ (nodeOf L t).frm ∧ (nodeOf L t).frm < 16 := by
  unfold fieldsErr at hf
  rcases hk with hk | hk <;>
  ·rw [hk] at hf
   split at hf
   ·cases hf
   ·rename_i hh; simp [shapeOf, isName] at hh; omega
 refine ⟨(hp _ (by simp)).1, hff.1, hff.2, fun hto => ?_⟩
 rw [treeOf_in hW ht, promT, hkk, ← hto]
 unfold plainErr at h
 rcases hk with hk | hk <;>
 ·rw [hk] at h ⊢
  simp [shapeOf, isKind] at h
  simp [h]
theorem nd_kind {k f t' u : Int} {x : ByteArray} {ks : List Tree} (h : treeOf L t = .mk k f t' u x ks) : (nodeOf L t).kind = k ∧ (nodeOf L t).frm = f ∧ (nodeOf L t).to = t' ∧ (nodeOf L t).num = u ∧ (nodeOf L t).text = x := by
 rw [treeOf_in hW ht] at h
 injection h with h1 h2 h3 h4 h5 h6
 exact ⟨h1, h2, h3, h4, h5⟩
end
theorem wrap_small {n : Int} (h : 0 ≤ n ∧ n < 16) : IntKind.i64.wrap (1 - n) = 1 - n := IntWalk.i64_in _ (by omega)
section
variable {L : Pool} (hW : Wf L) {t : Int}
include hW
theorem rdTagged_ok (h : (rdTagged L t).2 = false) : inP L t = true ∧ inP L (rdTagged L t).1.2 = true ∧ treeOf L t = pairT (dataT (rdTagged L t).1.1) (treeOf L (rdTagged L t).1.2) := by
 unfold rdTagged at h ⊢
 simp only [Bool.or_eq_false_iff] at h
 obtain ⟨ht, hk, e1⟩ := rdNode_ok h.1
 rw [e1] at h ⊢
 simp only at h ⊢
 obtain ⟨ha, hka, e2⟩ := rdNode_ok h.2
 rw [e2]
 obtain ⟨_, h2, h3⟩ := nd4 hW ht hk
 exact ⟨ht, h2, by rw [h3, nd3 hW ha hka]⟩
theorem rdTagged_of (ht : inP L t = true) {g : ByteArray} {y : Tree} (h : treeOf L t = pairT (dataT g) y) : ∃ n, rdTagged L t = ((g, n), false) ∧ inP L n = true ∧ treeOf L n = y := by
 have hk := (nd_kind hW ht (h.trans rfl)).1
 obtain ⟨h1, h2, h3⟩ := nd4 hW ht hk
 rw [h] at h3
 have e1 : dataT g = treeOf L (nodeOf L t).a := by simpa [pairT] using (Tree.mk.inj h3).2.2.2.2.2 |> fun e => (List.cons.inj e).1
 have e2 : y = treeOf L (nodeOf L t).b := by have := (Tree.mk.inj h3).2.2.2.2.2; exact (List.cons.inj (List.cons.inj this).2).1
 have hka := nd_kind hW h1 (e1.symm.trans rfl)
 refine ⟨(nodeOf L t).b, ?_, h2, e2.symm⟩
 unfold rdTagged
 rw [rdNode_of ht hk]
 simp only
 rw [rdNode_of h1 hka.1]
 simp [hka.2.2.2.2]
theorem rdDeal_ok (h : (rdDeal L t).2 = false) : inP L t = true ∧ treeOf L t = dealT (rdDeal L t).1.1 (rdDeal L t).1.2 ∧ (rdDeal L t).1.2.size ≤ 64 := by
 unfold rdDeal at h ⊢
 simp only [Bool.or_eq_false_iff, Bool.not_eq_false', decide_eq_true_eq] at h
 obtain ⟨⟨⟨⟨h1, h2⟩, h3⟩, h4⟩, h5⟩ := h
 obtain ⟨ht, _, e⟩ := rdTagged_ok hW h1
 obtain ⟨hp, hpk, e2⟩ := rdNode_ok h2
 simp only at h3 ⊢
 rw [e2] at h4 h5 ⊢
 simp only at h4 h5 ⊢
 obtain ⟨ha, hak, e4⟩ := rdNode_ok h4
 obtain ⟨hb, hbk, e5⟩ := rdNode_ok h5
 rw [e4, e5]
 refine ⟨ht, ?_, nd_text hW hb⟩
 rw [e, h3, (nd4 hW hp hpk).2.2, nd2 hW ha hak, nd3 hW hb hbk]
 rfl
theorem rdDeal_of (ht : inP L t = true) {c : Int} {x : ByteArray} (h : treeOf L t = dealT c x) : rdDeal L t = ((c, x), false) := by
 obtain ⟨n, e1, hn, e⟩ := rdTagged_of hW ht h
 have hk := (nd_kind hW hn (e.trans rfl)).1
 obtain ⟨h1, h2, h3⟩ := nd4 hW hn hk
 rw [e] at h3
 have q1 : numT c = treeOf L (nodeOf L n).a := (List.cons.inj (Tree.mk.inj h3).2.2.2.2.2).1
 have q2 : dataT x = treeOf L (nodeOf L n).b := (List.cons.inj (List.cons.inj (Tree.mk.inj h3).2.2.2.2.2).2).1
 have k1 := nd_kind hW h1 (q1.symm.trans rfl)
 have k2 := nd_kind hW h2 (q2.symm.trans rfl)
 unfold rdDeal
 rw [e1]
 simp only
 rw [rdNode_of hn hk]
 simp only
 rw [rdNode_of h1 k1.1, rdNode_of h2 k2.1]
 simp [k1.2.2.2.1, k2.2.2.2.2]
theorem rdNum_of (ht : inP L t = true) {c : Int} (h : treeOf L t = numT c) : (rdNode L t 2).1.num = c ∧ (rdNode L t 2).2 = false := by
 have k := nd_kind hW ht (h.trans rfl)
 rw [rdNode_of ht k.1]
 exact ⟨k.2.2.2.1, rfl⟩
theorem rdNum_ok (h : (rdNode L t 2).2 = false) : inP L t = true ∧ treeOf L t = numT (rdNode L t 2).1.num := by
 obtain ⟨h1, h2, e⟩ := rdNode_ok h
 rw [e]
 exact ⟨h1, nd2 hW h1 h2⟩
theorem rdPromise_ok (ht : inP L t = true) (h : (rdPromise L t).2 = false) : (rdPromise L t).1.kind = 1 ∧ ((rdPromise L t).1.frm = 0 ∨ (rdPromise L t).1.frm = 1) ∧ treeOf L t = promT (rdPromise L t).1.frm (dealT (rdPromise L t).1.c (rdPromise L t).1.text) (rdPromise L t).1.fake ∧ (rdPromise L t).1.text.size ≤ 64 := by
 unfold rdPromise at h ⊢
 simp only at h ⊢
 split at h
 ·cases h
 rename_i hh
 rw [if_neg hh]
 simp only [not_or, not_and, Classical.not_not] at hh
 have hk : (nodeOf L t).kind = 8 ∨ (nodeOf L t).kind = 9 := by
  by_cases h8 : (nodeOf L t).kind = 8
  ·exact .inl h8
  ·exact .inr (hh.1 h8)
 obtain ⟨ha, h0, h16, hT⟩ := nd89 hW ht hk
 have hto := hh.2.2
 rw [wrap_small ⟨h0, h16⟩] at hto
 obtain ⟨_, e, hx⟩ := rdDeal_ok hW h
 simp only
 refine ⟨trivial, by have := hh.2.1; omega, by rw [hT hto, e], hx⟩
theorem rdPromise_of (ht : inP L t = true) {n c : Int} {x : ByteArray} {g : Bool} (hn : n = 0 ∨ n = 1) (h : treeOf L t = promT n (dealT c x) g) : rdPromise L t = (⟨1, n, c, x, g⟩, false) := by
 have k := nd_kind hW ht (h.trans rfl)
 have hk : (nodeOf L t).kind = 8 ∨ (nodeOf L t).kind = 9 := by rw [k.1]; cases g <;> simp
 obtain ⟨ha, h0, h16, hT⟩ := nd89 hW ht hk
 have := hT (by rw [k.2.2.1, k.2.1])
 rw [h, k.2.1] at this
 have q1 : dealT c x = treeOf L (nodeOf L t).a := (List.cons.inj (Tree.mk.inj this).2.2.2.2.2).1
 unfold rdPromise
 simp only
 rw [if_neg, rdDeal_of hW ha q1.symm, k.1, k.2.1]
 ·cases g <;> rfl
 ·simp only [not_or, not_and, Classical.not_not]
  refine ⟨fun h8 => hk.resolve_left h8, by rw [k.2.1]; omega, ?_⟩
  rw [k.2.2.1, wrap_small ⟨h0, h16⟩, k.2.1]
end
end Go.Sp
end
section
namespace Go.Sp
def IsL (x : Tree) (l : Letter) : Prop := letErr l = 0 ∧ ∃ a b : Bool, (l.kind = 4 → l.fake = (a || b)) ∧ x = letterT l a b
theorem letErr_inv {k f c : Int} {x : ByteArray} {g : Bool} (h : letErr ⟨k, f, c, x, g⟩ = 0) : (k = 1 ∨ k = 2 ∨ k = 3 ∨ k = 4 ∨ k = 5 ∨ k = 6 ∨ k = 7) ∧ (f = 0 ∨ f = 1) ∧ (isSigned k = false → f = 0) ∧ (isTexted k = false → x = ⟨#[]⟩) ∧ (g = true → k = 1 ∨ k = 4) ∧ x.size ≤ 64 := by
 unfold letErr at h
 simp only at h
 split at h
 ·cases h
 rename_i hh
 split at h
 ·cases h
 simp only [not_or, not_and, Classical.not_not] at hh
 obtain ⟨h1, h2, h3, h4, h5, h6⟩ := hh
 refine ⟨by omega, ?_, h4, h5, ?_, by omega⟩
 ·by_cases h0 : f = 0
  ·exact .inl h0
  ·exact .inr (h3 h0)
 ·intro hg
  by_cases h1 : k = 1
  ·exact .inl h1
  ·exact .inr (h6 hg h1)
theorem letErr_of {k f c : Int} {x : ByteArray} {g : Bool} (hk : 1 ≤ k ∧ k ≤ 7) (hf : f = 0 ∨ f = 1) (h1 : isSigned k = false → f = 0) (h2 : isTexted k = false → x = ⟨#[]⟩) (h3 : g = true → k = 1 ∨ k = 4) (hx : x.size ≤ 64) : letErr ⟨k, f, c, x, g⟩ = 0 := by
 unfold letErr
 simp only
 rw [if_neg, if_neg (by omega)]
 simp only [not_or, not_and, Classical.not_not]
 refine ⟨by omega, by omega, fun h0 => hf.resolve_left h0, h1, h2, fun hg h1 => (h3 hg).resolve_left h1⟩
section
variable {L : Pool} (hW : Wf L) {t : Int}
include hW
theorem rdResolve_ok {who : Int} (h : (rdResolve L who t).2 = false) : ∃ c x a b, (rdResolve L who t).1 = ⟨4, who, c, x, a || b⟩ ∧ x.size ≤ 64 ∧ treeOf L t = pairT (promT 0 (dealT c x) a) (promT 1 (dealT c x) b) := by
 unfold rdResolve at h ⊢
 simp only [Bool.or_eq_false_iff, Bool.not_eq_false', decide_eq_true_eq, bne_eq_false_iff_eq] at h
 obtain ⟨⟨⟨⟨⟨⟨h1, h2⟩, h3⟩, h4⟩, h5⟩, h6⟩, h7⟩ := h
 obtain ⟨ht, hk, e⟩ := rdNode_ok h1
 simp only
 rw [e] at h2 h3 h4 h5 h6 h7 ⊢
 simp only at h2 h3 h4 h5 h6 h7 ⊢
 obtain ⟨ha, hb, hT⟩ := nd4 hW ht hk
 obtain ⟨_, _, ea, hx⟩ := rdPromise_ok hW ha h2
 obtain ⟨_, _, eb, _⟩ := rdPromise_ok hW hb h3
 refine ⟨_, _, _, _, rfl, hx, ?_⟩
 rw [hT, ea, eb, h4, h5, h6, h7]
theorem rdResolve_of (ht : inP L t = true) {who c : Int} {x : ByteArray} {a b : Bool} (h : treeOf L t = pairT (promT 0 (dealT c x) a) (promT 1 (dealT c x) b)) : rdResolve L who t = (⟨4, who, c, x, a || b⟩, false) := by
 have hk := (nd_kind hW ht (h.trans rfl)).1
 obtain ⟨h1, h2, h3⟩ := nd4 hW ht hk
 rw [h] at h3
 have q1 := (List.cons.inj (Tree.mk.inj h3).2.2.2.2.2).1
 have q2 := (List.cons.inj (List.cons.inj (Tree.mk.inj h3).2.2.2.2.2).2).1
 unfold rdResolve
 simp only
 rw [rdNode_of ht hk]
 simp only
 rw [rdPromise_of hW h1 (.inl rfl) q1.symm, rdPromise_of hW h2 (.inr rfl) q2.symm]
 simp
theorem rdSigned_ok {who : Int} (hw : 0 ≤ who) (h : (rdSigned L who t).2 = false) : IsL (signT who (treeOf L t)) (rdSigned L who t).1 := by
 unfold rdSigned at h ⊢
 simp only at h ⊢
 by_cases c1 : (rdTagged L t).1.1 = wAbort ∧ who = 0
 ·rw [if_pos c1] at h ⊢
  simp only [Bool.or_eq_false_iff] at h
  obtain ⟨ht, hn, e⟩ := rdTagged_ok hW h.1
  show IsL _ ⟨3, 0, _, ⟨#[]⟩, false⟩
  refine ⟨letErr_of (by omega) (.inl rfl) (fun _ => rfl) (fun _ => rfl) (fun h => nomatch h) (Nat.zero_le _), false, false, by simp, ?_⟩
  rw [e, c1.1, c1.2, (rdNum_ok hW h.2).2]; rfl
 rw [if_neg c1] at h ⊢
 by_cases c2 : (rdTagged L t).1.1 = wAborted ∧ who = 2
 ·rw [if_pos c2] at h ⊢
  simp only [Bool.or_eq_false_iff] at h
  obtain ⟨ht, hn, e⟩ := rdTagged_ok hW h.1
  show IsL _ ⟨5, 0, _, ⟨#[]⟩, false⟩
  refine ⟨letErr_of (by omega) (.inl rfl) (fun _ => rfl) (fun _ => rfl) (fun h => nomatch h) (Nat.zero_le _), false, false, by simp, ?_⟩
  rw [e, c2.1, c2.2, (rdNum_ok hW h.2).2]; rfl
 rw [if_neg c2] at h ⊢
 by_cases c3 : (rdTagged L t).1.1 = wInstead ∧ who = 2
 ·rw [if_pos c3] at h ⊢
  simp only [Bool.or_eq_false_iff] at h
  obtain ⟨ht, hn, e⟩ := rdTagged_ok hW h.1
  obtain ⟨_, e2, hx⟩ := rdDeal_ok hW h.2
  refine ⟨letErr_of (by omega) (.inl rfl) (fun _ => rfl) (by simp [isTexted]) (by simp) hx, false, false, by simp, ?_⟩
  rw [e, c3.1, c3.2, e2]; rfl
 rw [if_neg c3] at h ⊢
 by_cases c4 : (rdTagged L t).1.1 = wDeal ∧ who ≤ 1
 ·rw [if_pos c4] at h ⊢
  simp only [Bool.or_eq_false_iff] at h
  obtain ⟨_, e2, hx⟩ := rdDeal_ok hW h.2
  refine ⟨letErr_of (by omega) (by omega) (by simp [isSigned]) (by simp [isTexted, isSigned]) (by simp) hx, false, false, by simp, ?_⟩
  rw [e2]; rfl
 rw [if_neg c4] at h ⊢
 by_cases c5 : (rdTagged L t).1.1 = wResolve ∧ who ≤ 1
 ·rw [if_pos c5] at h ⊢
  simp only [Bool.or_eq_false_iff] at h
  obtain ⟨ht, hn, e⟩ := rdTagged_ok hW h.1
  obtain ⟨c, x, a, b, e2, hx, e3⟩ := rdResolve_ok hW h.2
  rw [e2]
  refine ⟨letErr_of (by omega) (by omega) (by simp [isSigned]) (by simp [isTexted, isSigned]) (by simp) hx, a, b, by simp, ?_⟩
  rw [e, c5.1, e3]
  cases a <;> cases b <;> rfl
 rw [if_neg c5] at h
 cases h
theorem readQ_ok (ht : inP L t = true) (h : (readQ L t).2 = false) : IsL (treeOf L t) (readQ L t).1 := by
 unfold readQ at h ⊢
 simp only at h ⊢
 by_cases c1 : (nodeOf L t).kind = 7
 ·rw [if_pos c1] at h ⊢
  obtain ⟨h1, h2, h3⟩ := nd7 hW ht c1
  rw [h3]
  exact rdSigned_ok hW h2 h
 rw [if_neg c1] at h ⊢
 by_cases c2 : (nodeOf L t).kind = 8 ∨ (nodeOf L t).kind = 9
 ·rw [if_pos c2] at h ⊢
  obtain ⟨h1, h2, h3, h4⟩ := rdPromise_ok hW ht h
  generalize rdPromise L t = r at *
  obtain ⟨⟨k, f, c, x, g⟩, b⟩ := r
  simp only at h1 h2 h3 h4 ⊢
  subst h1
  exact ⟨letErr_of (by omega) h2 (by simp [isSigned]) (by simp [isTexted, isSigned]) (by simp) h4, false, false, by simp, h3⟩
 rw [if_neg c2] at h ⊢
 split at h
 ·cases h
 rename_i c3
 rw [if_neg c3]
 simp only [Bool.or_eq_true, Bool.not_eq_true', decide_eq_false_iff_not, not_or, Classical.not_not, Bool.not_eq_true] at c3
 obtain ⟨_, hn, e⟩ := rdTagged_ok hW c3.1
 show IsL _ ⟨7, 0, _, ⟨#[]⟩, false⟩
 refine ⟨letErr_of (by omega) (.inl rfl) (fun _ => rfl) (fun _ => rfl) (fun h => nomatch h) (Nat.zero_le _), false, false, by simp, ?_⟩
 rw [e, c3.2, (rdNum_ok hW h).2]; rfl
theorem readQ_of (ht : inP L t = true) {l : Letter} (h : IsL (treeOf L t) l) : readQ L t = (l, false) := by
 obtain ⟨k, f, c, x, g⟩ := l
 obtain ⟨h1, a, b, h4, hT⟩ := h
 obtain ⟨hk, hf, hs, hx, hg, _⟩ := letErr_inv h1
 have tagged : ∀ {who : Int} {gg : ByteArray} {y : Tree}, treeOf L t = signT who (pairT (dataT gg) y) → (nodeOf L t).kind = 7 ∧ (nodeOf L t).frm = who ∧ inP L (nodeOf L t).a = true ∧ treeOf L (nodeOf L t).a = pairT (dataT gg) y ∧ ∃ n, rdTagged L (nodeOf L t).a = ((gg, n), false) ∧ inP L n = true ∧ treeOf L n = y := by
  intro who gg y e
  have k := nd_kind hW ht (e.trans rfl)
  obtain ⟨q1, _, q3⟩ := nd7 hW ht k.1
  rw [e] at q3
  have q := (List.cons.inj (Tree.mk.inj q3).2.2.2.2.2).1
  exact ⟨k.1, k.2.1, q1, q.symm, rdTagged_of hW q1 q.symm⟩
 rcases hk with rfl | rfl | rfl | rfl | rfl | rfl | rfl
 ·have e : treeOf L t = promT f (dealT c x) g := hT
  have k := nd_kind hW ht (e.trans rfl)
  unfold readQ
  simp only
  rw [if_neg (by rw [k.1]; cases g <;> decide), if_pos (by rw [k.1]; cases g <;> decide), rdPromise_of hW ht hf e]
 ·have e : treeOf L t = signT f (dealT c x) := hT
  have : g = false := by cases g with
   | false => rfl
   | true => exact absurd (hg rfl) (by omega)
  subst this
  obtain ⟨k, kf, h1, h2, n, e1, hn, e2⟩ := tagged e
  unfold readQ rdSigned
  simp only
  rw [if_pos k, e1, kf]
  simp only
  rw [if_neg (fun q => absurd q.1 (by decide)), if_neg (fun q => absurd q.1 (by decide)), if_neg (fun q => absurd q.1 (by decide)), if_pos ⟨trivial, by omega⟩, rdDeal_of hW h1 h2]
  rfl
 ·obtain rfl : f = 0 := hs rfl
  obtain rfl : x = ⟨#[]⟩ := hx rfl
  have : g = false := by cases g with
   | false => rfl
   | true => exact absurd (hg rfl) (by omega)
  subst this
  have e : treeOf L t = signT 0 (pairT (dataT wAbort) (numT c)) := hT
  obtain ⟨k, kf, h1, h2, n, e1, hn, e2⟩ := tagged e
  obtain ⟨u1, u2⟩ := rdNum_of hW hn e2
  unfold readQ rdSigned
  simp only
  rw [if_pos k, e1, kf]
  simp only
  rw [if_pos ⟨trivial, trivial⟩, u1, u2]
  rfl
 ·have e : treeOf L t = signT f (pairT (dataT wResolve) (pairT (promT 0 (dealT c x) (g && a)) (promT 1 (dealT c x) (g && b)))) := hT
  obtain ⟨k, kf, h1, h2, n, e1, hn, e2⟩ := tagged e
  have hgg : ((g && a) || (g && b)) = g := by
   have := h4 rfl
   simp only at this
   subst this
   cases a <;> cases b <;> rfl
  unfold readQ rdSigned
  simp only
  rw [if_pos k, e1, kf]
  simp only
  rw [if_neg (fun q => absurd q.1 (by decide)), if_neg (fun q => absurd q.1 (by decide)), if_neg (fun q => absurd q.1 (by decide)), if_neg (fun q => absurd q.1 (by decide)), if_pos ⟨trivial, by omega⟩, rdResolve_of hW hn e2, hgg]
  rfl
 ·obtain rfl : f = 0 := hs rfl
  obtain rfl : x = ⟨#[]⟩ := hx rfl
  have : g = false := by cases g with
   | false => rfl
   | true => exact absurd (hg rfl) (by omega)
  subst this
  have e : treeOf L t = signT 2 (pairT (dataT wAborted) (numT c)) := hT
  obtain ⟨k, kf, h1, h2, n, e1, hn, e2⟩ := tagged e
  obtain ⟨u1, u2⟩ := rdNum_of hW hn e2
  unfold readQ rdSigned
  simp only
  rw [if_pos k, e1, kf]
  simp only
  rw [if_neg (fun q => absurd q.1 (by decide)), if_pos ⟨trivial, trivial⟩, u1, u2]
  rfl
 ·obtain rfl : f = 0 := hs rfl
  have : g = false := by cases g with
   | false => rfl
   | true => exact absurd (hg rfl) (by omega)
  subst this
  have e : treeOf L t = signT 2 (pairT (dataT wInstead) (dealT c x)) := hT
  obtain ⟨k, kf, h1, h2, n, e1, hn, e2⟩ := tagged e
  unfold readQ rdSigned
  simp only
  rw [if_pos k, e1, kf]
  simp only
  rw [if_neg (fun q => absurd q.1 (by decide)), if_neg (fun q => absurd q.1 (by decide)), if_pos ⟨trivial, trivial⟩, rdDeal_of hW hn e2]
  rfl
 ·obtain rfl : f = 0 := hs rfl
  obtain rfl : x = ⟨#[]⟩ := hx rfl
  have : g = false := by cases g with
   | false => rfl
   | true => exact absurd (hg rfl) (by omega)
  subst this
  have e : treeOf L t = pairT (dataT wFull) (numT c) := hT
  have k := nd_kind hW ht (e.trans rfl)
  obtain ⟨n, e1, hn, e2⟩ := rdTagged_of hW ht e
  obtain ⟨u1, u2⟩ := rdNum_of hW hn e2
  unfold readQ
  simp only
  rw [if_neg (by rw [k.1]; decide), if_neg (by rw [k.1]; decide), e1]
  simp only
  rw [if_neg (by simp), u1, u2]
end
theorem cnt_letter (l : Letter) (a b : Bool) : cnt (letterT l a b) ≤ 40 := by
 unfold letterT
 simp only [promT, dealT, signT, pairT, dataT, numT]
 split
 ·simp [cnt, cntAll]
 split
 ·simp [cnt, cntAll]
 split
 ·simp [cnt, cntAll]
 split
 ·simp [cnt, cntAll]
 split
 ·simp [cnt, cntAll]
 split
 ·simp [cnt, cntAll]
 ·simp [cnt, cntAll]
theorem tryFakes_some {x : Tree} {l : Letter} : ∀ {n i : Nat} {l' : Letter}, tryFakes x l n i = some l' → ∃ f, i ≤ f ∧ f < i + n ∧ fits x l f = true ∧ l' = withFake l f
 | 0, i, l', h => by cases h
 | n + 1, i, l', h => by
  unfold tryFakes at h
  split at h
  ·rename_i hf; cases h; exact ⟨i, by omega, by omega, hf, rfl⟩
  ·obtain ⟨f, h1, h2, h3, h4⟩ := tryFakes_some h
   exact ⟨f, by omega, by omega, h3, h4⟩
theorem tryFakes_of {x : Tree} {l : Letter} {f : Nat} (hf : fits x l f = true) : ∀ {n i : Nat}, i ≤ f → f < i + n → tryFakes x l n i ≠ none
 | 0, i, h1, h2 => by omega
 | n + 1, i, h1, h2 => by
  unfold tryFakes
  split
  ·simp
  ·rename_i h
   by_cases e : i = f
   ·subst e; exact absurd hf h
   ·exact tryFakes_of hf (by omega) (by omega)
theorem tryDeals_some {x : Tree} {k : Int} : ∀ {ps : List (List Nat)} {l : Letter}, tryDeals x k ps = some l → ∃ p ∈ ps, ∃ f, f < 4 ∧ fits x (cand x k p) f = true ∧ l = withFake (cand x k p) f
 | [], l, h => by cases h
 | p :: ps, l, h => by
  unfold tryDeals at h
  split at h
  ·rename_i l' he
   cases h
   obtain ⟨f, _, h2, h3, h4⟩ := tryFakes_some he
   exact ⟨p, by simp, f, by omega, h3, h4⟩
  ·obtain ⟨p', h1, h2⟩ := tryDeals_some h
   exact ⟨p', by simp [h1], h2⟩
theorem tryDeals_of {x : Tree} {k : Int} {p : List Nat} {f : Nat} (hf : f < 4) (h : fits x (cand x k p) f = true) : ∀ {ps : List (List Nat)}, p ∈ ps → tryDeals x k ps ≠ none
 | [], hp => by cases hp
 | q :: ps, hp => by
  unfold tryDeals
  split
  ·simp
  ·rename_i he
   rcases List.mem_cons.1 hp with e | e
   ·subst e; exact absurd he (tryFakes_of h (Nat.zero_le _) (by omega))
   ·exact tryDeals_of hf h e
theorem tryKinds_some {x : Tree} : ∀ {n : Nat} {i : Int} {l : Letter}, tryKinds x n i = some l → ∃ k p f, i ≤ k ∧ k < i + n ∧ f < 4 ∧ fits x (cand x k p) f = true ∧ l = withFake (cand x k p) f
 | 0, i, l, h => by cases h
 | n + 1, i, l, h => by
  unfold tryKinds at h
  split at h
  ·rename_i l' he
   cases h
   obtain ⟨p, _, f, h1, h2, h3⟩ := tryDeals_some he
   exact ⟨i, p, f, by omega, by omega, h1, h2, h3⟩
  ·obtain ⟨k, p, f, h1, h2, h3⟩ := tryKinds_some h
   exact ⟨k, p, f, by omega, by omega, h3⟩
theorem tryKinds_of {x : Tree} {k : Int} {p : List Nat} {f : Nat} (hp : p ∈ deals) (hf : f < 4) (h : fits x (cand x k p) f = true) : ∀ {n : Nat} {i : Int}, i ≤ k → k < i + n → tryKinds x n i ≠ none
 | 0, i, h1, h2 => by omega
 | n + 1, i, h1, h2 => by
  unfold tryKinds
  split
  ·simp
  ·rename_i he
   by_cases e : i = k
   ·subst e; exact absurd he (tryDeals_of hf h hp)
   ·exact tryKinds_of hp hf h (by omega) (by omega)
theorem fits_ok {x : Tree} {l : Letter} {f : Nat} (hf : f < 4) (h : fits x l f = true) : IsL x (withFake l f) := by
 unfold fits at h
 simp only [Bool.and_eq_true, decide_eq_true_eq] at h
 obtain ⟨⟨h1, h2⟩, h3⟩ := h
 refine ⟨h1, f % 2 == 1, f / 2 == 1, fun _ => ?_, ((same_iff _ _).1 h3).symm⟩
 have : f = 0 ∨ f = 1 ∨ f = 2 ∨ f = 3 := by omega
 rcases this with rfl | rfl | rfl | rfl <;> rfl
theorem readTree_ok {x : Tree} {l : Letter} (h : readTree x = (l, true)) : IsL x l := by
 unfold readTree at h
 split at h
 ·rename_i l' he
  cases h
  obtain ⟨k, p, f, _, _, h1, h2, rfl⟩ := tryKinds_some he
  exact fits_ok h1 h2
 ·cases h
theorem readTree_no {x : Tree} (h : (readTree x).2 = false) : readTree x = (noLetter, false) ∧ tryKinds x 7 1 = none := by
 unfold readTree at h ⊢
 split at h
 ·cases h
 ·rename_i he; simp only [he]; exact ⟨trivial, trivial⟩
theorem fits_of {x : Tree} {l l0 : Letter} {f : Nat} (hl : letErr l = 0) (h1 : withFake l0 f = l) (h2 : l0.kind = 4 ∨ f ≠ 2) (h3 : letterT l (f % 2 == 1) (f / 2 == 1) = x) : fits x l0 f = true := by
 unfold fits
 rw [h1, (same_iff _ _).2 h3]
 simp [hl]
 exact h2
theorem readTree_of {x : Tree} {l : Letter} (h : IsL x l) : (readTree x).2 = true := by
 cases hr : (readTree x).2 with
 | true => rfl
 | false =>
  exfalso
  have hno := (readTree_no hr).2
  obtain ⟨k, f, c, tx, g⟩ := l
  obtain ⟨h1, a, b, h4, hT⟩ := h
  obtain ⟨hk, hf, hs, hx, hg, _⟩ := letErr_inv h1
  have go : ∀ (p : List Nat) (fk : Nat), p ∈ deals → fk < 4 → withFake (cand x k p) fk = ⟨k, f, c, tx, g⟩ → (k = 4 ∨ fk ≠ 2) → letterT ⟨k, f, c, tx, g⟩ (fk % 2 == 1) (fk / 2 == 1) = x → False := by
   intro p fk hp hfk e1 e2 e3
   exact tryKinds_of (x := x) (k := k) hp hfk (fits_of h1 e1 (by simpa [cand] using e2) e3) (n := 7) (i := 1) (by omega) (by omega) hno
  have nog : k ≠ 1 → k ≠ 4 → g = false := by
   intro n1 n4
   cases g with
   | false => rfl
   | true => exact absurd (hg rfl) (by omega)
  rcases hk with rfl | rfl | rfl | rfl | rfl | rfl | rfl
  ·subst hT
   cases g with
   | false => exact go [0] 0 (by simp [deals]) (by omega) rfl (by omega) rfl
   | true => exact go [0] 1 (by simp [deals]) (by omega) rfl (by omega) rfl
  ·obtain rfl := nog (by omega) (by omega)
   subst hT
   exact go [0] 0 (by simp [deals]) (by omega) rfl (by omega) rfl
  ·obtain rfl := nog (by omega) (by omega)
   obtain rfl : f = 0 := hs rfl
   obtain rfl : tx = ⟨#[]⟩ := hx rfl
   subst hT
   exact go [0] 0 (by simp [deals]) (by omega) rfl (by omega) rfl
  ·have := h4 rfl
   simp only at this
   subst this
   subst hT
   cases a <;> cases b
   ·exact go [0, 1, 0, 0] 0 (by simp [deals]) (by omega) rfl (by omega) rfl
   ·exact go [0, 1, 0, 0] 2 (by simp [deals]) (by omega) rfl (by omega) rfl
   ·exact go [0, 1, 0, 0] 1 (by simp [deals]) (by omega) rfl (by omega) rfl
   ·exact go [0, 1, 0, 0] 3 (by simp [deals]) (by omega) rfl (by omega) rfl
  ·obtain rfl := nog (by omega) (by omega)
   obtain rfl : f = 0 := hs rfl
   obtain rfl : tx = ⟨#[]⟩ := hx rfl
   subst hT
   exact go [0] 0 (by simp [deals]) (by omega) rfl (by omega) rfl
  ·obtain rfl := nog (by omega) (by omega)
   obtain rfl : f = 0 := hs rfl
   subst hT
   exact go [0, 1] 0 (by simp [deals]) (by omega) rfl (by omega) rfl
  ·obtain rfl := nog (by omega) (by omega)
   obtain rfl : f = 0 := hs rfl
   obtain rfl : tx = ⟨#[]⟩ := hx rfl
   subst hT
   exact go [0] 0 (by simp [deals]) (by omega) rfl (by omega) rfl
theorem read_out {L : Pool} {t : Int} (h : inP L t = false) : read L t = (noLetter, false) := by
 have e : nodeOf L t = noNode := by simp [nodeOf, get_none h]
 have e2 : rdTagged L t = ((⟨#[]⟩, 0), true) ∨ (rdTagged L t).2 = true := by
  right
  unfold rdTagged
  have : rdNode L t 4 = (noNode, true) := by unfold rdNode; rw [if_neg (by rw [h]; simp)]
  rw [this]
  rfl
 have e3 : (rdTagged L t).2 = true := by rcases e2 with e2 | e2 <;> simp [e2]
 have : (readQ L t).2 = true := by
  unfold readQ
  simp only
  rw [e, if_neg (by decide), if_neg (by decide), if_pos (by simp [e3])]
 unfold read
 rw [if_pos this]
theorem read_ref {L : Pool} (hW : Wf L) (t : Int) : read L t = refRead L t := by
 cases hi : inP L t with
 | false =>
  rw [read_out hi]
  unfold refRead
  rw [if_neg (by simp [hi])]
 | true =>
  have hsz := size_cnt hW _ t rfl hi
  cases hq : (readQ L t).2 with
  | false =>
   have h := readQ_ok hW hi hq
   have hle : ¬ sizeOf L t > 40 := by
    obtain ⟨_, a, b, _, e⟩ := h
    have := cnt_letter (readQ L t).1 a b
    rw [← e] at this; omega
   have hr := readTree_of h
   have e : readTree (treeOf L t) = ((readTree (treeOf L t)).1, true) := Prod.ext rfl hr
   have := readQ_of hW hi (readTree_ok e)
   unfold read refRead
   rw [if_neg (by simp [hq]), if_pos ⟨hi, hle⟩, e, this]
  | true =>
   unfold read
   rw [if_pos hq]
   unfold refRead
   split
   ·cases hr : (readTree (treeOf L t)).2 with
    | false => exact (readTree_no hr).1.symm
    | true =>
     have e : readTree (treeOf L t) = ((readTree (treeOf L t)).1, true) := Prod.ext rfl hr
     have := readQ_of hW hi (readTree_ok e)
     rw [this] at hq; cases hq
   ·rfl
theorem read_app {L M : Pool} (hW : Wf (L ++ M)) {t : Int} (h : inP L t = true) : read (L ++ M) t = read L t := by
 rw [read_ref hW, read_ref hW.first]
 unfold refRead
 rw [inP_app h, h, sizeOf_app h, treeOf_app hW _ t rfl h]
end Go.Sp
end
section
open Go Go.SE
namespace Go.Sp
def showStep (q : Pool × List Int × List Letter) (t : Tree) : Pool × List Int × List Letter :=
 ((of q.1 t).2.2, q.2.1 ++ [if (of q.1 t).2.1 ≠ 0 then 9999 else (of q.1 t).1], q.2.2 ++ [(refRead (of q.1 t).2.2 (of q.1 t).1).1])
def showAll (ts : List Tree) : Pool × List Int × List Letter := ts.foldl showStep ([], [], [])
theorem make_few (L : Pool) (n : Node) : (make L n).2.2.length ≤ L.length + 1 := by
 rcases make_pool L n with e | ⟨_, e⟩ <;> rw [e] <;> simp
theorem grow_few (t : Tree) : ∀ L, (grow L t).2.2.length ≤ L.length + cnt t := by
 induction t using Tree.ind with
 | h k f t u x ks ih =>
  have : ∀ (ks : List Tree), (∀ i (hi : i < ks.length), ∀ L, (grow L ks[i]).2.2.length ≤ L.length + cnt ks[i]) → ∀ n i L, (growAll n i L ks).2.2.length ≤ L.length + 1 + cntAll ks := by
   intro ks
   induction ks with
   | nil => intro _ n i L; unfold growAll; have := make_few L n; simp only [cntAll]; omega
   | cons t ts iht =>
    intro hh n i L
    have h0 := hh 0 (by simp) L
    simp only [List.getElem_cons_zero] at h0
    unfold growAll
    simp only [cntAll]
    split
    ·simp only; omega
    ·have := iht (fun i hi => hh (i + 1) (by simpa using hi)) (if i = 0 then { n with a := (grow L t).1 } else { n with b := (grow L t).1 }) (i + 1) (grow L t).2.2
     omega
  intro L
  have := this ks ih ⟨k, f, t, u, x, 0, 0⟩ 0 L
  unfold grow
  rw [cnt]; omega
theorem of_few (L : Pool) (t : Tree) : (of L t).2.2.length ≤ L.length + cnt t := by
 have := grow_few t L
 unfold of
 split
 ·simp only; omega
 ·split
  ·simp only; omega
  ·exact this
theorem show_few : ∀ (ts : List Tree) q, (ts.foldl showStep q).1.length ≤ q.1.length + cntAll ts
 | [], q => by simp [cntAll]
 | t :: ts, q => by
  rw [List.foldl_cons]
  have := show_few ts (showStep q t)
  have := of_few q.1 t
  simp only [cntAll]
  unfold showStep at *
  simp only at *
  omega
theorem of_err {L : Pool} {t : Tree} (h : (of L t).2.1 ≠ 0) : (of L t).1 = 0 ∧ (of L t).2.2 = L := by
 unfold of at h ⊢
 split
 ·exact ⟨rfl, rfl⟩
 ·rename_i h1; rw [if_neg h1] at h
  split
  ·exact ⟨rfl, rfl⟩
  ·rename_i h2; rw [if_neg h2] at h; exact absurd rfl h
theorem refRead_frm {L : Pool} (t : Int) : (refRead L t).1 = noLetter ∨ letErr (refRead L t).1 = 0 := by
 unfold refRead
 split
 ·cases h : (readTree (treeOf L t)).2 with
  | false => left; rw [(readTree_no h).1]
  | true => right; exact (readTree_ok (Prod.ext rfl h : readTree (treeOf L t) = ((readTree (treeOf L t)).1, true))).1
 ·exact .inl rfl
theorem frmOk_read {L : Pool} (t : Int) : FrmOk (refRead L t).1 := by
 intro hk
 rcases refRead_frm (L := L) t with h | h
 ·rw [h] at hk; cases hk
 ·generalize (refRead L t).1 = l at *
  obtain ⟨k, f, c, x, g⟩ := l
  exact (letErr_inv h).2.1
theorem refRead_no {L : Pool} {t : Int} (h : inP L t = false) : (refRead L t).1 = noLetter := by unfold refRead; rw [if_neg (by simp [h])]
structure ShowOk (q : Pool × List Int × List Letter) : Prop where
 wf : Wf q.1
 len : q.2.1.length = q.2.2.length
 each : q.2.2 = q.2.1.map fun t => (read q.1 t).1
 ids : ∀ t ∈ q.2.1, t = 9999 ∨ inP q.1 t = true
 frm : ∀ l ∈ q.2.2, FrmOk l
theorem notIn {L : Pool} (h : L.length ≤ 9998) : inP L 9999 = false := by
 cases hi : inP L 9999 with
 | false => rfl
 | true => have := (inP_iff.1 hi).2; omega
theorem ShowOk.step {q : Pool × List Int × List Letter} (h : ShowOk q) (t : Tree) (hf : (of q.1 t).2.2.length ≤ 9998) : ShowOk (showStep q t) := by
 have hf0 : q.1.length ≤ 9998 := by
  obtain ⟨M, hM⟩ := of_grows h.wf.ok t
  rw [hM, List.length_append] at hf; omega
 obtain ⟨M, hM⟩ := of_grows h.wf.ok t
 have hW := of_wf h.wf t
 have old : q.2.2 = q.2.1.map fun t' => (read (of q.1 t).2.2 t').1 := by
  rw [h.each]
  refine List.map_congr_left (fun x hx => ?_)
  rcases h.ids x hx with rfl | hi
  ·rw [read_out (notIn hf0), read_out (notIn hf)]
  ·rw [hM] at hW ⊢; rw [read_app hW hi]
 have new : (refRead (of q.1 t).2.2 (of q.1 t).1).1 = (read (of q.1 t).2.2 (if (of q.1 t).2.1 ≠ 0 then 9999 else (of q.1 t).1)).1 := by
  split
  ·rename_i he
   have h0 := (of_err he).1
   rw [read_out (notIn hf), h0, refRead_no]
   cases hi : inP (of q.1 t).2.2 0 with
   | false => rfl
   | true => have := (inP_iff.1 hi).1; omega
  ·rw [read_ref hW]
 refine ⟨hW, by simp [showStep, h.len], ?_, ?_, ?_⟩
 ·simp only [showStep, List.map_append, List.map_cons, List.map_nil]
  rw [← old, new]
 ·intro x hx
  simp only [showStep, List.mem_append, List.mem_singleton] at hx
  rcases hx with hx | rfl
  ·rcases h.ids x hx with h1 | h1
   ·exact .inl h1
   ·right; show inP (of q.1 t).2.2 x = true; rw [hM]; exact inP_app h1
  ·split
   ·exact .inl rfl
   ·rename_i he; exact .inr (of_tree h.wf (by simpa using he)).1
 ·intro l hl
  simp only [showStep, List.mem_append, List.mem_singleton] at hl
  rcases hl with hl | rfl
  ·exact h.frm l hl
  ·exact frmOk_read _
theorem showAll_ok (ts : List Tree) (h : cntAll ts ≤ 6000) : ShowOk (showAll ts) ∧ (showAll ts).1.length ≤ 6000 := by
 have : ∀ (ts : List Tree) q, q.1.length + cntAll ts ≤ 6000 → ShowOk q → ShowOk (ts.foldl showStep q) := by
  intro ts
  induction ts with
  | nil => intro q _ h; exact h
  | cons t ts ih =>
   intro q hl h
   simp only [cntAll] at hl
   have := of_few q.1 t
   exact ih _ (by unfold showStep; simp only; omega) (h.step t (by omega))
 exact ⟨this ts _ (by simp; omega) ⟨Wf.nil, rfl, rfl, by simp, by simp⟩, by have := show_few ts ([], [], []); unfold showAll; simp at this; omega⟩
theorem showAll_wf (ts : List Tree) : Wf (showAll ts).1 ∧ (showAll ts).2.1.length = (showAll ts).2.2.length := by
 have : ∀ (ts : List Tree) q, Wf q.1 ∧ q.2.1.length = q.2.2.length → Wf (ts.foldl showStep q).1 ∧ (ts.foldl showStep q).2.1.length = (ts.foldl showStep q).2.2.length := by
  intro ts
  induction ts with
  | nil => intro q h; exact h
  | cons t ts ih => intro q h; exact ih _ ⟨of_wf h.1 t, by simp [showStep, h.2]⟩
 exact this ts _ ⟨Wf.nil, rfl⟩
theorem show_len (ts : List Tree) : ∀ q, (ts.foldl showStep q).2.1.length = q.2.1.length + ts.length := by
 induction ts with
 | nil => intro q; simp
 | cons t ts ih => intro q; rw [List.foldl_cons, ih]; simp [showStep]; omega
end Go.Sp
namespace Go.Proofs
attribute [local irreducible] Calls
theorem slT_term : SlType Try.prog 26 41 1 8 := by
 refine ⟨Try.underlying26, ⟨Try.t41, _, by kernel_rfl, (by kernel_rfl : Try.t41.zero = some (.int .i64 0)), by kernel_rfl, by kernel_rfl, rfl⟩, by omega⟩
structure Show4 (w0 : World) (H : Nat → Prop) (w : World) (p1 p2 : Addr) (L1 L2 : Sp.Pool) (t l : Sl) (ids : List Int) (ls : List Sp.Letter) (F1 F2 : Nat → Prop) : Prop where
 pure : Pure w0 w
 pool1 : PoolAt w p1 L1 F1
 pool2 : PoolR w p2 L2 F2
 ts : Rws w 41 1 t (trows ids)
 ls : Rws w 132 5 l (ls.map lrow)
 o1 : ∀ b, F1 b → w0.heap.size ≤ b ∧ ¬ H b ∧ ¬ F2 b ∧ ¬ t.blk b ∧ ¬ l.blk b
 o2 : ∀ b, F2 b → w0.heap.size ≤ b ∧ ¬ H b ∧ ¬ t.blk b ∧ ¬ l.blk b
 o3 : ∀ b, t.blk b → w0.heap.size ≤ b ∧ ¬ H b ∧ ¬ l.blk b
 o4 : ∀ b, l.blk b → w0.heap.size ≤ b ∧ ¬ H b
section
variable {w0 w w' : World} {H H' : Nat → Prop} {p1 p2 : Addr} {L1 L2 : Sp.Pool} {t l : Sl} {ids : List Int} {ls : List Sp.Letter} {F1 F2 : Nat → Prop}
theorem Show4.pureE (h : Show4 w0 H w p1 p2 L1 L2 t l ids ls F1 F2) (E : Pure w w') : Show4 w0 H w' p1 p2 L1 L2 t l ids ls F1 F2 :=
 ⟨h.pure.trans E, h.pool1.pure E, h.pool2.pure E, h.ts.pure E, h.ls.pure E, h.o1, h.o2, h.o3, h.o4⟩
theorem Show4.hst (h : Show4 w0 H w p1 p2 L1 L2 t l ids ls F1 F2) (hs : Hst w0 H w H' w') : Show4 w0 H' w' p1 p2 L1 L2 t l ids ls F1 F2 := by
 have d : ∀ b, b < w.heap.size → ¬ H b → ¬ H' b := fun b h1 h2 => hs.disj (G := (· = b)) (fun c e => by subst e; exact ⟨h1, h2⟩) b rfl
 have d1 : ∀ b, F1 b → ¬ H' b := fun b hb => d b (h.pool1.lt hb) (h.o1 b hb).2.1
 have d2 : ∀ b, F2 b → ¬ H' b := fun b hb => d b (h.pool2.lt hb) (h.o2 b hb).2.1
 have d3 : ∀ b, t.blk b → ¬ H' b := fun b hb => d b (h.ts.lt hb) (h.o3 b hb).2.1
 have d4 : ∀ b, l.blk b → ¬ H' b := fun b hb => d b (h.ls.lt hb) (h.o4 b hb).2
 exact ⟨h.pure.hst hs, h.pool1.ext hs.ext d1, h.pool2.ext hs.ext d2, h.ts.ext hs.ext d3, h.ls.ext hs.ext d4, fun b hb => ⟨(h.o1 b hb).1, d1 b hb, (h.o1 b hb).2.2⟩, fun b hb => ⟨(h.o2 b hb).1, d2 b hb, (h.o2 b hb).2.2⟩, fun b hb => ⟨(h.o3 b hb).1, d3 b hb, (h.o3 b hb).2.2⟩, fun b hb => ⟨(h.o4 b hb).1, d4 b hb⟩⟩
theorem Show4.of1 (h : Show4 w0 H w p1 p2 L1 L2 t l ids ls F1 F2) (hH : ∀ b, H b → b < w.heap.size) {L : Sp.Pool} {F : Nat → Prop} (hP : PoolAt w' p1 L F) (hE : Ext F1 w w') (hF : ∀ b, F b → F1 b ∨ w.heap.size ≤ b) : Show4 w0 H w' p1 p2 L L2 t l ids ls F F2 := by
 refine ⟨h.pure.trans' hE (fun i hi hb => by have := (h.o1 i hb).1; omega), hP, h.pool2.ext hE (fun b hb h1 => (h.o1 b h1).2.2.1 hb), h.ts.ext hE (fun b hb h1 => (h.o1 b h1).2.2.2.1 hb), h.ls.ext hE (fun b hb h1 => (h.o1 b h1).2.2.2.2 hb), fun b hb => ?_, h.o2, h.o3, h.o4⟩
 rcases hF b hb with h1 | h1
 ·exact h.o1 b h1
 ·exact ⟨by have := h.pure.size; omega, fun hh => by have := hH b hh; omega, fun hh => by have := h.pool2.lt hh; omega, fun hh => by have := h.ts.lt hh; omega, fun hh => by have := h.ls.lt hh; omega⟩
theorem Show4.of2 (h : Show4 w0 H w p1 p2 L1 L2 t l ids ls F1 F2) (hH : ∀ b, H b → b < w.heap.size) {L : Sp.Pool} {F : Nat → Prop} (hP : PoolR w' p2 L F) (hE : Ext F2 w w') (hF : ∀ b, F b → F2 b ∨ w.heap.size ≤ b) : Show4 w0 H w' p1 p2 L1 L t l ids ls F1 F := by
 refine ⟨h.pure.trans' hE (fun i hi hb => by have := (h.o2 i hb).1; omega), h.pool1.ext hE (fun b hb h1 => (h.o1 b hb).2.2.1 h1), hP, h.ts.ext hE (fun b hb h1 => (h.o2 b h1).2.2.1 hb), h.ls.ext hE (fun b hb h1 => (h.o2 b h1).2.2.2 hb), fun b hb => ?_, fun b hb => ?_, h.o3, h.o4⟩
 ·refine ⟨(h.o1 b hb).1, (h.o1 b hb).2.1, fun hh => ?_, (h.o1 b hb).2.2.2⟩
  rcases hF b hh with h1 | h1
  ·exact (h.o1 b hb).2.2.1 h1
  ·have := h.pool1.lt hb; omega
 ·rcases hF b hb with h1 | h1
  ·exact h.o2 b h1
  ·exact ⟨by have := h.pure.size; omega, fun hh => by have := hH b hh; omega, fun hh => by have := h.ts.lt hh; omega, fun hh => by have := h.ls.lt hh; omega⟩
theorem Show4.of3 (h : Show4 w0 H w p1 p2 L1 L2 t l ids ls F1 F2) (hH : ∀ b, H b → b < w.heap.size) {t' : Sl} {ids' : List Int} (hP : Rws w' 41 1 t' (trows ids')) (hE : Ext t.blk w w') (hF : ∀ b, t'.blk b → t.blk b ∨ w.heap.size ≤ b) : Show4 w0 H w' p1 p2 L1 L2 t' l ids' ls F1 F2 := by
 refine ⟨h.pure.trans' hE (fun i hi hb => by have := (h.o3 i hb).1; omega), h.pool1.ext hE (fun b hb h1 => (h.o1 b hb).2.2.2.1 h1), h.pool2.ext hE (fun b hb h1 => (h.o2 b hb).2.2.1 h1), hP, h.ls.ext hE (fun b hb h1 => (h.o3 b h1).2.2 hb), fun b hb => ?_, fun b hb => ?_, fun b hb => ?_, h.o4⟩
 ·refine ⟨(h.o1 b hb).1, (h.o1 b hb).2.1, (h.o1 b hb).2.2.1, fun hh => ?_, (h.o1 b hb).2.2.2.2⟩
  rcases hF b hh with h1 | h1
  ·exact (h.o1 b hb).2.2.2.1 h1
  ·have := h.pool1.lt hb; omega
 ·refine ⟨(h.o2 b hb).1, (h.o2 b hb).2.1, fun hh => ?_, (h.o2 b hb).2.2.2⟩
  rcases hF b hh with h1 | h1
  ·exact (h.o2 b hb).2.2.1 h1
  ·have := h.pool2.lt hb; omega
 ·rcases hF b hb with h1 | h1
  ·exact h.o3 b h1
  ·exact ⟨by have := h.pure.size; omega, fun hh => by have := hH b hh; omega, fun hh => by have := h.ls.lt hh; omega⟩
theorem Show4.of4 (h : Show4 w0 H w p1 p2 L1 L2 t l ids ls F1 F2) (hH : ∀ b, H b → b < w.heap.size) {l' : Sl} {ls' : List Sp.Letter} (hP : Rws w' 132 5 l' (ls'.map lrow)) (hE : Ext l.blk w w') (hF : ∀ b, l'.blk b → l.blk b ∨ w.heap.size ≤ b) : Show4 w0 H w' p1 p2 L1 L2 t l' ids ls' F1 F2 := by
 refine ⟨h.pure.trans' hE (fun i hi hb => by have := (h.o4 i hb).1; omega), h.pool1.ext hE (fun b hb h1 => (h.o1 b hb).2.2.2.2 h1), h.pool2.ext hE (fun b hb h1 => (h.o2 b hb).2.2.2 h1), h.ts.ext hE (fun b hb h1 => (h.o3 b hb).2.2 h1), hP, fun b hb => ?_, fun b hb => ?_, fun b hb => ?_, fun b hb => ?_⟩
 ·refine ⟨(h.o1 b hb).1, (h.o1 b hb).2.1, (h.o1 b hb).2.2.1, (h.o1 b hb).2.2.2.1, fun hh => ?_⟩
  rcases hF b hh with h1 | h1
  ·exact (h.o1 b hb).2.2.2.2 h1
  ·have := h.pool1.lt hb; omega
 ·refine ⟨(h.o2 b hb).1, (h.o2 b hb).2.1, (h.o2 b hb).2.2.1, fun hh => ?_⟩
  rcases hF b hh with h1 | h1
  ·exact (h.o2 b hb).2.2.2 h1
  ·have := h.pool2.lt hb; omega
 ·refine ⟨(h.o3 b hb).1, (h.o3 b hb).2.1, fun hh => ?_⟩
  rcases hF b hh with h1 | h1
  ·exact (h.o3 b hb).2.2 h1
  ·have := h.ts.lt hb; omega
 ·rcases hF b hb with h1 | h1
  ·exact h.o4 b h1
  ·exact ⟨by have := h.pure.size; omega, fun hh => by have := hH b hh; omega⟩
end
theorem c_law13_shown {S : Nat → Prop} (ts : List Sp.Tree) (s : Sl) (w0 : World) (hT : TreeAt S w0 s (.mk 0 0 0 0 ⟨#[]⟩ ts)) (hS : ∀ b, S b → b < w0.heap.size) (hn : ts.length ≤ 80) (hc : Sp.cntAll ts ≤ 12000) :
  Calls Try.prog 17 #[s.v] w0 (fun e w' => ∃ r1 : Option Addr, ∃ r2 : Sl, ∃ r3 : Sl, e = .returned (.tuple #[.pointer r1, r2.v, r3.v]) ∧ ∃ p1 p2 F1 F2, r1 = some p1 ∧ Show4 w0 None w' p1 p2 (Sp.showAll ts).1 (Sp.showAll ts).1 r2 r3 (Sp.showAll ts).2.1 (Sp.showAll ts).2.2 F1 F2) := by
 suffices key : ∀ K : Option Addr → Sl → Sl → World → Prop, (∀ p1 p2 F1 F2 H r2 r3 w', Show4 w0 H w' p1 p2 (Sp.showAll ts).1 (Sp.showAll ts).1 r2 r3 (Sp.showAll ts).2.1 (Sp.showAll ts).2.2 F1 F2 → K (some p1) r2 r3 w') → m_law13_shown s w0 K from
  w_law13_shown _ w0 _ (key _ (fun p1 p2 F1 F2 H r2 r3 w' h => ⟨p1, p2, F1, F2, rfl, h.pure, h.pool1, h.pool2, h.ts, h.ls, fun b hb => ⟨(h.o1 b hb).1, id, (h.o1 b hb).2.2⟩, fun b hb => ⟨(h.o2 b hb).1, id, (h.o2 b hb).2.2⟩, fun b hb => ⟨(h.o3 b hb).1, id, (h.o3 b hb).2.2⟩, fun b hb => ⟨(h.o4 b hb).1, id⟩⟩))
 intro K hK
 have hnil : ∀ b, Sl.nil.blk b → False := fun b hb => by obtain ⟨a, h, _⟩ := hb; cases h
 cases hT with
 | mk _ _ _ _ _ _ _ rs len fit row kid =>
 unfold m_law13_shown
 refine (c_New w0).mono ?_
 rintro _ w1 ⟨_, rfl, p1, rfl, E1, F1, hP1, hF1⟩
 refine ⟨_, rfl, E1.keptP, ?_⟩
 refine (c_ref05_New w1).mono ?_
 rintro _ w2 ⟨_, rfl, p2, F2, rfl, hP2, E2, hF2⟩
 refine ⟨_, rfl, E2.keptP, Br.f rfl ?_⟩
 have S0 : Show4 w0 None w2 p1 p2 [] [] Sl.nil Sl.nil [] [] F1 F2 := ⟨E1.trans E2, hP1.pure E2, hP2, Rws.nil _ _ _, Rws.nil _ _ _,
  fun b hb => ⟨hF1 b hb, id, fun h2 => by have := hF2 b h2; have := hP1.lt hb; omega, hnil b, hnil b⟩, fun b hb => ⟨by have := hF2 b hb; have := E1.size; omega, id, hnil b, hnil b⟩, fun b hb => (hnil b hb).elim, fun b hb => (hnil b hb).elim⟩
 refine ⟨fun t l i H w' => ∃ j : Nat, i = j ∧ j ≤ ts.length ∧ ∃ F1 F2, Show4 w0 H w' p1 p2 (Sp.showAll (ts.take j)).1 (Sp.showAll (ts.take j)).1 t l (Sp.showAll (ts.take j)).2.1 (Sp.showAll (ts.take j)).2.2 F1 F2, fun _ _ i _ => ((ts.length : Int) - i).toNat, ⟨0, rfl, Nat.zero_le _, F1, F2, S0⟩, ?_⟩
 rintro t l _ Hl wl hl ⟨j, rfl, hj, F1, F2, hq⟩
 unfold m_law13_shown_l1
 refine ⟨fun h => ?_, fun h => ?_⟩
 ·have hlt := lt_of_dec len h
  have htk : ts.take (j + 1) = ts.take j ++ [ts[j]] := List.take_succ_eq_append_getElem hlt
  have hok := Sp.showAll_wf (ts.take j)
  have hstep : Sp.showAll (ts.take (j + 1)) = Sp.showStep (Sp.showAll (ts.take j)) ts[j] := by rw [htk]; unfold Sp.showAll; rw [List.foldl_append]; rfl
  have hlens : (Sp.showAll (ts.take j)).2.1.length = j := by
   have := Sp.show_len (ts.take j) ([], [], [])
   rw [List.length_take, Nat.min_eq_left (by omega)] at this
   simpa [Sp.showAll] using this
  generalize Sp.showAll (ts.take j) = q at *
  obtain ⟨a, hat, hSa, hrow⟩ := row j hlt
  have hkid := kid j hlt
  have hcj : Sp.cnt ts[j] ≤ 12000 := by have := Sp.cntAll_get hlt; omega
  generalize ts[j] = x at *
  generalize rs j = sx at *
  obtain ⟨xk, xf, xt, xu, xx, xks⟩ := x
  have hrl : Row wl a (trow (.mk xk xf xt xu xx xks) sx) := hq.pure.row hrow (fun h => h)
  refine ⟨a, hat, _, _, _, _, _, sx, hrl, ?_⟩
  refine (c_ref05_Lent (.mk xk xf xt xu xx xks) sx wl (by omega) (hkid.pure hq.pure) (fun b hb => by have := hS b hb; have := hq.pure.size; omega)).mono ?_
  rintro _ w3 ⟨s3, rfl, hT3, E3⟩
  refine ⟨_, _, _, _, _, s3, rfl, E3.keptP, ?_⟩
  have hq3 := hq.pureE E3
  have hl3 := hl.again E3.keptP
  refine (c_Of (S := fun b => wl.heap.size ≤ b ∧ b < w3.heap.size) p1 (.mk xk xf xt xu xx xks) s3 w3 hT3.lt hq3.pool1 hok.1.ok (fun b hb hh => by have := hq.pool1.lt hb; omega) (fun b hb => hb.2)).mono ?_
  rintro _ w4 ⟨r3, r4, rfl, h34, F1', hP4, E4, hF4⟩
  have k4 : Kept Hl w3 w4 := E4.kept (fun b hb h1 => (hq3.o1 b h1).2.1 hb)
  refine ⟨_, _, rfl, k4, ?_⟩
  have hq4 := hq3.of1 (fun b hb => hl3.lt b hb) hP4 E4 hF4
  have hl4 := hl3.again k4
  have hr4 : Row w4 a (trow (.mk xk xf xt xu xx xks) sx) := hq4.pure.row hrow (fun h => h)
  refine ⟨a, hat, _, _, _, _, _, sx, hr4, ?_⟩
  refine (c_ref05_Of (S := S) p2 (.mk xk xf xt xu xx xks) sx w4 (hkid.pure hq4.pure) hq4.pool2 hok.1.ok (fun b hb hh => by have := (hq4.o2 b hb).1; have := hS b hh; omega) (fun b hb => by have := hS b hb; have := hq4.pure.size; omega)).mono ?_
  rintro _ w5 ⟨r5, r6, rfl, h56, F2', hP5, E5, hF5⟩
  have k5 : Kept Hl w4 w5 := E5.kept (fun b hb h1 => (hq4.o2 b h1).2.1 hb)
  refine ⟨_, _, rfl, k5, ?_⟩
  have hq5 := hq4.of2 (fun b hb => hl4.lt b hb) hP5 E5 hF5
  have hl5 := hl4.again k5
  intro H1 w6 hs6
  have hq6 := hq5.hst hs6
  intro pa w7 h7
  have E7 : Pure w6 w7 := Ext.new h7
  have hq7 := hq6.pureE E7
  have hs7 := hs6.here.again E7.keptP
  obtain ⟨s1, w8, hr8, hR8, E8, hb8⟩ := hq7.ts.append (P := Try.prog) (ty := 26) (c := 1) slT_term (r := [.int .i64 (cond (r4 != 0) 9999 r3)]) (Box.of_new h7).row rfl rfl (by simp [trows]; omega) (by simp [trows, maxLen]; omega)
  have k8 : Kept H1 w7 w8 := E8.kept (fun b hb h1 => (hq7.o3 b h1).2.1 hb)
  refine ⟨s1, w8, hr8, k8, ?_⟩
  have hq8 := hq7.of3 (fun b hb => hs7.lt b hb) (ids' := q.2.1 ++ [cond (r4 != 0) 9999 r3]) (by simpa [trows] using hR8) E8 hb8
  have hs8 := hs7.again k8
  have hW : Sp.Wf (Sp.of q.1 (.mk xk xf xt xu xx xks)).2.2 := Sp.of_wf hok.1 _
  refine (c_ref11_Read p2 hW r5 w8 F2' hq8.pool2).mono ?_
  rintro _ w9 ⟨rk, rf, rc, rx, rg, r7, rfl, hrd, E9⟩
  refine ⟨_, _, _, _, _, _, rfl, E9.keptP, ?_⟩
  have hq9 := hq8.pureE E9
  have hs9 := hs8.again E9.keptP
  intro H2 w11 hs11
  have hq11 := hq9.hst hs11
  intro p3 w12 h12
  have E12 : Pure w11 w12 := Ext.new h12
  have hq12 := hq11.pureE E12
  have hs12 := hs11.here.again E12.keptP
  obtain ⟨s2, w13, hr13, hR13, E13, hb13⟩ := hq12.ls.append (P := Try.prog) (ty := 27) (c := 1) slT_letter (r := lrow ⟨rk, rf, rc, rx, rg⟩) (Box.of_new h12).row rfl rfl (by simp; have := hok.2; omega) (by simp [maxLen]; have := hok.2; omega)
  have k13 : Kept H2 w12 w13 := E13.kept (fun b hb h1 => (hq12.o4 b h1).2 hb)
  refine ⟨s2, w13, hr13, k13, ?_⟩
  have hq13 := hq12.of4 (fun b hb => hs12.lt b hb) (ls' := q.2.2 ++ [⟨rk, rf, rc, rx, rg⟩]) (by simpa using hR13) E13 hb13
  rw [wrap_succ hlt (by omega)]
  refine ⟨⟨j + 1, rfl, hlt, F1', F2', ?_⟩, lt_dec hlt⟩
  rw [hstep]
  injection h34 with e3 e4
  injection h56 with e5 e6
  have eid : (cond (r4 != 0) 9999 r3) = (if (Sp.of q.1 (.mk xk xf xt xu xx xks)).2.1 ≠ 0 then 9999 else (Sp.of q.1 (.mk xk xf xt xu xx xks)).1) := by
   rw [← e3, ← e4]
   by_cases h0 : r4 = 0
   ·subst h0; rfl
   ·rw [if_pos h0, bne_iff_ne.2 h0]; rfl
  have elt : (⟨rk, rf, rc, rx, rg⟩ : Sp.Letter) = (Sp.refRead (Sp.of q.1 (.mk xk xf xt xu xx xks)).2.2 (Sp.of q.1 (.mk xk xf xt xu xx xks)).1).1 := by
   rw [← e5, ← hrd]
  rw [eid, elt] at hq13
  exact hq13
 ·have hge := eq_of_dec len hj h
  subst hge
  rw [List.take_length] at hq
  exact hK _ _ _ _ _ _ _ _ hq
end Go.Proofs
end
section
open Go Go.SE
namespace Go.SE
section
variable {P : Program} {t e : TypeId} {sz bytes : Nat}
end
end Go.SE
end
section
open Go Go.SE
namespace Go.Sp
def wt : ByteArray := ⟨#[116]⟩
def wu : ByteArray := ⟨#[117]⟩
def lvA : Tree := letterT ⟨2, 1, 7, wt, false⟩ false false
def lvB : Tree := letterT ⟨1, 1, 7, wt, false⟩ false false
def lvC : Tree := letterT ⟨2, 1, 7, wu, false⟩ false false
def lv1 : Pool := (of [] lvA).2.2
def lv2 : Pool := (of lv1 lvB).2.2
def lv3 : Pool := (of lv2 lvC).2.2
theorem lv_a : (of [] lvA).1 = 6 ∧ (of [] lvA).2.1 = 0 := by constructor <;> kernel_rfl
theorem lv_b : (of lv1 lvB).1 = 7 ∧ (of lv1 lvB).2.1 = 0 := by constructor <;> kernel_rfl
theorem lv_c : (of lv2 lvC).1 = 11 ∧ (of lv2 lvC).2.1 = 0 := by constructor <;> kernel_rfl
theorem lv_x : judgeFrom 1 7 wt 0 (Go.Proofs.readAll lv3 [7, 6]) = (true, 1, 1) := by kernel_rfl
theorem lv_y : judgeFrom 1 7 wt 0 (Go.Proofs.readAll lv3 [7]) = (false, 0, -1) := by kernel_rfl
theorem lv_l : faults (Go.Proofs.readAll lv3 [6, 7, 11]) = [⟨1, 7, 1, 0, 2⟩] := by kernel_rfl
end Go.Sp
end
