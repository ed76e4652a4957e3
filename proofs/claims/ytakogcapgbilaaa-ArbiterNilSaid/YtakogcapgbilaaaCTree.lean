/- Contracts: escrow/term, trees in memory; nodeOf, looks. -/
import Derived.Test.YtakogcapgbilaaaCPoolC
import Derived.Test.YtakogcapgbilaaaSpTree
open Go Go.SE
namespace Go.Proofs
attribute [local irreducible] Calls

def trow (t : Sp.Tree) (s : Sl) : List Value := [.int .i64 t.node.kind, .int .i64 t.node.frm, .int .i64 t.node.to, .int .u64 t.node.num, .string t.node.text, s.v]
/-- A tree's kids lie at a slice; S are the blocks where they may lie. -/
inductive TreeAt (S : Nat → Prop) (w : World) : Sl → Sp.Tree → Prop
  | mk (k f t u : Int) (x : ByteArray) (ks : List Sp.Tree) (s : Sl) (rs : Nat → Sl) (len : s.len = ks.length) (fit : ks.length ≤ 9223372036854775807)
      (row : ∀ i (h : i < ks.length), ∃ a, At s i 6 a ∧ S a.block ∧ Row w a (trow ks[i] (rs i))) (kid : ∀ i (h : i < ks.length), TreeAt S w (rs i) ks[i]) : TreeAt S w s (.mk k f t u x ks)
theorem TreeAt.ext {S F : Nat → Prop} {w w' : World} {s : Sl} {t : Sp.Tree} (h : TreeAt S w s t) (hE : Ext F w w') (hd : ∀ b, S b → ¬ F b) : TreeAt S w' s t := by
  induction h with
  | mk k f t u x ks s rs len fit row kid ih =>
    exact .mk k f t u x ks s rs len fit (fun i h => let ⟨a, h1, h2, h3⟩ := row i h; ⟨a, h1, h2, hE.row h3 (hd _ h2)⟩) ih
theorem TreeAt.pure {S : Nat → Prop} {w w' : World} {s : Sl} {t : Sp.Tree} (h : TreeAt S w s t) (hE : Pure w w') : TreeAt S w' s t := h.ext hE (fun _ _ h => h)
theorem TreeAt.mono {S S' : Nat → Prop} {w : World} {s : Sl} {t : Sp.Tree} (h : TreeAt S w s t) (hd : ∀ b, S b → S' b) : TreeAt S' w s t := by
  induction h with
  | mk k f t u x ks s rs len fit row kid ih =>
    exact .mk k f t u x ks s rs len fit (fun i h => let ⟨a, h1, h2, h3⟩ := row i h; ⟨a, h1, hd _ h2, h3⟩) ih

theorem c_nodeOf (k f t u : Int) (x : ByteArray) (s : Sl) (w : World) :
    Calls Try.prog 156 #[.agg #[.int .i64 k, .int .i64 f, .int .i64 t, .int .u64 u, .string x, s.v]] w
      (fun e w' => ∃ k' : Int, ∃ f' : Int, ∃ t' : Int, ∃ u' : Int, ∃ x' : ByteArray, ∃ a : Int, ∃ b : Int, e = .returned (.agg #[.int .i64 k', .int .i64 f', .int .i64 t', .int .u64 u', .string x', .int .i64 a, .int .i64 b]) ∧ ((⟨k', f', t', u', x', a, b⟩ : Sp.Node) = ⟨k, f, t, u, x, 0, 0⟩ ∧ Pure w w')) := by
  refine w_term_nodeOf _ _ _ _ _ _ w (fun k' f' t' u' x' a b w' => (⟨k', f', t', u', x', a, b⟩ : Sp.Node) = ⟨k, f, t, u, x, 0, 0⟩ ∧ Pure w w') ?_
  unfold m_term_nodeOf
  intro p1 w1 h1 p2 w2 h2
  have E1 : Pure w w1 := Ext.new h1
  have b1 := (Box.of_new h1).pure (Ext.new h2)
  refine ⟨_, b1.cell0, _, b1.cell rfl, _, b1.cell rfl, _, b1.cell rfl, _, b1.cell rfl, ?_⟩
  exact bx 7 (Box.of_new h2) rfl rfl (fun w' b E => ⟨_, _, _, _, _, _, _, b.row, rfl, (E1.trans (Ext.new h2)).own (New.own E1 h2) E⟩)

theorem looks_mono (t : Sp.Tree) : ∀ i n : Int, 0 ≤ n → 0 ≤ (Sp.looks i n t).2 := by
  induction t using Sp.Tree.ind with
  | h k f t u x ks ih =>
    have : ∀ (ks : List Sp.Tree), (∀ i (hi : i < ks.length), ∀ j n : Int, 0 ≤ n → 0 ≤ (Sp.looks j n ks[i]).2) → ∀ i e n : Int, 0 ≤ n → 0 ≤ (Sp.looksAll i e n ks).2 := by
      intro ks
      induction ks with
      | nil => intro _ i e n h; simpa [Sp.looksAll] using h
      | cons t ts iht =>
        intro hh i e n h
        unfold Sp.looksAll
        split
        · exact iht (fun i hi => hh (i + 1) (by simpa using hi)) _ _ _ (hh 0 (by simp) i n h)
        · exact h
    intro i n h
    unfold Sp.looks
    split
    · exact h
    · split
      · exact h
      · exact this ks ih _ _ _ (by omega)
theorem looksAll_drop {ks : List Sp.Tree} {j : Nat} (hj : j < ks.length) (i n : Int) : Sp.looksAll i 0 n (ks.drop j) = Sp.looksAll i (Sp.looks i n ks[j]).1 (Sp.looks i n ks[j]).2 (ks.drop (j + 1)) := by
  rw [List.drop_eq_getElem_cons hj, Sp.looksAll, if_pos rfl]
theorem looksAll_bad {ks : List Sp.Tree} {e : Int} (h : e ≠ 0) (i n : Int) : Sp.looksAll i e n ks = (e, n) := by
  cases ks <;> simp [Sp.looksAll, h]

theorem c_looks {S : Nat → Prop} (q : Addr) (hq : ¬ S q.block) (T : TypeId) (t : Sp.Tree) : ∀ (s : Sl) (inside seen : Int) (w : World), 0 ≤ inside → 0 ≤ seen → TreeAt S w s t → Box w q [.int .i64 seen] T →
    Calls Try.prog 116 #[.agg (trow t s).toArray, .int .i64 inside, .pointer (some q)] w
      (fun e w' => ∃ r : Int, e = .returned (.int .i64 r) ∧ (r = (Sp.looks inside seen t).1 ∧ Box w' q [.int .i64 (Sp.looks inside seen t).2] T ∧ Ext (· = q.block) w w')) := by
  induction t using Sp.Tree.ind with
  | h k f t u x ks ih =>
  intro s inside seen w hi0 hn0 hT hB
  suffices key : ∀ K : Int → World → Prop, (∀ r w', (r = (Sp.looks inside seen (.mk k f t u x ks)).1 ∧ Box w' q [.int .i64 (Sp.looks inside seen (.mk k f t u x ks)).2] T ∧ Ext (· = q.block) w w') → K r w') → m_term_looks k f t u x s inside (some q) w K from
    w_term_looks _ _ _ _ _ _ _ _ w _ (key _ (fun _ _ h => h))
  intro K hK
  unfold m_term_looks
  intro p1 w1 h1
  have b1 := Box.of_new h1
  have E1 : Pure w w1 := Ext.new h1
  have n1 : q.block ≠ p1.block := New.ne h1 hB.blk
  have hB1 := hB.pure E1
  have hT1 := hT.pure E1
  refine ⟨q, rfl, seen, hB1.cell0, fun h => ?_, fun h => ⟨fun h' => ?_, fun h' => ?_⟩⟩
  · have h := of_decide_eq_true h
    have : Sp.looks inside seen (.mk k f t u x ks) = (52, seen) := by rw [Sp.looks, if_pos (by omega)]
    rw [this] at hK; exact hK _ _ ⟨rfl, hB1, E1.pure⟩
  · have h := of_decide_eq_false h; have h' := of_decide_eq_true h'
    have : Sp.looks inside seen (.mk k f t u x ks) = (52, seen) := by rw [Sp.looks, if_neg (by omega), if_pos (by omega)]
    rw [this] at hK; exact hK _ _ ⟨rfl, hB1, E1.pure⟩
  have h := of_decide_eq_false h; have h' := of_decide_eq_false h'
  have hsp : Sp.looks inside seen (.mk k f t u x ks) = Sp.looksAll (inside + 1) (Sp.ownErr ⟨k, f, t, u, x, 0, 0⟩ ks.length) (seen + 1) ks := by rw [Sp.looks, if_neg (by omega), if_neg (by omega)]
  rw [hsp] at hK
  unfold m_term_looks_j1
  refine ⟨q, rfl, seen, hB1.cell0, q, rfl, hB1.canW0 (by simp), ?_⟩
  rw [i64 (n := seen + 1) (by omega) (by omega)]
  intro w2 hw2
  have hB2 : Box w2 q [.int .i64 (seen + 1)] T := by rw [hw2]; exact hB1.set0
  have E12 : Ext (· = q.block) w1 w2 := by rw [hw2]; exact Ext.setCell q _
  clear hw2
  have b2 := b1.ext E12 (fun e => n1 e.symm)
  have hT2 := hT1.ext E12 (fun b hb e => hq (e ▸ hb))
  have E2 : Ext (· = q.block) w w2 := E1.pure.trans E12
  refine ⟨_, _, _, _, _, _, b2.row, ?_⟩
  refine (c_nodeOf _ _ _ _ _ _ w2).mono ?_
  rintro _ w3 ⟨k', f', t', u', x', a', b', rfl, hn, E23⟩
  cases hn
  refine ⟨_, _, _, _, _, _, _, rfl, ?_⟩
  intro p2 w4 h4
  have n2 : p1.block ≠ p2.block := New.ne h4 (b2.pure E23).blk
  have E24 : Pure w2 w4 := E23.trans (Ext.new h4)
  have o2 := New.own E23 h4
  refine bx 7 (Box.of_new h4) rfl rfl (fun w5 c2 E45 => ?_)
  have E25 : Pure w2 w5 := E24.own o2 E45
  refine ⟨_, _, _, _, _, _, _, c2.row, ?_⟩
  refine (c_plain _ _ _ _ _ _ _ w5).mono ?_
  rintro _ w6 ⟨s1, s2, s3, s4, s5, pe, rfl, ⟨hs, hpe⟩, E56⟩
  refine ⟨_, _, _, _, _, _, rfl, ?_⟩
  intro p3 w7 h7
  have n3 : p2.block ≠ p3.block := New.ne h7 (c2.pure E56).blk
  have E27 : Pure w2 w7 := (E25.trans E56).trans (Ext.new h7)
  have o3 := New.own (E25.trans E56) h7
  refine bx 5 (Box.of_new h7) rfl rfl (fun w8 c3 E78 => ?_)
  have E28 : Pure w2 w8 := E27.own o3 E78
  have d2 := ((c2.pure E56).pure (Ext.new h7)).ext E78 n3
  have d1 := b2.pure E28
  have hB8 := hB2.pure E28
  have hT8 := hT2.pure E28
  have E8 : Ext (· = q.block) w w8 := E2.thenPure E28
  clear E78 E27 E56 E25 E45 E24 E23 E12 c2 b2 b1 hT2 hT1 hB1 h1 h4 h7
  have hlen : s.len = ks.length := by cases hT; assumption
  have hfit : ks.length ≤ 9223372036854775807 := by cases hT; assumption
  have hsh : Sp.shapeOf k = ⟨s1, s2, s3, s4, s5⟩ := hs.symm
  -- the loop over the kids
  have J3 : ∀ e w', Pure w8 w' → e = Sp.ownErr ⟨k, f, t, u, x, 0, 0⟩ ks.length → m_term_looks_j3 inside (some q) p1 e w' K := by
    intro e w' E hown
    rw [← hown] at hK
    unfold m_term_looks_j3
    refine ⟨fun e i w' => ∃ j : Nat, i = j ∧ j ≤ ks.length ∧ ∃ n : Int, 0 ≤ n ∧ Ext (· = q.block) w8 w' ∧ Box w' q [.int .i64 n] T ∧ Sp.looksAll (inside + 1) e n (ks.drop j) = Sp.looksAll (inside + 1) (Sp.ownErr ⟨k, f, t, u, x, 0, 0⟩ ks.length) (seen + 1) ks, fun _ i _ => ((ks.length : Int) - i).toNat, ⟨0, rfl, Nat.zero_le _, seen + 1, by omega, E.pure, hB8.pure E, by rw [hown]; rfl⟩, ?_⟩
    rintro e1 _ wl ⟨j, rfl, hj, n, hn, El, hBl, heq⟩
    unfold m_term_looks_l4
    have dl := d1.ext El (fun e => n1 e.symm)
    have hTl := hT8.ext El (fun b hb e => hq (e ▸ hb))
    rw [← hown] at heq
    have fin : ∀ n', Sp.looksAll (inside + 1) e ((seen : Int) + 1) ks = (e1, n') → n' = n → K e1 wl := by
      rintro n' h rfl
      refine hK _ _ ⟨by rw [h], by rw [h]; exact hBl, E8.trans El⟩
    refine ⟨s, dl.cell rfl, fun hlt => ⟨fun he => ?_, fun he => ?_⟩, fun hlt => ?_⟩
    · have hlt : j < ks.length := by have h := of_decide_eq_true hlt; omega
      have he : e1 = 0 := by simpa using he
      subst he
      cases hTl with
      | mk _ _ _ _ _ _ _ rs len fit row kid =>
      obtain ⟨a, hat, ha, hr⟩ := row j hlt
      refine ⟨s, dl.cell rfl, a, hat, _, _, _, _, _, rs j, hr, ?_⟩
      rw [i64 (n := inside + 1) (by omega) (by omega)]
      refine (ih j hlt (rs j) (inside + 1) n wl (by omega) hn (kid j hlt) hBl).mono ?_
      rintro _ w9 ⟨r, rfl, rfl, hB9, E9⟩
      rw [looksAll_drop hlt] at heq
      refine ⟨_, rfl, ⟨j + 1, ?_, hlt, _, looks_mono _ _ _ hn, El.trans E9, hB9, by rw [← hown]; exact heq⟩, ?_⟩
      · rw [i64 (by omega) (by omega)]; omega
      · show ((ks.length : Int) - IntKind.i64.wrap ((j : Int) + 1)).toNat < ((ks.length : Int) - (j : Int)).toNat
        rw [i64 (by omega) (by omega)]; omega
    · have he : e1 ≠ 0 := by simpa using he
      rw [looksAll_bad he] at heq
      exact fin _ heq.symm rfl
    · have hge : j = ks.length := by have h := of_decide_eq_false hlt; omega
      rw [hge, List.drop_length, Sp.looksAll] at heq
      exact fin _ heq.symm rfl
  have J2 : ∀ e1, e1 = (if pe = 0 then if (ks.length : Int) ≠ s5 then 53 else 0 else pe) → m_term_looks_j2 inside (some q) p1 p2 p3 e1 w8 K := by
    intro e1 he1
    have hown : Sp.ownErr ⟨k, f, t, u, x, 0, 0⟩ ks.length = if e1 = 0 then Sp.fieldsErr ⟨s1, s2, s3, s4, s5⟩ ⟨k, f, t, u, x, 0, 0⟩ else e1 := by
      unfold Sp.ownErr
      simp only [hsh, ← hpe, he1]
    unfold m_term_looks_j2
    refine ⟨fun h => ⟨_, _, _, _, _, c3.row, _, _, _, _, _, _, _, d2.row, ?_⟩, fun h => J3 _ _ (Ext.refl _) ?_⟩
    · have h : e1 = 0 := by simpa using h
      refine (c_fields _ _ _ _ _ _ _ _ _ _ _ _ _).mono ?_
      rintro _ w9 ⟨_, rfl, rfl, E9⟩
      exact ⟨_, rfl, J3 _ _ E9 (by rw [hown, if_pos h])⟩
    · have h : e1 ≠ 0 := by simpa using h
      rw [hown, if_neg h]
  refine ⟨fun h => ⟨s, d1.cell rfl, s5, c3.cell rfl, fun h5 => J2 _ ?_, fun h5 => J2 _ ?_⟩, fun h => J2 _ ?_⟩
  · have h : pe = 0 := by simpa using h
    have h5 : (s.len : Int) ≠ s5 := by simpa using h5
    rw [if_pos h, if_pos (by omega)]
  · have h : pe = 0 := by simpa using h
    have h5 : (s.len : Int) = s5 := by simpa using h5
    rw [if_pos h, if_neg (by omega), h]
  · have h : pe ≠ 0 := by simpa using h
    rw [if_neg h]
end Go.Proofs
