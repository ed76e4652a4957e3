/- Symbolic execution, part J: boxes of the call's own that nobody else sees; steps of the heap that only they see. -/
import Derived.Test.YtakogcapgbilaaaSeI
namespace Go.SE

abbrev HBx := Addr × List Value × TypeId
/-- The hidden boxes: H are the blocks that are hidden. -/
structure HB (H : Nat → Prop) (w : World) (l : List HBx) : Prop where
  box : ∀ x ∈ l, Box w x.1 x.2.1 x.2.2
  hid : ∀ x ∈ l, H x.1.block
  ne : l.Pairwise (fun x y => x.1.block ≠ y.1.block)

/-- From (H, w) to (H', w') only hidden blocks turned; w0: where the call began. -/
structure Hst (w0 : World) (H : Nat → Prop) (w : World) (H' : Nat → Prop) (w' : World) : Prop where
  ext : Ext H' w w'
  sub : ∀ b, H b → H' b
  new : ∀ b, H' b → H b ∨ w.heap.size ≤ b
  old : ∀ b, H' b → w0.heap.size ≤ b
  lt : ∀ b, H' b → b < w'.heap.size
  base : w0.heap.size ≤ w'.heap.size

/-- The hidden blocks are as they were. -/
structure Kept (H : Nat → Prop) (w w' : World) : Prop where
  size : w.heap.size ≤ w'.heap.size
  keep : ∀ b, b < w.heap.size → H b → w'.heap[b]? = w.heap[b]?

theorem Ext.kept {F H : Nat → Prop} {w w' : World} (h : Ext F w w') (hd : ∀ b, H b → ¬ F b) : Kept H w w' := ⟨h.size, fun b hb hH => h.keep b hb (hd b hH)⟩
theorem Ext.keptP {H : Nat → Prop} {w w' : World} (h : Pure w w') : Kept H w w' := h.kept (fun _ _ h => h)
theorem Kept.refl {H : Nat → Prop} (w : World) : Kept H w w := ⟨Nat.le_refl _, fun _ _ _ => rfl⟩

section
variable {w0 w w1 w2 wv : World} {H H1 H2 Hv : Nat → Prop} {l l' : List HBx}

theorem Hst.start (w0 : World) : Hst w0 None w0 None w0 := ⟨Ext.refl _, fun _ h => h, fun _ h => .inl h, fun _ h => h.elim, fun _ h => h.elim, Nat.le_refl _⟩
theorem HB.nil (H : Nat → Prop) (w : World) : HB H w [] := ⟨fun _ h => (by cases h), fun _ h => (by cases h), List.Pairwise.nil⟩
theorem Hst.here (h : Hst w0 Hv wv H w) : Hst w0 H w H w := ⟨Ext.refl _, fun _ h => h, fun _ h => .inl h, h.old, h.lt, h.base⟩
theorem Hst.again (h : Hst w0 Hv wv H w) (hk : Kept H w w1) : Hst w0 H w1 H w1 :=
  ⟨Ext.refl _, fun _ h => h, fun _ h => .inl h, h.old, fun b hb => Nat.lt_of_lt_of_le (h.lt b hb) hk.size, Nat.le_trans h.base hk.size⟩
theorem Hst.trans (h : Hst w0 Hv wv H w) (k : Hst w0 H w H1 w1) : Hst w0 Hv wv H1 w1 :=
  ⟨(h.ext.mono (fun b _ hb => k.sub b hb)).trans k.ext, fun b hb => k.sub b (h.sub b hb), fun b hb => (k.new b hb).elim (fun hb => h.new b hb) (fun hb => .inr (Nat.le_trans h.ext.size hb)), k.old, k.lt, k.base⟩
theorem Hst.pure (h : Hst w0 Hv wv H w) (E : Pure w w1) : Hst w0 Hv wv H w1 :=
  ⟨h.ext.thenPure E, h.sub, h.new, h.old, fun b hb => Nat.lt_of_lt_of_le (h.lt b hb) E.size, Nat.le_trans h.base E.size⟩
theorem Hst.drew (h : Hst w0 Hv wv H w) : Hst w0 Hv wv H w.drew := h.pure (Ext.drew w)
theorem HB.kept (hb : HB H w l) (hk : Kept H w w1) : HB H w1 l :=
  ⟨fun x hx => ⟨(hb.box x hx).addr, by rw [hk.keep _ (hb.box x hx).lt (hb.hid x hx)]; exact (hb.box x hx).blk⟩, hb.hid, hb.ne⟩
theorem HB.pure (hb : HB H w l) (E : Pure w w1) : HB H w1 l := hb.kept E.keptP
theorem HB.drew (hb : HB H w l) : HB H w.drew l := hb.pure (Ext.drew w)
theorem HB.sub (hb : HB H w l) (hl : l'.Sublist l) : HB H w l' := ⟨fun x hx => hb.box x (hl.subset hx), fun x hx => hb.hid x (hl.subset hx), hb.ne.sublist hl⟩

theorem Hst.alloc {c : List Value} {T : TypeId} {p : Addr} (h : Hst w0 Hv wv H w) (hb : HB H w l) (hn : New w (.cells c.toArray T) p w1) : ∃ H1, Hst w0 Hv wv H1 w1 ∧ HB H1 w1 ((p, c, T) :: l) := by
  have E : Pure w w1 := Ext.new hn
  have hp : p.block = w.heap.size := hn.at_size
  have B := Box.of_new hn
  refine ⟨fun b => H b ∨ b = p.block, ⟨(h.ext.thenPure E).mono (fun b _ hb => .inl hb), fun b hb => .inl (h.sub b hb), ?_, ?_, ?_, Nat.le_trans h.base E.size⟩, ?_⟩
  · rintro b (hb | rfl)
    · exact h.new b hb
    · right; rw [hp]; exact h.ext.size
  · rintro b (hb | rfl)
    · exact h.old b hb
    · rw [hp]; exact h.base
  · rintro b (hb | rfl)
    · exact Nat.lt_of_lt_of_le (h.lt b hb) E.size
    · exact B.lt
  · have hb' := hb.pure E
    refine ⟨?_, ?_, ?_⟩
    · intro x hx
      rcases List.mem_cons.1 hx with rfl | hx
      · exact B
      · exact hb'.box x hx
    · intro x hx
      rcases List.mem_cons.1 hx with rfl | hx
      · exact .inr rfl
      · exact .inl (hb'.hid x hx)
    · refine List.pairwise_cons.2 ⟨fun x hx => ?_, hb'.ne⟩
      have := (hb.box x hx).lt
      show p.block ≠ x.1.block
      omega

theorem HB.at (hb : HB H w l) {i : Nat} {p : Addr} {c : List Value} {T : TypeId} (hi : l[i]? = some (p, c, T)) : Box w p c T := hb.box _ (List.mem_of_getElem? hi)
theorem HB.cell (hb : HB H w l) (i j : Nat) {p : Addr} {c : List Value} {T : TypeId} {v : Value} (hi : l[i]? = some (p, c, T)) (hv : c[j]? = some v) : w.cell? (p.add j) = some v := (hb.at hi).cell hv
theorem HB.cell0 (hb : HB H w l) (i : Nat) {p : Addr} {c : List Value} {T : TypeId} {v : Value} (hi : l[i]? = some (p, c, T)) (hv : c[0]? = some v) : w.cell? p = some v := by
  have := hb.cell i 0 hi hv; simpa [Addr.add] using this
theorem HB.row (hb : HB H w l) (i j n : Nat) {p : Addr} {c vs : List Value} {T : TypeId} (hi : l[i]? = some (p, c, T)) (hv : (c.drop j).take n = vs) : Row w (p.add j) vs := by
  intro k hk
  subst hv
  have hlt : k < n ∧ j + k < c.length := by simp at hk; omega
  rw [add_add, List.getElem?_take, if_pos hlt.1, List.getElem?_drop, List.getElem?_eq_getElem hlt.2]
  exact (hb.at hi).cell (List.getElem?_eq_getElem hlt.2)
theorem HB.row0 (hb : HB H w l) (i n : Nat) {p : Addr} {c vs : List Value} {T : TypeId} (hi : l[i]? = some (p, c, T)) (hv : c.take n = vs) : Row w p vs := by
  intro k hk
  subst hv
  have hlt : k < n ∧ k < c.length := by simp at hk; omega
  rw [List.getElem?_take, if_pos hlt.1, List.getElem?_eq_getElem hlt.2]
  exact (hb.at hi).cell (List.getElem?_eq_getElem hlt.2)
theorem HB.canW (hb : HB H w l) (i j : Nat) {p : Addr} {c : List Value} {T : TypeId} (hi : l[i]? = some (p, c, T)) (hj : decide (j < c.length) = true) : CanW w (p.add j) := (hb.at hi).canW (of_decide_eq_true hj)
theorem HB.canW0 (hb : HB H w l) (i : Nat) {p : Addr} {c : List Value} {T : TypeId} (hi : l[i]? = some (p, c, T)) (hj : decide (0 < c.length) = true) : CanW w p := (hb.at hi).canW0 (of_decide_eq_true hj)
theorem HB.canWs (hb : HB H w l) (i j n : Nat) {p : Addr} {c : List Value} {T : TypeId} (hi : l[i]? = some (p, c, T)) (hj : decide (j + n ≤ c.length) = true) : ∀ k, k < n → CanW w ((p.add j).add k) := fun k hk => by
  rw [add_add]; exact (hb.at hi).canW (by have := of_decide_eq_true hj; omega)
theorem HB.canWs0 (hb : HB H w l) (i n : Nat) {p : Addr} {c : List Value} {T : TypeId} (hi : l[i]? = some (p, c, T)) (hj : decide (n ≤ c.length) = true) : ∀ k, k < n → CanW w (p.add k) := fun k hk => (hb.at hi).canW (by have := of_decide_eq_true hj; omega)

theorem HB.put {i : Nat} {p : Addr} {c c' : List Value} {T : TypeId} (hb : HB H w l) (h : Hst w0 Hv wv H w) (hi : l[i]? = some (p, c, T)) (hB : Box w1 p c' T) (hE : Ext (· = p.block) w w1) (hl : l.set i (p, c', T) = l') : Hst w0 Hv wv H w1 ∧ HB H w1 l' := by
  have hmem := List.mem_of_getElem? hi
  refine ⟨⟨h.ext.trans' hE (fun b _ e => by subst e; exact hb.hid _ hmem), h.sub, h.new, h.old, fun b hb => Nat.lt_of_lt_of_le (h.lt b hb) hE.size, Nat.le_trans h.base hE.size⟩, ?_⟩
  subst hl
  obtain ⟨hlt, hget⟩ := List.getElem?_eq_some_iff.1 hi
  have hset : ∀ k x, (l.set i (p, c', T))[k]? = some x → (k = i ∧ x = (p, c', T)) ∨ (k ≠ i ∧ l[k]? = some x) := by
    intro k x hx
    rw [List.getElem?_set] at hx
    by_cases hk : i = k
    · subst hk
      simp [hlt] at hx
      exact .inl ⟨rfl, hx.symm⟩
    · rw [if_neg hk] at hx; exact .inr ⟨fun e => hk e.symm, hx⟩
  have hne : ∀ k x, k ≠ i → l[k]? = some x → x.1.block ≠ p.block := by
    intro k x hk hx
    obtain ⟨hk1, hk2⟩ := List.getElem?_eq_some_iff.1 hx
    have hp := List.pairwise_iff_getElem.1 hb.ne
    rcases Nat.lt_or_gt_of_ne hk with h' | h'
    · have := hp k i hk1 hlt h'; rw [hk2, hget] at this; exact this
    · have := hp i k hlt hk1 h'; rw [hk2, hget] at this; exact fun e => this e.symm
  refine ⟨?_, ?_, ?_⟩
  · intro x hx
    obtain ⟨k, hk⟩ := List.getElem?_of_mem hx
    rcases hset k x hk with ⟨_, rfl⟩ | ⟨hk', hx'⟩
    · exact hB
    · exact (hb.box x (List.mem_of_getElem? hx')).ext hE (hne k x hk' hx')
  · intro x hx
    obtain ⟨k, hk⟩ := List.getElem?_of_mem hx
    rcases hset k x hk with ⟨_, rfl⟩ | ⟨hk', hx'⟩
    · have := hb.hid _ hmem; exact this
    · exact hb.hid x (List.mem_of_getElem? hx')
  · have e : (l.set i (p, c', T)).map (fun x => x.1.block) = l.map (fun x => x.1.block) := by
      rw [List.map_set]
      apply List.ext_getElem?
      intro k
      rw [List.getElem?_set]
      by_cases hk : i = k
      · subst hk; simp [hlt, hget]
      · simp [hk]
    have := List.pairwise_map.2 hb.ne
    exact List.pairwise_map.1 (e ▸ this)

theorem HB.set {i : Nat} (j : Nat) {p : Addr} {c : List Value} {v : Value} {T : TypeId} (hb : HB H w l) (h : Hst w0 Hv wv H w) (hi : l[i]? = some (p, c, T)) (hl : l.set i (p, c.set j v, T) = l') : Hst w0 Hv wv H (w.setCell (p.add j) v) ∧ HB H (w.setCell (p.add j) v) l' :=
  hb.put h hi ((hb.at hi).set j v) (by have := Ext.setCell (w := w) (p.add j) v; rw [add_block] at this; exact this) hl
theorem HB.set0 {i : Nat} {p : Addr} {c : List Value} {v : Value} {T : TypeId} (hb : HB H w l) (h : Hst w0 Hv wv H w) (hi : l[i]? = some (p, c, T)) (hl : l.set i (p, c.set 0 v, T) = l') : Hst w0 Hv wv H (w.setCell p v) ∧ HB H (w.setCell p v) l' := by
  have := hb.set 0 (v := v) h hi hl; simpa [Addr.add] using this
theorem HB.store {i : Nat} (j : Nat) {p : Addr} {c vs : List Value} {T : TypeId} (hb : HB H w l) (h : Hst w0 Hv wv H w) (hi : l[i]? = some (p, c, T)) (hj : decide (j + vs.length ≤ c.length) = true) (hl : l.set i (p, c.take j ++ vs ++ c.drop (j + vs.length), T) = l') : Hst w0 Hv wv H (storeRow w (p.add j) vs) ∧ HB H (storeRow w (p.add j) vs) l' :=
  hb.put h hi (by have := Box.storeAt vs 0 j w c (hb.at hi) (by have := of_decide_eq_true hj; omega); simpa [storeRow] using this) (by have := Ext.storeRow w (p.add j) vs; rw [add_block] at this; exact this) hl
theorem HB.store0 {i : Nat} {p : Addr} {c vs : List Value} {T : TypeId} (hb : HB H w l) (h : Hst w0 Hv wv H w) (hi : l[i]? = some (p, c, T)) (hj : decide (vs.length ≤ c.length) = true) (hl : l.set i (p, vs ++ c.drop vs.length, T) = l') : Hst w0 Hv wv H (storeRow w p vs) ∧ HB H (storeRow w p vs) l' := by
  have := hb.store 0 (vs := vs) h hi (by simpa using hj) (by simpa using hl); simpa [Addr.add] using this

/-- What the user keeps of a heap. -/
theorem Ext.hst {F : Nat → Prop} (E : Ext F w0 w) (h : Hst w0 H w H1 w1) : Ext F w0 w1 := E.trans' h.ext (fun b hb hF => absurd (h.old b hF) (by omega))
theorem Hst.disj (h : Hst w0 H w H1 w1) {G : Nat → Prop} (hG : ∀ b, G b → b < w.heap.size ∧ ¬ H b) : ∀ b, G b → ¬ H1 b := fun b hb h1 => (h.new b h1).elim (hG b hb).2 (fun h2 => by have := (hG b hb).1; omega)
theorem Hst.disj0 (h : Hst w0 H w H1 w1) {G : Nat → Prop} (hG : ∀ b, G b → b < w0.heap.size) : ∀ b, G b → ¬ H1 b := fun b hb h1 => by have := hG b hb; have := h.old b h1; omega
/-- What was done beside the hidden blocks, over the whole call. -/
theorem Ext.kept0 {F : Nat → Prop} (E : Ext F w w1) (h : Hst w0 Hv wv H w) (hF : ∀ b, F b → b < w0.heap.size) : Kept H w w1 := E.kept (fun b hb hf => by have := hF b hf; have := h.old b hb; omega)
end
end Go.SE
namespace Go.SE
section
variable {H : Nat → Prop} {w : World} {a : Addr}
theorem Kept.setCell {v : Value} (h : ¬ H a.block) : Kept H w (w.setCell a v) := (Ext.setCell a v).kept (fun b hb e => h (e ▸ hb))
theorem Kept.storeRow {vs : List Value} (h : ¬ H a.block) : Kept H w (SE.storeRow w a vs) := (Ext.storeRow w a vs).kept (fun b hb e => h (e ▸ hb))
theorem HB.drop {l : List HBx} (hb : HB H w l) (n : Nat) : HB H w (l.drop n) := hb.sub (List.drop_sublist n l)
theorem wpE_via {P : Program} {n : Nat} {c : Code} {Q : Exit → Env → World → Prop} {ρ : Env} (J : Env → World → Prop) (h : wpE P n c (thenE J (fun _ _ _ => False)) ρ w) (hJ : ∀ ρ w, J ρ w → Q .normal ρ w) : wpE P n c Q ρ w :=
  wpE_mono (fun e ρ w hq => by cases e <;> first | exact hJ _ _ hq | exact hq.elim) h
theorem norm_has {Q : Exit → Env → World → Prop} {ρ : Env} {l : List (Nat × Value)} (h : Has ρ l) (hg : Q .normal (setAll ρ l) w) : Q .normal ρ w := by rwa [setAll_has h] at hg
end
end Go.SE
namespace Go.SE
theorem gZ {α : Type} {o : α} {l : List α} : (o :: l)[0]? = some o := rfl
theorem gS {α : Type} {a o : α} {l : List α} {k : Nat} (h : l[k]? = some o) : (a :: l)[k + 1]? = some o := by simpa using h
end Go.SE
