/- Symbolic execution, part D: what a call keeps of the heap; boxes, rows. -/
import Derived.Test.YtakogcapgbilaaaSeC
import Derived.Below
namespace Go.SE

/-- Of the blocks that were there, those outside F are as they were. -/
structure Ext (F : Nat → Prop) (w w' : World) : Prop where
  os : w'.os = w.os
  tape : w'.tape = w.tape
  output : w'.output = w.output
  size : w.heap.size ≤ w'.heap.size
  keep : ∀ b, b < w.heap.size → ¬ F b → w'.heap[b]? = w.heap[b]?

def None (_ : Nat) : Prop := False
abbrev Pure (w w' : World) : Prop := Ext None w w'

theorem Ext.refl {F : Nat → Prop} (w : World) : Ext F w w := ⟨rfl, rfl, rfl, Nat.le_refl _, fun _ _ _ => rfl⟩
theorem Ext.trans' {F G : Nat → Prop} {a b c : World} (h : Ext F a b) (k : Ext G b c) (hG : ∀ i, i < a.heap.size → G i → F i) : Ext F a c :=
  ⟨k.os.trans h.os, k.tape.trans h.tape, k.output.trans h.output, Nat.le_trans h.size k.size, fun i hi hf => (k.keep i (Nat.lt_of_lt_of_le hi h.size) (fun hg => hf (hG i hi hg))).trans (h.keep i hi hf)⟩
theorem Ext.trans {F : Nat → Prop} {a b c : World} (h : Ext F a b) (k : Ext F b c) : Ext F a c := h.trans' k (fun _ _ h => h)
theorem Ext.mono {F G : Nat → Prop} {a b : World} (h : Ext F a b) (hG : ∀ i, i < a.heap.size → F i → G i) : Ext G a b :=
  ⟨h.os, h.tape, h.output, h.size, fun i hi hf => h.keep i hi (fun hF => hf (hG i hi hF))⟩
theorem Ext.pure {F : Nat → Prop} {a b : World} (h : Pure a b) : Ext F a b := h.mono fun _ _ h => h.elim
theorem Ext.thenPure {F : Nat → Prop} {a b c : World} (h : Ext F a b) (k : Pure b c) : Ext F a c := h.trans k.pure
theorem Ext.below {w w' : World} (h : Pure w w') : RowKit.Below w.heap.size w w' := ⟨h.os, h.tape, h.output, h.size, fun k hk => h.keep k hk id⟩
theorem Ext.drew (w : World) {F : Nat → Prop} : Ext F w w.drew := ⟨rfl, rfl, rfl, Nat.le_refl _, fun _ _ _ => rfl⟩
theorem heap_lt {w : World} {b : Nat} {o : Obj} (h : w.heap[b]? = some o) : b < w.heap.size := (Array.getElem?_eq_some_iff.1 h).1
theorem Ext.heap {F : Nat → Prop} {w w' : World} (h : Ext F w w') {b : Nat} {o : Obj} (hb : w.heap[b]? = some o) (hf : ¬ F b) : w'.heap[b]? = some o := by
  rw [h.keep b (heap_lt hb) hf]; exact hb
theorem Ext.cell {F : Nat → Prop} {w w' : World} (h : Ext F w w') {a : Addr} {v : Value} (ha : w.cell? a = some v) (hf : ¬ F a.block) : w'.cell? a = some v := by
  have hlt : a.block < w.heap.size := World.block_lt_of_cell? w a ha
  unfold World.cell? at *
  rw [h.keep _ hlt hf]; exact ha
theorem Ext.row {F : Nat → Prop} {w w' : World} (h : Ext F w w') {a : Addr} {vs : List Value} (ha : Row w a vs) (hf : ¬ F a.block) : Row w' a vs := by
  intro i hi
  have := ha i hi
  rw [List.getElem?_eq_getElem hi] at this ⊢
  refine h.cell this ?_
  have : (a.add i).block = a.block := by unfold Addr.add; split <;> rfl
  rw [this]; exact hf
theorem Ext.new {F : Nat → Prop} {w w' : World} {o : Obj} {p : Addr} (h : New w o p w') : Ext F w w' := by
  obtain ⟨_, rfl⟩ := h
  exact ⟨rfl, rfl, rfl, by simp, fun b hb _ => heap_alloc_old w o b hb⟩
theorem Ext.setCell {w : World} (a : Addr) (v : Value) : Ext (· = a.block) w (w.setCell a v) :=
  ⟨rfl, rfl, rfl, by simp [World.setCell], fun b _ hf => heap_setCell_other w a b v hf⟩
theorem add_block (a : Addr) (i : Nat) : (a.add i).block = a.block := by unfold Addr.add; split <;> rfl
theorem Ext.storeRowFrom (a : Addr) : ∀ (vs : List Value) (i : Nat) (w : World), Ext (· = a.block) w (storeRowFrom w a i vs)
  | [], _, w => Ext.refl w
  | v :: vs, i, w => by
    have h1 : Ext (· = a.block) w (w.setCell (a.add i) v) := (Ext.setCell (a.add i) v).mono (fun _ _ h => by rw [add_block] at h; exact h)
    exact h1.trans (Ext.storeRowFrom a vs (i + 1) _)
theorem Ext.storeRow (w : World) (a : Addr) (vs : List Value) : Ext (· = a.block) w (SE.storeRow w a vs) := Ext.storeRowFrom a vs 0 w

/-- A whole block of cells, at its head. -/
structure Box (w : World) (p : Addr) (c : List Value) (T : TypeId) : Prop where
  addr : p = ⟨p.block, 0, none⟩
  blk : w.heap[p.block]? = some (.cells c.toArray T (0, 0))

theorem Box.of_new {w w' : World} {c : List Value} {T : TypeId} {p : Addr} (h : New w (.cells c.toArray T) p w') : Box w' p c T := by
  obtain ⟨rfl, rfl⟩ := h
  exact ⟨rfl, heap_alloc_new w _⟩
theorem New.at_size {w w' : World} {o : Obj} {p : Addr} (h : New w o p w') : p.block = w.heap.size := by rw [h.at_]
theorem New.block_new {w w' : World} {o : Obj} {p : Addr} (h : New w o p w') : w'.heap[p.block]? = some o := by
  obtain ⟨rfl, rfl⟩ := h; exact heap_alloc_new w _
theorem New.ne {w w' : World} {o o' : Obj} {p : Addr} (h : New w o p w') {b : Nat} (hb : w.heap[b]? = some o') : b ≠ p.block := by
  rw [h.at_size]; exact Nat.ne_of_lt (heap_lt hb)
theorem Box.lt {w : World} {p : Addr} {c : List Value} {T : TypeId} (h : Box w p c T) : p.block < w.heap.size := heap_lt h.blk
theorem Box.ext {F : Nat → Prop} {w w' : World} {p : Addr} {c : List Value} {T : TypeId} (h : Box w p c T) (hE : Ext F w w') (hf : ¬ F p.block) : Box w' p c T := ⟨h.addr, hE.heap h.blk hf⟩
theorem Box.pure {w w' : World} {p : Addr} {c : List Value} {T : TypeId} (h : Box w p c T) (hE : Pure w w') : Box w' p c T := h.ext hE id
theorem Box.add {w : World} {p : Addr} {c : List Value} {T : TypeId} (h : Box w p c T) (i : Nat) : p.add i = ⟨p.block, i, none⟩ := by
  rw [h.addr]; unfold Addr.add; split <;> simp_all
theorem Box.cell {w : World} {p : Addr} {c : List Value} {T : TypeId} (h : Box w p c T) {i : Nat} {v : Value} (hv : c[i]? = some v) : w.cell? (p.add i) = some v := by
  rw [h.add, cell_of_row w _ _ _ _ _ h.blk]; simpa using hv
theorem Box.cell0 {w : World} {p : Addr} {v : Value} {c : List Value} {T : TypeId} (h : Box w p (v :: c) T) : w.cell? p = some v := by
  have := h.cell (i := 0) (v := v) rfl
  simpa [Addr.add] using this
theorem Box.row {w : World} {p : Addr} {c : List Value} {T : TypeId} (h : Box w p c T) : Row w p c := fun i hi => by
  rw [List.getElem?_eq_getElem hi]; exact h.cell (List.getElem?_eq_getElem hi)
theorem Box.canW {w : World} {p : Addr} {c : List Value} {T : TypeId} (h : Box w p c T) {i : Nat} (hi : i < c.length) : CanW w (p.add i) :=
  ⟨⟨c[i], h.cell (List.getElem?_eq_getElem hi)⟩, by rw [h.add]; exact frozen_of_row w _ _ _ _ h.blk⟩
theorem Box.canW0 {w : World} {p : Addr} {c : List Value} {T : TypeId} (h : Box w p c T) (hi : 0 < c.length) : CanW w p := by
  have := h.canW hi; simpa [Addr.add] using this
theorem Box.canWs {w : World} {p : Addr} {c : List Value} {T : TypeId} (h : Box w p c T) {n : Nat} (hn : n ≤ c.length) : ∀ j, j < n → CanW w (p.add j) := fun _ hj => h.canW (by omega)
theorem Box.set {w : World} {p : Addr} {c : List Value} {T : TypeId} (h : Box w p c T) (i : Nat) (v : Value) : Box (w.setCell (p.add i) v) p (c.set i v) T := by
  refine ⟨h.addr, ?_⟩
  rw [h.add]
  have := heap_setCell_same w p.block i c.toArray T v h.blk
  rw [this]
  simp
theorem Box.set0 {w : World} {p : Addr} {u v : Value} {c : List Value} {T : TypeId} (h : Box w p (u :: c) T) : Box (w.setCell p v) p (v :: c) T := by
  have := h.set 0 v
  simpa [Addr.add] using this
theorem Box.storeFrom {p : Addr} {T : TypeId} : ∀ (vs : List Value) (i : Nat) (w : World) (c : List Value), Box w p c T → i + vs.length = c.length → Box (storeRowFrom w p i vs) p (c.take i ++ vs) T
  | [], i, w, c, h, hl => by
    have : c.take i = c := List.take_of_length_le (by simp at hl; omega)
    simpa [storeRowFrom, this] using h
  | v :: vs, i, w, c, h, hl => by
    simp only [List.length_cons] at hl
    have := Box.storeFrom vs (i + 1) _ _ (h.set i v) (by simp; omega)
    simp only [storeRowFrom]
    have e : (c.set i v).take (i + 1) ++ vs = c.take i ++ v :: vs := by
      rw [List.take_succ_eq_append_getElem (by simp; omega), List.take_set_of_le (Nat.le_refl i)]
      simp
    rwa [e] at this
theorem Box.store {w : World} {p : Addr} {c vs : List Value} {T : TypeId} (h : Box w p c T) (hl : vs.length = c.length) : Box (storeRow w p vs) p vs T := by
  have := Box.storeFrom vs 0 w c h (by omega)
  simpa [storeRow] using this
theorem Br.of {c : Bool} {A B : Prop} (h1 : c = true → A) (h2 : c = false → B) : Br c A B := ⟨h1, h2⟩
theorem Br.t {c : Bool} {A B : Prop} (hc : c = true) (h : A) : Br c A B := ⟨fun _ => h, fun e => (by rw [hc] at e; cases e)⟩
theorem Br.f {c : Bool} {A B : Prop} (hc : c = false) (h : B) : Br c A B := ⟨fun e => (by rw [hc] at e; cases e), fun _ => h⟩
end Go.SE
namespace Go.SE
theorem bx (n : Nat) {w : World} {p : Addr} {c vs : List Value} {T : TypeId} (h : Box w p c T) (hn : c.length = n) (hl : vs.length = n) {A : World → Prop} (k : ∀ w', Box w' p vs T → Ext (· = p.block) w w' → A w') : (∀ j, j < n → CanW w (p.add j)) ∧ ∀ w', w' = storeRow w p vs → A w' :=
  ⟨h.canWs (by omega), fun w' e => by subst e; exact k _ (h.store (by omega)) (Ext.storeRow _ _ _)⟩
/-- A store into a box of the call's own keeps what was there before. -/
theorem Ext.own {w0 w w' : World} {p : Addr} (h : Pure w0 w) (hp : w0.heap.size ≤ p.block) (k : Ext (· = p.block) w w') : Pure w0 w' :=
  h.trans' k (fun i hi e => by subst e; exact absurd hi (by omega))
theorem New.own {w0 w w' : World} {o : Obj} {p : Addr} (h : Pure w0 w) (hn : New w o p w') : w0.heap.size ≤ p.block := by rw [hn.at_size]; exact h.size
end Go.SE
namespace Go.SE
theorem Box.of_newA {w w' : World} {c : Array Value} {T : TypeId} {p : Addr} (h : New w (.cells c T) p w') : Box w' p c.toList T := by
  obtain ⟨rfl, rfl⟩ := h
  exact ⟨rfl, by simpa using heap_alloc_new w (.cells c T)⟩
theorem Box.row_eq {w : World} {p : Addr} {c vs : List Value} {T : TypeId} (h : Box w p c T) (e : c = vs) : Row w p vs := e ▸ h.row
end Go.SE
