/- Symbolic execution, part K: slices of the call's own beside the hidden blocks; loops over them. -/
import Derived.Test.YtakogcapgbilaaaSeJ
import Derived.IntWalk
namespace Go.SE
/-- A slice of the program's own that lies apart from the hidden blocks. -/
structure Own (H : Nat → Prop) (w : World) (e : TypeId) (sz : Nat) (s : Sl) (rs : List (List Value)) : Prop where
  rows : Rws w e sz s rs
  vis : ∀ b, s.blk b → ¬ H b
section
variable {w0 w w1 w2 wv : World} {H H1 Hv : Nat → Prop} {e : TypeId} {sz : Nat} {s : Sl} {rs : List (List Value)}
theorem Own.hst (h : Own H w e sz s rs) (hs : Hst w0 H w H1 w1) : Own H1 w1 e sz s rs :=
  have hv : ∀ b, s.blk b → ¬ H1 b := hs.disj fun b hb => ⟨h.rows.lt hb, h.vis b hb⟩
  ⟨h.rows.ext hs.ext hv, hv⟩
theorem Own.pure (h : Own H w e sz s rs) (E : Pure w w1) : Own H w1 e sz s rs := ⟨h.rows.pure E, h.vis⟩
theorem Own.ext {F : Nat → Prop} (h : Own H w e sz s rs) (E : Ext F w w1) (hd : ∀ b, s.blk b → ¬ F b) : Own H w1 e sz s rs := ⟨h.rows.ext E hd, h.vis⟩
theorem Own.nil (H : Nat → Prop) (w : World) : Own H w e sz Sl.nil [] := ⟨Rws.nil _ _ _, fun b h => by obtain ⟨a, h, _⟩ := h; cases h⟩
theorem Own.len (h : Own H w e sz s rs) : s.len = rs.length := h.rows.len
theorem Rws.nth {α : Type} {f : α → List Value} {xs : List α} (h : Rws w e sz s (xs.map f)) {j : Nat} (hj : j < xs.length) : ∃ a, At s j sz a ∧ Row w a (f xs[j]) := by
  obtain ⟨a, h1, h2, _⟩ := h.at (i := j) (by omega) (by simpa using hj)
  exact ⟨a, h1, by simpa using h2⟩
theorem Own.nth {α : Type} {f : α → List Value} {xs : List α} (h : Own H w e sz s (xs.map f)) {j : Nat} (hj : j < xs.length) : ∃ a, At s j sz a ∧ Row w a (f xs[j]) := h.rows.nth hj
theorem Lst.nth {S : Nat → Prop} {α : Type} {f : α → List Value} {xs : List α} (h : Lst S w sz s (xs.map f)) {j : Nat} (hj : j < xs.length) : ∃ a, At s j sz a ∧ S a.block ∧ Row w a (f xs[j]) := by
  obtain ⟨a, h1, h2, h3⟩ := h.at_ j (by simpa using hj)
  exact ⟨a, h1, h2, by simpa using h3⟩
theorem row_cell {a : Addr} {v : Value} (h : Row w a [v]) : w.cell? a = some v := by
  have := h 0 (by simp); simpa [Addr.add] using this
theorem Lst.hst {S : Nat → Prop} (h : Lst S w sz s rs) (hs : Hst w0 H w H1 w1) (hd : ∀ b, S b → b < w0.heap.size) : Lst S w1 sz s rs := h.ext hs.ext (fun b hb h1 => by have := hd b hb; have := hs.old b h1; omega)
/-- What the call gives back: nothing but hidden blocks turned. -/
theorem Hst.pure0 (h : Hst w0 H w H1 w1) (E : Pure w0 w) : Pure w0 w1 := E.hst h
theorem Hst.first (h : Hst w0 None w0 H1 w1) : Pure w0 w1 := (Ext.refl w0).hst h
theorem Own.append {P : Program} {t ty : TypeId} {bytes : Nat} (T : SlType P t e sz bytes) (h : Own H w e sz s rs) (hs : Hst w0 Hv wv H w) {p : Addr} {c : Nat} {r : List Value} (hr : Row w p r) (hl : r.length = sz) (h1 : r.all oneCell = true) (hb : (rs.length + 1) * bytes ≤ 140737488355328) (hm : rs.length + 1 ≤ maxLen) :
    ∃ s' w', (Builtin.append_ #[t, t] ty #[s.v, (Sl.mk (some p) 1 c).v]).run P w = .ok s'.v w' ∧ Own H w' e sz s' (rs ++ [r]) ∧ Ext s.blk w w' ∧ Kept H w w' ∧ (∀ b, s'.blk b → s.blk b ∨ w.heap.size ≤ b) := by
  obtain ⟨s', w', hr', hR, hE, hb'⟩ := h.rows.append T (ty := ty) (c := c) hr hl h1 hb hm
  exact ⟨s', w', hr', ⟨hR, fun b hb => (hb' b hb).elim (h.vis b) (fun hge hH => by have := hs.lt b hH; omega)⟩, hE, hE.kept (fun b hH hS => h.vis b hS hH), hb'⟩
theorem append_own (h : Own H w e sz s rs) {w' : World} (E : Pure w0 w) (hE : Ext s.blk w w') (hown : ∀ b, s.blk b → w0.heap.size ≤ b) : Pure w0 w' := E.trans' hE (fun i hi hb => by have := hown i hb; omega)
end
/-- A loop's number behind i++. -/
theorem wrap_succ {j n : Nat} (h : j < n) (hn : n ≤ 9223372036854775807) : IntKind.i64.wrap ((j : Int) + 1) = ((j + 1 : Nat) : Int) := by
  rw [IntWalk.i64_in _ (by omega)]; omega
theorem lt_dec {j n : Nat} (h : j < n) : ((n : Int) - ((j + 1 : Nat) : Int)).toNat < ((n : Int) - (j : Int)).toNat := by omega
theorem lt_of_dec {j n m : Nat} (hm : m = n) (h : decide ((j : Int) < (m : Int)) = true) : j < n := by have h := of_decide_eq_true h; omega
theorem eq_of_dec {j n m : Nat} (hm : m = n) (hj : j ≤ n) (h : decide ((j : Int) < (m : Int)) = false) : j = n := by have h := of_decide_eq_false h; omega
end Go.SE
namespace Go.SE
/-- A place where ways meet, inside a chain. -/
theorem wpE_joinT {P : Program} {n : Nat} {c : Code} {Q : Exit → Env → World → Prop} {ρ : Env} {w : World} {N : Env → World → Prop} (J : Env → World → Prop) (hy : ∀ ρ w, J ρ w → N ρ w) (h : wpE P n c (thenE J Q) ρ w) : wpE P n c (thenE N Q) ρ w :=
  wpE_mono (fun e ρ w hq => by cases e <;> first | exact hy _ _ hq | exact hq) h
end Go.SE
namespace Go.SE
section
variable {w0 w w1 : World} {H H1 : Nat → Prop}
theorem cell_hst {a : Addr} {v : Value} (h : w.cell? a = some v) (hn : ¬ H a.block) (hs : Hst w0 H w H1 w1) : w1.cell? a = some v :=
  hs.ext.cell h (fun h1 => (hs.new _ h1).elim hn (fun h2 => by have := World.block_lt_of_cell? w a h; omega))
theorem row_hst {a : Addr} {v : Value} {vs : List Value} (h : Row w a (v :: vs)) (hn : ¬ H a.block) (hs : Hst w0 H w H1 w1) : Row w1 a (v :: vs) :=
  hs.ext.row h (fun h1 => (hs.new _ h1).elim hn (fun h2 => by
    have h0 := h 0 (by simp)
    have := World.block_lt_of_cell? w (a.add 0) h0
    rw [add_block] at this; omega))
theorem wpX_mono {P : Program} {ops : Array Oper} {C : World → Prop} {loud free : Nat → Bool} {Q Q' : Env → World → Prop} (hq : ∀ ρ w, Q ρ w → Q' ρ w) : ∀ {fuel : Nat} {listed : Array Bool} {ρ : Env} {w : World}, wpX P ops C loud free Q fuel listed ρ w → wpX P ops C loud free Q' fuel listed ρ w
  | 0, _, _, _, h => ⟨h.1, hq _ _ h.2⟩
  | fuel + 1, listed, ρ, w, h => by
    have key : ∀ i ρ w, opE P ops C loud free i (wpX P ops C loud free Q fuel (listed.setIfInBounds i true)) ρ w → opE P ops C loud free i (wpX P ops C loud free Q' fuel (listed.setIfInBounds i true)) ρ w := by
      intro i ρ w h
      unfold opE at h ⊢
      split
      · rename_i ho; simp only [ho] at h; exact wpX_mono hq h
      · rename_i o ho
        simp only [ho] at h
        split
        · rename_i hw
          rw [if_pos hw] at h
          split
          · rename_i hl; rw [if_pos hl] at h; exact yld_mono h fun v w' ⟨hc, hk⟩ => ⟨hc, wpX_mono hq hk⟩
          · rename_i hl; rw [if_neg hl] at h; obtain ⟨v, h1, h2⟩ := h; exact ⟨v, h1, wpX_mono hq h2⟩
        · rename_i hw; rw [if_neg hw] at h; exact wpX_mono hq h
    rcases h with ⟨i, h1, h2, h3, h4⟩ | ⟨h0, h⟩
    · exact .inl ⟨i, h1, h2, h3, key _ _ _ h4⟩
    · exact .inr ⟨fun e => hq _ _ (h0 e), fun i hi => key _ _ _ (h i hi)⟩
theorem wpX_via {P : Program} {ops : Array Oper} {C : World → Prop} {loud free : Nat → Bool} {Q : Env → World → Prop} {ρ : Env} {fuel : Nat} {listed : Array Bool} (J : Env → World → Prop) (h : wpX P ops C loud free J fuel listed ρ w) (hJ : ∀ ρ w, J ρ w → Q ρ w) : wpX P ops C loud free Q fuel listed ρ w := wpX_mono hJ h
theorem q_has {Q : Env → World → Prop} {ρ : Env} {l : List (Nat × Value)} (h : Has ρ l) (hg : Q (setAll ρ l) w) : Q ρ w := by rwa [setAll_has h] at hg
end
end Go.SE
