/- Contracts: escrow/term, grow, Of. -/
import Derived.Test.YtakogcapgbilaaaCGrow
open Go Go.SE
namespace Go.Proofs
attribute [local irreducible] Calls

theorem growAll_bad {n : Sp.Node} {i : Nat} {L : Sp.Pool} {t : Sp.Tree} {ts : List Sp.Tree} (h : (Sp.grow L t).2.1 ≠ 0) : Sp.growAll n i L (t :: ts) = (0, (Sp.grow L t).2.1, (Sp.grow L t).2.2) := by rw [Sp.growAll, if_pos h]
theorem growAll_good {n : Sp.Node} {i : Nat} {L : Sp.Pool} {t : Sp.Tree} {ts : List Sp.Tree} (h : (Sp.grow L t).2.1 = 0) : Sp.growAll n i L (t :: ts) = Sp.growAll (if i = 0 then { n with a := (Sp.grow L t).1 } else { n with b := (Sp.grow L t).1 }) (i + 1) (Sp.grow L t).2.2 ts := by rw [Sp.growAll, if_neg (by simp [h])]

/-- A tree has two kids at most everywhere. -/
def Sp.Tree.two (t : Sp.Tree) : Prop := Sp.Tree.rec (motive_1 := fun _ => Prop) (motive_2 := fun _ => Prop) (fun _ _ _ _ _ ks h => ks.length ≤ 2 ∧ h) True (fun _ _ h1 h2 => h1 ∧ h2) t
def twoAll : List Sp.Tree → Prop
  | [] => True
  | t :: ts => Sp.Tree.two t ∧ twoAll ts
theorem two_mk {k f t u : Int} {x : ByteArray} {ks : List Sp.Tree} : Sp.Tree.two (.mk k f t u x ks) ↔ ks.length ≤ 2 ∧ twoAll ks := by
  have : ∀ ks : List Sp.Tree, (Sp.Tree.rec_1 (motive_1 := fun _ => Prop) (motive_2 := fun _ => Prop) (fun _ _ _ _ _ ks h => ks.length ≤ 2 ∧ h) True (fun _ _ h1 h2 => h1 ∧ h2) ks : Prop) = twoAll ks := by
    intro ks
    induction ks with
    | nil => rfl
    | cons t ts ih => show (Sp.Tree.two t ∧ _) = (Sp.Tree.two t ∧ _); rw [ih]
  show (ks.length ≤ 2 ∧ _) ↔ _
  rw [this]
theorem twoAll_get {ks : List Sp.Tree} (h : twoAll ks) {i : Nat} (hi : i < ks.length) : Sp.Tree.two ks[i] := by
  induction ks generalizing i with
  | nil => simp at hi
  | cons t ts ih =>
    cases i with
    | zero => exact h.1
    | succ i => exact ih h.2 (by simpa using hi)

theorem c_grow {S : Nat → Prop} (p : Addr) (t : Sp.Tree) : ∀ (s : Sl) (w : World) (L : Sp.Pool) (F : Nat → Prop), Sp.Tree.two t → TreeAt S w s t → PoolAt w p L F → Sp.Ok L → (∀ b, F b → ¬ S b) → (∀ b, S b → b < w.heap.size) →
    Calls Try.prog 117 #[.pointer (some p), .agg (trow t s).toArray] w
      (fun e w' => ∃ r1 : Int, ∃ r2 : Int, e = .returned (.tuple #[.int .i64 r1, .int .i64 r2]) ∧ ((r1, r2) = ((Sp.grow L t).1, (Sp.grow L t).2.1) ∧ ∃ F', PoolAt w' p (Sp.grow L t).2.2 F' ∧ Ext F w w' ∧ ∀ b, F' b → F b ∨ w.heap.size ≤ b)) := by
  induction t using Sp.Tree.ind with
  | h k f t u x ks ih =>
  intro s w L F h2 hT hP hok hFS hSw
  suffices key : ∀ K : Int → Int → World → Prop, (∀ r1 r2 w', ((r1, r2) = ((Sp.grow L (.mk k f t u x ks)).1, (Sp.grow L (.mk k f t u x ks)).2.1) ∧ ∃ F', PoolAt w' p (Sp.grow L (.mk k f t u x ks)).2.2 F' ∧ Ext F w w' ∧ ∀ b, F' b → F b ∨ w.heap.size ≤ b) → K r1 r2 w') → m_term_Pool_grow (some p) k f t u x s w K from
    w_term_Pool_grow _ _ _ _ _ _ _ w _ (key _ (fun _ _ _ h => h))
  intro K hK
  obtain ⟨hk2, hall⟩ := two_mk.1 h2
  unfold m_term_Pool_grow
  intro p2 w1 h1
  have b1 := Box.of_new h1
  have E1 : Pure w w1 := Ext.new h1
  refine ⟨_, _, _, _, _, _, b1.row, ?_⟩
  refine (c_nodeOf _ _ _ _ _ _ w1).mono ?_
  rintro _ w2 ⟨k', f', t', u', x', a', b', rfl, hn, E12⟩
  cases hn
  refine ⟨_, _, _, _, _, _, _, rfl, ?_⟩
  intro p3 w3 h3
  have E3 : Pure w w3 := (E1.trans E12).trans (Ext.new h3)
  have o3 := New.own (E1.trans E12) h3
  have n23 : p2.block ≠ p3.block := New.ne h3 (b1.pure E12).blk
  refine bx 7 (Box.of_new h3) rfl rfl (fun w4 b3 E34 => ?_)
  have E4 : Pure w w4 := E3.own o3 E34
  have b2 := ((b1.pure E12).pure (Ext.new h3)).ext E34 n23
  intro p4 w5 h5
  have E5 : Pure w w5 := E4.trans (Ext.new h5)
  have o4 := New.own E4 h5
  have n34 : p3.block ≠ p4.block := New.ne h5 b3.blk
  have c3 := b3.pure (Ext.new h5 : Pure w4 w5)
  have c4 := Box.of_new h5
  have c2 := b2.pure (Ext.new h5 : Pure w4 w5)
  refine ⟨s, c2.cell rfl, ?_⟩
  have hsp : Sp.grow L (.mk k f t u x ks) = Sp.growAll ⟨k, f, t, u, x, 0, 0⟩ 0 L ks := by rw [Sp.grow]
  rw [hsp] at hK
  have hlen : s.len = ks.length := by cases hT; assumption
  -- blocks made here: own, and not the pool's
  refine ⟨fun i w' => ∃ j : Nat, i = j ∧ j ≤ ks.length ∧ ∃ (nd : Sp.Node) (L' : Sp.Pool) (F' : Nat → Prop), Sp.growAll ⟨k, f, t, u, x, 0, 0⟩ 0 L ks = Sp.growAll nd j L' (ks.drop j) ∧ Sp.Ok L' ∧ PoolAt w' p L' F' ∧ (∀ b, F' b → F b ∨ w.heap.size ≤ b) ∧ ¬ F' p3.block ∧ ¬ F' p4.block ∧ Ext F w w' ∧ Box w' p3 (nrow nd) 93 ∧ Box w' p4 [.pointer (some (p3.add 5)), .pointer (some (p3.add 6))] 256, fun i _ => ((ks.length : Int) - i).toNat,
    ⟨0, rfl, Nat.zero_le _, ⟨k, f, t, u, x, 0, 0⟩, L, F, by simp, hok, hP.pure E5, fun b h => .inl h, fun h => by have := hP.lt h; omega, fun h => by have := hP.lt h; omega, E5.pure, c3, c4⟩, ?_⟩
  rintro _ wl ⟨j, rfl, hj, nd, L', F', heq, hok', hPl, hF', hn3, hn4, El, d3, d4⟩
  unfold m_term_Pool_grow_l1
  refine ⟨fun h => ?_, fun h => ?_⟩
  · have hlt : j < ks.length := by have h := of_decide_eq_true h; omega
    have hTl : TreeAt S wl s (.mk k f t u x ks) := hT.ext El (fun b hs hf => hFS b hf hs)
    have hkid : ∀ i (h : i < ks.length), ∃ a r, At s i 6 a ∧ Row wl a (trow ks[i] r) ∧ TreeAt S wl r ks[i] := by
      cases hTl with
      | mk _ _ _ _ _ _ _ rs len fit row kid => exact fun i h => let ⟨a, h1, _, h3⟩ := row i h; ⟨a, rs i, h1, h3, kid i h⟩
    obtain ⟨a, r, hat, hrow, hTk⟩ := hkid j hlt
    refine ⟨a, hat, _, _, _, _, _, r, hrow, ?_⟩
    intro p5 w6 h6
    have o5 := New.own (Ext.refl wl) h6
    refine bx 6 (Box.of_new h6) rfl rfl (fun w7 b5 E67 => ?_)
    have E7 : Pure wl w7 := Ext.own (Ext.new h6) o5 E67
    refine ⟨_, _, _, _, _, r, b5.row, ?_⟩
    have hsz : w.heap.size ≤ wl.heap.size := El.size
    refine (ih j hlt r w7 L' F' (twoAll_get hall hlt) (hTk.pure E7) (hPl.pure E7) hok' (fun b hb hs => (hF' b hb).elim (fun h => hFS b h hs) (fun h => by have := hSw b hs; omega)) (fun b hs => by have := hSw b hs; have := E7.size; omega)).mono ?_
    rintro _ w8 ⟨r1, r2, rfl, hr, F8, hP8, E8, hF8⟩
    have e1 : r1 = (Sp.grow L' ks[j]).1 := congrArg Prod.fst hr
    have e2 : r2 = (Sp.grow L' ks[j]).2.1 := congrArg Prod.snd hr
    rw [List.drop_eq_getElem_cons hlt] at heq
    have hF8' : ∀ b, F8 b → F b ∨ w.heap.size ≤ b := fun b hb => (hF8 b hb).elim (hF' b) (fun h => by right; have := E7.size; omega)
    have Ew8 : Ext F w w8 := (El.thenPure E7).trans' E8 (fun i hi h => (hF' i h).elim id (fun h => by omega))
    refine ⟨_, _, rfl, fun h => ?_, fun h => ?_⟩
    · have h : (Sp.grow L' ks[j]).2.1 ≠ 0 := by rw [← e2]; simpa using h
      rw [growAll_bad h] at heq
      refine hK _ _ _ ?_
      rw [heq]; exact ⟨by rw [e2], F8, hP8, Ew8, hF8'⟩
    · have h : (Sp.grow L' ks[j]).2.1 = 0 := by rw [← e2]; simpa using h
      rw [growAll_good h] at heq
      have q3 := (d3.pure E7).ext E8 hn3
      have q4 := (d4.pure E7).ext E8 hn4
      have hs7 : wl.heap.size ≤ w7.heap.size := E7.size
      have n38 : ¬ F8 p3.block := fun h => (hF8 _ h).elim hn3 (fun h => by have := (d3.pure E7).lt; omega)
      have n48 : ¬ F8 p4.block := fun h => (hF8 _ h).elim hn4 (fun h => by have := (d4.pure E7).lt; omega)
      have hok8 := (Sp.grow_facts ks[j] L' hok').1
      have fin : ∀ (w9 : World) (nd' : Sp.Node), nd' = (if j = 0 then { nd with a := (Sp.grow L' ks[j]).1 } else { nd with b := (Sp.grow L' ks[j]).1 }) → Box w9 p3 (nrow nd') 93 → Ext (· = p3.block) w8 w9 →
          (∃ j' : Nat, IntKind.i64.wrap ((j : Int) + 1) = j' ∧ j' ≤ ks.length ∧ ∃ (nd : Sp.Node) (L' : Sp.Pool) (F' : Nat → Prop), Sp.growAll ⟨k, f, t, u, x, 0, 0⟩ 0 L ks = Sp.growAll nd j' L' (ks.drop j') ∧ Sp.Ok L' ∧ PoolAt w9 p L' F' ∧ (∀ b, F' b → F b ∨ w.heap.size ≤ b) ∧ ¬ F' p3.block ∧ ¬ F' p4.block ∧ Ext F w w9 ∧ Box w9 p3 (nrow nd) 93 ∧ Box w9 p4 [.pointer (some (p3.add 5)), .pointer (some (p3.add 6))] 256) ∧ ((ks.length : Int) - IntKind.i64.wrap ((j : Int) + 1)).toNat < ((ks.length : Int) - (j : Int)).toNat := by
        intro w9 nd' hnd B9 E9
        rw [i64 (by omega) (by omega)]
        refine ⟨⟨j + 1, by omega, hlt, nd', _, F8, by rw [heq, hnd], hok8, hP8.ext E9 (fun b hb e => n38 (e ▸ hb)), hF8', n38, n48, Ew8.trans' E9 (fun i hi h => by subst h; omega), B9, q4.ext E9 n34.symm⟩, by omega⟩
      have hj2 : j = 0 ∨ j = 1 := by omega
      rcases hj2 with rfl | rfl
      · refine ⟨p4, ⟨by omega, by simp, p4, rfl, rfl⟩, some (p3.add 5), q4.cell0, p3.add 5, rfl, q3.canW (by simp [nrow]), ?_⟩
        intro w9 hw9
        refine fin w9 _ rfl ?_ ?_
        · rw [hw9, e1]; exact q3.set 5 _
        · rw [hw9]; have := Ext.setCell (w := w8) (p3.add 5) (.int .i64 r1); rw [add_block] at this; exact this
      · refine ⟨p4.add 1, ⟨by omega, by simp, p4, rfl, rfl⟩, some (p3.add 6), q4.cell rfl, p3.add 6, rfl, q3.canW (by simp [nrow]), ?_⟩
        intro w9 hw9
        refine fin w9 _ rfl ?_ ?_
        · rw [hw9, e1]; exact q3.set 6 _
        · rw [hw9]; have := Ext.setCell (w := w8) (p3.add 6) (.int .i64 r1); rw [add_block] at this; exact this
  · have hge : j = ks.length := by have h := of_decide_eq_false h; omega
    rw [hge, List.drop_length, Sp.growAll] at heq
    obtain ⟨k0, f0, t0, u0, x0, a0, b0⟩ := nd
    refine ⟨_, _, _, _, _, _, _, d3.row, ?_⟩
    refine (c_Make p k0 f0 t0 u0 x0 a0 b0 wl hPl hok').mono ?_
    rintro _ w9 ⟨r1, r2, rfl, hr, F9, hP9, E9, hF9⟩
    have hsz : w.heap.size ≤ wl.heap.size := El.size
    refine ⟨_, _, rfl, hK _ _ _ ?_⟩
    rw [heq]
    exact ⟨hr, F9, hP9, El.trans' E9 (fun i hi h => (hF' i h).elim id (fun h => by omega)), fun b hb => (hF9 b hb).elim (hF' b) (fun h => by right; omega)⟩

theorem looks_two (t : Sp.Tree) : ∀ i n : Int, (Sp.looks i n t).1 = 0 → Sp.Tree.two t := by
  induction t using Sp.Tree.ind with
  | h k f t u x ks ih =>
    have hA : ∀ (ks : List Sp.Tree), (∀ i (hi : i < ks.length), ∀ j n : Int, (Sp.looks j n ks[i]).1 = 0 → Sp.Tree.two ks[i]) → ∀ i e n : Int, (Sp.looksAll i e n ks).1 = 0 → e = 0 ∧ twoAll ks := by
      intro ks
      induction ks with
      | nil => intro _ i e n h; exact ⟨by simpa [Sp.looksAll] using h, trivial⟩
      | cons t ts iht =>
        intro hh i e n h
        unfold Sp.looksAll at h
        split at h
        · rename_i he
          have := iht (fun i hi => hh (i + 1) (by simpa using hi)) _ _ _ h
          exact ⟨he, hh 0 (by simp) i n this.1, this.2⟩
        · rename_i he; exact absurd h he
    intro i n h
    unfold Sp.looks at h
    split at h
    · cases h
    · split at h
      · cases h
      · have := hA ks ih _ _ _ h
        refine two_mk.2 ⟨?_, this.2⟩
        have ho := this.1
        unfold Sp.ownErr at ho
        simp only at ho
        have hk := Sp.kids_le k
        by_cases hp : Sp.plainErr ⟨k, f, t, u, x, 0, 0⟩ = 0
        · rw [if_pos hp] at ho
          by_cases hl : (ks.length : Int) ≠ (Sp.shapeOf k).kids
          · rw [if_pos hl] at ho; simp at ho
          · omega
        · rw [if_neg hp, if_neg hp] at ho; exact absurd ho hp

theorem c_Of {S : Nat → Prop} (p : Addr) (t : Sp.Tree) (s : Sl) (w : World) {L : Sp.Pool} {F : Nat → Prop} (hT : TreeAt S w s t) (hP : PoolAt w p L F) (hok : Sp.Ok L) (hFS : ∀ b, F b → ¬ S b) (hSw : ∀ b, S b → b < w.heap.size) :
    Calls Try.prog 73 #[.pointer (some p), .agg (trow t s).toArray] w
      (fun e w' => ∃ r1 : Int, ∃ r2 : Int, e = .returned (.tuple #[.int .i64 r1, .int .i64 r2]) ∧ ((r1, r2) = ((Sp.of L t).1, (Sp.of L t).2.1) ∧ ∃ F', PoolAt w' p (Sp.of L t).2.2 F' ∧ Ext F w w' ∧ ∀ b, F' b → F b ∨ w.heap.size ≤ b)) := by
  obtain ⟨k, f, to, u, x, ks⟩ := t
  suffices key : ∀ K : Int → Int → World → Prop, (∀ r1 r2 w', ((r1, r2) = ((Sp.of L (.mk k f to u x ks)).1, (Sp.of L (.mk k f to u x ks)).2.1) ∧ ∃ F', PoolAt w' p (Sp.of L (.mk k f to u x ks)).2.2 F' ∧ Ext F w w' ∧ ∀ b, F' b → F b ∨ w.heap.size ≤ b) → K r1 r2 w') → m_term_Pool_Of (some p) k f to u x s w K from
    w_term_Pool_Of _ _ _ _ _ _ _ w _ (key _ (fun _ _ _ h => h))
  intro K hK
  unfold m_term_Pool_Of
  intro p2 w1 h1
  have b1 := Box.of_new h1
  have E1 : Pure w w1 := Ext.new h1
  refine Br.f rfl ?_
  intro p3 w2 h2
  have E2 : Pure w w2 := E1.trans (Ext.new h2)
  have o3 := New.own E1 h2
  have c3 := Box.of_new h2
  have n23 : p2.block ≠ p3.block := New.ne h2 b1.blk
  refine ⟨c3.canW0 (by simp), ?_⟩
  intro w3 hw3
  have c3' : Box w3 p3 [.int .i64 0] 3 := by rw [hw3]; exact c3.set0
  have E23 : Ext (· = p3.block) w2 w3 := by rw [hw3]; exact Ext.setCell p3 _
  clear hw3
  have E3 : Pure w w3 := E2.own o3 E23
  have b3 := (b1.pure (Ext.new h2 : Pure w1 w2)).ext E23 n23
  refine ⟨_, _, _, _, _, s, b3.row, ?_⟩
  generalize ht : Sp.Tree.mk k f to u x ks = t at *
  have htr : (Value.agg #[.int .i64 k, .int .i64 f, .int .i64 to, .int .u64 u, .string x, s.v]) = .agg (trow t s).toArray := by rw [← ht]; rfl
  rw [htr]
  refine (c_looks p3 (fun h => by have := hSw _ h; omega) _ t s 0 0 w3 (by omega) (by omega) (hT.pure E3) c3').mono ?_
  rintro _ w4 ⟨r1, rfl, rfl, _, E34⟩
  have E4 : Pure w w4 := E3.own o3 E34
  have b4 := b3.ext E34 n23
  have same : ∀ w', Pure w w' → ∃ F', PoolAt w' p L F' ∧ Ext F w w' ∧ ∀ b, F' b → F b ∨ w.heap.size ≤ b := fun w' E => ⟨F, hP.pure E, E.pure, fun _ h => .inl h⟩
  refine ⟨_, rfl, fun h => ?_, fun h => ?_⟩
  · have h : (Sp.looks 0 0 t).1 ≠ 0 := by simpa using h
    have : Sp.of L t = (0, (Sp.looks 0 0 t).1, L) := by rw [Sp.of, if_pos h]
    refine hK _ _ _ ?_
    rw [this]; exact ⟨rfl, same _ E4⟩
  · have h : (Sp.looks 0 0 t).1 = 0 := by simpa using h
    have hP4 := hP.pure E4
    obtain ⟨s0, m0, hS0, hF0⟩ := id hP4
    have hl0 : s0.len = L.length := by rw [hS0.rows.len]; simp
    refine ⟨p, rfl, s0, hS0.box.cell0, _, _, _, _, _, s, b4.row, ?_⟩
    rw [htr]
    refine (c_grow p t s w4 L F (looks_two t _ _ h) (hT.pure E4) hP4 hok hFS (fun b hb => by have := hSw b hb; have := E4.size; omega)).mono ?_
    rintro _ w5 ⟨r1, r2, rfl, hr, F5, hP5, E45, hF5⟩
    have e1 : r1 = (Sp.grow L t).1 := congrArg Prod.fst hr
    have e2 : r2 = (Sp.grow L t).2.1 := congrArg Prod.snd hr
    have hs4 : w.heap.size ≤ w4.heap.size := E4.size
    have E5 : Ext F w w5 := E4.pure.trans E45
    have hF5' : ∀ b, F5 b → F b ∨ w.heap.size ≤ b := fun b hb => (hF5 b hb).elim .inl (fun h => .inr (by omega))
    refine ⟨_, _, rfl, fun h' => ?_, fun h' => ?_⟩
    · have h' : (Sp.grow L t).2.1 ≠ 0 := by rw [← e2]; simpa using h'
      obtain ⟨hok5, M, hM⟩ := Sp.grow_facts t L hok
      rw [hl0]
      refine (c_cut p L.length w5 hP5 hok5 (by rw [hM]; simp)).mono ?_
      rintro _ w6 ⟨rfl, hP6, E56⟩
      have : Sp.of L t = (0, (Sp.grow L t).2.1, L) := by rw [Sp.of, if_neg (by simp [h]), if_pos h']
      refine ⟨rfl, hK _ _ _ ?_⟩
      rw [this]
      rw [hM, List.take_left] at hP6
      exact ⟨by rw [e2], F5, hP6, E5.trans' E56 (fun i hi h => (hF5' i h).elim id (fun h => by omega)), hF5'⟩
    · have h' : (Sp.grow L t).2.1 = 0 := by rw [← e2]; simpa using h'
      have : Sp.of L t = ((Sp.grow L t).1, 0, (Sp.grow L t).2.2) := by rw [Sp.of, if_neg (by simp [h]), if_neg (by simp [h'])]
      refine hK _ _ _ ?_
      rw [this]
      exact ⟨by rw [e1], F5, hP5, E5, hF5'⟩
end Go.Proofs
