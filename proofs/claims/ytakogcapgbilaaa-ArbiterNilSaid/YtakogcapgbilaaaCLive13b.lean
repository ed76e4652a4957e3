/- Contracts: escrowlaw13, live. -/
import Derived.Test.YtakogcapgbilaaaCLive13
import Derived.Test.YtakogcapgbilaaaL13
open Go Go.SE
namespace Go.Proofs
attribute [local irreducible] Calls

theorem TreeAt.lt {S : Nat → Prop} {w : World} {s : Sl} {t : Sp.Tree} (h : TreeAt S w s t) : TreeAt (fun b => S b ∧ b < w.heap.size) w s t := by
  induction h with
  | mk k f t u x ks s rs len fit row kid ih =>
    refine .mk k f t u x ks s rs len fit (fun i h => let ⟨a, h1, h2, h3⟩ := row i h; ⟨a, h1, ⟨h2, ?_⟩, h3⟩) ih
    have := h3 0 (by simp [trow])
    unfold World.cell? at this
    refine Classical.byContradiction fun hge => ?_
    have : w.heap[(a.add 0).block]? = none := by rw [add_block]; exact Array.getElem?_eq_none (by omega)
    simp_all [trow]

/-- A tree is built, and its term is made. -/
theorem lv_step (p : Addr) (k f c : Int) (x : ByteArray) (hf : f = 0 ∨ f = 1) (w : World) {L : Sp.Pool} {F : Nat → Prop} (hP : PoolAt w p L F) (hok : Sp.Ok L) {Q : Int → Int → World → Prop}
    (hQ : ∀ w', (∃ F', PoolAt w' p (Sp.of L (Sp.letterT ⟨k, f, c, x, false⟩ false false)).2.2 F' ∧ Ext F w w' ∧ ∀ b, F' b → F b ∨ w.heap.size ≤ b) → Q (Sp.of L (Sp.letterT ⟨k, f, c, x, false⟩ false false)).1 (Sp.of L (Sp.letterT ⟨k, f, c, x, false⟩ false false)).2.1 w') :
    Calls Try.prog 74 #[.agg #[.int .i64 k, .int .i64 f, .int .u64 c, .string x, .bool false], .bool false, .bool false] w (fun e w2 => ∃ rKind1 : Int, ∃ rFrom1 : Int, ∃ rTo1 : Int, ∃ rNum1 : Int, ∃ rText1 : ByteArray, ∃ rKids1 : Sl, e = .returned (.agg #[(.int .i64 rKind1), (.int .i64 rFrom1), (.int .i64 rTo1), (.int .u64 rNum1), (.string rText1), rKids1.v]) ∧
      Kept None w w2 ∧
      Calls Try.prog 73 #[.pointer (some p), (.agg #[(.int .i64 rKind1), (.int .i64 rFrom1), (.int .i64 rTo1), (.int .u64 rNum1), (.string rText1), rKids1.v])] w2 (fun e w3 => ∃ r2 : Int, ∃ r3 : Int, e = .returned (.tuple #[(.int .i64 r2), (.int .i64 r3)]) ∧ Kept None w2 w3 ∧ Q r2 r3 w3)) := by
  refine (c_ref11_Tree w.heap.size k f c x false false false w (Nat.le_refl _) hf).mono ?_
  rintro _ w2 ⟨s, rfl, hT, E2⟩
  refine ⟨_, _, _, _, _, s, rfl, E2.keptP, ?_⟩
  refine (c_Of p _ s w2 hT.lt (hP.pure E2) hok (fun b hb h => by have := hP.lt hb; have : w.heap.size ≤ b := h.1; omega) (fun b h => h.2)).mono ?_
  rintro _ w3 ⟨r1, r2, rfl, hr, F', hP', E3, hF'⟩
  have e1 : r1 = _ := congrArg Prod.fst hr
  have e2 : r2 = _ := congrArg Prod.snd hr
  refine ⟨_, _, rfl, E3.kept (fun b h => h.elim), ?_⟩
  rw [e1, e2]
  exact hQ w3 ⟨F', hP', E2.pure.trans E3, fun b hb => (hF' b hb).imp_right (fun h => by have := E2.size; omega)⟩

theorem Lst.of_ints {w : World} {p : Addr} {T : TypeId} (ts : List Int) (h : Box w p (ts.map fun t => .int .i64 t) T) : Lst (· = p.block) w 1 ⟨some p, ts.length, ts.length⟩ (trows ts) := by
  refine ⟨by simp [trows], fun i hi => ?_⟩
  have hi' : i < ts.length := by simpa [trows] using hi
  refine ⟨p.add (i * 1), ⟨by omega, by simpa using hi', p, rfl, by simp⟩, by rw [add_block], fun j hj => ?_⟩
  have hj0 : j = 0 := by simpa [trows] using hj
  subst hj0
  have := h.cell (i := i) (v := .int .i64 ts[i]) (by simp [hi'])
  rw [add_add, Nat.mul_one, Nat.add_zero, this]
  simp [trows]

theorem c_live13 (w0 : World) : Calls Try.prog 16 #[] w0 (fun e w' => ∃ r : Bool, e = .returned (.bool r) ∧ (r = true ∧ Pure w0 w')) := by
  refine w_law13_live w0 (fun r w' => r = true ∧ Pure w0 w') ?_
  unfold m_law13_live
  refine (c_New w0).mono ?_
  rintro _ w1 ⟨_, rfl, p, rfl, E1, F1, hP1, hF1⟩
  refine ⟨_, rfl, E1.keptP, Br.f rfl ?_⟩
  refine lv_step p 2 1 7 Sp.wt (.inr rfl) w1 hP1 Sp.Ok.nil ?_
  rintro w3 ⟨F3, hP3, E3, hF3⟩
  have ok1 := Sp.of_ok Sp.Ok.nil Sp.lvA
  refine lv_step p 1 1 7 Sp.wt (.inr rfl) w3 hP3 ok1 ?_
  rintro w5 ⟨F5, hP5, E5, hF5⟩
  have ok2 := Sp.of_ok ok1 Sp.lvB
  refine lv_step p 2 1 7 Sp.wu (.inr rfl) w5 hP5 ok2 ?_
  rintro w7 ⟨F7, hP7, E7, hF7⟩
  have ok3 := Sp.of_ok ok2 Sp.lvC
  have hP : PoolAt w7 p Sp.lv3 F7 := hP7
  have s1 := E1.size
  have s3 := E3.size
  have s5 := E5.size
  have E : Pure w0 w7 := ((E1.trans' E3 (fun i hi h => by have := hF1 i h; omega)).trans' E5 (fun i hi h => (hF3 i h).elim (fun h => by have := hF1 i h; omega) (fun h => by omega))).trans' E7 (fun i hi h => (hF5 i h).elim (fun h => (hF3 i h).elim (fun h => by have := hF1 i h; omega) (fun h => by omega)) (fun h => by omega))
  have hF0 : ∀ b, F7 b → w0.heap.size ≤ b := fun b hb => (hF7 b hb).elim (fun h => (hF5 b h).elim (fun h => (hF3 b h).elim (hF1 b) (fun h => by omega)) (fun h => by omega)) (fun h => by omega)
  have ea := Sp.lv_a
  have eb := Sp.lv_b
  have ec := Sp.lv_c
  have ha1 : (Sp.of [] (Sp.letterT ⟨2, 1, 7, Sp.wt, false⟩ false false)).1 = 6 := ea.1
  have ha2 : (Sp.of [] (Sp.letterT ⟨2, 1, 7, Sp.wt, false⟩ false false)).2.1 = 0 := ea.2
  have hb1 : (Sp.of (Sp.of [] (Sp.letterT ⟨2, 1, 7, Sp.wt, false⟩ false false)).2.2 (Sp.letterT ⟨1, 1, 7, Sp.wt, false⟩ false false)).1 = 7 := eb.1
  have hb2 : (Sp.of (Sp.of [] (Sp.letterT ⟨2, 1, 7, Sp.wt, false⟩ false false)).2.2 (Sp.letterT ⟨1, 1, 7, Sp.wt, false⟩ false false)).2.1 = 0 := eb.2
  have hc1 : (Sp.of (Sp.of (Sp.of [] (Sp.letterT ⟨2, 1, 7, Sp.wt, false⟩ false false)).2.2 (Sp.letterT ⟨1, 1, 7, Sp.wt, false⟩ false false)).2.2 (Sp.letterT ⟨2, 1, 7, Sp.wu, false⟩ false false)).1 = 11 := ec.1
  have hc2 : (Sp.of (Sp.of (Sp.of [] (Sp.letterT ⟨2, 1, 7, Sp.wt, false⟩ false false)).2.2 (Sp.letterT ⟨1, 1, 7, Sp.wt, false⟩ false false)).2.2 (Sp.letterT ⟨2, 1, 7, Sp.wu, false⟩ false false)).2.1 = 0 := ec.2
  refine Br.f (by rw [ha2]; first | rfl | (rw [hb2]; first | rfl | (rw [hc2]; rfl))) ?_
  rw [ha1, hb1, hc1]
  clear ha1 ha2 hb1 hb2 hc1 hc2 ea eb ec
  intro H2 w9 hs9 p1 w11 h11
  have hv9 : ∀ b, F7 b → ¬ H2 b := hs9.disj (fun b hb => ⟨hP.lt hb, id⟩)
  have hP9 := hP.ext hs9.ext hv9
  have E9 := E.hst hs9
  have E11 : Pure w9 w11 := Ext.new h11
  refine (c_arb_Judge (some p) _ _ 1 7 Sp.wt w11 (reads_pool p _ [7, 6] w11 (hP9.pure E11) ok3 (Lst.of_ints [7, 6] (Box.of_new h11)) (by simp)) (by simp [readAll])).mono ?_
  rintro _ w12 ⟨b, y, i, rfl, hj, E12⟩
  rw [Sp.lv_x] at hj
  cases hj
  refine ⟨_, _, _, rfl, E12.keptP, ?_⟩
  intro H4 w14 hs14 p3 w15 h15
  have E12' := E11.trans E12
  have hP12 := hP9.pure E12'
  have hv14 : ∀ b, F7 b → ¬ H4 b := hs14.disj (fun b hb => ⟨hP12.lt hb, hv9 b hb⟩)
  have hP14 := hP12.ext hs14.ext hv14
  have E14 := (E9.trans E12').hst hs14
  have E15 : Pure w14 w15 := Ext.new h15
  refine (c_arb_Judge (some p) _ _ 1 7 Sp.wt w15 (reads_pool p _ [7] w15 (hP14.pure E15) ok3 (Lst.of_ints [7] (Box.of_new h15)) (by simp)) (by simp [readAll])).mono ?_
  rintro _ w16 ⟨b, y, i, rfl, hj, E16⟩
  rw [Sp.lv_y] at hj
  cases hj
  refine ⟨_, _, _, rfl, E16.keptP, ?_⟩
  intro H5 w18 hs18 p5 w19 h19
  have E16' := E15.trans E16
  have hP16 := hP14.pure E16'
  have hv18 : ∀ b, F7 b → ¬ H5 b := hs18.disj (fun b hb => ⟨hP16.lt hb, hv14 b hb⟩)
  have hP18 := hP16.ext hs18.ext hv18
  have E18 := (E14.trans E16').hst hs18
  have E19 : Pure w18 w19 := Ext.new h19
  refine (c_arb_Faults (some p) _ _ w19 (reads_pool p _ [6, 7, 11] w19 (hP18.pure E19) ok3 (Lst.of_ints [6, 7, 11] (Box.of_new h19)) (by simp)) (by simp [readAll])).mono ?_
  rintro _ w20 ⟨s, rfl, hs⟩
  rw [Sp.lv_l] at hs
  have E20 := E18.trans (E19.trans hs.pure)
  refine ⟨s, rfl, hs.kept, ?_⟩
  rintro _ rfl
  have hl : s.len = 1 := hs.rows.len
  have O := hs.own' (hs18.again E19.keptP)
  refine Br.t (by rw [hl]; rfl) ?_
  obtain ⟨a, hat, _⟩ := O.rows.nth (f := frow) (xs := [⟨1, 7, 1, 0, 2⟩]) (j := 0) (by simp)
  refine ⟨a, hat, ?_⟩
  intro H7 w22 hs22
  obtain ⟨a', hat', hrow⟩ := (O.hst hs22).rows.nth (f := frow) (xs := [⟨1, 7, 1, 0, 2⟩]) (j := 0) (by simp)
  have haa : a' = a := by
    obtain ⟨_, _, x, hx, rfl⟩ := hat
    obtain ⟨_, _, y, hy, rfl⟩ := hat'
    rw [hx] at hy; cases hy; rfl
  subst haa
  exact ⟨_, _, _, _, _, hrow, rfl, E20.hst hs22⟩
end Go.Proofs
