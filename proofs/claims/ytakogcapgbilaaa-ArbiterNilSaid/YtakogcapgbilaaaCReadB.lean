/- Contracts: escrow/letter, reader: deal, promise. -/
import Derived.Test.YtakogcapgbilaaaCReadA
open Go Go.SE
namespace Go.Sp
def rdPromise (L : Pool) (t : Int) : Letter × Bool :=
  let n := nodeOf L t
  if (n.kind ≠ 8 ∧ n.kind ≠ 9) ∨ 1 < n.frm ∨ n.to ≠ IntKind.i64.wrap (1 - n.frm) then (noLetter, true)
  else (⟨1, n.frm, (rdDeal L n.a).1.1, (rdDeal L n.a).1.2, n.kind == 9⟩, (rdDeal L n.a).2)
end Go.Sp
namespace Go.Proofs
attribute [local irreducible] Calls

theorem c_rd_deal (r p : Addr) (t : Int) (bad : Bool) (w : World) {L : Sp.Pool} {F : Nat → Prop} (hR : ReaderAt w r p bad L F) :
    Calls Try.prog 218 #[.pointer (some r), .int .i64 t] w
      (fun e w' => ∃ c : Int, ∃ x : ByteArray, e = .returned (.tuple #[.int .u64 c, .string x]) ∧ ((c, x) = (Sp.rdDeal L t).1 ∧ ReaderAt w' r p (bad || (Sp.rdDeal L t).2) L F ∧ Ext (· = r.block) w w')) := by
  suffices key : ∀ K : Int → ByteArray → World → Prop, (∀ c x w', ((c, x) = (Sp.rdDeal L t).1 ∧ ReaderAt w' r p (bad || (Sp.rdDeal L t).2) L F ∧ Ext (· = r.block) w w') → K c x w') → m_letter_reader_deal (some r) t w K from
    w_letter_reader_deal _ _ w _ (key _ (fun _ _ _ h => h))
  intro K hK
  unfold m_letter_reader_deal
  refine (c_rd_tagged r p t bad w hR).mono ?_
  rintro _ w1 ⟨x1, y1, rfl, hg, hR1, E1⟩
  refine ⟨_, _, rfl, ?_⟩
  refine (c_rd_node r p y1 4 _ w1 hR1).mono ?_
  rintro _ w2 ⟨k2, f2, t2, u2, x2, a2, b2, rfl, hn, hR2, E2⟩
  refine ⟨_, _, _, _, _, _, _, rfl, ?_⟩
  intro p1 w3 h3
  have o3 := New.own (Ext.refl w2) h3
  have l2 := hR2.box.lt
  refine bx 7 (Box.of_new h3) rfl rfl (fun w4 b4 E' => ?_)
  have E4 : Pure w2 w4 := Ext.own (Ext.new h3) o3 E'
  have hR4 := hR2.pure E4
  clear E' h3
  have ey : y1 = (Sp.rdTagged L t).1.2 := congrArg Prod.snd hg
  have ex : x1 = (Sp.rdTagged L t).1.1 := congrArg Prod.fst hg
  have ea : a2 = (Sp.rdNode L y1 4).1.a := by rw [← hn]
  have eb : b2 = (Sp.rdNode L y1 4).1.b := by rw [← hn]
  generalize hb4 : (bad || (Sp.rdTagged L t).2 || (Sp.rdNode L y1 4).2) = bad4 at *
  have fin : ∀ (v : Bool) (w5 : World), (v = (bad4 || !decide (x1 = Sp.wDeal))) → Box w5 r [.pointer (some p), .bool v] 264 → Ext (· = r.block) w4 w5 → m_letter_reader_deal_j1 (some r) p1 w5 K := by
    intro v w5 hv B5 E5
    have hR5 : ReaderAt w5 r p v L F := ⟨B5, hR4.pool.ext E5 (fun b hb e => hR.out (e ▸ hb)), hR.ok, hR.out⟩
    have c5 := b4.ext E5 (by omega)
    unfold m_letter_reader_deal_j1
    refine ⟨fun w' => Box w' p1 [.int .i64 k2, .int .i64 f2, .int .i64 t2, .int .u64 u2, .string x2, .int .i64 a2, .int .i64 b2] 93, c5.pure (Ext.drew w5), ?_⟩
    intro w6 hw6
    have E6 : Pure w5 w6 := by rw [hw6]; exact Ext.drew w5
    clear hw6
    have c6 := c5.pure E6
    refine ⟨a2, fun w' h => h.cell rfl, b2, fun w' h => h.cell rfl, ?_⟩
    refine (c_rd_node r p a2 2 _ w6 (hR5.pure E6)).mono ?_
    rintro _ w7 ⟨k3, f3, t3, u3, x3, a3, b3, rfl, hn3, hR7, E7⟩
    have c7 := c6.ext E7 (by omega)
    refine ⟨_, _, _, _, _, _, _, rfl, c7, ?_⟩
    refine (c_rd_node r p b2 3 _ w7 hR7).mono ?_
    rintro _ w8 ⟨k4, f4, t4, u4, x4, a4, b4', rfl, hn4, hR8, E8⟩
    have e3 : u3 = (Sp.rdNode L a2 2).1.num := by rw [← hn3]
    have e4 : x4 = (Sp.rdNode L b2 3).1.text := by rw [← hn4]
    refine ⟨_, _, _, _, _, _, _, rfl, c7.ext E8 (by omega), hK _ _ _ ⟨?_, ?_, ?_⟩⟩
    · simp only [Sp.rdDeal, ← ey, ← ea, ← eb, ← e3, ← e4]
    · have : (bad || (Sp.rdDeal L t).2) = (v || (Sp.rdNode L a2 2).2 || (Sp.rdNode L b2 3).2) := by
        simp only [Sp.rdDeal, ← ey, ← ea, ← eb, ← ex, hv, ← hb4, Bool.or_assoc]
      rw [this]; exact hR8
    · exact ((((E1.trans E2).thenPure E4).trans E5).thenPure E6 |>.trans E7).trans E8
  have setr : ∀ v : Bool, Box (w4.setCell (r.add 1) (.bool v)) r [.pointer (some p), .bool v] 264 ∧ Ext (· = r.block) w4 (w4.setCell (r.add 1) (.bool v)) := fun v =>
    ⟨hR4.box.set 1 _, by have := Ext.setCell (w := w4) (r.add 1) (.bool v); rw [add_block] at this; exact this⟩
  refine ⟨r, rfl, bad4, hR4.box.cell rfl, fun h => ⟨r, rfl, hR4.box.canW (by simp), ?_⟩, fun h => ⟨r, rfl, hR4.box.canW (by simp), ?_⟩⟩
  · intro w8 hw8
    have := setr true
    exact fin true w8 (by rw [h]; rfl) (by rw [hw8]; exact this.1) (by rw [hw8]; exact this.2)
  · intro w8 hw8
    have := setr (!decide (x1 = Sp.wDeal))
    exact fin (!decide (x1 = Sp.wDeal)) w8 (by rw [h]; rfl) (by rw [hw8]; exact this.1) (by rw [hw8]; exact this.2)

theorem c_rd_promise (r p : Addr) (t : Int) (bad : Bool) (w : World) {L : Sp.Pool} {F : Nat → Prop} (hR : ReaderAt w r p bad L F) :
    Calls Try.prog 166 #[.pointer (some r), .int .i64 t] w
      (fun e w' => ∃ k : Int, ∃ f : Int, ∃ c : Int, ∃ x : ByteArray, ∃ fk : Bool, e = .returned (.agg #[.int .i64 k, .int .i64 f, .int .u64 c, .string x, .bool fk]) ∧ ((⟨k, f, c, x, fk⟩ : Sp.Letter) = (Sp.rdPromise L t).1 ∧ ReaderAt w' r p (bad || (Sp.rdPromise L t).2) L F ∧ Ext (· = r.block) w w')) := by
  suffices key : ∀ K : Int → Int → Int → ByteArray → Bool → World → Prop, (∀ k f c x fk w', ((⟨k, f, c, x, fk⟩ : Sp.Letter) = (Sp.rdPromise L t).1 ∧ ReaderAt w' r p (bad || (Sp.rdPromise L t).2) L F ∧ Ext (· = r.block) w w') → K k f c x fk w') → m_letter_reader_promise (some r) t w K from
    w_letter_reader_promise _ _ w _ (key _ (fun _ _ _ _ _ _ h => h))
  intro K hK
  unfold m_letter_reader_promise
  intro p1 w1 h1
  have E1 : Pure w w1 := Ext.new h1
  have o1 := New.own (Ext.refl w) h1
  have lr := hR.box.lt
  have b1 := Box.of_new h1
  refine ⟨r, rfl, some p, (hR.box.pure E1).cell0, ?_⟩
  refine (c_Node p t w1 (hR.pool.pure E1) hR.ok).mono ?_
  rintro _ w2 ⟨k, f, t', u, x, a, b, ok, rfl, ⟨hn, hok⟩, E12⟩
  refine ⟨_, _, _, _, _, _, _, _, rfl, ?_⟩
  intro p2 w3 h3
  have E2 : Pure w w2 := E1.trans E12
  have o3 := New.own E2 h3
  have n12 : p1.block ≠ p2.block := New.ne h3 (b1.pure E12).blk
  refine bx 7 (Box.of_new h3) rfl rfl (fun w4 b2 E' => ?_)
  have E4 : Pure w w4 := (E2.trans (Ext.new h3)).own o3 E'
  have c1 := ((b1.pure E12).pure (Ext.new h3)).ext E' n12
  have hR4 := hR.pure E4
  clear E' E2 E12 b1 h1 h3
  have n1r : p1.block ≠ r.block := by omega
  have hsp : Sp.rdPromise L t = if (k ≠ 8 ∧ k ≠ 9) ∨ 1 < f ∨ t' ≠ IntKind.i64.wrap (1 - f) then (Sp.noLetter, true) else (⟨1, f, (Sp.rdDeal L a).1.1, (Sp.rdDeal L a).1.2, k == 9⟩, (Sp.rdDeal L a).2) := by
    simp only [Sp.rdPromise, ← hn]
  have bad1 : ((k ≠ 8 ∧ k ≠ 9) ∨ 1 < f ∨ t' ≠ IntKind.i64.wrap (1 - f)) → CanW w4 (r.add 1) ∧ ∀ w5 : World, w5 = w4.setCell (r.add 1) (.bool true) →
      (∀ j, j < 5 → CanW w5 (p1.add j)) ∧ ∀ w6 : World, w6 = storeRow w5 p1 [(.int .i64 0), (.int .i64 0), (.int .u64 0), (.string (⟨#[]⟩ : ByteArray)), (.bool false)] →
      ∃ qKind1 : Int, ∃ qFrom1 : Int, ∃ qC1 : Int, ∃ qText1 : ByteArray, ∃ qFake1 : Bool, Row w6 p1 [(.int .i64 qKind1), (.int .i64 qFrom1), (.int .u64 qC1), (.string qText1), (.bool qFake1)] ∧
      K qKind1 qFrom1 qC1 qText1 qFake1 w6 := by
    intro hc
    rw [if_pos hc] at hsp
    refine ⟨hR4.box.canW (by simp), ?_⟩
    intro w5 hw5
    have d5 : Box w5 r [.pointer (some p), .bool true] 264 := by rw [hw5]; exact hR4.box.set 1 _
    have E5 : Ext (· = r.block) w4 w5 := by rw [hw5]; have := Ext.setCell (w := w4) (r.add 1) (.bool true); rw [add_block] at this; exact this
    clear hw5
    refine bx 5 (c1.ext E5 n1r) rfl rfl (fun w6 b6 E6 => ⟨0, 0, 0, ⟨#[]⟩, false, b6.row, hK _ _ _ _ _ _ ⟨by rw [hsp]; rfl, ⟨?_, ?_, hR.ok, hR.out⟩, ?_⟩⟩)
    · rw [hsp]; simp only [Bool.or_true]; exact d5.ext E6 n1r.symm
    · exact (hR4.pool.ext E5 (fun b hb e => hR.out (e ▸ hb))).ext E6 (fun b hb e => by have := hR.pool.lt hb; omega)
    · exact (E4.pure.trans E5).trans' E6 (fun i hi h => by omega)
  have J1 : ¬ ((k ≠ 8 ∧ k ≠ 9) ∨ 1 < f ∨ t' ≠ IntKind.i64.wrap (1 - f)) → m_letter_reader_promise_j1 (some r) p1 p2 w4 K := by
    intro hc
    rw [if_neg hc] at hsp
    unfold m_letter_reader_promise_j1
    refine ⟨a, b2.cell rfl, ?_⟩
    refine (c_rd_deal r p a bad w4 hR4).mono ?_
    rintro _ w5 ⟨c, y, rfl, hd, hR5, E5⟩
    have d2 := b2.ext E5 (by omega)
    have d1 := c1.ext E5 n1r
    have ec : c = (Sp.rdDeal L a).1.1 := congrArg Prod.fst hd
    have ey : y = (Sp.rdDeal L a).1.2 := congrArg Prod.snd hd
    refine ⟨_, _, rfl, f, d2.cell rfl, k, d2.cell0, bx 5 d1 rfl rfl (fun w6 b6 E6 => ⟨1, f, c, y, k == 9, b6.row, hK _ _ _ _ _ _ ⟨?_, ?_, ?_⟩⟩)⟩
    · rw [hsp]; simp only [← ec, ← ey]
    · rw [hsp]
      exact ⟨hR5.box.ext E6 n1r.symm, hR5.pool.ext E6 (fun b hb e => by have := hR.pool.lt hb; omega), hR.ok, hR.out⟩
    · exact (E4.pure.trans E5).trans' E6 (fun i hi h => by omega)
  have J3 : ∀ x2, x2 = ((k != 8 && k != 9) || decide (1 < f)) → m_letter_reader_promise_j3 (some r) p1 p2 x2 w4 K := by
    intro x2 hx
    unfold m_letter_reader_promise_j3
    refine ⟨fun h => ⟨r, rfl, bad1 ?_⟩, fun h => ⟨t', b2.cell rfl, f, b2.cell rfl, fun h2 => ⟨r, rfl, bad1 ?_⟩, fun h2 => J1 ?_⟩⟩
    · rw [h] at hx
      have hx := hx.symm
      simp at hx
      rcases hx with hx | hx
      · exact .inl hx
      · exact .inr (.inl hx)
    · exact .inr (.inr (by simpa using h2))
    · rw [h] at hx
      have hx := hx.symm
      simp only [Bool.or_eq_false_iff, decide_eq_false_iff_not] at hx
      rintro (h3 | h3 | h3)
      · have := hx.1; simp [h3.1, h3.2] at this
      · exact hx.2 h3
      · have h2 : t' = IntKind.i64.wrap (1 - f) := by simpa using h2
        exact h3 h2
  have J2 : ∀ x1, x1 = (k != 8 && k != 9) → m_letter_reader_promise_j2 (some r) p1 p2 x1 w4 K := by
    intro x1 hx
    unfold m_letter_reader_promise_j2
    exact ⟨fun h => J3 _ (by rw [← hx, h]; rfl), fun h => ⟨f, b2.cell rfl, J3 _ (by rw [← hx, h]; rfl)⟩⟩
  exact ⟨k, b2.cell0, fun h => ⟨k, b2.cell0, J2 _ (by rw [h]; rfl)⟩, fun h => J2 _ (by rw [h]; rfl)⟩
end Go.Proofs
