/- Contracts: escrow/letter, Read. -/
import Derived.Test.YtakogcapgbilaaaCReadD
open Go Go.SE
namespace Go.Proofs
attribute [local irreducible] Calls

theorem c_letter_Read (p : Addr) (t : Int) (w : World) {L : Sp.Pool} {F : Nat → Prop} (hP : PoolAt w p L F) (hok : Sp.Ok L) :
    Calls Try.prog 130 #[.pointer (some p), .int .i64 t] w
      (fun e w' => ∃ k : Int, ∃ f : Int, ∃ c : Int, ∃ x : ByteArray, ∃ fk : Bool, ∃ ok : Bool, e = .returned (.tuple #[.agg #[.int .i64 k, .int .i64 f, .int .u64 c, .string x, .bool fk], .bool ok]) ∧ (((⟨k, f, c, x, fk⟩ : Sp.Letter), ok) = Sp.read L t ∧ Pure w w')) := by
  suffices key : ∀ K : Int → Int → Int → ByteArray → Bool → Bool → World → Prop, (∀ k f c x fk ok w', (((⟨k, f, c, x, fk⟩ : Sp.Letter), ok) = Sp.read L t ∧ Pure w w') → K k f c x fk ok w') → m_letter_Read (some p) t w K from
    w_letter_Read _ _ w _ (key _ (fun _ _ _ _ _ _ _ h => h))
  intro K hK
  unfold m_letter_Read
  intro p2 w1 h1 p3 w2 h2
  have E1 : Pure w w1 := Ext.new h1
  have E2 : Pure w w2 := E1.trans (Ext.new h2)
  have o2 := New.own (Ext.refl w) h1
  have o3 := New.own E1 h2
  have n23 : p2.block ≠ p3.block := New.ne h2 (Box.of_new h1).blk
  have b2 : Box w2 p2 lz 132 := (Box.of_new h1).pure (Ext.new h2)
  have hout : ¬ F p3.block := fun h => by have := hP.lt h; omega
  have hR2 : ReaderAt w2 p3 p false L F := ⟨Box.of_new h2, hP.pure E2, hok, hout⟩
  refine (c_Node p t w2 hR2.pool hok).mono ?_
  rintro _ w3 ⟨k, f, t', u, x, a, b, ok, rfl, ⟨hn, _⟩, E23⟩
  refine ⟨_, _, _, _, _, _, _, _, rfl, ?_⟩
  intro p4 w4 h4
  have E3 : Pure w2 w3 := E23
  have o4 := New.own (Ext.refl w3) h4
  have l3 := (hR2.pure E3).box.lt
  have l2 := (b2.pure E3).lt
  refine bx 7 (Box.of_new h4) rfl rfl (fun w5 b4 E' => ?_)
  have E5 : Pure w3 w5 := Ext.own (Ext.new h4) o4 E'
  intro p5 w6 h6
  have E6 : Pure w3 w6 := E5.trans (Ext.new h6)
  have o5 := New.own E5 h6
  have n45 : p4.block ≠ p5.block := New.ne h6 b4.blk
  have c4 := b4.pure (Ext.new h6 : Pure w5 w6)
  have c5 : Box w6 p5 lz 132 := Box.of_new h6
  have c2 := b2.pure (E3.trans E6)
  have hR6 := hR2.pure (E3.trans E6)
  have E26 : Pure w w6 := (E2.trans E3).trans E6
  clear E' h1 h2 h4 h6
  have n35 : p3.block ≠ p5.block := by omega
  have n25 : p2.block ≠ p5.block := by omega
  have hq : Sp.readQ L t = if k = 7 then Sp.rdSigned L f a else if k = 8 ∨ k = 9 then Sp.rdPromise L t else if ((Sp.rdTagged L t).2 || !decide ((Sp.rdTagged L t).1.1 = Sp.wFull)) = true then (Sp.noLetter, true) else (⟨7, 0, (Sp.rdNode L (Sp.rdTagged L t).1.2 2).1.num, ⟨#[]⟩, false⟩, (Sp.rdNode L (Sp.rdTagged L t).1.2 2).2) := by
    simp only [Sp.readQ, ← hn]
  -- behind the reading: the zero letter, or what was read
  have bad1 : ∀ (w8 : World), (Sp.readQ L t).2 = true → Ext (fun b => b = p3.block ∨ b = p5.block) w6 w8 → (∀ j, j < 5 → CanW w8 (p2.add j)) ∧ ∀ w9 : World, w9 = storeRow w8 p2 [(.int .i64 0), (.int .i64 0), (.int .u64 0), (.string (⟨#[]⟩ : ByteArray)), (.bool false)] →
      ∃ qKind1 : Int, ∃ qFrom1 : Int, ∃ qC1 : Int, ∃ qText1 : ByteArray, ∃ qFake1 : Bool, Row w9 p2 [(.int .i64 qKind1), (.int .i64 qFrom1), (.int .u64 qC1), (.string qText1), (.bool qFake1)] ∧ K qKind1 qFrom1 qC1 qText1 qFake1 false w9 := by
    intro w8 hb E8
    refine bx 5 (c2.ext E8 (by rintro (h | h) <;> omega)) rfl rfl (fun w9 b9 E9 => ⟨0, 0, 0, ⟨#[]⟩, false, b9.row, hK _ _ _ _ _ _ _ ⟨?_, ?_⟩⟩)
    · rw [Sp.read, if_pos hb]; rfl
    · exact (E26.trans' E8 (fun i hi h => by rcases h with h | h <;> omega)).trans' E9 (fun i hi h => by omega)
  have good1 : ∀ (w8 : World) (l : Sp.Letter), Sp.readQ L t = (l, false) → Ext (fun b => b = p3.block ∨ b = p5.block) w6 w8 → Box w8 p5 [.int .i64 l.kind, .int .i64 l.frm, .int .u64 l.c, .string l.text, .bool l.fake] 132 →
      ∃ vKind1 : Int, ∃ vFrom1 : Int, ∃ vC1 : Int, ∃ vText1 : ByteArray, ∃ vFake1 : Bool, Row w8 p5 [(.int .i64 vKind1), (.int .i64 vFrom1), (.int .u64 vC1), (.string vText1), (.bool vFake1)] ∧
      (∀ j, j < 5 → CanW w8 (p2.add j)) ∧ ∀ w9 : World, w9 = storeRow w8 p2 [(.int .i64 vKind1), (.int .i64 vFrom1), (.int .u64 vC1), (.string vText1), (.bool vFake1)] →
      ∃ qKind1 : Int, ∃ qFrom1 : Int, ∃ qC1 : Int, ∃ qText1 : ByteArray, ∃ qFake1 : Bool, Row w9 p2 [(.int .i64 qKind1), (.int .i64 qFrom1), (.int .u64 qC1), (.string qText1), (.bool qFake1)] ∧ K qKind1 qFrom1 qC1 qText1 qFake1 true w9 := by
    intro w8 l hb E8 B8
    refine ⟨_, _, _, _, _, B8.row, ?_⟩
    refine bx 5 (c2.ext E8 (by rintro (h | h) <;> omega)) rfl rfl (fun w9 b9 E9 => ⟨l.kind, l.frm, l.c, l.text, l.fake, b9.row, hK _ _ _ _ _ _ _ ⟨?_, ?_⟩⟩)
    · rw [Sp.read, if_neg (by rw [hb]; simp), hb]
    · exact (E26.trans' E8 (fun i hi h => by rcases h with h | h <;> omega)).trans' E9 (fun i hi h => by omega)
  have up : ∀ {w7 w8 : World}, Ext (· = p3.block) w6 w7 → Ext (· = p5.block) w7 w8 → Ext (fun b => b = p3.block ∨ b = p5.block) w6 w8 := fun h h' => (h.mono (fun _ _ h => .inl h)).trans' h' (fun _ _ h => .inr h)
  have J1p : ∀ b, b = true → k ≠ 7 → (k = 8 ∨ k = 9) → m_letter_Read_j1 t p2 p3 p5 b w6 K := by
    rintro _ rfl h7 h89
    rw [if_neg h7, if_pos h89] at hq
    unfold m_letter_Read_j1
    refine Br.t rfl ?_
    refine (c_rd_promise p3 p t false w6 hR6).mono ?_
    rintro _ w7 ⟨k7, f7, c7, x7, g7, rfl, hl, hR7, E7⟩
    refine ⟨_, _, _, _, _, rfl, bx 5 (c5.ext E7 n35.symm) rfl rfl (fun w8 b8 E8 => ⟨(Sp.rdPromise L t).2, ?_, fun h => bad1 w8 (by rw [hq]; exact h) (up E7 E8), fun h => good1 w8 ⟨k7, f7, c7, x7, g7⟩ (by rw [hq, hl, ← h]) (up E7 E8) b8⟩)⟩
    have := (hR7.box.ext E8 n35).cell (i := 1) rfl
    simpa using this
  have J1t : ∀ b, b = false → k ≠ 7 → ¬ (k = 8 ∨ k = 9) → m_letter_Read_j1 t p2 p3 p5 b w6 K := by
    rintro _ rfl h7 h89
    rw [if_neg h7, if_neg h89] at hq
    unfold m_letter_Read_j1
    refine Br.f rfl ?_
    refine (c_rd_tagged p3 p t false w6 hR6).mono ?_
    rintro _ w7 ⟨x7, y7, rfl, hg, hR7, E7⟩
    have ex : x7 = (Sp.rdTagged L t).1.1 := congrArg Prod.fst hg
    have ey : y7 = (Sp.rdTagged L t).1.2 := congrArg Prod.snd hg
    rw [← ex, ← ey] at hq
    have setr : ∀ v : Bool, Box (w7.setCell (p3.add 1) (.bool v)) p3 [.pointer (some p), .bool v] 264 ∧ Ext (· = p3.block) w7 (w7.setCell (p3.add 1) (.bool v)) := fun v =>
      ⟨hR7.box.set 1 _, by have := Ext.setCell (w := w7) (p3.add 1) (.bool v); rw [add_block] at this; exact this⟩
    have J3 : ∀ (v : Bool) (w8 : World), v = ((Sp.rdTagged L t).2 || !decide (x7 = Sp.wFull)) → Box w8 p3 [.pointer (some p), .bool v] 264 → Ext (· = p3.block) w7 w8 → m_letter_Read_j3 p2 p3 p5 y7 w8 K := by
      intro v w8 hv B8 E8
      have E68 := E7.trans E8
      have E68' : Ext (fun b => b = p3.block ∨ b = p5.block) w6 w8 := E68.mono (fun _ _ h => .inl h)
      unfold m_letter_Read_j3
      refine ⟨v, B8.cell rfl, fun h => ⟨v, B8.cell rfl, fun _ => bad1 w8 (by rw [hq, ← hv, if_pos h]) E68', fun h' => (by rw [h] at h'; cases h')⟩, fun h => ?_⟩
      rw [← hv, if_neg (by rw [h]; simp)] at hq
      subst h
      unfold m_letter_Read_j2
      refine (c_rd_node p3 p y7 2 false w8 ⟨B8, hR7.pool.ext E8 (fun b hb e => hout (e ▸ hb)), hok, hout⟩).mono ?_
      rintro _ w16 ⟨k3, f3, t3, u3, x3, a3, b3, rfl, hn3, hR3, E16⟩
      have e3 : u3 = (Sp.rdNode L y7 2).1.num := by rw [← hn3]
      rw [← e3] at hq
      have E616 := E68.trans E16
      refine ⟨_, _, _, _, _, _, _, rfl, bx 5 (c5.ext E616 n35.symm) rfl rfl (fun w17 b17 E17 => ⟨(Sp.rdNode L y7 2).2, ?_, fun h => bad1 w17 (by rw [hq]; exact h) (up E616 E17), fun h => good1 w17 ⟨7, 0, u3, ⟨#[]⟩, false⟩ (by rw [hq, h]) (up E616 E17) b17⟩)⟩
      have := (hR3.box.ext E17 n35).cell (i := 1) rfl
      simpa using this
    refine ⟨_, _, rfl, (Sp.rdTagged L t).2, ?_, fun h => ⟨hR7.box.canW (by simp), ?_⟩, fun h => ⟨hR7.box.canW (by simp), ?_⟩⟩
    · have := hR7.box.cell (i := 1) rfl
      simpa using this
    · intro w22 hw
      exact J3 true w22 (by rw [h]; rfl) (by rw [hw]; exact (setr _).1) (by rw [hw]; exact (setr _).2)
    · intro w22 hw
      exact J3 (!decide (x7 = Sp.wFull)) w22 (by rw [h]; rfl) (by rw [hw]; exact (setr _).1) (by rw [hw]; exact (setr _).2)
  refine ⟨k, c4.cell0, fun h => ⟨f, c4.cell rfl, a, c4.cell rfl, ?_⟩, fun h => ⟨fun h8 => ?_, fun h8 => ?_⟩⟩
  · have h7 : k = 7 := by simpa using h
    rw [if_pos h7] at hq
    refine (c_rd_signed p3 p f a false w6 hR6).mono ?_
    rintro _ w7 ⟨k7, f7, c7, x7, g7, rfl, hl, hR7, E7⟩
    refine ⟨_, _, _, _, _, rfl, bx 5 (c5.ext E7 n35.symm) rfl rfl (fun w8 b8 E8 => ⟨(Sp.rdSigned L f a).2, ?_, fun h => bad1 w8 (by rw [hq]; exact h) (up E7 E8), fun h => good1 w8 ⟨k7, f7, c7, x7, g7⟩ (by rw [hq, hl, ← h]) (up E7 E8) b8⟩)⟩
    have := (hR7.box.ext E8 n35).cell (i := 1) rfl
    simpa using this
  · have h7 : k ≠ 7 := by simpa using h
    have h8 : k = 8 := by simpa using h8
    exact J1p _ (by simp [h8]) h7 (.inl h8)
  · have h7 : k ≠ 7 := by simpa using h
    have h8 : k ≠ 8 := by simpa using h8
    by_cases h9 : k = 9
    · exact J1p _ (by simp [h9]) h7 (.inr h9)
    · exact J1t _ (by simpa using h9) h7 (by rintro (h | h) <;> omega)
end Go.Proofs
