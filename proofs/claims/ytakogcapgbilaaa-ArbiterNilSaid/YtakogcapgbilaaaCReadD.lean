/- Contracts: escrow/letter, reader: signed; Read. -/
import Derived.Test.YtakogcapgbilaaaCReadC
open Go Go.SE
namespace Go.Sp
def readQ (L : Pool) (t : Int) : Letter × Bool :=
  let n := nodeOf L t
  if n.kind = 7 then rdSigned L n.frm n.a else if n.kind = 8 ∨ n.kind = 9 then rdPromise L t
  else if ((rdTagged L t).2 || !decide ((rdTagged L t).1.1 = wFull)) = true then (noLetter, true)
  else (⟨7, 0, (rdNode L (rdTagged L t).1.2 2).1.num, ⟨#[]⟩, false⟩, (rdNode L (rdTagged L t).1.2 2).2)
/-- the letter whose term it is -/
def read (L : Pool) (t : Int) : Letter × Bool := if (readQ L t).2 = true then (noLetter, false) else ((readQ L t).1, true)
end Go.Sp
namespace Go.Proofs
attribute [local irreducible] Calls

theorem c_rd_signed (r p : Addr) (who body : Int) (bad : Bool) (w : World) {L : Sp.Pool} {F : Nat → Prop} (hR : ReaderAt w r p bad L F) :
    Calls Try.prog 165 #[.pointer (some r), .int .i64 who, .int .i64 body] w
      (fun e w' => ∃ k : Int, ∃ f : Int, ∃ c : Int, ∃ x : ByteArray, ∃ fk : Bool, e = .returned (.agg #[.int .i64 k, .int .i64 f, .int .u64 c, .string x, .bool fk]) ∧ ((⟨k, f, c, x, fk⟩ : Sp.Letter) = (Sp.rdSigned L who body).1 ∧ ReaderAt w' r p (bad || (Sp.rdSigned L who body).2) L F ∧ Ext (· = r.block) w w')) := by
  suffices key : ∀ K : Int → Int → Int → ByteArray → Bool → World → Prop, (∀ k f c x fk w', ((⟨k, f, c, x, fk⟩ : Sp.Letter) = (Sp.rdSigned L who body).1 ∧ ReaderAt w' r p (bad || (Sp.rdSigned L who body).2) L F ∧ Ext (· = r.block) w w') → K k f c x fk w') → m_letter_reader_signed (some r) who body w K from
    w_letter_reader_signed _ _ _ w _ (key _ (fun _ _ _ _ _ _ h => h))
  intro K hK
  unfold m_letter_reader_signed
  intro p1 w1 h1
  have E1 : Pure w w1 := Ext.new h1
  have o1 := New.own (Ext.refl w) h1
  have lr := hR.box.lt
  have b1 : Box w1 p1 lz 132 := Box.of_new h1
  have ne : p1.block ≠ r.block := by omega
  refine (c_rd_tagged r p body bad w1 (hR.pure E1)).mono ?_
  rintro _ w2 ⟨x, y, rfl, hg, hR2, E12⟩
  refine ⟨_, _, rfl, ?_⟩
  have b2 := b1.ext E12 ne
  have E2 : Ext (· = r.block) w w2 := E1.pure.trans E12
  have ex : x = (Sp.rdTagged L body).1.1 := congrArg Prod.fst hg
  have ey : y = (Sp.rdTagged L body).1.2 := congrArg Prod.snd hg
  have hsp : Sp.rdSigned L who body = if x = Sp.wAbort ∧ who = 0 then (⟨3, 0, (Sp.rdNode L y 2).1.num, ⟨#[]⟩, false⟩, (Sp.rdTagged L body).2 || (Sp.rdNode L y 2).2)
    else if x = Sp.wAborted ∧ who = 2 then (⟨5, 0, (Sp.rdNode L y 2).1.num, ⟨#[]⟩, false⟩, (Sp.rdTagged L body).2 || (Sp.rdNode L y 2).2)
    else if x = Sp.wInstead ∧ who = 2 then (⟨6, 0, (Sp.rdDeal L y).1.1, (Sp.rdDeal L y).1.2, false⟩, (Sp.rdTagged L body).2 || (Sp.rdDeal L y).2)
    else if x = Sp.wDeal ∧ who ≤ 1 then (⟨2, who, (Sp.rdDeal L body).1.1, (Sp.rdDeal L body).1.2, false⟩, (Sp.rdTagged L body).2 || (Sp.rdDeal L body).2)
    else if x = Sp.wResolve ∧ who ≤ 1 then ((Sp.rdResolve L who y).1, (Sp.rdTagged L body).2 || (Sp.rdResolve L who y).2)
    else (Sp.noLetter, true) := by
    simp only [Sp.rdSigned, ← ex, ← ey]
  clear ex ey hg
  generalize hbg : (Sp.rdTagged L body).2 = g2 at *
  have fin : ∀ (k f c : Int) (z : ByteArray) (fk v : Bool) (w5 : World), Sp.rdSigned L who body = (⟨k, f, c, z, fk⟩, v) → ReaderAt w5 r p (bad || v) L F → Ext (· = r.block) w2 w5 →
      (∀ j, j < 5 → CanW w5 (p1.add j)) ∧ ∀ w6 : World, w6 = storeRow w5 p1 [(.int .i64 k), (.int .i64 f), (.int .u64 c), (.string z), (.bool fk)] →
      ∃ qKind1 : Int, ∃ qFrom1 : Int, ∃ qC1 : Int, ∃ qText1 : ByteArray, ∃ qFake1 : Bool, Row w6 p1 [(.int .i64 qKind1), (.int .i64 qFrom1), (.int .u64 qC1), (.string qText1), (.bool qFake1)] ∧
      K qKind1 qFrom1 qC1 qText1 qFake1 w6 := by
    intro k f c z fk v w5 hs hR5 E5
    refine bx 5 (b2.ext E5 ne) rfl rfl (fun w6 b6 E6 => ⟨k, f, c, z, fk, b6.row, hK _ _ _ _ _ _ ⟨by rw [hs], ?_, ?_⟩⟩)
    · rw [hs]; exact ⟨hR5.box.ext E6 ne.symm, hR5.pool.ext E6 (fun b hb e => by have := hR.pool.lt hb; omega), hR.ok, hR.out⟩
    · exact (E2.trans E5).trans' E6 (fun i hi h => by omega)
  have nodeCase : ∀ (k : Int), Sp.rdSigned L who body = (⟨k, 0, (Sp.rdNode L y 2).1.num, ⟨#[]⟩, false⟩, g2 || (Sp.rdNode L y 2).2) →
      Calls Try.prog 168 #[.pointer (some r), .int .i64 y, .int .i64 2] w2 (fun e w3 => ∃ rKind1 : Int, ∃ rFrom1 : Int, ∃ rTo1 : Int, ∃ rNum1 : Int, ∃ rText1 : ByteArray, ∃ rA1 : Int, ∃ rB1 : Int, e = .returned (.agg #[(.int .i64 rKind1), (.int .i64 rFrom1), (.int .i64 rTo1), (.int .u64 rNum1), (.string rText1), (.int .i64 rA1), (.int .i64 rB1)]) ∧
        (∀ j, j < 5 → CanW w3 (p1.add j)) ∧ ∀ w4 : World, w4 = storeRow w3 p1 [(.int .i64 k), (.int .i64 0), (.int .u64 rNum1), (.string (⟨#[]⟩ : ByteArray)), (.bool false)] →
        ∃ qKind1 : Int, ∃ qFrom1 : Int, ∃ qC1 : Int, ∃ qText1 : ByteArray, ∃ qFake1 : Bool, Row w4 p1 [(.int .i64 qKind1), (.int .i64 qFrom1), (.int .u64 qC1), (.string qText1), (.bool qFake1)] ∧
        K qKind1 qFrom1 qC1 qText1 qFake1 w4) := by
    intro k hs
    refine (c_rd_node r p y 2 _ w2 hR2).mono ?_
    rintro _ w3 ⟨k3, f3, t3, u3, x3, a3, b3, rfl, hn3, hR3, E3⟩
    have e3 : u3 = (Sp.rdNode L y 2).1.num := by rw [← hn3]
    refine ⟨_, _, _, _, _, _, _, rfl, ?_⟩
    rw [← e3] at hs
    exact fin _ _ _ _ _ _ w3 hs (by rw [← Bool.or_assoc]; exact hR3) E3
  have dealCase : ∀ (k f t : Int), Sp.rdSigned L who body = (⟨k, f, (Sp.rdDeal L t).1.1, (Sp.rdDeal L t).1.2, false⟩, g2 || (Sp.rdDeal L t).2) →
      Calls Try.prog 218 #[.pointer (some r), .int .i64 t] w2 (fun e w7 => ∃ r4 : Int, ∃ r5 : ByteArray, e = .returned (.tuple #[(.int .u64 r4), (.string r5)]) ∧
        (∀ j, j < 5 → CanW w7 (p1.add j)) ∧ ∀ w8 : World, w8 = storeRow w7 p1 [(.int .i64 k), (.int .i64 f), (.int .u64 r4), (.string r5), (.bool false)] →
        ∃ qKind1 : Int, ∃ qFrom1 : Int, ∃ qC1 : Int, ∃ qText1 : ByteArray, ∃ qFake1 : Bool, Row w8 p1 [(.int .i64 qKind1), (.int .i64 qFrom1), (.int .u64 qC1), (.string qText1), (.bool qFake1)] ∧
        K qKind1 qFrom1 qC1 qText1 qFake1 w8) := by
    intro k f t hs
    refine (c_rd_deal r p t _ w2 hR2).mono ?_
    rintro _ w3 ⟨c, z, rfl, hd, hR3, E3⟩
    have e1 : c = (Sp.rdDeal L t).1.1 := congrArg Prod.fst hd
    have e2 : z = (Sp.rdDeal L t).1.2 := congrArg Prod.snd hd
    refine ⟨_, _, rfl, ?_⟩
    rw [← e1, ← e2] at hs
    exact fin _ _ _ _ _ _ w3 hs (by rw [← Bool.or_assoc]; exact hR3) E3
  have J5 : ∀ b, b = decide (x = Sp.wResolve ∧ who ≤ 1) → ¬ (x = Sp.wAbort ∧ who = 0) → ¬ (x = Sp.wAborted ∧ who = 2) → ¬ (x = Sp.wInstead ∧ who = 2) → ¬ (x = Sp.wDeal ∧ who ≤ 1) → m_letter_reader_signed_j5 (some r) who p1 y b w2 K := by
    intro b hb h1 h2 h3 h4
    rw [if_neg h1, if_neg h2, if_neg h3, if_neg h4] at hsp
    cases hbv : b with
    | true =>
      have hc : x = Sp.wResolve ∧ who ≤ 1 := of_decide_eq_true (by rw [← hb, hbv])
      rw [if_pos hc] at hsp
      refine c_rd_resolve r p p1 who y _ w2 hR2 b2 ne K (fun w6 w' hR6 E6 b' E' => hK _ _ _ _ _ _ ⟨by rw [hsp]; rfl, ?_, ?_⟩)
      · rw [hsp]; simp only [← Bool.or_assoc]
        exact ⟨hR6.box.ext E' ne.symm, hR6.pool.ext E' (fun b hb e => by have := hR.pool.lt hb; omega), hR.ok, hR.out⟩
      · exact (E2.trans E6).trans' E' (fun i hi h => by omega)
    | false =>
      have hc : ¬ (x = Sp.wResolve ∧ who ≤ 1) := of_decide_eq_false (by rw [← hb, hbv])
      rw [if_neg hc] at hsp
      unfold m_letter_reader_signed_j5
      refine Br.f rfl ⟨r, rfl, hR2.box.canW (by simp), ?_⟩
      intro w77 hw
      have d5 : Box w77 r [.pointer (some p), .bool true] 264 := by rw [hw]; exact hR2.box.set 1 _
      have E5 : Ext (· = r.block) w2 w77 := by rw [hw]; have := Ext.setCell (w := w2) (r.add 1) (.bool true); rw [add_block] at this; exact this
      exact fin 0 0 0 ⟨#[]⟩ false true w77 hsp (by rw [Bool.or_true]; exact ⟨d5, hR2.pool.ext E5 (fun b hb e => hR.out (e ▸ hb)), hR.ok, hR.out⟩) E5
  have J4 : ∀ b, b = decide (x = Sp.wDeal ∧ who ≤ 1) → ¬ (x = Sp.wAbort ∧ who = 0) → ¬ (x = Sp.wAborted ∧ who = 2) → ¬ (x = Sp.wInstead ∧ who = 2) → m_letter_reader_signed_j4 (some r) who body p1 x y b w2 K := by
    intro b hb h1 h2 h3
    unfold m_letter_reader_signed_j4
    refine ⟨fun h => dealCase 2 who body ?_, fun h => ?_⟩
    · rw [hsp, if_neg h1, if_neg h2, if_neg h3, if_pos (of_decide_eq_true (by rw [← hb, h]))]
    · have h4 : ¬ (x = Sp.wDeal ∧ who ≤ 1) := of_decide_eq_false (by rw [← hb, h])
      exact ⟨fun hw => J5 _ (by have : x = Sp.wResolve := of_decide_eq_true hw; simp [this]) h1 h2 h3 h4, fun hw => J5 _ (by have : ¬ x = Sp.wResolve := of_decide_eq_false hw; simp [this]) h1 h2 h3 h4⟩
  have J3 : ∀ b, b = decide (x = Sp.wInstead ∧ who = 2) → ¬ (x = Sp.wAbort ∧ who = 0) → ¬ (x = Sp.wAborted ∧ who = 2) → m_letter_reader_signed_j3 (some r) who body p1 x y b w2 K := by
    intro b hb h1 h2
    unfold m_letter_reader_signed_j3
    refine ⟨fun h => dealCase 6 0 y ?_, fun h => ?_⟩
    · rw [hsp, if_neg h1, if_neg h2, if_pos (of_decide_eq_true (by rw [← hb, h]))]
    · have h3 : ¬ (x = Sp.wInstead ∧ who = 2) := of_decide_eq_false (by rw [← hb, h])
      exact ⟨fun hw => J4 _ (by have : x = Sp.wDeal := of_decide_eq_true hw; simp [this]) h1 h2 h3, fun hw => J4 _ (by have : ¬ x = Sp.wDeal := of_decide_eq_false hw; simp [this]) h1 h2 h3⟩
  have J2 : ∀ b, b = decide (x = Sp.wAborted ∧ who = 2) → ¬ (x = Sp.wAbort ∧ who = 0) → m_letter_reader_signed_j2 (some r) who body p1 x y b w2 K := by
    intro b hb h1
    unfold m_letter_reader_signed_j2
    refine ⟨fun h => nodeCase 5 ?_, fun h => ?_⟩
    · rw [hsp, if_neg h1, if_pos (of_decide_eq_true (by rw [← hb, h]))]
    · have h2 : ¬ (x = Sp.wAborted ∧ who = 2) := of_decide_eq_false (by rw [← hb, h])
      exact ⟨fun hw => J3 _ (by have : x = Sp.wInstead := of_decide_eq_true hw; simp [this]; rfl) h1 h2, fun hw => J3 _ (by have : ¬ x = Sp.wInstead := of_decide_eq_false hw; simp [this]) h1 h2⟩
  have J1 : ∀ b, b = decide (x = Sp.wAbort ∧ who = 0) → m_letter_reader_signed_j1 (some r) who body p1 x y b w2 K := by
    intro b hb
    unfold m_letter_reader_signed_j1
    refine ⟨fun h => nodeCase 3 ?_, fun h => ?_⟩
    · rw [hsp, if_pos (of_decide_eq_true (by rw [← hb, h]))]
    · have h1 : ¬ (x = Sp.wAbort ∧ who = 0) := of_decide_eq_false (by rw [← hb, h])
      exact ⟨fun hw => J2 _ (by have : x = Sp.wAborted := of_decide_eq_true hw; simp [this]; rfl) h1, fun hw => J2 _ (by have : ¬ x = Sp.wAborted := of_decide_eq_false hw; simp [this]) h1⟩
  exact ⟨fun hw => J1 _ (by have : x = Sp.wAbort := of_decide_eq_true hw; simp [this]; rfl), fun hw => J1 _ (by have : ¬ x = Sp.wAbort := of_decide_eq_false hw; simp [this])⟩
end Go.Proofs
