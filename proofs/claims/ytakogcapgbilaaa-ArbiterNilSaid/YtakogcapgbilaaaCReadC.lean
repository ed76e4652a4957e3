/- Contracts: escrow/letter, reader: signed. Printed by mkreadc.py. -/
import Derived.Test.YtakogcapgbilaaaCReadB
open Go Go.SE
namespace Go.Sp
def rdResolve (L : Pool) (who n : Int) : Letter × Bool :=
  let m := rdNode L n 4
  let a := rdPromise L m.1.a
  let b := rdPromise L m.1.b
  (⟨4, who, a.1.c, a.1.text, a.1.fake || b.1.fake⟩, m.2 || a.2 || b.2 || a.1.frm != 0 || b.1.frm != 1 || a.1.c != b.1.c || !decide (a.1.text = b.1.text))
def rdSigned (L : Pool) (who body : Int) : Letter × Bool :=
  let g := rdTagged L body
  if g.1.1 = wAbort ∧ who = 0 then (⟨3, 0, (rdNode L g.1.2 2).1.num, ⟨#[]⟩, false⟩, g.2 || (rdNode L g.1.2 2).2)
  else if g.1.1 = wAborted ∧ who = 2 then (⟨5, 0, (rdNode L g.1.2 2).1.num, ⟨#[]⟩, false⟩, g.2 || (rdNode L g.1.2 2).2)
  else if g.1.1 = wInstead ∧ who = 2 then (⟨6, 0, (rdDeal L g.1.2).1.1, (rdDeal L g.1.2).1.2, false⟩, g.2 || (rdDeal L g.1.2).2)
  else if g.1.1 = wDeal ∧ who ≤ 1 then (⟨2, who, (rdDeal L body).1.1, (rdDeal L body).1.2, false⟩, g.2 || (rdDeal L body).2)
  else if g.1.1 = wResolve ∧ who ≤ 1 then ((rdResolve L who g.1.2).1, g.2 || (rdResolve L who g.1.2).2)
  else (noLetter, true)
end Go.Sp
namespace Go.Proofs
attribute [local irreducible] Calls

def lz : List Value := [.int .i64 0, .int .i64 0, .int .u64 0, .string ⟨#[]⟩, .bool false]

theorem c_rd_resolve (r p p1 : Addr) (who n : Int) (bad : Bool) (w : World) {L : Sp.Pool} {F : Nat → Prop} (hR : ReaderAt w r p bad L F) (hB : Box w p1 lz 132) (hne : p1.block ≠ r.block) (K : Int → Int → Int → ByteArray → Bool → World → Prop)
    (hK : ∀ w6 w', ReaderAt w6 r p (bad || (Sp.rdResolve L who n).2) L F → Ext (· = r.block) w w6 → Box w' p1 [.int .i64 4, .int .i64 who, .int .u64 (Sp.rdResolve L who n).1.c, .string (Sp.rdResolve L who n).1.text, .bool (Sp.rdResolve L who n).1.fake] 132 → Ext (· = p1.block) w6 w' → K 4 who (Sp.rdResolve L who n).1.c (Sp.rdResolve L who n).1.text (Sp.rdResolve L who n).1.fake w') :
    m_letter_reader_signed_j5 (some r) who p1 n true w K := by
  unfold m_letter_reader_signed_j5
  refine Br.t rfl ?_
  refine (c_rd_node r p n 4 bad w hR).mono ?_
  rintro _ w11 ⟨k2, f2, t2, u2, x2, a2, b2, rfl, hn, hR11, E11⟩
  refine ⟨_, _, _, _, _, _, _, rfl, ?_⟩
  intro p2 w12 h12
  have o12 := New.own (Ext.refl w11) h12
  have l11 := hR11.box.lt
  have l1 := hB.lt
  have s11 := E11.size
  refine bx 7 (Box.of_new h12) rfl rfl (fun w13 b13 E' => ?_)
  have E13 : Pure w11 w13 := Ext.own (Ext.new h12) o12 E'
  have hB11 := hB.ext E11 hne
  clear E' h12
  refine ⟨fun w' => Box w' p2 [.int .i64 k2, .int .i64 f2, .int .i64 t2, .int .u64 u2, .string x2, .int .i64 a2, .int .i64 b2] 93, b13.pure (Ext.drew w13), ?_⟩
  intro w18 hw18
  have E18 : Pure w11 w18 := by rw [hw18]; exact E13.thenPure (Ext.drew w13)
  have cN : Box w18 p2 [.int .i64 k2, .int .i64 f2, .int .i64 t2, .int .u64 u2, .string x2, .int .i64 a2, .int .i64 b2] 93 := by rw [hw18]; exact b13.pure (Ext.drew w13)
  clear hw18
  have hR18 := hR11.pure E18
  have hB18 := hB11.pure E18
  have s18 := E18.size
  have Ew18 : Ext (· = r.block) w w18 := E11.thenPure E18
  have ea : a2 = (Sp.rdNode L n 4).1.a := by rw [← hn]
  have eb : b2 = (Sp.rdNode L n 4).1.b := by rw [← hn]
  generalize hbad : (bad || (Sp.rdNode L n 4).2) = bad2 at *
  have leaf : ∀ (pA pB : Addr) (w' : World) (ka fa ca : Int) (xa : ByteArray) (ga : Bool) (kb fb cb : Int) (xb : ByteArray) (gb : Bool), (⟨ka, fa, ca, xa, ga⟩ : Sp.Letter) = (Sp.rdPromise L a2).1 → (⟨kb, fb, cb, xb, gb⟩ : Sp.Letter) = (Sp.rdPromise L b2).1 →
      ReaderAt w' r p (bad2 || (Sp.rdPromise L a2).2 || (Sp.rdPromise L b2).2) L F → Ext (· = r.block) w18 w' → Box w' pA [.int .i64 0, .int .i64 0, .int .u64 0, .string ⟨#[]⟩, .bool false] 132 → Box w' pB [.int .i64 0, .int .i64 0, .int .u64 0, .string ⟨#[]⟩, .bool false] 132 → pA.block ≠ pB.block → w18.heap.size ≤ pA.block → w18.heap.size ≤ pB.block →
      (∀ j, j < 5 → CanW w' (pA.add j)) ∧ ∀ w23 : World, w23 = storeRow w' pA [.int .i64 ka, .int .i64 fa, .int .u64 ca, .string xa, .bool ga] →
      (∀ j, j < 5 → CanW w23 (pB.add j)) ∧ ∀ w24 : World, w24 = storeRow w23 pB [.int .i64 kb, .int .i64 fb, .int .u64 cb, .string xb, .bool gb] → m_letter_reader_signed_j6 (some r) who p1 pA pB w24 K := by
    intro pA pB w' ka fa ca xa ga kb fb cb xb gb hla hlb hR' E' hA hBb hAB hoA hoB
    have s' := E'.size
    refine bx 5 hA rfl rfl (fun w23 bA E23 => ?_)
    refine bx 5 (hBb.ext E23 hAB.symm) rfl rfl (fun w24 bB E24 => ?_)
    have dA := bA.ext E24 hAB
    have hR24 : ReaderAt w24 r p (bad2 || (Sp.rdPromise L a2).2 || (Sp.rdPromise L b2).2) L F := ⟨(hR'.box.ext E23 (by omega)).ext E24 (by omega), (hR'.pool.ext E23 (fun b hb e => by have := hR.pool.lt hb; omega)).ext E24 (fun b hb e => by have := hR.pool.lt hb; omega), hR'.ok, hR'.out⟩
    have hB24 : Box w24 p1 lz 132 := ((hB18.ext E' hne).ext E23 (by omega)).ext E24 (by omega)
    have E24' : Ext (· = r.block) w w24 := ((Ew18.trans E').trans' E23 (fun i hi h => by omega)).trans' E24 (fun i hi h => by omega)
    have e1 : fa = (Sp.rdPromise L a2).1.frm := by rw [← hla]
    have e2 : fb = (Sp.rdPromise L b2).1.frm := by rw [← hlb]
    have e3 : ca = (Sp.rdPromise L a2).1.c := by rw [← hla]
    have e4 : cb = (Sp.rdPromise L b2).1.c := by rw [← hlb]
    have e5 : xa = (Sp.rdPromise L a2).1.text := by rw [← hla]
    have e6 : xb = (Sp.rdPromise L b2).1.text := by rw [← hlb]
    have e7 : ga = (Sp.rdPromise L a2).1.fake := by rw [← hla]
    have e8 : gb = (Sp.rdPromise L b2).1.fake := by rw [← hlb]
    generalize hb3 : (bad2 || (Sp.rdPromise L a2).2 || (Sp.rdPromise L b2).2) = bad3 at *
    have hsp : Sp.rdResolve L who n = (⟨4, who, ca, xa, ga || gb⟩, (Sp.rdNode L n 4).2 || (Sp.rdPromise L a2).2 || (Sp.rdPromise L b2).2 || fa != 0 || fb != 1 || ca != cb || !decide (xa = xb)) := by
      simp only [Sp.rdResolve, ← ea, ← eb, ← e1, ← e2, ← e3, ← e4, ← e5, ← e6, ← e7, ← e8]
    have hbb : (bad || (Sp.rdResolve L who n).2) = (bad3 || fa != 0 || fb != 1 || ca != cb || !decide (xa = xb)) := by
      rw [hsp, ← hb3, ← hbad]; simp only [Bool.or_assoc]
    rw [hbb] at hK
    rw [hsp] at hK
    have J7 : ∀ (v : Bool) (w5 : World), v = (bad3 || fa != 0 || fb != 1 || ca != cb || !decide (xa = xb)) → Box w5 r [.pointer (some p), .bool v] 264 → Ext (· = r.block) w24 w5 → m_letter_reader_signed_j7 who p1 pA pB w5 K := by
      intro v w5 hv B5 E5
      have hR5 : ReaderAt w5 r p v L F := ⟨B5, hR24.pool.ext E5 (fun b hb e => hR.out (e ▸ hb)), hR.ok, hR.out⟩
      have dA5 := dA.ext E5 (by omega)
      have dB5 := bB.ext E5 (by omega)
      have h15 := hB24.ext E5 hne
      unfold m_letter_reader_signed_j7
      refine ⟨ca, dA5.cell rfl, xa, dA5.cell rfl, ga, dA5.cell rfl, fun hg => ?_, fun hg => ⟨gb, dB5.cell rfl, ?_⟩⟩
      · refine bx 5 h15 rfl rfl (fun w6 b6 E6 => ⟨4, who, ca, xa, true, b6.row, ?_⟩)
        have := hK w5 w6 (by rw [← hv]; exact hR5) (E24'.trans E5) (by rw [hg]; exact b6) E6
        rw [hg] at this; exact this
      · refine bx 5 h15 rfl rfl (fun w6 b6 E6 => ⟨4, who, ca, xa, gb, b6.row, ?_⟩)
        have := hK w5 w6 (by rw [← hv]; exact hR5) (E24'.trans E5) (by rw [hg]; exact b6) E6
        rw [hg] at this; exact this
    have setr : ∀ v : Bool, Box (w24.setCell (r.add 1) (.bool v)) r [.pointer (some p), .bool v] 264 ∧ Ext (· = r.block) w24 (w24.setCell (r.add 1) (.bool v)) := fun v =>
      ⟨hR24.box.set 1 _, by have := Ext.setCell (w := w24) (r.add 1) (.bool v); rw [add_block] at this; exact this⟩
    have J10 : ∀ x, x = (bad3 || fa != 0 || fb != 1 || ca != cb) → m_letter_reader_signed_j10 (some r) who p1 pA pB x w24 K := by
      intro x hx
      unfold m_letter_reader_signed_j10
      refine ⟨fun h => ⟨r, rfl, hR24.box.canW (by simp), ?_⟩, fun h => ⟨xa, dA.cell rfl, xb, bB.cell rfl, r, rfl, hR24.box.canW (by simp), ?_⟩⟩
      · intro w16 hw
        exact J7 true w16 (by rw [← hx, h]; rfl) (by rw [hw]; exact (setr _).1) (by rw [hw]; exact (setr _).2)
      · intro w16 hw
        exact J7 (!decide (xa = xb)) w16 (by rw [← hx, h]; rfl) (by rw [hw]; exact (setr _).1) (by rw [hw]; exact (setr _).2)
    have J9 : ∀ x, x = (bad3 || fa != 0 || fb != 1) → m_letter_reader_signed_j9 (some r) who p1 pA pB x w24 K := by
      intro x hx
      unfold m_letter_reader_signed_j9
      exact ⟨fun h => J10 _ (by rw [← hx, h]; rfl), fun h => ⟨ca, dA.cell rfl, cb, bB.cell rfl, J10 _ (by rw [← hx, h]; rfl)⟩⟩
    have J8 : ∀ x, x = (bad3 || fa != 0) → m_letter_reader_signed_j8 (some r) who p1 pA pB x w24 K := by
      intro x hx
      unfold m_letter_reader_signed_j8
      exact ⟨fun h => J9 _ (by rw [← hx, h]; rfl), fun h => ⟨fb, bB.cell rfl, J9 _ (by rw [← hx, h]; rfl)⟩⟩
    unfold m_letter_reader_signed_j6
    exact ⟨r, rfl, bad3, hR24.box.cell rfl, fun h => J8 _ (by rw [h]; rfl), fun h => ⟨fa, dA.cell rfl, J8 _ (by rw [h]; rfl)⟩⟩
  have l18 := hR18.box.lt
  have Er18 : Ext (· = r.block) w18 w18 := Ext.refl w18
  refine ⟨a2, fun w' h => h.cell rfl, b2, fun w' h => h.cell rfl, ?_⟩
  · skip
    refine ⟨?_, ?_, ?_⟩
    · skip
      refine (c_rd_promise r p a2 _ w18 hR18).mono ?_
      rintro _ v1 ⟨k1, f1, c1, x1, g1, rfl, hl1, R1, e1⟩
      have E1 := Er18.trans e1
      have s1 := E1.size
      refine ⟨_, _, _, _, _, rfl, cN.ext E1 (by omega), ?_⟩
      refine ⟨?_, ?_, ?_⟩
      · skip
        refine (c_rd_promise r p b2 _ v1 R1).mono ?_
        rintro _ v2 ⟨k2, f2, c2, x2, g2, rfl, hl2, R2, e2⟩
        have E2 := E1.trans e2
        have s2 := E2.size
        refine ⟨_, _, _, _, _, rfl, ?_⟩
        refine ⟨?_, ?_⟩
        · skip
          intro q3 v3 h3
          have e3 : Pure v2 v3 := Ext.new h3
          have o3 := h3.at_size
          have R3 := R2.pure e3
          have E3 := E2.thenPure e3
          have s3 := E3.size
          have t3 := (E2).size
          have bA3 := Box.of_new h3
          refine ⟨cN.ext E3 (by omega), ?_⟩
          intro q4 v4 h4
          have e4 : Pure v3 v4 := Ext.new h4
          have o4 := h4.at_size
          have R4 := R3.pure e4
          have E4 := E3.thenPure e4
          have s4 := E4.size
          have t4 := (E3).size
          have bA4 := bA3.pure e4
          have lA4 := bA3.lt
          have bB4 := Box.of_new h4
          refine ⟨cN.ext E4 (by omega), ?_⟩
          exact leaf q3 q4 v4 _ _ _ _ _ _ _ _ _ _ hl1 hl2 R4 E4 bA4 bB4 (by omega) (by omega) (by omega)
        · skip
          intro q5 v5 h5
          have e5 : Pure v2 v5 := Ext.new h5
          have o5 := h5.at_size
          have R5 := R2.pure e5
          have E5 := E2.thenPure e5
          have s5 := E5.size
          have t5 := (E2).size
          have bB5 := Box.of_new h5
          refine ⟨cN.ext E5 (by omega), ?_⟩
          intro q6 v6 h6
          have e6 : Pure v5 v6 := Ext.new h6
          have o6 := h6.at_size
          have R6 := R5.pure e6
          have E6 := E5.thenPure e6
          have s6 := E6.size
          have t6 := (E5).size
          have bB6 := bB5.pure e6
          have lB6 := bB5.lt
          have bA6 := Box.of_new h6
          refine ⟨cN.ext E6 (by omega), ?_⟩
          exact leaf q6 q5 v6 _ _ _ _ _ _ _ _ _ _ hl1 hl2 R6 E6 bA6 bB6 (by omega) (by omega) (by omega)
      · skip
        intro q7 v7 h7
        have e7 : Pure v1 v7 := Ext.new h7
        have o7 := h7.at_size
        have R7 := R1.pure e7
        have E7 := E1.thenPure e7
        have s7 := E7.size
        have t7 := (E1).size
        have bA7 := Box.of_new h7
        refine ⟨cN.ext E7 (by omega), ?_⟩
        refine ⟨?_, ?_⟩
        · skip
          refine (c_rd_promise r p b2 _ v7 R7).mono ?_
          rintro _ v8 ⟨k8, f8, c8, x8, g8, rfl, hl2, R8, e8⟩
          have E8 := E7.trans e8
          have bA8 := bA7.ext e8 (by omega)
          have s8 := E8.size
          refine ⟨_, _, _, _, _, rfl, ?_⟩
          intro q9 v9 h9
          have e9 : Pure v8 v9 := Ext.new h9
          have o9 := h9.at_size
          have R9 := R8.pure e9
          have E9 := E8.thenPure e9
          have s9 := E9.size
          have t9 := (E8).size
          have bA9 := bA8.pure e9
          have lA9 := bA8.lt
          have bB9 := Box.of_new h9
          refine ⟨cN.ext E9 (by omega), ?_⟩
          exact leaf q7 q9 v9 _ _ _ _ _ _ _ _ _ _ hl1 hl2 R9 E9 bA9 bB9 (by omega) (by omega) (by omega)
        · skip
          intro q10 v10 h10
          have e10 : Pure v7 v10 := Ext.new h10
          have o10 := h10.at_size
          have R10 := R7.pure e10
          have E10 := E7.thenPure e10
          have s10 := E10.size
          have t10 := (E7).size
          have bA10 := bA7.pure e10
          have lA10 := bA7.lt
          have bB10 := Box.of_new h10
          refine ⟨cN.ext E10 (by omega), ?_⟩
          refine (c_rd_promise r p b2 _ v10 R10).mono ?_
          rintro _ v11 ⟨k11, f11, c11, x11, g11, rfl, hl2, R11, e11⟩
          have E11 := E10.trans e11
          have bA11 := bA10.ext e11 (by omega)
          have bB11 := bB10.ext e11 (by omega)
          have s11 := E11.size
          refine ⟨_, _, _, _, _, rfl, ?_⟩
          exact leaf q7 q10 v11 _ _ _ _ _ _ _ _ _ _ hl1 hl2 R11 E11 bA11 bB11 (by omega) (by omega) (by omega)
      · skip
        intro q12 v12 h12
        have e12 : Pure v1 v12 := Ext.new h12
        have o12 := h12.at_size
        have R12 := R1.pure e12
        have E12 := E1.thenPure e12
        have s12 := E12.size
        have t12 := (E1).size
        have bB12 := Box.of_new h12
        refine ⟨cN.ext E12 (by omega), ?_⟩
        refine ⟨?_, ?_⟩
        · skip
          refine (c_rd_promise r p b2 _ v12 R12).mono ?_
          rintro _ v13 ⟨k13, f13, c13, x13, g13, rfl, hl2, R13, e13⟩
          have E13 := E12.trans e13
          have bB13 := bB12.ext e13 (by omega)
          have s13 := E13.size
          refine ⟨_, _, _, _, _, rfl, ?_⟩
          intro q14 v14 h14
          have e14 : Pure v13 v14 := Ext.new h14
          have o14 := h14.at_size
          have R14 := R13.pure e14
          have E14 := E13.thenPure e14
          have s14 := E14.size
          have t14 := (E13).size
          have bB14 := bB13.pure e14
          have lB14 := bB13.lt
          have bA14 := Box.of_new h14
          refine ⟨cN.ext E14 (by omega), ?_⟩
          exact leaf q14 q12 v14 _ _ _ _ _ _ _ _ _ _ hl1 hl2 R14 E14 bA14 bB14 (by omega) (by omega) (by omega)
        · skip
          intro q15 v15 h15
          have e15 : Pure v12 v15 := Ext.new h15
          have o15 := h15.at_size
          have R15 := R12.pure e15
          have E15 := E12.thenPure e15
          have s15 := E15.size
          have t15 := (E12).size
          have bB15 := bB12.pure e15
          have lB15 := bB12.lt
          have bA15 := Box.of_new h15
          refine ⟨cN.ext E15 (by omega), ?_⟩
          refine (c_rd_promise r p b2 _ v15 R15).mono ?_
          rintro _ v16 ⟨k16, f16, c16, x16, g16, rfl, hl2, R16, e16⟩
          have E16 := E15.trans e16
          have bA16 := bA15.ext e16 (by omega)
          have bB16 := bB15.ext e16 (by omega)
          have s16 := E16.size
          refine ⟨_, _, _, _, _, rfl, ?_⟩
          exact leaf q15 q12 v16 _ _ _ _ _ _ _ _ _ _ hl1 hl2 R16 E16 bA16 bB16 (by omega) (by omega) (by omega)
    · skip
      intro q17 v17 h17
      have e17 : Pure w18 v17 := Ext.new h17
      have o17 := h17.at_size
      have R17 := hR18.pure e17
      have E17 := Er18.thenPure e17
      have s17 := E17.size
      have t17 := (Er18).size
      have bA17 := Box.of_new h17
      refine ⟨cN.ext E17 (by omega), ?_⟩
      refine ⟨?_, ?_⟩
      · skip
        refine (c_rd_promise r p a2 _ v17 R17).mono ?_
        rintro _ v18 ⟨k18, f18, c18, x18, g18, rfl, hl1, R18, e18⟩
        have E18 := E17.trans e18
        have bA18 := bA17.ext e18 (by omega)
        have s18 := E18.size
        refine ⟨_, _, _, _, _, rfl, cN.ext E18 (by omega), ?_⟩
        refine ⟨?_, ?_⟩
        · skip
          refine (c_rd_promise r p b2 _ v18 R18).mono ?_
          rintro _ v19 ⟨k19, f19, c19, x19, g19, rfl, hl2, R19, e19⟩
          have E19 := E18.trans e19
          have bA19 := bA18.ext e19 (by omega)
          have s19 := E19.size
          refine ⟨_, _, _, _, _, rfl, ?_⟩
          intro q20 v20 h20
          have e20 : Pure v19 v20 := Ext.new h20
          have o20 := h20.at_size
          have R20 := R19.pure e20
          have E20 := E19.thenPure e20
          have s20 := E20.size
          have t20 := (E19).size
          have bA20 := bA19.pure e20
          have lA20 := bA19.lt
          have bB20 := Box.of_new h20
          refine ⟨cN.ext E20 (by omega), ?_⟩
          exact leaf q17 q20 v20 _ _ _ _ _ _ _ _ _ _ hl1 hl2 R20 E20 bA20 bB20 (by omega) (by omega) (by omega)
        · skip
          intro q21 v21 h21
          have e21 : Pure v18 v21 := Ext.new h21
          have o21 := h21.at_size
          have R21 := R18.pure e21
          have E21 := E18.thenPure e21
          have s21 := E21.size
          have t21 := (E18).size
          have bA21 := bA18.pure e21
          have lA21 := bA18.lt
          have bB21 := Box.of_new h21
          refine ⟨cN.ext E21 (by omega), ?_⟩
          refine (c_rd_promise r p b2 _ v21 R21).mono ?_
          rintro _ v22 ⟨k22, f22, c22, x22, g22, rfl, hl2, R22, e22⟩
          have E22 := E21.trans e22
          have bA22 := bA21.ext e22 (by omega)
          have bB22 := bB21.ext e22 (by omega)
          have s22 := E22.size
          refine ⟨_, _, _, _, _, rfl, ?_⟩
          exact leaf q17 q21 v22 _ _ _ _ _ _ _ _ _ _ hl1 hl2 R22 E22 bA22 bB22 (by omega) (by omega) (by omega)
      · skip
        intro q23 v23 h23
        have e23 : Pure v17 v23 := Ext.new h23
        have o23 := h23.at_size
        have R23 := R17.pure e23
        have E23 := E17.thenPure e23
        have s23 := E23.size
        have t23 := (E17).size
        have bA23 := bA17.pure e23
        have lA23 := bA17.lt
        have bB23 := Box.of_new h23
        refine ⟨cN.ext E23 (by omega), ?_⟩
        refine (c_rd_promise r p a2 _ v23 R23).mono ?_
        rintro _ v24 ⟨k24, f24, c24, x24, g24, rfl, hl1, R24, e24⟩
        have E24 := E23.trans e24
        have bA24 := bA23.ext e24 (by omega)
        have bB24 := bB23.ext e24 (by omega)
        have s24 := E24.size
        refine ⟨_, _, _, _, _, rfl, cN.ext E24 (by omega), ?_⟩
        refine (c_rd_promise r p b2 _ v24 R24).mono ?_
        rintro _ v25 ⟨k25, f25, c25, x25, g25, rfl, hl2, R25, e25⟩
        have E25 := E24.trans e25
        have bA25 := bA24.ext e25 (by omega)
        have bB25 := bB24.ext e25 (by omega)
        have s25 := E25.size
        refine ⟨_, _, _, _, _, rfl, ?_⟩
        exact leaf q17 q23 v25 _ _ _ _ _ _ _ _ _ _ hl1 hl2 R25 E25 bA25 bB25 (by omega) (by omega) (by omega)
    · skip
      intro q26 v26 h26
      have e26 : Pure w18 v26 := Ext.new h26
      have o26 := h26.at_size
      have R26 := hR18.pure e26
      have E26 := Er18.thenPure e26
      have s26 := E26.size
      have t26 := (Er18).size
      have bB26 := Box.of_new h26
      refine ⟨cN.ext E26 (by omega), ?_⟩
      refine ⟨?_, ?_⟩
      · skip
        refine (c_rd_promise r p a2 _ v26 R26).mono ?_
        rintro _ v27 ⟨k27, f27, c27, x27, g27, rfl, hl1, R27, e27⟩
        have E27 := E26.trans e27
        have bB27 := bB26.ext e27 (by omega)
        have s27 := E27.size
        refine ⟨_, _, _, _, _, rfl, cN.ext E27 (by omega), ?_⟩
        refine ⟨?_, ?_⟩
        · skip
          refine (c_rd_promise r p b2 _ v27 R27).mono ?_
          rintro _ v28 ⟨k28, f28, c28, x28, g28, rfl, hl2, R28, e28⟩
          have E28 := E27.trans e28
          have bB28 := bB27.ext e28 (by omega)
          have s28 := E28.size
          refine ⟨_, _, _, _, _, rfl, ?_⟩
          intro q29 v29 h29
          have e29 : Pure v28 v29 := Ext.new h29
          have o29 := h29.at_size
          have R29 := R28.pure e29
          have E29 := E28.thenPure e29
          have s29 := E29.size
          have t29 := (E28).size
          have bB29 := bB28.pure e29
          have lB29 := bB28.lt
          have bA29 := Box.of_new h29
          refine ⟨cN.ext E29 (by omega), ?_⟩
          exact leaf q29 q26 v29 _ _ _ _ _ _ _ _ _ _ hl1 hl2 R29 E29 bA29 bB29 (by omega) (by omega) (by omega)
        · skip
          intro q30 v30 h30
          have e30 : Pure v27 v30 := Ext.new h30
          have o30 := h30.at_size
          have R30 := R27.pure e30
          have E30 := E27.thenPure e30
          have s30 := E30.size
          have t30 := (E27).size
          have bB30 := bB27.pure e30
          have lB30 := bB27.lt
          have bA30 := Box.of_new h30
          refine ⟨cN.ext E30 (by omega), ?_⟩
          refine (c_rd_promise r p b2 _ v30 R30).mono ?_
          rintro _ v31 ⟨k31, f31, c31, x31, g31, rfl, hl2, R31, e31⟩
          have E31 := E30.trans e31
          have bA31 := bA30.ext e31 (by omega)
          have bB31 := bB30.ext e31 (by omega)
          have s31 := E31.size
          refine ⟨_, _, _, _, _, rfl, ?_⟩
          exact leaf q30 q26 v31 _ _ _ _ _ _ _ _ _ _ hl1 hl2 R31 E31 bA31 bB31 (by omega) (by omega) (by omega)
      · skip
        intro q32 v32 h32
        have e32 : Pure v26 v32 := Ext.new h32
        have o32 := h32.at_size
        have R32 := R26.pure e32
        have E32 := E26.thenPure e32
        have s32 := E32.size
        have t32 := (E26).size
        have bB32 := bB26.pure e32
        have lB32 := bB26.lt
        have bA32 := Box.of_new h32
        refine ⟨cN.ext E32 (by omega), ?_⟩
        refine (c_rd_promise r p a2 _ v32 R32).mono ?_
        rintro _ v33 ⟨k33, f33, c33, x33, g33, rfl, hl1, R33, e33⟩
        have E33 := E32.trans e33
        have bA33 := bA32.ext e33 (by omega)
        have bB33 := bB32.ext e33 (by omega)
        have s33 := E33.size
        refine ⟨_, _, _, _, _, rfl, cN.ext E33 (by omega), ?_⟩
        refine (c_rd_promise r p b2 _ v33 R33).mono ?_
        rintro _ v34 ⟨k34, f34, c34, x34, g34, rfl, hl2, R34, e34⟩
        have E34 := E33.trans e34
        have bA34 := bA33.ext e34 (by omega)
        have bB34 := bB33.ext e34 (by omega)
        have s34 := E34.size
        refine ⟨_, _, _, _, _, rfl, ?_⟩
        exact leaf q32 q26 v34 _ _ _ _ _ _ _ _ _ _ hl1 hl2 R34 E34 bA34 bB34 (by omega) (by omega) (by omega)
end Go.Proofs
