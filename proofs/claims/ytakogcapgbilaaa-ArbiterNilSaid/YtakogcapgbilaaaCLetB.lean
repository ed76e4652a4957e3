/- Contracts: escrowref11.Tree. -/
import Derived.Test.YtakogcapgbilaaaCLetA
open Go Go.SE
namespace Go.Sp
structure Letter where
  kind : Int
  frm : Int
  c : Int
  text : ByteArray
  fake : Bool
deriving DecidableEq
def noLetter : Letter := ⟨0, 0, 0, ⟨#[]⟩, false⟩
def wAbort : ByteArray := ⟨#[97, 98, 111, 114, 116]⟩
def wResolve : ByteArray := ⟨#[114, 101, 115, 111, 108, 118, 101]⟩
def wAborted : ByteArray := ⟨#[97, 98, 111, 114, 116, 101, 100]⟩
def wInstead : ByteArray := ⟨#[105, 110, 115, 116, 101, 97, 100]⟩
def wFull : ByteArray := ⟨#[102, 117, 108, 108]⟩
def letterT (l : Letter) (first second : Bool) : Tree :=
  if l.kind = 1 then promT l.frm (dealT l.c l.text) l.fake
  else if l.kind = 2 then signT l.frm (dealT l.c l.text)
  else if l.kind = 3 then signT 0 (pairT (dataT wAbort) (numT l.c))
  else if l.kind = 4 then signT l.frm (pairT (dataT wResolve) (pairT (promT 0 (dealT l.c l.text) (l.fake && first)) (promT 1 (dealT l.c l.text) (l.fake && second))))
  else if l.kind = 5 then signT 2 (pairT (dataT wAborted) (numT l.c))
  else if l.kind = 6 then signT 2 (pairT (dataT wInstead) (dealT l.c l.text))
  else pairT (dataT wFull) (numT l.c)
end Go.Sp
namespace Go.Proofs
attribute [local irreducible] Calls

theorem c_ref11_Tree (n0 : Nat) (k f c : Int) (x : ByteArray) (fake first second : Bool) (w : World) (h0 : n0 ≤ w.heap.size) (hf : f = 0 ∨ f = 1) :
    Calls Try.prog 74 #[.agg #[.int .i64 k, .int .i64 f, .int .u64 c, .string x, .bool fake], .bool first, .bool second] w (RetT n0 w (Sp.letterT ⟨k, f, c, x, fake⟩ first second)) := by
  generalize hR : Sp.letterT ⟨k, f, c, x, fake⟩ first second = R
  suffices key : ∀ K : Int → Int → Int → Int → ByteArray → Sl → World → Prop, (∀ s w', TreeAt (n0 ≤ ·) w' s R ∧ Pure w w' → K R.node.kind R.node.frm R.node.to R.node.num R.node.text s w') → m_ref11_Tree k f c x fake first second w K by
    refine (w_ref11_Tree k f c x fake first second w (fun k f t u y s w' => (k = R.node.kind ∧ f = R.node.frm ∧ t = R.node.to ∧ u = R.node.num ∧ y = R.node.text) ∧ TreeAt (n0 ≤ ·) w' s R ∧ Pure w w') (key _ (fun s w' h => ⟨⟨rfl, rfl, rfl, rfl, rfl⟩, h⟩))).mono ?_
    rintro _ w' ⟨k, f, t, u, y, s, rfl, ⟨rfl, rfl, rfl, rfl, rfl⟩, hT, E⟩
    exact ⟨s, rfl, hT, E⟩
  intro K hK
  unfold m_ref11_Tree
  intro p1 w1 h1 p2 w2 h2
  have E1 : Pure w w1 := Ext.new h1
  have E2 : Pure w w2 := E1.trans (Ext.new h2)
  have o2 := New.own E1 h2
  have a1 := (Box.of_new h1).pure (Ext.new h2 : Pure w1 w2)
  have a2 := Box.of_new h2
  have l1 := a1.lt
  have l2 := a2.lt
  have s2 := E2.size
  clear h1 h2
  refine ⟨_, a1.cell rfl, _, a1.cell rfl, ?_⟩
  refine (c_ref11_Deal w2.heap.size c x w2 (Nat.le_refl _)).mono ?_
  rintro _ w3 ⟨sd, rfl, hD, E3⟩
  refine ⟨_, _, _, _, _, sd, rfl, ?_⟩
  intro p3 w4 h4
  have o3 := New.own (Ext.refl w3) h4
  refine bx 6 (Box.of_new h4) rfl rfl (fun w5 b3 E' => ?_)
  have E5 : Pure w3 w5 := Ext.own (Ext.new h4) o3 E'
  have hD5 := hD.pure E5
  have E25 : Pure w2 w5 := E3.trans E5
  have s5 := E25.size
  have b1 := a1.pure E25
  have b3 : Box w5 p3 (trow (Sp.dealT c x) sd) 116 := b3
  clear E' h4 E5 hD E3
  -- the result's variable is set, and read
  have fin : ∀ (T : Sp.Tree) (s : Sl) (w' : World), Pure w5 w' → TreeAt (w2.heap.size ≤ ·) w' s T → T = R →
      (∀ j, j < 6 → CanW w' (p2.add j)) ∧ ∀ w'' : World, w'' = storeRow w' p2 (trow T s) →
      ∃ qKind1 : Int, ∃ qFrom1 : Int, ∃ qTo1 : Int, ∃ qNum1 : Int, ∃ qText1 : ByteArray, ∃ qKids1 : Sl, Row w'' p2 [(.int .i64 qKind1), (.int .i64 qFrom1), (.int .i64 qTo1), (.int .u64 qNum1), (.string qText1), qKids1.v] ∧ K qKind1 qFrom1 qTo1 qNum1 qText1 qKids1 w'' := by
    rintro T s w' E hT rfl
    refine bx 6 (a2.pure (E25.trans E)) rfl rfl (fun w'' b E' => ⟨_, _, _, _, _, s, b.row, hK s w'' ⟨?_, (E2.trans (E25.trans E)).own o2 E'⟩⟩)
    exact (hT.ext E' (fun b hb e => by have : w2.heap.size ≤ b := hb; omega)).mono (fun b hb => by show n0 ≤ b; have : w2.heap.size ≤ b := hb; omega)
  have drawn : ∃ C : World → Prop, C w5.drew ∧ (∀ w' w'', Pure w' w'' → C w' → C w'') ∧ (∀ w', C w' → Box w' p1 [.int .i64 k, .int .i64 f, .int .u64 c, .string x, .bool fake] 132 ∧ Box w' p3 (trow (Sp.dealT c x) sd) 116) :=
    ⟨fun w' => Box w' p1 [.int .i64 k, .int .i64 f, .int .u64 c, .string x, .bool fake] 132 ∧ Box w' p3 (trow (Sp.dealT c x) sd) 116, ⟨b1.pure (Ext.drew w5), b3.pure (Ext.drew w5)⟩, fun _ _ E h => ⟨h.1.pure E, h.2.pure E⟩, fun _ h => h⟩
  obtain ⟨C, hC, hCp, hCb⟩ := drawn
  refine ⟨k, b1.cell0, fun hk => ?_, fun hk1 => ⟨fun hk => ?_, fun hk2 => ⟨fun hk => ?_, fun hk3 => ⟨fun hk => ?_, fun hk4 => ⟨fun hk => ?_, fun hk5 => ⟨fun hk => ?_, fun hk6 => ?_⟩⟩⟩⟩⟩⟩
  · have hk : k = 1 := by simpa using hk
    refine ⟨f, b1.cell rfl, _, _, _, _, _, sd, b3.row, fake, b1.cell rfl, ?_⟩
    refine (c_ref11_promise w2.heap.size f hf (Sp.dealT c x) fake sd w5 s5 hD5).mono ?_
    rintro _ w6 ⟨s, rfl, hT, E6⟩
    exact ⟨_, _, _, _, _, s, rfl, fin _ s w6 E6 hT (by rw [← hR]; simp only [Sp.letterT]; rw [if_pos hk])⟩
  · have hk : k = 2 := by simpa using hk
    refine ⟨f, b1.cell rfl, _, _, _, _, _, sd, b3.row, ?_⟩
    refine (c_ref11_sign w2.heap.size f (Sp.dealT c x) sd w5 s5 hD5).mono ?_
    rintro _ w6 ⟨s, rfl, hT, E6⟩
    exact ⟨_, _, _, _, _, s, rfl, fin _ s w6 E6 hT (by rw [← hR]; simp only [Sp.letterT]; rw [if_neg (by omega), if_pos hk])⟩
  · have hk : k = 3 := by simpa using hk
    refine ⟨C, hC, ?_⟩
    intro w10 hw10
    have E10 : Pure w5 w10 := by rw [hw10]; exact Ext.drew w5
    have hC10 : C w10 := by rw [hw10]; exact hC
    clear hw10
    have s10 := E10.size
    refine ⟨c, fun w' h => (hCb w' h).1.cell rfl, ?_⟩
    refine (c_ref11_data w2.heap.size _ w10 (by omega)).mono ?_
    rintro _ w11 ⟨sa, rfl, hA, E11⟩
    have s11 := E11.size
    refine ⟨_, _, _, _, _, sa, rfl, hCp _ _ E11 hC10, ?_⟩
    refine (c_ref11_number w2.heap.size c w11 (by omega)).mono ?_
    rintro _ w12 ⟨sb, rfl, hB, E12⟩
    have s12 := E12.size
    refine ⟨_, _, _, _, _, sb, rfl, ?_⟩
    refine (c_ref11_pair w2.heap.size (Sp.dataT Sp.wAbort) (Sp.numT c) sa sb w12 (by omega) (hA.pure E12) hB).mono ?_
    rintro _ w13 ⟨se, rfl, hE, E13⟩
    have s13 := E13.size
    refine ⟨_, _, _, _, _, se, rfl, ?_⟩
    refine (c_ref11_sign w2.heap.size 0 (Sp.pairT (Sp.dataT Sp.wAbort) (Sp.numT c)) se w13 (by omega) hE).mono ?_
    rintro _ w14 ⟨s, rfl, hT, E14⟩
    exact ⟨_, _, _, _, _, s, rfl, fin _ s w14 ((((E10.trans E11).trans E12).trans E13).trans E14) hT (by rw [← hR]; simp only [Sp.letterT]; rw [if_neg (by omega), if_neg (by omega), if_pos hk])⟩
  · have hk : k = 4 := by simpa using hk
    refine ⟨C, hC, ?_⟩
    intro w10 hw10
    have E10 : Pure w5 w10 := by rw [hw10]; exact Ext.drew w5
    have hC10 : C w10 := by rw [hw10]; exact hC
    clear hw10
    have s10 := E10.size
    refine ⟨f, fun w' h => (hCb w' h).1.cell rfl, _, _, _, _, _, sd, fun w' h => (hCb w' h).2.row, fake, fun w' h => (hCb w' h).1.cell rfl, _, _, _, _, _, sd, fun w' h => (hCb w' h).2.row, fake, fun w' h => (hCb w' h).1.cell rfl, ?_⟩
    refine (c_ref11_data w2.heap.size _ w10 (by omega)).mono ?_
    rintro _ w11 ⟨sa, rfl, hA, E11⟩
    have s11 := E11.size
    have hD11 := hD5.pure (E10.trans E11)
    have hC11 := hCp _ _ E11 hC10
    refine ⟨_, _, _, _, _, sa, rfl, hC11, ?_⟩
    -- behind the two promises
    have rest : ∀ (u v : Bool) (sx sy : Sl) (w' : World), u = (fake && first) → v = (fake && second) → Pure w11 w' → TreeAt (w2.heap.size ≤ ·) w' sx (Sp.promT 0 (Sp.dealT c x) u) → TreeAt (w2.heap.size ≤ ·) w' sy (Sp.promT 1 (Sp.dealT c x) v) →
        Calls Try.prog 122 #[.agg (trow (Sp.promT 0 (Sp.dealT c x) u) sx).toArray, .agg (trow (Sp.promT 1 (Sp.dealT c x) v) sy).toArray] w' (fun e wa => ∃ k1 f1 t1 u1 y1, ∃ s1 : Sl, e = .returned (.agg #[.int .i64 k1, .int .i64 f1, .int .i64 t1, .int .u64 u1, .string y1, s1.v]) ∧ C wa ∧
          Calls Try.prog 122 #[.agg (trow (Sp.dataT Sp.wResolve) sa).toArray, .agg #[.int .i64 k1, .int .i64 f1, .int .i64 t1, .int .u64 u1, .string y1, s1.v]] wa (fun e wb => ∃ k1 f1 t1 u1 y1, ∃ s1 : Sl, e = .returned (.agg #[.int .i64 k1, .int .i64 f1, .int .i64 t1, .int .u64 u1, .string y1, s1.v]) ∧ C wb ∧
            Calls Try.prog 121 #[.int .i64 f, .agg #[.int .i64 k1, .int .i64 f1, .int .i64 t1, .int .u64 u1, .string y1, s1.v]] wb (fun e wc => ∃ k1 f1 t1 u1 y1, ∃ s1 : Sl, e = .returned (.agg #[.int .i64 k1, .int .i64 f1, .int .i64 t1, .int .u64 u1, .string y1, s1.v]) ∧
              (∀ j, j < 6 → CanW wc (p2.add j)) ∧ ∀ w'' : World, w'' = storeRow wc p2 [.int .i64 k1, .int .i64 f1, .int .i64 t1, .int .u64 u1, .string y1, s1.v] →
      ∃ qKind1 : Int, ∃ qFrom1 : Int, ∃ qTo1 : Int, ∃ qNum1 : Int, ∃ qText1 : ByteArray, ∃ qKids1 : Sl, Row w'' p2 [(.int .i64 qKind1), (.int .i64 qFrom1), (.int .i64 qTo1), (.int .u64 qNum1), (.string qText1), qKids1.v] ∧ K qKind1 qFrom1 qTo1 qNum1 qText1 qKids1 w''))) := by
      intro u v sx sy w' hu hv E hX hY
      have s' := E.size
      refine (c_ref11_pair w2.heap.size (Sp.promT 0 (Sp.dealT c x) u) (Sp.promT 1 (Sp.dealT c x) v) sx sy w' (by omega) hX hY).mono ?_
      rintro _ wa ⟨s1, rfl, h1, Ea⟩
      have sa' := Ea.size
      refine ⟨_, _, _, _, _, s1, rfl, hCp _ _ (E.trans Ea) hC11, ?_⟩
      refine (c_ref11_pair w2.heap.size (Sp.dataT Sp.wResolve) (Sp.pairT (Sp.promT 0 (Sp.dealT c x) u) (Sp.promT 1 (Sp.dealT c x) v)) sa s1 wa (by omega) (hA.pure (E.trans Ea)) h1).mono ?_
      rintro _ wb ⟨s2, rfl, h2, Eb⟩
      have sb' := Eb.size
      refine ⟨_, _, _, _, _, s2, rfl, hCp _ _ ((E.trans Ea).trans Eb) hC11, ?_⟩
      refine (c_ref11_sign w2.heap.size f (Sp.pairT (Sp.dataT Sp.wResolve) (Sp.pairT (Sp.promT 0 (Sp.dealT c x) u) (Sp.promT 1 (Sp.dealT c x) v))) s2 wb (by omega) h2).mono ?_
      rintro _ wc ⟨s3, rfl, h3, Ec⟩
      exact ⟨_, _, _, _, _, s3, rfl, fin _ s3 wc (((((E10.trans E11).trans E).trans Ea).trans Eb).trans Ec) h3 (by rw [← hR, hu, hv]; simp only [Sp.letterT]; rw [if_neg (by omega), if_neg (by omega), if_neg (by omega), if_pos hk])⟩
    refine ⟨fun hfk => ?_, fun hfk => ?_⟩
    · refine (c_ref11_promise w2.heap.size 0 (.inl rfl) (Sp.dealT c x) first sd w11 (by omega) hD11).mono ?_
      rintro _ w12 ⟨sx, rfl, hX, E12⟩
      have s12 := E12.size
      refine ⟨_, _, _, _, _, sx, rfl, hCp _ _ E12 hC11, Br.t hfk ?_⟩
      refine (c_ref11_promise w2.heap.size 1 (.inr rfl) (Sp.dealT c x) second sd w12 (by omega) (hD11.pure E12)).mono ?_
      rintro _ w13 ⟨sy, rfl, hY, E13⟩
      exact ⟨_, _, _, _, _, sy, rfl, hCp _ _ (E12.trans E13) hC11, rest first second sx sy w13 (by rw [hfk]; rfl) (by rw [hfk]; rfl) (E12.trans E13) (hX.pure E13) hY⟩
    · refine (c_ref11_promise w2.heap.size 0 (.inl rfl) (Sp.dealT c x) false sd w11 (by omega) hD11).mono ?_
      rintro _ w12 ⟨sx, rfl, hX, E12⟩
      have s12 := E12.size
      refine ⟨_, _, _, _, _, sx, rfl, hCp _ _ E12 hC11, Br.f hfk ?_⟩
      refine (c_ref11_promise w2.heap.size 1 (.inr rfl) (Sp.dealT c x) false sd w12 (by omega) (hD11.pure E12)).mono ?_
      rintro _ w13 ⟨sy, rfl, hY, E13⟩
      exact ⟨_, _, _, _, _, sy, rfl, hCp _ _ (E12.trans E13) hC11, rest false false sx sy w13 (by rw [hfk]; rfl) (by rw [hfk]; rfl) (E12.trans E13) (hX.pure E13) hY⟩
  · have hk : k = 5 := by simpa using hk
    refine ⟨C, hC, ?_⟩
    intro w10 hw10
    have E10 : Pure w5 w10 := by rw [hw10]; exact Ext.drew w5
    have hC10 : C w10 := by rw [hw10]; exact hC
    clear hw10
    have s10 := E10.size
    refine ⟨c, fun w' h => (hCb w' h).1.cell rfl, ?_⟩
    refine (c_ref11_data w2.heap.size _ w10 (by omega)).mono ?_
    rintro _ w11 ⟨sa, rfl, hA, E11⟩
    have s11 := E11.size
    refine ⟨_, _, _, _, _, sa, rfl, hCp _ _ E11 hC10, ?_⟩
    refine (c_ref11_number w2.heap.size c w11 (by omega)).mono ?_
    rintro _ w12 ⟨sb, rfl, hB, E12⟩
    have s12 := E12.size
    refine ⟨_, _, _, _, _, sb, rfl, ?_⟩
    refine (c_ref11_pair w2.heap.size (Sp.dataT Sp.wAborted) (Sp.numT c) sa sb w12 (by omega) (hA.pure E12) hB).mono ?_
    rintro _ w13 ⟨se, rfl, hE, E13⟩
    have s13 := E13.size
    refine ⟨_, _, _, _, _, se, rfl, ?_⟩
    refine (c_ref11_sign w2.heap.size 2 (Sp.pairT (Sp.dataT Sp.wAborted) (Sp.numT c)) se w13 (by omega) hE).mono ?_
    rintro _ w14 ⟨s, rfl, hT, E14⟩
    exact ⟨_, _, _, _, _, s, rfl, fin _ s w14 ((((E10.trans E11).trans E12).trans E13).trans E14) hT (by rw [← hR]; simp only [Sp.letterT]; rw [if_neg (by omega), if_neg (by omega), if_neg (by omega), if_neg (by omega), if_pos hk])⟩
  · have hk : k = 6 := by simpa using hk
    refine ⟨C, hC, ?_⟩
    intro w10 hw10
    have E10 : Pure w5 w10 := by rw [hw10]; exact Ext.drew w5
    have hC10 : C w10 := by rw [hw10]; exact hC
    clear hw10
    have s10 := E10.size
    refine ⟨_, _, _, _, _, sd, fun w' h => (hCb w' h).2.row, ?_⟩
    refine (c_ref11_data w2.heap.size _ w10 (by omega)).mono ?_
    rintro _ w11 ⟨sa, rfl, hA, E11⟩
    have s11 := E11.size
    refine ⟨_, _, _, _, _, sa, rfl, hCp _ _ E11 hC10, ?_⟩
    refine (c_ref11_pair w2.heap.size (Sp.dataT Sp.wInstead) (Sp.dealT c x) sa sd w11 (by omega) hA (hD5.pure (E10.trans E11))).mono ?_
    rintro _ w13 ⟨se, rfl, hE, E13⟩
    have s13 := E13.size
    refine ⟨_, _, _, _, _, se, rfl, ?_⟩
    refine (c_ref11_sign w2.heap.size 2 (Sp.pairT (Sp.dataT Sp.wInstead) (Sp.dealT c x)) se w13 (by omega) hE).mono ?_
    rintro _ w14 ⟨s, rfl, hT, E14⟩
    exact ⟨_, _, _, _, _, s, rfl, fin _ s w14 (((E10.trans E11).trans E13).trans E14) hT (by rw [← hR]; simp only [Sp.letterT]; rw [if_neg (by omega), if_neg (by omega), if_neg (by omega), if_neg (by omega), if_neg (by omega), if_pos hk])⟩
  · have hk1 : k ≠ 1 := by simpa using hk1
    have hk2 : k ≠ 2 := by simpa using hk2
    have hk3 : k ≠ 3 := by simpa using hk3
    have hk4 : k ≠ 4 := by simpa using hk4
    have hk5 : k ≠ 5 := by simpa using hk5
    have hk6 : k ≠ 6 := by simpa using hk6
    refine ⟨C, hC, ?_⟩
    intro w10 hw10
    have E10 : Pure w5 w10 := by rw [hw10]; exact Ext.drew w5
    have hC10 : C w10 := by rw [hw10]; exact hC
    clear hw10
    have s10 := E10.size
    refine ⟨c, fun w' h => (hCb w' h).1.cell rfl, ?_⟩
    refine (c_ref11_data w2.heap.size _ w10 (by omega)).mono ?_
    rintro _ w11 ⟨sa, rfl, hA, E11⟩
    have s11 := E11.size
    refine ⟨_, _, _, _, _, sa, rfl, hCp _ _ E11 hC10, ?_⟩
    refine (c_ref11_number w2.heap.size c w11 (by omega)).mono ?_
    rintro _ w12 ⟨sb, rfl, hB, E12⟩
    have s12 := E12.size
    refine ⟨_, _, _, _, _, sb, rfl, ?_⟩
    refine (c_ref11_pair w2.heap.size (Sp.dataT Sp.wFull) (Sp.numT c) sa sb w12 (by omega) (hA.pure E12) hB).mono ?_
    rintro _ w13 ⟨s, rfl, hT, E13⟩
    exact ⟨_, _, _, _, _, s, rfl, fin _ s w13 (((E10.trans E11).trans E12).trans E13) hT (by rw [← hR]; simp only [Sp.letterT]; rw [if_neg hk1, if_neg hk2, if_neg hk3, if_neg hk4, if_neg hk5, if_neg hk6])⟩
end Go.Proofs
