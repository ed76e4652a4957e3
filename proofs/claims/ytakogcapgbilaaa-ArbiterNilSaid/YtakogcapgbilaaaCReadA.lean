/- Contracts: escrow/letter, reader: node, tagged, deal. -/
import Derived.Test.YtakogcapgbilaaaCLetB
open Go Go.SE
namespace Go.Sp
def rdNode (L : Pool) (t kind : Int) : Node × Bool := if inP L t = true ∧ (nodeOf L t).kind = kind then (nodeOf L t, false) else (noNode, true)
def rdTagged (L : Pool) (t : Int) : (ByteArray × Int) × Bool :=
  (((rdNode L (rdNode L t 4).1.a 3).1.text, (rdNode L t 4).1.b), (rdNode L t 4).2 || (rdNode L (rdNode L t 4).1.a 3).2)
def rdDeal (L : Pool) (t : Int) : (Int × ByteArray) × Bool :=
  let g := rdTagged L t
  let n := rdNode L g.1.2 4
  (((rdNode L n.1.a 2).1.num, (rdNode L n.1.b 3).1.text), g.2 || n.2 || !decide (g.1.1 = wDeal) || (rdNode L n.1.a 2).2 || (rdNode L n.1.b 3).2)
end Go.Sp
namespace Go.Proofs
attribute [local irreducible] Calls

/-- A reader in memory, its pool. -/
structure ReaderAt (w : World) (r p : Addr) (bad : Bool) (L : Sp.Pool) (F : Nat → Prop) : Prop where
  box : Box w r [.pointer (some p), .bool bad] 264
  pool : PoolAt w p L F
  ok : Sp.Ok L
  out : ¬ F r.block
theorem ReaderAt.pure {w w' : World} {r p : Addr} {bad : Bool} {L : Sp.Pool} {F : Nat → Prop} (h : ReaderAt w r p bad L F) (E : Pure w w') : ReaderAt w' r p bad L F := ⟨h.box.pure E, h.pool.pure E, h.ok, h.out⟩

theorem c_rd_node (r p : Addr) (t kind : Int) (bad : Bool) (w : World) {L : Sp.Pool} {F : Nat → Prop} (hR : ReaderAt w r p bad L F) :
    Calls Try.prog 168 #[.pointer (some r), .int .i64 t, .int .i64 kind] w
      (fun e w' => ∃ k' : Int, ∃ f' : Int, ∃ t' : Int, ∃ u' : Int, ∃ x' : ByteArray, ∃ a' : Int, ∃ b' : Int, e = .returned (.agg #[.int .i64 k', .int .i64 f', .int .i64 t', .int .u64 u', .string x', .int .i64 a', .int .i64 b']) ∧ ((⟨k', f', t', u', x', a', b'⟩ : Sp.Node) = (Sp.rdNode L t kind).1 ∧ ReaderAt w' r p (bad || (Sp.rdNode L t kind).2) L F ∧ Ext (· = r.block) w w')) := by
  suffices key : ∀ K : Int → Int → Int → Int → ByteArray → Int → Int → World → Prop, (∀ k' f' t' u' x' a' b' w', ((⟨k', f', t', u', x', a', b'⟩ : Sp.Node) = (Sp.rdNode L t kind).1 ∧ ReaderAt w' r p (bad || (Sp.rdNode L t kind).2) L F ∧ Ext (· = r.block) w w') → K k' f' t' u' x' a' b' w') → m_letter_reader_node (some r) t kind w K from
    w_letter_reader_node _ _ _ w _ (key _ (fun _ _ _ _ _ _ _ _ h => h))
  intro K hK
  unfold m_letter_reader_node
  intro p1 w1 h1
  have E1 : Pure w w1 := Ext.new h1
  have o1 := New.own (Ext.refl w) h1
  have lr := hR.box.lt
  have b1 := Box.of_new h1
  refine ⟨r, rfl, some p, (hR.box.pure E1).cell0, ?_⟩
  refine (c_Node p t w1 (hR.pool.pure E1) hR.ok).mono ?_
  rintro _ w2 ⟨k', f', t', u', x', a', b', ok, rfl, ⟨hn, hok⟩, E12⟩
  refine ⟨_, _, _, _, _, _, _, _, rfl, ?_⟩
  intro p2 w3 h3
  have E2 : Pure w w2 := E1.trans E12
  have o3 := New.own E2 h3
  have n12 : p1.block ≠ p2.block := New.ne h3 (b1.pure E12).blk
  refine bx 7 (Box.of_new h3) rfl rfl (fun w4 b2 E' => ?_)
  have E4 : Pure w w4 := (E2.trans (Ext.new h3)).own o3 E'
  have c1 := ((b1.pure E12).pure (Ext.new h3)).ext E' n12
  have hR4 := hR.pure E4
  clear E' E2 E12 b1 h1 h3
  have bad1 : Sp.rdNode L t kind = (Sp.noNode, true) → CanW w4 (r.add 1) ∧ ∀ w5 : World, w5 = w4.setCell (r.add 1) (.bool true) →
      (∀ j, j < 7 → CanW w5 (p1.add j)) ∧ ∀ w6 : World, w6 = storeRow w5 p1 [(.int .i64 0), (.int .i64 0), (.int .i64 0), (.int .u64 0), (.string (⟨#[]⟩ : ByteArray)), (.int .i64 0), (.int .i64 0)] →
      ∃ qKind1 : Int, ∃ qFrom1 : Int, ∃ qTo1 : Int, ∃ qNum1 : Int, ∃ qText1 : ByteArray, ∃ qA1 : Int, ∃ qB1 : Int, Row w6 p1 [(.int .i64 qKind1), (.int .i64 qFrom1), (.int .i64 qTo1), (.int .u64 qNum1), (.string qText1), (.int .i64 qA1), (.int .i64 qB1)] ∧
      K qKind1 qFrom1 qTo1 qNum1 qText1 qA1 qB1 w6 := by
    intro hrd
    refine ⟨hR4.box.canW (by simp), ?_⟩
    intro w5 hw5
    have d5 : Box w5 r [.pointer (some p), .bool true] 264 := by rw [hw5]; exact hR4.box.set 1 _
    have E5 : Ext (· = r.block) w4 w5 := by rw [hw5]; have := Ext.setCell (w := w4) (r.add 1) (.bool true); rw [add_block] at this; exact this
    clear hw5
    have n1r : p1.block ≠ r.block := by omega
    refine bx 7 (c1.ext E5 n1r) rfl rfl (fun w6 b6 E6 => ⟨_, _, _, _, _, _, _, b6.row, hK _ _ _ _ _ _ _ _ ⟨by rw [hrd]; rfl, ⟨?_, ?_, hR.ok, hR.out⟩, ?_⟩⟩)
    · rw [hrd]; simp only [Bool.or_true]; exact d5.ext E6 n1r.symm
    · exact (hR4.pool.ext E5 (fun b hb e => hR.out (e ▸ hb))).ext E6 (fun b hb e => by have := hR.pool.lt hb; omega)
    · exact (E4.pure.trans E5).trans' E6 (fun i hi h => by omega)
  refine ⟨fun h => ⟨r, rfl, ?_⟩, fun h => ⟨k', b2.cell0, fun h2 => ⟨r, rfl, ?_⟩, fun h2 => ?_⟩⟩
  · refine bad1 ?_
    have : ¬ Sp.inP L t = true := by rw [← hok]; simpa using h
    unfold Sp.rdNode; rw [if_neg (fun h => this h.1)]
  · refine bad1 ?_
    have : (Sp.nodeOf L t).kind ≠ kind := by rw [← hn]; simpa using h2
    unfold Sp.rdNode; rw [if_neg (fun h => this h.2)]
  · have hi : Sp.inP L t = true := by rw [← hok]; simpa using h
    have hk : (Sp.nodeOf L t).kind = kind := by rw [← hn]; simpa using h2
    have hrd : Sp.rdNode L t kind = (Sp.nodeOf L t, false) := by unfold Sp.rdNode; rw [if_pos ⟨hi, hk⟩]
    refine ⟨_, _, _, _, _, _, _, b2.row, bx 7 c1 rfl rfl (fun w6 b6 E6 => ⟨_, _, _, _, _, _, _, b6.row, hK _ _ _ _ _ _ _ _ ⟨by rw [hrd]; exact hn, ?_, ?_⟩⟩)⟩
    · rw [hrd]; simp only [Bool.or_false]
      exact hR.pure (E4.own o1 E6)
    · exact (E4.own o1 E6).pure

theorem c_rd_tagged (r p : Addr) (t : Int) (bad : Bool) (w : World) {L : Sp.Pool} {F : Nat → Prop} (hR : ReaderAt w r p bad L F) :
    Calls Try.prog 167 #[.pointer (some r), .int .i64 t] w
      (fun e w' => ∃ x : ByteArray, ∃ b : Int, e = .returned (.tuple #[.string x, .int .i64 b]) ∧ ((x, b) = (Sp.rdTagged L t).1 ∧ ReaderAt w' r p (bad || (Sp.rdTagged L t).2) L F ∧ Ext (· = r.block) w w')) := by
  suffices key : ∀ K : ByteArray → Int → World → Prop, (∀ x b w', ((x, b) = (Sp.rdTagged L t).1 ∧ ReaderAt w' r p (bad || (Sp.rdTagged L t).2) L F ∧ Ext (· = r.block) w w') → K x b w') → m_letter_reader_tagged (some r) t w K from
    w_letter_reader_tagged _ _ w _ (key _ (fun _ _ _ h => h))
  intro K hK
  unfold m_letter_reader_tagged
  refine (c_rd_node r p t 4 bad w hR).mono ?_
  rintro _ w1 ⟨k1, f1, t1, u1, x1, a1, b1, rfl, hn, hR1, E1⟩
  refine ⟨_, _, _, _, _, _, _, rfl, ?_⟩
  intro p1 w2 h2
  have o2 := New.own (Ext.refl w1) h2
  refine bx 7 (Box.of_new h2) rfl rfl (fun w3 b3 E' => ?_)
  have E3 : Pure w1 w3 := Ext.own (Ext.new h2) o2 E'
  have l1 := hR1.box.lt
  refine ⟨fun w' => Box w' p1 [.int .i64 k1, .int .i64 f1, .int .i64 t1, .int .u64 u1, .string x1, .int .i64 a1, .int .i64 b1] 93, b3.pure (Ext.drew w3), ?_⟩
  intro w4 hw4
  have E4 : Pure w1 w4 := by rw [hw4]; exact E3.thenPure (Ext.drew w3)
  have c4 : Box w4 p1 [.int .i64 k1, .int .i64 f1, .int .i64 t1, .int .u64 u1, .string x1, .int .i64 a1, .int .i64 b1] 93 := by rw [hw4]; exact b3.pure (Ext.drew w3)
  clear hw4
  refine ⟨a1, fun w' h => h.cell rfl, b1, fun w' h => h.cell rfl, ?_⟩
  refine (c_rd_node r p a1 3 _ w4 (hR1.pure E4)).mono ?_
  rintro _ w5 ⟨k2, f2, t2, u2, x2, a2, b2, rfl, hn2, hR2, E5⟩
  refine ⟨_, _, _, _, _, _, _, rfl, c4.ext E5 (by omega), hK _ _ _ ⟨?_, ?_, ?_⟩⟩
  · have ea : a1 = (Sp.rdNode L t 4).1.a := by rw [← hn]
    have eb : b1 = (Sp.rdNode L t 4).1.b := by rw [← hn]
    simp only [Sp.rdTagged, ← ea, ← eb, ← hn2]
  · have ea : a1 = (Sp.rdNode L t 4).1.a := by rw [← hn]
    rw [ea] at hR2
    simp only [Sp.rdTagged, ← Bool.or_assoc]
    exact hR2
  · exact (E1.thenPure E4).trans E5
end Go.Proofs
