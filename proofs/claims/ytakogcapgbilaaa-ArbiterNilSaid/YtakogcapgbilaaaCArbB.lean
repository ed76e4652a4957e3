/- Contracts: escrow/arbiter, bonds, Judge. -/
import Derived.Test.YtakogcapgbilaaaCArbA
open Go Go.SE
namespace Go.Sp
structure Bond where
  who : Int
  c : Int
  text : ByteArray
  why : Int
  by_ : Int
deriving DecidableEq
def bondsOf (l : Letter) (by_ : Int) : List Bond :=
  if l.kind = 6 then [⟨0, l.c, l.text, 2, by_⟩, ⟨1, l.c, l.text, 2, by_⟩] else if l.kind = 2 then [⟨l.frm, l.c, l.text, 1, by_⟩] else []
/-- the ruling: bound, why, by -/
def judgeBonds (who c : Int) (x : ByteArray) (i : Int) : List Bond → Option (Int × Int)
  | [] => none
  | b :: bs => if b.who = who ∧ b.c = c ∧ b.text = x then some (b.why, i) else judgeBonds who c x i bs
def judgeFrom (who c : Int) (x : ByteArray) : Int → List Letter → Bool × Int × Int
  | _, [] => (false, 0, -1)
  | i, l :: ls => match judgeBonds who c x i (bondsOf l i) with
    | some r => (true, r)
    | none => judgeFrom who c x (i + 1) ls
end Go.Sp
namespace Go.Proofs
attribute [local irreducible] Calls

def brow (b : Sp.Bond) : List Value := [.int .i64 b.who, .int .u64 b.c, .string b.text, .int .i64 b.why, .int .i64 b.by_]
theorem slT_bond : SlType Try.prog 31 46 5 48 := by
  refine ⟨Try.underlying31, ⟨Try.t46, _, by kernel_rfl, (by kernel_rfl : Try.t46.zero = some (.agg #[.int .i64 0, .int .u64 0, .string ⟨#[]⟩, .int .i64 0, .int .i64 0])), by kernel_rfl, by kernel_rfl, rfl⟩, by omega⟩

theorem c_arb_bonds (k f c : Int) (x : ByteArray) (g : Bool) (n : Int) (w : World) :
    Calls Try.prog 80 #[.agg #[.int .i64 k, .int .i64 f, .int .u64 c, .string x, .bool g], .int .i64 n] w (fun e w' => ∃ s : Sl, e = .returned s.v ∧ RetS w 46 5 ((Sp.bondsOf ⟨k, f, c, x, g⟩ n).map brow) s w') := by
  suffices key : ∀ K : Sl → World → Prop, (∀ s w', RetS w 46 5 ((Sp.bondsOf ⟨k, f, c, x, g⟩ n).map brow) s w' → K s w') → m_arbiter_bonds k f c x g n w K from
    w_arbiter_bonds _ _ _ _ _ _ w _ (key _ (fun _ _ h => h))
  intro K hK
  unfold m_arbiter_bonds
  intro p1 w1 h1
  have E1 : Pure w w1 := Ext.new h1
  have o1 := New.own (Ext.refl w) h1
  have b1 := Box.of_new h1
  clear h1
  have J1 : ∀ (fr : Int) (s : Sl) (why : Int) (rs : List Sp.Bond) (w2 : World), rs.length ≤ 1 → Box w2 p1 [.int .i64 k, .int .i64 fr, .int .u64 c, .string x, .bool g] 132 → Rws w2 46 5 s (rs.map brow) → (∀ b, s.blk b → w.heap.size ≤ b) → Pure w w2 →
      Sp.bondsOf ⟨k, f, c, x, g⟩ n = rs ++ [⟨fr, c, x, why, n⟩] → m_arbiter_bonds_j1 n p1 s why w2 K := by
    intro fr s why rs w2 hl hB hR hown E hs
    unfold m_arbiter_bonds_j1
    refine ⟨fr, hB.cell rfl, c, hB.cell rfl, x, hB.cell rfl, ?_⟩
    intro p2 w3 h3
    have E3 : Pure w2 w3 := Ext.new h3
    have hrow : Row w3 p2 (brow ⟨fr, c, x, why, n⟩) := (Box.of_new h3).row
    obtain ⟨s1, w4, hr, hR4, E4, hb4⟩ := (hR.pure E3).append (P := Try.prog) slT_bond (ty := 31) (c := 1) hrow rfl (by simp [brow, oneCell]) (by simp; omega) (by simp [maxLen]; omega)
    refine ⟨s1, w4, hr, hK _ _ ⟨?_, fun b hb => (hb4 b hb).elim (hown b) (fun h => by have := (E.trans E3).size; omega), (E.trans E3).trans' E4 (fun i hi h => by have := hown i h; omega)⟩⟩
    rw [hs]; simpa using hR4
  refine ⟨k, b1.cell0, fun h => ?_, fun h => ⟨fun h2 => ?_, fun h2 => ?_⟩⟩
  · have hk : k = 6 := by simpa using h
    refine ⟨b1.canW (by simp), ?_⟩
    intro w4 hw4
    have b4 : Box w4 p1 [.int .i64 k, .int .i64 1, .int .u64 c, .string x, .bool g] 132 := by rw [hw4]; exact b1.set 1 _
    have E4 : Pure w w4 := by
      have := Ext.setCell (w := w1) (p1.add 1) (.int .i64 1); rw [add_block] at this
      rw [hw4]; exact E1.own o1 this
    clear hw4
    refine ⟨c, b4.cell rfl, x, b4.cell rfl, ?_⟩
    intro p3 w5 h5
    have E5 : Pure w4 w5 := Ext.new h5
    have hrow : Row w5 p3 (brow ⟨0, c, x, 2, n⟩) := (Box.of_new h5).row
    obtain ⟨s1, w6, hr, hR6, E6, hb6⟩ := (Rws.nil w5 46 5).append (P := Try.prog) slT_bond (ty := 31) (c := 1) hrow rfl (by simp [brow, oneCell]) (by simp) (by simp [maxLen])
    have E56 : Pure w5 w6 := E6.mono (fun i _ h => by obtain ⟨a, h, _⟩ := h; cases h)
    refine ⟨s1, w6, hr, J1 1 s1 2 [⟨0, c, x, 2, n⟩] w6 (by simp) (b4.pure (E5.trans E56)) (by simpa using hR6) (fun b hb => (hb6 b hb).elim (fun h => by obtain ⟨a, h, _⟩ := h; cases h) (fun h => by have := (E4.trans E5).size; omega)) ((E4.trans E5).trans E56) ?_⟩
    simp [Sp.bondsOf, hk]
  · have hk : k ≠ 6 := by simpa using h
    have hk2 : k = 2 := by simpa using h2
    refine J1 f Sl.nil 1 [] w1 (by simp) b1 (by simpa using Rws.nil _ _ _) (fun b h => by obtain ⟨a, h, _⟩ := h; cases h) E1 ?_
    simp [Sp.bondsOf, hk2]
  · have hk : k ≠ 6 := by simpa using h
    have hk2 : k ≠ 2 := by simpa using h2
    refine hK _ _ ⟨?_, (fun b h => by obtain ⟨a, h, _⟩ := h; cases h), E1⟩
    have : Sp.bondsOf ⟨k, f, c, x, g⟩ n = [] := by simp [Sp.bondsOf, hk, hk2]
    rw [this]; simpa using Rws.nil _ _ _


theorem judgeBonds_cons (who c : Int) (x : ByteArray) (i : Int) (b : Sp.Bond) (bs : List Sp.Bond) : Sp.judgeBonds who c x i (b :: bs) = if b.who = who ∧ b.c = c ∧ b.text = x then some (b.why, i) else Sp.judgeBonds who c x i bs := rfl

end Go.Proofs
