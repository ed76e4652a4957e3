/- Contracts: escrowref11, a letter's tree. -/
import Derived.Test.YtakogcapgbilaaaCOf
import Derived.Test.YtakogcapgbilaaaGLet
open Go Go.SE
namespace Go.Sp
def dataT (x : ByteArray) : Tree := .mk 3 0 0 0 x []
def numT (n : Int) : Tree := .mk 2 0 0 n ⟨#[]⟩ []
def pairT (a b : Tree) : Tree := .mk 4 0 0 0 ⟨#[]⟩ [a, b]
def signT (n : Int) (a : Tree) : Tree := .mk 7 n 0 0 ⟨#[]⟩ [a]
def promT (n : Int) (a : Tree) (fake : Bool) : Tree := .mk (if fake then 9 else 8) n (1 - n) 0 ⟨#[]⟩ [a]
def wDeal : ByteArray := ⟨#[100, 101, 97, 108]⟩
def dealT (c : Int) (x : ByteArray) : Tree := pairT (dataT wDeal) (pairT (numT c) (dataT x))
end Go.Sp
namespace Go.Proofs
attribute [local irreducible] Calls

theorem TreeAt.leaf {S : Nat → Prop} {w : World} {k f t u : Int} {x : ByteArray} : TreeAt S w Sl.nil (.mk k f t u x []) :=
  .mk k f t u x [] Sl.nil (fun _ => Sl.nil) rfl (by simp) (fun i h => by simp at h) (fun i h => by simp at h)
theorem TreeAt.one {S : Nat → Prop} {w : World} {k f t u : Int} {x : ByteArray} {p : Addr} {A : Sp.Tree} {sa : Sl} {T : TypeId} (hB : Box w p (trow A sa) T) (hS : S p.block) (hA : TreeAt S w sa A) : TreeAt S w ⟨some p, 1, 1⟩ (.mk k f t u x [A]) := by
  refine .mk k f t u x [A] _ (fun _ => sa) rfl (by simp) (fun i h => ?_) (fun i h => ?_)
  · have : i = 0 := by simpa using h
    subst this
    exact ⟨p, ⟨by omega, by simp, p, rfl, rfl⟩, hS, hB.row⟩
  · have : i = 0 := by simpa using h
    subst this
    exact hA
theorem TreeAt.pair {S : Nat → Prop} {w : World} {k f t u : Int} {x : ByteArray} {p : Addr} {A B : Sp.Tree} {sa sb : Sl} {T : TypeId} (hB : Box w p (trow A sa ++ trow B sb) T) (hS : S p.block) (hA : TreeAt S w sa A) (hB2 : TreeAt S w sb B) : TreeAt S w ⟨some p, 2, 2⟩ (.mk k f t u x [A, B]) := by
  refine .mk k f t u x [A, B] _ (fun i => if i = 0 then sa else sb) rfl (by simp) (fun i h => ?_) (fun i h => ?_)
  · have : i = 0 ∨ i = 1 := by simp at h; omega
    rcases this with rfl | rfl
    · refine ⟨p, ⟨by omega, by simp, p, rfl, rfl⟩, hS, fun i hi => ?_⟩
      have := hB.row i (by simp [trow] at hi ⊢; omega)
      have hi' : i < 6 := by simpa [trow] using hi
      rw [this]; exact List.getElem?_append_left (by simp [trow]; omega)
    · refine ⟨p.add (1 * 6), ⟨by omega, by simp, p, rfl, rfl⟩, by rw [add_block]; exact hS, fun i hi => ?_⟩
      have hi' : i < 6 := by simpa [trow] using hi
      have := hB.row (6 + i) (by simp [trow]; omega)
      rw [add_add, this, List.getElem?_append_right (by simp [trow])]
      simp [trow]
  · have : i = 0 ∨ i = 1 := by simp at h; omega
    rcases this with rfl | rfl
    · exact hA
    · exact hB2

/-- what a call returns: a tree that lies above n0 -/
abbrev RetT (n0 : Nat) (w : World) (T : Sp.Tree) (e : Ending) (w' : World) : Prop := ∃ s, e = .returned (.agg (trow T s).toArray) ∧ TreeAt (n0 ≤ ·) w' s T ∧ Pure w w'

theorem c_ref11_data (n0 : Nat) (x : ByteArray) (w : World) (h0 : n0 ≤ w.heap.size) : Calls Try.prog 123 #[.string x] w (RetT n0 w (Sp.dataT x)) := by
  refine (w_ref11_data x w (fun k f t u y s w' => (⟨k, f, t, u, y, 0, 0⟩ : Sp.Node) = (Sp.dataT x).node ∧ TreeAt (n0 ≤ ·) w' s (Sp.dataT x) ∧ Pure w w') ?_).mono ?_
  · unfold m_ref11_data
    intro p1 w1 h1
    exact bx 6 (Box.of_new h1) rfl rfl (fun w' b E => ⟨_, _, _, _, _, Sl.nil, b.row, rfl, TreeAt.leaf, Ext.own (Ext.new h1) (New.own (Ext.refl w) h1) E⟩)
  · rintro _ w' ⟨k, f, t, u, y, s, rfl, hn, hT, E⟩
    cases hn; exact ⟨s, rfl, hT, E⟩
theorem c_ref11_number (n0 : Nat) (n : Int) (w : World) (h0 : n0 ≤ w.heap.size) : Calls Try.prog 124 #[.int .u64 n] w (RetT n0 w (Sp.numT n)) := by
  refine (w_ref11_number n w (fun k f t u y s w' => (⟨k, f, t, u, y, 0, 0⟩ : Sp.Node) = (Sp.numT n).node ∧ TreeAt (n0 ≤ ·) w' s (Sp.numT n) ∧ Pure w w') ?_).mono ?_
  · unfold m_ref11_number
    intro p1 w1 h1
    exact bx 6 (Box.of_new h1) rfl rfl (fun w' b E => ⟨_, _, _, _, _, Sl.nil, b.row, rfl, TreeAt.leaf, Ext.own (Ext.new h1) (New.own (Ext.refl w) h1) E⟩)
  · rintro _ w' ⟨k, f, t, u, y, s, rfl, hn, hT, E⟩
    cases hn; exact ⟨s, rfl, hT, E⟩
theorem c_ref11_pair (n0 : Nat) (A B : Sp.Tree) (sa sb : Sl) (w : World) (h0 : n0 ≤ w.heap.size) (hA : TreeAt (n0 ≤ ·) w sa A) (hB : TreeAt (n0 ≤ ·) w sb B) :
    Calls Try.prog 122 #[.agg (trow A sa).toArray, .agg (trow B sb).toArray] w (RetT n0 w (Sp.pairT A B)) := by
  refine (w_ref11_pair _ _ _ _ _ sa _ _ _ _ _ sb w (fun k f t u y s w' => (⟨k, f, t, u, y, 0, 0⟩ : Sp.Node) = (Sp.pairT A B).node ∧ TreeAt (n0 ≤ ·) w' s (Sp.pairT A B) ∧ Pure w w') ?_).mono ?_
  · unfold m_ref11_pair
    intro p1 w1 h1 p2 w2 h2 p3 w3 h3
    have E1 : Pure w w1 := Ext.new h1
    have E2 := E1.trans (Ext.new h2)
    have E3 : Pure w w3 := E2.trans (Ext.new h3)
    have b1 := ((Box.of_new h1).pure (Ext.new h2)).pure (Ext.new h3 : Pure w2 w3)
    have b2 := (Box.of_new h2).pure (Ext.new h3 : Pure w2 w3)
    refine ⟨_, _, _, _, _, sa, b1.row, _, _, _, _, _, sb, b2.row, ?_⟩
    intro p4 w4 h4
    have o3 := New.own E2 h3
    have n34 : p3.block ≠ p4.block := New.ne h4 (Box.of_new h3).blk
    have E4 : Pure w w4 := E3.trans (Ext.new h4)
    have o4 := New.own E3 h4
    refine bx 6 ((Box.of_new h3).pure (Ext.new h4)) rfl rfl (fun w' b E => ⟨_, _, _, _, _, _, b.row, rfl, ?_, E4.own o3 E⟩)
    have b4 := (Box.of_new h4).ext E n34.symm
    have E5 := E4.own o3 E
    refine TreeAt.pair (A := A) (B := B) (sa := sa) (sb := sb) b4 (by show n0 ≤ _; omega) (hA.pure E5) (hB.pure E5)
  · rintro _ w' ⟨k, f, t, u, y, s, rfl, hn, hT, E⟩
    cases hn; exact ⟨s, rfl, hT, E⟩
theorem c_ref11_sign (n0 : Nat) (n : Int) (A : Sp.Tree) (sa : Sl) (w : World) (h0 : n0 ≤ w.heap.size) (hA : TreeAt (n0 ≤ ·) w sa A) :
    Calls Try.prog 121 #[.int .i64 n, .agg (trow A sa).toArray] w (RetT n0 w (Sp.signT n A)) := by
  refine (w_ref11_sign n _ _ _ _ _ sa w (fun k f t u y s w' => (⟨k, f, t, u, y, 0, 0⟩ : Sp.Node) = (Sp.signT n A).node ∧ TreeAt (n0 ≤ ·) w' s (Sp.signT n A) ∧ Pure w w') ?_).mono ?_
  · unfold m_ref11_sign
    intro p1 w1 h1 p3 w3 h3
    have E1 : Pure w w1 := Ext.new h1
    have E3 : Pure w w3 := E1.trans (Ext.new h3)
    have b1 := (Box.of_new h1).pure (Ext.new h3 : Pure w1 w3)
    refine ⟨_, _, _, _, _, sa, b1.row, ?_⟩
    intro p4 w4 h4
    have o3 := New.own E1 h3
    have n34 : p3.block ≠ p4.block := New.ne h4 (Box.of_new h3).blk
    have E4 : Pure w w4 := E3.trans (Ext.new h4)
    have o4 := New.own E3 h4
    refine bx 6 ((Box.of_new h3).pure (Ext.new h4)) rfl rfl (fun w' b E => ⟨_, _, _, _, _, _, b.row, rfl, ?_, E4.own o3 E⟩)
    have b4 := (Box.of_new h4).ext E n34.symm
    have E5 := E4.own o3 E
    exact TreeAt.one (A := A) (sa := sa) b4 (by show n0 ≤ _; omega) (hA.pure E5)
  · rintro _ w' ⟨k, f, t, u, y, s, rfl, hn, hT, E⟩
    cases hn; exact ⟨s, rfl, hT, E⟩
theorem c_ref11_promise (n0 : Nat) (n : Int) (hn1 : n = 0 ∨ n = 1) (A : Sp.Tree) (fake : Bool) (sa : Sl) (w : World) (h0 : n0 ≤ w.heap.size) (hA : TreeAt (n0 ≤ ·) w sa A) :
    Calls Try.prog 120 #[.int .i64 n, .agg (trow A sa).toArray, .bool fake] w (RetT n0 w (Sp.promT n A fake)) := by
  refine (w_ref11_promise n _ _ _ _ _ sa fake w (fun k f t u y s w' => (⟨k, f, t, u, y, 0, 0⟩ : Sp.Node) = (Sp.promT n A fake).node ∧ TreeAt (n0 ≤ ·) w' s (Sp.promT n A fake) ∧ Pure w w') ?_).mono ?_
  · unfold m_ref11_promise
    intro p1 w1 h1 p3 w3 h3
    have E1 : Pure w w1 := Ext.new h1
    have E3 : Pure w w3 := E1.trans (Ext.new h3)
    have b1 := (Box.of_new h1).pure (Ext.new h3 : Pure w1 w3)
    have hw : IntKind.i64.wrap (1 - n) = 1 - n := i64 (by omega) (by omega)
    rw [hw]
    refine ⟨fun h => ⟨_, _, _, _, _, sa, b1.row, ?_⟩, fun h => ⟨_, _, _, _, _, sa, b1.row, ?_⟩⟩
    all_goals
      intro p4 w4 h4
      have o3 := New.own E1 h3
      have n34 : p3.block ≠ p4.block := New.ne h4 (Box.of_new h3).blk
      have E4 : Pure w w4 := E3.trans (Ext.new h4)
      have o4 := New.own E3 h4
      refine bx 6 ((Box.of_new h3).pure (Ext.new h4)) rfl rfl (fun w' b E => ⟨_, _, _, _, _, _, b.row, by rw [h]; rfl, ?_, E4.own o3 E⟩)
      have b4 := (Box.of_new h4).ext E n34.symm
      have E5 := E4.own o3 E
      exact TreeAt.one (A := A) (sa := sa) b4 (by show n0 ≤ _; omega) (hA.pure E5)
  · rintro _ w' ⟨k, f, t, u, y, s, rfl, hn, hT, E⟩
    cases hn; exact ⟨s, rfl, hT, E⟩
theorem c_ref11_Deal (n0 : Nat) (c : Int) (x : ByteArray) (w : World) (h0 : n0 ≤ w.heap.size) : Calls Try.prog 119 #[.int .u64 c, .string x] w (RetT n0 w (Sp.dealT c x)) := by
  refine (w_ref11_Deal c x w (fun k f t u y s w' => (⟨k, f, t, u, y, 0, 0⟩ : Sp.Node) = (Sp.dealT c x).node ∧ TreeAt (n0 ≤ ·) w' s (Sp.dealT c x) ∧ Pure w w') ?_).mono ?_
  · unfold m_ref11_Deal
    intro p1 w1 h1
    have E1 : Pure w w1 := Ext.new h1
    have o1 := New.own (Ext.refl w) h1
    have s1 : w.heap.size ≤ w1.heap.size := E1.size
    refine (c_ref11_data w1.heap.size _ w1 (by omega)).mono ?_
    rintro _ w2 ⟨sa, rfl, hA, E2⟩
    have s2 := E2.size
    refine ⟨_, _, _, _, _, sa, rfl, ?_⟩
    refine (c_ref11_number w1.heap.size c w2 (by omega)).mono ?_
    rintro _ w3 ⟨sb, rfl, hB, E3⟩
    have s3 := E3.size
    refine ⟨_, _, _, _, _, sb, rfl, ?_⟩
    refine (c_ref11_data w1.heap.size x w3 (by omega)).mono ?_
    rintro _ w4 ⟨sc, rfl, hC, E4⟩
    have s4 := E4.size
    refine ⟨_, _, _, _, _, sc, rfl, ?_⟩
    refine (c_ref11_pair w1.heap.size (Sp.numT c) (Sp.dataT x) sb sc w4 (by omega) (hB.pure E4) hC).mono ?_
    rintro _ w5 ⟨sd, rfl, hD, E5⟩
    have s5 := E5.size
    refine ⟨_, _, _, _, _, sd, rfl, ?_⟩
    refine (c_ref11_pair w1.heap.size (Sp.dataT Sp.wDeal) (Sp.pairT (Sp.numT c) (Sp.dataT x)) sa sd w5 (by omega) (((hA.pure E3).pure E4).pure E5) hD).mono ?_
    rintro _ w6 ⟨se, rfl, hE, E6⟩
    have E : Pure w1 w6 := (((E2.trans E3).trans E4).trans E5).trans E6
    refine ⟨_, _, _, _, _, se, rfl, ?_⟩
    refine bx 6 ((Box.of_new h1).pure E) rfl rfl (fun w' b E' => ⟨_, _, _, _, _, se, b.row, rfl, ?_, (E1.trans E).own o1 E'⟩)
    exact (hE.ext E' (fun b hb e => by have := (Box.of_new h1).lt; have : w1.heap.size ≤ b := hb; omega)).mono (fun b hb => by show n0 ≤ b; have : w1.heap.size ≤ b := hb; omega)
  · rintro _ w' ⟨k, f, t, u, y, s, rfl, hn, hT, E⟩
    cases hn; exact ⟨s, rfl, hT, E⟩
end Go.Proofs
