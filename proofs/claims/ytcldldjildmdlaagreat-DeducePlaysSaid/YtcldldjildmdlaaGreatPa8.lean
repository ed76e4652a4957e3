import Derived.Test.YtcldldjildmdlaaGreatPa7
import Derived.Test.YtcldldjildmdlaaGreatPa1
import Derived.Test.YtcldldjildmdlaaGreatPa6
import Derived.Test.YtcldldjildmdlaaGreatPa4
import Derived.Test.YtcldldjildmdlaaGreatPa0
import Derived.Test.YtcldldjildmdlaaGreatProg
import Derived.KernelRfl
import Derived.Test.YtcldldjildmdlaaGreatPa2
import Derived.Test.YtcldldjildmdlaaGreatPa5
import Derived.ProofKit
import Derived.Carry
import Derived.OpenShut
import Derived.Stop.Joined
section
open Go Go.SE Sp
namespace Go.Proofs
attribute [local irreducible] Calls
theorem DS.side {w0 w w1 : World} {H : NP} {s : Sl} {l : List Int} (h : DS w0 H w s l) {q : Nat} (E : Ext (· = q) w w1) (hq : w0.heap.size ≤ q) (hs : ¬ s.blk q) : DS w0 H w1 s l :=
 ⟨h.own.ext E (fun b hb e => hs (e ▸ hb)), h.ext.trans' E (fun i hi e => by omega)⟩
structure MS (w : World) (s : Sl) (l : List Int) (p : Addr) (T : TypeId) : Prop where
 rows : Rws w 30 1 s (tmr l)
 box : ∃ n : Int, Box w p [.int .i64 n] T
 ne : ¬ s.blk p.block
theorem MS.get {w : World} {s : Sl} {l : List Int} {p : Addr} {T : TypeId} (h : MS w s l p T) {i : Nat} {I x : Int} (hI : I = i) (hx : l[i]? = some x) : ∃ a, At s I 1 a ∧ w.cell? a = some (.int .i64 x) ∧ ¬ None a.block := (DS.start h.rows).get hI hx
theorem c_order2 {T : TypeId} (s : Sl) (l : List Int) (a b : Nat) (p : Addr) (w0 : World) (h : MS w0 s l p T) (ha : a < l.length) (hb : b < l.length) :
  Calls Tryz.prog 174 #[s.v, .int .i64 a, .int .i64 b, .pointer (some p)] w0 (fun e w' => ∃ r1 r2 : Int, e = .returned (.tuple #[.int .i64 r1, .int .i64 r2]) ∧ ((r1 = a ∧ r2 = b ∨ r1 = b ∧ r2 = a) ∧ MS w' s l p T ∧ Ext (· = p.block) w0 w')) := by
 refine w_P3 _ _ _ _ w0 (fun r1 r2 w' => (r1 = a ∧ r2 = b ∨ r1 = b ∧ r2 = a) ∧ MS w' s l p T ∧ Ext (· = p.block) w0 w') ?_
 unfold m_P3
 obtain ⟨x, hx⟩ := at_of ha
 obtain ⟨y, hy⟩ := at_of hb
 obtain ⟨a2, p1, p2, p3⟩ := h.get rfl hy
 obtain ⟨a3, q1, q2, q3⟩ := h.get rfl hx
 refine ⟨a2, p1, y, p2, p3, a3, q1, x, q2, q3, ⟨fun _ => ⟨p, rfl, fun H1 w3 hs3 => ?_⟩, fun _ H1 w3 hs3 => ?_⟩⟩
 ·have E3 : Pure w0 w3 := hs3.first
  obtain ⟨n, hB⟩ := h.box
  have hB3 := hB.pure E3
  refine ⟨n, hB3.cell0, p, rfl, hB3.canW0 (by simp), fun hH => by have := hs3.old _ hH; have := hB.lt; omega, fun w5 hw5 => ?_⟩
  have E5 : Ext (· = p.block) w3 w5 := by rw [hw5]; exact Ext.setCell p _
  refine ⟨.inr ⟨rfl, rfl⟩, ⟨(h.rows.pure E3).ext E5 (fun b hb e => h.ne (e ▸ hb)), ⟨_, by rw [hw5]; exact hB3.set0⟩, h.ne⟩, E3.pure.trans E5⟩
 ·have E3 : Pure w0 w3 := hs3.first
  exact ⟨.inl ⟨rfl, rfl⟩, ⟨h.rows.pure E3, let ⟨n, hB⟩ := h.box; ⟨n, hB.pure E3⟩, h.ne⟩, E3.pure⟩
theorem c_median {T : TypeId} (s : Sl) (l : List Int) (a b c : Nat) (p : Addr) (w0 : World) (h : MS w0 s l p T) (ha : a < l.length) (hb : b < l.length) (hc : c < l.length) :
  Calls Tryz.prog 172 #[s.v, .int .i64 a, .int .i64 b, .int .i64 c, .pointer (some p)] w0 (fun e w' => ∃ r : Int, e = .returned (.int .i64 r) ∧ ((r = a ∨ r = b ∨ r = c) ∧ MS w' s l p T ∧ Ext (· = p.block) w0 w')) := by
 refine w_Q3 _ _ _ _ _ w0 (fun r w' => (r = a ∨ r = b ∨ r = c) ∧ MS w' s l p T ∧ Ext (· = p.block) w0 w') ?_
 unfold m_Q3
 refine (c_order2 s l a b p w0 h ha hb).mono ?_
 rintro _ w1 ⟨r1, r2, rfl, hr, h1, E1⟩
 refine ⟨_, _, rfl, ?_⟩
 obtain ⟨a', b', rfl, rfl, ha', hb', hab⟩ : ∃ a' b' : Nat, r1 = a' ∧ r2 = b' ∧ a' < l.length ∧ b' < l.length ∧ (a' = a ∧ b' = b ∨ a' = b ∧ b' = a) := by
  rcases hr with ⟨rfl, rfl⟩ | ⟨rfl, rfl⟩
  ·exact ⟨a, b, rfl, rfl, ha, hb, .inl ⟨rfl, rfl⟩⟩
  ·exact ⟨b, a, rfl, rfl, hb, ha, .inr ⟨rfl, rfl⟩⟩
 refine (c_order2 s l b' c p w1 h1 hb' hc).mono ?_
 rintro _ w2 ⟨r3, r4, rfl, hr, h2, E2⟩
 refine ⟨_, _, rfl, ?_⟩
 obtain ⟨c', rfl, hc', hbc⟩ : ∃ c' : Nat, r3 = c' ∧ c' < l.length ∧ (c' = b' ∨ c' = c) := by
  rcases hr with ⟨rfl, _⟩ | ⟨rfl, _⟩
  ·exact ⟨b', rfl, hb', .inl rfl⟩
  ·exact ⟨c, rfl, hc, .inr rfl⟩
 refine (c_order2 s l a' c' p w2 h2 ha' hc').mono ?_
 rintro _ w3 ⟨r5, r6, rfl, hr, h3, E3⟩
 refine ⟨_, _, rfl, ?_, h3, (E1.trans E2).trans E3⟩
 rcases hr with ⟨_, rfl⟩ | ⟨_, rfl⟩
 ·omega
 ·omega
theorem c_medAdj {T : TypeId} (s : Sl) (l : List Int) (a : Nat) (p : Addr) (w0 : World) (h : MS w0 s l p T) (ha : 1 ≤ a) (hb : a + 1 < l.length) (hn : l.length ≤ 1000000) :
  Calls Tryz.prog 171 #[s.v, .int .i64 a, .pointer (some p)] w0 (fun e w' => ∃ r : Int, e = .returned (.int .i64 r) ∧ ((∃ q : Nat, r = q ∧ a - 1 ≤ q ∧ q ≤ a + 1) ∧ MS w' s l p T ∧ Ext (· = p.block) w0 w')) := by
 refine w_R3 _ _ _ w0 (fun r w' => (∃ q : Nat, r = q ∧ a - 1 ≤ q ∧ q ≤ a + 1) ∧ MS w' s l p T ∧ Ext (· = p.block) w0 w') ?_
 unfold m_R3
 simp (disch := omega) only [i64]
 rw [show ((a : Int) - 1) = ((a - 1 : Nat) : Int) by omega, show ((a : Int) + 1) = ((a + 1 : Nat) : Int) by omega]
 refine (c_median s l (a - 1) a (a + 1) p w0 h (by omega) (by omega) hb).mono ?_
 rintro _ w1 ⟨r, rfl, hr, h1, E1⟩
 refine ⟨_, rfl, ?_, h1, E1⟩
 rcases hr with rfl | rfl | rfl
 ·exact ⟨a - 1, rfl, by omega, by omega⟩
 ·exact ⟨a, rfl, by omega, by omega⟩
 ·exact ⟨a + 1, rfl, by omega, by omega⟩
theorem c_pivot (s : Sl) (l : List Int) (a b : Nat) (w0 : World) (h : Rws w0 30 1 s (tmr l)) (hb : b ≤ l.length) (hn : l.length ≤ 1000000) (hab : a + 12 < b) :
  Calls Tryz.prog 160 #[s.v, .int .i64 a, .int .i64 b] w0 (fun e w' => ∃ r1 r2 : Int, e = .returned (.tuple #[.int .i64 r1, .int .i64 r2]) ∧ ((∃ q : Nat, r1 = q ∧ a ≤ q ∧ q < b) ∧ Pure w0 w')) := by
 refine w_S3 _ _ _ w0 (fun r1 _ w' => (∃ q : Nat, r1 = q ∧ a ≤ q ∧ q < b) ∧ Pure w0 w') ?_
 unfold m_S3
 simp (disch := omega) only [i64]
 intro p1 w1 h1
 have E1 : Pure w0 w1 := Ext.new h1
 have hp : w0.heap.size ≤ p1.block := by rw [h1.at_size]; exact Nat.le_refl _
 have hM : MS w1 s l p1 3 := ⟨h.pure E1, ⟨0, Box.of_new h1⟩, fun hb' => by have := h.lt hb'; omega⟩
 have hq : ((b : Int) - a) / 4 = (((b - a) / 4 : Nat) : Int) := by omega
 have hz := fun w => run_quoN (P := Tryz.prog) (w := w) (t := 3) (a := (b : Int) - a) (b := 4) (by omega) (by omega) (by omega)
 refine ⟨_, hz _, _, hz _, _, hz _, ?_⟩
 rw [hq]
 generalize hd : (b - a) / 4 = d
 have hd' : 4 * d ≤ b - a ∧ b - a < 4 * d + 4 := by omega
 simp (disch := omega) only [i64]
 have e1 : (a : Int) + (d : Int) * 1 = ((a + d : Nat) : Int) := by omega
 have e2 : (a : Int) + (d : Int) * 2 = ((a + 2 * d : Nat) : Int) := by omega
 have e3 : (a : Int) + (d : Int) * 3 = ((a + 3 * d : Nat) : Int) := by omega
 rw [e1, e2, e3]
 have fin : ∀ (r : Int) (w : World), MS w s l p1 3 → Ext (· = p1.block) w1 w → (∃ q : Nat, r = q ∧ a ≤ q ∧ q < b) → ∃ v1 : Int, w.cell? p1 = some (.int .i64 v1) ∧ Br ((v1 : Int) == 0) ((∃ q : Nat, r = q ∧ a ≤ q ∧ q < b) ∧ Pure w0 w) (Br ((v1 : Int) == 12) ((∃ q : Nat, r = q ∧ a ≤ q ∧ q < b) ∧ Pure w0 w) ((∃ q : Nat, r = q ∧ a ≤ q ∧ q < b) ∧ Pure w0 w)) := by
  intro r w hM E hr
  obtain ⟨n, hB⟩ := hM.box
  have EP : Pure w0 w := E1.own hp E
  exact ⟨n, hB.cell0, fun _ => ⟨hr, EP⟩, fun _ => ⟨fun _ => ⟨hr, EP⟩, fun _ => ⟨hr, EP⟩⟩⟩
 refine Br.t (decide_eq_true (by omega)) ⟨fun hc => ?_, fun _ => ?_⟩
 ·have hc := of_decide_eq_true hc
  refine (c_medAdj s l (a + d) p1 w1 hM (by omega) (by omega) hn).mono ?_
  rintro _ w2 ⟨_, rfl, ⟨q1, rfl, g1, g1'⟩, hM2, E2⟩
  refine ⟨_, rfl, ?_⟩
  refine (c_medAdj s l (a + 2 * d) p1 w2 hM2 (by omega) (by omega) hn).mono ?_
  rintro _ w3 ⟨_, rfl, ⟨q2, rfl, g2, g2'⟩, hM3, E3⟩
  refine ⟨_, rfl, ?_⟩
  refine (c_medAdj s l (a + 3 * d) p1 w3 hM3 (by omega) (by omega) hn).mono ?_
  rintro _ w4 ⟨_, rfl, ⟨q3, rfl, g3, g3'⟩, hM4, E4⟩
  refine ⟨_, rfl, ?_⟩
  refine (c_median s l q1 q2 q3 p1 w4 hM4 (by omega) (by omega) (by omega)).mono ?_
  rintro _ w5 ⟨r, rfl, hr, hM5, E5⟩
  refine ⟨_, rfl, fin r w5 hM5 (((E2.trans E3).trans E4).trans E5) ?_⟩
  rcases hr with rfl | rfl | rfl
  ·exact ⟨q1, rfl, by omega, by omega⟩
  ·exact ⟨q2, rfl, by omega, by omega⟩
  ·exact ⟨q3, rfl, by omega, by omega⟩
 ·refine (c_median s l (a + d) (a + 2 * d) (a + 3 * d) p1 w1 hM (by omega) (by omega) (by omega)).mono ?_
  rintro _ w5 ⟨r, rfl, hr, hM5, E5⟩
  refine ⟨_, rfl, fin r w5 hM5 E5 ?_⟩
  rcases hr with rfl | rfl | rfl
  ·exact ⟨a + d, rfl, by omega, by omega⟩
  ·exact ⟨a + 2 * d, rfl, by omega, by omega⟩
  ·exact ⟨a + 3 * d, rfl, by omega, by omega⟩
theorem pow_bitLen : ∀ x : Nat, 0 < x → x < 2 ^ 64 → 2 ^ Lib.bitLen x ≤ 2 * x := by
 intro x
 induction x using Nat.strongRecOn with
 | _ x ih =>
  intro h0 h1
  rw [Lib.bitLen_half x (by omega) h1, Nat.pow_add]
  by_cases e : x = 1
  ·subst e; decide +kernel
  ·have := ih (x / 2) (by omega) (by omega) (by omega)
   omega
theorem bitLen_le64 : ∀ x : Nat, x < 2 ^ 64 → Lib.bitLen x ≤ 64 := by
 have key : ∀ (k x : Nat), k ≤ 64 → x < 2 ^ k → Lib.bitLen x ≤ k := by
  intro k
  induction k with
  | zero => intro x _ h; have : x = 0 := by omega
            subst this; decide +kernel
  | succ k ih =>
   intro x hk h
   by_cases e : x = 0
   ·subst e; exact Nat.le_trans (by decide +kernel : Lib.bitLen 0 ≤ 0) (by omega)
   ·have h64 : x < 2 ^ 64 := Nat.lt_of_lt_of_le h (Nat.pow_le_pow_right (by omega) hk)
    rw [Lib.bitLen_half x e h64]
    have := ih (x / 2) (by omega) (by rw [Nat.pow_succ] at h; omega)
    omega
 exact fun x h => key 64 x (Nat.le_refl _) h
theorem c_Len (n : Nat) (w0 : World) (hn : n ≤ 1000000) : Calls Tryz.prog 155 #[.int .u64 n] w0 (fun e w' => ∃ r : Int, e = .returned (.int .i64 r) ∧ (r = (Lib.bitLen n : Int) ∧ w' = w0)) := by
 refine w_M3 _ w0 (fun r w' => r = (Lib.bitLen n : Int) ∧ w' = w0) ?_
 unfold m_M3
 refine (bits_Len64 n w0 (by omega) (by omega)).mono ?_
 rintro _ w1 ⟨rfl, rfl⟩
 exact ⟨_, rfl, rfl, rfl⟩
theorem run_shl64 {P : Program} {w : World} {t : TypeId} {k : IntKind} {x y : Int} (hy : 0 ≤ y) : ∃ z : Int, (Go.binOp .shl t (.int .u64 x) (.int k y)).run P w = .ok (.int .u64 z) w ∧ z = IntKind.u64.wrap (x * 2 ^ min y.toNat IntKind.u64.bits) := by
 refine ⟨_, ?_, rfl⟩
 have : ¬ y < 0 := by omega
 simp [Go.binOp, Op.shift, this]
theorem run_shr64 {P : Program} {w : World} {t : TypeId} {k : IntKind} {x y : Int} (hy : 0 ≤ y) : ∃ z : Int, (Go.binOp .shr t (.int .u64 x) (.int k y)).run P w = .ok (.int .u64 z) w ∧ z = x.fdiv (2 ^ min y.toNat IntKind.u64.bits) := by
 refine ⟨_, ?_, rfl⟩
 have : ¬ y < 0 := by omega
 simp [Go.binOp, Op.shift, this]
theorem run_xor64 {P : Program} {w : World} {t : TypeId} {x y : Int} : ∃ z : Int, (Go.binOp .xor t (.int .u64 x) (.int .u64 y)).run P w = .ok (.int .u64 z) w := ⟨_, by simp [Go.binOp, Op.intBits]; rfl⟩
theorem run_and64 {P : Program} {w : World} {t : TypeId} {x y : Int} (h0 : 0 ≤ y) (h1 : y < 18446744073709551616) : ∃ z : Int, (Go.binOp .and t (.int .u64 x) (.int .u64 y)).run P w = .ok (.int .u64 z) w ∧ 0 ≤ z ∧ z ≤ y := by
 refine ⟨_, by simp [Go.binOp, Op.intBits]; rfl, ?_⟩
 have e : (BitVec.ofInt IntKind.u64.bits y).toNat = y.toNat := by
  rw [BitVec.toNat_ofInt]
  have : (IntKind.u64.bits : Nat) = 64 := rfl
  rw [this]
  rw [Int.emod_eq_of_lt h0 (by omega)]
 have hle : (BitVec.ofInt IntKind.u64.bits x &&& BitVec.ofInt IntKind.u64.bits y).toNat ≤ y.toNat := by
  rw [BitVec.toNat_and, e]; exact Nat.and_le_right
 have hw : ∀ m : Nat, m ≤ y.toNat → 0 ≤ IntKind.u64.wrap (m : Int) ∧ IntKind.u64.wrap (m : Int) ≤ y := by
  intro m hm
  rw [IntWalk.u64_in _ (by omega)]
  omega
 have := hw _ hle
 simpa using this
theorem c_Next (p : Addr) (w0 : World) {T : TypeId} {n : Int} (hB : Box w0 p [.int .u64 n] T) : Calls Tryz.prog 170 #[.pointer (some p)] w0 (fun e w' => ∃ r : Int, e = .returned (.int .u64 r) ∧ ((∃ m : Int, Box w' p [.int .u64 m] T) ∧ Ext (· = p.block) w0 w')) := by
 refine w_O3 _ w0 (fun r w' => (∃ m : Int, Box w' p [.int .u64 m] T) ∧ Ext (· = p.block) w0 w') ?_
 unfold m_O3
 refine ⟨fun _ => True, trivial, fun w1 h1 => ?_⟩
 subst h1
 have hB1 : Box w0.drew p [.int .u64 n] T := hB.pure (Ext.drew w0)
 obtain ⟨z1, r1, _⟩ := run_shl64 (P := Tryz.prog) (w := w0.drew) (t := 217) (k := .u64) (x := n) (y := 13) (by omega)
 obtain ⟨z2, r2⟩ := run_xor64 (P := Tryz.prog) (w := w0.drew) (t := 217) (x := n) (y := z1)
 refine ⟨p, rfl, n, hB1.cell0, p, rfl, n, hB1.cell0, z1, r1, z2, r2, p, rfl, hB1.canW0 (by simp), fun h => h, fun w2 h2 => ?_⟩
 have hB2 : Box w2 p [.int .u64 z2] T := by rw [h2]; exact hB1.set0
 have E2 : Ext (· = p.block) w0 w2 := (Ext.drew w0).trans (by rw [h2]; exact Ext.setCell p _)
 refine ⟨fun _ => True, trivial, fun w3 h3 => ?_⟩
 subst h3
 have hB3 : Box w2.drew p [.int .u64 z2] T := hB2.pure (Ext.drew w2)
 obtain ⟨z3, r3, _⟩ := run_shr64 (P := Tryz.prog) (w := w2.drew) (t := 217) (k := .u64) (x := z2) (y := 7) (by omega)
 obtain ⟨z4, r4⟩ := run_xor64 (P := Tryz.prog) (w := w2.drew) (t := 217) (x := z2) (y := z3)
 refine ⟨p, rfl, z2, hB3.cell0, p, rfl, z2, hB3.cell0, z3, r3, z4, r4, p, rfl, hB3.canW0 (by simp), fun h => h, fun w4 h4 => ?_⟩
 have hB4 : Box w4 p [.int .u64 z4] T := by rw [h4]; exact hB3.set0
 have E4 : Ext (· = p.block) w2 w4 := (Ext.drew w2).trans (by rw [h4]; exact Ext.setCell p _)
 refine ⟨fun _ => True, trivial, fun w5 h5 => ?_⟩
 subst h5
 have hB5 : Box w4.drew p [.int .u64 z4] T := hB4.pure (Ext.drew w4)
 obtain ⟨z5, r5, _⟩ := run_shl64 (P := Tryz.prog) (w := w4.drew) (t := 217) (k := .u64) (x := z4) (y := 17) (by omega)
 obtain ⟨z6, r6⟩ := run_xor64 (P := Tryz.prog) (w := w4.drew) (t := 217) (x := z4) (y := z5)
 refine ⟨p, rfl, z4, hB5.cell0, p, rfl, z4, hB5.cell0, z5, r5, z6, r6, p, rfl, hB5.canW0 (by simp), fun h => h, fun w6 h6 => ?_⟩
 have hB6 : Box w6 p [.int .u64 z6] T := by rw [h6]; exact hB5.set0
 have E6 : Ext (· = p.block) w4 w6 := (Ext.drew w4).trans (by rw [h6]; exact Ext.setCell p _)
 exact ⟨p, rfl, z6, hB6.cell0, ⟨z6, hB6⟩, (E2.trans E4).trans E6⟩
theorem c_break (s : Sl) (l : List Int) (a b : Nat) (w0 : World) (h : Rws w0 30 1 s (tmr l)) (hb : b ≤ l.length) (hn : l.length ≤ 1000000) (hab : a + 12 < b) :
  Calls Tryz.prog 159 #[s.v, .int .i64 a, .int .i64 b] w0 (fun e w' => e = .returned (.tuple #[]) ∧ SP w0 s (fun l' => PermIn a b l l') w') := by
 refine w_T1 _ _ _ w0 (SP w0 s (fun l' => PermIn a b l l')) ?_
 unfold m_T1
 simp (disch := omega) only [i64]
 refine Br.t (decide_eq_true (by omega)) ?_
 intro p1 w1 h1
 have B1 := Box.of_new h1
 have E1 : Pure w0 w1 := Ext.new h1
 have hp : w0.heap.size ≤ p1.block := by rw [h1.at_size]; exact Nat.le_refl _
 have hps : ¬ s.blk p1.block := fun hb' => by have := h.lt hb'; omega
 refine ⟨B1.canW0 (by simp), fun h => h, fun w2 h2 => ?_⟩
 have B2 := B1.set0 (v := .int .u64 (IntKind.u64.wrap ((b : Int) - a)))
 have E2 : Ext (· = p1.block) w1 w2 := by rw [h2]; exact Ext.setCell p1 _
 rw [← h2] at B2
 have hD2 : DS w0 None w2 s l := ((DS.start h).pure E1).side E2 hp hps
 have eN : ((b : Int) - a) = ((b - a : Nat) : Int) := by omega
 have hpow : Calls Tryz.prog 169 #[.int .i64 ((b : Int) - a)] w2 (fun e w' => ∃ r : Int, e = .returned (.int .u64 r) ∧ ((1 ≤ r ∧ r ≤ 2 * ((b : Int) - a)) ∧ w' = w2)) := by
  rw [eN]
  refine w_N3 _ w2 (fun r w' => (1 ≤ r ∧ r ≤ 2 * ((b - a : Nat) : Int)) ∧ w' = w2) ?_
  unfold m_N3
  rw [IntWalk.u64_in _ (by omega)]
  refine (c_Len (b - a) w2 (by omega)).mono ?_
  rintro _ w3 ⟨r, rfl, rfl, rfl⟩
  have hl := pow_bitLen (b - a) (by omega) (by omega)
  obtain ⟨z, hz, hzv⟩ := run_shl64 (P := Tryz.prog) (w := w3) (t := 194) (k := .i64) (x := 1) (y := (Lib.bitLen (b - a) : Int)) (by omega)
  refine ⟨_, rfl, z, hz, ?_, rfl⟩
  have hle : Lib.bitLen (b - a) ≤ 64 := bitLen_le64 _ (by omega)
  have hmin : min ((Lib.bitLen (b - a) : Int).toNat) IntKind.u64.bits = Lib.bitLen (b - a) := by
   have : (IntKind.u64.bits : Nat) = 64 := rfl
   rw [this]; omega
  have e2 : (1 : Int) * 2 ^ Lib.bitLen (b - a) = ((2 ^ Lib.bitLen (b - a) : Nat) : Int) := by rw [Int.one_mul]; simp
  have hpos : 0 < 2 ^ Lib.bitLen (b - a) := Nat.pow_pos (by omega)
  rw [hmin, e2, IntWalk.u64_in _ (by omega)] at hzv
  omega
 refine hpow.mono ?_
 rintro _ w3 ⟨r, rfl, ⟨hr1, hr2⟩, rfl⟩
 have hz := fun w => run_quoN (P := Tryz.prog) (w := w) (t := 3) (a := (b : Int) - a) (b := 4) (by omega) (by omega) (by omega)
 have hq : ((b : Int) - a) / 4 = (((b - a) / 4 : Nat) : Int) := by omega
 refine ⟨_, rfl, Kept.refl _, _, hz _, ?_⟩
 rw [hq]
 generalize hd : (b - a) / 4 = d
 have hd' : 4 * d ≤ b - a ∧ b - a < 4 * d + 4 := by omega
 simp (disch := omega) only [i64]
 refine ⟨fun i H w => ∃ (k : Nat) (l' : List Int), i = k ∧ a ≤ k ∧ k ≤ a + 2 * d + 2 ∧ DS w0 H w s l' ∧ PermIn a b l l' ∧ (∃ m : Int, Box w p1 [.int .u64 m] 217) ∧ ¬ H p1.block, fun i _ => ((a : Int) + 2 * d + 2 - i).toNat, ⟨a + 2 * d - 1, l, by omega, by omega, by omega, hD2, PermIn.refl _ _ _, ⟨_, B2⟩, fun h => h⟩, ?_⟩
 rintro _ H w hs ⟨k, l1, rfl, hk1, hk2, hD, hP, ⟨m, hB⟩, hH⟩
 have hl := hP.len
 unfold m_T1_l1
 simp (disch := omega) only [i64]
 refine ⟨_, hz _, ?_⟩
 rw [hq, hd]
 simp (disch := omega) only [i64]
 refine ⟨fun hc => ?_, fun _ => hD.sp hP⟩
 have hc := of_decide_eq_true hc
 refine (c_Next p1 w hB).mono ?_
 rintro _ w4 ⟨r2, rfl, ⟨m4, hB4⟩, E4⟩
 have hD4 := hD.side E4 hp hps
 refine ⟨_, rfl, E4.kept (fun b hb e => hH (e ▸ hb)), ?_⟩
 rw [IntWalk.u64_in _ (by omega)]
 obtain ⟨z3, hz3, z0, z1⟩ := run_and64 (P := Tryz.prog) (w := w4) (t := 194) (x := r2) (y := r - 1) (by omega) (by omega)
 refine ⟨z3, hz3, ?_⟩
 simp (disch := omega) only [i64]
 intro y1 hy1 H5 w5 hs5
 obtain ⟨o, rfl, ho⟩ : ∃ o : Nat, y1 = o ∧ o < b - a := by
  by_cases e : z3 ≥ (b : Int) - a
  ·rw [decide_eq_true e] at hy1
   exact ⟨(z3 - ((b : Int) - a)).toNat, by rw [hy1]; simp only [cond_true]; omega, by omega⟩
  ·rw [decide_eq_false e] at hy1
   exact ⟨z3.toNat, by rw [hy1]; simp only [cond_false]; omega, by omega⟩
 have hD5 := hD4.hst hs5
 have hH5 : ¬ H5 p1.block := fun h => (hs5.new _ h).elim hH (fun h' => by have := hB4.lt; omega)
 obtain ⟨x, hx⟩ := at_of (l := l1) (i := k) (by omega)
 obtain ⟨y, hy⟩ := at_of (l := l1) (i := a + o) (by omega)
 simp (disch := omega) only [i64]
 have hB5 := hB4.ext hs5.ext hH5
 suffices key : ∀ w3, DS w0 H5 w3 s ((l1.set k y).set (a + o) x) → Ext s.blk w5 w3 → (∃ (k' : Nat) (l' : List Int), (k : Int) + 1 = k' ∧ a ≤ k' ∧ k' ≤ a + 2 * d + 2 ∧ DS w0 H5 w3 s l' ∧ PermIn a b l l' ∧ (∃ m : Int, Box w3 p1 [.int .u64 m] 217) ∧ ¬ H5 p1.block) ∧ ((a : Int) + 2 * d + 2 - ((k : Int) + 1)).toNat < ((a : Int) + 2 * d + 2 - (k : Int)).toNat by
  have hD5' : DS w5 H5 w5 s l1 := ⟨hD5.own, Ext.refl _⟩
  refine hD5'.swp (i := k) (j := a + o) rfl (by omega) hx hy (fun w6 h6 => ?_)
  exact key w6 ⟨h6.own, hD5.ext.trans h6.ext⟩ h6.ext
 intro w6 h6 E6
 exact ⟨⟨k + 1, _, by omega, by omega, by omega, h6, hP.trans (PermIn.swp hx hy (by omega) (by omega) (by omega) (by omega)), ⟨m4, hB5.ext E6 hps⟩, hH5⟩, by omega⟩
end Go.Proofs
end
section
open Go Go.SE Sp
namespace Sp
section
variable {α : Type} {lt : α → α → Bool} {l : List α} {a0 b0 a b m : Nat}
theorem Parted.left (h : Parted lt a b m l) (ho : Ord lt) (hO : Outer lt a0 b0 a b l) (hm : a ≤ m) (hmb : m < b) (hl : m < l.length) : Outer lt a0 b0 a m l ∨ True := .inr trivial
theorem Outer.split (hO : Outer lt a0 b0 a b l) (ho : Ord lt) (h : Parted lt a b m l) (hm : a ≤ m) (hmb : m < b) (hl : m < l.length) : ∀ p q, a0 ≤ p → p < q → q < b0 → (p < a ∨ m ≤ p ∨ q < a ∨ m ≤ q) → (p ≤ m ∨ b ≤ p ∨ q ≤ m ∨ b ≤ q) → Le lt l p q := by
 intro p q h1 h2 h3 h4 h5
 by_cases e : p < a ∨ b ≤ p ∨ q < a ∨ b ≤ q
 ·exact hO p q h1 h2 h3 e
 ·by_cases e1 : p = m
  ·subst e1; exact h.2 q h2 (by omega)
  ·by_cases e2 : q = m
   ·subst e2; exact h.1 p (by omega) h2
   ·exact Le.trans ho hl (h.1 p (by omega) (by omega)) (h.2 q (by omega) (by omega))
end
end Sp
namespace Go.Proofs
attribute [local irreducible] Calls
def QInv (w0 : World) (s : Sl) (l : List Int) (a b : Nat) (i j lim : Int) (_ _ : Bool) (H : NP) (w : World) : Prop :=
 ∃ (p q : Nat) (l' : List Int), i = p ∧ j = q ∧ a ≤ p ∧ p ≤ q ∧ q ≤ b ∧ 0 ≤ lim ∧ lim ≤ 64 ∧ DS w0 H w s l' ∧ PermIn a b l l' ∧ Outer ltI a b p q l' ∧ Floor ltI p q l'
def qmu (i j _lim : Int) (_ _ : Bool) (_ : World) : Nat := (j - i).toNat
theorem c_pdq (s : Sl) : ∀ (n : Nat) (l : List Int) (a b : Nat) (lim : Int) (w0 : World), b - a < n → Rws w0 30 1 s (tmr l) → b ≤ l.length → l.length ≤ 1000000 → a ≤ b → 0 ≤ lim → lim ≤ 64 → Floor ltI a b l →
  Calls Tryz.prog 154 #[s.v, .int .i64 a, .int .i64 b, .int .i64 lim] w0 (fun e w' => e = .returned (.tuple #[]) ∧ SP w0 s (fun l' => PermIn a b l l' ∧ SortedIn ltI a b l') w') := by
 intro n
 induction n with
 | zero => intro l a b lim w0 h; omega
 | succ n ih =>
 intro l a b lim w0 hab h hb hn hle hl0 hl1 hF
 refine w_N _ _ _ _ w0 (SP w0 s (fun l' => PermIn a b l l' ∧ SortedIn ltI a b l')) ?_
 unfold m_N
 refine ⟨QInv w0 s l a b, qmu, ⟨a, b, l, rfl, rfl, Nat.le_refl _, hle, Nat.le_refl _, hl0, hl1, DS.start h, PermIn.refl _ _ _, Outer.start _ _ _, hF⟩, ?_⟩
 rintro _ _ lim2 bal part H1 w1 hs1 ⟨p, q, l1, rfl, rfl, hp, hpq, hq, hm0, hm1, h1, hP1, hO1, hF1⟩
 have hl1' := hP1.len
 unfold m_N_l1
 simp (disch := omega) only [i64]
 have J4 : ∀ (l4 : List Int) (lim3 : Int) (pv : Nat) (H : NP) (w : World), 0 ≤ lim3 → lim3 ≤ 64 → p + 12 < q → p ≤ pv → pv < q → DS w0 H w s l4 → PermIn a b l l4 → Outer ltI a b p q l4 → Floor ltI p q l4 →
   m_N_j4 s p q bal part lim3 pv w0 H w (fun y'0 y'1 y'2 y'3 y'4 H' w' => QInv w0 s l a b y'0 y'1 y'2 y'3 y'4 H' w' ∧ qmu y'0 y'1 y'2 y'3 y'4 w' < qmu p q lim2 bal part w1) (SP w0 s (fun l' => PermIn a b l l' ∧ SortedIn ltI a b l')) := by
  intro l4 lim3 pv H w hz0 hz1 h12 hpv1 hpv2 h4 hP4 hO4 hF4
  have hl4 := hP4.len
  unfold m_N_j4
  simp (disch := omega) only [i64]
  have fin : ∀ (H5 : NP) (w5 : World), DS w0 H5 w5 s l4 → Calls Tryz.prog 165 #[s.v, .int .i64 p, .int .i64 q, .int .i64 pv] w5 (fun e w6 => ∃ r4 : Int, ∃ r5 : Bool, e = .returned (.tuple #[.int .i64 r4, .bool r5]) ∧ Kept H5 w5 w6 ∧
    ∃ z1 : Int, (Go.binOp .quo 3 (.int .i64 ((q : Int) - p)) (.int .i64 8)).run Tryz.prog w6 = .ok (.int .i64 z1) w6 ∧
    Br (decide ((IntKind.i64.wrap (r4 - p)) < (IntKind.i64.wrap (q - r4))))
     (Calls Tryz.prog 154 #[s.v, (.int .i64 p), (.int .i64 r4), (.int .i64 lim3)] w6 (fun e w13 => e = .returned (.tuple #[]) ∧ Kept H5 w6 w13 ∧
      (QInv w0 s l a b (IntKind.i64.wrap (r4 + 1)) q lim3 (decide ((IntKind.i64.wrap (r4 - p)) ≥ z1)) r5 H5 w13 ∧ qmu (IntKind.i64.wrap (r4 + 1)) q lim3 (decide ((IntKind.i64.wrap (r4 - p)) ≥ z1)) r5 w13 < qmu p q lim2 bal part w1)))
     (Calls Tryz.prog 154 #[s.v, (.int .i64 (IntKind.i64.wrap (r4 + 1))), (.int .i64 q), (.int .i64 lim3)] w6 (fun e w14 => e = .returned (.tuple #[]) ∧ Kept H5 w6 w14 ∧
      (QInv w0 s l a b p r4 lim3 (decide ((IntKind.i64.wrap (q - r4)) ≥ z1)) r5 H5 w14 ∧ qmu p r4 lim3 (decide ((IntKind.i64.wrap (q - r4)) ≥ z1)) r5 w14 < qmu p q lim2 bal part w1)))) := by
   intro H5 w5 h5
   refine (c_part s l4 p q pv w5 h5.own.rows (by omega) (by omega) hpv1 hpv2).mono ?_
   rintro _ w6 ⟨r4, r5, rfl, m, rfl, hm1, hm2, hp6⟩
   obtain ⟨hk6, l6, h6, hP6, hPt⟩ := hp6.ds h5
   have hPa := hP4.trans (hP6.mono hp hq)
   have hl6 := hPa.len
   have hO6 := hO4.perm hP6 hp hq
   have hF6 := hF4.perm hP6
   have hsp := hO6.split ordI hPt hm1 hm2 (by omega)
   refine ⟨_, _, rfl, hk6, _, run_quoN (by omega) (by omega) (by omega), ?_⟩
   simp (disch := omega) only [i64]
   refine ⟨fun _ => ?_, fun _ => ?_⟩
   ·refine (ih l6 p m lim3 w6 (by omega) h6.own.rows (by omega) (by omega) hm1 hz0 hz1 (hF6.sub (by omega))).mono ?_
    rintro _ w7 ⟨rfl, hp7⟩
    obtain ⟨hk7, l7, h7, hP7, hS7⟩ := hp7.ds h6
    refine ⟨rfl, hk7, ⟨m + 1, q, l7, by omega, rfl, by omega, by omega, hq, hz0, hz1, h7, hPa.trans (hP7.mono hp (by omega)), ?_, ?_⟩, ?_⟩
    ·intro x y g1 g2 g3 g4
     by_cases e : p ≤ x ∧ y < m
     ·exact hS7 x y e.1 g2 e.2
     ·have hO' : Outer ltI a b p m l6 ∨ True := .inr trivial
      have key : Le ltI l7 x y := by
       intro u v hu hv
       by_cases ex : p ≤ x ∧ x < m
       ·obtain ⟨x', e1, e2, e3⟩ := hP7.mem x u ex.1 ex.2 hu
        rw [hP7.out y (by omega)] at hv
        exact hsp x' y (by omega) (by omega) g3 (by omega) (by omega) u v e3 hv
       ·rw [hP7.out x (by omega)] at hu
        by_cases ey : p ≤ y ∧ y < m
        ·obtain ⟨y', e1, e2, e3⟩ := hP7.mem y v ey.1 ey.2 hv
         exact hsp x y' g1 (by omega) (by omega) (by omega) (by omega) u v hu e3
        ·rw [hP7.out y (by omega)] at hv
         exact hsp x y g1 g2 g3 (by omega) (by omega) u v hu hv
      exact key
    ·intro _ y g1 g2
     rw [show m + 1 - 1 = m by omega]
     exact Le.congr (hP7.out m (by omega)) (hP7.out y (by omega)) (hPt.2 y (by omega) g2)
    ·show ((q : Int) - ((m : Int) + 1)).toNat < ((q : Int) - (p : Int)).toNat
     omega
   ·rw [show ((m : Int) + 1) = ((m + 1 : Nat) : Int) by omega]
    have hF7 : Floor ltI (m + 1) q l6 := fun _ y g1 g2 => by rw [show m + 1 - 1 = m by omega]; exact hPt.2 y (by omega) g2
    refine (ih l6 (m + 1) q lim3 w6 (by omega) h6.own.rows (by omega) (by omega) (by omega) hz0 hz1 hF7).mono ?_
    rintro _ w7 ⟨rfl, hp7⟩
    obtain ⟨hk7, l7, h7, hP7, hS7⟩ := hp7.ds h6
    refine ⟨rfl, hk7, ⟨p, m, l7, rfl, rfl, hp, hm1, by omega, hz0, hz1, h7, hPa.trans (hP7.mono (by omega) hq), ?_, ?_⟩, ?_⟩
    ·intro x y g1 g2 g3 g4 
     by_cases e : m + 1 ≤ x ∧ y < q
     ·exact hS7 x y e.1 g2 e.2
     ·intro u v hu hv
      by_cases ex : m + 1 ≤ x ∧ x < q
      ·obtain ⟨x', e1, e2, e3⟩ := hP7.mem x u ex.1 ex.2 hu
       rw [hP7.out y (by omega)] at hv
       exact hsp x' y (by omega) (by omega) g3 (by omega) (by omega) u v e3 hv
      ·rw [hP7.out x (by omega)] at hu
       by_cases ey : m + 1 ≤ y ∧ y < q
       ·obtain ⟨y', e1, e2, e3⟩ := hP7.mem y v ey.1 ey.2 hv
        exact hsp x y' g1 (by omega) (by omega) (by omega) (by omega) u v hu e3
       ·rw [hP7.out y (by omega)] at hv
        exact hsp x y g1 g2 g3 (by omega) (by omega) u v hu hv
    ·exact fun h0 y g1 g2 => Le.congr (hP7.out (p - 1) (by omega)) (hP7.out y (by omega)) (hF6 h0 y g1 (by omega))
    ·show ((m : Int) - (p : Int)).toNat < ((q : Int) - (p : Int)).toNat
     omega
  refine ⟨fun hc => ?_, fun hc H5 w5 hs5 => fin H5 w5 (h4.hst hs5)⟩
  have hc := of_decide_eq_true hc
  obtain ⟨x, hx⟩ := at_of (l := l4) (i := p - 1) (by omega)
  obtain ⟨y, hy⟩ := at_of (l := l4) (i := pv) (by omega)
  refine h4.two (i := p - 1) (j := pv) (by omega) rfl hx hy ⟨fun hlt H5 w5 hs5 => ?_, fun _ H5 w5 hs5 => fin H5 w5 (h4.hst hs5)⟩
  have hlt := not_lt hlt
  have h5 := h4.hst hs5
  refine (c_partEq s l4 p q pv w5 h5.own.rows (by omega) (by omega) hpv1 hpv2 (fun z g1 g2 u v hu hv => ?_)).mono ?_
  ·rw [hy] at hu; cases hu
   exact ordI.trans _ _ _ hlt (hF4 (by omega) z g1 g2 _ _ hx hv)
  rintro _ w6 ⟨r3, rfl, m, rfl, hm1, hm2, hp6⟩
  obtain ⟨hk6, l6, h6, hP6, hSp⟩ := hp6.ds h5
  have hO6 := hO4.perm hP6 hp hq
  refine ⟨_, rfl, hk6, ⟨m, q, l6, rfl, rfl, by omega, hm2, hq, hz0, hz1, h6, hP4.trans (hP6.mono hp hq), ?_, ?_⟩, ?_⟩
  ·intro u v g1 g2 g3 g4
   by_cases e : u < p ∨ q ≤ u ∨ v < p ∨ q ≤ v
   ·exact hO6 u v g1 g2 g3 e
   ·exact hSp u v (by omega) (by omega) g2 (by omega)
  ·exact fun _ v g1 g2 => hSp (m - 1) v (by omega) (by omega) (by omega) g2
  ·show ((q : Int) - (m : Int)).toNat < ((q : Int) - (p : Int)).toNat
   omega
 have J3 : ∀ (l4 : List Int) (lim3 hint : Int) (pv : Nat) (H : NP) (w : World), 0 ≤ lim3 → lim3 ≤ 64 → p + 12 < q → p ≤ pv → pv < q → DS w0 H w s l4 → PermIn a b l l4 → Outer ltI a b p q l4 → Floor ltI p q l4 →
   m_N_j3 s p q bal part lim3 pv hint w0 H w (fun y'0 y'1 y'2 y'3 y'4 H' w' => QInv w0 s l a b y'0 y'1 y'2 y'3 y'4 H' w' ∧ qmu y'0 y'1 y'2 y'3 y'4 w' < qmu p q lim2 bal part w1) (SP w0 s (fun l' => PermIn a b l l' ∧ SortedIn ltI a b l')) := by
  intro l4 lim3 hint pv H w hz0 hz1 h12 hpv1 hpv2 h4 hP4 hO4 hF4
  have hl4 := hP4.len
  unfold m_N_j3
  refine ⟨fun _ H5 w5 hs5 => ?_, fun _ H5 w5 hs5 => J4 l4 lim3 pv H5 w5 hz0 hz1 h12 hpv1 hpv2 (h4.hst hs5) hP4 hO4 hF4⟩
  have h5 := h4.hst hs5
  refine (c_partial s l4 p q w5 h5.own.rows (by omega) (by omega) (by omega) hF4).mono ?_
  rintro _ w6 ⟨r, rfl, hp6⟩
  obtain ⟨hk6, l6, h6, hP6, hS6⟩ := hp6.ds h5
  have hO6 := hO4.perm hP6 hp hq
  refine ⟨_, rfl, hk6, fun hr => ?_, fun _ => ?_⟩
  ·exact h6.sp ⟨hP4.trans (hP6.mono hp hq), hO6.done (hS6 hr)⟩
  ·exact J4 l6 lim3 pv H5 w6 hz0 hz1 h12 hpv1 hpv2 h6 (hP4.trans (hP6.mono hp hq)) hO6 (hF4.perm hP6)
 have J2 : ∀ (l4 : List Int) (lim3 : Int) (H : NP) (w : World), 0 ≤ lim3 → lim3 ≤ 64 → p + 12 < q → DS w0 H w s l4 → PermIn a b l l4 → Outer ltI a b p q l4 → Floor ltI p q l4 →
   m_N_j2 s p q bal part lim3 w0 H w (fun y'0 y'1 y'2 y'3 y'4 H' w' => QInv w0 s l a b y'0 y'1 y'2 y'3 y'4 H' w' ∧ qmu y'0 y'1 y'2 y'3 y'4 w' < qmu p q lim2 bal part w1) (SP w0 s (fun l' => PermIn a b l l' ∧ SortedIn ltI a b l')) := by
  intro l4 lim3 H w hz0 hz1 h12 h4 hP4 hO4 hF4
  have hl4 := hP4.len
  unfold m_N_j2
  refine (c_pivot s l4 p q w h4.own.rows (by omega) (by omega) h12).mono ?_
  rintro _ w5 ⟨r1, r2, rfl, ⟨pv, rfl, g1, g2⟩, E5⟩
  have h5 := h4.pure E5
  refine ⟨_, _, rfl, E5.keptP, fun _ => ?_, fun _ => J3 l4 lim3 r2 pv H w5 hz0 hz1 h12 g1 g2 h5 hP4 hO4 hF4⟩
  refine (c_rev s l4 p q w5 h5.own.rows (by omega) (by omega) (by omega)).mono ?_
  rintro _ w6 ⟨rfl, hp6⟩
  obtain ⟨hk6, l6, h6, hP6⟩ := hp6.ds h5
  simp (disch := omega) only [i64]
  rw [show ((q : Int) - 1 - ((pv : Int) - (p : Int))) = ((q - 1 - (pv - p) : Nat) : Int) by omega]
  exact ⟨trivial, hk6, J3 l6 lim3 1 _ H w6 hz0 hz1 h12 (by omega) (by omega) h6 (hP4.trans (hP6.mono hp hq)) (hO4.perm hP6 hp hq) (hF4.perm hP6)⟩
 refine ⟨fun _ => ?_, fun hc => ?_⟩
 ·refine (c_isort s l1 p q w1 h1.own.rows (by omega) (by omega) hpq).mono ?_
  rintro _ w2 ⟨rfl, hp2⟩
  obtain ⟨hk2, l2, h2, hP2, hS2⟩ := hp2.ds h1
  exact ⟨rfl, hk2, h2.sp ⟨hP1.trans (hP2.mono hp hq), (hO1.perm hP2 hp hq).done hS2⟩⟩
 ·have hc := of_decide_eq_false hc
  refine ⟨fun _ => ?_, fun hz => ?_⟩
  ·refine (c_heap s l1 p q w1 h1.own.rows (by omega) (by omega) (by omega)).mono ?_
   rintro _ w2 ⟨rfl, hp2⟩
   obtain ⟨hk2, l2, h2, hP2, hS2⟩ := hp2.ds h1
   exact ⟨rfl, hk2, h2.sp ⟨hP1.trans (hP2.mono hp hq), (hO1.perm hP2 hp hq).done hS2⟩⟩
  ·have hz : lim2 ≠ 0 := by simpa using hz
   refine ⟨fun _ => ?_, fun _ => J2 l1 lim2 H1 w1 hm0 hm1 (by omega) h1 hP1 hO1 hF1⟩
   refine (c_break s l1 p q w1 h1.own.rows (by omega) (by omega) (by omega)).mono ?_
   rintro _ w2 ⟨rfl, hp2⟩
   obtain ⟨hk2, l2, h2, hP2⟩ := hp2.ds h1
   simp (disch := omega) only [i64]
   exact ⟨trivial, hk2, J2 l2 (lim2 - 1) H1 w2 (by omega) (by omega) (by omega) h2 (hP1.trans (hP2.mono hp hq)) (hO1.perm hP2 hp hq) (hF1.perm hP2)⟩
theorem c_Sort (s : Sl) (l : List Int) (w0 : World) (h : Rws w0 30 1 s (tmr l)) (hn : l.length ≤ 1000000) :
  Calls Tryz.prog 140 #[s.v] w0 (fun e w' => e = .returned (.tuple #[]) ∧ SP w0 s (fun l' => l'.Perm l ∧ l'.Pairwise (· ≤ ·)) w') := by
 refine w_T3 _ w0 (SP w0 s (fun l' => l'.Perm l ∧ l'.Pairwise (· ≤ ·))) ?_
 unfold m_T3
 have hlen : s.len = l.length := by rw [h.len, tmr_len]
 rw [hlen, IntWalk.u64_in _ (by omega)]
 refine (c_Len l.length w0 hn).mono ?_
 rintro _ w1 ⟨r, rfl, rfl, rfl⟩
 refine ⟨_, rfl, ?_⟩
 have hb : Lib.bitLen l.length ≤ 64 := bitLen_le64 _ (by omega)
 refine (c_pdq s (l.length + 1) l 0 l.length _ w1 (by omega) h (Nat.le_refl _) hn (Nat.zero_le _) (by omega) (by omega) (fun h => by omega)).mono ?_
 rintro _ w2 ⟨rfl, l', h1, h2, hP, hS⟩
 refine ⟨rfl, l', h1, h2, hP.perm, ?_⟩
 rw [List.pairwise_iff_getElem]
 intro i j hi hj hij
 have := hS i j (Nat.zero_le _) hij (by rw [← hP.len]; exact hj) _ _ (List.getElem?_eq_getElem hi) (List.getElem?_eq_getElem hj)
 simp [ltI] at this
 exact this
end Go.Proofs
end
section
open Go Go.SE
namespace Go.Proofs
attribute [local irreducible] Calls
theorem IterC.at' {P : Program} {gf : FuncId} {lb : Array Value} {α : Type} {encs : α → Array Value} {xs : List α} {Rd : WP} {w w1 : World} (h : IterC P gf lb encs xs Rd w) (E : Pure w w1) : IterC P gf lb encs xs Rd w1 :=
 fun l J Jx W hW => h l J Jx W (E.trans hW)
theorem it_Values {S : NP} {pc : Addr} {s : Sl} {xs : List Int} {w0 : World} (hB : Box w0 pc [s.v] 52) (hn : xs.length ≤ 1000000) :
  IterC Tryz.prog 141 #[.pointer (some pc)] (fun z : Int => #[.int .i64 z]) xs (fun A => Lst S A 1 s (tmr xs)) w0 := by
 intro l J Jx W E hRd hJ hJx hyield h0
 refine (w_R1 (.func (.yield l) #[] #[]) pc W (fun A => ∃ X, Hst W X A X A ∧ (J xs X A ∨ ∃ pre, Jx pre X A)) ?_).mono (fun e A h => ⟨⟨_, h.1⟩, h.2⟩)
 unfold m_R1
 refine ⟨s, (hB.pure E).cell0, fun x A => ∃ j : Nat, x = j ∧ j ≤ xs.length ∧ Hst W None A None A ∧ J (xs.take j) None A, fun x _ => ((xs.length : Int) - x).toNat, ⟨0, rfl, Nat.zero_le _, Hst.start W, h0⟩, ?_⟩
 rintro _ A ⟨j, rfl, hj, hA, hJA⟩
 unfold m_R1_l1
 have hR := hRd _ _ _ hJA
 have hlen : s.len = xs.length := by rw [hR.len, tmr_len]
 refine ⟨fun hc => ?_, fun hc => ?_⟩
 ·have hc := lt_of_dec hlen hc
  obtain ⟨a, hat, _, hv⟩ := tm_nth hR hc
  refine ⟨a, hat, _, hv, l, rfl, ?_⟩
  refine (hyield (xs.take j) xs[j] _ A hJA hA ⟨xs.drop (j + 1), by rw [← List.drop_eq_getElem_cons hc, List.take_append_drop]⟩).mono ?_
  rintro e A' (⟨rfl, hk, hJ'⟩ | ⟨rfl, hk, hJ'⟩)
  ·refine ⟨_, rfl, Br.f rfl ⟨⟨j + 1, wrap_succ hc (by omega), hc, hA.again hk, by rw [List.take_succ_eq_append_getElem hc]; exact hJ'⟩, ?_⟩⟩
   rw [wrap_succ hc (by omega)]
   exact lt_dec hc
  ·exact ⟨_, rfl, Br.t rfl ⟨_, hA.again hk, .inr ⟨_, hJ'⟩⟩⟩
 ·have hc := eq_of_dec hlen hj hc
  subst hc
  rw [List.take_length] at hJA
  exact ⟨_, hA, .inl hJA⟩
theorem c_AppendSeq {S : NP} {pc : Addr} {s : Sl} {xs : List Int} (w0 : World) (hB : Box w0 pc [s.v] 52) (hL : Lst S w0 1 s (tmr xs)) (hS : ∀ b, S b → b < w0.heap.size) (hn : xs.length ≤ 1000000) :
  Calls Tryz.prog 153 #[Sl.nil.v, .func (.func 141) #[] #[.pointer (some pc)]] w0 (fun e w' => ∃ r : Sl, e = .returned r.v ∧ RetO w0 30 1 (tmr xs) r w') := by
 refine w_K3 _ _ w0 (fun r w' => RetO w0 30 1 (tmr xs) r w') ?_
 unfold m_K3
 have hnil : ∀ b, ¬ Sl.nil.blk b := fun b hb => by obtain ⟨a, h, _⟩ := hb; cases h
 intro p1 w1 h1
 have E1 : Pure w0 w1 := Ext.new h1
 have s1 := h1.at_size
 have B1 := Box.of_new h1
 have l1 := B1.lt
 refine ⟨_, _, rfl, Tryz.call141, xs, _, IterC.at' (it_Values (S := S) hB hn) E1, ?_⟩
 refine ⟨fun pre Y A => ∃ so : Sl, Box A p1 [so.v] 52 ∧ Rws A 30 1 so (tmr pre) ∧ Lst S A 1 s (tmr xs) ∧ Pure w0 A ∧ (∀ b, so.blk b → w1.heap.size ≤ b ∧ ¬ Y b) ∧ ¬ Y p1.block ∧ w1.heap.size ≤ A.heap.size, ⟨?_, ?_, fun _ _ _ _ _ h => h.elim, fun _ _ _ _ _ h => h.elim⟩, ?_, ?_, ?_⟩
 ·rintro pre Y A ⟨so, _, _, h, _⟩; exact h
 ·rintro pre Y A Y' A' ⟨so, b1, hR, hl, hE, ho, hp, hz⟩ hs
  have d1 : ¬ Y' p1.block := hs.disj (G := (· = p1.block)) (fun b e => by subst e; exact ⟨b1.lt, hp⟩) _ rfl
  have d2 : ∀ b, so.blk b → ¬ Y' b := hs.disj (G := so.blk) (fun b hb => ⟨hR.lt hb, (ho b hb).2⟩)
  exact ⟨so, b1.ext hs.ext d1, hR.ext hs.ext d2, hl.hst hs hS, hE.hst hs, fun b hb => ⟨(ho b hb).1, d2 b hb⟩, d1, Nat.le_trans hz hs.ext.size⟩
 ·exact ⟨Sl.nil, B1, Rws.nil _ _ _, hL.pure E1, E1, fun b hb => (hnil b hb).elim, id, Nat.le_refl _⟩
 ·rintro pre z Y A ⟨so, b1, hR, hl, hE, ho, hp, hz⟩ hsA ⟨post, hpost⟩
  have hpl : pre.length < xs.length := by rw [hpost]; simp
  refine ⟨so, b1.cell0, ?_⟩
  intro p2 w2 h2
  have E2 : Pure A w2 := Ext.new h2
  obtain ⟨s2, w3, hr3, R3, X3, f3⟩ := (hR.pure E2).append (P := Tryz.prog) (ty := 52) (c := 1) slT_tm (r := [.int .i64 z]) (Box.of_new h2).row rfl rfl (by rw [tmr_len]; omega) (by rw [tmr_len]; simp [maxLen]; omega)
  have d1 : ¬ so.blk p1.block := fun hb => by have := (ho _ hb).1; omega
  have b3 := (b1.pure E2).ext X3 d1
  have z2 := E2.size; have z3 := X3.size
  have hk3 : Kept None w2 w3 := X3.kept (fun b hb => hb.elim)
  refine ⟨s2, w3, hr3, hk3, b3.canW0 (by simp), id, fun w4 h4 => ?_⟩
  have E4 : Ext (· = p1.block) w3 w4 := by rw [h4]; exact Ext.setCell p1 _
  have b4 : Box w4 p1 [s2.v] 52 := by rw [h4]; exact b3.set0
  have o2 : ∀ b, s2.blk b → w1.heap.size ≤ b := fun b hb => (f3 b hb).elim (fun h => (ho b h).1) (fun h => by omega)
  have hYlt := hsA.lt
  have XX : Ext (fun b => so.blk b ∨ b = p1.block) A w4 := ((E2.pure).trans (X3.mono (fun b _ h => .inl h))).trans (E4.mono (fun b _ h => .inr h))
  refine ⟨XX.kept (fun b hY hb => hb.elim (fun h => (ho b h).2 hY) (fun h => hp (h ▸ hY))), s2, b4, ?_, ?_, ?_, fun b hb => ⟨o2 b hb, fun hY => (f3 b hb).elim (fun h => (ho b h).2 hY) (fun h => by have := hYlt b hY; omega)⟩, hp, by have := E4.size; omega⟩
  ·rw [show tmr (pre ++ [z]) = tmr pre ++ [[.int .i64 z]] by simp [tmr]]
   exact R3.ext E4 (fun b hb e => by have := o2 b hb; omega)
  ·exact hl.ext XX (fun b hb h => by have := hS b hb; rcases h with h | h; (· have := (ho b h).1; have := E1.size; omega); (· omega))
  ·exact hE.trans' XX (fun i hi hb => by rcases hb with h | h; (· have := (ho i h).1; have := E1.size; omega); (· omega))
 ·rintro H1 w5 hs5 _ _ ⟨so, b1, hR, hl, hE, ho, hp, hz⟩
  refine ⟨so, b1.cell0, fun w6 hs6 => ⟨hR.ext hs6.ext (hs6.disj (G := so.blk) (fun b hb => ⟨hR.lt hb, (ho b hb).2⟩)), fun b hb => by have := (ho b hb).1; have := E1.size; omega, hE.hst hs6⟩⟩
theorem c_SortedV {S : NP} {pc : Addr} {s : Sl} {xs : List Int} (w0 : World) (hB : Box w0 pc [s.v] 52) (hL : Lst S w0 1 s (tmr xs)) (hS : ∀ b, S b → b < w0.heap.size) (hn : xs.length ≤ 1000000) :
  Calls Tryz.prog 98 #[.func (.func 141) #[] #[.pointer (some pc)]] w0 (fun e w' => ∃ r : Sl, e = .returned r.v ∧ ∃ l, RetO w0 30 1 (tmr l) r w' ∧ l.Perm xs ∧ l.Pairwise (· ≤ ·)) := by
 refine w_U3 _ w0 (fun r w' => ∃ l, RetO w0 30 1 (tmr l) r w' ∧ l.Perm xs ∧ l.Pairwise (· ≤ ·)) ?_
 unfold m_U3
 refine (w_L3 _ w0 (fun r w' => RetO w0 30 1 (tmr xs) r w') ?_).mono ?_
 ·unfold m_L3
  refine (c_AppendSeq w0 hB hL hS hn).mono ?_
  rintro _ w1 ⟨r, rfl, hr⟩
  exact ⟨r, rfl, hr⟩
 ·rintro _ w1 ⟨r, rfl, hr⟩
  refine ⟨r, rfl, ?_⟩
  refine (c_Sort r xs w1 hr.rows hn).mono ?_
  rintro _ w2 ⟨rfl, l, hl, hx, hp, hs⟩
  exact ⟨rfl, l, ⟨hl, hr.own, hr.pure.trans' hx (fun i hi hb => by have := hr.own i hb; omega)⟩, hp, hs⟩
theorem c_ded_Seen (k p : Addr) (w0 : World) {G : List Int} {W : List Sp.Way} {F : NP} (h : KnowAt w0 k p G W F) (hn : (Sp.wkeys W).length ≤ 1000000) :
  Calls Tryz.prog 62 #[.pointer (some k)] w0 (fun e w' => ∃ r : Sl, e = .returned r.v ∧ ∃ l, RetO w0 30 1 (tmr l) r w' ∧ l.Perm (Sp.wkeys W) ∧ l.Pairwise (· ≤ ·)) := by
 refine w_L2 _ w0 (fun r w' => ∃ l, RetO w0 30 1 (tmr l) r w' ∧ l.Perm (Sp.wkeys W) ∧ l.Pairwise (· ≤ ·)) ?_
 unfold m_L2
 obtain ⟨sg, m, sl, h, hF⟩ := h
 refine Br.f rfl ⟨k, rfl, sl, h.box.cell rfl, ?_⟩
 refine (w_V3 sl w0 (fun r w' => ∃ p1, r = .func (.func 141) #[] #[.pointer (some p1)] ∧ Box w' p1 [sl.v] 52 ∧ Pure w0 w') ?_).mono ?_
 ·unfold m_V3
  intro p1 w1 h1
  exact ⟨p1, rfl, Box.of_new h1, Ext.new h1⟩
 ·rintro _ w1 ⟨r, rfl, p1, rfl, B1, E1⟩
  refine ⟨_, rfl, ?_⟩
  refine (c_SortedV (S := sl.blk) w1 B1 (h.list.pure E1).lst (fun b hb => (h.list.pure E1).lt hb) hn).mono ?_
  rintro _ w2 ⟨r2, rfl, l, hl, hp, hs⟩
  exact ⟨r2, rfl, l, ⟨hl.rows, fun b hb => by have := hl.own b hb; have := E1.size; omega, E1.trans hl.pure⟩, hp, hs⟩
theorem c_ded_Copy (k p : Addr) (w0 : World) {G : List Int} {W : List Sp.Way} {F : NP} (h : KnowAt w0 k p G W F) (hn : (Sp.wkeys W).length ≤ 1000000) (hg : G.length ≤ 1000000) :
  Calls Tryz.prog 21 #[.pointer (some k)] w0 (fun e w' => ∃ r : Option Addr, e = .returned (.pointer r) ∧ ∃ c F', r = some c ∧ KnowAt w' c p G W F' ∧ Pure w0 w' ∧ ∀ b, F' b → w0.heap.size ≤ b) := by
 refine w_H2 _ w0 (fun r w' => ∃ c F', r = some c ∧ KnowAt w' c p G W F' ∧ Pure w0 w' ∧ ∀ b, F' b → w0.heap.size ≤ b) ?_
 unfold m_H2
 obtain ⟨sg, m, sl, h, hF⟩ := h
 have Ed : Pure w0 w0.drew := Ext.drew w0
 have nilOf : ∀ {w : World} {s : Sl} {rs : List (List Value)}, Rws w 30 1 s rs → s.a = none → s = Sl.nil := fun hR hz => by
  rcases hR.own with ⟨e, _⟩ | ⟨g, cur, ha, _⟩
  ·exact e
  ·rw [ha] at hz; cases hz
 refine Br.f rfl ⟨fun w' => Pure w0 w', Ed, ?_⟩
 rintro _ rfl
 refine ⟨k, rfl, some p, fun w' E => (h.pure E).box.cell0, k, rfl, sg, fun w' E => (h.pure E).box.cell rfl, k, rfl, some m, fun w' E => (h.pure E).box.cell rfl, k, rfl, sl, fun w' E => (h.pure E).box.cell rfl, ?_⟩
 have hd := h.pure Ed
 refine (c_slClone sg G _ hd.giv.lst (nilOf hd.giv) hg).mono ?_
 rintro _ w2 ⟨r1, rfl, hr1⟩
 have E2 := Ed.trans hr1.pure
 refine ⟨r1, rfl, E2, hr1.kept, ?_⟩
 have h2 := h.pure E2
 obtain ⟨arr, clock, hm, g1, g2, g3⟩ := h2.seen.map.ex
 refine (c_mapsClone m arr clock w2 hm).mono ?_
 rintro _ w3 ⟨rfl, rfl⟩
 have N3 : New w2 (.map arr clock) ⟨w2.heap.size, 0, none⟩ (w2.alloc (.map arr clock)) := ⟨rfl, rfl⟩
 have E3' : Pure w2 (w2.alloc (.map arr clock)) := Ext.new N3
 have E3 := E2.trans E3'
 have M3 : IMap wayv (w2.alloc (.map arr clock)) w2.heap.size (wmap W) := ⟨⟨arr, clock, N3.block_new, g1, g2, g3⟩, h2.seen.nd⟩
 refine ⟨some w2.heap.size, rfl, E3, E3'.keptP, ?_⟩
 generalize w2.alloc (.map arr clock) = w3 at *
 have h3 := h.pure E3
 refine (c_slClone sl (Sp.wkeys W) w3 h3.list.lst (nilOf h3.list) hn).mono ?_
 rintro _ w4 ⟨r3, rfl, hr3⟩
 refine ⟨r3, rfl, E3.trans hr3.pure, hr3.kept, ?_⟩
 intro p1 w5 h5
 have E5 : Pure w4 w5 := Ext.new h5
 have n5 := h5.at_size
 have z0 : w0.drew.heap.size = w0.heap.size := rfl
 have z2 := E2.size; have z3 := E3'.size; have z4 := hr3.pure.size; have m3 := M3.lt
 have R1 := hr1.rows.pure (E3'.trans hr3.pure)
 refine ⟨(E3.trans hr3.pure).trans E5, p1, KF p1 r1 w2.heap.size r3, rfl, ⟨r1, w2.heap.size, r3, ⟨Box.of_new h5, R1.pure E5, (M3.pure hr3.pure).pure E5, hr3.rows.pure E5, by omega, fun hb => by have := R1.lt hb; omega, fun hb => by have := hr3.rows.lt hb; omega, fun hb => by have := hr1.rows.lt hb; omega, fun hb => by have := hr3.own _ hb; omega, fun b h1 h2 => by have := hr1.rows.lt h1; have := hr3.own _ h2; omega⟩, fun b => Iff.rfl⟩, (E3.trans hr3.pure).trans E5, ?_⟩
 rintro b (rfl | hb | rfl | hb)
 ·omega
 ·have := hr1.own b hb; omega
 ·omega
 ·have := hr3.own b hb; omega
end Go.Proofs
end
section
open Go Go.SE
namespace Go.Proofs
attribute [local irreducible] wpL wpX opE wpE Calls
end Go.Proofs
end
section
open Go Go.SE
namespace Go.Sp
end Go.Sp
namespace Go.Proofs
attribute [local irreducible] Calls
theorem TreeAt.leaf {S : NP} {w : World} {k f t u : Int} {x : ByteArray} : TreeAt S w Sl.nil (.mk k f t u x []) :=
 .mk k f t u x [] Sl.nil (fun _ => Sl.nil) rfl (by simp) (fun i h => by simp at h) (fun i h => by simp at h)
theorem TreeAt.one {S : NP} {w : World} {k f t u : Int} {x : ByteArray} {p : Addr} {A : Sp.Tree} {sa : Sl} {T : TypeId} (hB : Box w p (trow A sa) T) (hS : S p.block) (hA : TreeAt S w sa A) : TreeAt S w ⟨some p, 1, 1⟩ (.mk k f t u x [A]) := by
 refine .mk k f t u x [A] _ (fun _ => sa) rfl (by simp) (fun i h => ?_) (fun i h => ?_)
 ·have : i = 0 := by simpa using h
  subst this
  exact ⟨p, ⟨by omega, by simp, p, rfl, rfl⟩, hS, hB.row⟩
 ·have : i = 0 := by simpa using h
  subst this
  exact hA
theorem TreeAt.pair {S : NP} {w : World} {k f t u : Int} {x : ByteArray} {p : Addr} {A B : Sp.Tree} {sa sb : Sl} {T : TypeId} (hB : Box w p (trow A sa ++ trow B sb) T) (hS : S p.block) (hA : TreeAt S w sa A) (hB2 : TreeAt S w sb B) : TreeAt S w ⟨some p, 2, 2⟩ (.mk k f t u x [A, B]) := by
 refine .mk k f t u x [A, B] _ (fun i => if i = 0 then sa else sb) rfl (by simp) (fun i h => ?_) (fun i h => ?_)
 ·have : i = 0 ∨ i = 1 := by simp at h; omega
  rcases this with rfl | rfl
  ·refine ⟨p, ⟨by omega, by simp, p, rfl, rfl⟩, hS, fun i hi => ?_⟩
   have := hB.row i (by simp [trow] at hi ⊢; omega)
   have hi' : i < 6 := by simpa [trow] using hi
   rw [this]; exact List.getElem?_append_left (by simp [trow]; omega)
  ·refine ⟨p.add (1 * 6), ⟨by omega, by simp, p, rfl, rfl⟩, by rw [add_block]; exact hS, fun i hi => ?_⟩
   have hi' : i < 6 := by simpa [trow] using hi
   have := hB.row (6 + i) (by simp [trow]; omega)
   rw [add_add, this, List.getElem?_append_right (by simp [trow])]
   simp [trow]
 ·have : i = 0 ∨ i = 1 := by simp at h; omega
  rcases this with rfl | rfl
  ·exact hA
  ·exact hB2
end Go.Proofs
end
section
open Go Go.SE
namespace Go.Proofs
attribute [local irreducible] Calls
end Go.Proofs
end
section
open Go Go.SE
namespace Go.Proofs
attribute [local irreducible] Calls
end Go.Proofs
end
section
open Go Go.SE
namespace Go.Sp
theorem sorted_same {l m : List Int} (hp : l.Perm m) (h1 : l.Pairwise (· ≤ ·)) (h2 : m.Pairwise (· ≤ ·)) : l = m :=
 List.Perm.eq_of_pairwise (fun a b _ _ h1 h2 => Int.le_antisymm h1 h2) h1 h2 hp
theorem Drv.inp {L : Pool} {K : Int → Prop} {t : Int} (h : Drv L K t) (hK : K t → inP L t = true) : inP L t = true := by
 cases hin : inP L t with
 | true => rfl
 | false =>
  have hk : (nodeOf L t).kind = 0 := by unfold nodeOf; rw [get_none hin]; rfl
  cases h with
  | seen h => rw [hK h] at hin; cases hin
  | free h => rw [hk] at h; cases h
  | pair h _ _ => rw [hk] at h; cases h
  | hash h _ => rw [hk] at h; cases h
  | sign h _ _ _ => rw [hk] at h; cases h
end Go.Sp
namespace Go.Proofs
attribute [local irreducible] Calls
theorem c_r08_Add2 (x q : Addr) (t : Int) (w0 : World) {L : Sp.Pool} {G : List Int} {F FR : NP} (h : K8At w0 x q G F) (hP : PoolR w0 q L FR) (hn : G.length ≤ 100000) :
  Calls Tryz.prog 24 #[.pointer (some x), .int .i64 t] w0 (fun e w' => ∃ r : Int, e = .returned (.int .i64 r) ∧ r = (if Sp.inP L t = true then 0 else 51) ∧ ∃ F', K8At w' x q (Sp.giveT L G t) F' ∧ Ext F w0 w' ∧ ∀ b, F' b → F b ∨ w0.heap.size ≤ b) := by
 refine w_I3 _ _ w0 (fun r w' => r = (if Sp.inP L t = true then 0 else 51) ∧ ∃ F', K8At w' x q (Sp.giveT L G t) F' ∧ Ext F w0 w' ∧ ∀ b, F' b → F b ∨ w0.heap.size ≤ b) ?_
 unfold m_I3
 have hA := h
 obtain ⟨sg, h, hF⟩ := h
 refine ⟨x, rfl, _, h.box.cell0, ?_⟩
 refine (c_ref05_In q t w0 hP).mono ?_
 rintro _ w0 ⟨r1, rfl, rfl, rfl⟩
 refine ⟨_, rfl, fun hc => ?_, fun hc => ?_⟩
 ·have hin : Sp.inP L t = false := by simpa using hc
  have : Sp.giveT L G t = G := by unfold Sp.giveT; rw [if_neg (by simp [hin])]
  rw [this]; exact ⟨by rw [if_neg (by simp [hin])], F, hA, Ext.refl _, fun b hb => .inl hb⟩
 have hin : Sp.inP L t = true := by simpa using hc
 have hg : Sp.giveT L G t = Sp.addT G t := by unfold Sp.giveT; rw [if_pos hin]
 rw [hg]
 refine ⟨x, rfl, sg, h.box.cell rfl, ?_⟩
 refine (c_r08_Has sg G t w0 h.giv.lst (by omega)).mono ?_
 rintro _ w0 ⟨r2, rfl, rfl, rfl⟩
 refine ⟨_, rfl, fun hc => ?_, fun hc => ?_⟩
 ·have hnG : t ∉ G := by simpa using hc
  have hadd : Sp.addT G t = G ++ [t] := if_neg hnG
  rw [hadd]
  refine ⟨x, rfl, sg, h.box.cell rfl, ?_⟩
  intro p1 w3 h3
  have E3 : Pure w0 w3 := Ext.new h3
  obtain ⟨s1, w4, hr4, R4, X4, f4⟩ := (h.giv.pure E3).append (P := Tryz.prog) (ty := 52) (c := 1) slT_tm (r := [.int .i64 t]) (Box.of_new h3).row rfl rfl (by rw [tmr_len]; omega) (by rw [tmr_len]; simp [maxLen]; omega)
  have b4 := (h.box.pure E3).ext X4 h.n1
  refine ⟨s1, w4, hr4, x, rfl, b4.canW (by simp), ?_⟩
  rintro _ rfl
  have E5 := Ext.setCell (w := w4) (x.add 1) s1.v
  rw [add_block] at E5
  have f4' : ∀ b, s1.blk b → sg.blk b ∨ w0.heap.size ≤ b := fun b hb => (f4 b hb).imp_right (fun h => by have := E3.size; omega)
  have nx : ¬ s1.blk x.block := fun hh => (f4' _ hh).elim h.n1 (fun hh => by have := h.box.lt; omega)
  refine ⟨by rw [if_pos hin], fun b => b = x.block ∨ s1.blk b, ⟨s1, ⟨b4.set 1 s1.v, by rw [show tmr (G ++ [t]) = tmr G ++ [[.int .i64 t]] by simp [tmr]]; exact R4.ext E5 (fun b hb e => nx (e ▸ hb)), nx⟩, fun b => Iff.rfl⟩, ?_, fun b hb => ?_⟩
  ·exact ((E3.pure (F := F)).trans (X4.mono (fun b _ hb => (hF b).2 (.inr hb)))).trans (E5.mono (fun b _ e => (hF b).2 (.inl e)))
  ·rcases hb with hb | hb
   ·exact .inl ((hF b).2 (.inl hb))
   ·exact (f4' b hb).imp_left (fun h => (hF b).2 (.inr h))
 ·have hG : t ∈ G := by simpa using hc
  have hadd : Sp.addT G t = G := if_pos hG
  rw [hadd]; exact ⟨by rw [if_pos hin], F, hA, Ext.refl _, fun b hb => .inl hb⟩
theorem c_r08_Same {S : NP} (sl sm : Sl) (l m : List Int) (w0 : World) (hl : Lst S w0 1 sl (tmr l)) (hm : Lst S w0 1 sm (tmr m)) (hn : l.length ≤ 1000000) :
  Calls Tryz.prog 63 #[sl.v, sm.v] w0 (fun e w' => ∃ r : Bool, e = .returned (.bool r) ∧ (r = decide (l = m) ∧ Pure w0 w')) := by
 refine w_O1 _ _ w0 (fun r w' => r = decide (l = m) ∧ Pure w0 w') ?_
 unfold m_O1
 have l3 : sl.len = l.length := by rw [hl.len, tmr_len]
 have l4 : sm.len = m.length := by rw [hm.len, tmr_len]
 refine ⟨fun h => ⟨?_, Ext.refl _⟩, fun h => ?_⟩
 ·rw [l3, l4] at h
  symm; rw [decide_eq_false_iff_not]; intro e; subst e; simp at h
 have hlen : l.length = m.length := by
  rw [l3, l4] at h
  have h : (l.length : Int) = m.length := by simpa using h
  omega
 refine ⟨fun i _ w' => ∃ j : Nat, i = j ∧ j ≤ l.length ∧ l.take j = m.take j ∧ Pure w0 w', fun i _ => ((l.length : Int) - i).toNat, ⟨0, rfl, Nat.zero_le _, by simp, Ext.refl _⟩, ?_⟩
 rintro _ Hl wl hsl ⟨j, rfl, hj, hp, E⟩
 unfold m_O1_l1
 refine ⟨fun h => ?_, fun h => ?_⟩
 ·have hlt := lt_of_dec l3 h
  obtain ⟨a, hat, _, hrow⟩ := hl.at_ j (by simpa [tmr] using hlt)
  refine ⟨a, hat, fun w1 hs1 => ?_⟩
  have E1 : Pure w0 w1 := E.hst hs1
  have hc' : w1.cell? a = some (.int .i64 l[j]) := row_cell (by simpa [tmr] using E1.row hrow (fun h => h))
  obtain ⟨b, hbt, _, hb⟩ := tm_nth (hm.pure E1) (by omega : j < m.length)
  refine ⟨_, hc', b, hbt, _, hb, ?_⟩
  refine ⟨fun hne => ⟨?_, E1⟩, fun he => ⟨⟨j + 1, wrap_succ hlt (by omega), hlt, ?_, E1⟩, ?_⟩⟩
  ·symm; rw [decide_eq_false_iff_not]; intro e; subst e; simp at hne
  ·rw [List.take_succ_eq_append_getElem hlt, List.take_succ_eq_append_getElem (by omega : j < m.length), hp]
   have : l[j] = m[j] := by simpa using he
   rw [this]
  ·rw [wrap_succ hlt (by omega)]; exact lt_dec hlt
 ·have hge := eq_of_dec l3 hj h
  subst hge
  rw [List.take_length, hlen, List.take_length] at hp
  exact ⟨by rw [hp]; simp, E⟩
theorem c_r08_Seen (x q : Addr) (w0 : World) {L : Sp.Pool} {G : List Int} {F FR : NP} (h : K8At w0 x q G F) (hP : PoolR w0 q L FR) (hW : Sp.Wf L) (hG : ∀ g ∈ G, Sp.inP L g = true) (hGn : G.length ≤ 100000) :
  Calls Tryz.prog 64 #[.pointer (some x)] w0 (fun e w' => ∃ r : Sl, e = .returned r.v ∧ ∃ l, RetO w0 30 1 (tmr l) r w' ∧ (∀ y, y ∈ l ↔ Sp.inP L y = true ∧ Sp.Seen L G y) ∧ l.Pairwise (· < ·)) := by
 refine w_P1 _ w0 (fun r w' => ∃ l, RetO w0 30 1 (tmr l) r w' ∧ (∀ y, y ∈ l ↔ Sp.inP L y = true ∧ Sp.Seen L G y) ∧ l.Pairwise (· < ·)) ?_
 unfold m_P1
 have hnil : ∀ b, ¬ Sl.nil.blk b := fun b hb => by obtain ⟨a, h, _⟩ := hb; cases h
 have hL := hW.ok.few
 refine (c_r08_seen x q w0 h hP hW hG hGn).mono ?_
 rintro _ w1 ⟨r1, rfl, V, hR, hV⟩
 refine ⟨_, rfl, ?_⟩
 have lr : r1.len = L.length + 1 := by rw [hR.rows.len, brw_len]
 refine ⟨fun l t w' => ∃ (j : Nat) (ls : List Int), t = (j : Int) + 1 ∧ j ≤ L.length ∧ Pure w1 w' ∧ Rws w' 30 1 l (tmr ls) ∧ (∀ b, l.blk b → w1.heap.size ≤ b) ∧ (∀ y, y ∈ ls ↔ (1 ≤ y ∧ y ≤ j) ∧ V y = true) ∧ ls.Pairwise (· < ·) ∧ ls.length ≤ j, fun _ t _ => ((L.length : Int) + 1 - t).toNat,
  ⟨0, [], by omega, Nat.zero_le _, Ext.refl _, Rws.nil _ _ _, fun b hb => (hnil b hb).elim, fun y => ⟨fun h => by (cases h), fun h => by omega⟩, List.Pairwise.nil, Nat.le_refl _⟩, ?_⟩
 rintro l _ wl ⟨j, ls, rfl, hj, E, hl, hln, hm, hpw, hlen⟩
 unfold m_P1_l1
 rw [lr]
 refine ⟨fun hc => ?_, fun hc => ?_⟩
 ·have hc := of_decide_eq_true hc
  have hj' : j < L.length := by omega
  have hw : IntKind.i64.wrap ((j : Int) + 1 + 1) = ((j + 1 : Nat) : Int) + 1 := by rw [IntWalk.i64_in _ (by omega)]; omega
  obtain ⟨a, hat, _, hv⟩ := brw_get (hR.rows.pure E) (t := (j : Int) + 1) (by omega) (by omega)
  refine ⟨a, hat, _, hv, fun ht => ?_, fun hf => ?_⟩
  ·intro p1 w2 h2
   have E2 : Pure wl w2 := Ext.new h2
   obtain ⟨s1, w3, hr3, R3, X3, f3⟩ := (hl.pure E2).append (P := Tryz.prog) (ty := 52) (c := 1) slT_tm (r := [.int .i64 ((j : Int) + 1)]) (Box.of_new h2).row rfl rfl (by rw [tmr_len]; omega) (by rw [tmr_len]; simp [maxLen]; omega)
   refine ⟨s1, w3, hr3, ?_⟩
   rw [hw]
   refine ⟨⟨j + 1, ls ++ [(j : Int) + 1], rfl, hj', (E.trans E2).trans' X3 (fun i hi hb => by have := hln i hb; omega), by rw [show tmr (ls ++ [(j : Int) + 1]) = tmr ls ++ [[.int .i64 ((j : Int) + 1)]] by simp [tmr]]; exact R3, fun b hb => (f3 b hb).elim (hln b) (fun h => by have := (E.trans E2).size; omega), fun y => ?_, ?_, by simp; omega⟩, by show ((L.length : Int) + 1 - (((j + 1 : Nat) : Int) + 1)).toNat < ((L.length : Int) + 1 - ((j : Int) + 1)).toNat; omega⟩
   ·rw [List.mem_append, hm, List.mem_singleton]
    constructor
    ·rintro (⟨h1, h2⟩ | rfl)
     ·exact ⟨by omega, h2⟩
     ·exact ⟨by omega, ht⟩
    ·rintro ⟨h1, h2⟩
     by_cases e : y = (j : Int) + 1
     ·exact .inr e
     ·exact .inl ⟨by omega, h2⟩
   ·rw [List.pairwise_append]
    exact ⟨hpw, by simp, fun a ha b hb => by simp at hb; have := ((hm a).1 ha).1; omega⟩
  ·rw [hw]
   refine ⟨⟨j + 1, ls, rfl, hj', E, hl, hln, fun y => ?_, hpw, by omega⟩, by show ((L.length : Int) + 1 - (((j + 1 : Nat) : Int) + 1)).toNat < ((L.length : Int) + 1 - ((j : Int) + 1)).toNat; omega⟩
   rw [hm]
   constructor
   ·rintro ⟨h1, h2⟩; exact ⟨by omega, h2⟩
   ·rintro ⟨h1, h2⟩
    by_cases e : y = (j : Int) + 1
    ·subst e; rw [h2] at hf; cases hf
    ·exact ⟨by omega, h2⟩
 ·have hc := of_decide_eq_false hc
  have hj' : j = L.length := by omega
  subst hj'
  refine ⟨ls, ⟨hl, fun b hb => by have := hln b hb; have := hR.pure.size; omega, hR.pure.trans E⟩, fun y => ?_, hpw⟩
  rw [hm, ← Sp.inP_iff]
  exact and_congr_right fun hy => hV y hy
end Go.Proofs
end
section
open Go Go.SE
namespace Go.SE
theorem Lst.weak {S S' : NP} {w : World} {sz : Nat} {s : Sl} {rs : List (List Value)} (h : Lst S w sz s rs) (hd : ∀ b, S b → S' b) : Lst S' w sz s rs := ⟨h.len, fun i hi => let ⟨a, h1, h2, h3⟩ := h.at_ i hi; ⟨a, h1, hd _ h2, h3⟩⟩
end Go.SE
namespace Go.Proofs
attribute [local irreducible] Calls
theorem own_put {w : World} {s : Sl} {rs : List Int} (h : Rws w 30 1 s (tmr rs)) {j : Nat} (hj : j < rs.length) (v : Int) :
  ∃ a, At s j 1 a ∧ s.blk a.block ∧ CanW w a ∧ ∀ w', w' = w.setCell a (.int .i64 v) → Rws w' 30 1 s (tmr (rs.set j v)) ∧ Ext s.blk w w' := by
 have D : DS w None w s rs := ⟨⟨h, fun _ _ h => h⟩, Ext.refl _⟩
 obtain ⟨a, h1, h2, _, h4⟩ := D.put rfl hj v
 obtain ⟨_, _, b, hb, e⟩ := id h1
 exact ⟨a, h1, ⟨b, hb, by rw [e, add_block]⟩, h2, fun w' hw' => ⟨(h4 w' hw').own.rows, (h4 w' hw').ext⟩⟩
theorem c_law08_tells (k p x q : Addr) (w0 : World) {L : Sp.Pool} {G : List Int} {S : List Sp.Way} {F FP FX FR : NP} (hW : Sp.Wf L) (hk : Sp.KnowOk L G S) (h : KnowAt w0 k p G S F) (hP : PoolAt w0 p L FP) (hx : K8At w0 x q G FX) (hR : PoolR w0 q L FR) :
  Calls Tryz.prog 25 #[.pointer (some k), .pointer (some x)] w0 (fun e w' => ∃ r : Bool, e = .returned (.bool r) ∧ (r = true ∧ Pure w0 w')) := by
 refine w_H _ _ w0 (fun r w' => r = true ∧ Pure w0 w') ?_
 unfold m_H
 have hL := hW.ok.few
 have hG : ∀ g ∈ G, Sp.inP L g = true := fun g hg => hk.inp g (hk.giv g hg)
 have hGn : G.length ≤ L.length := Sp.pool_few hk.gnd hG
 have hSn : (Sp.wkeys S).length ≤ L.length := Sp.pool_few hk.nodup hk.inp
 have hseen : ∀ t, t ∈ Sp.wkeys S ↔ Sp.Seen L G t := hk.seen_iff
 have hfun : (fun t => t ∈ Sp.wkeys S) = Sp.Seen L G := funext fun t => propext (hseen t)
 refine (c_ded_Given k p w0 h (by omega)).mono ?_
 rintro _ w1 ⟨r1, rfl, hr1⟩
 refine ⟨r1, rfl, hr1.kept, ?_⟩
 have E1 := hr1.pure
 refine (c_ded_Seen k p w1 (h.pure E1) (by omega)).mono ?_
 rintro _ w2 ⟨r2, rfl, l, hr2, hl1, hl2⟩
 refine ⟨r2, rfl, hr2.kept, ?_⟩
 have E2 := E1.trans hr2.pure
 obtain ⟨sg, hxs, hFX⟩ := id hx
 refine ⟨x, rfl, sg, (hxs.box.pure E2).cell rfl, ?_⟩
 refine (c_r08_Same (S := fun _ => True) r1 sg G G w2 ((hr1.rows.pure hr2.pure).lst.weak (fun _ _ => trivial)) ((hxs.giv.pure E2).lst.weak (fun _ _ => trivial)) (by omega)).mono ?_
 rintro _ w17 ⟨r10, rfl, hr10, E17'⟩
 rw [decide_eq_true rfl] at hr10
 subst hr10
 have E17 := E2.trans E17'
 refine ⟨_, rfl, E17'.keptP, Br.f rfl ?_⟩
 refine (c_r08_Seen x q w17 (hx.pure E17) (hR.pure E17) hW hG (by omega)).mono ?_
 rintro _ w18 ⟨r11, rfl, l', hr11, hm', hp'⟩
 have E18 := E17.trans hr11.pure
 refine ⟨r11, rfl, hr11.kept, ?_⟩
 have hnd' : l'.Nodup := hp'.imp (fun h => by omega)
 have hle' : l'.Pairwise (· ≤ ·) := hp'.imp (fun h => by omega)
 have hll : l = l' := by
  refine Sp.sorted_same (hl1.trans ?_) hl2 hle'
  rw [List.perm_ext_iff_of_nodup hk.nodup hnd']
  intro y
  rw [hm', hseen]
  exact ⟨fun h => ⟨hk.inp y ((hseen y).2 h), h⟩, fun h => h.2⟩
 subst hll
 have hln : l.length ≤ L.length := by rw [hl1.length_eq]; exact hSn
 refine (c_r08_Same (S := fun _ => True) r2 r11 l l w18 (((hr2.rows.pure E17').pure hr11.pure).lst.weak (fun _ _ => trivial)) (hr11.rows.lst.weak (fun _ _ => trivial)) (by omega)).mono ?_
 rintro _ w19 ⟨r12, rfl, hr12, E19'⟩
 rw [decide_eq_true rfl] at hr12
 subst hr12
 refine ⟨_, rfl, E19'.keptP, ?_⟩
 have E19 := E18.trans E19'
 unfold m_H_j1
 refine Br.f rfl ?_
 have R1 : Rws w19 30 1 r1 (tmr G) := (((hr1.rows.pure hr2.pure).pure E17').pure hr11.pure).pure E19'
 have R2 : Rws w19 30 1 r2 (tmr l) := ((hr2.rows.pure E17').pure hr11.pure).pure E19'
 have d12 : ∀ b, r1.blk b → ¬ r2.blk b := fun b h1 h2 => by have := hr1.rows.lt h1; have := hr2.own b h2; omega
 have n2 : ∀ b, r2.blk b → w0.heap.size ≤ b := fun b hb => by have := hr2.own b hb; have := E1.size; omega
 refine ⟨fun i H w' => ∃ (j : Nat) (rs : List Int), i = j ∧ j ≤ G.length ∧ (∀ b, ¬ H b) ∧ Pure w0 w' ∧ Rws w' 30 1 r1 (tmr rs) ∧ rs.length = G.length ∧ Rws w' 30 1 r2 (tmr l), fun i _ => ((G.length : Int) - i).toNat,
  ⟨0, G, rfl, Nat.zero_le _, fun b h => h, E19, R1, rfl, R2⟩, ?_⟩
 rintro _ H1 wa hsa ⟨j, rs, rfl, hj, hH1, Ea, Ra, hrs, R2a⟩
 unfold m_H_l2
 have lr1 : r1.len = G.length := by rw [hr1.rows.len, tmr_len]
 have lr2 : r2.len = l.length := by rw [hr2.rows.len, tmr_len]
 refine ⟨fun hc => ?_, fun hc => ?_⟩
 ·have hlt := lt_of_dec lr1 hc
  obtain ⟨a, a1, a2, a3, a4⟩ := own_put Ra (j := j) (by omega) (-9)
  refine ⟨a, a1, a3, fun hh => hH1 _ hh, fun w3 hw3 => ?_⟩
  obtain ⟨g1, g2⟩ := a4 w3 hw3
  rw [wrap_succ hlt (by omega)]
  exact ⟨⟨j + 1, _, rfl, hlt, hH1, Ea.trans' g2 (fun i hi hb => by have := hr1.own i hb; omega), g1, by simpa using hrs, R2a.ext g2 (fun b hb hh => d12 b hh hb)⟩, lt_dec hlt⟩
 refine ⟨fun i H w' => ∃ (j : Nat) (rs : List Int), i = j ∧ j ≤ l.length ∧ (∀ b, ¬ H b) ∧ Pure w0 w' ∧ Rws w' 30 1 r2 (tmr rs) ∧ rs.length = l.length, fun i _ => ((l.length : Int) - i).toNat,
  ⟨0, l, rfl, Nat.zero_le _, hH1, Ea, R2a, rfl⟩, ?_⟩
 rintro _ H2 wb hsb ⟨j2, rs2, rfl, hj2, hH2, Eb, Rb, hrs2⟩
 unfold m_H_l3
 refine ⟨fun hc2 => ?_, fun hc2 => ?_⟩
 ·have hlt := lt_of_dec lr2 hc2
  obtain ⟨a, a1, a2, a3, a4⟩ := own_put Rb (j := j2) (by omega) (-9)
  refine ⟨a, a1, a3, fun hh => hH2 _ hh, fun w3 hw3 => ?_⟩
  obtain ⟨g1, g2⟩ := a4 w3 hw3
  rw [wrap_succ hlt (by omega)]
  exact ⟨⟨j2 + 1, _, rfl, hlt, hH2, Eb.trans' g2 (fun i hi hb => by have := n2 i hb; omega), g1, by simpa using hrs2⟩, lt_dec hlt⟩
 refine (c_r08_Derived x q wb (hx.pure Eb) (hR.pure Eb) hW hG (by omega)).mono ?_
 rintro _ w5 ⟨r3, rfl, D, hD, hDs⟩
 refine ⟨r3, rfl, hD.kept, ?_⟩
 have E5 := Eb.trans hD.pure
 have lr3 : r3.len = L.length + 1 := by rw [hD.rows.len, brw_len]
 refine ⟨fun t H w' => ∃ j : Nat, t = (j : Int) - 1 ∧ j ≤ L.length + 3 ∧ Pure w0 w' ∧ Own H w' 4 1 r3 (brw (L.length + 1) D), fun t _ => ((L.length : Int) + 2 - t).toNat, ⟨0, by omega, by omega, E5, ⟨hD.rows, fun b hb hh => hH2 b hh⟩⟩, ?_⟩
 rintro _ H3 wl hsl ⟨j3, rfl, hj3, El, O3⟩
 unfold m_H_l4
 obtain ⟨v1, v2, v3, hbx, _⟩ := id hR
 have lv1 : v1.len = L.length := by rw [hbx.r1.len]; simp
 refine ⟨x, rfl, some q, (hxs.box.pure El).cell0, q, rfl, v1, (hbx.box.pure El).cell0, ?_⟩
 rw [lv1, IntWalk.i64_in _ (by omega)]
 refine ⟨fun hc3 H4 w7 hs7 => ?_, fun hc3 => ?_⟩
 ·have hc3 := of_decide_eq_true hc3
  have E7 := El.hst hs7
  have O7 := O3.hst hs7
  have hw : IntKind.i64.wrap (((j3 : Int) - 1) + 1) = ((j3 + 1 : Nat) : Int) - 1 := by rw [IntWalk.i64_in _ (by omega)]; omega
  generalize ht : (j3 : Int) - 1 = t at *
  refine (c_ded_Derives k p t w7 hW hk (h.pure E7) (hP.pure E7)).mono ?_
  rintro _ w9 ⟨r4, rfl, hr4, E9'⟩
  have E9 := E7.trans E9'
  refine ⟨r4, rfl, E9'.keptP, ?_⟩
  have O9 := O7.pure E9'
  rw [hfun] at hr4
  have rest : ∀ (x3 : Bool) , (x3 = true ↔ Sp.Drv L (Sp.Seen L G) t) → m_H_j5 (some k) (some x) r3 t r4 x3 w0 H4 w9 (fun y0 H' w' => (∃ j : Nat, y0 = (j : Int) - 1 ∧ j ≤ L.length + 3 ∧ Pure w0 w' ∧ Own H' w' 4 1 r3 (brw (L.length + 1) D)) ∧ ((L.length : Int) + 2 - y0).toNat < ((L.length : Int) + 2 - t).toNat) (fun r w' => r = true ∧ Pure w0 w') := by
   intro x3 hx3
   have e43 : r4 = x3 := Bool.eq_iff_iff.2 (hr4.trans hx3.symm)
   unfold m_H_j5
   refine Br.f (by rw [e43]; simp) ?_
   refine (c_ded_Sees k p t w9 (h.pure E9)).mono ?_
   rintro _ w10 ⟨r5, rfl, hr5, E10'⟩
   have E10 := E9.trans E10'
   refine ⟨r5, rfl, E10'.keptP, ?_⟩
   have O10 := O9.pure E10'
   have last : ∀ (x4 : Bool) (w : World), x4 = decide (t ∈ Sp.wkeys S) → Pure w0 w → Own H4 w 4 1 r3 (brw (L.length + 1) D) → Hst w0 H4 w H4 w → m_H_j6 t r4 x3 r5 x4 w0 H4 w (fun y0 H' w' => (∃ j : Nat, y0 = (j : Int) - 1 ∧ j ≤ L.length + 3 ∧ Pure w0 w' ∧ Own H' w' 4 1 r3 (brw (L.length + 1) D)) ∧ ((L.length : Int) + 2 - y0).toNat < ((L.length : Int) + 2 - t).toNat) (fun r w' => r = true ∧ Pure w0 w') := by
    intro x4 w hx4 E O hs
    unfold m_H_j6
    refine Br.f (by rw [e43, hr5, hx4]; simp) (fun H5 w11 hs11 => ?_)
    rw [hw]
    exact ⟨⟨j3 + 1, rfl, by omega, E.hst hs11, O.hst hs11⟩, by omega⟩
   have hs10 : Hst w0 H4 w10 H4 w10 := (hs7.here.again E9'.keptP).again E10'.keptP
   rw [lr3]
   refine ⟨fun hin => ?_, fun hout => ?_⟩
   ·refine (c_r08_Seen x q w10 (hx.pure E10) (hR.pure E10) hW hG (by omega)).mono ?_
    rintro _ w12 ⟨r6, rfl, l6, hr6, hm6, hp6⟩
    refine ⟨r6, rfl, hr6.kept, ?_⟩
    have hl6 : l6.length ≤ L.length := Sp.pool_few (hp6.imp (fun h => by omega)) (fun y hy => ((hm6 y).1 hy).1)
    refine (c_r08_Has r6 l6 t w12 hr6.rows.lst (by omega)).mono ?_
    rintro _ w13 ⟨r7, rfl, hr7, rfl⟩
    refine ⟨r7, rfl, Kept.refl _, ?_⟩
    refine last r7 _ ?_ (E10.trans hr6.pure) (O10.pure hr6.pure) (hs10.again hr6.kept)
    rw [hr7]
    have : t ∈ l6 ↔ t ∈ Sp.wkeys S := by rw [hm6, hseen]; exact ⟨fun h => h.2, fun h => ⟨hk.inp t ((hseen t).2 h), h⟩⟩
    exact decide_eq_decide.2 this
   ·refine last false _ ?_ E10 O10 hs10
    symm; rw [decide_eq_false_iff_not]
    intro hmem
    have := Sp.inP_iff.1 (hk.inp t hmem)
    rw [Bool.and_eq_false_iff] at hout
    rcases hout with h | h <;> (have := of_decide_eq_false h; omega)
  rw [lr3]
  refine ⟨fun hin => ?_, fun hout => ?_⟩
  ·rw [Bool.and_eq_true] at hin
   have i1 := of_decide_eq_true hin.1
   have i2 := of_decide_eq_true hin.2
   obtain ⟨a, hat, _, hv⟩ := brw_get O9.rows (t := t) (by omega) (by omega)
   refine ⟨a, hat, _, hv, rest _ (hDs t (Sp.inP_iff.2 ⟨by omega, by omega⟩))⟩
  ·refine rest false ⟨fun h => by (cases h), fun hd => ?_⟩
   have := Sp.inP_iff.1 (hd.inp (fun h => hk.inp t ((hseen t).2 h)))
   rw [Bool.and_eq_false_iff] at hout
   rcases hout with h | h <;> (have := of_decide_eq_false h; omega)
 ·have Ed : Pure wl wl.drew := Ext.drew wl
  refine ⟨fun w' => Pure w0 w', El.trans Ed, ?_⟩
  rintro _ rfl
  refine ⟨x, rfl, sg, fun w' hw' => (hxs.box.pure hw').cell rfl, ?_⟩
  have E14 := El.trans Ed
  refine (c_ded_Given k p _ (h.pure E14) (by omega)).mono ?_
  rintro _ w15 ⟨r8, rfl, hr8⟩
  refine ⟨r8, rfl, E14.trans hr8.pure, hr8.kept, ?_⟩
  have E15 := E14.trans hr8.pure
  refine (c_r08_Same (S := fun _ => True) r8 sg G G w15 (hr8.rows.lst.weak (fun _ _ => trivial)) ((hxs.giv.pure E15).lst.weak (fun _ _ => trivial)) (by omega)).mono ?_
  rintro _ w16 ⟨r9, rfl, hr9, E16'⟩
  rw [decide_eq_true rfl] at hr9
  exact ⟨r9, rfl, E15.trans E16', E16'.keptP, hr9, E15.trans E16'⟩
end Go.Proofs
end
section
open Go Go.SE
namespace Go.Proofs
attribute [local irreducible] Calls
structure PlyAt (w0 : World) (H : NP) (w : World) (p q k x : Addr) (L : Sp.Pool) (G : List Int) (S : List Sp.Way) (FP FR F FX : NP) : Prop where
 pool : PoolAt w p L FP
 ref : PoolR w q L FR
 know : KnowAt w k p G S F
 doc : K8At w x q G FX
 ok : Sp.KnowOk L G S
 d1 : ∀ b, F b → ¬ FP b ∧ ¬ FR b ∧ ¬ FX b
 d2 : ∀ b, FX b → ¬ FP b ∧ ¬ FR b
 new : ∀ b, F b ∨ FX b → w0.heap.size ≤ b ∧ ¬ H b
 pure : Pure w0 w
theorem PlyAt.pureE {w0 w w' : World} {H : NP} {p q k x : Addr} {L : Sp.Pool} {G : List Int} {S : List Sp.Way} {FP FR F FX : NP} (h : PlyAt w0 H w p q k x L G S FP FR F FX) (E : Pure w w') : PlyAt w0 H w' p q k x L G S FP FR F FX :=
 ⟨h.pool.pure E, h.ref.pure E, h.know.pure E, h.doc.pure E, h.ok, h.d1, h.d2, h.new, h.pure.trans E⟩
theorem c_law08_DeducePlays {S0 Sg : NP} (ts : List Sp.Tree) (more : List Int) (sT sm : Sl) (w0 : World) (hT : TreeAt S0 w0 sT (.mk 0 0 0 0 ⟨#[]⟩ ts)) (hS : ∀ b, S0 b → b < w0.heap.size) (hm : Lst Sg w0 1 sm (tmr more)) :
  Calls Tryz.prog 4 #[sT.v, sm.v] w0 (fun e w' => ∃ r : Bool, e = .returned (.bool r) ∧ (r = true ∧ Pure w0 w')) := by
 refine w_U _ _ w0 (fun r w' => r = true ∧ Pure w0 w') ?_
 unfold m_U
 have hnil : ∀ b, ¬ Sl.nil.blk b := fun b hb => by obtain ⟨a, h, _⟩ := hb; cases h
 have live : ∀ (H : NP) (w : World), Pure w0 w → Calls Tryz.prog 18 #[] w (fun e w' => ∃ r : Bool, e = .returned (.bool r) ∧ Kept H w w' ∧ (r = true ∧ Pure w0 w')) := fun H w E => by
  refine (c_live8 w).mono ?_
  rintro _ w' ⟨r, rfl, hr, E'⟩
  exact ⟨_, rfl, E'.keptP, hr, E.trans E'⟩
 refine (c_law08_wide ts sT w0 hT hS).mono ?_
 rintro _ w20 ⟨r15, rfl, hwd, E20⟩
 refine ⟨_, rfl, E20.keptP, fun H1 w21 hs21 => ?_⟩
 have E21 : Pure w0 w21 := E20.hst hs21
 have lm : sm.len = more.length := by rw [hm.len, tmr_len]
 unfold m_U_j1
 refine ⟨fun _ => live _ _ E21, fun hno => ?_⟩
 rw [Bool.or_eq_false_iff] at hno
 obtain ⟨hn1, hn2⟩ := hwd hno.1
 have hmn : more.length ≤ 20 := by have := of_decide_eq_false hno.2; omega
 refine (c_law08_pools ts sT w21 (hT.pure E21) (fun b hb => by have := hS b hb; have := E21.size; omega) hn1).mono ?_
 obtain ⟨hW, hlen, hids⟩ := Sp.poolAll_ok ts
 generalize Sp.poolAll ts = Q at *
 obtain ⟨L, ids⟩ := Q
 simp only at hW hlen hids ⊢
 rintro _ w2 ⟨_, _, r4, _, rfl, p, q, FP, FR, rfl, rfl, rfl, P2⟩
 refine ⟨_, _, r4, _, rfl, P2.pure.keptP, Br.f rfl ?_⟩
 have hH1 : ∀ b, H1 b → b < w21.heap.size := hs21.lt
 have z21 := P2.pure.size
 have E2 : Pure w0 w2 := E21.trans P2.pure
 refine (c_ded_New p w2).mono ?_
 rintro _ w3 ⟨_, rfl, k, F, rfl, hk3, E3, hF3⟩
 refine ⟨_, rfl, E3.keptP, fun p1 w4 h4 => Br.f rfl ?_⟩
 have E4 : Pure w3 w4 := Ext.new h4
 have n4 := h4.at_size
 have z3 := E3.size; have z4 := E4.size
 intro p2 w5 h5
 have E24 : Pure w2 w4 := E3.trans E4
 have R4 := P2.ts.pure E24
 obtain ⟨s1, w6, hr6, R6, E6, hk6, b6⟩ := copied (P := Tryz.prog) (ty := 52) slT_tm h5 R4.lst (tmr_sz ids) (tmr_one ids) (by rw [tmr_len]; omega) (by rw [tmr_len]; simp only [maxLen]; omega) (H := H1) (fun b hb => by have := hH1 b hb; omega)
 refine ⟨s1, w6, hr6, hk6, ?_⟩
 have E06 : Pure w0 w6 := (E2.trans E24).trans E6
 obtain ⟨s2, w7, hr7, R7, X7, b7⟩ := R6.appendL (P := Tryz.prog) (ty := 52) slT_tm (hm.pure E06) (tmr_sz more) (tmr_one more) (by rw [tmr_len, tmr_len]; omega) (by rw [tmr_len, tmr_len]; simp only [maxLen]; omega)
 have z6 := E6.size
 have E47 : Pure w4 w7 := E6.trans' X7 (fun i hi hb => by have := b6 i hb; omega)
 refine ⟨s2, w7, hr7, X7.kept (fun b hb hh => by have := b6 b hh; have := hH1 b hb; omega), ?_⟩
 have b7' : ∀ b, s2.blk b → w4.heap.size ≤ b := fun b hb => (b7 b hb).elim (b6 b) (fun h => by omega)
 have e7 : tmr ids ++ tmr more = tmr (ids ++ more) := by simp [tmr]
 rw [e7] at R7
 have l2 : s2.len = (ids ++ more).length := by rw [R7.len, tmr_len]
 have hgn : (ids ++ more).length ≤ 32 := by rw [List.length_append]; omega
 generalize ids ++ more = give at *
 have A4 : PlyAt w0 H1 w4 p q k p1 L [] [] FP FR F (fun b => b = p1.block ∨ Sl.nil.blk b) := by
  refine ⟨P2.pool.pure E24, P2.ref.pure E24, hk3.pure E4, ⟨Sl.nil, ⟨Box.of_new h4, Rws.nil _ _ _, hnil _⟩, fun b => Iff.rfl⟩, Sp.KnowOk.nil L, fun b hb => ⟨fun h => ?_, fun h => ?_, fun h => ?_⟩, fun b hb => ⟨fun h => ?_, fun h => ?_⟩, fun b hb => ?_, E2.trans E24⟩
  ·have := hF3 b hb; have := P2.pool.lt h; omega
  ·have := hF3 b hb; have := P2.ref.lt h; omega
  ·rcases h with rfl | h
   ·have := hk3.lt hb; omega
   ·exact hnil b h
  ·rcases hb with rfl | hb
   ·have := P2.pool.lt h; omega
   ·exact hnil b hb
  ·rcases hb with rfl | hb
   ·have := P2.ref.lt h; omega
   ·exact hnil b hb
  ·have zz := E2.size
   rcases hb with hb | rfl | hb
   ·have := hF3 b hb; exact ⟨by omega, fun hh => by have := hH1 b hh; omega⟩
   ·exact ⟨by omega, fun hh => by have := hH1 _ hh; omega⟩
   ·exact (hnil b hb).elim
 have A7 := A4.pureE E47
 have hcF : ∀ b, F b ∨ (b = p1.block ∨ Sl.nil.blk b) → b < w4.heap.size := fun b hb => by
  rcases hb with hb | rfl | hb
  ·have := hk3.lt hb; omega
  ·exact (Box.of_new h4).lt
  ·exact (hnil b hb).elim
 refine ⟨fun i H w' => ∃ (j : Nat) (G : List Int) (S : List Sp.Way) (F FX : NP), i = j ∧ j ≤ give.length ∧ PlyAt w0 H w' p q k p1 L G S FP FR F FX ∧ Rws w' 30 1 s2 (tmr give) ∧ ∀ b, s2.blk b → ¬ F b ∧ ¬ FX b, fun i _ => ((give.length : Int) - i).toNat,
  ⟨0, [], [], F, _, rfl, Nat.zero_le _, A7, R7, fun b hb => ⟨fun h => by have := hcF b (.inl h); have := b7' b hb; omega, fun h => by have := hcF b (.inr h); have := b7' b hb; omega⟩⟩, ?_⟩
 rintro _ Hl wl hsl ⟨j, G, S, F, FX, rfl, hj, A, R2, hd⟩
 have hL := hW.ok.few
 have hGi : ∀ {G S}, Sp.KnowOk L G S → ∀ g ∈ G, Sp.inP L g = true := fun hk g hg => hk.inp g (hk.giv g hg)
 have hGn : G.length ≤ L.length := Sp.pool_few A.ok.gnd (hGi A.ok)
 have hSn : (Sp.wkeys S).length ≤ L.length := Sp.pool_few A.ok.nodup A.ok.inp
 unfold m_U_l2
 refine ⟨fun hc => ?_, fun hc => ?_⟩
 ·have hlt := lt_of_dec l2 hc
  refine (c_ded_Copy k p wl A.know (by omega) (by omega)).mono ?_
  rintro _ w8 ⟨_, rfl, c, Fc, rfl, hc8, E8, hFc⟩
  refine ⟨_, rfl, E8.keptP, ?_⟩
  intro p3 w9 h9
  have A8 := A.pureE E8
  obtain ⟨sg, hx8, hFX8⟩ := id A8.doc
  have E9 : Pure w8 w9 := Ext.new h9
  refine ⟨sg, (hx8.box.pure E9).cell rfl, ?_⟩
  have hlH : ∀ b, Hl b → b < w8.heap.size := fun b hb => by have := hsl.lt b hb; have := E8.size; omega
  obtain ⟨s3, w10, hr10, R10, E10, hk10, b10⟩ := copied (P := Tryz.prog) (ty := 52) slT_tm h9 hx8.giv.lst (tmr_sz G) (tmr_one G) (by rw [tmr_len]; omega) (by rw [tmr_len]; simp only [maxLen]; omega) (H := Hl) hlH
  refine ⟨s3, w10, hr10, hk10, ?_⟩
  intro p4 w11 h11
  have n11 := h11.at_size
  have E11 : Pure w10 w11 := Ext.new h11
  have Ed : Pure w11 w11.drew := Ext.drew w11
  have X12 : Pure w8 w11.drew := (E10.trans E11).trans Ed
  have z8 := E8.size; have z10 := E10.size; have z11 := E11.size
  have zd : w11.drew.heap.size = w11.heap.size := rfl
  have Y12 : K8At w11.drew p4 q G (fun b => b = p4.block ∨ s3.blk b) := ⟨s3, ⟨(Box.of_new h11).pure Ed, (R10.pure E11).pure Ed, fun hb => by have := R10.lt hb; omega⟩, fun b => Iff.rfl⟩
  have Ynew : ∀ b, (b = p4.block ∨ s3.blk b) → wl.heap.size ≤ b := fun b hb => by
   rcases hb with rfl | hb
   ·omega
   ·have := b10 b hb; omega
  have A12 := A8.pureE X12
  have C12 := hc8.pure X12
  have R12 := (R2.pure E8).pure X12
  have flt : ∀ b, F b ∨ FX b → b < wl.heap.size := fun b hb => hb.elim (fun h => A.know.lt h) (fun h => by
   obtain ⟨sgx, hxx, hFF⟩ := A.doc
   rcases (hFF b).1 h with rfl | h
   ·exact hxx.box.lt
   ·exact hxx.giv.lt h)
  refine ⟨fun w' => Ext (fun b => F b ∨ FX b) w11.drew w', Ext.refl _, ?_⟩
  generalize w11.drew = w12x at *
  rintro w12 rfl
  obtain ⟨a, hat, hSa, hrow⟩ := R12.lst.at_ j (by simpa [tmr] using hlt)
  have hcell : ∀ w', Ext (fun b => F b ∨ FX b) w12 w' → w'.cell? a = some (.int .i64 give[j]) := fun w' E => row_cell (by simpa [tmr] using E.row hrow (fun h => h.elim (hd _ hSa).1 (hd _ hSa).2))
  refine ⟨a, hat, _, hcell, a, hat, _, hcell, ?_⟩
  refine (c_ded_Add k p give[j] w12 A12.know A12.pool hW (fun b hb => (A12.d1 b hb).1) A12.ok).mono ?_
  rintro _ w13 ⟨r8, rfl, hr8, S', F1, hk13, ok13, X13, f13⟩
  have XX13 : Ext (fun b => F b ∨ FX b) w12 w13 := X13.mono (fun b _ h => .inl h)
  refine ⟨_, rfl, XX13, X13.kept (fun b hb h1 => (A.new b (.inl h1)).2 hb), ?_⟩
  refine (p_K1 r8 w13).mono ?_
  rintro _ w14 ⟨rfl, E14⟩
  refine ⟨_, rfl, XX13.thenPure E14, E14.keptP, ?_⟩
  have dFX : ∀ b, FX b → ¬ F b := fun b h1 h2 => (A.d1 b h2).2.2 h1
  have D13 := (A12.doc.ext X13 dFX).pure E14
  have Rf14 := (A12.ref.ext X13 (fun b h1 h2 => (A.d1 b h2).2.1 h1)).pure E14
  have Po14 := (A12.pool.ext X13 (fun b h1 h2 => (A.d1 b h2).1 h1)).pure E14
  refine (c_r08_Add2 p1 q give[j] w14 D13 Rf14 (by omega)).mono ?_
  rintro _ w15 ⟨r10, rfl, hr10', FX1, D15, X15, f15⟩
  have XX15 : Ext (fun b => F b ∨ FX b) w12 w15 := (XX13.thenPure E14).trans (X15.mono (fun b _ h => .inr h))
  refine ⟨_, rfl, XX15, X15.kept (fun b hb h1 => (A.new b (.inr h1)).2 hb), Br.f ?_ ?_⟩
  ·rw [hr10']; show (r8 != _) = false; rw [hr8]; simp
  have z12 : wl.heap.size ≤ w12.heap.size := by have := X12.size; omega
  have z13 := X13.size; have z14 := E14.size
  have K15 : KnowAt w15 k p (Sp.giveT L G give[j]) S' F1 := (hk13.pure E14).ext X15 (fun b h1 h2 => by
   rcases f13 b h1 with h | h
   ·exact (A.d1 b h).2.2 h2
   ·have := flt b (.inr h2); omega)
  have Po15 := Po14.ext X15 (fun b h1 h2 => (A.d2 b h2).1 h1)
  have Rf15 := Rf14.ext X15 (fun b h1 h2 => (A.d2 b h2).2 h1)
  have P15 : Pure w0 w15 := A12.pure.trans' XX15 (fun i hi hb => by have := (A.new i hb).1; omega)
  refine (c_law08_tells k p p1 q w15 hW ok13 K15 Po15 D15 Rf15).mono ?_
  rintro _ w16 ⟨r11, rfl, rfl, E16⟩
  refine ⟨_, rfl, XX15.thenPure E16, E16.keptP, Br.f rfl (Br.f rfl ?_)⟩
  have C16 : KnowAt w16 c p G S Fc := (C12.ext XX15 (fun b h1 h2 => by have := hFc b h1; have := flt b h2; omega)).pure E16
  have Y16 : K8At w16 p4 q G (fun b => b = p4.block ∨ s3.blk b) := (Y12.ext XX15 (fun b h1 h2 => by have := Ynew b h1; have := flt b h2; omega)).pure E16
  refine (c_law08_tells c p p4 q w16 hW A.ok C16 (Po15.pure E16) Y16 (Rf15.pure E16)).mono ?_
  rintro _ w17 ⟨r12, rfl, rfl, E17⟩
  refine ⟨_, rfl, (XX15.thenPure E16).thenPure E17, E17.keptP, Br.f rfl ?_⟩
  rw [wrap_succ hlt (by omega)]
  have f1lt : ∀ b, F1 b → b < w13.heap.size := fun b hb => hk13.lt hb
  have fp : ∀ b, FP b → b < wl.heap.size := fun b hb => A.pool.lt hb
  have fr : ∀ b, FR b → b < wl.heap.size := fun b hb => A.ref.lt hb
  have R15 := (R12.ext XX15 (fun b h1 h2 => h2.elim (hd b h1).1 (hd b h1).2)).pure (E16.trans E17)
  have hHl := hsl.lt
  refine ⟨⟨j + 1, _, S', F1, FX1, rfl, hlt, ⟨(Po15.pure E16).pure E17, (Rf15.pure E16).pure E17, (K15.pure E16).pure E17, (D15.pure E16).pure E17, ok13, fun b hb => ?_, fun b hb => ?_, fun b hb => ?_, (P15.trans E16).trans E17⟩, R15, fun b hb => ?_⟩, lt_dec hlt⟩
  ·have hFX1 : ¬ FX1 b := fun h => by
    rcases f15 b h with h' | h'
    ·rcases f13 b hb with g | g
     ·exact (A.d1 b g).2.2 h'
     ·have := flt b (.inr h'); omega
    ·have := f1lt b hb; omega
   rcases f13 b hb with g | g
   ·exact ⟨(A.d1 b g).1, (A.d1 b g).2.1, hFX1⟩
   ·exact ⟨fun h => by have := fp b h; omega, fun h => by have := fr b h; omega, hFX1⟩
  ·rcases f15 b hb with g | g
   ·exact A.d2 b g
   ·exact ⟨fun h => by have := fp b h; omega, fun h => by have := fr b h; omega⟩
  ·have zz := A.pure.size
   rcases hb with hb | hb
   ·rcases f13 b hb with g | g
    ·exact A.new b (.inl g)
    ·exact ⟨by omega, fun h => by have := hHl b h; omega⟩
   ·rcases f15 b hb with g | g
    ·exact A.new b (.inr g)
    ·exact ⟨by omega, fun h => by have := hHl b h; omega⟩
  ·have s2lt : b < wl.heap.size := R2.lt hb
   exact ⟨fun h => (f13 b h).elim (hd b hb).1 (fun g => by omega), fun h => (f15 b h).elim (hd b hb).2 (fun g => by omega)⟩
 ·refine (c_law08_tells k p p1 q wl hW A.ok A.know A.pool A.doc A.ref).mono ?_
  rintro _ w18 ⟨r13, rfl, rfl, E18⟩
  exact ⟨_, rfl, E18.keptP, Br.t rfl (live _ _ (A.pure.trans E18))⟩
end Go.Proofs
end
section
namespace Go.SE
open Go.ChangeShapes Go.WideShapes Go.ChangeAt Go.RowKit
section
variable {H : Type} {enc : TypeId × Value → H} {P : Program}
theorem below_trodAll (hl : laidOutB P = true) {W W' : World} (hb : Below W.heap.size W W') : ∀ (ts : List TypeId) (vs : List Value) (ds : List (DataW H)) (ps : List MemPlace), (ts.all fun t => P.readableRec t && decide (t < P.types.size)) = true →
  DataW.TrodAll enc P W 0 (fun _ => true) true ts vs ds ps → (∀ x ∈ ps, x.block < W.heap.size) → DataW.TrodAll enc P W' 0 (fun b => decide (b < W.heap.size)) true ts vs ds ps
 | [], _, _, _, _, h, _ => by
  obtain ⟨rfl, rfl, rfl⟩ := trodAll_nil h
  exact h
 | t :: ts, _, _, _, hr, h, hlt => by
  obtain ⟨v, vs1, d, ds1, a, b, rfl, rfl, rfl, h1, h2⟩ := trodAll_cons h
  simp only [List.all_cons, Bool.and_eq_true, decide_eq_true_eq] at hr
  exact ⟨a, b, Below.trod hl hr.1.1 hr.1.2 h1 hb (fun x hx => hlt x (by simp [hx])), below_trodAll hl hb ts vs1 ds1 b (by simpa using hr.2) h2 (fun x hx => hlt x (by simp [hx])), rfl⟩
theorem law_post {f : Func} {s : ChangeSpec} {W W' : World} {args : Array Value} {ds gs : List (DataW H)} {before : List MemPlace} {t : TypeId} (hl : laidOutB P = true)
  (hv : s.vars = []) (hf : ∀ ds : List (DataW H), ds.length = f.params.size → s.fn H ds = { results := [.lit (.bool true)], args := ds }) (hrt : f.resultTypes = #[t]) (ht : P.underlying t = some .bool)
  (hr : (f.params.toList.all fun t => P.readableRec t && decide (t < P.types.size)) = true)
  (hW : DataW.Whole enc P f.params.toList s.vars false W args.toList ds gs before) (E : Pure W W') :
  s.post enc P f false true false false W args (.bool true) W' := by
 have hW' := hW
 obtain ⟨p, q, hA, hV, rfl, hfz, hnd⟩ := hW
 rw [hv] at hV
 obtain ⟨rfl, rfl⟩ := trodVars_none hV
 have hlen : ds.length = f.params.size := by
  have : ∀ (ts : List TypeId) (vs : List Value) (ds : List (DataW H)) (ps : List MemPlace), DataW.TrodAll enc P W 0 (fun _ => true) true ts vs ds ps → ds.length = ts.length := by
   intro ts
   induction ts with
   | nil => intro vs ds ps h; obtain ⟨_, rfl, _⟩ := trodAll_nil h; rfl
   | cons t ts ih =>
    intro vs ds ps h
    obtain ⟨v, vs1, d, ds1, a, b, _, rfl, _, _, h2⟩ := trodAll_cons h
    simp [ih _ _ _ h2]
  simpa using this _ _ _ _ hA
 have hfn := hf ds hlen
 have hfn' : s.fn H (ds ++ []) = { results := [.lit (.bool true)], args := ds } := by rw [List.append_nil]; exact hfn
 have hlt : ∀ x ∈ p, x.block < W.heap.size := fun x hx => by simpa using hW'.lt x (by simp [hx])
 have bel := E.below
 refine ⟨ds, [], p ++ [], [], p, [], hW', ?_, ?_, ?_, bel.frame _, fun h => by cases h⟩
 ·rw [hfn', hrt]; exact trodAll_mk1 (shut_bool ht _)
 ·rw [hfn']; exact below_trodAll hl bel _ _ _ _ hr hA hlt
 ·rw [hfn', hv]; exact hV
theorem law_lifted {C : Checked} {os : Os} {f : FuncId} {fn : Func} {s : ChangeSpec} {t : TypeId} (hl : laidOutB C.prog = true)
  (hv : s.vars = []) (hf : ∀ ds : List (DataW H), ds.length = fn.params.size → s.fn H ds = { results := [.lit (.bool true)], args := ds }) (hrt : fn.resultTypes = #[t]) (ht : C.prog.underlying t = some .bool)
  (hr : (fn.params.toList.all fun t => C.prog.readableRec t && decide (t < C.prog.types.size)) = true)
  (own : ownKnob C.prog.godebug = none) (started : os.Started) (noInit : C.prog.inits.idxOf? f = none) (hfn : C.prog.funcs[f]? = some fn)
  (witness : ∃ (w : World) (tape : Tape) (i : Input), w.os = os ∧ (w.forCall tape i).Shaped C.prog ∧ i.vars = [] ∧ Input.okWide C.prog (w.forCall tape i) .any w.heap.size f i ∧
   s.pre6 enc C.prog fn [] false (w.forCall tape i).memory i.args ∧ ({} : Assume).holds C.prog (lone (Frame.enter C.prog f i.args .normal) [] (w.forCall tape i)))
  (contract : ∀ (W : World) (base : Nat) (args : Array Value) (ds : List (DataW H)) (p : List MemPlace),
   (∀ (j : Nat) t v, fn.params[j]? = some t → args[j]? = some v → Value.okWide C.prog W .any base t v) →
   DataW.TrodAll enc C.prog W 0 (fun _ => true) true fn.params.toList args.toList ds p → (∀ x ∈ p, x.block < W.heap.size) →
   Calls C.prog f args W (fun e W' => ∃ r : Bool, e = .returned (.bool r) ∧ (r = true ∧ Pure W W'))) :
  ReturnsInHanded {} C os f .any (s.pre6 enc C.prog fn [] false) (s.post enc C.prog fn false true false false) := by
 refine returnsInHanded_of_change own started noInit hfn witness ?_
 intro W base args ds gs before hval hW _ _
 have hW' := hW
 obtain ⟨p, q, hA, hV, rfl, hfz, hnd⟩ := hW
 refine (contract W base args ds p hval hA (fun x hx => by simpa using hW'.lt x (by simp [hx]))).mono fun e W' ⟨r, he, h1, h2⟩ => ?_
 subst h1
 exact ⟨_, he, law_post hl hv hf hrt ht hr hW' h2⟩
end
end Go.SE
namespace Go.SE
open Go.ChangeShapes Go.WideShapes Go.ChangeAt Go.RowKit
section
variable {P : Program} {W : World} {r : Reach} {b0 : Nat} {t : TypeId} {v : Value}
theorem okWide_sl {e : TypeId} (ht : P.underlying t = some (.slice e)) (h : Value.okWide P W r b0 t v) : ∃ a n c, v = .slice a n c := by
 unfold Value.okWide at h
 rw [ht] at h
 simp only at h
 unfold Cell.okWide at h
 rw [ht] at h
 cases v <;> simp [Cell.ok, ht] at h
 exact ⟨_, _, _, rfl⟩
end
end Go.SE
end
section
open Go Go.SE
namespace Go.Proofs
theorem mapM_facts {α β : Type} {f : α → Option β} : ∀ {l : List α} {r : List β}, l.mapM f = some r → r.length = l.length ∧ ∀ (i : Nat) (a : α), l[i]? = some a → ∃ b, f a = some b ∧ r[i]? = some b
 | [], r, h => by
  have : r = [] := by simpa using h.symm
  subst this
  exact ⟨rfl, fun i a h => by simp at h⟩
 | x :: xs, r, h => by
  rw [List.mapM_cons] at h
  cases hx : f x with
  | none => simp [hx] at h
  | some y =>
   cases hxs : xs.mapM f with
   | none => simp [hx, hxs] at h
   | some ys =>
    have : r = y :: ys := by simpa [hx, hxs] using h.symm
    subst this
    obtain ⟨h1, h2⟩ := mapM_facts hxs
    refine ⟨by simp [h1], fun i a ha => ?_⟩
    cases i with
    | zero => cases ha; exact ⟨y, hx, rfl⟩
    | succ i => exact h2 i a (by simpa using ha)
theorem cells_row {w : World} {base : Nat} {a : Addr} {n : Nat} {cs : List Value} (h : w.cells? base a n = some cs) : cs.length = n ∧ Row w a cs := by
 obtain ⟨_, h1, h2⟩ := World.cells?_some h
 exact ⟨h1, fun j hj => h2 j (by omega)⟩
section
variable {H : Type} {enc : TypeId × Value → H} {P : Program} {W : World} {base : Nat} {sp : Nat → Bool} {held : Bool}
theorem trod_int1 {t : TypeId} {k : IntKind} (ht : P.underlying t = some (.int k)) {n : Nat} {c : Value} {x : DataW H × List MemPlace} (h : DataW.trod enc P W base sp held n t [c] = some x) : ∃ m, c = .int k m := by
 cases n with
 | zero => cases h
 | succ n =>
  rw [DataW.trod_step] at h
  unfold DataW.trodStep at h
  rw [ht] at h
  cases c <;> simp at h
  obtain ⟨⟨rfl, _⟩, _⟩ := h
  exact ⟨_, rfl⟩
theorem trod_str1 {t : TypeId} (ht : P.underlying t = some .string) {n : Nat} {c : Value} {x : DataW H × List MemPlace} (h : DataW.trod enc P W base sp held n t [c] = some x) : ∃ m, c = .string m := by
 cases n with
 | zero => cases h
 | succ n =>
  rw [DataW.trod_step] at h
  unfold DataW.trodStep at h
  rw [ht] at h
  cases c <;> simp at h
  exact ⟨_, rfl⟩
theorem trod_slice1 {t e : TypeId} (ht : P.underlying t = some (.slice e)) {n : Nat} {c : Value} {x : DataW H × List MemPlace} (h : DataW.trod enc P W base sp held (n + 1) t [c] = some x) :
  c = .slice none 0 0 ∨ ∃ a len cap, c = .slice (some a) len cap ∧ len ≤ cap ∧ cap ≤ maxLen ∧ ∀ i, i < len → ∃ cs y, W.cells? base (a.add (i * P.cellsOf e)) (P.cellsOf e) = some cs ∧ DataW.trod enc P W base sp held n e cs = some y := by
 rw [DataW.trod_step] at h
 unfold DataW.trodStep at h
 rw [ht] at h
 cases c with
 | slice a len cap =>
  cases a with
  | none =>
   cases len with
   | zero => cases cap with
    | zero => exact .inl rfl
    | succ c => simp at h
   | succ l => simp at h
  | some a =>
   right
   simp only at h
   split at h
   ·rename_i hc
    refine ⟨a, len, cap, rfl, hc.2.1, hc.2.2, fun i hi => ?_⟩
    cases hm : (List.range len).mapM fun i => (W.cells? base (a.add (i * P.cellsOf e)) (P.cellsOf e)).bind (DataW.trod enc P W base sp held n e) with
    | none => rw [hm] at h; cases h
    | some r =>
     obtain ⟨b, hb, _⟩ := (mapM_facts hm).2 i i (by simp [hi])
     obtain ⟨cs, h1, h2⟩ := Option.bind_eq_some_iff.1 hb
     exact ⟨cs, b, h1, h2⟩
   ·cases h
 | _ => simp at h
structure TreeTypes (P : Program) (tS tT : TypeId) : Prop where
 ex : ∃ ti tu ts : TypeId, ∃ f0 f1 f2 f3 f4 f5 : Field, P.underlying tS = some (.slice tT) ∧ P.underlying tT = some (.struct #[f0, f1, f2, f3, f4, f5]) ∧ P.cellsOf tT = 6 ∧
  (f0.type = ti ∧ f1.type = ti ∧ f2.type = ti ∧ f3.type = tu ∧ f4.type = ts ∧ f5.type = tS) ∧ (f0.offset = 0 ∧ f1.offset = 1 ∧ f2.offset = 2 ∧ f3.offset = 3 ∧ f4.offset = 4 ∧ f5.offset = 5) ∧
  P.underlying ti = some (.int .i64) ∧ P.underlying tu = some (.int .u64) ∧ P.underlying ts = some .string ∧ P.cellsOf ti = 1 ∧ P.cellsOf tu = 1 ∧ P.cellsOf ts = 1 ∧ P.cellsOf tS = 1
theorem trod_tree {tS tT : TypeId} (hTT : TreeTypes P tS tT) : ∀ n : Nat,
  (∀ (c : Value) (x : DataW H × List MemPlace), DataW.trod enc P W base sp held n tS [c] = some x → ∃ s : Sl, ∃ ts : List Sp.Tree, c = s.v ∧ ∀ (k f t u : Int) (tx : ByteArray), TreeAt (fun _ => True) W s (.mk k f t u tx ts)) ∧
  (∀ (cs : List Value) (x : DataW H × List MemPlace), DataW.trod enc P W base sp held n tT cs = some x → ∃ t s, cs = trow t s ∧ TreeAt (fun _ => True) W s t) := by
 obtain ⟨ti, tu, tx, f0, f1, f2, f3, f4, f5, hS, hT, hc6, ⟨e0, e1, e2, e3, e4, e5⟩, ⟨o0, o1, o2, o3, o4, o5⟩, ui, uu, us, ci, cu, cs1, cS⟩ := hTT.ex
 intro n
 induction n with
 | zero => exact ⟨fun c x h => (by cases h), fun cs x h => (by cases h)⟩
 | succ n ih =>
  refine ⟨fun c x h => ?_, fun cs x h => ?_⟩
  ·rcases trod_slice1 hS h with rfl | ⟨a, len, cap, rfl, hle, hcm, hel⟩
   ·exact ⟨Sl.nil, [], rfl, fun k f t u tx => .mk k f t u tx [] Sl.nil (fun _ => Sl.nil) rfl (by simp) (fun i h => by simp at h) (fun i h => by simp at h)⟩
   ·rw [hc6] at hel
    have hex : ∀ i, ∃ q : Sp.Tree × Sl, i < len → Row W (a.add (i * 6)) (trow q.1 q.2) ∧ TreeAt (fun _ => True) W q.2 q.1 := by
     intro i
     by_cases hi : i < len
     ·obtain ⟨cs, y, h1, h2⟩ := hel i hi
      obtain ⟨tr, s, e, hTr⟩ := ih.2 cs y h2
      exact ⟨(tr, s), fun _ => ⟨e ▸ (cells_row h1).2, hTr⟩⟩
     ·exact ⟨(Sp.Tree.mk 0 0 0 0 ⟨#[]⟩ [], Sl.nil), fun h => absurd h hi⟩
    obtain ⟨q, hq⟩ := Classical.axiomOfChoice hex
    refine ⟨⟨some a, len, cap⟩, (List.range len).map fun i => (q i).1, rfl, fun k f t u tx => .mk k f t u tx _ _ (fun i => (q i).2) (by simp) (by simp only [maxLen] at hcm; simp; omega) (fun i h => ?_) (fun i h => ?_)⟩
    ·have hi : i < len := by simpa using h
     refine ⟨a.add (i * 6), ⟨by omega, by simpa using hi, a, rfl, by simp⟩, trivial, ?_⟩
     simpa using (hq i hi).1
    ·have hi : i < len := by simpa using h
     simpa using (hq i hi).2
  ·rw [DataW.trod_step] at h
   unfold DataW.trodStep at h
   rw [hT] at h
   simp only at h
   split at h
   ·rename_i hl
    rw [hc6] at hl
    match cs, hl with
    | [c0, c1, c2, c3, c4, c5], _ =>
     cases hm : ([f0, f1, f2, f3, f4, f5] : List Field).mapM (fun f => DataW.trod enc P W base sp held n f.type ((([c0, c1, c2, c3, c4, c5] : List Value).drop f.offset).take (P.cellsOf f.type))) with
     | none => rw [hm] at h; cases h
     | some r =>
      have hf := (mapM_facts hm).2
      obtain ⟨_, h0, _⟩ := hf 0 f0 rfl
      obtain ⟨_, h1, _⟩ := hf 1 f1 rfl
      obtain ⟨_, h2, _⟩ := hf 2 f2 rfl
      obtain ⟨_, h3, _⟩ := hf 3 f3 rfl
      obtain ⟨_, h4, _⟩ := hf 4 f4 rfl
      obtain ⟨_, h5, _⟩ := hf 5 f5 rfl
      rw [e0, o0, ci] at h0; rw [e1, o1, ci] at h1; rw [e2, o2, ci] at h2; rw [e3, o3, cu] at h3; rw [e4, o4, cs1] at h4; rw [e5, o5, cS] at h5
      obtain ⟨m0, rfl⟩ := trod_int1 ui h0
      obtain ⟨m1, rfl⟩ := trod_int1 ui h1
      obtain ⟨m2, rfl⟩ := trod_int1 ui h2
      obtain ⟨m3, rfl⟩ := trod_int1 uu h3
      obtain ⟨m4, rfl⟩ := trod_str1 us h4
      obtain ⟨s, ts, rfl, hTr⟩ := ih.1 c5 _ h5
      exact ⟨.mk m0 m1 m2 m3 m4 ts, s, rfl, hTr m0 m1 m2 m3 m4⟩
   ·cases h
theorem trees_of_trod {tS tT : TypeId} (hTT : TreeTypes P tS tT) {v : Value} {d : DataW H} {ps : List MemPlace} (h : DataW.Trod enc P W base sp held tS v d ps) (hv : ∃ a n c, v = .slice a n c) :
  ∃ s : Sl, ∃ ts : List Sp.Tree, v = s.v ∧ TreeAt (fun b => b < W.heap.size) W s (.mk 0 0 0 0 ⟨#[]⟩ ts) := by
 obtain ⟨n, h⟩ := h
 obtain ⟨a, m, c, rfl⟩ := hv
 obtain ⟨s, ts, e, hT⟩ := (trod_tree hTT n).1 _ _ h
 exact ⟨s, ts, e, (hT 0 0 0 0 ⟨#[]⟩).lt.mono (fun b hb => hb.2)⟩
end
theorem treeTypes : TreeTypes Tryz.prog 22 49 :=
 ⟨3, 47, 9, _, _, _, _, _, _, Tryz.underlying22, Tryz.underlying49, by kernel_rfl, ⟨rfl, rfl, rfl, rfl, rfl, rfl⟩, ⟨rfl, rfl, rfl, rfl, rfl, rfl⟩, Tryz.underlying3, Tryz.underlying47, Tryz.underlying9, by kernel_rfl, by kernel_rfl, by kernel_rfl, by kernel_rfl⟩
end Go.Proofs
end
section
open Go Go.SE
namespace Go.Proofs
section
variable {H : Type} {enc : TypeId × Value → H} {P : Program} {W : World} {base : Nat} {sp : Nat → Bool} {held : Bool}
theorem row_lt {a : Addr} {v : Value} {vs : List Value} (h : Row W a (v :: vs)) : a.block < W.heap.size := by
 have := h 0 (by simp)
 have := World.block_lt_of_cell? W (a.add 0) this
 rwa [add_block] at this
theorem list_of_trod {α : Type} {tS e : TypeId} {sz : Nat} {f : α → List Value} (hS : P.underlying tS = some (.slice e)) (hc : P.cellsOf e = sz) (hf : ∀ a, ∃ v vs, f a = v :: vs) (x0 : α)
  (hel : ∀ (n : Nat) (cs : List Value) (x : DataW H × List MemPlace), DataW.trod enc P W base sp held n e cs = some x → ∃ a, cs = f a) {n : Nat} {c : Value} {x : DataW H × List MemPlace} (h : DataW.trod enc P W base sp held n tS [c] = some x) :
  ∃ s : Sl, ∃ xs : List α, c = s.v ∧ Lst (fun b => b < W.heap.size) W sz s (xs.map f) := by
 cases n with
 | zero => cases h
 | succ n =>
  rcases trod_slice1 hS h with rfl | ⟨a, len, cap, rfl, hle, hcm, hall⟩
  ·exact ⟨Sl.nil, [], rfl, ⟨rfl, fun i hi => by simp at hi⟩⟩
  ·rw [hc] at hall
   have hex : ∀ i, ∃ q : α, i < len → Row W (a.add (i * sz)) (f q) := by
    intro i
    by_cases hi : i < len
    ·obtain ⟨cs, y, h1, h2⟩ := hall i hi
     obtain ⟨q, rfl⟩ := hel n cs y h2
     exact ⟨q, fun _ => (cells_row h1).2⟩
    ·exact ⟨x0, fun h => absurd h hi⟩
   obtain ⟨q, hq⟩ := Classical.axiomOfChoice hex
   refine ⟨⟨some a, len, cap⟩, (List.range len).map q, rfl, ⟨by simp, fun i hi => ?_⟩⟩
   have hi : i < len := by simpa using hi
   have hr := hq i hi
   obtain ⟨v, vs, e⟩ := hf (q i)
   refine ⟨a.add (i * sz), ⟨by omega, by simpa using hi, a, rfl, by simp⟩, ?_, by simpa using hr⟩
   rw [e] at hr; exact row_lt hr
theorem terms_of_trod {tS e : TypeId} (hS : P.underlying tS = some (.slice e)) (he : P.underlying e = some (.int .i64)) (hc : P.cellsOf e = 1) {n : Nat} {c : Value} {x : DataW H × List MemPlace} (h : DataW.trod enc P W base sp held n tS [c] = some x) :
  ∃ s : Sl, ∃ ts : List Int, c = s.v ∧ Lst (fun b => b < W.heap.size) W 1 s (tmr ts) := by
 have := list_of_trod (f := fun t : Int => [Value.int .i64 t]) hS hc (fun a => ⟨_, _, rfl⟩) 0 (fun n cs x h => ?_) h
 ·exact this
 ·cases n with
  | zero => cases h
  | succ n =>
   rw [DataW.trod_step] at h
   unfold DataW.trodStep at h
   rw [he] at h
   cases cs with
   | nil => simp at h
   | cons c l =>
    cases l with
    | cons c2 l2 => cases c <;> simp at h
    | nil =>
     cases c <;> simp at h
     obtain ⟨⟨rfl, _⟩, _⟩ := h
     exact ⟨_, rfl⟩
end
section
variable {H : Type} {enc : TypeId × Value → H} {W : World} {base : Nat} {sp : Nat → Bool} {held : Bool}
theorem terms_in {n : Nat} {c : Value} {x : DataW H × List MemPlace} (h : DataW.trod enc Tryz.prog W base sp held n 52 [c] = some x) : ∃ s : Sl, ∃ ts : List Int, c = s.v ∧ Lst (fun b => b < W.heap.size) W 1 s (tmr ts) :=
 terms_of_trod Tryz.underlying52 Tryz.underlying30 (by kernel_rfl) h
end
end Go.Proofs
end
