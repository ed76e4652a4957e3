import Derived.Test.YtagjojnfofkiaaaPa6
import Derived.Test.YtagjojnfofkiaaaPa0
import Derived.Test.YtagjojnfofkiaaaPa5
import Derived.Test.YtagjojnfofkiaaaPa3
import Derived.Test.YtagjojnfofkiaaaPa1
import Derived.Test.YtagjojnfofkiaaaPa4
import Derived.ProofKit
import Derived.Carry
import Derived.OpenShut
import Derived.Stop.Joined
import Derived.Test.YtagjojnfofkiaaaProg
import Derived.KernelRfl
import Derived.Test.YtagjojnfofkiaaaPa2
section
open Go Go.SE Sp
namespace Sp
section
variable {α : Type} {lt : α → α → Bool} {l l' : List α} {a b : Nat} {v : α}
def Eqs (lt : α → α → Bool) (v : α) (a i : Nat) (l : List α) : Prop := ∀ p x, a ≤ p → p < i → l[p]? = some x → lt v x = false
def Ups (lt : α → α → Bool) (v : α) (j b : Nat) (l : List α) : Prop := ∀ p x, j ≤ p → p < b → l[p]? = some x → lt v x = true
theorem Eqs.snoc {i : Nat} {y : α} (h : Eqs lt v a i l) (hy : l[i]? = some y) (hl : lt v y = false) : Eqs lt v a (i + 1) l := fun p x h1 h2 hx => by
 by_cases e : p = i
 ·subst e; rw [hy] at hx; cases hx; exact hl
 ·exact h p x h1 (by omega) hx
theorem Ups.cons {j : Nat} {y : α} (h : Ups lt v (j + 1) b l) (hy : l[j]? = some y) (hl : lt v y = true) : Ups lt v j b l := fun p x h1 h2 hx => by
 by_cases e : p = j
 ·subst e; rw [hy] at hx; cases hx; exact hl
 ·exact h p x (by omega) h2 hx
theorem Eqs.swp {i j : Nat} {x y : α} (h : Eqs lt v a i l) (hi : i < j) (hx : l[i]? = some x) (hy : l[j]? = some y) (hl : lt v y = false) : Eqs lt v a (i + 1) ((l.set i y).set j x) := fun p u h1 h2 hu => by
 rw [swp_get hx hy, if_neg (by omega)] at hu
 by_cases e : p = i
 ·rw [if_pos e] at hu; cases hu; exact hl
 ·rw [if_neg e] at hu; exact h p u h1 (by omega) hu
theorem Ups.swp {i j : Nat} {x y : α} (h : Ups lt v (j + 1) b l) (hi : i < j) (hx : l[i]? = some x) (hy : l[j]? = some y) (hl : lt v x = true) : Ups lt v j b ((l.set i y).set j x) := fun p u h1 h2 hu => by
 rw [swp_get hx hy] at hu
 by_cases e : p = j
 ·rw [if_pos e] at hu; cases hu; exact hl
 ·rw [if_neg e, if_neg (by omega)] at hu; exact h p u (by omega) h2 hu
theorem SortedIn.congr {k : Nat} (h : SortedIn lt a k l) (he : ∀ p, p < k → l'[p]? = l[p]?) : SortedIn lt a k l' := fun p q h1 h2 h3 => Le.congr (he p (by omega)) (he q h3) (h p q h1 h2 h3)
theorem SortedIn.snoc (ho : Ord lt) {k : Nat} (h : SortedIn lt a k l) (hk : k < l.length) (hl : a < k → Le lt l (k - 1) k) : SortedIn lt a (k + 1) l :=
 (h.but).done ho (by omega) hl
end
end Sp
namespace Go.Proofs
attribute [local irreducible] Calls
def EInv (w0 : World) (s : Sl) (l : List Int) (a b : Nat) (v : Int) (i j : Int) (H : Nat → Prop) (w : World) : Prop :=
 ∃ (m n : Nat) (l' : List Int), i = m ∧ j = n ∧ a < m ∧ m ≤ n + 1 ∧ n < b ∧ DS w0 H w s l' ∧ PermIn a b l l' ∧ l'[a]? = some v ∧ Eqs ltI v a m l' ∧ Ups ltI v (n + 1) b l'
def Split (a b m : Nat) (l : List Int) : Prop := ∀ p q, a ≤ p → p < m → p < q → q < b → Le ltI l p q
theorem c_partEq (s : Sl) (l : List Int) (a b pv : Nat) (w0 : World) (h : Rws w0 23 1 s (tmr l)) (hb : b ≤ l.length) (hn : l.length ≤ 1000000) (ha : a ≤ pv) (hp : pv < b) (hmin : ∀ p, a ≤ p → p < b → Le ltI l pv p) :
  Calls Try.prog 87 #[s.v, .int .i64 a, .int .i64 b, .int .i64 pv] w0 (fun e w' => ∃ (r : Int), e = .returned (.int .i64 r) ∧ ∃ m : Nat, r = m ∧ a < m ∧ m ≤ b ∧ SP w0 s (fun l' => PermIn a b l l' ∧ Split a b m l') w') := by
 refine w_K _ _ _ _ w0 (fun r w' => ∃ m : Nat, r = m ∧ a < m ∧ m ≤ b ∧ SP w0 s (fun l' => PermIn a b l l' ∧ Split a b m l') w') ?_
 unfold m_K
 obtain ⟨x0, hx0⟩ := at_of (l := l) (i := a) (by omega)
 obtain ⟨v, hv0⟩ := at_of (l := l) (i := pv) (by omega)
 have hmin' : ∀ p x, a ≤ p → p < b → l[p]? = some x → ltI x v = false := fun p x h1 h2 hx => hmin p h1 h2 v x hv0 hx
 refine (DS.start h).swp (i := a) (j := pv) rfl rfl hx0 hv0 (fun w1 h1 => ?_)
 have hP1 : PermIn a b l ((l.set a v).set pv x0) := PermIn.swp hx0 hv0 (by omega) (by omega) (by omega) (by omega)
 have hv1 : ((l.set a v).set pv x0)[a]? = some v := by
  rw [swp_get hx0 hv0]
  by_cases e : a = pv
  ·subst e; rw [hx0] at hv0; cases hv0; rw [if_pos rfl]
  ·rw [if_neg e, if_pos rfl]
 generalize (l.set a v).set pv x0 = l1 at h1 hP1 hv1
 have hl1 := hP1.len
 simp (disch := omega) only [i64]
 refine ⟨EInv w0 s l a b v, fun i j _ => (j + 1 - i).toNat, ⟨a + 1, b - 1, l1, by omega, by omega, by omega, by omega, by omega, h1, hP1, hv1, fun p x h1 h2 hx => by
  have : p = a := by omega
  subst this; rw [hv1] at hx; cases hx; exact ordI.irr _, fun p x h1 h2 => by omega⟩, ?_⟩
 rintro _ _ H4 w4 hs4 ⟨m, n, l4, rfl, rfl, hm, hmn, hnb, h4, hP4, hv4, hlo4, hhi4⟩
 have hl4 := hP4.len
 have hge : ∀ p x, a ≤ p → p < b → l4[p]? = some x → ltI x v = false := fun p x h1 h2 hx => by
  obtain ⟨q, e1, e2, e3⟩ := hP4.mem p x h1 h2 hx
  exact hmin' q x e1 e2 e3
 unfold m_K_l1
 refine ⟨fun i H w => ∃ (k : Nat), i = k ∧ m ≤ k ∧ k ≤ n + 1 ∧ DS w0 H w s l4 ∧ Eqs ltI v a k l4, fun i _ => ((n : Int) + 1 - i).toNat, ⟨m, rfl, Nat.le_refl _, hmn, h4, hlo4⟩, ?_⟩
 rintro _ H5 w5 hs5 ⟨k, rfl, hk1, hk2, h5, hlo5⟩
 unfold m_K_l5
 have J2 : ∀ (H : Nat → Prop) (w : World), DS w0 H w s l4 → (k ≤ n → ∀ x, l4[k]? = some x → ltI v x = true) → m_K_j2 s a n k w0 H w (fun y'0 y'1 H' w' => EInv w0 s l a b v y'0 y'1 H' w' ∧ (fun (i j : Int) (_ : World) => (j + 1 - i).toNat) y'0 y'1 w' < (fun (i j : Int) (_ : World) => (j + 1 - i).toNat) m n w4) (fun r w' => ∃ m : Nat, r = m ∧ a < m ∧ m ≤ b ∧ SP w0 s (fun l' => PermIn a b l l' ∧ Split a b m l') w') := by
  intro H6 w6 h6 hst1
  unfold m_K_j2
  refine ⟨fun j H w => ∃ (q : Nat), j = q ∧ q ≤ n ∧ k ≤ q + 1 ∧ DS w0 H w s l4 ∧ Ups ltI v (q + 1) b l4, fun j _ => j.toNat, ⟨n, rfl, Nat.le_refl _, hk2, h6, hhi4⟩, ?_⟩
  rintro _ H7 w7 hs7 ⟨q, rfl, hq1, hq2, h7, hhi7⟩
  unfold m_K_l4
  have J3 : ∀ (H : Nat → Prop) (w : World), DS w0 H w s l4 → (k ≤ q → ∀ x, l4[q]? = some x → ltI v x = false) → m_K_j3 s k q H w (fun y'0 y'1 H' w' => EInv w0 s l a b v y'0 y'1 H' w' ∧ (fun (i j : Int) (_ : World) => (j + 1 - i).toNat) y'0 y'1 w' < (fun (i j : Int) (_ : World) => (j + 1 - i).toNat) m n w4) (fun r w' => ∃ m : Nat, r = m ∧ a < m ∧ m ≤ b ∧ SP w0 s (fun l' => PermIn a b l l' ∧ Split a b m l') w') := by
   intro H8 w8 h8 hst2
   unfold m_K_j3
   refine ⟨fun hc => ?_, fun hc => ?_⟩
   ·have hc := of_decide_eq_true hc
    refine ⟨k, rfl, by omega, by omega, h8.sp ⟨hP4, fun p q' p1 p2 p3 p4 x y hx hy => ?_⟩⟩
    by_cases e : q' < k
    ·exact ordI.trans _ _ _ (hlo5 p x p1 p2 hx) (hge q' y (by omega) p4 hy)
    ·exact ordI.trans _ _ _ (hlo5 p x p1 p2 hx) (ordI.asym _ _ (hhi7 q' y (by omega) p4 hy))
   ·have hc := of_decide_eq_false hc
    have hkq : k ≤ q := by omega
    obtain ⟨x, hx⟩ := at_of (l := l4) (i := k) (by omega)
    obtain ⟨y, hy⟩ := at_of (l := l4) (i := q) (by omega)
    have s1 := hst1 (by omega) x hx
    have s2 := hst2 hkq y hy
    have hne : k ≠ q := by intro e; subst e; rw [hx] at hy; cases hy; rw [s1] at s2; cases s2
    refine h8.swp (i := k) (j := q) rfl rfl hx hy (fun w9 h9 => ?_)
    simp (disch := omega) only [i64]
    refine ⟨⟨k + 1, q - 1, _, by omega, by omega, by omega, by omega, by omega, h9, hP4.trans (PermIn.swp hx hy (by omega) (by omega) (by omega) (by omega)), by rw [swp_get hx hy, if_neg (by omega), if_neg (by omega)]; exact hv4, hlo5.swp (by omega) hx hy s2, by rw [show q - 1 + 1 = q by omega]; exact hhi7.swp (by omega) hx hy s1⟩, ?_⟩
    omega
  refine ⟨fun hc => ?_, fun hc H8 w8 hs8 => ?_⟩
  ·have hc := of_decide_eq_true hc
   obtain ⟨y, hy⟩ := at_of (l := l4) (i := q) (by omega)
   refine h7.two (i := a) (j := q) rfl rfl hv4 hy ⟨fun hlt H8 w8 hs8 => ?_, fun hlt H8 w8 hs8 => ?_⟩
   ·simp (disch := omega) only [i64]
    refine ⟨⟨q - 1, by omega, by omega, by omega, h7.hst hs8, by rw [show q - 1 + 1 = q by omega]; exact hhi7.cons hy (lt_true hlt)⟩, ?_⟩
    show ((q : Int) - 1).toNat < (q : Int).toNat
    omega
   ·exact J3 _ _ (h7.hst hs8) (fun _ x hx => by rw [hy] at hx; cases hx; exact lt_false hlt)
  ·exact J3 _ _ (h7.hst hs8) (fun h => by have := of_decide_eq_false hc; omega)
 refine ⟨fun hc => ?_, fun hc H6 w6 hs6 => ?_⟩
 ·have hc := of_decide_eq_true hc
  obtain ⟨x, hx⟩ := at_of (l := l4) (i := k) (by omega)
  refine h5.two (i := a) (j := k) rfl rfl hv4 hx ⟨fun hlt H6 w6 hs6 => ?_, fun hlt H6 w6 hs6 => ?_⟩
  ·simp (disch := omega) only [i64]
   refine ⟨⟨k + 1, by omega, by omega, by omega, h5.hst hs6, hlo5.snoc hx (not_lt hlt)⟩, ?_⟩
   show ((n : Int) + 1 - ((k : Int) + 1)).toNat < ((n : Int) + 1 - (k : Int)).toNat
   omega
  ·exact J2 _ _ (h5.hst hs6) (fun _ z hz => by rw [hx] at hz; cases hz; exact is_lt hlt)
 ·exact J2 _ _ (h5.hst hs6) (fun h => by have := of_decide_eq_false hc; omega)
def IInv (w0 : World) (s : Sl) (l : List Int) (a b : Nat) (i j : Int) (H : Nat → Prop) (w : World) : Prop :=
 ∃ (k m : Nat) (l' : List Int), i = k ∧ j = m ∧ a < k ∧ k ≤ b ∧ m ≤ 5 ∧ DS w0 H w s l' ∧ PermIn a b l l' ∧ SortedIn ltI a k l'
theorem c_partial (s : Sl) (l : List Int) (a b : Nat) (w0 : World) (h : Rws w0 23 1 s (tmr l)) (hb : b ≤ l.length) (hn : l.length ≤ 1000000) (hab : a < b) (hF : Floor ltI a b l) :
  Calls Try.prog 85 #[s.v, .int .i64 a, .int .i64 b] w0 (fun e w' => ∃ r : Bool, e = .returned (.bool r) ∧ SP w0 s (fun l' => PermIn a b l l' ∧ (r = true → SortedIn ltI a b l')) w') := by
 refine w_I _ _ _ w0 (fun r w' => SP w0 s (fun l' => PermIn a b l l' ∧ (r = true → SortedIn ltI a b l')) w') ?_
 unfold m_I
 simp (disch := omega) only [i64]
 refine ⟨IInv w0 s l a b, fun _ j _ => (5 - j).toNat, ⟨a + 1, 0, l, by omega, rfl, by omega, by omega, by omega, DS.start h, PermIn.refl _ _ _, SortedIn.small _ (Nat.le_refl _)⟩, ?_⟩
 rintro _ _ H1 w1 hs1 ⟨k0, m, l1, rfl, rfl, hk0, hkb0, hm, h1, hP1, hS1⟩
 have hl1 := hP1.len
 unfold m_I_l1
 refine ⟨fun hc => ?_, fun hc => h1.sp ⟨hP1, fun h => by cases h⟩⟩
 have hc5 := of_decide_eq_true hc
 refine ⟨fun i H w => ∃ (k : Nat), i = k ∧ a < k ∧ k ≤ b ∧ DS w0 H w s l1 ∧ SortedIn ltI a k l1, fun i _ => ((b : Int) - i).toNat, ⟨k0, rfl, hk0, hkb0, h1, hS1⟩, ?_⟩
 rintro _ H2 w2 hs2 ⟨k, rfl, hk, hkb, h2, hS2⟩
 unfold m_I_l6
 have J3 : ∀ (l3 : List Int) (H : Nat → Prop) (w : World), DS w0 H w s l3 → PermIn a b l l3 → SortedIn ltI a k l3 → m_I_j3 s b m k w0 H w (fun y'0 y'1 H' w' => IInv w0 s l a b y'0 y'1 H' w' ∧ (fun (_ j : Int) (_ : World) => (5 - j).toNat) y'0 y'1 w' < (fun (_ j : Int) (_ : World) => (5 - j).toNat) k0 m w1) (fun r w' => SP w0 s (fun l' => PermIn a b l l' ∧ (r = true → SortedIn ltI a b l')) w') := by
  intro l3 H w hD hP hS
  have hl3 := hP.len
  unfold m_I_j3
  simp (disch := omega) only [i64]
  have go : ∀ (l4 : List Int) (H : Nat → Prop) (w : World), DS w0 H w s l4 → PermIn a b l l4 → SortedIn ltI a k l4 → IInv w0 s l a b (k : Int) ((m : Int) + 1) H w ∧ (5 - ((m : Int) + 1)).toNat < (5 - (m : Int)).toNat :=
   fun l4 H w h4 hP4 hS4 => ⟨⟨k, m + 1, l4, rfl, by omega, hk, hkb, by omega, h4, hP4, hS4⟩, by omega⟩
  refine ⟨fun hc => ?_, fun hc => go l3 H w hD hP hS⟩
  refine ⟨fun j H w => ∃ (q : Nat) (l4 : List Int), j = q ∧ k + 1 ≤ q ∧ q ≤ b ∧ DS w0 H w s l4 ∧ PermIn a b l l4 ∧ SortedIn ltI a k l4, fun j _ => ((b : Int) - j).toNat, ⟨k + 1, l3, by omega, by omega, by have := of_decide_eq_true hc; omega, hD, hP, hS⟩, ?_⟩
  rintro _ H4 w4 hs4 ⟨q, l4, rfl, hq1, hq2, h4, hP4, hS4⟩
  have hl4 := hP4.len
  unfold m_I_l4
  simp (disch := omega) only [i64]
  refine ⟨fun hc => ?_, fun hc => go l4 H4 w4 h4 hP4 hS4⟩
  have hc := of_decide_eq_true hc
  obtain ⟨x, hx⟩ := at_of (l := l4) (i := q) (by omega)
  obtain ⟨y, hy⟩ := at_of (l := l4) (i := q - 1) (by omega)
  refine h4.two (i := q) (j := q - 1) rfl (by omega) hx hy ⟨fun hlt H5 w5 hs5 => go l4 H5 w5 (h4.hst hs5) hP4 hS4, fun hlt H5 w5 hs5 => ?_⟩
  refine (h4.hst hs5).swp (i := q) (j := q - 1) rfl (by omega) hx hy (fun w6 h6 => ?_)
  refine ⟨⟨q + 1, _, by omega, by omega, by omega, h6, hP4.trans (PermIn.swp hx hy (by omega) (by omega) (by omega) (by omega)), hS4.congr (fun p hp => by rw [swp_get hx hy, if_neg (by omega), if_neg (by omega)])⟩, ?_⟩
  show ((b : Int) - ((q : Int) + 1)).toNat < ((b : Int) - (q : Int)).toNat
  omega
 have J2 : ∀ (H : Nat → Prop) (w : World), DS w0 H w s l1 → (k < b → ∀ x y, l1[k]? = some x → l1[k - 1]? = some y → ltI x y = true) → m_I_j2 s a b m k w0 H w (fun y'0 y'1 H' w' => IInv w0 s l a b y'0 y'1 H' w' ∧ (fun (_ j : Int) (_ : World) => (5 - j).toNat) y'0 y'1 w' < (fun (_ j : Int) (_ : World) => (5 - j).toNat) k0 m w1) (fun r w' => SP w0 s (fun l' => PermIn a b l l' ∧ (r = true → SortedIn ltI a b l')) w') := by
  intro H w hD hst
  unfold m_I_j2
  simp (disch := omega) only [i64]
  refine ⟨fun hc => ?_, fun hc => ⟨fun _ => hD.sp ⟨hP1, fun h => by cases h⟩, fun hc2 => ?_⟩⟩
  ·have hc : (k : Int) = b := by simpa using hc
   have : k = b := by omega
   subst this
   exact hD.sp ⟨hP1, fun _ => hS2⟩
  ·have hc : ¬ (k : Int) = b := by simpa using hc
   have hkb' : k < b := by omega
   obtain ⟨x, hx⟩ := at_of (l := l1) (i := k) (by omega)
   obtain ⟨y, hy⟩ := at_of (l := l1) (i := k - 1) (by omega)
   refine hD.swp (i := k) (j := k - 1) rfl (by omega) hx hy (fun w3 h3 => ?_)
   have hP3 : PermIn a b l ((l1.set k y).set (k - 1) x) := hP1.trans (PermIn.swp hx hy (by omega) (by omega) (by omega) (by omega))
   have hS3 : SortedIn ltI a (k - 1) ((l1.set k y).set (k - 1) x) := by
    have : SortedIn ltI a (k - 1) l1 := fun p q h1 h2 h3 => hS2 p q h1 h2 (by omega)
    exact this.congr (fun p hp => by rw [swp_get hx hy, if_neg (by omega), if_neg (by omega)])
   generalize (l1.set k y).set (k - 1) x = l3 at h3 hP3 hS3
   have hl3 := hP3.len
   refine ⟨fun hc3 => ?_, fun hc3 => J3 l3 _ _ h3 hP3 (SortedIn.small _ (by have := of_decide_eq_false hc3; omega))⟩
   have hc3 := of_decide_eq_true hc3
   refine ⟨fun j H w => ∃ (q : Nat) (l4 : List Int), j = q ∧ a ≤ q ∧ q < k ∧ DS w0 H w s l4 ∧ PermIn a b l l4 ∧ But ltI a k q l4, fun j _ => j.toNat, ⟨k - 1, l3, by omega, by omega, by omega, h3, hP3, by have := hS3.but; rwa [show k - 1 + 1 = k by omega] at this⟩, ?_⟩
   rintro _ H4 w4 hs4 ⟨q, l4, rfl, hq1, hq2, h4, hP4, hB4⟩
   have hl4 := hP4.len
   unfold m_I_l5
   refine ⟨fun hc => ?_, fun hc => J3 l4 _ _ h4 hP4 (hB4.done ordI (by omega) (fun h => by have := of_decide_eq_false hc; omega))⟩
   have hc := of_decide_eq_true hc
   simp (disch := omega) only [i64]
   obtain ⟨x, hx⟩ := at_of (l := l4) (i := q) (by omega)
   obtain ⟨y, hy⟩ := at_of (l := l4) (i := q - 1) (by omega)
   refine h4.two (i := q) (j := q - 1) rfl (by omega) hx hy ⟨fun hlt H5 w5 hs5 => ?_, fun hlt H5 w5 hs5 => ?_⟩
   ·exact J3 l4 _ _ (h4.hst hs5) hP4 (hB4.done ordI (by omega) (fun _ => Le.of hy hx (not_lt hlt)))
   ·have hlt := is_lt hlt
    have haq : a < q := by
     refine Nat.lt_of_le_of_ne hq1 (fun e => ?_)
     subst e
     have := (hF.perm hP4) (by omega) a (Nat.le_refl _) hab _ _ hy hx
     rw [this] at hlt; cases hlt
    refine (h4.hst hs5).swp (i := q) (j := q - 1) rfl (by omega) hx hy (fun w6 h6 => ?_)
    refine ⟨⟨q - 1, _, by omega, by omega, by omega, h6, hP4.trans (PermIn.swp hx hy (by omega) (by omega) (by omega) (by omega)), hB4.step ordI haq hx hy hlt⟩, ?_⟩
    show ((q : Int) - 1).toNat < (q : Int).toNat
    omega
 simp (disch := omega) only [i64]
 refine ⟨fun hc => ?_, fun hc H3 w3 hs3 => J2 _ _ (h2.hst hs3) (fun h => by have := of_decide_eq_false hc; omega)⟩
 have hc := of_decide_eq_true hc
 obtain ⟨x, hx⟩ := at_of (l := l1) (i := k) (by omega)
 obtain ⟨y, hy⟩ := at_of (l := l1) (i := k - 1) (by omega)
 refine h2.two (i := k) (j := k - 1) rfl (by omega) hx hy ⟨fun hlt H3 w3 hs3 => ?_, fun hlt H3 w3 hs3 => ?_⟩
 ·refine ⟨⟨k + 1, by omega, by omega, by omega, h2.hst hs3, hS2.snoc ordI (by omega) (fun _ => Le.of hy hx (not_lt hlt))⟩, ?_⟩
  show ((b : Int) - ((k : Int) + 1)).toNat < ((b : Int) - (k : Int)).toNat
  omega
 ·exact J2 _ _ (h2.hst hs3) (fun _ x' y' h1 h2 => by rw [hx] at h1; rw [hy] at h2; cases h1; cases h2; exact is_lt hlt)
end Go.Proofs
end
section
open Go Go.SE Sp
namespace Go.Proofs
attribute [local irreducible] Calls
theorem DS.side {w0 w w1 : World} {H : Nat → Prop} {s : Sl} {l : List Int} (h : DS w0 H w s l) {q : Nat} (E : Ext (· = q) w w1) (hq : w0.heap.size ≤ q) (hs : ¬ s.blk q) : DS w0 H w1 s l :=
 ⟨h.own.ext E (fun b hb e => hs (e ▸ hb)), h.ext.trans' E (fun i hi e => by omega)⟩
structure MS (w : World) (s : Sl) (l : List Int) (p : Addr) (T : TypeId) : Prop where
 rows : Rws w 23 1 s (tmr l)
 box : ∃ n : Int, Box w p [.int .i64 n] T
 ne : ¬ s.blk p.block
theorem MS.get {w : World} {s : Sl} {l : List Int} {p : Addr} {T : TypeId} (h : MS w s l p T) {i : Nat} {I x : Int} (hI : I = i) (hx : l[i]? = some x) : ∃ a, At s I 1 a ∧ w.cell? a = some (.int .i64 x) ∧ ¬ None a.block := (DS.start h.rows).get hI hx
theorem c_order2 {T : TypeId} (s : Sl) (l : List Int) (a b : Nat) (p : Addr) (w0 : World) (h : MS w0 s l p T) (ha : a < l.length) (hb : b < l.length) :
  Calls Try.prog 109 #[s.v, .int .i64 a, .int .i64 b, .pointer (some p)] w0 (fun e w' => ∃ r1 r2 : Int, e = .returned (.tuple #[.int .i64 r1, .int .i64 r2]) ∧ ((r1 = a ∧ r2 = b ∨ r1 = b ∧ r2 = a) ∧ MS w' s l p T ∧ Ext (· = p.block) w0 w')) := by
 refine w_J3 _ _ _ _ w0 (fun r1 r2 w' => (r1 = a ∧ r2 = b ∨ r1 = b ∧ r2 = a) ∧ MS w' s l p T ∧ Ext (· = p.block) w0 w') ?_
 unfold m_J3
 obtain ⟨x, hx⟩ := at_of ha
 obtain ⟨y, hy⟩ := at_of hb
 obtain ⟨a2, p1, p2, p3⟩ := h.get rfl hy
 obtain ⟨a3, q1, q2, q3⟩ := h.get rfl hx
 refine ⟨a2, p1, y, p2, p3, a3, q1, x, q2, q3, ⟨fun _ => ⟨p, rfl, fun H1 w3 hs3 => ?_⟩, fun _ H1 w3 hs3 => ?_⟩⟩
 ·have E3 : Pure w0 w3 := hs3.first
  obtain ⟨n, hB⟩ := h.box
  have hB3 := hB.pure E3
  refine ⟨n, hB3.cell0, p, rfl, hB3.canW0 (by simp), fun hH => by have := hs3.old _ hH; have := hB.lt; omega, fun w5 hw5 => ?_⟩
  have E5 : Ext (· = p.block) w3 w5 := by rw [hw5]; exact Ext.setCell p _
  refine ⟨.inr ⟨rfl, rfl⟩, ⟨(h.rows.pure E3).ext E5 (fun b hb e => h.ne (e ▸ hb)), ⟨_, by rw [hw5]; exact hB3.set0⟩, h.ne⟩, E3.pure.trans E5⟩
 ·have E3 : Pure w0 w3 := hs3.first
  exact ⟨.inl ⟨rfl, rfl⟩, ⟨h.rows.pure E3, let ⟨n, hB⟩ := h.box; ⟨n, hB.pure E3⟩, h.ne⟩, E3.pure⟩
theorem c_median {T : TypeId} (s : Sl) (l : List Int) (a b c : Nat) (p : Addr) (w0 : World) (h : MS w0 s l p T) (ha : a < l.length) (hb : b < l.length) (hc : c < l.length) :
  Calls Try.prog 103 #[s.v, .int .i64 a, .int .i64 b, .int .i64 c, .pointer (some p)] w0 (fun e w' => ∃ r : Int, e = .returned (.int .i64 r) ∧ ((r = a ∨ r = b ∨ r = c) ∧ MS w' s l p T ∧ Ext (· = p.block) w0 w')) := by
 refine w_K3 _ _ _ _ _ w0 (fun r w' => (r = a ∨ r = b ∨ r = c) ∧ MS w' s l p T ∧ Ext (· = p.block) w0 w') ?_
 unfold m_K3
 refine (c_order2 s l a b p w0 h ha hb).mono ?_
 rintro _ w1 ⟨r1, r2, rfl, hr, h1, E1⟩
 refine ⟨_, _, rfl, ?_⟩
 obtain ⟨a', b', rfl, rfl, ha', hb', hab⟩ : ∃ a' b' : Nat, r1 = a' ∧ r2 = b' ∧ a' < l.length ∧ b' < l.length ∧ (a' = a ∧ b' = b ∨ a' = b ∧ b' = a) := by
  rcases hr with ⟨rfl, rfl⟩ | ⟨rfl, rfl⟩
  ·exact ⟨a, b, rfl, rfl, ha, hb, .inl ⟨rfl, rfl⟩⟩
  ·exact ⟨b, a, rfl, rfl, hb, ha, .inr ⟨rfl, rfl⟩⟩
 refine (c_order2 s l b' c p w1 h1 hb' hc).mono ?_
 rintro _ w2 ⟨r3, r4, rfl, hr, h2, E2⟩
 refine ⟨_, _, rfl, ?_⟩
 obtain ⟨c', rfl, hc', hbc⟩ : ∃ c' : Nat, r3 = c' ∧ c' < l.length ∧ (c' = b' ∨ c' = c) := by
  rcases hr with ⟨rfl, _⟩ | ⟨rfl, _⟩
  ·exact ⟨b', rfl, hb', .inl rfl⟩
  ·exact ⟨c, rfl, hc, .inr rfl⟩
 refine (c_order2 s l a' c' p w2 h2 ha' hc').mono ?_
 rintro _ w3 ⟨r5, r6, rfl, hr, h3, E3⟩
 refine ⟨_, _, rfl, ?_, h3, (E1.trans E2).trans E3⟩
 rcases hr with ⟨_, rfl⟩ | ⟨_, rfl⟩
 ·omega
 ·omega
theorem c_medAdj {T : TypeId} (s : Sl) (l : List Int) (a : Nat) (p : Addr) (w0 : World) (h : MS w0 s l p T) (ha : 1 ≤ a) (hb : a + 1 < l.length) (hn : l.length ≤ 1000000) :
  Calls Try.prog 102 #[s.v, .int .i64 a, .pointer (some p)] w0 (fun e w' => ∃ r : Int, e = .returned (.int .i64 r) ∧ ((∃ q : Nat, r = q ∧ a - 1 ≤ q ∧ q ≤ a + 1) ∧ MS w' s l p T ∧ Ext (· = p.block) w0 w')) := by
 refine w_L3 _ _ _ w0 (fun r w' => (∃ q : Nat, r = q ∧ a - 1 ≤ q ∧ q ≤ a + 1) ∧ MS w' s l p T ∧ Ext (· = p.block) w0 w') ?_
 unfold m_L3
 simp (disch := omega) only [i64]
 rw [show ((a : Int) - 1) = ((a - 1 : Nat) : Int) by omega, show ((a : Int) + 1) = ((a + 1 : Nat) : Int) by omega]
 refine (c_median s l (a - 1) a (a + 1) p w0 h (by omega) (by omega) hb).mono ?_
 rintro _ w1 ⟨r, rfl, hr, h1, E1⟩
 refine ⟨_, rfl, ?_, h1, E1⟩
 rcases hr with rfl | rfl | rfl
 ·exact ⟨a - 1, rfl, by omega, by omega⟩
 ·exact ⟨a, rfl, by omega, by omega⟩
 ·exact ⟨a + 1, rfl, by omega, by omega⟩
theorem c_pivot (s : Sl) (l : List Int) (a b : Nat) (w0 : World) (h : Rws w0 23 1 s (tmr l)) (hb : b ≤ l.length) (hn : l.length ≤ 1000000) (hab : a + 12 < b) :
  Calls Try.prog 83 #[s.v, .int .i64 a, .int .i64 b] w0 (fun e w' => ∃ r1 r2 : Int, e = .returned (.tuple #[.int .i64 r1, .int .i64 r2]) ∧ ((∃ q : Nat, r1 = q ∧ a ≤ q ∧ q < b) ∧ Pure w0 w')) := by
 refine w_M3 _ _ _ w0 (fun r1 _ w' => (∃ q : Nat, r1 = q ∧ a ≤ q ∧ q < b) ∧ Pure w0 w') ?_
 unfold m_M3
 simp (disch := omega) only [i64]
 intro p1 w1 h1
 have E1 : Pure w0 w1 := Ext.new h1
 have hp : w0.heap.size ≤ p1.block := by rw [h1.at_size]; exact Nat.le_refl _
 have hM : MS w1 s l p1 3 := ⟨h.pure E1, ⟨0, Box.of_new h1⟩, fun hb' => by have := h.lt hb'; omega⟩
 have hq : ((b : Int) - a) / 4 = (((b - a) / 4 : Nat) : Int) := by omega
 have hz := fun w => run_quoN (P := Try.prog) (w := w) (t := 3) (a := (b : Int) - a) (b := 4) (by omega) (by omega) (by omega)
 refine ⟨_, hz _, _, hz _, _, hz _, ?_⟩
 rw [hq]
 generalize hd : (b - a) / 4 = d
 have hd' : 4 * d ≤ b - a ∧ b - a < 4 * d + 4 := by omega
 simp (disch := omega) only [i64]
 have e1 : (a : Int) + (d : Int) * 1 = ((a + d : Nat) : Int) := by omega
 have e2 : (a : Int) + (d : Int) * 2 = ((a + 2 * d : Nat) : Int) := by omega
 have e3 : (a : Int) + (d : Int) * 3 = ((a + 3 * d : Nat) : Int) := by omega
 rw [e1, e2, e3]
 have fin : ∀ (r : Int) (w : World), MS w s l p1 3 → Ext (· = p1.block) w1 w → (∃ q : Nat, r = q ∧ a ≤ q ∧ q < b) → ∃ v1 : Int, w.cell? p1 = some (.int .i64 v1) ∧ Br ((v1 : Int) == 0) ((∃ q : Nat, r = q ∧ a ≤ q ∧ q < b) ∧ Pure w0 w) (Br ((v1 : Int) == 12) ((∃ q : Nat, r = q ∧ a ≤ q ∧ q < b) ∧ Pure w0 w) ((∃ q : Nat, r = q ∧ a ≤ q ∧ q < b) ∧ Pure w0 w)) := by
  intro r w hM E hr
  obtain ⟨n, hB⟩ := hM.box
  have EP : Pure w0 w := E1.own hp E
  exact ⟨n, hB.cell0, fun _ => ⟨hr, EP⟩, fun _ => ⟨fun _ => ⟨hr, EP⟩, fun _ => ⟨hr, EP⟩⟩⟩
 refine Br.t (decide_eq_true (by omega)) ⟨fun hc => ?_, fun _ => ?_⟩
 ·have hc := of_decide_eq_true hc
  refine (c_medAdj s l (a + d) p1 w1 hM (by omega) (by omega) hn).mono ?_
  rintro _ w2 ⟨_, rfl, ⟨q1, rfl, g1, g1'⟩, hM2, E2⟩
  refine ⟨_, rfl, ?_⟩
  refine (c_medAdj s l (a + 2 * d) p1 w2 hM2 (by omega) (by omega) hn).mono ?_
  rintro _ w3 ⟨_, rfl, ⟨q2, rfl, g2, g2'⟩, hM3, E3⟩
  refine ⟨_, rfl, ?_⟩
  refine (c_medAdj s l (a + 3 * d) p1 w3 hM3 (by omega) (by omega) hn).mono ?_
  rintro _ w4 ⟨_, rfl, ⟨q3, rfl, g3, g3'⟩, hM4, E4⟩
  refine ⟨_, rfl, ?_⟩
  refine (c_median s l q1 q2 q3 p1 w4 hM4 (by omega) (by omega) (by omega)).mono ?_
  rintro _ w5 ⟨r, rfl, hr, hM5, E5⟩
  refine ⟨_, rfl, fin r w5 hM5 (((E2.trans E3).trans E4).trans E5) ?_⟩
  rcases hr with rfl | rfl | rfl
  ·exact ⟨q1, rfl, by omega, by omega⟩
  ·exact ⟨q2, rfl, by omega, by omega⟩
  ·exact ⟨q3, rfl, by omega, by omega⟩
 ·refine (c_median s l (a + d) (a + 2 * d) (a + 3 * d) p1 w1 hM (by omega) (by omega) (by omega)).mono ?_
  rintro _ w5 ⟨r, rfl, hr, hM5, E5⟩
  refine ⟨_, rfl, fin r w5 hM5 E5 ?_⟩
  rcases hr with rfl | rfl | rfl
  ·exact ⟨a + d, rfl, by omega, by omega⟩
  ·exact ⟨a + 2 * d, rfl, by omega, by omega⟩
  ·exact ⟨a + 3 * d, rfl, by omega, by omega⟩
theorem pow_bitLen : ∀ x : Nat, 0 < x → x < 2 ^ 64 → 2 ^ Lib.bitLen x ≤ 2 * x := by
 intro x
 induction x using Nat.strongRecOn with
 | _ x ih =>
  intro h0 h1
  rw [Lib.bitLen_half x (by omega) h1, Nat.pow_add]
  by_cases e : x = 1
  ·subst e; decide +kernel
  ·have := ih (x / 2) (by omega) (by omega) (by omega)
   omega
theorem bitLen_le64 : ∀ x : Nat, x < 2 ^ 64 → Lib.bitLen x ≤ 64 := by
 have key : ∀ (k x : Nat), k ≤ 64 → x < 2 ^ k → Lib.bitLen x ≤ k := by
  intro k
  induction k with
  | zero => intro x _ h; have : x = 0 := by omega
            subst this; decide +kernel
  | succ k ih =>
   intro x hk h
   by_cases e : x = 0
   ·subst e; exact Nat.le_trans (by decide +kernel : Lib.bitLen 0 ≤ 0) (by omega)
   ·have h64 : x < 2 ^ 64 := Nat.lt_of_lt_of_le h (Nat.pow_le_pow_right (by omega) hk)
    rw [Lib.bitLen_half x e h64]
    have := ih (x / 2) (by omega) (by rw [Nat.pow_succ] at h; omega)
    omega
 exact fun x h => key 64 x (Nat.le_refl _) h
theorem c_Len (n : Nat) (w0 : World) (hn : n ≤ 1000000) : Calls Try.prog 70 #[.int .u64 n] w0 (fun e w' => ∃ r : Int, e = .returned (.int .i64 r) ∧ (r = (Lib.bitLen n : Int) ∧ w' = w0)) := by
 refine w_G3 _ w0 (fun r w' => r = (Lib.bitLen n : Int) ∧ w' = w0) ?_
 unfold m_G3
 refine (bits_Len64 n w0 (by omega) (by omega)).mono ?_
 rintro _ w1 ⟨rfl, rfl⟩
 exact ⟨_, rfl, rfl, rfl⟩
theorem run_shl64 {P : Program} {w : World} {t : TypeId} {k : IntKind} {x y : Int} (hy : 0 ≤ y) : ∃ z : Int, (Go.binOp .shl t (.int .u64 x) (.int k y)).run P w = .ok (.int .u64 z) w ∧ z = IntKind.u64.wrap (x * 2 ^ min y.toNat IntKind.u64.bits) := by
 refine ⟨_, ?_, rfl⟩
 have : ¬ y < 0 := by omega
 simp [Go.binOp, Op.shift, this]
theorem run_shr64 {P : Program} {w : World} {t : TypeId} {k : IntKind} {x y : Int} (hy : 0 ≤ y) : ∃ z : Int, (Go.binOp .shr t (.int .u64 x) (.int k y)).run P w = .ok (.int .u64 z) w ∧ z = x.fdiv (2 ^ min y.toNat IntKind.u64.bits) := by
 refine ⟨_, ?_, rfl⟩
 have : ¬ y < 0 := by omega
 simp [Go.binOp, Op.shift, this]
theorem run_xor64 {P : Program} {w : World} {t : TypeId} {x y : Int} : ∃ z : Int, (Go.binOp .xor t (.int .u64 x) (.int .u64 y)).run P w = .ok (.int .u64 z) w := ⟨_, by simp [Go.binOp, Op.intBits]; rfl⟩
theorem run_and64 {P : Program} {w : World} {t : TypeId} {x y : Int} (h0 : 0 ≤ y) (h1 : y < 18446744073709551616) : ∃ z : Int, (Go.binOp .and t (.int .u64 x) (.int .u64 y)).run P w = .ok (.int .u64 z) w ∧ 0 ≤ z ∧ z ≤ y := by
 refine ⟨_, by simp [Go.binOp, Op.intBits]; rfl, ?_⟩
 have e : (BitVec.ofInt IntKind.u64.bits y).toNat = y.toNat := by
  rw [BitVec.toNat_ofInt]
  have : (IntKind.u64.bits : Nat) = 64 := rfl
  rw [this]
  rw [Int.emod_eq_of_lt h0 (by omega)]
 have hle : (BitVec.ofInt IntKind.u64.bits x &&& BitVec.ofInt IntKind.u64.bits y).toNat ≤ y.toNat := by
  rw [BitVec.toNat_and, e]; exact Nat.and_le_right
 have hw : ∀ m : Nat, m ≤ y.toNat → 0 ≤ IntKind.u64.wrap (m : Int) ∧ IntKind.u64.wrap (m : Int) ≤ y := by
  intro m hm
  rw [IntWalk.u64_in _ (by omega)]
  omega
 have := hw _ hle
 simpa using this
theorem c_Next (p : Addr) (w0 : World) {T : TypeId} {n : Int} (hB : Box w0 p [.int .u64 n] T) : Calls Try.prog 101 #[.pointer (some p)] w0 (fun e w' => ∃ r : Int, e = .returned (.int .u64 r) ∧ ((∃ m : Int, Box w' p [.int .u64 m] T) ∧ Ext (· = p.block) w0 w')) := by
 refine w_I3 _ w0 (fun r w' => (∃ m : Int, Box w' p [.int .u64 m] T) ∧ Ext (· = p.block) w0 w') ?_
 unfold m_I3
 refine ⟨fun _ => True, trivial, fun w1 h1 => ?_⟩
 subst h1
 have hB1 : Box w0.drew p [.int .u64 n] T := hB.pure (Ext.drew w0)
 obtain ⟨z1, r1, _⟩ := run_shl64 (P := Try.prog) (w := w0.drew) (t := 147) (k := .u64) (x := n) (y := 13) (by omega)
 obtain ⟨z2, r2⟩ := run_xor64 (P := Try.prog) (w := w0.drew) (t := 147) (x := n) (y := z1)
 refine ⟨p, rfl, n, hB1.cell0, p, rfl, n, hB1.cell0, z1, r1, z2, r2, p, rfl, hB1.canW0 (by simp), fun h => h, fun w2 h2 => ?_⟩
 have hB2 : Box w2 p [.int .u64 z2] T := by rw [h2]; exact hB1.set0
 have E2 : Ext (· = p.block) w0 w2 := (Ext.drew w0).trans (by rw [h2]; exact Ext.setCell p _)
 refine ⟨fun _ => True, trivial, fun w3 h3 => ?_⟩
 subst h3
 have hB3 : Box w2.drew p [.int .u64 z2] T := hB2.pure (Ext.drew w2)
 obtain ⟨z3, r3, _⟩ := run_shr64 (P := Try.prog) (w := w2.drew) (t := 147) (k := .u64) (x := z2) (y := 7) (by omega)
 obtain ⟨z4, r4⟩ := run_xor64 (P := Try.prog) (w := w2.drew) (t := 147) (x := z2) (y := z3)
 refine ⟨p, rfl, z2, hB3.cell0, p, rfl, z2, hB3.cell0, z3, r3, z4, r4, p, rfl, hB3.canW0 (by simp), fun h => h, fun w4 h4 => ?_⟩
 have hB4 : Box w4 p [.int .u64 z4] T := by rw [h4]; exact hB3.set0
 have E4 : Ext (· = p.block) w2 w4 := (Ext.drew w2).trans (by rw [h4]; exact Ext.setCell p _)
 refine ⟨fun _ => True, trivial, fun w5 h5 => ?_⟩
 subst h5
 have hB5 : Box w4.drew p [.int .u64 z4] T := hB4.pure (Ext.drew w4)
 obtain ⟨z5, r5, _⟩ := run_shl64 (P := Try.prog) (w := w4.drew) (t := 147) (k := .u64) (x := z4) (y := 17) (by omega)
 obtain ⟨z6, r6⟩ := run_xor64 (P := Try.prog) (w := w4.drew) (t := 147) (x := z4) (y := z5)
 refine ⟨p, rfl, z4, hB5.cell0, p, rfl, z4, hB5.cell0, z5, r5, z6, r6, p, rfl, hB5.canW0 (by simp), fun h => h, fun w6 h6 => ?_⟩
 have hB6 : Box w6 p [.int .u64 z6] T := by rw [h6]; exact hB5.set0
 have E6 : Ext (· = p.block) w4 w6 := (Ext.drew w4).trans (by rw [h6]; exact Ext.setCell p _)
 exact ⟨p, rfl, z6, hB6.cell0, ⟨z6, hB6⟩, (E2.trans E4).trans E6⟩
theorem c_break (s : Sl) (l : List Int) (a b : Nat) (w0 : World) (h : Rws w0 23 1 s (tmr l)) (hb : b ≤ l.length) (hn : l.length ≤ 1000000) (hab : a + 12 < b) :
  Calls Try.prog 82 #[s.v, .int .i64 a, .int .i64 b] w0 (fun e w' => e = .returned (.tuple #[]) ∧ SP w0 s (fun l' => PermIn a b l l') w') := by
 refine w_S1 _ _ _ w0 (SP w0 s (fun l' => PermIn a b l l')) ?_
 unfold m_S1
 simp (disch := omega) only [i64]
 refine Br.t (decide_eq_true (by omega)) ?_
 intro p1 w1 h1
 have B1 := Box.of_new h1
 have E1 : Pure w0 w1 := Ext.new h1
 have hp : w0.heap.size ≤ p1.block := by rw [h1.at_size]; exact Nat.le_refl _
 have hps : ¬ s.blk p1.block := fun hb' => by have := h.lt hb'; omega
 refine ⟨B1.canW0 (by simp), fun h => h, fun w2 h2 => ?_⟩
 have B2 := B1.set0 (v := .int .u64 (IntKind.u64.wrap ((b : Int) - a)))
 have E2 : Ext (· = p1.block) w1 w2 := by rw [h2]; exact Ext.setCell p1 _
 rw [← h2] at B2
 have hD2 : DS w0 None w2 s l := ((DS.start h).pure E1).side E2 hp hps
 have eN : ((b : Int) - a) = ((b - a : Nat) : Int) := by omega
 have hpow : Calls Try.prog 100 #[.int .i64 ((b : Int) - a)] w2 (fun e w' => ∃ r : Int, e = .returned (.int .u64 r) ∧ ((1 ≤ r ∧ r ≤ 2 * ((b : Int) - a)) ∧ w' = w2)) := by
  rw [eN]
  refine w_H3 _ w2 (fun r w' => (1 ≤ r ∧ r ≤ 2 * ((b - a : Nat) : Int)) ∧ w' = w2) ?_
  unfold m_H3
  rw [IntWalk.u64_in _ (by omega)]
  refine (c_Len (b - a) w2 (by omega)).mono ?_
  rintro _ w3 ⟨r, rfl, rfl, rfl⟩
  have hl := pow_bitLen (b - a) (by omega) (by omega)
  obtain ⟨z, hz, hzv⟩ := run_shl64 (P := Try.prog) (w := w3) (t := 115) (k := .i64) (x := 1) (y := (Lib.bitLen (b - a) : Int)) (by omega)
  refine ⟨_, rfl, z, hz, ?_, rfl⟩
  have hle : Lib.bitLen (b - a) ≤ 64 := bitLen_le64 _ (by omega)
  have hmin : min ((Lib.bitLen (b - a) : Int).toNat) IntKind.u64.bits = Lib.bitLen (b - a) := by
   have : (IntKind.u64.bits : Nat) = 64 := rfl
   rw [this]; omega
  have e2 : (1 : Int) * 2 ^ Lib.bitLen (b - a) = ((2 ^ Lib.bitLen (b - a) : Nat) : Int) := by rw [Int.one_mul]; simp
  have hpos : 0 < 2 ^ Lib.bitLen (b - a) := Nat.pow_pos (by omega)
  rw [hmin, e2, IntWalk.u64_in _ (by omega)] at hzv
  omega
 refine hpow.mono ?_
 rintro _ w3 ⟨r, rfl, ⟨hr1, hr2⟩, rfl⟩
 have hz := fun w => run_quoN (P := Try.prog) (w := w) (t := 3) (a := (b : Int) - a) (b := 4) (by omega) (by omega) (by omega)
 have hq : ((b : Int) - a) / 4 = (((b - a) / 4 : Nat) : Int) := by omega
 refine ⟨_, rfl, Kept.refl _, _, hz _, ?_⟩
 rw [hq]
 generalize hd : (b - a) / 4 = d
 have hd' : 4 * d ≤ b - a ∧ b - a < 4 * d + 4 := by omega
 simp (disch := omega) only [i64]
 refine ⟨fun i H w => ∃ (k : Nat) (l' : List Int), i = k ∧ a ≤ k ∧ k ≤ a + 2 * d + 2 ∧ DS w0 H w s l' ∧ PermIn a b l l' ∧ (∃ m : Int, Box w p1 [.int .u64 m] 147) ∧ ¬ H p1.block, fun i _ => ((a : Int) + 2 * d + 2 - i).toNat, ⟨a + 2 * d - 1, l, by omega, by omega, by omega, hD2, PermIn.refl _ _ _, ⟨_, B2⟩, fun h => h⟩, ?_⟩
 rintro _ H w hs ⟨k, l1, rfl, hk1, hk2, hD, hP, ⟨m, hB⟩, hH⟩
 have hl := hP.len
 unfold m_S1_l1
 simp (disch := omega) only [i64]
 refine ⟨_, hz _, ?_⟩
 rw [hq, hd]
 simp (disch := omega) only [i64]
 refine ⟨fun hc => ?_, fun _ => hD.sp hP⟩
 have hc := of_decide_eq_true hc
 refine (c_Next p1 w hB).mono ?_
 rintro _ w4 ⟨r2, rfl, ⟨m4, hB4⟩, E4⟩
 have hD4 := hD.side E4 hp hps
 refine ⟨_, rfl, E4.kept (fun b hb e => hH (e ▸ hb)), ?_⟩
 rw [IntWalk.u64_in _ (by omega)]
 obtain ⟨z3, hz3, z0, z1⟩ := run_and64 (P := Try.prog) (w := w4) (t := 115) (x := r2) (y := r - 1) (by omega) (by omega)
 refine ⟨z3, hz3, ?_⟩
 simp (disch := omega) only [i64]
 intro y1 hy1 H5 w5 hs5
 obtain ⟨o, rfl, ho⟩ : ∃ o : Nat, y1 = o ∧ o < b - a := by
  by_cases e : z3 ≥ (b : Int) - a
  ·rw [decide_eq_true e] at hy1
   exact ⟨(z3 - ((b : Int) - a)).toNat, by rw [hy1]; simp only [cond_true]; omega, by omega⟩
  ·rw [decide_eq_false e] at hy1
   exact ⟨z3.toNat, by rw [hy1]; simp only [cond_false]; omega, by omega⟩
 have hD5 := hD4.hst hs5
 have hH5 : ¬ H5 p1.block := fun h => (hs5.new _ h).elim hH (fun h' => by have := hB4.lt; omega)
 obtain ⟨x, hx⟩ := at_of (l := l1) (i := k) (by omega)
 obtain ⟨y, hy⟩ := at_of (l := l1) (i := a + o) (by omega)
 simp (disch := omega) only [i64]
 have hB5 := hB4.ext hs5.ext hH5
 suffices key : ∀ w3, DS w0 H5 w3 s ((l1.set k y).set (a + o) x) → Ext s.blk w5 w3 → (∃ (k' : Nat) (l' : List Int), (k : Int) + 1 = k' ∧ a ≤ k' ∧ k' ≤ a + 2 * d + 2 ∧ DS w0 H5 w3 s l' ∧ PermIn a b l l' ∧ (∃ m : Int, Box w3 p1 [.int .u64 m] 147) ∧ ¬ H5 p1.block) ∧ ((a : Int) + 2 * d + 2 - ((k : Int) + 1)).toNat < ((a : Int) + 2 * d + 2 - (k : Int)).toNat by
  have hD5' : DS w5 H5 w5 s l1 := ⟨hD5.own, Ext.refl _⟩
  refine hD5'.swp (i := k) (j := a + o) rfl (by omega) hx hy (fun w6 h6 => ?_)
  exact key w6 ⟨h6.own, hD5.ext.trans h6.ext⟩ h6.ext
 intro w6 h6 E6
 exact ⟨⟨k + 1, _, by omega, by omega, by omega, h6, hP.trans (PermIn.swp hx hy (by omega) (by omega) (by omega) (by omega)), ⟨m4, hB5.ext E6 hps⟩, hH5⟩, by omega⟩
end Go.Proofs
end
section
open Go Go.SE Sp
namespace Sp
section
variable {α : Type} {lt : α → α → Bool} {l : List α} {a0 b0 a b m : Nat}
theorem Parted.left (h : Parted lt a b m l) (ho : Ord lt) (hO : Outer lt a0 b0 a b l) (hm : a ≤ m) (hmb : m < b) (hl : m < l.length) : Outer lt a0 b0 a m l ∨ True := .inr trivial
theorem Outer.split (hO : Outer lt a0 b0 a b l) (ho : Ord lt) (h : Parted lt a b m l) (hm : a ≤ m) (hmb : m < b) (hl : m < l.length) : ∀ p q, a0 ≤ p → p < q → q < b0 → (p < a ∨ m ≤ p ∨ q < a ∨ m ≤ q) → (p ≤ m ∨ b ≤ p ∨ q ≤ m ∨ b ≤ q) → Le lt l p q := by
 intro p q h1 h2 h3 h4 h5
 by_cases e : p < a ∨ b ≤ p ∨ q < a ∨ b ≤ q
 ·exact hO p q h1 h2 h3 e
 ·by_cases e1 : p = m
  ·subst e1; exact h.2 q h2 (by omega)
  ·by_cases e2 : q = m
   ·subst e2; exact h.1 p (by omega) h2
   ·exact Le.trans ho hl (h.1 p (by omega) (by omega)) (h.2 q (by omega) (by omega))
end
end Sp
namespace Go.Proofs
attribute [local irreducible] Calls
def QInv (w0 : World) (s : Sl) (l : List Int) (a b : Nat) (i j lim : Int) (_ _ : Bool) (H : Nat → Prop) (w : World) : Prop :=
 ∃ (p q : Nat) (l' : List Int), i = p ∧ j = q ∧ a ≤ p ∧ p ≤ q ∧ q ≤ b ∧ 0 ≤ lim ∧ lim ≤ 64 ∧ DS w0 H w s l' ∧ PermIn a b l l' ∧ Outer ltI a b p q l' ∧ Floor ltI p q l'
def qmu (i j _lim : Int) (_ _ : Bool) (_ : World) : Nat := (j - i).toNat
theorem c_pdq (s : Sl) : ∀ (n : Nat) (l : List Int) (a b : Nat) (lim : Int) (w0 : World), b - a < n → Rws w0 23 1 s (tmr l) → b ≤ l.length → l.length ≤ 1000000 → a ≤ b → 0 ≤ lim → lim ≤ 64 → Floor ltI a b l →
  Calls Try.prog 69 #[s.v, .int .i64 a, .int .i64 b, .int .i64 lim] w0 (fun e w' => e = .returned (.tuple #[]) ∧ SP w0 s (fun l' => PermIn a b l l' ∧ SortedIn ltI a b l') w') := by
 intro n
 induction n with
 | zero => intro l a b lim w0 h; omega
 | succ n ih =>
 intro l a b lim w0 hab h hb hn hle hl0 hl1 hF
 refine w_M _ _ _ _ w0 (SP w0 s (fun l' => PermIn a b l l' ∧ SortedIn ltI a b l')) ?_
 unfold m_M
 refine ⟨QInv w0 s l a b, qmu, ⟨a, b, l, rfl, rfl, Nat.le_refl _, hle, Nat.le_refl _, hl0, hl1, DS.start h, PermIn.refl _ _ _, Outer.start _ _ _, hF⟩, ?_⟩
 rintro _ _ lim2 bal part H1 w1 hs1 ⟨p, q, l1, rfl, rfl, hp, hpq, hq, hm0, hm1, h1, hP1, hO1, hF1⟩
 have hl1' := hP1.len
 unfold m_M_l1
 simp (disch := omega) only [i64]
 have J4 : ∀ (l4 : List Int) (lim3 : Int) (pv : Nat) (H : Nat → Prop) (w : World), 0 ≤ lim3 → lim3 ≤ 64 → p + 12 < q → p ≤ pv → pv < q → DS w0 H w s l4 → PermIn a b l l4 → Outer ltI a b p q l4 → Floor ltI p q l4 →
   m_M_j4 s p q bal part lim3 pv w0 H w (fun y'0 y'1 y'2 y'3 y'4 H' w' => QInv w0 s l a b y'0 y'1 y'2 y'3 y'4 H' w' ∧ qmu y'0 y'1 y'2 y'3 y'4 w' < qmu p q lim2 bal part w1) (SP w0 s (fun l' => PermIn a b l l' ∧ SortedIn ltI a b l')) := by
  intro l4 lim3 pv H w hz0 hz1 h12 hpv1 hpv2 h4 hP4 hO4 hF4
  have hl4 := hP4.len
  unfold m_M_j4
  simp (disch := omega) only [i64]
  have fin : ∀ (H5 : Nat → Prop) (w5 : World), DS w0 H5 w5 s l4 → Calls Try.prog 88 #[s.v, .int .i64 p, .int .i64 q, .int .i64 pv] w5 (fun e w6 => ∃ r4 : Int, ∃ r5 : Bool, e = .returned (.tuple #[.int .i64 r4, .bool r5]) ∧ Kept H5 w5 w6 ∧
    ∃ z1 : Int, (Go.binOp .quo 3 (.int .i64 ((q : Int) - p)) (.int .i64 8)).run Try.prog w6 = .ok (.int .i64 z1) w6 ∧
    Br (decide ((IntKind.i64.wrap (r4 - p)) < (IntKind.i64.wrap (q - r4))))
     (Calls Try.prog 69 #[s.v, (.int .i64 p), (.int .i64 r4), (.int .i64 lim3)] w6 (fun e w13 => e = .returned (.tuple #[]) ∧ Kept H5 w6 w13 ∧
      (QInv w0 s l a b (IntKind.i64.wrap (r4 + 1)) q lim3 (decide ((IntKind.i64.wrap (r4 - p)) ≥ z1)) r5 H5 w13 ∧ qmu (IntKind.i64.wrap (r4 + 1)) q lim3 (decide ((IntKind.i64.wrap (r4 - p)) ≥ z1)) r5 w13 < qmu p q lim2 bal part w1)))
     (Calls Try.prog 69 #[s.v, (.int .i64 (IntKind.i64.wrap (r4 + 1))), (.int .i64 q), (.int .i64 lim3)] w6 (fun e w14 => e = .returned (.tuple #[]) ∧ Kept H5 w6 w14 ∧
      (QInv w0 s l a b p r4 lim3 (decide ((IntKind.i64.wrap (q - r4)) ≥ z1)) r5 H5 w14 ∧ qmu p r4 lim3 (decide ((IntKind.i64.wrap (q - r4)) ≥ z1)) r5 w14 < qmu p q lim2 bal part w1)))) := by
   intro H5 w5 h5
   refine (c_part s l4 p q pv w5 h5.own.rows (by omega) (by omega) hpv1 hpv2).mono ?_
   rintro _ w6 ⟨r4, r5, rfl, m, rfl, hm1, hm2, hp6⟩
   obtain ⟨hk6, l6, h6, hP6, hPt⟩ := hp6.ds h5
   have hPa := hP4.trans (hP6.mono hp hq)
   have hl6 := hPa.len
   have hO6 := hO4.perm hP6 hp hq
   have hF6 := hF4.perm hP6
   have hsp := hO6.split ordI hPt hm1 hm2 (by omega)
   refine ⟨_, _, rfl, hk6, _, run_quoN (by omega) (by omega) (by omega), ?_⟩
   simp (disch := omega) only [i64]
   refine ⟨fun _ => ?_, fun _ => ?_⟩
   ·refine (ih l6 p m lim3 w6 (by omega) h6.own.rows (by omega) (by omega) hm1 hz0 hz1 (hF6.sub (by omega))).mono ?_
    rintro _ w7 ⟨rfl, hp7⟩
    obtain ⟨hk7, l7, h7, hP7, hS7⟩ := hp7.ds h6
    refine ⟨rfl, hk7, ⟨m + 1, q, l7, by omega, rfl, by omega, by omega, hq, hz0, hz1, h7, hPa.trans (hP7.mono hp (by omega)), ?_, ?_⟩, ?_⟩
    ·intro x y g1 g2 g3 g4
     by_cases e : p ≤ x ∧ y < m
     ·exact hS7 x y e.1 g2 e.2
     ·have hO' : Outer ltI a b p m l6 ∨ True := .inr trivial
      have key : Le ltI l7 x y := by
       intro u v hu hv
       by_cases ex : p ≤ x ∧ x < m
       ·obtain ⟨x', e1, e2, e3⟩ := hP7.mem x u ex.1 ex.2 hu
        rw [hP7.out y (by omega)] at hv
        exact hsp x' y (by omega) (by omega) g3 (by omega) (by omega) u v e3 hv
       ·rw [hP7.out x (by omega)] at hu
        by_cases ey : p ≤ y ∧ y < m
        ·obtain ⟨y', e1, e2, e3⟩ := hP7.mem y v ey.1 ey.2 hv
         exact hsp x y' g1 (by omega) (by omega) (by omega) (by omega) u v hu e3
        ·rw [hP7.out y (by omega)] at hv
         exact hsp x y g1 g2 g3 (by omega) (by omega) u v hu hv
      exact key
    ·intro _ y g1 g2
     rw [show m + 1 - 1 = m by omega]
     exact Le.congr (hP7.out m (by omega)) (hP7.out y (by omega)) (hPt.2 y (by omega) g2)
    ·show ((q : Int) - ((m : Int) + 1)).toNat < ((q : Int) - (p : Int)).toNat
     omega
   ·rw [show ((m : Int) + 1) = ((m + 1 : Nat) : Int) by omega]
    have hF7 : Floor ltI (m + 1) q l6 := fun _ y g1 g2 => by rw [show m + 1 - 1 = m by omega]; exact hPt.2 y (by omega) g2
    refine (ih l6 (m + 1) q lim3 w6 (by omega) h6.own.rows (by omega) (by omega) (by omega) hz0 hz1 hF7).mono ?_
    rintro _ w7 ⟨rfl, hp7⟩
    obtain ⟨hk7, l7, h7, hP7, hS7⟩ := hp7.ds h6
    refine ⟨rfl, hk7, ⟨p, m, l7, rfl, rfl, hp, hm1, by omega, hz0, hz1, h7, hPa.trans (hP7.mono (by omega) hq), ?_, ?_⟩, ?_⟩
    ·intro x y g1 g2 g3 g4 
     by_cases e : m + 1 ≤ x ∧ y < q
     ·exact hS7 x y e.1 g2 e.2
     ·intro u v hu hv
      by_cases ex : m + 1 ≤ x ∧ x < q
      ·obtain ⟨x', e1, e2, e3⟩ := hP7.mem x u ex.1 ex.2 hu
       rw [hP7.out y (by omega)] at hv
       exact hsp x' y (by omega) (by omega) g3 (by omega) (by omega) u v e3 hv
      ·rw [hP7.out x (by omega)] at hu
       by_cases ey : m + 1 ≤ y ∧ y < q
       ·obtain ⟨y', e1, e2, e3⟩ := hP7.mem y v ey.1 ey.2 hv
        exact hsp x y' g1 (by omega) (by omega) (by omega) (by omega) u v hu e3
       ·rw [hP7.out y (by omega)] at hv
        exact hsp x y g1 g2 g3 (by omega) (by omega) u v hu hv
    ·exact fun h0 y g1 g2 => Le.congr (hP7.out (p - 1) (by omega)) (hP7.out y (by omega)) (hF6 h0 y g1 (by omega))
    ·show ((m : Int) - (p : Int)).toNat < ((q : Int) - (p : Int)).toNat
     omega
  refine ⟨fun hc => ?_, fun hc H5 w5 hs5 => fin H5 w5 (h4.hst hs5)⟩
  have hc := of_decide_eq_true hc
  obtain ⟨x, hx⟩ := at_of (l := l4) (i := p - 1) (by omega)
  obtain ⟨y, hy⟩ := at_of (l := l4) (i := pv) (by omega)
  refine h4.two (i := p - 1) (j := pv) (by omega) rfl hx hy ⟨fun hlt H5 w5 hs5 => ?_, fun _ H5 w5 hs5 => fin H5 w5 (h4.hst hs5)⟩
  have hlt := not_lt hlt
  have h5 := h4.hst hs5
  refine (c_partEq s l4 p q pv w5 h5.own.rows (by omega) (by omega) hpv1 hpv2 (fun z g1 g2 u v hu hv => ?_)).mono ?_
  ·rw [hy] at hu; cases hu
   exact ordI.trans _ _ _ hlt (hF4 (by omega) z g1 g2 _ _ hx hv)
  rintro _ w6 ⟨r3, rfl, m, rfl, hm1, hm2, hp6⟩
  obtain ⟨hk6, l6, h6, hP6, hSp⟩ := hp6.ds h5
  have hO6 := hO4.perm hP6 hp hq
  refine ⟨_, rfl, hk6, ⟨m, q, l6, rfl, rfl, by omega, hm2, hq, hz0, hz1, h6, hP4.trans (hP6.mono hp hq), ?_, ?_⟩, ?_⟩
  ·intro u v g1 g2 g3 g4
   by_cases e : u < p ∨ q ≤ u ∨ v < p ∨ q ≤ v
   ·exact hO6 u v g1 g2 g3 e
   ·exact hSp u v (by omega) (by omega) g2 (by omega)
  ·exact fun _ v g1 g2 => hSp (m - 1) v (by omega) (by omega) (by omega) g2
  ·show ((q : Int) - (m : Int)).toNat < ((q : Int) - (p : Int)).toNat
   omega
 have J3 : ∀ (l4 : List Int) (lim3 hint : Int) (pv : Nat) (H : Nat → Prop) (w : World), 0 ≤ lim3 → lim3 ≤ 64 → p + 12 < q → p ≤ pv → pv < q → DS w0 H w s l4 → PermIn a b l l4 → Outer ltI a b p q l4 → Floor ltI p q l4 →
   m_M_j3 s p q bal part lim3 pv hint w0 H w (fun y'0 y'1 y'2 y'3 y'4 H' w' => QInv w0 s l a b y'0 y'1 y'2 y'3 y'4 H' w' ∧ qmu y'0 y'1 y'2 y'3 y'4 w' < qmu p q lim2 bal part w1) (SP w0 s (fun l' => PermIn a b l l' ∧ SortedIn ltI a b l')) := by
  intro l4 lim3 hint pv H w hz0 hz1 h12 hpv1 hpv2 h4 hP4 hO4 hF4
  have hl4 := hP4.len
  unfold m_M_j3
  refine ⟨fun _ H5 w5 hs5 => ?_, fun _ H5 w5 hs5 => J4 l4 lim3 pv H5 w5 hz0 hz1 h12 hpv1 hpv2 (h4.hst hs5) hP4 hO4 hF4⟩
  have h5 := h4.hst hs5
  refine (c_partial s l4 p q w5 h5.own.rows (by omega) (by omega) (by omega) hF4).mono ?_
  rintro _ w6 ⟨r, rfl, hp6⟩
  obtain ⟨hk6, l6, h6, hP6, hS6⟩ := hp6.ds h5
  have hO6 := hO4.perm hP6 hp hq
  refine ⟨_, rfl, hk6, fun hr => ?_, fun _ => ?_⟩
  ·exact h6.sp ⟨hP4.trans (hP6.mono hp hq), hO6.done (hS6 hr)⟩
  ·exact J4 l6 lim3 pv H5 w6 hz0 hz1 h12 hpv1 hpv2 h6 (hP4.trans (hP6.mono hp hq)) hO6 (hF4.perm hP6)
 have J2 : ∀ (l4 : List Int) (lim3 : Int) (H : Nat → Prop) (w : World), 0 ≤ lim3 → lim3 ≤ 64 → p + 12 < q → DS w0 H w s l4 → PermIn a b l l4 → Outer ltI a b p q l4 → Floor ltI p q l4 →
   m_M_j2 s p q bal part lim3 w0 H w (fun y'0 y'1 y'2 y'3 y'4 H' w' => QInv w0 s l a b y'0 y'1 y'2 y'3 y'4 H' w' ∧ qmu y'0 y'1 y'2 y'3 y'4 w' < qmu p q lim2 bal part w1) (SP w0 s (fun l' => PermIn a b l l' ∧ SortedIn ltI a b l')) := by
  intro l4 lim3 H w hz0 hz1 h12 h4 hP4 hO4 hF4
  have hl4 := hP4.len
  unfold m_M_j2
  refine (c_pivot s l4 p q w h4.own.rows (by omega) (by omega) h12).mono ?_
  rintro _ w5 ⟨r1, r2, rfl, ⟨pv, rfl, g1, g2⟩, E5⟩
  have h5 := h4.pure E5
  refine ⟨_, _, rfl, E5.keptP, fun _ => ?_, fun _ => J3 l4 lim3 r2 pv H w5 hz0 hz1 h12 g1 g2 h5 hP4 hO4 hF4⟩
  refine (c_rev s l4 p q w5 h5.own.rows (by omega) (by omega) (by omega)).mono ?_
  rintro _ w6 ⟨rfl, hp6⟩
  obtain ⟨hk6, l6, h6, hP6⟩ := hp6.ds h5
  simp (disch := omega) only [i64]
  rw [show ((q : Int) - 1 - ((pv : Int) - (p : Int))) = ((q - 1 - (pv - p) : Nat) : Int) by omega]
  exact ⟨trivial, hk6, J3 l6 lim3 1 _ H w6 hz0 hz1 h12 (by omega) (by omega) h6 (hP4.trans (hP6.mono hp hq)) (hO4.perm hP6 hp hq) (hF4.perm hP6)⟩
 refine ⟨fun _ => ?_, fun hc => ?_⟩
 ·refine (c_isort s l1 p q w1 h1.own.rows (by omega) (by omega) hpq).mono ?_
  rintro _ w2 ⟨rfl, hp2⟩
  obtain ⟨hk2, l2, h2, hP2, hS2⟩ := hp2.ds h1
  exact ⟨rfl, hk2, h2.sp ⟨hP1.trans (hP2.mono hp hq), (hO1.perm hP2 hp hq).done hS2⟩⟩
 ·have hc := of_decide_eq_false hc
  refine ⟨fun _ => ?_, fun hz => ?_⟩
  ·refine (c_heap s l1 p q w1 h1.own.rows (by omega) (by omega) (by omega)).mono ?_
   rintro _ w2 ⟨rfl, hp2⟩
   obtain ⟨hk2, l2, h2, hP2, hS2⟩ := hp2.ds h1
   exact ⟨rfl, hk2, h2.sp ⟨hP1.trans (hP2.mono hp hq), (hO1.perm hP2 hp hq).done hS2⟩⟩
  ·have hz : lim2 ≠ 0 := by simpa using hz
   refine ⟨fun _ => ?_, fun _ => J2 l1 lim2 H1 w1 hm0 hm1 (by omega) h1 hP1 hO1 hF1⟩
   refine (c_break s l1 p q w1 h1.own.rows (by omega) (by omega) (by omega)).mono ?_
   rintro _ w2 ⟨rfl, hp2⟩
   obtain ⟨hk2, l2, h2, hP2⟩ := hp2.ds h1
   simp (disch := omega) only [i64]
   exact ⟨trivial, hk2, J2 l2 (lim2 - 1) H1 w2 (by omega) (by omega) (by omega) h2 (hP1.trans (hP2.mono hp hq)) (hO1.perm hP2 hp hq) (hF1.perm hP2)⟩
theorem c_Sort (s : Sl) (l : List Int) (w0 : World) (h : Rws w0 23 1 s (tmr l)) (hn : l.length ≤ 1000000) :
  Calls Try.prog 46 #[s.v] w0 (fun e w' => e = .returned (.tuple #[]) ∧ SP w0 s (fun l' => l'.Perm l ∧ l'.Pairwise (· ≤ ·)) w') := by
 refine w_N3 _ w0 (SP w0 s (fun l' => l'.Perm l ∧ l'.Pairwise (· ≤ ·))) ?_
 unfold m_N3
 have hlen : s.len = l.length := by rw [h.len, tmr_len]
 rw [hlen, IntWalk.u64_in _ (by omega)]
 refine (c_Len l.length w0 hn).mono ?_
 rintro _ w1 ⟨r, rfl, rfl, rfl⟩
 refine ⟨_, rfl, ?_⟩
 have hb : Lib.bitLen l.length ≤ 64 := bitLen_le64 _ (by omega)
 refine (c_pdq s (l.length + 1) l 0 l.length _ w1 (by omega) h (Nat.le_refl _) hn (Nat.zero_le _) (by omega) (by omega) (fun h => by omega)).mono ?_
 rintro _ w2 ⟨rfl, l', h1, h2, hP, hS⟩
 refine ⟨rfl, l', h1, h2, hP.perm, ?_⟩
 rw [List.pairwise_iff_getElem]
 intro i j hi hj hij
 have := hS i j (Nat.zero_le _) hij (by rw [← hP.len]; exact hj) _ _ (List.getElem?_eq_getElem hi) (List.getElem?_eq_getElem hj)
 simp [ltI] at this
 exact this
end Go.Proofs
end
section
open Go Go.SE
namespace Go.Proofs
attribute [local irreducible] Calls
theorem knows_eq (who : Int) (n : Sp.Node) : s_G who n.kind n.frm n.to n.num n.text n.a n.b = (Sp.twoK n.kind && Sp.tellsN who n) := by simp [s_G, Sp.twoK, Sp.tellsN]
theorem c_View1 (pc : Addr) (who : Int) (w : World) (n : Sp.Node) (hc : Box w pc [.int .i64 who] 3) : Calls Try.prog 55 #[.agg #[.int .i64 n.kind, .int .i64 n.frm, .int .i64 n.to, .int .u64 n.num, .string n.text, .int .i64 n.a, .int .i64 n.b], .pointer (some pc)] w (fun e w' => ∃ (k r t' u : Int) (x : ByteArray) (a b : Int), e = .returned (.agg #[.int .i64 k, .int .i64 r, .int .i64 t', .int .u64 u, .string x, .int .i64 a, .int .i64 b]) ∧ ((⟨k, r, t', u, x, a, b⟩ : Sp.Node) = Sp.viewN who n ∧ Pure w w')) := by
 refine w_F3 _ _ _ _ _ _ _ _ w (fun k r t' u x a b w' => (⟨k, r, t', u, x, a, b⟩ : Sp.Node) = Sp.viewN who n ∧ Pure w w') ?_
 unfold m_F3
 refine ⟨fun h1 H2 w3 hs3 => ?_, fun h1 H2 w9 hs9 => ?_⟩
 ·have E3 : Pure w w3 := hs3.first
  refine ⟨who, (hc.pure E3).cell0, fun H3 w8 hs8 => ⟨?_, E3.hst hs8⟩⟩
  rw [knows_eq]
  unfold Sp.viewN
  have h1' : Sp.twoK n.kind = true := h1
  rw [h1']
  cases Sp.tellsN who n <;> simp
 ·have h1' : Sp.twoK n.kind = false := h1
  exact ⟨by unfold Sp.viewN; rw [h1']; simp, hs9.first⟩
theorem c_Swap1 (pc : Addr) (who : Int) (w : World) (n : Sp.Node) (hc : Box w pc [.int .i64 who] 3) : Calls Try.prog 43 #[.agg #[.int .i64 n.kind, .int .i64 n.frm, .int .i64 n.to, .int .u64 n.num, .string n.text, .int .i64 n.a, .int .i64 n.b], .pointer (some pc)] w (fun e w' => ∃ (k r t' u : Int) (x : ByteArray) (a b : Int), e = .returned (.agg #[.int .i64 k, .int .i64 r, .int .i64 t', .int .u64 u, .string x, .int .i64 a, .int .i64 b]) ∧ ((⟨k, r, t', u, x, a, b⟩ : Sp.Node) = Sp.swapN who n ∧ Pure w w')) := by
 refine w_E3 _ _ _ _ _ _ _ _ w (fun k r t' u x a b w' => (⟨k, r, t', u, x, a, b⟩ : Sp.Node) = Sp.swapN who n ∧ Pure w w') ?_
 unfold m_E3
 refine ⟨fun h1 H2 w3 hs3 => ?_, fun h1 H2 w9 hs9 => ?_⟩
 ·have E3 : Pure w w3 := hs3.first
  refine ⟨who, (hc.pure E3).cell0, fun H3 w8 hs8 => ⟨?_, E3.hst hs8⟩⟩
  unfold Sp.swapN
  rw [h1]
  cases (n.to == who) <;> simp
 ·exact ⟨by unfold Sp.swapN; rw [h1]; simp, hs9.first⟩
theorem Turned.first {f : Sp.Node → Sp.Node} {p : Addr} {who t r e : Int} {L0 : Sp.Pool} {FP : Nat → Prop} {w0 w1 w' : World} (h : Turned f p who t L0 FP w1 r e w') (E : Pure w0 w1) : Turned f p who t L0 FP w0 r e w' := by
 rcases h with ⟨h1, h2, h3, h4⟩ | ⟨h1, h2, h3, h4, h5⟩ | ⟨h1, h2, h3, L, FP', h4, h5, h6, h7⟩
 ·exact .inl ⟨h1, h2, h3, E.trans h4⟩
 ·exact .inr (.inl ⟨h1, h2, h3, h4, E.trans h5⟩)
 ·exact .inr (.inr ⟨h1, h2, h3, L, FP', h4, (E.pure (F := FP)).trans h5, fun b hb => (h6 b hb).imp_right (fun h => Nat.le_trans E.size h), h7⟩)
section
variable (p : Addr) (who t : Int) (w0 : World) {L : Sp.Pool} {FP : Nat → Prop} (hW : Sp.Wf L) (hP : PoolAt w0 p L FP)
include hW hP
theorem c_View (hroom : 2 * L.length ≤ 65000) : Calls Try.prog 24 #[.pointer (some p), .int .i64 who, .int .i64 t] w0 (fun e w' => ∃ r1 r2 : Int, e = .returned (.tuple #[.int .i64 r1, .int .i64 r2]) ∧ Turned (Sp.viewN who) p who t L FP w0 r1 r2 w') := by
 refine w_Z2 _ _ _ w0 (fun r1 r2 w' => Turned (Sp.viewN who) p who t L FP w0 r1 r2 w') ?_
 unfold m_Z2
 intro p2 w1 h1
 have E1 : Pure w0 w1 := Ext.new h1
 have B := Box.of_new h1
 refine ⟨who, B.cell0, ?_⟩
 refine (c_turned _ (Sp.viewN_turn who) 55 Try.call55 p p2 who t w1 (fun w n h => c_View1 p2 who w n h) hW (hP.pure E1) B (fun hb => by have := hP.lt hb; have := h1.at_size; omega) hroom).mono ?_
 rintro _ w2 ⟨r1, r2, rfl, h⟩
 exact ⟨_, _, rfl, h.first E1⟩
theorem c_Swap (hroom : 2 * L.length ≤ 65000) : Calls Try.prog 10 #[.pointer (some p), .int .i64 who, .int .i64 t] w0 (fun e w' => ∃ r1 r2 : Int, e = .returned (.tuple #[.int .i64 r1, .int .i64 r2]) ∧ Turned (Sp.swapN who) p who t L FP w0 r1 r2 w') := by
 refine w_A3 _ _ _ w0 (fun r1 r2 w' => Turned (Sp.swapN who) p who t L FP w0 r1 r2 w') ?_
 unfold m_A3
 intro p2 w1 h1
 have E1 : Pure w0 w1 := Ext.new h1
 have B := Box.of_new h1
 refine ⟨who, B.cell0, ?_⟩
 refine (c_turned _ (Sp.swapN_turn who) 43 Try.call43 p p2 who t w1 (fun w n h => c_Swap1 p2 who w n h) hW (hP.pure E1) B (fun hb => by have := hP.lt hb; have := h1.at_size; omega) hroom).mono ?_
 rintro _ w2 ⟨r1, r2, rfl, h⟩
 exact ⟨_, _, rfl, h.first E1⟩
theorem c_Tells : Calls Try.prog 21 #[.pointer (some p), .int .i64 who, .int .i64 t] w0 (fun e w' => ∃ r : Bool, e = .returned (.bool r) ∧ (r = (Sp.inP L t && (Sp.twoK (Sp.nodeOf L t).kind && Sp.tellsN who (Sp.nodeOf L t))) ∧ Pure w0 w')) := by
 refine w_B3 _ _ _ w0 (fun r w' => r = (Sp.inP L t && (Sp.twoK (Sp.nodeOf L t).kind && Sp.tellsN who (Sp.nodeOf L t))) ∧ Pure w0 w') ?_
 unfold m_B3
 refine (c_Node p t w0 hP hW.ok).mono ?_
 rintro _ w1 ⟨k, r, t', u, x, a, b, r1, rfl, ⟨hn, rfl⟩, E1⟩
 refine ⟨_, _, _, _, _, _, _, _, rfl, E1.keptP, fun H3 w7 hs7 => ⟨?_, E1.hst hs7⟩⟩
 rw [← hn, ← knows_eq]
def promL (L : Sp.Pool) (to : Int) (l : List Int) : List Int := l.filter fun u => (Sp.nodeOf L u).kind == 8 && (Sp.nodeOf L u).to == to
theorem c_Promises : Calls Try.prog 12 #[.pointer (some p), .int .i64 who, .int .i64 t] w0 (fun e w' => ∃ r : Sl, e = .returned r.v ∧ ∃ l, RetO w0 23 1 (tmr l) r w' ∧ l.Perm (promL L who (Sp.subs L t)) ∧ l.Pairwise (· ≤ ·)) := by
 suffices key : ∀ K : Sl → World → Prop, (∀ r w', (∃ l, RetO w0 23 1 (tmr l) r w' ∧ l.Perm (promL L who (Sp.subs L t)) ∧ l.Pairwise (· ≤ ·)) → K r w') → m_D2 (some p) who t w0 K from
  w_D2 _ _ _ w0 _ (key _ (fun _ _ h => h))
 intro K hK
 unfold m_D2
 intro p2 w1 h1 p3 w2 h2
 have E1 : Pure w0 w1 := Ext.new h1
 have E2 : Pure w1 w2 := Ext.new h2
 have B2 := (Box.of_new h1).pure E2
 have B3 := Box.of_new h2
 have s1 := h1.at_size; have s2 := h2.at_size; have l1 := (Box.of_new h1).lt; have l2 := B3.lt
 have z1 := E1.size; have z2 := E2.size
 have E02 := E1.trans E2
 have hnil : ∀ b, ¬ Sl.nil.blk b := fun b hb => by obtain ⟨a, h, _⟩ := hb; cases h
 refine ⟨some p, B2.cell0, ?_⟩
 refine (c_Node p t w2 (hP.pure E02) hW.ok).mono ?_
 rintro _ w3 ⟨k, r, t', u, x, a, b, r1, rfl, ⟨_, rfl⟩, E3⟩
 refine ⟨_, _, _, _, _, _, _, _, rfl, E3.keptP, ?_⟩
 have E03 := E02.trans E3
 have z3 := E3.size
 refine ⟨fun hc H1 w5 hs5 => ?_, fun hc H1 w5 hs5 => ?_⟩
 ·have hin : Sp.inP L t = false := by simpa using hc
  have : Sp.subs L t = [] := by unfold Sp.subs; rw [Sp.overS, if_neg (by simp [hin])]
  refine hK _ _ ⟨[], ⟨Rws.nil _ _ _, fun b hb => (hnil b hb).elim, E03.hst hs5⟩, ?_, List.Pairwise.nil⟩
  rw [this]; exact List.Perm.refl _
 have hin : Sp.inP L t = true := by simpa using hc
 have hold : ∀ b, b < w3.heap.size → ¬ H1 b := fun b hb hh => (hs5.new b hh).elim id (fun h => by omega)
 have hlt5 := hs5.lt
 have E05 : Pure w0 w5 := E03.hst hs5
 have z5 := hs5.ext.size
 intro p5 w6 h6
 have E6 : Pure w5 w6 := Ext.new h6
 have B5 := Box.of_new h6
 have s6 := h6.at_size; have l6 := B5.lt; have z6 := E6.size
 have B26 := ((B2.pure E3).ext hs5.ext (hold _ (by omega))).pure E6
 have B36 := ((B3.pure E3).ext hs5.ext (hold _ (by omega))).pure E6
 have E06 := E05.trans E6
 refine ⟨some p, B26.cell0, ?_⟩
 refine (c_Subs p t w6).mono ?_
 rintro _ w7 ⟨_, rfl, q2, q3, rfl, Bq2, Bq3, E7⟩
 have E07 := E06.trans E7
 have z7 := E7.size
 refine ⟨_, rfl, E7.keptP, _, _, rfl, Try.call67, _, _, it_Subs hW (hP.pure E07) Bq2 Bq3, ?_⟩
 have hfew := Sp.subs_few hW t
 have hsub := fun u => Sp.subs_mem hW (t := t) (x := u)
 generalize hxs : Sp.subs L t = xs at *
 have hL := hW.ok.few
 let V : Sl → Nat → Prop := fun s b => b = p2.block ∨ b = p3.block ∨ b = p5.block ∨ s.blk b ∨ FP b
 refine ⟨fun pre Y A => ∃ s : Sl, Box A p2 [.pointer (some p)] 28 ∧ Box A p3 [.int .i64 who] 3 ∧ Box A p5 [s.v] 36 ∧ Rws A 23 1 s (tmr (promL L who pre)) ∧ PoolAt A p L FP ∧ Pure w0 A ∧ (∀ b, s.blk b → w7.heap.size ≤ b) ∧ (∀ b, V s b → ¬ Y b) ∧ w7.heap.size ≤ A.heap.size, ⟨fun _ _ _ _ => trivial, ?_, fun _ _ _ _ _ h => h.elim, fun _ _ _ _ _ h => h.elim⟩, ?_, ?_, ?_⟩
 ·rintro pre Y A Y' A' ⟨s, b2, b3, b5, hR, hp, hE, ho, hv, hz⟩ hs
  have hv' : ∀ b, V s b → ¬ Y' b := hs.disj (fun b hb => ⟨by
   rcases hb with rfl | rfl | rfl | hb | hb
   ·exact b2.lt
   ·exact b3.lt
   ·exact b5.lt
   ·exact hR.lt hb
   ·exact hp.lt hb, hv b hb⟩)
  have E := hs.ext
  exact ⟨s, b2.ext E (hv' _ (.inl rfl)), b3.ext E (hv' _ (.inr (.inl rfl))), b5.ext E (hv' _ (.inr (.inr (.inl rfl)))), hR.ext E (fun b hb => hv' b (.inr (.inr (.inr (.inl hb))))), hp.ext E (fun b hb => hv' b (.inr (.inr (.inr (.inr hb))))), hE.hst hs, ho, hv', Nat.le_trans hz E.size⟩
 ·refine ⟨Sl.nil, B26.pure E7, B36.pure E7, B5.pure E7, Rws.nil _ _ _, hP.pure E07, E07, fun b hb => (hnil b hb).elim, ?_, Nat.le_refl _⟩
  rintro b (rfl | rfl | rfl | hb | hb) hh
  ·exact hold _ (by omega) hh
  ·exact hold _ (by omega) hh
  ·have := hlt5 _ hh; omega
  ·exact hnil b hb
  ·exact hold _ (by have := hP.lt hb; have := E03.size; omega) hh
 ·rintro pre z Y A ⟨s, b2, b3, b5, hR, hp, hE, ho, hv, hz⟩ hsA ⟨post, hpost⟩
  refine ⟨some p, b2.cell0, ?_⟩
  refine (c_Node p z A hp hW.ok).mono ?_
  rintro _ w8 ⟨k, r, t', u, x, a, b, r3, rfl, ⟨hn, _⟩, E8⟩
  refine ⟨_, _, _, _, _, _, _, _, rfl, E8.keptP, ?_⟩
  have hk : k = (Sp.nodeOf L z).kind := by rw [← hn]
  have ht' : t' = (Sp.nodeOf L z).to := by rw [← hn]
  have skip : ∀ (H2 : Nat → Prop) (w10 : World), Hst A None w8 H2 w10 → ((Sp.nodeOf L z).kind == 8 && (Sp.nodeOf L z).to == who) = false → Kept Y A w10 ∧ ∃ s : Sl, Box w10 p2 [.pointer (some p)] 28 ∧ Box w10 p3 [.int .i64 who] 3 ∧ Box w10 p5 [s.v] 36 ∧ Rws w10 23 1 s (tmr (promL L who (pre ++ [z]))) ∧ PoolAt w10 p L FP ∧ Pure w0 w10 ∧ (∀ b, s.blk b → w7.heap.size ≤ b) ∧ (∀ b, V s b → ¬ Y b) ∧ w7.heap.size ≤ w10.heap.size := by
   intro H2 w10 hs10 hno
   have E : Pure A w10 := E8.hst hs10
   refine ⟨E.kept (fun b _ h => h.elim), s, b2.pure E, b3.pure E, b5.pure E, ?_, hp.pure E, hE.trans E, ho, hv, Nat.le_trans hz E.size⟩
   rw [promL, List.filter_append]
   simp only [List.filter_cons, hno, List.filter_nil, List.append_nil, Bool.false_eq_true, if_false]
   exact hR.pure E
  refine ⟨fun hc1 H2 w10 hs10 => ?_, fun hc1 H2 w10 hs10 => skip H2 w10 hs10 (by rw [← hk, hc1]; rfl)⟩
  have E10 : Pure A w10 := E8.hst hs10
  refine ⟨who, (b3.pure E10).cell0, fun hc2 => ?_, fun hc2 => skip H2 w10 hs10 (by rw [← ht', hc2, Bool.and_false])⟩
  have hyes : ((Sp.nodeOf L z).kind == 8 && (Sp.nodeOf L z).to == who) = true := by rw [← hk, ← ht', hc1, hc2]; rfl
  refine ⟨s, (b5.pure E10).cell0, ?_⟩
  intro p7 w11 h11
  have E11 : Pure w10 w11 := Ext.new h11
  have hlen : (promL L who pre).length ≤ 65536 := by
   have : (promL L who pre).length ≤ pre.length := List.length_filter_le _ _
   have : pre.length < xs.length := by rw [hpost]; simp
   omega
  have hR11 := (hR.pure E10).pure E11
  obtain ⟨s1', w12, hr12, R12, X12, f12⟩ := hR11.append (P := Try.prog) (ty := 36) (c := 1) slT_tm (r := [.int .i64 z]) (Box.of_new h11).row rfl rfl (by rw [tmr_len]; omega) (by rw [tmr_len]; simp [maxLen]; omega)
  have hns : ∀ b, s.blk b → b < A.heap.size := fun b hb => hR.lt hb
  have z10 := E10.size; have z11 := E11.size; have z12 := X12.size
  have hH2lt := hs10.lt
  have hH2old := hs10.old
  have d5 : ¬ s.blk p5.block := fun hb => by have := ho _ hb; omega
  have b5' := ((b5.pure E10).pure E11).ext X12 d5
  refine ⟨s1', w12, hr12, X12.kept (fun b hH hb => by have := hH2old b hH; have := hns b hb; omega), b5'.canW0 (by simp), fun hh => by have := hH2old _ hh; have := b5.lt; omega, fun w13 h13 => ?_⟩
  have E13 : Ext (· = p5.block) w12 w13 := by rw [h13]; exact Ext.setCell p5 _
  have b13 : Box w13 p5 [s1'.v] 36 := by rw [h13]; exact b5'.set0
  have o2 : ∀ b, s1'.blk b → w7.heap.size ≤ b := fun b hb => (f12 b hb).elim (ho b) (fun h => by omega)
  have hYlt := hsA.lt
  have n5 : ¬ Y p5.block := hv _ (.inr (.inr (.inl rfl)))
  refine ⟨?_, s1', ?_, ?_, b13, ?_, ?_, ?_, o2, ?_, ?_⟩
  ·have XX : Ext (fun b => s.blk b ∨ b = p5.block) A w13 := (((E10.trans E11).pure).trans (X12.mono (fun b _ h => .inl h))).trans (E13.mono (fun b _ h => .inr h))
   exact XX.kept (fun b hY hb => hb.elim (fun h => hv b (.inr (.inr (.inr (.inl h)))) hY) (fun h => n5 (h ▸ hY)))
  ·exact (((b2.pure E10).pure E11).ext X12 (fun hb => by have := ho _ hb; omega)).ext E13 (by omega)
  ·exact (((b3.pure E10).pure E11).ext X12 (fun hb => by have := ho _ hb; omega)).ext E13 (by omega)
  ·rw [promL, List.filter_append]
   simp only [List.filter_cons, hyes, List.filter_nil, if_true]
   rw [show tmr (List.filter (fun u => (Sp.nodeOf L u).kind == 8 && (Sp.nodeOf L u).to == who) pre ++ [z]) = tmr (promL L who pre) ++ [[.int .i64 z]] by simp [tmr, promL]]
   exact R12.ext E13 (fun b hb e => by have := o2 b hb; omega)
  ·refine (((hp.pure E10).pure E11).ext X12 (fun b hb hb2 => by have := hP.lt hb; have := ho b hb2; have := E07.size; omega)).ext E13 (fun b hb e => by have := hP.lt hb; have := E05.size; omega)
  ·exact ((hE.trans (E10.trans E11)).trans' X12 (fun i hi hb => by have := ho i hb; have := E07.size; omega)).own (by omega) E13
  ·rintro b (rfl | rfl | rfl | hb | hb) hY
   ·exact hv _ (.inl rfl) hY
   ·exact hv _ (.inr (.inl rfl)) hY
   ·exact n5 hY
   ·rcases f12 b hb with h | h
    ·exact hv b (.inr (.inr (.inr (.inl h)))) hY
    ·have := hYlt b hY; omega
   ·exact hv b (.inr (.inr (.inr (.inr hb)))) hY
  ·have := E13.size; omega
 ·rintro H3 w14 hs14 _ _ ⟨s, b2, b3, b5, hR, hp, hE, ho, hv, hz⟩
  refine ⟨s, b5.cell0, ?_⟩
  have hlen : (promL L who xs).length ≤ 65536 := by
   have : (promL L who xs).length ≤ xs.length := List.length_filter_le _ _
   omega
  refine (c_Sort s (promL L who xs) w14 hR (by omega)).mono ?_
  rintro _ w15 ⟨rfl, l, hl, hx, hperm, hsort⟩
  have hvs : ∀ b, s.blk b → ¬ H3 b := fun b hb => hv b (.inr (.inr (.inr (.inl hb))))
  have d5 : ¬ s.blk p5.block := fun hb => by have := ho _ hb; omega
  refine ⟨rfl, hx.kept (fun b hH hb => hvs b hb hH), s, (b5.ext hx d5).cell0, fun w16 hs16 => ?_⟩
  refine hK _ _ ⟨l, ⟨hl.ext hs16.ext hvs, fun b hb => by have := ho b hb; have := E07.size; omega, ?_⟩, hperm, hsort⟩
  exact (hE.trans' hx (fun i hi hb => by have := ho i hb; have := E07.size; omega)).hst hs16
end
end Go.Proofs
end
section
open Go Go.SE
namespace Go.Sp
def swapR (R : List (Int × Int)) : List (Int × Int) := R.map fun p => (p.2, p.1)
def eqN (who : Int) (n o : Node) : Bool :=
 n.frm == o.frm && (n.to == o.to && (n.num == o.num && (decide (n.text = o.text) && (n.kind == o.kind || (twoK n.kind && twoK o.kind && !tellsN who n && !tellsN who o)))))
def matchS (L : Pool) (who : Int) : Nat → Int → Int → List (Int × Int) → Bool × List (Int × Int)
 | 0, _, _, R => (false, R)
 | n + 1, a, b, R =>
  if (SE.look R a).isSome || (SE.look (swapR R) b).isSome then (decide (SE.look R a = some b) && decide (SE.look (swapR R) b = some a), R)
  else if inP L a = false ∨ inP L b = false then (false, R)
  else if eqN who (nodeOf L a) (nodeOf L b) = false then (false, R ++ [(a, b)])
  else
   let s1 := if (nodeOf L a).a = 0 then (true, R ++ [(a, b)]) else matchS L who n (nodeOf L a).a (nodeOf L b).a (R ++ [(a, b)])
   if s1.1 = false then (false, s1.2)
   else if (nodeOf L a).b = 0 then (true, s1.2) else matchS L who n (nodeOf L a).b (nodeOf L b).b s1.2
def alikeS (L : Pool) (who : Int) : List Int → List Int → List (Int × Int) → Bool
 | a :: l, b :: m, R => (matchS L who (a.toNat + 1) a b R).1 && alikeS L who l m (matchS L who (a.toNat + 1) a b R).2
 | _, _, _ => true
def alike (L : Pool) (who : Int) (l m : List Int) : Bool := isName who && (l.length == m.length && alikeS L who l m [])
theorem swapR_snoc (R : List (Int × Int)) (a b : Int) : swapR (R ++ [(a, b)]) = swapR R ++ [(b, a)] := by simp [swapR]
end Go.Sp
namespace Go.Proofs
attribute [local irreducible] Calls
structure AlkAt (w : World) (p c1 c2 c3 c4 c5 : Addr) (m1 m2 : Nat) (who : Int) (L : Sp.Pool) (FP : Nat → Prop) (R : List (Int × Int)) : Prop where
 b1 : Box w c1 [.map (some m1)] 91
 b2 : Box w c2 [.map (some m2)] 91
 b3 : Box w c3 [.pointer (some p)] 28
 b4 : Box w c4 [.int .i64 who] 3
 b5 : Box w c5 [.func (.func 49) #[] #[.pointer (some c1), .pointer (some c2), .pointer (some c3), .pointer (some c4), .pointer (some c5)]] 92
 mp1 : IMap imk w m1 R
 mp2 : IMap imk w m2 (Sp.swapR R)
 pool : PoolAt w p L FP
 ne : m1 ≠ m2
 n1 : m1 ≠ c1.block ∧ m1 ≠ c2.block ∧ m1 ≠ c3.block ∧ m1 ≠ c4.block ∧ m1 ≠ c5.block ∧ ¬ FP m1
 n2 : m2 ≠ c1.block ∧ m2 ≠ c2.block ∧ m2 ≠ c3.block ∧ m2 ≠ c4.block ∧ m2 ≠ c5.block ∧ ¬ FP m2
section
variable {w w' : World} {p c1 c2 c3 c4 c5 : Addr} {m1 m2 : Nat} {who : Int} {L : Sp.Pool} {FP : Nat → Prop} {R : List (Int × Int)}
def AlkB (p c1 c2 c3 c4 c5 : Addr) (m1 m2 : Nat) (FP : Nat → Prop) (b : Nat) : Prop := b = c1.block ∨ b = c2.block ∨ b = c3.block ∨ b = c4.block ∨ b = c5.block ∨ b = m1 ∨ b = m2 ∨ FP b
theorem AlkAt.ext {X : Nat → Prop} (h : AlkAt w p c1 c2 c3 c4 c5 m1 m2 who L FP R) (E : Ext X w w') (hd : ∀ b, AlkB p c1 c2 c3 c4 c5 m1 m2 FP b → ¬ X b) : AlkAt w' p c1 c2 c3 c4 c5 m1 m2 who L FP R :=
 ⟨h.b1.ext E (hd _ (by simp [AlkB])), h.b2.ext E (hd _ (by simp [AlkB])), h.b3.ext E (hd _ (by simp [AlkB])), h.b4.ext E (hd _ (by simp [AlkB])), h.b5.ext E (hd _ (by simp [AlkB])), h.mp1.ext E (hd _ (by simp [AlkB])), h.mp2.ext E (hd _ (by simp [AlkB])), h.pool.ext E (fun b hb => hd b (by simp [AlkB, hb])), h.ne, h.n1, h.n2⟩
theorem AlkAt.pure (h : AlkAt w p c1 c2 c3 c4 c5 m1 m2 who L FP R) (E : Pure w w') : AlkAt w' p c1 c2 c3 c4 c5 m1 m2 who L FP R := h.ext E (fun _ _ h => h)
theorem AlkAt.lt (h : AlkAt w p c1 c2 c3 c4 c5 m1 m2 who L FP R) {b : Nat} (hb : AlkB p c1 c2 c3 c4 c5 m1 m2 FP b) : b < w.heap.size := by
 rcases hb with rfl | rfl | rfl | rfl | rfl | rfl | rfl | hb
 ·exact h.b1.lt
 ·exact h.b2.lt
 ·exact h.b3.lt
 ·exact h.b4.lt
 ·exact h.b5.lt
 ·exact h.mp1.lt
 ·exact h.mp2.lt
 ·exact h.pool.lt hb
theorem imap_get2 {m : Nat} {M : List (Int × Int)} (h : IMap imk w m M) (a : Int) : (Instr.lookup 91 (.map (some m)) (.int .i64 a) true).run Try.prog w = .ok (.tuple #[.int .i64 (Sp.toF M a), .bool (SE.look M a).isSome]) w := by
 unfold Sp.toF
 rcases h.get Try.underlying91 Try.underlying23 (zero_term w) a true with ⟨hn, hl⟩ | ⟨v, hv, hl⟩
 ·rw [hn]; exact hl
 ·rw [hv]; exact hl
end
theorem c_match (p c1 c2 c3 c4 c5 : Addr) (m1 m2 : Nat) (who : Int) {L : Sp.Pool} {FP : Nat → Prop} (hW : Sp.Wf L) : ∀ (n : Nat) (a b : Int) (w0 : World) (R : List (Int × Int)), a.toNat < n → AlkAt w0 p c1 c2 c3 c4 c5 m1 m2 who L FP R →
  Calls Try.prog 49 #[.int .i64 a, .int .i64 b, .pointer (some c1), .pointer (some c2), .pointer (some c3), .pointer (some c4), .pointer (some c5)] w0 (fun e w' => ∃ r : Bool, e = .returned (.bool r) ∧ (r = (Sp.matchS L who n a b R).1 ∧ (r = true → AlkAt w' p c1 c2 c3 c4 c5 m1 m2 who L FP (Sp.matchS L who n a b R).2) ∧ Ext (fun x => x = m1 ∨ x = m2) w0 w')) := by
 intro n
 induction n with
 | zero => intro a b w0 R h; omega
 | succ n ih =>
 intro a b w0 R hn h
 suffices key : ∀ K : Bool → World → Prop, (∀ r w', (r = (Sp.matchS L who (n + 1) a b R).1 ∧ (r = true → AlkAt w' p c1 c2 c3 c4 c5 m1 m2 who L FP (Sp.matchS L who (n + 1) a b R).2) ∧ Ext (fun x => x = m1 ∨ x = m2) w0 w') → K r w') → m_H a b c1 c2 c3 c4 c5 w0 K from
  w_H _ _ _ _ _ _ _ w0 _ (key _ (fun _ _ h => h))
 intro K hK
 unfold m_H
 refine ⟨some m1, h.b1.cell0, _, _, imap_get2 h.mp1 a, some m2, h.b2.cell0, _, _, imap_get2 h.mp2 b, ?_⟩
 have hold : ∀ b, AlkB p c1 c2 c3 c4 c5 m1 m2 FP b → b < w0.heap.size := fun b hb => h.lt hb
 refine ⟨fun hc H5 w5 hs5 => ?_, fun hc H1 w1 hs1 => ?_⟩
 ·have e : Sp.matchS L who (n + 1) a b R = (decide (SE.look R a = some b) && decide (SE.look (Sp.swapR R) b = some a), R) := by rw [Sp.matchS, if_pos hc]
  rw [e] at hK
  refine hK _ _ ⟨?_, fun _ => h.pure hs5.first, (hs5.first).pure⟩
  unfold Sp.toF
  cases h1 : SE.look R a with
  | none => simp
  | some v =>
   cases h2 : SE.look (Sp.swapR R) b with
   | none => simp
   | some u => simp; rfl
 have hc' : ¬ ((SE.look R a).isSome || (SE.look (Sp.swapR R) b).isSome) = true := by rw [hc]; simp
 have hno1 : SE.look R a = none := by simp at hc'; exact hc'.1
 have hno2 : SE.look (Sp.swapR R) b = none := by simp at hc'; exact hc'.2
 have E1 : Pure w0 w1 := hs1.first
 have A1 := h.pure E1
 refine ⟨some p, A1.b3.cell0, ?_⟩
 refine (c_Node p a w1 A1.pool hW.ok).mono ?_
 rintro _ w9 ⟨k1, f1, t1, u1, x1, a1, b1, r1, rfl, ⟨hn1, rfl⟩, E9⟩
 refine ⟨_, _, _, _, _, _, _, _, rfl, E9.keptP, fun H9 w11 hs11 => ?_⟩
 have E11 : Pure w0 w11 := (E1.trans E9).hst hs11
 have A11 := h.pure E11
 refine ⟨some p, A11.b3.cell0, ?_⟩
 refine (c_Node p b w11 A11.pool hW.ok).mono ?_
 rintro _ w12 ⟨k2, f2, t2, u2, x2, a2, b2, r2, rfl, ⟨hn2, rfl⟩, E12⟩
 refine ⟨_, _, _, _, _, _, _, _, rfl, E12.keptP, ?_⟩
 have E012 := E11.trans E12
 refine ⟨fun hc2 H11 w15 hs15 => ?_, fun hc2 H11 w15 hs15 => ?_⟩
 ·have e : Sp.matchS L who (n + 1) a b R = (false, R) := by
   rw [Sp.matchS, if_neg hc', if_pos (by simpa [Bool.or_eq_true] using hc2)]
  rw [e] at hK
  exact hK _ _ ⟨rfl, fun h => by (cases h), (E012.hst hs15).pure⟩
 have hc2' : ¬ (Sp.inP L a = false ∨ Sp.inP L b = false) := by simpa [Bool.or_eq_false_iff] using hc2
 have hina : Sp.inP L a = true := by cases e : Sp.inP L a <;> simp_all
 have hinb : Sp.inP L b = true := by cases e : Sp.inP L b <;> simp_all
 have E15 : Pure w0 w15 := E012.hst hs15
 have A15 := h.pure E15
 have A16 := A15.pure (Ext.drew w15)
 refine ⟨fun w' => Box w' c2 [.map (some m2)] 91, A16.b2, fun w16 hw16 => ?_⟩
 subst hw16
 refine ⟨some m1, A16.b1.cell0, some m2, fun w' hw' => hw'.cell0, ?_⟩
 obtain ⟨w17, hu17, M17, E17⟩ := A16.mp1.put (P := Try.prog) Try.underlying91 Try.underlying23 hno1 b
 have hH11 : ∀ x, H11 x → w0.heap.size ≤ x := hs15.old
 have hm1 := hold m1 (by simp [AlkB])
 have hm2 := hold m2 (by simp [AlkB])
 have b2' := A16.b2.ext E17 h.n1.2.1.symm
 refine ⟨w17, hu17, b2', E17.kept (fun x hx e => by have := hH11 x hx; omega), ?_⟩
 obtain ⟨w18, hu18, M18, E18⟩ := (A16.mp2.ext E17 h.ne.symm).put (P := Try.prog) Try.underlying91 Try.underlying23 hno2 a
 refine ⟨w18, hu18, E18.kept (fun x hx e => by have := hH11 x hx; omega), ?_⟩
 have E018 : Ext (fun x => x = m1 ∨ x = m2) w0 w18 := (((E15.trans (Ext.drew w15)).pure).trans (E17.mono (fun _ _ e => .inl e))).trans (E18.mono (fun _ _ e => .inr e))
 have A18 : AlkAt w18 p c1 c2 c3 c4 c5 m1 m2 who L FP (R ++ [(a, b)]) := by
  refine ⟨(A16.b1.ext E17 h.n1.1.symm).ext E18 h.n2.1.symm, b2'.ext E18 h.n2.2.1.symm, (A16.b3.ext E17 h.n1.2.2.1.symm).ext E18 h.n2.2.2.1.symm, (A16.b4.ext E17 h.n1.2.2.2.1.symm).ext E18 h.n2.2.2.2.1.symm, (A16.b5.ext E17 h.n1.2.2.2.2.1.symm).ext E18 h.n2.2.2.2.2.1.symm, M17.ext E18 h.ne, ?_, (A16.pool.ext E17 (fun x hx e => h.n1.2.2.2.2.2 (e ▸ hx))).ext E18 (fun x hx e => h.n2.2.2.2.2.2 (e ▸ hx)), h.ne, h.n1, h.n2⟩
  rw [Sp.swapR_snoc]; exact M18
 generalize hR1 : R ++ [(a, b)] = R1 at *
 have hsz18 := E018.size
 have espec : Sp.matchS L who (n + 1) a b R = if Sp.eqN who (Sp.nodeOf L a) (Sp.nodeOf L b) = false then (false, R1) else
   if (if (Sp.nodeOf L a).a = 0 then (true, R1) else Sp.matchS L who n (Sp.nodeOf L a).a (Sp.nodeOf L b).a R1).1 = false then (false, (if (Sp.nodeOf L a).a = 0 then (true, R1) else Sp.matchS L who n (Sp.nodeOf L a).a (Sp.nodeOf L b).a R1).2)
   else if (Sp.nodeOf L a).b = 0 then (true, (if (Sp.nodeOf L a).a = 0 then (true, R1) else Sp.matchS L who n (Sp.nodeOf L a).a (Sp.nodeOf L b).a R1).2) else Sp.matchS L who n (Sp.nodeOf L a).b (Sp.nodeOf L b).b (if (Sp.nodeOf L a).a = 0 then (true, R1) else Sp.matchS L who n (Sp.nodeOf L a).a (Sp.nodeOf L b).a R1).2 := by
  rw [Sp.matchS, if_neg hc', if_neg hc2', ← hR1]
 have low : ∀ k, k = (Sp.nodeOf L a).a ∨ k = (Sp.nodeOf L a).b → k ≠ 0 → k.toNat < n := by
  intro k hk h0
  have hkid := (hW.node hina).2.2.2.2.1
  have z1 := (hW.node hina).2.1
  have z2 := (hW.node hina).2.2.1
  have ha1 := (Sp.inP_iff.1 hina).1
  have hkk : k ∈ Sp.kidsOf (Sp.nodeOf L a) := by
   unfold Sp.kidsOf
   rcases Sp.kids_le (Sp.nodeOf L a).kind with e | e | e
   ·have := z1 (by omega); have := z2 (by omega); rcases hk with rfl | rfl <;> omega
   ·have := z2 (by omega); rw [e]; rcases hk with rfl | rfl
    ·simp
    ·omega
   ·rw [e]; rcases hk with rfl | rfl <;> simp
  have := (hkid k hkk).2
  omega
 rw [← hn1, ← hn2] at espec
 rw [← hn1] at low
 simp only at espec low
 have J2 : ∀ (H : Nat → Prop) (w : World) (R2 : List (Int × Int)), (∀ x, H x → w0.heap.size ≤ x) → Ext (fun x => x = m1 ∨ x = m2) w0 w → AlkAt w p c1 c2 c3 c4 c5 m1 m2 who L FP R2 → Sp.matchS L who (n + 1) a b R = (if b1 = 0 then (true, R2) else Sp.matchS L who n b1 b2 R2) →
   m_H_j2 c5 b1 b2 true H w K := by
  intro H w R2 hH E A e
  rw [e] at hK
  unfold m_H_j2
  refine Br.t rfl ⟨fun h0 => ?_, fun h0 => ?_⟩
  ·have h0 : b1 = 0 := by simpa using h0
   rw [if_pos h0] at hK
   exact hK _ _ ⟨rfl, fun _ => A, E⟩
  ·have h0 : b1 ≠ 0 := by simpa using h0
   rw [if_neg h0] at hK
   refine ⟨_, A.b5.cell0, _, _, _, rfl, Try.call49, ?_⟩
   refine (ih b1 b2 w R2 (low b1 (.inr rfl) h0) A).mono ?_
   rintro _ w28 ⟨r3, rfl, hr, hA, E28⟩
   exact ⟨_, rfl, E28.kept (fun x hx e => by have := hH x hx; omega), hK _ _ ⟨hr, hA, E.trans E28⟩⟩
 have J2f : ∀ (H : Nat → Prop) (w : World), Ext (fun x => x = m1 ∨ x = m2) w0 w → (Sp.matchS L who (n + 1) a b R).1 = false → m_H_j2 c5 b1 b2 false H w K := by
  intro H w E e
  unfold m_H_j2
  exact Br.f rfl (hK _ _ ⟨e.symm, fun h => by (cases h), E⟩)
 have J1 : ∀ (x : Bool) (H : Nat → Prop) (w : World), (∀ y, H y → w0.heap.size ≤ y) → Ext (fun x => x = m1 ∨ x = m2) w0 w → AlkAt w p c1 c2 c3 c4 c5 m1 m2 who L FP R1 →
   (k1 == (cond x k1 k2)) = (k1 == k2 || (Sp.twoK k1 && Sp.twoK k2 && !Sp.tellsN who ⟨k1, f1, t1, u1, x1, a1, b1⟩ && !Sp.tellsN who ⟨k2, f2, t2, u2, x2, a2, b2⟩)) →
   m_H_j1 c5 k1 f1 t1 u1 x1 a1 b1 k2 f2 t2 u2 x2 a2 b2 x w0 H w K := by
  intro x H w hH E A hx
  unfold m_H_j1
  have htest : (((k1 : Int) == (cond x k1 k2)) && (((f1 : Int) == f2) && (((t1 : Int) == t2) && (((u1 : Int) == u2) && ((decide (x1 = x2)) && (((0 : Int) == 0) && ((0 : Int) == 0))))))) = Sp.eqN who ⟨k1, f1, t1, u1, x1, a1, b1⟩ ⟨k2, f2, t2, u2, x2, a2, b2⟩ := by
   rw [hx]
   unfold Sp.eqN
   simp only
   generalize (k1 == k2 || (Sp.twoK k1 && Sp.twoK k2 && !Sp.tellsN who ⟨k1, f1, t1, u1, x1, a1, b1⟩ && !Sp.tellsN who ⟨k2, f2, t2, u2, x2, a2, b2⟩)) = q
   cases q <;> cases (f1 == f2) <;> cases (t1 == t2) <;> cases (u1 == u2) <;> cases (decide (x1 = x2)) <;> rfl
  rw [htest]
  refine ⟨fun ht => ?_, fun ht H12 w27 hs27 => ?_⟩
  ·rw [if_neg (by rw [ht]; simp)] at espec
   have hstep : ∀ (H12 : Nat → Prop) (w27 : World), Hst w0 H w H12 w27 → (∀ y, H12 y → w0.heap.size ≤ y) ∧ Ext (fun x => x = m1 ∨ x = m2) w0 w27 ∧ AlkAt w27 p c1 c2 c3 c4 c5 m1 m2 who L FP R1 := fun H12 w27 hs =>
    ⟨hs.old, E.hst hs, A.ext hs.ext (fun y hy hh => by have := hold y hy; have := hs.old y hh; omega)⟩
   refine ⟨fun h0 H12 w27 hs27 => ?_, fun h0 H12 w27 hs27 => ?_⟩
   ·have h0 : a1 = 0 := by simpa using h0
    rw [if_pos h0, if_neg (by simp)] at espec
    obtain ⟨g1, g2, g3⟩ := hstep H12 w27 hs27
    unfold m_H_j3
    rw [htest]
    exact Br.t ht (J2 H12 w27 R1 g1 g2 g3 espec)
   ·have h0 : a1 ≠ 0 := by simpa using h0
    rw [if_neg h0] at espec
    obtain ⟨g1, g2, g3⟩ := hstep H12 w27 hs27
    refine ⟨_, g3.b5.cell0, _, _, _, rfl, Try.call49, ?_⟩
    refine (ih a1 a2 w27 R1 (low a1 (.inl rfl) h0) g3).mono ?_
    rintro _ w29 ⟨r4, rfl, hr, hA, E29⟩
    refine ⟨_, rfl, E29.kept (fun y hy e => by have := g1 y hy; omega), ?_⟩
    unfold m_H_j3
    rw [htest]
    refine Br.t ht ?_
    cases hr4 : r4 with
    | false =>
     rw [← hr, hr4, if_pos rfl] at espec
     exact J2f H12 w29 (g2.trans E29) (by rw [espec])
    | true =>
     rw [← hr, hr4, if_neg (by simp)] at espec
     exact J2 H12 w29 _ g1 (g2.trans E29) (hA hr4) espec
  ·rw [if_pos ht] at espec
   exact J2f H12 w27 (E.hst hs27) (by rw [espec])
 have J4 : ∀ (x : Bool) (H : Nat → Prop) (w : World), (∀ y, H y → w0.heap.size ≤ y) → Ext (fun x => x = m1 ∨ x = m2) w0 w → AlkAt w p c1 c2 c3 c4 c5 m1 m2 who L FP R1 →
   x = ((Sp.twoK k1 && Sp.twoK k2) && !Sp.tellsN who ⟨k1, f1, t1, u1, x1, a1, b1⟩) → m_H_j4 c4 c5 k1 f1 t1 u1 x1 a1 b1 k2 f2 t2 u2 x2 a2 b2 x w0 H w K := by
  intro x H w hH E A hx
  unfold m_H_j4
  refine ⟨fun h1 => ⟨who, A.b4.cell0, fun w34 hs34 => J1 _ H w34 hs34.old (E.hst hs34) (A.ext hs34.ext (fun y hy hh => by have := hold y hy; have := hs34.old y hh; omega)) ?_⟩, fun h1 => J1 false H w hH E A ?_⟩
  ·rw [h1] at hx
   have e := knows_eq who ⟨k2, f2, t2, u2, x2, a2, b2⟩
   simp only at e
   rw [e]
   simp only [eq_comm (a := true), Bool.and_eq_true, Bool.not_eq_true'] at hx
   obtain ⟨⟨q1, q2⟩, q3⟩ := hx
   rw [q1, q2, q3]
   cases Sp.tellsN who ⟨k2, f2, t2, u2, x2, a2, b2⟩ <;> simp
  ·rw [h1] at hx
   simp only [cond_false]
   have : (Sp.twoK k1 && Sp.twoK k2 && !Sp.tellsN who ⟨k1, f1, t1, u1, x1, a1, b1⟩ && !Sp.tellsN who ⟨k2, f2, t2, u2, x2, a2, b2⟩) = false := by rw [← hx]; rfl
   rw [this, Bool.or_false]
 intro y1 hy1
 have hy1' : y1 = (Sp.twoK k1 && Sp.twoK k2) := hy1
 have step : ∀ (H13 : Nat → Prop) (w32 : World), Hst w0 H11 w18 H13 w32 → (∀ y, H13 y → w0.heap.size ≤ y) ∧ Ext (fun x => x = m1 ∨ x = m2) w0 w32 ∧ AlkAt w32 p c1 c2 c3 c4 c5 m1 m2 who L FP R1 := fun H13 w32 hs =>
  ⟨hs.old, E018.hst hs, A18.ext hs.ext (fun y hy hh => by have := hold y hy; have := hs.old y hh; omega)⟩
 refine ⟨fun hy H13 w32 hs32 => ?_, fun hy H13 w32 hs32 => ?_⟩
 ·obtain ⟨g1, g2, g3⟩ := step H13 w32 hs32
  refine ⟨who, g3.b4.cell0, fun w35 hs35 => J4 _ H13 w35 hs35.old (g2.hst hs35) (g3.ext hs35.ext (fun y hy hh => by have := hold y hy; have := hs35.old y hh; omega)) ?_⟩
  have e := knows_eq who ⟨k1, f1, t1, u1, x1, a1, b1⟩
  simp only at e
  rw [e, ← hy1', hy]
  rw [hy] at hy1'
  have q1 : Sp.twoK k1 = true := by have := hy1'.symm; rw [Bool.and_eq_true] at this; exact this.1
  rw [q1]
  simp
 ·obtain ⟨g1, g2, g3⟩ := step H13 w32 hs32
  exact J4 _ H13 w32 g1 g2 g3 (by rw [← hy1', hy]; rfl)
end Go.Proofs
end
section
open Go Go.SE
namespace Go.Proofs
attribute [local irreducible] Calls
theorem alikeS_drop {L : Sp.Pool} {who : Int} {l m : List Int} {R : List (Int × Int)} {j : Nat} (hl : j < l.length) (hm : j < m.length) : Sp.alikeS L who (l.drop j) (m.drop j) R = ((Sp.matchS L who (l[j].toNat + 1) l[j] m[j] R).1 && Sp.alikeS L who (l.drop (j + 1)) (m.drop (j + 1)) (Sp.matchS L who (l[j].toNat + 1) l[j] m[j] R).2) := by
 rw [List.drop_eq_getElem_cons hl, List.drop_eq_getElem_cons hm, Sp.alikeS]
theorem c_Alike {S : Nat → Prop} (p : Addr) (who : Int) (sl sm : Sl) (l m : List Int) (w0 : World) {L : Sp.Pool} {FP : Nat → Prop} (hW : Sp.Wf L) (hP : PoolAt w0 p L FP) (hl : Lst S w0 1 sl (tmr l)) (hm : Lst S w0 1 sm (tmr m)) (hS : ∀ b, S b → b < w0.heap.size) (hn : l.length ≤ 1000000) :
  Calls Try.prog 16 #[.pointer (some p), .int .i64 who, sl.v, sm.v] w0 (fun e w' => ∃ r : Bool, e = .returned (.bool r) ∧ (r = Sp.alike L who l m ∧ Pure w0 w')) := by
 refine w_Q _ _ _ _ w0 (fun r w' => r = Sp.alike L who l m ∧ Pure w0 w') ?_
 unfold m_Q
 intro p2 w1 h1 p3 w2 h2
 have E1 : Pure w0 w1 := Ext.new h1
 have E2 : Pure w1 w2 := Ext.new h2
 have B2 := (Box.of_new h1).pure E2
 have B3 := Box.of_new h2
 have s1 := h1.at_size; have s2 := h2.at_size; have l1 := (Box.of_new h1).lt; have l2 := B3.lt
 have z1 := E1.size; have z2 := E2.size
 have E02 := E1.trans E2
 refine ⟨some p, B2.cell0, Br.f rfl ⟨who, B3.cell0, fun w14 hs14 => ?_⟩⟩
 have E14 : Pure w2 w14 := hs14.ext
 have l3 : sl.len = l.length := by rw [hl.len, tmr_len]
 have l4 : sm.len = m.length := by rw [hm.len, tmr_len]
 unfold m_Q_j3
 intro H1 w13 hs13
 have hH1 : ∀ b, H1 b → w14.heap.size ≤ b := fun b hb => (hs13.new b hb).elim (fun h => h.elim) id
 have hH1lt := hs13.lt
 have E014 := E02.trans E14
 have E013 : Pure w0 w13 := E014.hst hs13
 have z14 := E14.size; have z13 := hs13.ext.size
 have nm : (!((decide (who ≥ 0)) && (decide (who < 16)))) = !Sp.isName who := by unfold Sp.isName; rfl
 rw [nm, l3, l4]
 unfold m_Q_j1
 have hspec : Sp.alike L who l m = (Sp.isName who && (l.length == m.length && Sp.alikeS L who l m [])) := rfl
 have hne : (((l.length : Int) : Int) != (m.length : Int)) = !(l.length == m.length) := by
  by_cases e : l.length = m.length
  ·rw [e]; simp
  ·have h1 : ((l.length : Int) == (m.length : Int)) = false := by rw [beq_eq_false_iff_ne]; omega
   have h2 : (l.length == m.length) = false := by rw [beq_eq_false_iff_ne]; exact e
   rw [bne, h1, h2]
 rw [hne]
 refine ⟨fun hc => ⟨?_, E013⟩, fun hc => ?_⟩
 ·rw [hspec]
  cases h1 : Sp.isName who with
  | false => rfl
  | true =>
   cases h2 : (l.length == m.length) with
   | false => rfl
   | true => rw [h1, h2] at hc; cases hc
 have hname : Sp.isName who = true := by cases h : Sp.isName who with
  | true => rfl
  | false => rw [h] at hc; cases hc
 have hlen : l.length = m.length := by
  cases h : (l.length == m.length) with
  | true => simpa using h
  | false => rw [h, hname] at hc; cases hc
 have hspec' : Sp.alike L who l m = Sp.alikeS L who l m [] := by rw [hspec, hname, hlen]; simp
 rw [hspec']
 intro p4 w3 h3 p5 w4 h4 p6 w5 h5 p7 w6 h6
 have E3 : Pure w13 w3 := Ext.new h3
 have E4 : Pure w3 w4 := Ext.new h4
 have E5 : Pure w4 w5 := Ext.new h5
 have E6 : Pure w5 w6 := Ext.new h6
 have s3 := h3.at_size; have s4 := h4.at_size; have s5 := h5.at_size; have s6 := h6.at_size
 have M4 := IMap.of_new (f := imk) h3
 have M5 := IMap.of_new (f := imk) h4
 have B6 := Box.of_new h5
 have B7 := Box.of_new h6
 have q3 := M4.lt; have q4 := M5.lt; have q5 := B6.lt; have q6 := B7.lt
 have y3 := E3.size; have y4 := E4.size; have y5 := E5.size; have y6 := E6.size
 refine ⟨(B6.pure E6).canW0 (by simp), fun hh => by have := hH1lt _ hh; omega, fun w7 h7 => ?_⟩
 have E7 : Ext (· = p6.block) w6 w7 := by rw [h7]; exact Ext.setCell p6 _
 have B67 : Box w7 p6 [.map (some p4.block)] 91 := by rw [h7]; exact (B6.pure E6).set0
 have B77 := B7.ext E7 (by omega)
 refine ⟨B77.canW0 (by simp), fun hh => by have := hH1lt _ hh; omega, fun w8 h8 => ?_⟩
 have E8 : Ext (· = p7.block) w7 w8 := by rw [h8]; exact Ext.setCell p7 _
 have B78 : Box w8 p7 [.map (some p5.block)] 91 := by rw [h8]; exact B77.set0
 intro p8 w9 h9
 have E9 : Pure w8 w9 := Ext.new h9
 have B9 := Box.of_new h9
 have s9 := h9.at_size; have q9 := B9.lt; have y7 := E7.size; have y8 := E8.size; have y9 := E9.size
 refine ⟨B9.canW0 (by simp), fun hh => by have := hH1lt _ hh; omega, fun w10 h10 => ?_⟩
 have E10 : Ext (· = p8.block) w9 w10 := by rw [h10]; exact Ext.setCell p8 _
 have B10 : Box w10 p8 [.func (.func 49) #[] #[.pointer (some p6), .pointer (some p7), .pointer (some p2), .pointer (some p3), .pointer (some p8)]] 92 := by rw [h10]; exact B9.set0
 have up10 : ∀ {T : TypeId} {c : Addr} {vs : List Value}, Box w2 c vs T → Box w10 c vs T := fun h => by
  have hb := h.lt
  exact (((((((((h.pure E14).ext hs13.ext (fun hh => by have := hH1 _ hh; omega)).pure E3).pure E4).pure E5).pure E6).ext E7 (by omega)).ext E8 (by omega)).pure E9).ext E10 (by omega)
 have E010 : Pure w0 w10 := ((((((((E013.trans E3).trans E4).trans E5).trans E6).own (by omega) E7).own (by omega) E8).trans E9).own (by omega) E10)
 have A0 : AlkAt w10 p p6 p7 p2 p3 p8 p4.block p5.block who L FP [] :=
  ⟨((B67.ext E8 (by omega)).pure E9).ext E10 (by omega), (B78.pure E9).ext E10 (by omega), up10 B2, up10 B3, B10,
  ((((((M4.pure E4).pure E5).pure E6).ext E7 (by omega)).ext E8 (by omega)).pure E9).ext E10 (by omega), (((((M5.pure E5).pure E6).ext E7 (by omega)).ext E8 (by omega)).pure E9).ext E10 (by omega), hP.pure E010, by omega,
  ⟨by omega, by omega, by omega, by omega, by omega, fun hb => by have := hP.lt hb; omega⟩, ⟨by omega, by omega, by omega, by omega, by omega, fun hb => by have := hP.lt hb; omega⟩⟩
 have hAB : ∀ (w : World) R, AlkAt w p p6 p7 p2 p3 p8 p4.block p5.block who L FP R → ∀ b, AlkB p p6 p7 p2 p3 p8 p4.block p5.block FP b → ¬ H1 b := by
  intro w R A b hb hh
  have h1' := hH1 b hh
  have h2' := hH1lt b hh
  rcases hb with rfl | rfl | rfl | rfl | rfl | rfl | rfl | hb
  all_goals first
   | omega
   | (have := hP.lt hb; omega)
 refine ⟨fun x H A => ∃ (j : Nat) (R : List (Int × Int)), x = j ∧ j ≤ l.length ∧ AlkAt A p p6 p7 p2 p3 p8 p4.block p5.block who L FP R ∧ Pure w0 A ∧ Sp.alikeS L who l m [] = Sp.alikeS L who (l.drop j) (m.drop j) R ∧ (∀ b, AlkB p p6 p7 p2 p3 p8 p4.block p5.block FP b → ¬ H b), fun x _ => ((l.length : Int) - x).toNat, ⟨0, [], rfl, Nat.zero_le _, A0, E010, rfl, hAB _ _ A0⟩, ?_⟩
 rintro _ Hl wl hsl ⟨j, R, rfl, hj, A, E, e, hv⟩
 unfold m_Q_l2
 rw [l3]
 refine ⟨fun hc => ?_, fun hc => ⟨?_, E⟩⟩
 ·have hc := of_decide_eq_true hc
  have hj1 : j < l.length := by omega
  have hj2 : j < m.length := by omega
  have A' := A.pure (Ext.drew wl)
  have E' := E.trans (Ext.drew wl)
  refine ⟨fun _ => True, trivial, fun w11 hw11 => ?_⟩
  subst hw11
  obtain ⟨a1, at1, _, v1⟩ := tm_nth (hl.pure E') hj1
  obtain ⟨a2, at2, _, v2⟩ := tm_nth (hm.pure E') hj2
  refine ⟨_, A'.b5.cell0, a1, at1, _, v1, a2, at2, _, v2, _, _, _, rfl, Try.call49, ?_⟩
  refine (c_match p p6 p7 p2 p3 p8 p4.block p5.block who hW (l[j].toNat + 1) l[j] m[j] wl.drew R (Nat.lt_succ_self _) A').mono ?_
  rintro _ w12 ⟨r1, rfl, hr, hA, X12⟩
  have E12 : Pure w0 w12 := E'.trans' X12 (fun i hi hb => by rcases hb with rfl | rfl <;> omega)
  rw [alikeS_drop hj1 hj2] at e
  refine ⟨_, rfl, trivial, X12.kept (fun b hb hx => by rcases hx with rfl | rfl <;> exact hv _ (by simp [AlkB]) hb), fun h => ?_, fun h => ?_⟩
  ·have hf : r1 = false := by simpa using h
   rw [e, ← hr, hf]
   exact ⟨rfl, E12⟩
  ·have ht : r1 = true := by simpa using h
   rw [wrap_succ hj1 (by omega)]
   refine ⟨⟨j + 1, _, rfl, hj1, hA ht, E12, by rw [e, ← hr, ht]; rfl, hv⟩, lt_dec hj1⟩
 ·have hc := of_decide_eq_false hc
  have : j = l.length := by omega
  subst this
  rw [e, List.drop_length]
  rfl
end Go.Proofs
end
section
open Go Go.SE
namespace Go.Sp
def v1 : Node := ⟨2, 0, 0, 1, ⟨#[]⟩, 0, 0⟩
def v2 : Node := ⟨8, 0, 1, 0, ⟨#[]⟩, 1, 0⟩
def v3 : Node := ⟨9, 0, 1, 0, ⟨#[]⟩, 1, 0⟩
def vL1 : Pool := [⟨v1, 1, 1⟩]
def vL2 : Pool := [⟨v1, 1, 1⟩, ⟨v2, 2, 2⟩]
def vL3 : Pool := [⟨v1, 1, 1⟩, ⟨v2, 2, 2⟩, ⟨v3, 2, 2⟩]
theorem vm1 : make [] v1 = (1, 0, vL1) := by kernel_rfl
theorem vm2 : make vL1 v2 = (2, 0, vL2) := by kernel_rfl
theorem vm3 : make vL2 v3 = (3, 0, vL3) := by kernel_rfl
theorem vw1 : Wf vL1 := by have := make_wf Wf.nil v1; rwa [vm1] at this
theorem vw2 : Wf vL2 := by have := make_wf vw1 v2; rwa [vm2] at this
theorem vw3 : Wf vL3 := by have := make_wf vw2 v3; rwa [vm3] at this
theorem vt1 : turnS (viewN 3) vL3 (subs vL3 3) = (vL3, [(1, 1), (3, 2)]) := by kernel_rfl
theorem vt2 : turnS (viewN 1) vL3 (subs vL3 3) = (vL3, [(1, 1), (3, 3)]) := by kernel_rfl
theorem vt3 : turnS (swapN 1) vL3 (subs vL3 2) = (vL3, [(1, 1), (2, 3)]) := by kernel_rfl
theorem va1 : alike vL3 3 [2] [3] = true := by kernel_rfl
theorem va2 : alike vL3 1 [2] [3] = false := by kernel_rfl
theorem vin : inP vL3 3 = true ∧ inP vL3 2 = true := ⟨by kernel_rfl, by kernel_rfl⟩
end Go.Sp
namespace Go.Proofs
attribute [local irreducible] Calls
theorem vp1 : promL Sp.vL3 1 (Sp.subs Sp.vL3 2) = [2] := by kernel_rfl
section
variable (p : Addr) (w0 : World) {L : Sp.Pool} {F : Nat → Prop}
def MkPost (p : Addr) (L : Sp.Pool) (F : Nat → Prop) (w : World) (n : Sp.Node) (e : Ending) (w' : World) : Prop :=
 ∃ r1 r2 : Int, e = .returned (.tuple #[.int .i64 r1, .int .i64 r2]) ∧ ((r1, r2) = ((Sp.make L n).1, (Sp.make L n).2.1) ∧ ∃ F', PoolAt w' p (Sp.make L n).2.2 F' ∧ Ext F w w' ∧ ∀ b, F' b → F b ∨ w.heap.size ≤ b)
theorem c_mNum (hP : PoolAt w0 p L F) (hok : Sp.Ok L) (n : Int) : Calls Try.prog 36 #[.pointer (some p), .int .u64 n] w0 (MkPost p L F w0 ⟨2, 0, 0, n, ⟨#[]⟩, 0, 0⟩) := by
 refine w_G2 _ _ w0 (fun r1 r2 w' => (r1, r2) = ((Sp.make L ⟨2, 0, 0, n, ⟨#[]⟩, 0, 0⟩).1, (Sp.make L ⟨2, 0, 0, n, ⟨#[]⟩, 0, 0⟩).2.1) ∧ ∃ F', PoolAt w' p (Sp.make L ⟨2, 0, 0, n, ⟨#[]⟩, 0, 0⟩).2.2 F' ∧ Ext F w0 w' ∧ ∀ b, F' b → F b ∨ w0.heap.size ≤ b) ?_
 unfold m_G2
 refine (c_Make p _ _ _ _ _ _ _ w0 hP hok).mono ?_
 rintro _ w1 ⟨r1, r2, rfl, h⟩
 exact ⟨_, _, rfl, h⟩
theorem c_mProm (hP : PoolAt w0 p L F) (hok : Sp.Ok L) (f t a : Int) : Calls Try.prog 37 #[.pointer (some p), .int .i64 f, .int .i64 t, .int .i64 a] w0 (MkPost p L F w0 ⟨8, f, t, 0, ⟨#[]⟩, a, 0⟩) := by
 refine w_H2 _ _ _ _ w0 (fun r1 r2 w' => (r1, r2) = ((Sp.make L ⟨8, f, t, 0, ⟨#[]⟩, a, 0⟩).1, (Sp.make L ⟨8, f, t, 0, ⟨#[]⟩, a, 0⟩).2.1) ∧ ∃ F', PoolAt w' p (Sp.make L ⟨8, f, t, 0, ⟨#[]⟩, a, 0⟩).2.2 F' ∧ Ext F w0 w' ∧ ∀ b, F' b → F b ∨ w0.heap.size ≤ b) ?_
 unfold m_H2
 refine (c_Make p _ _ _ _ _ _ _ w0 hP hok).mono ?_
 rintro _ w1 ⟨r1, r2, rfl, h⟩
 exact ⟨_, _, rfl, h⟩
theorem c_mFake (hP : PoolAt w0 p L F) (hok : Sp.Ok L) (f t a : Int) : Calls Try.prog 38 #[.pointer (some p), .int .i64 f, .int .i64 t, .int .i64 a] w0 (MkPost p L F w0 ⟨9, f, t, 0, ⟨#[]⟩, a, 0⟩) := by
 refine w_I2 _ _ _ _ w0 (fun r1 r2 w' => (r1, r2) = ((Sp.make L ⟨9, f, t, 0, ⟨#[]⟩, a, 0⟩).1, (Sp.make L ⟨9, f, t, 0, ⟨#[]⟩, a, 0⟩).2.1) ∧ ∃ F', PoolAt w' p (Sp.make L ⟨9, f, t, 0, ⟨#[]⟩, a, 0⟩).2.2 F' ∧ Ext F w0 w' ∧ ∀ b, F' b → F b ∨ w0.heap.size ≤ b) ?_
 unfold m_I2
 refine (c_Make p _ _ _ _ _ _ _ w0 hP hok).mono ?_
 rintro _ w1 ⟨r1, r2, rfl, h⟩
 exact ⟨_, _, rfl, h⟩
end
theorem turned_in {f : Sp.Node → Sp.Node} {p : Addr} {who t r e : Int} {L : Sp.Pool} {FP : Nat → Prop} {w0 w' : World} (h : Turned f p who t L FP w0 r e w') (hn : Sp.isName who = true) (hi : Sp.inP L t = true) :
  e = 0 ∧ ∃ FP', PoolAt w' p (Sp.turnS f L (Sp.subs L t)).1 FP' ∧ Ext FP w0 w' ∧ (∀ b, FP' b → FP b ∨ w0.heap.size ≤ b) ∧ r = Sp.toF (Sp.turnS f L (Sp.subs L t)).2 t := by
 rcases h with ⟨h1, _⟩ | ⟨_, h1, _⟩ | ⟨_, _, h3, L', FP', h4, h5, h6, _, _, _, ⟨h7, h8⟩, _⟩
 ·rw [hn] at h1; cases h1
 ·rw [hi] at h1; cases h1
 ·subst h7; exact ⟨h3, FP', h4, h5, h6, h8⟩
structure LvAt (w0 w : World) (p : Addr) (L : Sp.Pool) (FP : Nat → Prop) : Prop where
 pool : PoolAt w p L FP
 pure : Pure w0 w
 own : ∀ b, FP b → w0.heap.size ≤ b
theorem LvAt.turn {w0 w w' : World} {p : Addr} {L L' : Sp.Pool} {FP FP' : Nat → Prop} (h : LvAt w0 w p L FP) (hP : PoolAt w' p L' FP') (E : Ext FP w w') (hF : ∀ b, FP' b → FP b ∨ w.heap.size ≤ b) : LvAt w0 w' p L' FP' :=
 ⟨hP, h.pure.trans' E (fun i hi hb => by have := h.own i hb; omega), fun b hb => (hF b hb).elim (h.own b) (fun hh => Nat.le_trans h.pure.size hh)⟩
theorem LvAt.pureE {w0 w w' : World} {p : Addr} {L : Sp.Pool} {FP : Nat → Prop} (h : LvAt w0 w p L FP) (E : Pure w w') : LvAt w0 w' p L FP := ⟨h.pool.pure E, h.pure.trans E, h.own⟩
theorem kept_none {w w' : World} {X : Nat → Prop} (E : Ext X w w') : Kept None w w' := ⟨E.size, fun b _ h => h.elim⟩
theorem c_live10 (w0 : World) : Calls Try.prog 8 #[] w0 (fun e w' => ∃ r : Bool, e = .returned (.bool r) ∧ (r = true ∧ Pure w0 w')) := by
 refine w_O w0 (fun r w' => r = true ∧ Pure w0 w') ?_
 unfold m_O
 refine (c_New w0).mono ?_
 rintro _ w1 ⟨_, rfl, p, rfl, E1, FP1, hP1, hF1⟩
 refine ⟨_, rfl, E1.keptP, Br.f rfl ?_⟩
 have A1 : LvAt w0 w1 p [] FP1 := ⟨hP1, E1, hF1⟩
 refine (c_mNum p w1 A1.pool Sp.Wf.nil.ok 1).mono ?_
 rintro _ w2 ⟨r2, r3, rfl, hr, FP2, hP2, X2, hF2⟩
 rw [show (⟨2, 0, 0, 1, ⟨#[]⟩, 0, 0⟩ : Sp.Node) = Sp.v1 from rfl, Sp.vm1] at hr hP2; cases hr
 have A2 := A1.turn hP2 X2 hF2
 refine ⟨_, _, rfl, kept_none X2, ?_⟩
 refine (c_mProm p w2 A2.pool Sp.vw1.ok 0 1 1).mono ?_
 rintro _ w3 ⟨r4, r5, rfl, hr, FP3, hP3, X3, hF3⟩
 rw [show (⟨8, 0, 1, 0, ⟨#[]⟩, 1, 0⟩ : Sp.Node) = Sp.v2 from rfl, Sp.vm2] at hr hP3; cases hr
 have A3 := A2.turn hP3 X3 hF3
 refine ⟨_, _, rfl, kept_none X3, ?_⟩
 refine (c_mFake p w3 A3.pool Sp.vw2.ok 0 1 1).mono ?_
 rintro _ w4 ⟨r6, r7, rfl, hr, FP4, hP4, X4, hF4⟩
 rw [show (⟨9, 0, 1, 0, ⟨#[]⟩, 1, 0⟩ : Sp.Node) = Sp.v3 from rfl, Sp.vm3] at hr hP4; cases hr
 have A4 := A3.turn hP4 X4 hF4
 refine ⟨_, _, rfl, kept_none X4, ?_⟩
 have hroom : 2 * Sp.vL3.length ≤ 65000 := by simp [Sp.vL3]
 refine (c_View p 3 3 w4 Sp.vw3 A4.pool hroom).mono ?_
 rintro _ w5 ⟨r8, r9, rfl, hT⟩
 obtain ⟨rfl, FP5, hP5, X5, hF5, hr8⟩ := turned_in hT rfl Sp.vin.1
 rw [Sp.vt1] at hP5 hr8
 have A5 := A4.turn hP5 X5 hF5
 have hr8 : r8 = 2 := by rw [hr8]; kernel_rfl
 subst hr8
 refine ⟨_, _, rfl, kept_none X5, ?_⟩
 refine (c_View p 1 3 w5 Sp.vw3 A5.pool hroom).mono ?_
 rintro _ w6 ⟨r10, r11, rfl, hT⟩
 obtain ⟨rfl, FP6, hP6, X6, hF6, hr⟩ := turned_in hT rfl Sp.vin.1
 rw [Sp.vt2] at hP6 hr
 have A6 := A5.turn hP6 X6 hF6
 have hr : r10 = 3 := by rw [hr]; kernel_rfl
 subst hr
 refine ⟨_, _, rfl, kept_none X6, ?_⟩
 refine (c_Swap p 1 2 w6 Sp.vw3 A6.pool hroom).mono ?_
 rintro _ w7 ⟨r12, r13, rfl, hT⟩
 obtain ⟨rfl, FP7, hP7, X7, hF7, hr⟩ := turned_in hT rfl Sp.vin.2
 rw [Sp.vt3] at hP7 hr
 have A7 := A6.turn hP7 X7 hF7
 have hr : r12 = 3 := by rw [hr]; kernel_rfl
 subst hr
 refine ⟨_, _, rfl, kept_none X7, ?_⟩
 refine (c_View p 16 3 w7 Sp.vw3 A7.pool hroom).mono ?_
 rintro _ w8 ⟨r14, r15, rfl, hT⟩
 obtain ⟨rfl, rfl, E8⟩ : r14 = 0 ∧ r15 = 50 ∧ Pure w7 w8 := by
  rcases hT with ⟨_, h2, h3, h4⟩ | ⟨h1, _⟩ | ⟨h1, _⟩
  ·exact ⟨h2, h3, h4⟩
  ·cases h1
  ·cases h1
 have A8 := A7.pureE E8
 refine ⟨_, _, rfl, E8.keptP, ?_⟩
 refine (c_Promises p 1 2 w8 Sp.vw3 A8.pool).mono ?_
 rintro _ w9 ⟨r16, rfl, l, hl, hperm, _⟩
 rw [vp1] at hperm
 have hlen : r16.len = 1 := by rw [hl.rows.len, tmr_len, hperm.length_eq]; rfl
 have A9 := A8.pureE hl.pure
 refine ⟨_, rfl, hl.kept, ?_⟩
 rintro y1 rfl
 rw [hlen]
 refine Br.t (by rfl) (fun H7 w24 hs24 => ?_)
 have hH : ∀ b, H7 b → w9.heap.size ≤ b := fun b hb => (hs24.new b hb).elim (fun h => h.elim) id
 have A24 : LvAt w0 w24 p Sp.vL3 FP7 := ⟨A9.pool.ext hs24.ext (fun b hb hh => by have := hH b hh; have := A9.pool.lt hb; omega), A9.pure.hst hs24, A9.own⟩
 refine (c_Tells p 2 2 w24 Sp.vw3 A24.pool).mono ?_
 rintro _ w32 ⟨r20, rfl, hr20, E32⟩
 have hr20 : r20 = true := by rw [hr20]; kernel_rfl
 subst hr20
 refine ⟨_, rfl, E32.keptP, ?_⟩
 have A32 := A24.pureE E32
 unfold m_O_j1
 refine Br.t rfl ?_
 refine (c_Tells p 3 2 w32 Sp.vw3 A32.pool).mono ?_
 rintro _ w31 ⟨r19, rfl, hr19, E31⟩
 have hr19 : r19 = false := by rw [hr19]; kernel_rfl
 subst hr19
 refine ⟨_, rfl, E31.keptP, ?_⟩
 have A31 := A32.pureE E31
 unfold m_O_j2
 refine Br.t rfl ?_
 intro p3 w28 h28 p4 w29 h29
 have E28 : Pure w31 w28 := Ext.new h28
 have E29 : Pure w28 w29 := Ext.new h29
 have A29 := (A31.pureE E28).pureE E29
 have b3 := (Box.of_new h28).pure E29
 have b4 := Box.of_new h29
 have one : ∀ {w : World} {q : Addr} {T : TypeId} (t : Int), Box w q [.int .i64 t] T → Lst (fun b => b < w.heap.size) w 1 ⟨some q, 1, 1⟩ (tmr [t]) := fun {w q T} t h => ⟨rfl, fun i hi => by
  have hi0 : i = 0 := by simp [tmr] at hi; omega
  subst hi0
  exact ⟨q, ⟨by omega, by simp, q, rfl, by simp [Addr.add]⟩, h.lt, h.row⟩⟩
 refine (c_Alike (S := fun b => b < w29.heap.size) p 3 _ _ [2] [3] w29 Sp.vw3 A29.pool (one 2 b3) (one 3 b4) (fun _ h => h) (by simp)).mono ?_
 rintro _ w30 ⟨r18, rfl, hr18, E30⟩
 rw [Sp.va1] at hr18
 subst hr18
 refine ⟨_, rfl, E30.keptP, ?_⟩
 have A30 := A29.pureE E30
 unfold m_O_j3
 refine Br.t rfl ?_
 intro p1 w25 h25 p2 w26 h26
 have E25 : Pure w30 w25 := Ext.new h25
 have E26 : Pure w25 w26 := Ext.new h26
 have A26 := (A30.pureE E25).pureE E26
 refine (c_Alike (S := fun b => b < w26.heap.size) p 1 _ _ [2] [3] w26 Sp.vw3 A26.pool (one 2 ((Box.of_new h25).pure E26)) (one 3 (Box.of_new h26)) (fun _ h => h) (by simp)).mono ?_
 rintro _ w27 ⟨r17, rfl, hr17, E27⟩
 rw [Sp.va2] at hr17
 subst hr17
 exact ⟨_, rfl, E27.keptP, rfl, A26.pure.trans E27⟩
end Go.Proofs
end
section
namespace Go.Sp
theorem cntAll_snoc (ts : List Tree) (t : Tree) : cntAll (ts ++ [t]) = cntAll ts + cnt t := by
 induction ts with
 | nil => simp [cntAll]
 | cons a ts ih => rw [List.cons_append, cntAll, cntAll, ih]; omega
theorem make_few8 (L : Pool) (n : Node) : (make L n).2.2.length ≤ L.length + 1 := by
 rcases make_pool L n with e | ⟨_, e⟩ <;> rw [e] <;> simp
theorem grow_few8 (t : Tree) : ∀ L, (grow L t).2.2.length ≤ L.length + cnt t := by
 induction t using Tree.ind with
 | h k f t u x ks ih =>
  have : ∀ (ks : List Tree), (∀ i (hi : i < ks.length), ∀ L, (grow L ks[i]).2.2.length ≤ L.length + cnt ks[i]) → ∀ n i L, (growAll n i L ks).2.2.length ≤ L.length + 1 + cntAll ks := by
   intro ks
   induction ks with
   | nil => intro _ n i L; unfold growAll; have := make_few8 L n; simp only [cntAll]; omega
   | cons t ts iht =>
    intro hh n i L
    have h0 := hh 0 (by simp) L
    simp only [List.getElem_cons_zero] at h0
    unfold growAll
    simp only [cntAll]
    split
    ·simp only; omega
    ·have := iht (fun i hi => hh (i + 1) (by simpa using hi)) (if i = 0 then { n with a := (grow L t).1 } else { n with b := (grow L t).1 }) (i + 1) (grow L t).2.2
     omega
  intro L
  have := this ks ih ⟨k, f, t, u, x, 0, 0⟩ 0 L
  unfold grow
  rw [cnt]; omega
theorem of_few8 (L : Pool) (t : Tree) : (of L t).2.2.length ≤ L.length + cnt t := by
 have := grow_few8 t L
 unfold of
 split
 ·simp only; omega
 ·split
  ·simp only; omega
  ·exact this
end Go.Sp
end
section
open Go Go.SE
namespace Go.Sp
def poolOf (ts : List Tree) : Pool := ts.foldl (fun L t => (of L t).2.2) []
theorem poolOf_ok (ts : List Tree) : Wf (poolOf ts) ∧ (poolOf ts).length ≤ cntAll ts := by
 have : ∀ (ts : List Tree) L, Wf L → Wf (ts.foldl (fun L t => (of L t).2.2) L) ∧ (ts.foldl (fun L t => (of L t).2.2) L).length ≤ L.length + cntAll ts := by
  intro ts
  induction ts with
  | nil => intro L h; exact ⟨h, by simp [cntAll]⟩
  | cons t ts ih =>
   intro L h
   obtain ⟨h1, h2⟩ := ih _ (of_wf h t)
   have := of_few8 L t
   exact ⟨h1, by rw [List.foldl_cons, cntAll]; omega⟩
 obtain ⟨h1, h2⟩ := this ts [] Wf.nil
 exact ⟨h1, by unfold poolOf; simpa using h2⟩
end Go.Sp
namespace Go.Proofs
attribute [local irreducible] Calls
theorem c_law10_wide {S : Nat → Prop} (ts : List Sp.Tree) (s : Sl) (w0 : World) (hT : TreeAt S w0 s (.mk 0 0 0 0 ⟨#[]⟩ ts)) (hS : ∀ b, S b → b < w0.heap.size) :
  Calls Try.prog 7 #[s.v] w0 (fun e w' => ∃ r : Bool, e = .returned (.bool r) ∧ ((r = false → ts.length ≤ 10 ∧ Sp.cntAll ts ≤ 400) ∧ Pure w0 w')) := by
 refine w_Q1 _ w0 (fun r w' => (r = false → ts.length ≤ 10 ∧ Sp.cntAll ts ≤ 400) ∧ Pure w0 w') ?_
 unfold m_Q1
 cases hT with
 | mk _ _ _ _ _ _ _ rs len fit row kid =>
 refine ⟨fun n i w' => ∃ j : Nat, i = j ∧ j ≤ ts.length ∧ j ≤ 11 ∧ n = (Sp.cntAll (ts.take j) : Nat) ∧ n < 400 ∧ Pure w0 w', fun _ i _ => (12 - i).toNat, ⟨0, rfl, Nat.zero_le _, by omega, by simp [Sp.cntAll], by omega, Ext.refl _⟩, ?_⟩
 rintro n _ wl ⟨j, rfl, hj, hj11, hn, hn4, E⟩
 unfold m_Q1_l1
 refine ⟨fun h => ?_, fun h => ⟨fun hr => ?_, E⟩⟩
 ·rw [Bool.and_eq_true] at h
  have hlt := lt_of_dec len h.1
  have h10 := of_decide_eq_true h.2
  obtain ⟨a, hat, hSa, hrow⟩ := row j hlt
  have hkid := kid j hlt
  have htk : ts.take (j + 1) = ts.take j ++ [ts[j]] := List.take_succ_eq_append_getElem hlt
  have hsn := Sp.cntAll_snoc (ts.take j) ts[j]
  rw [← htk] at hsn
  generalize ts[j] = x at *
  generalize rs j = sx at *
  obtain ⟨xk, xf, xt, xu, xx, xks⟩ := x
  have hrl : Row wl a (trow (.mk xk xf xt xu xx xks) sx) := E.row hrow (fun h => h)
  refine ⟨a, hat, _, _, _, _, _, sx, hrl, ?_⟩
  refine (c_ref05_Parts (.mk xk xf xt xu xx xks) sx 400 wl (by omega) (by omega) (hkid.pure E) (fun b hb => by have := hS b hb; have := E.size; omega)).mono ?_
  rintro _ w1 ⟨r, rfl, rfl, E1⟩
  obtain ⟨p1, p2, p3⟩ := Sp.parts_facts (.mk xk xf xt xu xx xks) 400 (by omega)
  generalize Sp.parts 400 (.mk xk xf xt xu xx xks) = r at *
  refine ⟨r, rfl, ?_⟩
  rw [IntWalk.i64_in _ (by omega), IntWalk.i64_in _ (by omega)]
  refine ⟨fun h => ⟨(fun h => by cases h), E.trans E1⟩, fun h => ?_⟩
  have h := of_decide_eq_false h
  have hc := p3 (by omega)
  refine ⟨⟨j + 1, by omega, hlt, by omega, ?_, by omega, E.trans E1⟩, by show (12 - ((j : Int) + 1)).toNat < (12 - (j : Int)).toNat; omega⟩
  rw [hsn]; omega
 ·have hr := of_decide_eq_false hr
  have hjl : j = ts.length := by
   rw [Bool.and_eq_false_iff] at h
   rcases h with h | h
   ·exact eq_of_dec len hj h
   ·have := of_decide_eq_false h; omega
  subst hjl
  rw [List.take_length] at hn
  exact ⟨by omega, by omega⟩
structure Pl2 (w0 : World) (H : Nat → Prop) (w : World) (p q : Addr) (L1 L2 : Sp.Pool) (F1 F2 : Nat → Prop) : Prop where
 pure : Pure w0 w
 pool : PoolAt w p L1 F1
 ref : PoolR w q L2 F2
 o1 : ∀ b, F1 b → w0.heap.size ≤ b ∧ ¬ H b ∧ ¬ F2 b
 o2 : ∀ b, F2 b → w0.heap.size ≤ b ∧ ¬ H b
section
variable {w0 w w' : World} {H H' : Nat → Prop} {p q : Addr} {L1 L2 : Sp.Pool} {F1 F2 : Nat → Prop}
theorem Pl2.pureE (h : Pl2 w0 H w p q L1 L2 F1 F2) (E : Pure w w') : Pl2 w0 H w' p q L1 L2 F1 F2 := ⟨h.pure.trans E, h.pool.pure E, h.ref.pure E, h.o1, h.o2⟩
theorem Pl2.first (h : Pl2 w H w' p q L1 L2 F1 F2) (E : Pure w0 w) : Pl2 w0 H w' p q L1 L2 F1 F2 :=
 ⟨E.trans h.pure, h.pool, h.ref, fun b hb => ⟨Nat.le_trans E.size (h.o1 b hb).1, (h.o1 b hb).2⟩, fun b hb => ⟨Nat.le_trans E.size (h.o2 b hb).1, (h.o2 b hb).2⟩⟩
theorem Pl2.hst (h : Pl2 w0 H w p q L1 L2 F1 F2) (hs : Hst w0 H w H' w') : Pl2 w0 H' w' p q L1 L2 F1 F2 := by
 have d : ∀ b, b < w.heap.size → ¬ H b → ¬ H' b := fun b h1 h2 => hs.disj (G := (· = b)) (fun c e => by subst e; exact ⟨h1, h2⟩) b rfl
 have d1 : ∀ b, F1 b → ¬ H' b := fun b hb => d b (h.pool.lt hb) (h.o1 b hb).2.1
 have d2 : ∀ b, F2 b → ¬ H' b := fun b hb => d b (h.ref.lt hb) (h.o2 b hb).2
 exact ⟨h.pure.hst hs, h.pool.ext hs.ext d1, h.ref.ext hs.ext d2, fun b hb => ⟨(h.o1 b hb).1, d1 b hb, (h.o1 b hb).2.2⟩, fun b hb => ⟨(h.o2 b hb).1, d2 b hb⟩⟩
theorem Pl2.of1 (h : Pl2 w0 H w p q L1 L2 F1 F2) (hH : ∀ b, H b → b < w.heap.size) {L : Sp.Pool} {F : Nat → Prop} (hP : PoolAt w' p L F) (hE : Ext F1 w w') (hF : ∀ b, F b → F1 b ∨ w.heap.size ≤ b) : Pl2 w0 H w' p q L L2 F F2 := by
 refine ⟨h.pure.trans' hE (fun i hi hb => by have := (h.o1 i hb).1; omega), hP, h.ref.ext hE (fun b hb h1 => (h.o1 b h1).2.2 hb), fun b hb => ?_, h.o2⟩
 rcases hF b hb with h1 | h1
 ·exact h.o1 b h1
 ·exact ⟨by have := h.pure.size; omega, fun hh => by have := hH b hh; omega, fun hh => by have := h.ref.lt hh; omega⟩
theorem Pl2.of2 (h : Pl2 w0 H w p q L1 L2 F1 F2) (hH : ∀ b, H b → b < w.heap.size) {L : Sp.Pool} {F : Nat → Prop} (hP : PoolR w' q L F) (hE : Ext F2 w w') (hF : ∀ b, F b → F2 b ∨ w.heap.size ≤ b) : Pl2 w0 H w' p q L1 L F1 F := by
 refine ⟨h.pure.trans' hE (fun i hi hb => by have := (h.o2 i hb).1; omega), h.pool.ext hE (fun b hb h1 => (h.o1 b hb).2.2 h1), hP, fun b hb => ⟨(h.o1 b hb).1, (h.o1 b hb).2.1, fun hh => ?_⟩, fun b hb => ?_⟩
 ·rcases hF b hh with h1 | h1
  ·exact (h.o1 b hb).2.2 h1
  ·have := h.pool.lt hb; omega
 ·rcases hF b hb with h1 | h1
  ·exact h.o2 b h1
  ·exact ⟨by have := h.pure.size; omega, fun hh => by have := hH b hh; omega⟩
end
theorem c_law10_pools {S : Nat → Prop} (ts : List Sp.Tree) (s : Sl) (w0 : World) (hT : TreeAt S w0 s (.mk 0 0 0 0 ⟨#[]⟩ ts)) (hS : ∀ b, S b → b < w0.heap.size) (hn : ts.length ≤ 10) :
  Calls Try.prog 9 #[s.v] w0 (fun e w' => ∃ r1 : Option Addr, ∃ r2 : Option Addr, ∃ r4 : Bool, e = .returned (.tuple #[.pointer r1, .pointer r2, .bool r4]) ∧ ∃ p q F1 F2, r1 = some p ∧ r2 = some q ∧ r4 = true ∧ Pl2 w0 None w' p q (Sp.poolOf ts) (Sp.poolOf ts) F1 F2) := by
 suffices key : ∀ K : Option Addr → Option Addr → Bool → World → Prop, (∀ p q F1 F2 H w', Pl2 w0 H w' p q (Sp.poolOf ts) (Sp.poolOf ts) F1 F2 → K (some p) (some q) true w') → m_L1 s w0 K from
  w_L1 _ w0 _ (key _ (fun p q F1 F2 H w' h => ⟨p, q, F1, F2, rfl, rfl, rfl, h.pure, h.pool, h.ref, fun b hb => ⟨(h.o1 b hb).1, id, (h.o1 b hb).2.2⟩, fun b hb => ⟨(h.o2 b hb).1, id⟩⟩))
 intro K hK
 cases hT with
 | mk _ _ _ _ _ _ _ rs len fit row kid =>
 unfold m_L1
 refine (c_New w0).mono ?_
 rintro _ w1 ⟨_, rfl, p, rfl, E1, F1, hP1, hF1⟩
 refine ⟨_, rfl, E1.keptP, ?_⟩
 refine (c_ref05_New w1).mono ?_
 rintro _ w2 ⟨_, rfl, q, F2, rfl, hP2, E2, hF2⟩
 refine ⟨_, rfl, E2.keptP, Br.f rfl ?_⟩
 have S0 : Pl2 w0 None w2 p q [] [] F1 F2 := ⟨E1.trans E2, hP1.pure E2, hP2,
  fun b hb => ⟨hF1 b hb, id, fun h2 => by have := hF2 b h2; have := hP1.lt hb; omega⟩, fun b hb => ⟨by have := hF2 b hb; have := E1.size; omega, id⟩⟩
 refine ⟨fun i H w' => ∃ j : Nat, i = j ∧ j ≤ ts.length ∧ ∃ F1 F2, Pl2 w0 H w' p q (Sp.poolOf (ts.take j)) (Sp.poolOf (ts.take j)) F1 F2, fun i _ => ((ts.length : Int) - i).toNat, ⟨0, rfl, Nat.zero_le _, F1, F2, S0⟩, ?_⟩
 rintro _ Hl wl hl ⟨j, rfl, hj, F1, F2, hq⟩
 unfold m_L1_l1
 refine ⟨fun h => ?_, fun h => ?_⟩
 ·have hlt := lt_of_dec len h
  have htk : ts.take (j + 1) = ts.take j ++ [ts[j]] := List.take_succ_eq_append_getElem hlt
  obtain ⟨hW, _⟩ := Sp.poolOf_ok (ts.take j)
  have hstep : Sp.poolOf (ts.take (j + 1)) = (Sp.of (Sp.poolOf (ts.take j)) ts[j]).2.2 := by rw [htk]; unfold Sp.poolOf; rw [List.foldl_append]; rfl
  generalize Sp.poolOf (ts.take j) = Q at *
  obtain ⟨a, hat, hSa, hrow⟩ := row j hlt
  have hkid := kid j hlt
  generalize ts[j] = x at *
  generalize rs j = sx at *
  obtain ⟨xk, xf, xt, xu, xx, xks⟩ := x
  have hrl : Row wl a (trow (.mk xk xf xt xu xx xks) sx) := hq.pure.row hrow (fun h => h)
  refine ⟨a, hat, _, _, _, _, _, sx, hrl, ?_⟩
  refine (c_Of (S := S) p (.mk xk xf xt xu xx xks) sx wl (hkid.pure hq.pure) hq.pool hW.ok (fun b hb hh => by have := (hq.o1 b hb).1; have := hS b hh; omega) (fun b hb => by have := hS b hb; have := hq.pure.size; omega)).mono ?_
  rintro _ w3 ⟨r3, r4, rfl, h34, F1', hP3, E3, hF3⟩
  have k3 : Kept Hl wl w3 := E3.kept (fun b hb h1 => (hq.o1 b h1).2.1 hb)
  refine ⟨_, _, rfl, k3, ?_⟩
  have hq3 := hq.of1 (fun b hb => hl.lt b hb) hP3 E3 hF3
  have hl3 := hl.again k3
  have hr3 : Row w3 a (trow (.mk xk xf xt xu xx xks) sx) := hq3.pure.row hrow (fun h => h)
  refine ⟨a, hat, _, _, _, _, _, sx, hr3, ?_⟩
  refine (c_ref05_Of (S := S) q (.mk xk xf xt xu xx xks) sx w3 (hkid.pure hq3.pure) hq3.ref hW.ok (fun b hb hh => by have := (hq3.o2 b hb).1; have := hS b hh; omega) (fun b hb => by have := hS b hb; have := hq3.pure.size; omega)).mono ?_
  rintro _ w4 ⟨r5, r6, rfl, h56, F2', hP4, E4, hF4⟩
  have k4 : Kept Hl w3 w4 := E4.kept (fun b hb h1 => (hq3.o2 b h1).2 hb)
  refine ⟨_, _, rfl, k4, ?_⟩
  have hq4 := hq3.of2 (fun b hb => hl3.lt b hb) hP4 E4 hF4
  injection h34 with e3 e4
  injection h56 with e5 e6
  refine Br.f (by rw [e4, e6, e3, e5]; simp) ?_
  intro H1 w6 hs6
  rw [wrap_succ hlt (by omega)]
  refine ⟨⟨j + 1, rfl, hlt, F1', F2', ?_⟩, lt_dec hlt⟩
  rw [hstep]
  exact hq4.hst hs6
 ·have hge := eq_of_dec len hj h
  subst hge
  rw [List.take_length] at hq
  exact hK _ _ _ _ _ _ hq
theorem c_law10_large {S : Nat → Prop} (ts : List Sp.Tree) (s sl sm sn : Sl) (who : Int) (l m n : List Int) (w0 : World) (hT : TreeAt S w0 s (.mk 0 0 0 0 ⟨#[]⟩ ts)) (hS : ∀ b, S b → b < w0.heap.size) (hl : sl.len = l.length) (hm : sm.len = m.length) (hn : sn.len = n.length) :
  Calls Try.prog 17 #[.agg #[s.v, sl.v, sm.v, sn.v, .int .i64 who]] w0 (fun e w' => ∃ r : Bool, e = .returned (.bool r) ∧ ((r = false → (ts.length ≤ 10 ∧ Sp.cntAll ts ≤ 400) ∧ l.length ≤ 12 ∧ m.length ≤ 12 ∧ n.length ≤ 12) ∧ Pure w0 w')) := by
 refine w_D3 _ _ _ _ _ w0 (fun r w' => (r = false → (ts.length ≤ 10 ∧ Sp.cntAll ts ≤ 400) ∧ l.length ≤ 12 ∧ m.length ≤ 12 ∧ n.length ≤ 12) ∧ Pure w0 w') ?_
 unfold m_D3
 intro H1 w1 hs1
 have E1 : Pure w0 w1 := hs1.first
 refine (c_law10_wide ts s w1 (hT.pure E1) (fun b hb => by have := hS b hb; have := E1.size; omega)).mono ?_
 rintro _ w2 ⟨r, rfl, hr, E2⟩
 refine ⟨r, rfl, E2.keptP, ?_⟩
 rintro y rfl H4 w5 hs5
 refine ⟨fun h => ?_, (E1.trans E2).hst hs5⟩
 rw [Bool.or_eq_false_iff, Bool.or_eq_false_iff, Bool.or_eq_false_iff] at h
 obtain ⟨⟨⟨h1, h2⟩, h3⟩, h4⟩ := h
 have h2 := of_decide_eq_false h2; have h3 := of_decide_eq_false h3; have h4 := of_decide_eq_false h4
 rw [hl] at h2; rw [hm] at h3; rw [hn] at h4
 exact ⟨hr h1, by omega, by omega, by omega⟩
end Go.Proofs
end
section
open Go Go.SE
namespace Go.Proofs
attribute [local irreducible] Calls
theorem ref10_View_kind (who k f t u : Int) (x : ByteArray) : (cond (((k : Int) == 9) && (!(s_R who f t))) 8 k) = (Sp.viewN who ⟨k, f, t, u, x, 0, 0⟩).kind := by
 unfold Sp.viewN
 have e : Sp.tellsN who ⟨k, f, t, u, x, 0, 0⟩ = s_R who f t := rfl
 rw [e]
 cases s_R who f t
 ·unfold Sp.twoK
  simp only [Bool.not_false, Bool.and_true]
  by_cases h : k = 9
  ·subst h; rfl
  ·by_cases h8 : k = 8
   ·subst h8; rfl
   ·have e1 : (k == 9) = false := by simpa using h
    have e2 : (k == 8) = false := by simpa using h8
    simp only [e1, e2, cond_false, Bool.or_false, Bool.false_eq_true, if_false]
 ·simp
theorem c_ref10_View {S : Nat → Prop} (who : Int) (t : Sp.Tree) : ∀ (s : Sl) (w0 : World), Sp.cnt t ≤ 1000000 → TreeAt S w0 s t → (∀ b, S b → b < w0.heap.size) →
  Calls Try.prog 28 #[.int .i64 who, .agg (trow t s).toArray] w0 (RetT w0.heap.size w0 (Sp.mapT (Sp.viewN who) t)) := by
 induction t using Sp.Tree.ind with
 | h k f t u x ks ih =>
 intro s w0 hcnt hT hSw
 rw [Sp.mapT_eq]
 suffices key : ∀ K : Int → Int → Int → Int → ByteArray → Sl → World → Prop, (∀ s' w', TreeAt (w0.heap.size ≤ ·) w' s' (.mk (Sp.viewN who ⟨k, f, t, u, x, 0, 0⟩).kind f t u x (ks.map (Sp.mapT (Sp.viewN who)))) → Pure w0 w' → K (Sp.viewN who ⟨k, f, t, u, x, 0, 0⟩).kind f t u x s' w') → m_M1 who k f t u x s w0 K by
  refine (w_M1 _ _ _ _ _ _ _ w0 (fun k' f' t' u' x' s' w' => (k' = (Sp.viewN who ⟨k, f, t, u, x, 0, 0⟩).kind ∧ f' = f ∧ t' = t ∧ u' = u ∧ x' = x) ∧ TreeAt (w0.heap.size ≤ ·) w' s' (.mk (Sp.viewN who ⟨k, f, t, u, x, 0, 0⟩).kind f t u x (ks.map (Sp.mapT (Sp.viewN who)))) ∧ Pure w0 w') (key _ (fun s' w' h1 h2 => ⟨⟨rfl, rfl, rfl, rfl, rfl⟩, h1, h2⟩))).mono ?_
  rintro _ w' ⟨_, _, _, _, _, s', rfl, ⟨rfl, rfl, rfl, rfl, rfl⟩, h1, h2⟩
  exact ⟨s', rfl, h1, h2⟩
 intro K hK
 have hlen : s.len = ks.length := by cases hT; assumption
 have hca : 1 + Sp.cntAll ks ≤ 1000000 := by simpa [Sp.cnt] using hcnt
 have hkl := Sp.cntAll_len ks
 have hnil : ∀ b, ¬ Sl.nil.blk b := fun b hb => by obtain ⟨a, h, _⟩ := hb; cases h
 unfold m_M1
 intro H3 w5 hs5
 rw [ref10_View_kind who k f t u x]
 refine ⟨fun i a1 a2 a3 a4 a5 yk H w' => ∃ j : Nat, (i = j ∧ a1 = (Sp.viewN who ⟨k, f, t, u, x, 0, 0⟩).kind ∧ f = a2 ∧ t = a3 ∧ u = a4 ∧ x = a5) ∧ j ≤ ks.length ∧ Pure w0 w' ∧ ∃ (ps : List (Sp.Tree × Sl)) (S' : Nat → Prop), ps.map Prod.fst = (ks.take j).map (Sp.mapT (Sp.viewN who)) ∧ Own H w' 63 6 yk (ps.map prow) ∧ (∀ p ∈ ps, TreeAt S' w' p.2 p.1) ∧ (∀ b, S' b → w0.heap.size ≤ b ∧ b < w'.heap.size ∧ ¬ H b ∧ ¬ yk.blk b) ∧ (∀ b, yk.blk b → w0.heap.size ≤ b),
  fun i _ _ _ _ _ _ _ => ((ks.length : Int) - i).toNat, ⟨0, ⟨rfl, rfl, rfl, rfl, rfl, rfl⟩, Nat.zero_le _, hs5.first, [], fun _ => False, by simp, Own.nil _ _, by simp, fun b h => h.elim, fun b h => (hnil b h).elim⟩, ?_⟩
 rintro _ _ _ _ _ _ yk Hl wl hl ⟨j, ⟨rfl, rfl, rfl, rfl, rfl, rfl⟩, hj, El, ps, S', hps, Oy, hkids, hS', hyk⟩
 have hpl : ps.length = j := by have := congrArg List.length hps; simpa [Nat.min_eq_left hj] using this
 unfold m_M1_l1
 refine ⟨fun hc => ?_, fun hc => ?_⟩
 ·have hlt := lt_of_dec hlen hc
  have g1 : ∃ a r, At s j 6 a ∧ S a.block ∧ (∀ w', Pure w0 w' → Row w' a (trow ks[j] r)) ∧ TreeAt S w0 r ks[j] := by
   cases hT with
   | mk _ _ _ _ _ _ _ rs len fit row kid => obtain ⟨a, h1, h2, h3⟩ := row j hlt; exact ⟨a, rs j, h1, h2, fun w' E => E.row h3 id, kid j hlt⟩
  obtain ⟨a, r, hat, _, hr, hk⟩ := g1
  have E6 : Pure wl wl.drew := Ext.drew wl
  have Ed := El.trans E6
  refine ⟨fun w' => Pure w0 w', Ed, ?_⟩
  rintro _ rfl
  refine ⟨a, hat, _, _, _, _, _, r, hr _ Ed, ?_⟩
  have hcj := Sp.cntAll_get (ks := ks) hlt
  refine (ih j hlt r wl.drew (by omega) (hk.pure Ed) (fun b hb => by have := hSw b hb; have := Ed.size; omega)).mono ?_
  have hm : ks[j] = ks[j] := rfl
  generalize hv : Sp.mapT (Sp.viewN who) ks[j] = v
  rintro _ w7 ⟨s', rfl, hTk, E7⟩
  have E07 := Ed.trans E7
  obtain ⟨v1, v2, v3, v4, v5, v6⟩ := v
  refine ⟨_, _, _, _, _, s', rfl, E07, E7.keptP, ?_⟩
  intro p4 w8 h8
  have E8 : Pure w7 w8 := Ext.new h8
  refine ⟨E07.trans E8, ?_⟩
  have hs8 : Hst w0 Hl w8 Hl w8 := (hl.again E6.keptP).again (E7.trans E8).keptP
  have O8 := Oy.pure ((E6.trans E7).trans E8)
  obtain ⟨s1, w9, hr9, hO9, hE9, hk9, hb9⟩ := O8.append (P := Try.prog) (ty := 22) (c := 1) slT_tree hs8 (r := trow (.mk v1 v2 v3 v4 v5 v6) s') (Box.of_new h8).row rfl (trow_one _ _) (by simp; omega) (by simp [maxLen]; omega)
  have E09 : Pure w0 w9 := (E07.trans E8).trans' hE9 (fun i hi hb => by have := hyk i hb; omega)
  refine ⟨s1, w9, hr9, E09, hk9, ?_⟩
  intro w10 hs10
  have hsd : wl.drew.heap.size = wl.heap.size := rfl
  have z7 := E7.size
  have z8 := E8.size
  have z9 := hE9.size
  have hSn : ∀ b, (S' b ∨ (wl.heap.size ≤ b ∧ b < w7.heap.size)) → w0.heap.size ≤ b ∧ b < w9.heap.size ∧ ¬ Hl b ∧ ¬ s1.blk b := by
   rintro b (hb | ⟨h1, h2⟩)
   ·obtain ⟨q1, q2, q3, q4⟩ := hS' b hb
    exact ⟨q1, by omega, q3, fun h => (hb9 b h).elim q4 (fun h => by omega)⟩
   ·refine ⟨by have := El.size; omega, by omega, fun h => by have := hl.lt b h; omega, fun h => (hb9 b h).elim (fun h => by have := Oy.rows.lt h; omega) (fun h => by omega)⟩
  rw [wrap_succ hlt (by omega)]
  refine ⟨⟨j + 1, ⟨rfl, rfl, rfl, rfl, rfl, rfl⟩, hlt, E09.hst hs10, ps ++ [(.mk v1 v2 v3 v4 v5 v6, s')], fun b => S' b ∨ (wl.heap.size ≤ b ∧ b < w7.heap.size), ?_, ?_, ?_, ?_, ?_⟩, lt_dec hlt⟩
  ·rw [List.map_append, hps, List.take_succ_eq_append_getElem hlt, List.map_append]; simp only [List.map_cons, List.map_nil, hv]
  ·have : (ps ++ [((.mk v1 v2 v3 v4 v5 v6 : Sp.Tree), s')]).map prow = ps.map prow ++ [trow (.mk v1 v2 v3 v4 v5 v6) s'] := by simp [prow]
   rw [this]; exact hO9.hst hs10
  ·intro p hp
   have hnb : ∀ b, (S' b ∨ (wl.heap.size ≤ b ∧ b < w7.heap.size)) → b < w9.heap.size ∧ ¬ Hl b := fun b hb => ⟨(hSn b hb).2.1, (hSn b hb).2.2.1⟩
   rcases List.mem_append.1 hp with h | h
   ·have := (hkids p h).pure ((E6.trans E7).trans E8)
    have := this.ext hE9 (fun b hb hy => (hS' b hb).2.2.2 hy)
    exact (this.mono (fun b hb => .inl hb)).hst hs10 hnb
   ·simp only [List.mem_singleton] at h; subst h
    have := (hTk.lt.pure E8).ext hE9 (fun b hb hy => by have := Oy.rows.lt hy; have := hb.1; omega)
    exact (this.mono (S' := fun b => S' b ∨ (wl.heap.size ≤ b ∧ b < w7.heap.size)) (fun b hb => .inr ⟨by have := hb.1; omega, hb.2⟩)).hst hs10 hnb
  ·intro b hb
   obtain ⟨q1, q2, q3, q4⟩ := hSn b hb
   exact ⟨q1, Nat.lt_of_lt_of_le q2 hs10.ext.size, q3, q4⟩
  ·intro b hb
   exact (hb9 b hb).elim (hyk b) (fun h => by have := (E07.trans E8).size; omega)
 ·have hge := eq_of_dec hlen hj hc
  subst hge
  rw [List.take_length] at hps
  intro w16 hs16
  have O16 := Oy.hst hs16
  have hT' := TreeAt.of_pairs (S := fun b => w0.heap.size ≤ b) (k := (Sp.viewN who ⟨k, f, t, u, x, 0, 0⟩).kind) (f := f) (t := t) (u := u) (x := x) O16.rows hyk (fun q hq => ((hkids q hq).hst hs16 (fun b hb => ⟨(hS' b hb).2.1, (hS' b hb).2.2.1⟩)).mono (fun b hb => (hS' b hb).1)) (by omega)
  rw [hps] at hT'
  exact hK _ _ hT' (El.hst hs16)
end Go.Proofs
end
section
open Go.SE
namespace Go.Sp
structure Cor (L : Pool) (who : Int) (C : Int → Int → Prop) : Prop where
 fn : ∀ a b c, C a b → C a c → b = c
 inj : ∀ a b c, C a c → C b c → a = b
 inp : ∀ a b, C a b → inP L a = true ∧ inP L b = true
 eqn : ∀ a b, C a b → eqN who (nodeOf L a) (nodeOf L b) = true
 ka : ∀ a b, C a b → (nodeOf L a).a ≠ 0 → C (nodeOf L a).a (nodeOf L b).a
 kb : ∀ a b, C a b → (nodeOf L a).b ≠ 0 → C (nodeOf L a).b (nodeOf L b).b
theorem kid_nz {L : Pool} (hW : Wf L) {t : Int} (ht : inP L t = true) : ((nodeOf L t).a ≠ 0 → (nodeOf L t).a ∈ kidsOf (nodeOf L t)) ∧ ((nodeOf L t).b ≠ 0 → (nodeOf L t).b ∈ kidsOf (nodeOf L t)) := by
 have h1 := (hW.node ht).2.1
 have h2 := (hW.node ht).2.2.1
 unfold kidsOf
 rcases kids_le (nodeOf L t).kind with e | e | e
 ·exact ⟨fun h => absurd (h1 (by omega)) h, fun h => absurd (h2 (by omega)) h⟩
 ·exact ⟨fun _ => by rw [e]; simp, fun h => absurd (h2 (by omega)) h⟩
 ·exact ⟨fun _ => by rw [e]; simp, fun _ => by rw [e]; simp⟩
theorem kid_in {L : Pool} (hW : Wf L) {t : Int} (ht : inP L t = true) : ((nodeOf L t).a ≠ 0 → inP L (nodeOf L t).a = true ∧ (nodeOf L t).a < t) ∧ ((nodeOf L t).b ≠ 0 → inP L (nodeOf L t).b = true ∧ (nodeOf L t).b < t) :=
 ⟨fun h => (hW.node ht).2.2.2.2.1 _ ((kid_nz hW ht).1 h), fun h => (hW.node ht).2.2.2.2.1 _ ((kid_nz hW ht).2 h)⟩
theorem eqN_iff {who : Int} {n o : Node} : eqN who n o = true ↔ n.frm = o.frm ∧ n.to = o.to ∧ n.num = o.num ∧ n.text = o.text ∧ (n.kind = o.kind ∨ (twoK n.kind = true ∧ twoK o.kind = true ∧ tellsN who n = false)) := by
 unfold eqN
 simp only [Bool.and_eq_true, Bool.or_eq_true, beq_iff_eq, decide_eq_true_eq, Bool.not_eq_true']
 constructor
 ·rintro ⟨h1, h2, h3, h4, h5 | ⟨⟨⟨h5, h6⟩, h7⟩, h8⟩⟩
  ·exact ⟨h1, h2, h3, h4, .inl h5⟩
  ·exact ⟨h1, h2, h3, h4, .inr ⟨h5, h6, h7⟩⟩
 ·rintro ⟨h1, h2, h3, h4, h5 | ⟨h5, h6, h7⟩⟩
  ·exact ⟨h1, h2, h3, h4, .inl h5⟩
  ·exact ⟨h1, h2, h3, h4, .inr ⟨⟨⟨h5, h6⟩, h7⟩, by unfold tellsN at h7 ⊢; rw [← h1, ← h2]; exact h7⟩⟩
theorem eqN_shape {who : Int} {n o : Node} (h : eqN who n o = true) : shapeOf o.kind = shapeOf n.kind := by
 obtain ⟨_, _, _, _, h⟩ := eqN_iff.1 h
 exact (two_shape (h.elim (fun h => .inl h.symm) (fun h => .inr ⟨h.1, h.2.1⟩))).1
theorem eqN_zero {L : Pool} (hW : Wf L) {who s t : Int} (hs : inP L s = true) (ht : inP L t = true) (h : eqN who (nodeOf L s) (nodeOf L t) = true) :
  ((nodeOf L s).a = 0 ↔ (nodeOf L t).a = 0) ∧ ((nodeOf L s).b = 0 ↔ (nodeOf L t).b = 0) := by
 have e := eqN_shape h
 have key : ∀ {s t}, inP L s = true → inP L t = true → shapeOf (nodeOf L t).kind = shapeOf (nodeOf L s).kind → ((nodeOf L s).a = 0 → (nodeOf L t).a = 0) ∧ ((nodeOf L s).b = 0 → (nodeOf L t).b = 0) := by
  intro s t hs ht e
  have t1 := (hW.node ht).2.1
  have t2 := (hW.node ht).2.2.1
  have k := (hW.node hs).2.2.2.2.1
  rw [e] at t1 t2
  unfold kidsOf at k
  refine ⟨fun h => ?_, fun h => ?_⟩
  ·rcases kids_le (nodeOf L s).kind with q | q | q
   ·exact t1 (by omega)
   ·have := k (nodeOf L s).a (by rw [q]; simp); have := inP_iff.1 this.1; omega
   ·have := k (nodeOf L s).a (by rw [q]; simp); have := inP_iff.1 this.1; omega
  ·rcases kids_le (nodeOf L s).kind with q | q | q
   ·exact t2 (by omega)
   ·exact t2 (by omega)
   ·have := k (nodeOf L s).b (by rw [q]; simp); have := inP_iff.1 this.1; omega
 exact ⟨⟨(key hs ht e).1, (key ht hs e.symm).1⟩, ⟨(key hs ht e).2, (key ht hs e.symm).2⟩⟩
def Cl (L : Pool) (who : Int) (R' : List (Int × Int)) (p : Int × Int) : Prop :=
 inP L p.1 = true ∧ inP L p.2 = true ∧ eqN who (nodeOf L p.1) (nodeOf L p.2) = true ∧ ((nodeOf L p.1).a ≠ 0 → ((nodeOf L p.1).a, (nodeOf L p.2).a) ∈ R') ∧ ((nodeOf L p.1).b ≠ 0 → ((nodeOf L p.1).b, (nodeOf L p.2).b) ∈ R')
theorem Cl.app {L : Pool} {who : Int} {R' X : List (Int × Int)} {p : Int × Int} (h : Cl L who R' p) : Cl L who (R' ++ X) p :=
 ⟨h.1, h.2.1, h.2.2.1, fun q => List.mem_append_left _ (h.2.2.2.1 q), fun q => List.mem_append_left _ (h.2.2.2.2 q)⟩
theorem Cor.refl {L : Pool} (hW : Wf L) (who : Int) : Cor L who (fun a b => a = b ∧ inP L a = true) where
 fn := fun a b c h1 h2 => h1.1.symm.trans h2.1
 inj := fun a b c h1 h2 => h1.1.trans h2.1.symm
 inp := fun a b h => ⟨h.2, h.1 ▸ h.2⟩
 eqn := fun a b h => by rw [h.1]; exact eqN_iff.2 ⟨rfl, rfl, rfl, rfl, .inl rfl⟩
 ka := fun a b h q => ⟨by rw [h.1], ((kid_in hW h.2).1 q).1⟩
 kb := fun a b h q => ⟨by rw [h.1], ((kid_in hW h.2).2 q).1⟩
theorem Cor.symm {L : Pool} (hW : Wf L) {who : Int} {C : Int → Int → Prop} (h : Cor L who C) : Cor L who (fun a b => C b a) where
 fn := fun a b c h1 h2 => h.inj _ _ _ h1 h2
 inj := fun a b c h1 h2 => h.fn _ _ _ h1 h2
 inp := fun a b q => (h.inp _ _ q).symm
 eqn := fun a b q => by
  obtain ⟨h1, h2, h3, h4, h5⟩ := eqN_iff.1 (h.eqn _ _ q)
  refine eqN_iff.2 ⟨h1.symm, h2.symm, h3.symm, h4.symm, h5.elim (fun h => .inl h.symm) (fun h => .inr ⟨h.2.1, h.1, ?_⟩)⟩
  have := h.2.2; unfold tellsN at this ⊢; rwa [← h1, ← h2]
 ka := fun a b q z => h.ka _ _ q (fun e => z ((eqN_zero hW (h.inp _ _ q).1 (h.inp _ _ q).2 (h.eqn _ _ q)).1.1 e))
 kb := fun a b q z => h.kb _ _ q (fun e => z ((eqN_zero hW (h.inp _ _ q).1 (h.inp _ _ q).2 (h.eqn _ _ q)).2.1 e))
theorem Cor.trans {L : Pool} (hW : Wf L) {who : Int} {C D : Int → Int → Prop} (h : Cor L who C) (g : Cor L who D) : Cor L who (fun a c => ∃ b, C a b ∧ D b c) where
 fn := by rintro a b c ⟨x, h1, h2⟩ ⟨y, h3, h4⟩; cases h.fn _ _ _ h1 h3; exact g.fn _ _ _ h2 h4
 inj := by rintro a b c ⟨x, h1, h2⟩ ⟨y, h3, h4⟩; cases g.inj _ _ _ h2 h4; exact h.inj _ _ _ h1 h3
 inp := by rintro a b ⟨x, h1, h2⟩; exact ⟨(h.inp _ _ h1).1, (g.inp _ _ h2).2⟩
 eqn := by
  rintro a b ⟨x, q1, q2⟩
  obtain ⟨h1, h2, h3, h4, h5⟩ := eqN_iff.1 (h.eqn _ _ q1)
  obtain ⟨g1, g2, g3, g4, g5⟩ := eqN_iff.1 (g.eqn _ _ q2)
  refine eqN_iff.2 ⟨h1.trans g1, h2.trans g2, h3.trans g3, h4.trans g4, ?_⟩
  have ht : tellsN who (nodeOf L a) = tellsN who (nodeOf L x) := by unfold tellsN; rw [h1, h2]
  rcases h5 with h5 | ⟨h5, h6, h7⟩
  ·rcases g5 with g5 | ⟨g5, g6, g7⟩
   ·exact .inl (h5.trans g5)
   ·exact .inr ⟨h5 ▸ g5, g6, ht.trans g7⟩
  ·rcases g5 with g5 | ⟨g5, g6, g7⟩
   ·exact .inr ⟨h5, g5 ▸ h6, h7⟩
   ·exact .inr ⟨h5, g6, h7⟩
 ka := by rintro a b ⟨x, q1, q2⟩ z; exact ⟨_, h.ka _ _ q1 z, g.ka _ _ q2 (fun e => z ((eqN_zero hW (h.inp _ _ q1).1 (h.inp _ _ q1).2 (h.eqn _ _ q1)).1.2 e))⟩
 kb := by rintro a b ⟨x, q1, q2⟩ z; exact ⟨_, h.kb _ _ q1 z, g.kb _ _ q2 (fun e => z ((eqN_zero hW (h.inp _ _ q1).1 (h.inp _ _ q1).2 (h.eqn _ _ q1)).2.2 e))⟩
theorem Cor.app {L M : Pool} (hW : Wf L) {who : Int} {C : Int → Int → Prop} (h : Cor L who C) : Cor (L ++ M) who C where
 fn := h.fn
 inj := h.inj
 inp := fun a b q => ⟨inP_app (h.inp _ _ q).1, inP_app (h.inp _ _ q).2⟩
 eqn := fun a b q => by rw [nodeOf_app (h.inp _ _ q).1, nodeOf_app (h.inp _ _ q).2]; exact h.eqn _ _ q
 ka := fun a b q => by rw [nodeOf_app (h.inp _ _ q).1, nodeOf_app (h.inp _ _ q).2]; exact h.ka _ _ q
 kb := fun a b q => by rw [nodeOf_app (h.inp _ _ q).1, nodeOf_app (h.inp _ _ q).2]; exact h.kb _ _ q
end Go.Sp
end
section
open Go Go.SE
namespace Go.Sp
end Go.Sp
namespace Go.Proofs
attribute [local irreducible] Calls
end Go.Proofs
end
section
namespace Go.Sp
end Go.Sp
end
section
open Go Go.SE
namespace Go.Sp
end Go.Sp
namespace Go.Proofs
attribute [local irreducible] Calls
end Go.Proofs
end
section
open Go Go.SE
namespace Go.Sp
end Go.Sp
namespace Go.Proofs
attribute [local irreducible] Calls
end Go.Proofs
end
section
open Go Go.SE
namespace Go.Sp
end Go.Sp
namespace Go.Proofs
attribute [local irreducible] Calls
end Go.Proofs
end
section
open Go Go.SE
namespace Go.Sp
end Go.Sp
namespace Go.Proofs
attribute [local irreducible] Calls
end Go.Proofs
end
section
namespace Go.Sp
theorem size_cnt {L : Pool} (hW : Wf L) : ∀ (n : Nat) (t : Int), t.toNat = n → inP L t = true → sizeOf L t = cnt (treeOf L t) := by
 intro n
 induction n using Nat.strongRecOn with
 | _ n ih =>
 intro t hn ht
 have h := hW.node ht
 rw [treeOf_in hW ht, h.2.2.2.2.2.1, cnt]
 have : ∀ l : List Int, (∀ k ∈ l, sizeOf L k = cnt (treeOf L k)) → (l.map (sizeOf L)).sum = (cntAll (l.map (treeOf L)) : Int) := by
  intro l
  induction l with
  | nil => intro _; rfl
  | cons a l ihl => intro hh; simp only [List.map_cons, List.sum_cons, cntAll, hh a (by simp), ihl (fun k hk => hh k (by simp [hk]))]; omega
 rw [this _ (fun k hk => ?_)]
 ·omega
 ·have hk2 := h.2.2.2.2.1 k hk
  have := inP_iff.1 hk2.1
  exact ih k.toNat (by omega) k rfl hk2.1
section
variable {L : Pool} (hW : Wf L) {t : Int} (ht : inP L t = true)
include hW ht
end
section
variable {L : Pool} (hW : Wf L) {t : Int}
include hW
end
end Go.Sp
end
section
open Go Go.SE
namespace Go.Proofs
attribute [local irreducible] Calls
section
variable {w w' : World} {e : TypeId} {s : Sl} {n : Nat} {V : Int → Bool}
end
end Go.Proofs
end
section
open Go Go.SE
namespace Go.Proofs
attribute [local irreducible] Calls
theorem c_ref05_Tree (p : Addr) {L : Sp.Pool} (hW : Sp.Wf L) : ∀ (n : Nat) (t : Int) (w0 : World) (F : Nat → Prop), t.toNat = n → PoolR w0 p L F →
  Calls Try.prog 29 #[.pointer (some p), .int .i64 t] w0 (RetT w0.heap.size w0 (Sp.treeOf L t)) := by
 intro n
 induction n using Nat.strongRecOn with
 | _ n ih =>
 intro t w0 F hn hP
 suffices key : ∀ K : Int → Int → Int → Int → ByteArray → Sl → World → Prop, (∀ k f t' u x s' w' ks, Sp.treeOf L t = .mk k f t' u x ks → TreeAt (w0.heap.size ≤ ·) w' s' (.mk k f t' u x ks) → Pure w0 w' → K k f t' u x s' w') → m_V (some p) t w0 K by
  refine (w_V _ _ w0 (fun k f t' u x s' w' => ∃ ks, Sp.treeOf L t = .mk k f t' u x ks ∧ TreeAt (w0.heap.size ≤ ·) w' s' (.mk k f t' u x ks) ∧ Pure w0 w') (key _ (fun k f t' u x s' w' ks h1 h2 h3 => ⟨ks, h1, h2, h3⟩))).mono ?_
  rintro _ w' ⟨k, f, t', u, x, s', rfl, ks, h1, h2, h3⟩
  rw [h1]
  exact ⟨s', rfl, h2, h3⟩
 intro K hK
 have hok := hW.ok
 have hnil : ∀ b, ¬ Sl.nil.blk b := fun b hb => by obtain ⟨a, h, _⟩ := hb; cases h
 unfold m_V
 intro H1 w1 hs1
 have E1 := hs1.first
 refine (c_ref05_Node p t w1 (hP.pure E1) hok).mono ?_
 rintro _ w2 ⟨k, f, t', u, x, a, b, r, rfl, ⟨hnd, hr⟩, E2⟩
 have E02 := E1.trans E2
 have hs2 := hs1.again E2.keptP
 refine ⟨_, _, _, _, _, _, _, _, rfl, E2.keptP, fun h => ?_, fun h => ?_⟩
 ·intro H2 w5 hs5
  have hin : Sp.inP L t = false := by rw [← hr]; simpa using h
  exact hK _ _ _ _ _ _ _ [] (by rw [Sp.treeOf_none hin]; rfl) TreeAt.leaf (E02.hst hs5)
 ·have hin : Sp.inP L t = true := by rw [← hr]; simpa using h
  have htr := Sp.treeOf_in hW hin
  have hnode := hW.node hin
  rw [← hnd] at htr hnode
  simp only at htr hnode
  obtain ⟨_, _, _, _, hkid, _, _⟩ := hnode
  have hpos := Sp.inP_iff.1 hin
  rw [ref05_kids]
  have J1 : ∀ (xs : Sl) (H : Nat → Prop) (w : World) (ps : List (Sp.Tree × Sl)) (S' : Nat → Prop), Hst w0 H w H w → Pure w0 w → Own H w 63 6 xs (ps.map prow) → ps.length ≤ 1 → (∀ p ∈ ps, TreeAt S' w p.2 p.1) → (∀ b, S' b → w0.heap.size ≤ b ∧ b < w.heap.size ∧ ¬ H b ∧ ¬ xs.blk b) → (∀ b, xs.blk b → w0.heap.size ≤ b) →
    ((Sp.shapeOf k).kids = 2 → ps.map Prod.fst = [Sp.treeOf L a]) → ((Sp.shapeOf k).kids ≠ 2 → ps.map Prod.fst = (Sp.kidsOf ⟨k, f, t', u, x, a, b⟩).map (Sp.treeOf L)) →
    m_V_j1 (some p) k b k f t' u x xs w0 H w K := by
   intro xs H w ps S' hs E O hpl hkids hS' hxs h2 h1
   unfold m_V_j1
   rw [ref05_kids]
   refine ⟨fun h => ?_, fun h => ?_⟩
   ·have hk2 : (Sp.shapeOf k).kids = 2 := by simpa using h
    have hps := h2 hk2
    intro w9 hs9
    have E9 := E.hst hs9
    have O9 := O.hst hs9
    have E10 : Pure w9 w9.drew := Ext.drew w9
    refine ⟨fun _ => True, trivial, ?_⟩
    rintro _ rfl
    have hb := hkid b (by simp [Sp.kidsOf, hk2])
    have hbp := Sp.inP_iff.1 hb.1
    refine (ih b.toNat (by omega) b w9.drew F rfl (hP.pure (E9.trans E10))).mono ?_
    rintro _ w11 ⟨s', rfl, hTb, E11⟩
    generalize hTt : Sp.treeOf L b = tb at *
    obtain ⟨k2, f2, t2, u2, x2, ks2⟩ := tb
    refine ⟨_, _, _, _, _, s', rfl, trivial, E11.keptP, ?_⟩
    intro p5 w12 h12
    have E12 : Pure w11 w12 := Ext.new h12
    refine ⟨trivial, ?_⟩
    have hs12 : Hst w0 H w12 H w12 := (hs9.again E10.keptP).again (E11.trans E12).keptP
    obtain ⟨s1, w13, hr13, hO13, hE13, hk13, hb13⟩ := (O9.pure ((E10.trans E11).trans E12)).append (P := Try.prog) (ty := 22) (c := 1) slT_tree hs12 (r := trow (.mk k2 f2 t2 u2 x2 ks2) s') (Box.of_new h12).row rfl (trow_one _ _) (by simp; omega) (by simp [maxLen]; omega)
    refine ⟨s1, w13, hr13, trivial, hk13, ?_⟩
    intro w15 hs15
    have zd : w9.drew.heap.size = w9.heap.size := rfl
    have z9 := hs9.ext.size
    have z11 := E11.size
    have z12 := E12.size
    have z13 := hE13.size
    have hS9 : ∀ b, S' b → w0.heap.size ≤ b ∧ b < w9.heap.size ∧ ¬ H b ∧ ¬ xs.blk b := fun b hb => ⟨(hS' b hb).1, by have := (hS' b hb).2.1; omega, (hS' b hb).2.2.1, (hS' b hb).2.2.2⟩
    have hvs : ∀ b, s1.blk b → b < w13.heap.size ∧ ¬ H b := fun b hb => ⟨hO13.rows.lt hb, hO13.vis b hb⟩
    have hR15 := hO13.rows.ext hs15.ext (hs15.disj (G := s1.blk) hvs)
    have e1 : ps.map prow ++ [trow (.mk k2 f2 t2 u2 x2 ks2) s'] = (ps ++ [((.mk k2 f2 t2 u2 x2 ks2 : Sp.Tree), s')]).map prow := by simp [prow]
    rw [e1] at hR15
    have hT := TreeAt.of_pairs (S := fun b => w0.heap.size ≤ b) (k := k) (f := f) (t := t') (u := u) (x := x) hR15 (fun b hb => (hb13 b hb).elim (hxs b) (fun h => by have := E9.size; omega)) (fun q hq => ?_) (by simp; omega)
    ·have e2 : (ps ++ [((.mk k2 f2 t2 u2 x2 ks2 : Sp.Tree), s')]).map Prod.fst = (Sp.kidsOf ⟨k, f, t', u, x, a, b⟩).map (Sp.treeOf L) := by
      rw [List.map_append, hps]; simp [Sp.kidsOf, hk2, hTt]
     rw [e2] at hT
     exact hK _ _ _ _ _ _ _ _ htr hT ((((E9.trans E10).trans E11).trans E12).trans' hE13 (fun i hi hb => by have := hxs i hb; omega) |>.hst hs15)
    ·rcases List.mem_append.1 hq with h | h
     ·have q1 := (hkids q h).hst hs9 (fun b hb => ⟨(hS' b hb).2.1, (hS' b hb).2.2.1⟩)
      have q2 := (q1.pure ((E10.trans E11).trans E12)).ext hE13 (fun b hb hy => (hS' b hb).2.2.2 hy)
      exact (q2.hst hs15 (fun b hb => ⟨by have := (hS9 b hb).2.1; omega, (hS' b hb).2.2.1⟩)).mono (fun b hb => (hS' b hb).1)
     ·simp only [List.mem_singleton] at h; subst h
      have q1 := (hTb.lt.pure E12).ext hE13 (fun b hb hy => by have := O9.rows.lt hy; have := hb.1; omega)
      exact (q1.hst hs15 (fun b hb => ⟨by have := hb.2; omega, fun hh => by have := hs9.lt b hh; have := hb.1; omega⟩)).mono (fun b hb => by have := hb.1; have := E9.size; omega)
   ·have hk2 : (Sp.shapeOf k).kids ≠ 2 := by simpa using h
    intro w16 hs16
    have O16 := O.hst hs16
    have hT := TreeAt.of_pairs (S := fun b => w0.heap.size ≤ b) (k := k) (f := f) (t := t') (u := u) (x := x) O16.rows hxs (fun q hq => ((hkids q hq).hst hs16 (fun b hb => ⟨(hS' b hb).2.1, (hS' b hb).2.2.1⟩)).mono (fun b hb => (hS' b hb).1)) (by omega)
    rw [h1 hk2] at hT
    exact hK _ _ _ _ _ _ _ _ htr hT (E.hst hs16)
  have hkk := Sp.kids_le k
  refine ⟨fun h => ?_, fun h => ?_⟩
  ·have hk1 : 1 ≤ (Sp.shapeOf k).kids := by have := of_decide_eq_true h; omega
   intro H3 w8 hs8
   have E8 := E02.hst hs8
   have E17 : Pure w8 w8.drew := Ext.drew w8
   refine ⟨fun _ => True, trivial, ?_⟩
   rintro _ rfl
   have ha := hkid a (by rcases hkk with h | h | h <;> simp [Sp.kidsOf, h] <;> omega)
   have hap := Sp.inP_iff.1 ha.1
   refine (ih a.toNat (by omega) a w8.drew F rfl (hP.pure (E8.trans E17))).mono ?_
   rintro _ w18 ⟨s', rfl, hTa, E18⟩
   generalize hTt : Sp.treeOf L a = ta at *
   obtain ⟨k2, f2, t2, u2, x2, ks2⟩ := ta
   refine ⟨_, _, _, _, _, s', rfl, trivial, E18.keptP, ?_⟩
   intro p6 w19 h19
   have E19 : Pure w18 w19 := Ext.new h19
   refine ⟨trivial, ?_⟩
   have hs19 : Hst w0 H3 w19 H3 w19 := (hs8.again E17.keptP).again (E18.trans E19).keptP
   obtain ⟨s2, w20, hr20, hO20, hE20, hk20, hb20⟩ := (Own.nil (sz := 6) (e := 63) H3 w19).append (P := Try.prog) (ty := 22) (c := 1) slT_tree hs19 (r := trow (.mk k2 f2 t2 u2 x2 ks2) s') (Box.of_new h19).row rfl (trow_one _ _) (by simp) (by simp [maxLen])
   refine ⟨s2, w20, hr20, trivial, hk20, ?_⟩
   intro w21 hs21
   have zd : w8.drew.heap.size = w8.heap.size := rfl
   have z18 := E18.size
   have z19 := E19.size
   have z20 := hE20.size
   have z21 := hs21.ext.size
   have E20 : Pure w19 w20 := hE20.mono (fun b _ hb => hnil b hb)
   have hs2n : ∀ b, s2.blk b → w19.heap.size ≤ b := fun b hb => (hb20 b hb).elim (fun h => (hnil b h).elim) id
   refine J1 s2 H3 w21 [((.mk k2 f2 t2 u2 x2 ks2 : Sp.Tree), s')] (fun b => w8.heap.size ≤ b ∧ b < w18.heap.size) hs21.here ((((E8.trans E17).trans E18).trans E19).trans E20 |>.hst hs21) ?_ (by simp) ?_ ?_ (fun b hb => by have := hs2n b hb; have := E8.size; omega) (fun _ => by simp) (fun hne => ?_)
   ·have := hO20.hst hs21; simpa [prow] using this
   ·intro q hq
    simp only [List.mem_singleton] at hq; subst hq
    exact ((hTa.lt.pure E19).pure E20).hst hs21 (fun b hb => ⟨by have := hb.2; omega, fun hh => by have := hs8.lt b hh; have := hb.1; omega⟩)
   ·rintro b ⟨h1, h2⟩
    exact ⟨by have := E8.size; omega, by omega, fun hh => by have := hs8.lt b hh; omega, fun hh => by have := hs2n b hh; omega⟩
   ·rcases hkk with h | h | h
    ·omega
    ·simp [Sp.kidsOf, h, hTt]
    ·exact absurd h hne
  ·have hk0 : (Sp.shapeOf k).kids = 0 := by have := of_decide_eq_false h; omega
   intro H3 w8 hs8
   exact J1 Sl.nil H3 w8 [] (fun _ => False) hs8.here (E02.hst hs8) (Own.nil _ _) (by simp) (by simp) (fun b h => h.elim) (fun b h => (hnil b h).elim) (fun h => by omega) (fun _ => by simp [Sp.kidsOf, hk0])
end Go.Proofs
end
section
open Go Go.SE
namespace Go.Sp
theorem Sub.app {L X : Pool} (hW : Wf L) {t : Int} (ht : inP L t = true) : ∀ {a : Int}, Sub (L ++ X) t a → Sub L t a := by
 intro a h
 induction h with
 | refl => exact .refl _
 | kid hs hk ih =>
  have hin := (Sub.le hW ht ih).1
  rw [nodeOf_app hin] at hk
  exact .kid ih hk
theorem cnt_le {L : Pool} (hW : Wf L) (t : Int) : cnt (treeOf L t) ≤ 1000000 := by
 cases h : inP L t with
 | true => have := size_cnt hW _ t rfl h; have := (hW.ok.sizeOf t).2; omega
 | false => rw [treeOf_none h]; simp [noTree, cnt, cntAll]
end Go.Sp
namespace Go.Proofs
attribute [local irreducible] Calls
end Go.Proofs
end
section
open Go Go.SE
namespace Go.Sp
theorem subs_room {L X : Pool} (hW : Wf (L ++ X)) (hL : Wf L) {t : Int} (ht : inP L t = true) : (subs (L ++ X) t).length ≤ L.length := by
 refine pool_few (subs_nd hW t) (fun x hx => ?_)
 exact (Sub.le hL ht (Sub.app hL ht ((subs_mem hW).1 hx).2)).1
end Go.Sp
namespace Go.SE
end Go.SE
namespace Go.Proofs
attribute [local irreducible] Calls
theorem Pl2.seen {w0 w w' : World} {H : Nat → Prop} {p q : Addr} {L1 L2 : Sp.Pool} {F1 F2 : Nat → Prop} (h : Pl2 w None w' p q L1 L2 F1 F2) (E : Pure w0 w) (hH : ∀ b, H b → b < w.heap.size) : Pl2 w0 H w' p q L1 L2 F1 F2 :=
 ⟨E.trans h.pure, h.pool, h.ref, fun b hb => ⟨Nat.le_trans E.size (h.o1 b hb).1, fun hh => by have := hH b hh; have := (h.o1 b hb).1; omega, (h.o1 b hb).2.2⟩, fun b hb => ⟨Nat.le_trans E.size (h.o2 b hb).1, fun hh => by have := hH b hh; have := (h.o2 b hb).1; omega⟩⟩
theorem all_take {l : List Int} {f : Int → Bool} {j : Nat} (h : j < l.length) : (l.take (j + 1)).all f = ((l.take j).all f && f l[j]) := by
 rw [List.take_succ_eq_append_getElem h, List.all_append]; simp
end Go.Proofs
end
section
open Go Go.SE
namespace Go.Proofs
attribute [local irreducible] Calls
def irw (n : Nat) (V : Int → Int) : List (List Value) := (List.range n).map fun i : Nat => [Value.int .i64 (V (i : Int))]
section
variable {w w' : World} {e : TypeId} {s : Sl} {n : Nat} {V : Int → Int}
end
structure RelAt (w : World) (pr q : Addr) (who : Int) (L : Sp.Pool) (F : Nat → Prop) (R : List (Int × Int)) (sA sB : Sl) : Prop where
 box : Box w pr [.pointer (some q), .int .i64 who, sA.v, sB.v] 98
 ra : Rws w 23 1 sA (irw (L.length + 1) (Sp.toF R))
 rb : Rws w 23 1 sB (irw (L.length + 1) (Sp.toF (Sp.swapR R)))
 ref : PoolR w q L F
 inp : ∀ p ∈ R, Sp.inP L p.1 = true ∧ Sp.inP L p.2 = true
 dA : ¬ sA.blk pr.block
 dB : ¬ sB.blk pr.block
 dAB : ∀ b, sA.blk b → ¬ sB.blk b
 dF : ∀ b, F b → ¬ sA.blk b ∧ ¬ sB.blk b
section
variable {w w' w0 : World} {pr q : Addr} {who : Int} {L : Sp.Pool} {F : Nat → Prop} {R : List (Int × Int)} {sA sB : Sl}
def RelB (pr : Addr) (sA sB : Sl) (F : Nat → Prop) (b : Nat) : Prop := b = pr.block ∨ sA.blk b ∨ sB.blk b ∨ F b
theorem RelAt.ext {X : Nat → Prop} (h : RelAt w pr q who L F R sA sB) (E : Ext X w w') (hd : ∀ b, RelB pr sA sB F b → ¬ X b) : RelAt w' pr q who L F R sA sB :=
 ⟨h.box.ext E (hd _ (.inl rfl)), h.ra.ext E (fun b hb => hd b (.inr (.inl hb))), h.rb.ext E (fun b hb => hd b (.inr (.inr (.inl hb)))), h.ref.ext E (fun b hb => hd b (.inr (.inr (.inr hb)))), h.inp, h.dA, h.dB, h.dAB, h.dF⟩
theorem RelAt.pure (h : RelAt w pr q who L F R sA sB) (E : Pure w w') : RelAt w' pr q who L F R sA sB := h.ext E (fun _ _ h => h)
theorem RelAt.lt (h : RelAt w pr q who L F R sA sB) {b : Nat} (hb : RelB pr sA sB F b) : b < w.heap.size := by
 rcases hb with rfl | hb | hb | hb
 ·exact h.box.lt
 ·exact h.ra.lt hb
 ·exact h.rb.lt hb
 ·exact h.ref.lt hb
end
end Go.Proofs
end
section
open Go Go.SE
namespace Go.Proofs
attribute [local irreducible] Calls
end Go.Proofs
end
section
open Go Go.SE
namespace Go.SE
theorem New.lt {w w' : World} {o : Obj} {p : Addr} (h : New w o p w') : p.block < w'.heap.size := (Array.getElem?_eq_some_iff.1 h.block_new).1
theorem copyIn {P : Program} {t e : TypeId} {sz bytes : Nat} (T : SlType P t e sz bytes) {w wn w1 : World} {ty : TypeId} {p : Addr} (hn : New w (.cells #[] e) p wn) {X : Nat → Prop} (E : Ext X wn w1) (hX : ¬ X p.block) {S : Nat → Prop} {x : Sl} {qs : List (List Value)} (hx : Lst S w1 sz x qs) (hl : ∀ q ∈ qs, q.length = sz) (h1 : ∀ q ∈ qs, q.all oneCell = true) (hb : qs.length * bytes ≤ 140737488355328) (hm : qs.length ≤ maxLen) :
  ∃ s' w2, (Builtin.append_ #[t, t] ty #[(Sl.mk (some p) 0 0).v, x.v]).run P w1 = .ok s'.v w2 ∧ Rws w2 e sz s' qs ∧ Ext (· = p.block) w1 w2 ∧ ∀ b, s'.blk b → b = p.block ∨ w1.heap.size ≤ b := by
 have hp' : ∀ b, (Sl.mk (some p) 0 0).blk b → b = p.block := fun b hb => (by obtain ⟨a, ha, e⟩ := hb; cases ha; exact e.symm)
 obtain ⟨s2, w2, hr, hR, hE, hb'⟩ := ((Rws.empty (sz := sz) hn).ext E (fun b hb => by rw [hp' b hb]; exact hX)).appendL (P := P) (ty := ty) T hx hl h1 (by simpa using hb) (by simpa using hm)
 exact ⟨s2, w2, hr, by simpa using hR, hE.mono (fun b _ hb => hp' b hb), fun b h => (hb' b h).elim (fun h => .inl (hp' b h)) .inr⟩
end Go.SE
namespace Go.Proofs
attribute [local irreducible] Calls
theorem tm1_one (ts : List Int) : ∀ q ∈ tmr ts, q.all oneCell = true := by intro q hq; obtain ⟨t, _, rfl⟩ := List.mem_map.1 hq; rfl
theorem tm1_sz (ts : List Int) : ∀ q ∈ tmr ts, q.length = 1 := by intro q hq; obtain ⟨t, _, rfl⟩ := List.mem_map.1 hq; rfl
end Go.Proofs
end
section
open Go Go.SE
namespace Go.Sp
def IsCls {α : Type} (V : List α) (cs : List Int) : Prop := cs.length = V.length ∧ ∀ (i : Nat), i < V.length → ∃ k : Nat, cs[i]? = some (k : Int) ∧ k < V.length ∧ V[k]? = V[i]? ∧ ∀ k' < k, V[k']? ≠ V[i]?
theorem IsCls.unique {α : Type} {V : List α} {cs ds : List Int} (h : IsCls V cs) (g : IsCls V ds) : cs = ds := by
 apply List.ext_getElem?
 intro i
 by_cases hi : i < V.length
 ·obtain ⟨k, h1, h2, h3, h4⟩ := h.2 i hi
  obtain ⟨m, g1, g2, g3, g4⟩ := g.2 i hi
  rw [h1, g1]
  rcases Nat.lt_trichotomy k m with e | e | e
  ·exact absurd h3 (g4 k e)
  ·rw [e]
  ·exact absurd g3 (h4 m e)
 ·rw [List.getElem?_eq_none (by rw [h.1]; omega), List.getElem?_eq_none (by rw [g.1]; omega)]
theorem IsCls.congr {α β : Type} {V : List α} {U : List β} {cs : List Int} (h : IsCls V cs) (hl : U.length = V.length) (he : ∀ i j, i < V.length → j < V.length → (V[i]? = V[j]? ↔ U[i]? = U[j]?)) : IsCls U cs := by
 refine ⟨h.1.trans hl.symm, fun i hi => ?_⟩
 obtain ⟨k, h1, h2, h3, h4⟩ := h.2 i (by omega)
 exact ⟨k, h1, by omega, (he k i h2 (by omega)).1 h3, fun k' hk' e => h4 k' hk' ((he k' i (by omega) (by omega)).2 e)⟩
end Go.Sp
namespace Go.Proofs
attribute [local irreducible] Calls
theorem c_slFirst {S : Nat → Prop} (s : Sl) (ts : List Int) (v : Int) (w0 : World) (hs : Lst S w0 1 s (tmr ts)) (hn : ts.length ≤ 1000000) (hv : v ∈ ts) :
  Calls Try.prog 58 #[s.v, .int .i64 v] w0 (fun e w' => ∃ r : Int, e = .returned (.int .i64 r) ∧ ((∃ k : Nat, r = k ∧ ts[k]? = some v ∧ ∀ k' < k, ts[k']? ≠ some v) ∧ w' = w0)) := by
 refine w_O1 _ _ w0 (fun r w' => (∃ k : Nat, r = k ∧ ts[k]? = some v ∧ ∀ k' < k, ts[k']? ≠ some v) ∧ w' = w0) ?_
 unfold m_O1
 have hl : s.len = ts.length := by rw [hs.len, tmr_len]
 refine ⟨fun i w' => w' = w0 ∧ ∃ j : Nat, i = j ∧ j ≤ ts.length ∧ ∀ k' < j, ts[k']? ≠ some v, fun i _ => ((ts.length : Int) - i).toNat, ⟨rfl, 0, rfl, Nat.zero_le _, by omega⟩, ?_⟩
 rintro _ _ ⟨rfl, j, rfl, hj, hno⟩
 unfold m_O1_l1
 refine ⟨fun h => ?_, fun h => ?_⟩
 ·have hlt := lt_of_dec hl h
  obtain ⟨a, hat, _, hc⟩ := tm_nth hs hlt
  refine ⟨a, hat, _, hc, fun he => ?_, fun he => ?_⟩
  ·have he : v = ts[j] := by simpa using he
   exact ⟨⟨j, rfl, by rw [List.getElem?_eq_getElem hlt, he], hno⟩, rfl⟩
  ·have he : ¬ v = ts[j] := by simpa using he
   rw [wrap_succ hlt (by omega)]
   refine ⟨⟨rfl, j + 1, rfl, hlt, fun k' hk => ?_⟩, lt_dec hlt⟩
   rcases Nat.lt_succ_iff_lt_or_eq.1 hk with h | h
   ·exact hno k' h
   ·subst h; rw [List.getElem?_eq_getElem hlt]; intro e; cases e; exact he rfl
 ·have hge := eq_of_dec hl hj h
  subst hge
  obtain ⟨i, hi, e⟩ := List.getElem_of_mem hv
  exact absurd (by rw [List.getElem?_eq_getElem hi, e]) (hno i hi)
structure Views (who : Int) (L L1 : Sp.Pool) (l vs : List Int) : Prop where
 len : vs.length = l.length
 val : ∀ (i : Nat) (v t : Int), vs[i]? = some v → l[i]? = some t → Sp.inP L1 v = true ∧ Sp.treeOf L1 v = Sp.mapT (Sp.viewN who) (Sp.treeOf L t)
theorem Views.app {who : Int} {L L1 X : Sp.Pool} {l vs : List Int} (h : Views who L L1 l vs) (hW : Sp.Wf (L1 ++ X)) : Views who L (L1 ++ X) l vs :=
 ⟨h.len, fun i v t hv ht => let ⟨a, b⟩ := h.val i v t hv ht; ⟨Sp.inP_app a, by rw [Sp.treeOf_app hW _ _ rfl a]; exact b⟩⟩
def Framed (p : Addr) (who : Int) (l : List Int) (L : Sp.Pool) (F : Nat → Prop) (w0 : World) (r : Sl) (e : Int) (w' : World) : Prop :=
 (Sp.isName who = false ∧ r = Sl.nil ∧ e = 50 ∧ Pure w0 w') ∨ (Sp.isName who = true ∧ l.all (Sp.inP L) = false ∧ r = Sl.nil ∧ e = 51 ∧ Pure w0 w') ∨
 (Sp.isName who = true ∧ l.all (Sp.inP L) = true ∧ e = 0 ∧ ∃ L1 F1 vs, PoolAt w' p L1 F1 ∧ Ext F w0 w' ∧ (∀ b, F1 b → F b ∨ w0.heap.size ≤ b) ∧ Sp.Wf L1 ∧ (∃ X, L1 = L ++ X) ∧ Rws w' 23 1 r (tmr vs) ∧ (∀ b, r.blk b → w0.heap.size ≤ b ∧ ¬ F1 b) ∧ Views who L L1 l vs)
theorem c_Frame {S : Nat → Prop} (p : Addr) (who : Int) (sl : Sl) (l : List Int) (w0 : World) {L : Sp.Pool} {F : Nat → Prop} (hW : Sp.Wf L) (hP : PoolAt w0 p L F) (hl : Lst S w0 1 sl (tmr l)) (hS : ∀ b, S b → ¬ F b) (hn : l.length ≤ 12) (hL : L.length ≤ 400) :
  Calls Try.prog 31 #[.pointer (some p), .int .i64 who, sl.v] w0 (fun e w' => ∃ r1 : Sl, ∃ r2 : Int, e = .returned (.tuple #[r1.v, .int .i64 r2]) ∧ Framed p who l L F w0 r1 r2 w') := by
 suffices key : ∀ K : Sl → Int → World → Prop, (∀ r1 r2 w', Framed p who l L F w0 r1 r2 w' → K r1 r2 w') → m_T (some p) who sl w0 K from
  w_T _ _ _ w0 _ (key _ (fun _ _ _ h => h))
 intro K hK
 unfold m_T
 have l3 : sl.len = l.length := by rw [hl.len, tmr_len]
 have nm : (!((decide (who ≥ 0)) && (decide (who < 16)))) = !Sp.isName who := by unfold Sp.isName; rfl
 have hnil : ∀ b, ¬ Sl.nil.blk b := fun b hb => by obtain ⟨a, h, _⟩ := hb; cases h
 rw [nm]
 refine Br.f rfl ⟨fun hno w1 hs1 => hK _ _ _ (.inl ⟨by simpa using hno, rfl, rfl, hs1.first⟩), fun hyes w1 hs1 => ?_⟩
 have hname : Sp.isName who = true := by simpa using hyes
 refine ⟨fun i H w' => ∃ j : Nat, i = j ∧ j ≤ l.length ∧ (l.take j).all (Sp.inP L) = true ∧ Pure w0 w', fun i _ => ((l.length : Int) - i).toNat, ⟨0, rfl, Nat.zero_le _, by simp, hs1.first⟩, ?_⟩
 rintro _ Hl wl hsl ⟨j, rfl, hj, hall, E⟩
 unfold m_T_l1
 refine ⟨fun hc => ?_, fun hc => ?_⟩
 ·have hlt := lt_of_dec l3 hc
  obtain ⟨a, hat, _, ha⟩ := tm_nth (hl.pure E) hlt
  refine ⟨a, hat, _, ha, ?_⟩
  refine (c_Node p l[j] wl (hP.pure E) hW.ok).mono ?_
  rintro _ w2 ⟨k, f, t', u, x, a1, b1, r1, rfl, ⟨_, rfl⟩, E2⟩
  refine ⟨_, _, _, _, _, _, _, _, rfl, E2.keptP, fun hno H1 w4 hs4 => ?_, fun hy H1 w4 hs4 => ?_⟩
  ·have hno : Sp.inP L l[j] = false := by simpa using hno
   refine hK _ _ _ (.inr (.inl ⟨hname, ?_, rfl, rfl, (E.trans E2).hst hs4⟩))
   rw [List.all_eq_false]
   exact ⟨l[j], List.getElem_mem hlt, by rw [hno]; simp⟩
  ·have hy : Sp.inP L l[j] = true := by simpa using hy
   rw [wrap_succ hlt (by omega)]
   exact ⟨⟨j + 1, rfl, hlt, by rw [all_take hlt, hall, hy]; rfl, (E.trans E2).hst hs4⟩, lt_dec hlt⟩
 have hge := eq_of_dec l3 hj hc
 subst hge
 rw [List.take_length] at hall
 have hold : ∀ b, F b → ¬ Hl b := fun b hb hh => by have := hP.lt hb; have := hsl.old b hh; omega
 refine ⟨fun out x H w' => ∃ (j : Nat) (L1 : Sp.Pool) (F1 : Nat → Prop) (vs : List Int), x = j ∧ j ≤ l.length ∧ PoolAt w' p L1 F1 ∧ Ext F w0 w' ∧ (∀ b, F1 b → (F b ∨ w0.heap.size ≤ b) ∧ ¬ H b) ∧ Sp.Wf L1 ∧ (∃ X, L1 = L ++ X) ∧ L1.length ≤ 400 + 400 * j ∧ Own H w' 23 1 out (tmr vs) ∧ (∀ b, out.blk b → w0.heap.size ≤ b ∧ ¬ F1 b) ∧ Views who L L1 (l.take j) vs, fun _ x _ => ((l.length : Int) - x).toNat,
  ⟨0, L, F, [], rfl, Nat.zero_le _, hP.pure E, E.pure, fun b hb => ⟨.inl hb, hold b hb⟩, hW, ⟨[], by simp⟩, by omega, Own.nil _ _, fun b hb => (hnil b hb).elim, ⟨by simp, by simp⟩⟩, ?_⟩
 rintro out _ H2 w2 hs2 ⟨j, L1, F1, vs, rfl, hj, hp, hE, hF, hW1, ⟨X, hX⟩, hroom, O, hO, hV⟩
 unfold m_T_l2
 refine ⟨fun hc => ?_, fun hc => ?_⟩
 ·have hlt := lt_of_dec l3 hc
  obtain ⟨a, hat, _, ha⟩ := tm_nth (hl.ext hE hS) hlt
  refine ⟨a, hat, _, ha, ?_⟩
  have hin : Sp.inP L l[j] = true := List.all_eq_true.1 hall _ (List.getElem_mem hlt)
  have hin1 : Sp.inP L1 l[j] = true := by rw [hX]; exact Sp.inP_app hin
  have hrm : (Sp.subs L1 l[j]).length ≤ 400 := by subst hX; have := Sp.subs_room hW1 hW hin; omega
  refine (c_View p who l[j] w2 hW1 hp (by omega)).mono ?_
  rintro _ w5 ⟨r2, r3, rfl, hT⟩
  rcases hT with ⟨h1, _⟩ | ⟨_, h1, _⟩ | ⟨_, _, rfl, L2, F2, hP2, X2, hF2, hW2, ⟨Y, hY⟩, hfew, _, hin2, htr⟩
  ·rw [hname] at h1; cases h1
  ·rw [hin1] at h1; cases h1
  have hlt2 := hs2.lt
  have hk : Kept H2 w2 w5 := X2.kept (fun b hb h1 => (hF b h1).2 hb)
  refine ⟨_, _, rfl, hk, Br.f rfl ?_⟩
  intro p3 w6 h6
  have E6 : Pure w5 w6 := Ext.new h6
  have hs6 : Hst w0 H2 w6 H2 w6 := (hs2.again hk).again E6.keptP
  have O6 := (O.ext X2 (fun b hb => (hO b hb).2)).pure E6
  have hvl : vs.length = j := by rw [hV.len, List.length_take]; omega
  obtain ⟨s1, w7, hr7, hO7, hE7, hk7, hb7⟩ := O6.append (P := Try.prog) (ty := 36) (c := 1) slT_tm hs6 (r := [.int .i64 r2]) (Box.of_new h6).row rfl rfl (by rw [tmr_len]; omega) (by rw [tmr_len]; simp [maxLen]; omega)
  refine ⟨s1, w7, hr7, hk7, ?_⟩
  have z2 := hE.size; have z5 := X2.size; have z6 := E6.size
  rw [wrap_succ hlt (by omega)]
  have ht : tmr vs ++ [[.int .i64 r2]] = tmr (vs ++ [r2]) := by simp [tmr]
  rw [ht] at hO7
  have hOF : ∀ b, out.blk b → ¬ F2 b := fun b hb h => (hF2 b h).elim (hO b hb).2 (fun h => by have := O.rows.lt hb; omega)
  refine ⟨⟨j + 1, L2, F2, vs ++ [r2], rfl, hlt, (hP2.pure E6).ext hE7 (fun b hb h => hOF b h hb), ?_, fun b hb => ?_, hW2, ⟨X ++ Y, by rw [hY, hX, List.append_assoc]⟩, by omega, hO7, fun b hb => ?_, ?_⟩, lt_dec hlt⟩
  ·refine ((hE.trans' X2 ?_).thenPure E6).trans' hE7 ?_
   ·intro i hi hb; exact (hF i hb).1.elim id (fun h => absurd h (by omega))
   ·intro i hi hb; have := (hO i hb).1; omega
  ·rcases hF2 b hb with h | h
   ·exact hF b h
   ·exact ⟨.inr (by omega), fun hh => by have := hlt2 b hh; omega⟩
  ·rcases hb7 b hb with h | h
   ·exact ⟨(hO b h).1, hOF b h⟩
   ·exact ⟨by omega, fun hh => by have := hP2.lt hh; omega⟩
  ·have hV2 : Views who L L2 (l.take j) vs := by rw [hY]; exact hV.app (hY ▸ hW2)
   have htree : Sp.treeOf L1 l[j] = Sp.treeOf L l[j] := by rw [hX]; exact Sp.treeOf_app (hX ▸ hW1) _ _ rfl hin
   refine ⟨by rw [List.length_append, hvl, List.length_take]; simp; omega, fun i v t hv ht => ?_⟩
   rw [List.take_succ_eq_append_getElem hlt] at ht
   by_cases hi : i < j
   ·rw [List.getElem?_append_left (by omega)] at hv
    rw [List.getElem?_append_left (by rw [List.length_take]; omega)] at ht
    exact hV2.val i v t hv ht
   ·have hij : i = j := by
     have := (List.getElem?_eq_some_iff.1 hv).1
     simp at this; omega
    subst hij
    rw [List.getElem?_append_right (by omega), hvl, Nat.sub_self] at hv
    rw [List.getElem?_append_right (by rw [List.length_take]; omega), List.length_take, Nat.min_eq_left (by omega), Nat.sub_self] at ht
    simp at hv ht
    subst hv; subst ht
    exact ⟨hin2, by rw [htr, htree]⟩
 ·have hge := eq_of_dec l3 hj hc
  subst hge
  rw [List.take_length] at hV
  exact hK _ _ _ (.inr (.inr ⟨hname, hall, rfl, L1, F1, vs, hp, hE, fun b hb => (hF b hb).1, hW1, ⟨X, hX⟩, O.rows, hO, hV⟩))
def viewsOf (who : Int) (L : Sp.Pool) (l : List Int) : List Sp.Tree := l.map fun t => Sp.mapT (Sp.viewN who) (Sp.treeOf L t)
theorem Views.cls {who : Int} {L L1 : Sp.Pool} {l vs cs : List Int} (hW1 : Sp.Wf L1) (h : Views who L L1 l vs) (hc : Sp.IsCls vs cs) : Sp.IsCls (viewsOf who L l) cs := by
 refine hc.congr (by rw [viewsOf, List.length_map, h.len]) (fun i j hi hj => ?_)
 have hil : i < l.length := by rw [← h.len]; exact hi
 have hjl : j < l.length := by rw [← h.len]; exact hj
 obtain ⟨a1, a2⟩ := h.val i _ _ (List.getElem?_eq_getElem hi) (List.getElem?_eq_getElem hil)
 obtain ⟨b1, b2⟩ := h.val j _ _ (List.getElem?_eq_getElem hj) (List.getElem?_eq_getElem hjl)
 unfold viewsOf
 rw [List.getElem?_map, List.getElem?_map, List.getElem?_eq_getElem hi, List.getElem?_eq_getElem hj, List.getElem?_eq_getElem hil, List.getElem?_eq_getElem hjl]
 simp only [Option.map_some, Option.some.injEq]
 rw [← a2, ← b2]
 exact ⟨fun e => by rw [e], fun e => Sp.treeOf_inj hW1 _ _ _ rfl a1 b1 e⟩
theorem c_Classes {S : Nat → Prop} (p : Addr) (who : Int) (sl : Sl) (l : List Int) (w0 : World) {L : Sp.Pool} {F : Nat → Prop} (hW : Sp.Wf L) (hP : PoolAt w0 p L F) (hl : Lst S w0 1 sl (tmr l)) (hS : ∀ b, S b → ¬ F b) (hn : l.length ≤ 12) (hL : L.length ≤ 400) :
  Calls Try.prog 32 #[.pointer (some p), .int .i64 who, sl.v] w0 (fun e w' => ∃ r1 : Sl, ∃ r2 : Int, e = .returned (.tuple #[r1.v, .int .i64 r2]) ∧ (Ext F w0 w' ∧
   ((Sp.isName who = false ∧ r1 = Sl.nil ∧ r2 = 50) ∨ (Sp.isName who = true ∧ l.all (Sp.inP L) = false ∧ r1 = Sl.nil ∧ r2 = 51) ∨ (Sp.isName who = true ∧ l.all (Sp.inP L) = true ∧ r2 = 0 ∧ ∃ cs, Rws w' 3 1 r1 (tmr cs) ∧ (∀ b, r1.blk b → w0.heap.size ≤ b) ∧ Sp.IsCls (viewsOf who L l) cs)))) := by
 suffices key : ∀ K : Sl → Int → World → Prop, (∀ r1 r2 w', (Ext F w0 w' ∧
   ((Sp.isName who = false ∧ r1 = Sl.nil ∧ r2 = 50) ∨ (Sp.isName who = true ∧ l.all (Sp.inP L) = false ∧ r1 = Sl.nil ∧ r2 = 51) ∨ (Sp.isName who = true ∧ l.all (Sp.inP L) = true ∧ r2 = 0 ∧ ∃ cs, Rws w' 3 1 r1 (tmr cs) ∧ (∀ b, r1.blk b → w0.heap.size ≤ b) ∧ Sp.IsCls (viewsOf who L l) cs))) → K r1 r2 w') → m_N1 (some p) who sl w0 K from
  w_N1 _ _ _ w0 _ (key _ (fun _ _ _ h => h))
 intro K hK
 unfold m_N1
 have hnil : ∀ b, ¬ Sl.nil.blk b := fun b hb => by obtain ⟨a, h, _⟩ := hb; cases h
 refine (c_Frame p who sl l w0 hW hP hl hS hn hL).mono ?_
 rintro _ w1 ⟨r1, r2, rfl, hfr⟩
 refine ⟨_, _, rfl, ?_⟩
 rcases hfr with ⟨h1, rfl, rfl, E⟩ | ⟨h1, h2, rfl, rfl, E⟩ | ⟨h1, h2, rfl, L1, F1, vs, hp, hE, hF, hW1, hX, hR, hRn, hV⟩
 ·exact Br.t rfl (hK _ _ _ ⟨E.pure, .inl ⟨h1, rfl, rfl⟩⟩)
 ·exact Br.t rfl (hK _ _ _ ⟨E.pure, .inr (.inl ⟨h1, h2, rfl, rfl⟩)⟩)
 refine Br.f rfl ?_
 have lr : r1.len = vs.length := by rw [hR.len, tmr_len]
 have hvn : vs.length ≤ 12 := by rw [hV.len]; exact hn
 refine ⟨fun out x w' => ∃ (j : Nat) (ds : List Int), x = j ∧ j ≤ vs.length ∧ Pure w1 w' ∧ Rws w' 3 1 out (tmr ds) ∧ (∀ b, out.blk b → w1.heap.size ≤ b) ∧ ds.length = j ∧ ∀ i, i < j → ∃ k : Nat, ds[i]? = some (k : Int) ∧ k < vs.length ∧ vs[k]? = vs[i]? ∧ ∀ k' < k, vs[k']? ≠ vs[i]?, fun _ x _ => ((vs.length : Int) - x).toNat,
  ⟨0, [], rfl, Nat.zero_le _, Ext.refl _, Rws.nil _ _ _, fun b hb => (hnil b hb).elim, rfl, fun _ h => by omega⟩, ?_⟩
 rintro out _ wl ⟨j, ds, rfl, hj, E, hO, hOn, hdl, hd⟩
 unfold m_N1_l1
 refine ⟨fun hc => ?_, fun hc => ?_⟩
 ·have hlt := lt_of_dec lr hc
  obtain ⟨a, hat, _, ha⟩ := tm_nth (hR.pure E).lst hlt
  refine ⟨a, hat, _, ha, ?_⟩
  refine (c_slFirst r1 vs vs[j] wl (hR.pure E).lst (by omega) (List.getElem_mem hlt)).mono ?_
  rintro _ w2 ⟨r3, rfl, ⟨k, rfl, hk1, hk2⟩, rfl⟩
  refine ⟨_, rfl, ?_⟩
  intro p2 w3 h3
  have E3 : Pure w2 w3 := Ext.new h3
  obtain ⟨s1, w4, hr4, R4, X4, f4⟩ := (hO.pure E3).append (P := Try.prog) (ty := 54) (c := 1) slT_int (r := [.int .i64 (k : Int)]) (Box.of_new h3).row rfl rfl (by rw [tmr_len]; omega) (by rw [tmr_len]; simp [maxLen]; omega)
  refine ⟨s1, w4, hr4, ?_⟩
  rw [wrap_succ hlt (by omega)]
  have ht : tmr ds ++ [[.int .i64 (k : Int)]] = tmr (ds ++ [(k : Int)]) := by simp [tmr]
  rw [ht] at R4
  have hkl := (List.getElem?_eq_some_iff.1 hk1).1
  refine ⟨⟨j + 1, ds ++ [(k : Int)], rfl, hlt, (E.trans E3).trans' X4 (fun i hi hb => by have := hOn i hb; omega), R4, fun b hb => (f4 b hb).elim (hOn b) (fun h => by have := (E.trans E3).size; omega), by simp [hdl], fun i hi => ?_⟩, lt_dec hlt⟩
  rcases Nat.lt_succ_iff_lt_or_eq.1 hi with h | h
  ·obtain ⟨m, m1, m2⟩ := hd i h
   exact ⟨m, by rw [List.getElem?_append_left (by omega)]; exact m1, m2⟩
  ·subst h
   refine ⟨k, by rw [List.getElem?_append_right (by omega), hdl]; simp, hkl, by rw [hk1, List.getElem?_eq_getElem hlt], fun k' hk' => ?_⟩
   rw [List.getElem?_eq_getElem hlt]; exact hk2 k' hk'
 ·have hge := eq_of_dec lr hj hc
  subst hge
  refine hK _ _ _ ⟨hE.thenPure E, .inr (.inr ⟨h1, h2, rfl, ds, hO, fun b hb => by have := hOn b hb; have := hE.size; omega, hV.cls hW1 ⟨hdl, hd⟩⟩)⟩
end Go.Proofs
end
section
open Go Go.SE
namespace Go.Proofs
attribute [local irreducible] Calls
theorem c_ref10_Classes {S : Nat → Prop} (who : Int) (ts : List Sp.Tree) (s : Sl) (w0 : World) (hT : TreeAt S w0 s (.mk 0 0 0 0 ⟨#[]⟩ ts)) (hS : ∀ b, S b → b < w0.heap.size) (hn : ts.length ≤ 12) (hc : ∀ t ∈ ts, Sp.cnt t ≤ 1000000) :
  Calls Try.prog 33 #[.int .i64 who, s.v] w0 (fun e w' => ∃ r : Sl, e = .returned r.v ∧ ∃ cs, RetO w0 3 1 (tmr cs) r w' ∧ Sp.IsCls (ts.map (Sp.mapT (Sp.viewN who))) cs) := by
 suffices key : ∀ K : Sl → World → Prop, (∀ r w', (∃ cs, RetO w0 3 1 (tmr cs) r w' ∧ Sp.IsCls (ts.map (Sp.mapT (Sp.viewN who))) cs) → K r w') → m_U who s w0 K from
  w_U _ _ w0 _ (key _ (fun _ _ h => h))
 intro K hK
 unfold m_U
 have hnil : ∀ b, ¬ Sl.nil.blk b := fun b hb => by obtain ⟨a, h, _⟩ := hb; cases h
 cases hT with
 | mk _ _ _ _ _ _ _ rs len fit row kid =>
 have hVl : (ts.map (Sp.mapT (Sp.viewN who))).length = ts.length := by simp
 have hVg : ∀ (i : Nat) (h : i < ts.length), (ts.map (Sp.mapT (Sp.viewN who)))[i]? = some (Sp.mapT (Sp.viewN who) ts[i]) := fun i h => by rw [List.getElem?_map, List.getElem?_eq_getElem h]; rfl
 generalize hV : ts.map (Sp.mapT (Sp.viewN who)) = V at *
 refine ⟨fun out i H w' => ∃ (j : Nat) (ds : List Int), i = j ∧ j ≤ ts.length ∧ Pure w0 w' ∧ Own H w' 3 1 out (tmr ds) ∧ (∀ b, out.blk b → w0.heap.size ≤ b) ∧ ds.length = j ∧ ∀ i, i < j → ∃ k : Nat, ds[i]? = some (k : Int) ∧ k < ts.length ∧ V[k]? = V[i]? ∧ ∀ k' < k, V[k']? ≠ V[i]?, fun _ i _ => ((ts.length : Int) - i).toNat,
  ⟨0, [], rfl, Nat.zero_le _, Ext.refl _, Own.nil _ _, fun b hb => (hnil b hb).elim, rfl, fun _ h => by omega⟩, ?_⟩
 rintro out _ Hl wl hsl ⟨j, ds, rfl, hj, E, O, hOn, hdl, hd⟩
 unfold m_U_l1
 refine ⟨fun hlc => ?_, fun hlc => ?_⟩
 ·have hlt := lt_of_dec len hlc
  refine ⟨fun k H w' => ∃ c : Nat, k = c ∧ c ≤ j ∧ Pure w0 w' ∧ Own H w' 3 1 out (tmr ds) ∧ ∀ k' < c, V[k']? ≠ V[j]?, fun k _ => ((j : Int) + 1 - k).toNat, ⟨0, rfl, Nat.zero_le _, E, O, fun _ h => by omega⟩, ?_⟩
  rintro _ Hm wm hsm ⟨c, rfl, hcj, Em, Om, hno⟩
  unfold m_U_l2
  have hltc : c < ts.length := by omega
  have Ed : Pure wm wm.drew := Ext.drew wm
  refine ⟨fun w' => Pure wm w', Ed, ?_⟩
  rintro _ rfl
  obtain ⟨a, hat, _, hrow⟩ := row c hltc
  obtain ⟨b, hbt, _, hrow2⟩ := row j hlt
  have Emd := Em.trans Ed
  refine ⟨a, hat, _, _, _, _, _, rs c, Emd.row hrow (fun h => h), b, hbt, _, _, _, _, _, rs j, fun w' hw' => (Em.trans hw').row hrow2 (fun h => h), ?_⟩
  have hSd : ∀ {w}, Pure w0 w → ∀ b, S b → b < w.heap.size := fun E b hb => by have := hS b hb; have := E.size; omega
  refine (c_ref10_View (S := S) who ts[c] (rs c) _ (hc _ (List.getElem_mem hltc)) ((kid c hltc).pure Emd) (hSd Emd)).mono ?_
  rintro _ w2 ⟨s1, rfl, hV1, E2⟩
  have X2 := Ed.trans E2
  refine ⟨_, _, _, _, _, s1, rfl, X2, E2.keptP, ?_⟩
  refine (c_ref10_View (S := S) who ts[j] (rs j) w2 (hc _ (List.getElem_mem hlt)) ((kid j hlt).pure (Em.trans X2)) (hSd (Em.trans X2))).mono ?_
  rintro _ w3 ⟨s2, rfl, hV2, E3⟩
  have X3 := X2.trans E3
  refine ⟨_, _, _, _, _, s2, rfl, X3, E3.keptP, ?_⟩
  have z3 := E3.size
  refine (c_ref05_Same (S := fun b => b < w3.heap.size) _ _ s1 s2 w3 ((hV1.lt.pure E3).mono (fun b hb => by have := hb.2; omega)) (hV2.lt.mono (fun b hb => hb.2)) (fun b h => h)).mono ?_
  rintro _ w4 ⟨r1, rfl, hr1, E4⟩
  have X4 := X3.trans E4
  have hs4 : Hst w0 Hm w4 Hm w4 := hsm.again X4.keptP
  refine ⟨_, rfl, X4, E4.keptP, fun hdiff => ?_, fun hsame => ?_⟩
  ·have hne : V[c]? ≠ V[j]? := by
    rw [hVg c hltc, hVg j hlt]
    intro e
    have := (Sp.same_iff _ _).2 (Option.some.inj e)
    rw [← hr1] at this; rw [this] at hdiff; cases hdiff
   have hcj2 : c < j := by
    rcases Nat.lt_or_ge c j with h | h
    ·exact h
    ·have : c = j := by omega
     subst this; exact absurd rfl hne
   rw [wrap_succ hltc (by omega)]
   refine ⟨⟨c + 1, rfl, hcj2, Em.trans X4, Om.pure X4, fun k' hk => ?_⟩, by show ((j : Int) + 1 - ((c + 1 : Nat) : Int)).toNat < ((j : Int) + 1 - (c : Int)).toNat; omega⟩
   rcases Nat.lt_succ_iff_lt_or_eq.1 hk with h | h
   ·exact hno k' h
   ·subst h; exact hne
  ·have heq : V[c]? = V[j]? := by
    rw [hVg c hltc, hVg j hlt]
    have h1 : r1 = true := by simpa using hsame
    rw [hr1] at h1
    rw [(Sp.same_iff _ _).1 h1]
   intro p1 w5 h5
   have E5 : Pure w4 w5 := Ext.new h5
   have hs5 := hs4.again E5.keptP
   obtain ⟨s3, w6, hr6, hO6, hE6, hk6, hb6⟩ := (Om.pure (X4.trans E5)).append (P := Try.prog) (ty := 54) (c := 1) slT_int hs5 (r := [.int .i64 (c : Int)]) (Box.of_new h5).row rfl rfl (by rw [tmr_len]; omega) (by rw [tmr_len]; simp [maxLen]; omega)
   refine ⟨s3, w6, hr6, hk6, ?_⟩
   have ht : tmr ds ++ [[.int .i64 (c : Int)]] = tmr (ds ++ [(c : Int)]) := by simp [tmr]
   rw [ht] at hO6
   have E05 := Em.trans (X4.trans E5)
   rw [wrap_succ hlt (by omega)]
   refine ⟨⟨j + 1, ds ++ [(c : Int)], rfl, hlt, E05.trans' hE6 (fun i hi hb => by have := hOn i hb; omega), hO6, fun b hb => (hb6 b hb).elim (hOn b) (fun h => by have := E05.size; omega), by simp [hdl], fun i hi => ?_⟩, lt_dec hlt⟩
   rcases Nat.lt_succ_iff_lt_or_eq.1 hi with h | h
   ·obtain ⟨m, m1, m2⟩ := hd i h
    exact ⟨m, by rw [List.getElem?_append_left (by omega)]; exact m1, m2⟩
   ·subst h
    exact ⟨c, by rw [List.getElem?_append_right (by omega), hdl]; simp, hltc, heq, hno⟩
 ·have hge := eq_of_dec len hj hlc
  subst hge
  exact hK _ _ ⟨ds, ⟨O.rows, hOn, E⟩, by rw [hVl]; exact hdl, by rw [hVl]; exact hd⟩
end Go.Proofs
end
section
open Go Go.SE
namespace Go.Proofs
attribute [local irreducible] Calls
def fErr (who : Int) (L : Sp.Pool) (l : List Int) : Int := if Sp.isName who = true then (if l.all (Sp.inP L) = true then 0 else 51) else 50
theorem Framed.all {p : Addr} {who : Int} {l : List Int} {L : Sp.Pool} {F : Nat → Prop} {w0 : World} {r : Sl} {e : Int} {w' : World} (h : Framed p who l L F w0 r e w') (hW : Sp.Wf L) (hP : PoolAt w0 p L F) :
  e = fErr who L l ∧ ∃ L1 F1 vs, PoolAt w' p L1 F1 ∧ Ext F w0 w' ∧ (∀ b, F1 b → F b ∨ w0.heap.size ≤ b) ∧ Sp.Wf L1 ∧ Rws w' 23 1 r (tmr vs) ∧ (∀ b, r.blk b → w0.heap.size ≤ b ∧ ¬ F1 b) ∧ (e = 0 → Views who L L1 l vs) ∧ (e ≠ 0 → vs = []) := by
 have hnil : ∀ b, ¬ Sl.nil.blk b := fun b hb => by obtain ⟨a, h, _⟩ := hb; cases h
 rcases h with ⟨h1, rfl, rfl, E⟩ | ⟨h1, h2, rfl, rfl, E⟩ | ⟨h1, h2, rfl, L1, F1, vs, hp, hE, hF, hW1, _, hR, hRn, hV⟩
 ·exact ⟨by unfold fErr; rw [h1]; rfl, L, F, [], hP.pure E, E.pure, fun b hb => .inl hb, hW, Rws.nil _ _ _, fun b hb => (hnil b hb).elim, fun h => absurd h (by omega), fun _ => rfl⟩
 ·exact ⟨by unfold fErr; rw [h1, h2]; rfl, L, F, [], hP.pure E, E.pure, fun b hb => .inl hb, hW, Rws.nil _ _ _, fun b hb => (hnil b hb).elim, fun h => absurd h (by omega), fun _ => rfl⟩
 ·exact ⟨by unfold fErr; rw [h1, h2]; rfl, L1, F1, vs, hp, hE, hF, hW1, hR, hRn, fun _ => hV, fun h => absurd rfl h⟩
structure TrL (n0 : Nat) (H : Nat → Prop) (w : World) (xs : Sl) (ps : List (Sp.Tree × Sl)) (S : Nat → Prop) : Prop where
 own : Own H w 63 6 xs (ps.map prow)
 new : ∀ b, xs.blk b → n0 ≤ b
 kid : ∀ p ∈ ps, TreeAt S w p.2 p.1
 dis : ∀ b, S b → n0 ≤ b ∧ b < w.heap.size ∧ ¬ H b ∧ ¬ xs.blk b
section
variable {n0 : Nat} {w0 w w' wv w1 w2 : World} {H H' Hv : Nat → Prop} {xs : Sl} {ps : List (Sp.Tree × Sl)} {S : Nat → Prop}
theorem TrL.hst (h : TrL n0 H w xs ps S) (hs : Hst w0 H w H' w') : TrL n0 H' w' xs ps S :=
 ⟨h.own.hst hs, h.new, fun p hp => (h.kid p hp).hst hs (fun b hb => ⟨(h.dis b hb).2.1, (h.dis b hb).2.2.1⟩), fun b hb => ⟨(h.dis b hb).1, Nat.lt_of_lt_of_le (h.dis b hb).2.1 hs.ext.size, hs.disj (G := S) (fun b hb => ⟨(h.dis b hb).2.1, (h.dis b hb).2.2.1⟩) b hb, (h.dis b hb).2.2.2⟩⟩
theorem TrL.pureE (h : TrL n0 H w xs ps S) (E : Pure w w') : TrL n0 H w' xs ps S :=
 ⟨h.own.pure E, h.new, fun p hp => (h.kid p hp).pure E, fun b hb => ⟨(h.dis b hb).1, Nat.lt_of_lt_of_le (h.dis b hb).2.1 E.size, (h.dis b hb).2.2⟩⟩
theorem TrL.more (h : TrL n0 H w xs ps S) (hs : Hst w0 Hv wv H w) (hn : n0 ≤ w.heap.size) {T : Sp.Tree} {s' : Sl} {p : Addr} (E1 : Pure w w1) (hT : TreeAt (w.heap.size ≤ ·) w1 s' T) (h2 : New w1 (.cells (trow T s').toArray 63) p w2) (hp : ps.length ≤ 12) :
  ∃ s1 w3, (Builtin.append_ #[22, 22] 22 #[xs.v, (Sl.mk (some p) 1 1).v]).run Try.prog w2 = .ok s1.v w3 ∧ Ext xs.blk w2 w3 ∧ Kept H w2 w3 ∧ ∃ S', TrL n0 H w3 s1 (ps ++ [(T, s')]) S' := by
 have E2 : Pure w1 w2 := Ext.new h2
 have hs2 : Hst w0 H w2 H w2 := hs.again (E1.trans E2).keptP
 obtain ⟨s1, w3, hr, hO, hE, hk, hb⟩ := (h.own.pure (E1.trans E2)).append (P := Try.prog) (ty := 22) (c := 1) slT_tree hs2 (r := trow T s') (Box.of_new h2).row rfl (trow_one _ _) (by simp; omega) (by simp [maxLen]; omega)
 have z1 := E1.size; have z2 := E2.size; have z3 := hE.size
 refine ⟨s1, w3, hr, hE, hk, fun b => S b ∨ (w.heap.size ≤ b ∧ b < w1.heap.size), ?_, fun b hbb => (hb b hbb).elim (h.new b) (fun h => by omega), fun q hq => ?_, fun b hbb => ?_⟩
 ·have : (ps ++ [(T, s')]).map prow = ps.map prow ++ [trow T s'] := by simp [prow]
  rw [this]; exact hO
 ·rcases List.mem_append.1 hq with hq | hq
  ·exact (((h.kid q hq).pure (E1.trans E2)).ext hE (fun b hb hy => (h.dis b hb).2.2.2 hy)).mono (fun b hb => .inl hb)
  ·simp only [List.mem_singleton] at hq; subst hq
   exact ((hT.lt.pure E2).ext hE (fun b hb hy => by have := h.own.rows.lt hy; have := hb.1; omega)).mono (fun b hb => .inr hb)
 ·rcases hbb with hbb | ⟨g1, g2⟩
  ·obtain ⟨q1, q2, q3, q4⟩ := h.dis b hbb
   exact ⟨q1, by omega, q3, fun h => (hb b h).elim q4 (fun h => by omega)⟩
  ·exact ⟨by omega, by omega, fun hh => by have := hs.lt b hh; omega, fun hh => (hb b hh).elim (fun h' => by have := h.own.rows.lt h'; omega) (fun h => by omega)⟩
end
structure FrAt (w0 : World) (n0 : Nat) (H : Nat → Prop) (w : World) (p q : Addr) (L1 L : Sp.Pool) (F1 F2 : Nat → Prop) (r9 : Sl) (vs : List Int) (r11 : Sl) (cs : List Int) : Prop where
 pl : Pl2 w0 H w p q L1 L F1 F2
 o9 : Own H w 23 1 r9 (tmr vs)
 o11 : Own H w 3 1 r11 (tmr cs)
 lt : ∀ b, F1 b ∨ F2 b ∨ r9.blk b ∨ r11.blk b → b < n0
 le : w0.heap.size ≤ n0
section
variable {n0 : Nat} {w0 w w' : World} {H H' : Nat → Prop} {p q : Addr} {L1 L : Sp.Pool} {F1 F2 : Nat → Prop} {r9 r11 : Sl} {vs cs : List Int}
theorem FrAt.hst (h : FrAt w0 n0 H w p q L1 L F1 F2 r9 vs r11 cs) (hs : Hst w0 H w H' w') : FrAt w0 n0 H' w' p q L1 L F1 F2 r9 vs r11 cs := ⟨h.pl.hst hs, h.o9.hst hs, h.o11.hst hs, h.lt, h.le⟩
theorem FrAt.pureE (h : FrAt w0 n0 H w p q L1 L F1 F2 r9 vs r11 cs) (E : Pure w w') : FrAt w0 n0 H w' p q L1 L F1 F2 r9 vs r11 cs := ⟨h.pl.pureE E, h.o9.pure E, h.o11.pure E, h.lt, h.le⟩
theorem FrAt.ext {X : Nat → Prop} (h : FrAt w0 n0 H w p q L1 L F1 F2 r9 vs r11 cs) (E : Ext X w w') (hX : ∀ b, X b → n0 ≤ b) : FrAt w0 n0 H w' p q L1 L F1 F2 r9 vs r11 cs := by
 have d : ∀ b, F1 b ∨ F2 b ∨ r9.blk b ∨ r11.blk b → ¬ X b := fun b hb hh => by have := h.lt b hb; have := hX b hh; omega
 exact ⟨⟨h.pl.pure.trans' E (fun i hi hb => by have := hX i hb; have := h.le; omega), h.pl.pool.ext E (fun b hb => d b (.inl hb)), h.pl.ref.ext E (fun b hb => d b (.inr (.inl hb))), h.pl.o1, h.pl.o2⟩, h.o9.ext E (fun b hb => d b (.inr (.inr (.inl hb)))), h.o11.ext E (fun b hb => d b (.inr (.inr (.inr hb)))), h.lt, h.le⟩
end
theorem c_law10_ViewFrames {S S' : Nat → Prop} (ts : List Sp.Tree) (s sl sm sn : Sl) (l m n : List Int) (who : Int) (w0 : World) (hT : TreeAt S w0 s (.mk 0 0 0 0 ⟨#[]⟩ ts)) (hS : ∀ b, S b → b < w0.heap.size)
  (hl : Lst S' w0 1 sl (tmr l)) (hm : Lst S' w0 1 sm (tmr m)) (hn : Lst S' w0 1 sn (tmr n)) :
  Calls Try.prog 6 #[.agg #[s.v, sl.v, sm.v, sn.v, .int .i64 who]] w0 (fun e w' => ∃ r : Bool, e = .returned (.bool r) ∧ (r = true ∧ Pure w0 w')) := by
 refine w_N _ _ _ _ _ w0 (fun r w' => r = true ∧ Pure w0 w') ?_
 unfold m_N
 intro H1 w1 hs1
 have E1 := hs1.first
 have lenl : sl.len = l.length := by rw [hl.len, tmr_len]
 have lenm : sm.len = m.length := by rw [hm.len, tmr_len]
 have lenn : sn.len = n.length := by rw [hn.len, tmr_len]
 have hnil : ∀ b, ¬ Sl.nil.blk b := fun b hb => by obtain ⟨a, h, _⟩ := hb; cases h
 have nm : (!((decide (who ≥ 0)) && (decide (who < 16)))) = !Sp.isName who := by unfold Sp.isName; rfl
 have live : ∀ (H : Nat → Prop) (w : World), Pure w0 w → Calls Try.prog 8 #[] w (fun e w' => ∃ r : Bool, e = .returned (.bool r) ∧ Kept H w w' ∧ (r = true ∧ Pure w0 w')) := fun H w E => by
  refine (c_live10 w).mono ?_
  rintro _ w' ⟨r, rfl, hr, E'⟩
  exact ⟨_, rfl, E'.keptP, hr, E.trans E'⟩
 refine (c_law10_large ts s sl sm sn who l m n w1 (hT.pure E1) (fun b hb => by have := hS b hb; have := E1.size; omega) lenl lenm lenn).mono ?_
 rintro _ w2 ⟨r1, rfl, hr1, E2⟩
 have E02 := E1.trans E2
 refine ⟨_, rfl, E2.keptP, ⟨fun _ => live _ _ E02, fun hw => ?_⟩⟩
 obtain ⟨⟨hn1, hn2⟩, hn3, hn4, hn5⟩ := hr1 hw
 obtain ⟨hW, hlen⟩ := Sp.poolOf_ok ts
 refine (c_law10_pools ts s w2 (hT.pure E02) (fun b hb => by have := hS b hb; have := E02.size; omega) hn1).mono ?_
 rintro _ w4 ⟨_, _, _, rfl, p, q, F1, F2, rfl, rfl, rfl, P4⟩
 have hk4 : Kept H1 w2 w4 := P4.pure.keptP
 have hlt4 : ∀ b, H1 b → b < w4.heap.size := fun b hb => by have := hs1.lt b hb; have := E2.size; have := P4.pure.size; omega
 have P4 := P4.seen (H := H1) E02 (fun b hb => by have := hs1.lt b hb; have := E2.size; omega)
 refine ⟨_, _, _, rfl, hk4, Br.f rfl ?_⟩
 refine (c_law10_pools ts s w4 (hT.pure P4.pure) (fun b hb => by have := hS b hb; have := P4.pure.size; omega) hn1).mono ?_
 generalize Sp.poolOf ts = L at *
 have hL4 : L.length ≤ 400 := by omega
 rintro _ w5 ⟨_, _, _, rfl, p', q', F3, F4, rfl, rfl, rfl, P5⟩
 refine ⟨_, _, _, rfl, P5.pure.keptP, Br.f rfl ?_⟩
 have PA := P4.pureE P5.pure
 have f1lt : ∀ b, F1 b → b < w4.heap.size := fun b hb => P4.pool.lt hb
 have f2lt : ∀ b, F2 b → b < w4.heap.size := fun b hb => P4.ref.lt hb
 have f3ge : ∀ b, F3 b → w4.heap.size ≤ b ∧ b < w5.heap.size := fun b hb => ⟨(P5.o1 b hb).1, P5.pool.lt hb⟩
 have z5 := P5.pure.size
 have hlt5 : ∀ b, H1 b → b < w5.heap.size := fun b hb => by have := hlt4 b hb; omega
 refine ⟨fun _ => True, trivial, ?_⟩
 rintro _ rfl
 have hsd5 : w5.drew.heap.size = w5.heap.size := rfl
 have z05 := PA.pure.size
 have cp := fun {w wn w1 : World} {pp : Addr} (hn : New w (.cells #[] 23) pp wn) {x : Sl} {S'' : Nat → Prop} (hx : Lst S'' wn 1 x (tmr l)) => copyIn (P := Try.prog) (ty := 36) slT_tm hn (Ext.refl wn : Pure wn wn) id hx (tm1_sz l) (tm1_one l) (by rw [tmr_len]; omega) (by rw [tmr_len]; simp [maxLen]; omega)
 intro p2 w7 h7
 refine ⟨trivial, ?_⟩
 have n7 := h7.at_size
 have E7 : Pure w5 w7 := (Ext.drew w5).trans (Ext.new h7)
 have PB := PA.pureE E7
 obtain ⟨s1, w8, hr8, R8, X8, f8⟩ := cp (w1 := w7) h7 (hl.pure PB.pure)
 have E8 : Pure w5 w8 := E7.own (by omega) X8
 have PC := PA.pureE E8
 have z7 := E7.size; have z8 := E8.size; have z78 := X8.size
 refine ⟨s1, w8, hr8, trivial, X8.kept (fun b hb e => by have := hlt5 b hb; omega), ?_⟩
 have s1new : ∀ b, s1.blk b → w5.heap.size ≤ b := fun b hb => by rcases f8 b hb with h | h <;> omega
 refine (c_Frame p who s1 l w8 hW PC.pool R8.lst (fun b hb hh => by have := s1new b hb; have := f1lt b hh; omega) hn3 hL4).mono ?_
 rintro _ w9 ⟨r9, r10, rfl, hfr⟩
 obtain ⟨he10, L1, F1', vs, hp9, X9, hF9, hW1, R9, hR9, hvs, hvs0⟩ := hfr.all hW PC.pool
 have hk9 : Kept H1 w8 w9 := X9.kept (fun b hb h1 => by have := (P4.o1 b h1).2.1; exact this hb)
 have PD := PC.of1 (fun b hb => by have := hlt5 b hb; omega) hp9 X9 hF9
 have z9 := X9.size
 refine ⟨_, _, rfl, trivial, hk9, fun _ => True, trivial, ?_⟩
 rintro _ rfl
 have hsd9 : w9.drew.heap.size = w9.heap.size := rfl
 intro p3 w11 h11
 refine ⟨trivial, ?_⟩
 have n11 := h11.at_size
 have E11 : Pure w9 w11 := (Ext.drew w9).trans (Ext.new h11)
 have PE := PD.pureE E11
 obtain ⟨s2, w12, hr12, R12, X12, f12⟩ := cp (w1 := w11) h11 (hl.pure PE.pure)
 have E12 : Pure w9 w12 := E11.own (by omega) X12
 have PF := PD.pureE E12
 have z11 := E11.size; have z12 := E12.size; have z1112 := X12.size
 refine ⟨s2, w12, hr12, trivial, X12.kept (fun b hb e => by have := hlt5 b hb; omega), ?_⟩
 have s2new : ∀ b, s2.blk b → w9.heap.size ≤ b := fun b hb => by rcases f12 b hb with h | h <;> omega
 have Pp : PoolAt w12 p' L F3 := ((P5.pool.pure E8).ext X9 (fun b hb hh => by have := f3ge b hb; have := f1lt b hh; omega)).pure E12
 refine (c_Classes p' who s2 l w12 hW Pp R12.lst (fun b hb hh => by have := s2new b hb; have := f3ge b hh; omega) hn3 hL4).mono ?_
 rintro _ w13 ⟨r11, r12, rfl, X13, hcl⟩
 have hk13 : Kept H1 w12 w13 := X13.kept (fun b hb h1 => by have := f3ge b h1; have := hlt4 b hb; omega)
 refine ⟨_, _, rfl, trivial, hk13, ?_⟩
 have z13 := X13.size
 obtain ⟨he12, cs, R13, hR13, hcs, hcs0⟩ : r12 = fErr who L l ∧ ∃ cs, Rws w13 3 1 r11 (tmr cs) ∧ (∀ b, r11.blk b → w12.heap.size ≤ b) ∧ (r12 = 0 → Sp.IsCls (viewsOf who L l) cs) ∧ (r12 ≠ 0 → cs = []) := by
  rcases hcl with ⟨h1, rfl, rfl⟩ | ⟨h1, h2, rfl, rfl⟩ | ⟨h1, h2, rfl, cs, c1, c2, c3⟩
  ·exact ⟨by unfold fErr; rw [h1]; rfl, [], Rws.nil _ _ _, fun b hb => (hnil b hb).elim, fun h => absurd h (by omega), fun _ => rfl⟩
  ·exact ⟨by unfold fErr; rw [h1, h2]; rfl, [], Rws.nil _ _ _, fun b hb => (hnil b hb).elim, fun h => absurd h (by omega), fun _ => rfl⟩
  ·exact ⟨by unfold fErr; rw [h1, h2]; rfl, cs, c1, c2, fun _ => c3, fun h => absurd rfl h⟩
 have G13 : FrAt w0 w13.heap.size H1 w13 p q L1 L F1' F2 r9 vs r11 cs := by
  have d1 : ∀ b, F1' b → ¬ F3 b := fun b hb hh => by have := f3ge b hh; rcases hF9 b hb with h | h; (· have := f1lt b h; omega); (· omega)
  have R9' := (R9.pure E12).ext X13 (fun b hb hh => by have := (hR9 b hb).1; have := f3ge b hh; omega)
  have pool' := PF.pool.ext X13 d1
  have ref' := PF.ref.ext X13 (fun b hb hh => by have := f2lt b hb; have := f3ge b hh; omega)
  refine ⟨⟨PF.pure.trans' X13 (fun i hi hb => by have := f3ge i hb; have := P4.pure.size; omega), pool', ref', PF.o1, PF.o2⟩, ⟨R9', fun b hb hh => by have := (hR9 b hb).1; have := hlt5 b hh; omega⟩, ⟨R13, fun b hb hh => by have := hR13 b hb; have := hlt5 b hh; omega⟩, fun b hb => ?_, by have := PF.pure.size; omega⟩
  rcases hb with hb | hb | hb | hb
  ·exact pool'.lt hb
  ·exact ref'.lt hb
  ·exact R9'.lt hb
  ·exact R13.lt hb
 have len9 : r9.len = vs.length := by rw [R9.len, tmr_len]
 have len11 : r11.len = cs.length := by rw [R13.len, tmr_len]
 have herr : fErr who L l = 0 → Sp.isName who = true ∧ l.all (Sp.inP L) = true := by
  unfold fErr
  cases h1 : Sp.isName who with
  | false => intro h; simp at h
  | true =>
   cases h2 : l.all (Sp.inP L) with
   | false => intro h; simp at h
   | true => intro _; exact ⟨rfl, rfl⟩
 generalize hn0 : w13.heap.size = n0 at *
 refine ⟨fun want xs i H w' => ∃ (j : Nat) (ps : List (Sp.Tree × Sl)) (Sx : Nat → Prop), i = j ∧ j ≤ l.length ∧ FrAt w0 n0 H w' p q L1 L F1' F2 r9 vs r11 cs ∧ TrL n0 H w' xs ps Sx ∧ n0 ≤ w'.heap.size ∧ ps.map Prod.fst = (l.take j).map (Sp.treeOf L) ∧ ((want = 0 ∧ (0 < j → Sp.isName who = true) ∧ (l.take j).all (Sp.inP L) = true) ∨ (want ≠ 0 ∧ want = fErr who L l ∧ 0 < j)), fun _ _ i _ => ((l.length : Int) - i).toNat,
  ⟨0, [], fun _ => False, rfl, Nat.zero_le _, G13, ⟨Own.nil _ _, fun b hb => (hnil b hb).elim, by simp, fun b hb => hb.elim⟩, by omega, by simp, .inl ⟨rfl, by omega, by simp⟩⟩, ?_⟩
 rintro want xs _ Hl wl hsl ⟨j, ps, Sx, rfl, hj, G, T, hsz, hps, hwant⟩
 have hpl : ps.length = j := by have := congrArg List.length hps; simpa [Nat.min_eq_left hj] using this
 unfold m_N_l3
 refine ⟨fun hc => ?_, fun hc H6 w30 hs30 => ?_⟩
 ·rw [Bool.and_eq_true] at hc
  have hlt := lt_of_dec lenl hc.1
  have hw0 : want = 0 := by simpa using hc.2
  have hwt : (0 < j → Sp.isName who = true) ∧ (l.take j).all (Sp.inP L) = true := by
   rcases hwant with ⟨_, h⟩ | ⟨h, _⟩
   ·exact h
   ·exact absurd hw0 h
  have J4 : ∀ (want' : Int) (H : Nat → Prop) (w : World), Hst w0 H w H w → FrAt w0 n0 H w p q L1 L F1' F2 r9 vs r11 cs → TrL n0 H w xs ps Sx → n0 ≤ w.heap.size → ((want' = 0 ∧ (0 < j + 1 → Sp.isName who = true) ∧ (l.take (j + 1)).all (Sp.inP L) = true) ∨ (want' ≠ 0 ∧ want' = fErr who L l ∧ 0 < j + 1)) →
    m_N_j4 sl (some q) xs j want' H w (fun y0 y1 y2 H' w' => (∃ (j : Nat) (ps : List (Sp.Tree × Sl)) (Sx : Nat → Prop), y2 = j ∧ j ≤ l.length ∧ FrAt w0 n0 H' w' p q L1 L F1' F2 r9 vs r11 cs ∧ TrL n0 H' w' y1 ps Sx ∧ n0 ≤ w'.heap.size ∧ ps.map Prod.fst = (l.take j).map (Sp.treeOf L) ∧ ((y0 = 0 ∧ (0 < j → Sp.isName who = true) ∧ (l.take j).all (Sp.inP L) = true) ∨ (y0 ≠ 0 ∧ y0 = fErr who L l ∧ 0 < j))) ∧ ((l.length : Int) - y2).toNat < ((l.length : Int) - (j : Int)).toNat) (fun r w' => r = true ∧ Pure w0 w') := by
   intro want' H w hs G T hsz hw'
   unfold m_N_j4
   obtain ⟨a, hat, _, ha⟩ := tm_nth (hl.pure G.pl.pure) hlt
   refine ⟨a, hat, _, ha, ?_⟩
   refine (c_ref05_Tree q hW _ l[j] w F2 rfl G.pl.ref).mono ?_
   rintro _ w32 ⟨s', rfl, hTk, E32⟩
   refine ⟨_, _, _, _, _, s', rfl, E32.keptP, ?_⟩
   intro p4 w33 h33
   obtain ⟨s3, w34, hr34, X34, hk34, S2, T34⟩ := T.more hs hsz E32 hTk h33 (by omega)
   have E33 : Pure w32 w33 := Ext.new h33
   refine ⟨s3, w34, hr34, hk34, ?_⟩
   rw [wrap_succ hlt (by omega)]
   refine ⟨⟨j + 1, ps ++ [(Sp.treeOf L l[j], s')], S2, rfl, hlt, ((G.pureE E32).pureE E33).ext X34 T.new, T34, ?_, ?_, hw'⟩, lt_dec hlt⟩
   ·have := E32.size; have := E33.size; have := X34.size; omega
   ·rw [List.map_append, hps, List.take_succ_eq_append_getElem hlt, List.map_append]; rfl
  rw [nm]
  refine ⟨fun hno H6 w31 hs31 => ?_, fun hyes => ?_⟩
  ·have hno : Sp.isName who = false := by simpa using hno
   refine J4 50 H6 w31 hs31.here (G.hst hs31) (T.hst hs31) (by have := hs31.ext.size; omega) (.inr ⟨by omega, ?_, by omega⟩)
   unfold fErr; rw [hno]; rfl
  ·have hname : Sp.isName who = true := by simpa using hyes
   obtain ⟨a, hat, _, hrow⟩ := hl.at_ j (by simpa [tmr] using hlt)
   refine ⟨a, hat, fun H6 w31 hs31 => ?_⟩
   have G31 := G.hst hs31
   have T31 := T.hst hs31
   refine ⟨l[j], row_cell (by simpa [tmr] using G31.pl.pure.row hrow (fun h => h)), ?_⟩
   refine (c_ref05_In q l[j] w31 G31.pl.ref).mono ?_
   rintro _ w35 ⟨r18, rfl, rfl, rfl⟩
   refine ⟨_, rfl, Kept.refl _, fun H7 w36 hs36 => ?_⟩
   refine J4 _ H7 w36 hs36.here (G31.hst hs36) (T31.hst hs36) (by have := hs31.ext.size; have := hs36.ext.size; omega) ?_
   cases hin : Sp.inP L l[j] with
   | true => exact .inl ⟨hw0, fun _ => hname, by rw [all_take hlt, hwt.2, hin]; rfl⟩
   | false =>
    refine .inr ⟨by simp, ?_, by omega⟩
    have : l.all (Sp.inP L) = false := by rw [List.all_eq_false]; exact ⟨l[j], List.getElem_mem hlt, by rw [hin]; simp⟩
    unfold fErr; rw [hname, this]; rfl
 have G30 := G.hst hs30
 have T30 := T.hst hs30
 unfold m_N_j1
 rw [lenl, len9, len11]
 by_cases hl0 : l.length = 0
 ·refine Br.t (by rw [hl0]; rfl) ?_
  have hv0 : vs.length = 0 := by
   by_cases he : r10 = 0
   ·rw [(hvs he).len]; exact hl0
   ·rw [hvs0 he]; rfl
  have hc0 : cs.length = 0 := by
   by_cases he : r12 = 0
   ·rw [(hcs he).1]; simpa [viewsOf] using hl0
   ·rw [hcs0 he]; rfl
  exact Br.t (by rw [hv0, hc0]; rfl) (fun H2 w14 hs14 => live _ _ (G30.pl.pure.hst hs14))
 have hwe : want = fErr who L l ∧ (want = 0 → j = l.length) := by
  rcases hwant with ⟨h0, h1, h2⟩ | ⟨h0, h1, _⟩
  ·have hjn : j = l.length := by
    rw [Bool.and_eq_false_iff] at hc
    rcases hc with hc | hc
    ·exact eq_of_dec lenl hj hc
    ·rw [h0] at hc; simp at hc
   refine ⟨?_, fun _ => hjn⟩
   subst hjn
   rw [List.take_length] at h2
   rw [h0]; unfold fErr; rw [h1 (by omega), h2]; rfl
  ·exact ⟨h1, fun h => absurd h h0⟩
 refine Br.f (by rw [beq_eq_false_iff_ne]; omega) (Br.f (by rw [he10, he12, hwe.1]; simp) ⟨fun hne => ?_, fun heq H3 w18 hs18 => ?_⟩)
 ·have hne : want ≠ 0 := by simpa using hne
  have e1 : r10 ≠ 0 := by rw [he10, ← hwe.1]; exact hne
  have e2 : r12 ≠ 0 := by rw [he12, ← hwe.1]; exact hne
  exact Br.t (by rw [hvs0 e1, hcs0 e2]; rfl) (fun H4 w21 hs21 => live _ _ (G30.pl.pure.hst hs21))
 have heq : want = 0 := by simpa using heq
 have hjn := hwe.2 heq
 subst hjn
 rw [List.take_length] at hps
 have e1 : r10 = 0 := by rw [he10, ← hwe.1]; exact heq
 have e2 : r12 = 0 := by rw [he12, ← hwe.1]; exact heq
 have hV := hvs e1
 have hC := hcs e2
 have hCl : cs.length = l.length := by rw [hC.1]; simp [viewsOf]
 have G18 := G30.hst hs18
 have T18 := T30.hst hs18
 have hTT := TreeAt.of_pairs (S := fun b => b < w18.heap.size) (k := 0) (f := 0) (t := 0) (u := 0) (x := ⟨#[]⟩) T18.own.rows (fun b hb => T18.own.rows.lt hb) (fun q hq => (T18.kid q hq).mono (fun b hb => (T18.dis b hb).2.1)) (by omega)
 rw [hps] at hTT
 refine (c_ref10_Classes who (l.map (Sp.treeOf L)) xs w18 hTT (fun b h => h) (by simpa using hn3) (fun t ht => by obtain ⟨x, _, rfl⟩ := List.mem_map.1 ht; exact Sp.cnt_le hW x)).mono ?_
 rintro _ w23 ⟨r15, rfl, ds, hR15, hD⟩
 have hds : ds = cs := by
  have e : (l.map (Sp.treeOf L)).map (Sp.mapT (Sp.viewN who)) = viewsOf who L l := by rw [List.map_map]; rfl
  rw [e] at hD
  exact hD.unique hC
 subst hds
 refine ⟨_, rfl, hR15.kept, ?_⟩
 have G23 := G18.pureE hR15.pure
 have T23 := T18.pureE hR15.pure
 have hs23 : Hst w0 H3 w23 H3 w23 := hs18.here.again hR15.kept
 have O15 : Own H3 w23 3 1 r15 (tmr ds) := ⟨hR15.rows, fun b hb hh => by have := hR15.own b hb; have := hs18.lt b hh; omega⟩
 rintro y1 rfl
 refine Br.f (by rw [hV.len, hCl]; simp) (fun H5 w24 hs24 => ?_)
 have G24 := G23.hst hs24
 have T24 := T23.hst hs24
 have O24 := O15.hst hs24
 refine ⟨fun i H w' => ∃ j : Nat, i = j ∧ j ≤ l.length ∧ Pure w24 w', fun i _ => ((l.length : Int) - i).toNat, ⟨0, rfl, Nat.zero_le _, Ext.refl _⟩, ?_⟩
 rintro _ H7 w7' hs7 ⟨c, rfl, hcl2, E⟩
 unfold m_N_l2
 have len9' : r9.len = l.length := by rw [len9, hV.len]
 refine ⟨fun hc2 => ?_, fun hc2 => live _ _ (G24.pl.pure.trans E)⟩
 have hlt := lt_of_dec len9' hc2
 have Ed : Pure w7' w7'.drew := Ext.drew w7'
 have Xd := E.trans Ed
 refine ⟨fun w' => Pure w7' w', Ed, ?_⟩
 rintro _ rfl
 have hci : c < ds.length := by omega
 have hvi : c < vs.length := by rw [hV.len]; exact hlt
 obtain ⟨a1, at1, _, v1⟩ := tm_nth (G24.o11.rows.pure Xd).lst hci
 obtain ⟨a2, at2, _, v2⟩ := tm_nth (O24.rows.pure Xd).lst hci
 refine ⟨a1, at1, _, v1, a2, at2, _, v2, Br.f (by simp) ?_⟩
 obtain ⟨a3, at3, _, v3⟩ := tm_nth (G24.o9.rows.pure Xd).lst hvi
 have hpc : c < ps.length := by omega
 obtain ⟨a4, at4, _, row4⟩ := T24.own.rows.lst.at_ c (by simpa using hpc)
 have row4 : Row w24 a4 (trow ps[c].1 ps[c].2) := by simpa [prow] using row4
 refine ⟨a3, at3, _, v3, a4, at4, _, _, _, _, _, ps[c].2, fun w' hw' => (E.trans hw').row row4 (fun h => h), ?_⟩
 have htc : ps[c].1 = Sp.treeOf L l[c] := by
  have := congrArg (·[c]?) hps
  simp only [List.getElem?_map, List.getElem?_eq_getElem hpc, List.getElem?_eq_getElem hlt, Option.map_some, Option.some.injEq] at this
  exact this
 obtain ⟨hin, htree⟩ := hV.val c _ _ (List.getElem?_eq_getElem hvi) (List.getElem?_eq_getElem hlt)
 refine (c_Tree p hW1 _ vs[c] w7'.drew F1' rfl (G24.pl.pool.pure Xd)).mono ?_
 rintro _ w26 ⟨s5, rfl, hT5, E26⟩
 refine ⟨_, _, _, _, _, s5, rfl, Ed.trans E26, E26.keptP, ?_⟩
 have X26 := Xd.trans E26
 have kc := (T24.kid _ (List.getElem_mem hpc)).pure X26
 refine (c_ref10_View (S := Sx) who ps[c].1 ps[c].2 w26 (by rw [htc]; exact Sp.cnt_le hW _) kc (fun b hb => by have := (T24.dis b hb).2.1; have := X26.size; omega)).mono ?_
 rintro _ w27 ⟨s6, rfl, hT6, E27⟩
 refine ⟨_, _, _, _, _, s6, rfl, (Ed.trans E26).trans E27, E27.keptP, ?_⟩
 have z27 := E27.size
 refine (c_ref05_Same (S := fun b => b < w27.heap.size) _ _ s5 s6 w27 ((hT5.lt.pure E27).mono (fun b hb => by have := hb.2; omega)) (hT6.lt.mono (fun b hb => hb.2)) (fun b h => h)).mono ?_
 rintro _ w28 ⟨r16, rfl, hr16, E28⟩
 rw [htree, htc, (Sp.same_iff _ _).2 rfl] at hr16
 subst hr16
 refine ⟨_, rfl, ((Ed.trans E26).trans E27).trans E28, E28.keptP, Br.f rfl ?_⟩
 rw [wrap_succ hlt (by omega)]
 exact ⟨⟨c + 1, rfl, hlt, (X26.trans E27).trans E28⟩, lt_dec hlt⟩
end Go.Proofs
end
section
namespace Go.SE
open Go.ChangeShapes Go.WideShapes Go.ChangeAt Go.RowKit
section
variable {H : Type} {enc : TypeId × Value → H} {P : Program}
theorem below_trodAll (hl : laidOutB P = true) {W W' : World} (hb : Below W.heap.size W W') : ∀ (ts : List TypeId) (vs : List Value) (ds : List (DataW H)) (ps : List MemPlace), (ts.all fun t => P.readableRec t && decide (t < P.types.size)) = true →
  DataW.TrodAll enc P W 0 (fun _ => true) true ts vs ds ps → (∀ x ∈ ps, x.block < W.heap.size) → DataW.TrodAll enc P W' 0 (fun b => decide (b < W.heap.size)) true ts vs ds ps
 | [], _, _, _, _, h, _ => by
  obtain ⟨rfl, rfl, rfl⟩ := trodAll_nil h
  exact h
 | t :: ts, _, _, _, hr, h, hlt => by
  obtain ⟨v, vs1, d, ds1, a, b, rfl, rfl, rfl, h1, h2⟩ := trodAll_cons h
  simp only [List.all_cons, Bool.and_eq_true, decide_eq_true_eq] at hr
  exact ⟨a, b, Below.trod hl hr.1.1 hr.1.2 h1 hb (fun x hx => hlt x (by simp [hx])), below_trodAll hl hb ts vs1 ds1 b (by simpa using hr.2) h2 (fun x hx => hlt x (by simp [hx])), rfl⟩
theorem law_post {f : Func} {s : ChangeSpec} {W W' : World} {args : Array Value} {ds gs : List (DataW H)} {before : List MemPlace} {t : TypeId} (hl : laidOutB P = true)
  (hv : s.vars = []) (hf : ∀ ds : List (DataW H), ds.length = f.params.size → s.fn H ds = { results := [.lit (.bool true)], args := ds }) (hrt : f.resultTypes = #[t]) (ht : P.underlying t = some .bool)
  (hr : (f.params.toList.all fun t => P.readableRec t && decide (t < P.types.size)) = true)
  (hW : DataW.Whole enc P f.params.toList s.vars false W args.toList ds gs before) (E : Pure W W') :
  s.post enc P f false true false false W args (.bool true) W' := by
 have hW' := hW
 obtain ⟨p, q, hA, hV, rfl, hfz, hnd⟩ := hW
 rw [hv] at hV
 obtain ⟨rfl, rfl⟩ := trodVars_none hV
 have hlen : ds.length = f.params.size := by
  have : ∀ (ts : List TypeId) (vs : List Value) (ds : List (DataW H)) (ps : List MemPlace), DataW.TrodAll enc P W 0 (fun _ => true) true ts vs ds ps → ds.length = ts.length := by
   intro ts
   induction ts with
   | nil => intro vs ds ps h; obtain ⟨_, rfl, _⟩ := trodAll_nil h; rfl
   | cons t ts ih =>
    intro vs ds ps h
    obtain ⟨v, vs1, d, ds1, a, b, _, rfl, _, _, h2⟩ := trodAll_cons h
    simp [ih _ _ _ h2]
  simpa using this _ _ _ _ hA
 have hfn := hf ds hlen
 have hfn' : s.fn H (ds ++ []) = { results := [.lit (.bool true)], args := ds } := by rw [List.append_nil]; exact hfn
 have hlt : ∀ x ∈ p, x.block < W.heap.size := fun x hx => by simpa using hW'.lt x (by simp [hx])
 have bel := E.below
 refine ⟨ds, [], p ++ [], [], p, [], hW', ?_, ?_, ?_, bel.frame _, fun h => by cases h⟩
 ·rw [hfn', hrt]; exact trodAll_mk1 (shut_bool ht _)
 ·rw [hfn']; exact below_trodAll hl bel _ _ _ _ hr hA hlt
 ·rw [hfn', hv]; exact hV
theorem law_lifted {C : Checked} {os : Os} {f : FuncId} {fn : Func} {s : ChangeSpec} {t : TypeId} (hl : laidOutB C.prog = true)
  (hv : s.vars = []) (hf : ∀ ds : List (DataW H), ds.length = fn.params.size → s.fn H ds = { results := [.lit (.bool true)], args := ds }) (hrt : fn.resultTypes = #[t]) (ht : C.prog.underlying t = some .bool)
  (hr : (fn.params.toList.all fun t => C.prog.readableRec t && decide (t < C.prog.types.size)) = true)
  (own : ownKnob C.prog.godebug = none) (started : os.Started) (noInit : C.prog.inits.idxOf? f = none) (hfn : C.prog.funcs[f]? = some fn)
  (witness : ∃ (w : World) (tape : Tape) (i : Input), w.os = os ∧ (w.forCall tape i).Shaped C.prog ∧ i.vars = [] ∧ Input.okWide C.prog (w.forCall tape i) .any w.heap.size f i ∧
   s.pre6 enc C.prog fn [] false (w.forCall tape i).memory i.args ∧ ({} : Assume).holds C.prog (lone (Frame.enter C.prog f i.args .normal) [] (w.forCall tape i)))
  (contract : ∀ (W : World) (base : Nat) (args : Array Value) (ds : List (DataW H)) (p : List MemPlace),
   (∀ (j : Nat) t v, fn.params[j]? = some t → args[j]? = some v → Value.okWide C.prog W .any base t v) →
   DataW.TrodAll enc C.prog W 0 (fun _ => true) true fn.params.toList args.toList ds p → (∀ x ∈ p, x.block < W.heap.size) →
   Calls C.prog f args W (fun e W' => ∃ r : Bool, e = .returned (.bool r) ∧ (r = true ∧ Pure W W'))) :
  ReturnsInHanded {} C os f .any (s.pre6 enc C.prog fn [] false) (s.post enc C.prog fn false true false false) := by
 refine returnsInHanded_of_change own started noInit hfn witness ?_
 intro W base args ds gs before hval hW _ _
 have hW' := hW
 obtain ⟨p, q, hA, hV, rfl, hfz, hnd⟩ := hW
 refine (contract W base args ds p hval hA (fun x hx => by simpa using hW'.lt x (by simp [hx]))).mono fun e W' ⟨r, he, h1, h2⟩ => ?_
 subst h1
 exact ⟨_, he, law_post hl hv hf hrt ht hr hW' h2⟩
end
end Go.SE
namespace Go.SE
open Go.ChangeShapes Go.WideShapes Go.ChangeAt Go.RowKit
section
variable {P : Program} {W : World} {r : Reach} {b0 : Nat} {t : TypeId} {v : Value}
theorem okWide_cells {fs : Array Field} {ts : List TypeId} (ht : P.underlying t = some (.struct fs)) (hc : P.cellTypes P.depth t = some ts) (hn : P.cellsOf t = ts.length) (h : Value.okWide P W r b0 t v) :
  ∃ cs : Array Value, v = .agg cs ∧ cs.size = ts.length ∧ ∀ (i : Nat) (u : TypeId) (c : Value), ts[i]? = some u → cs[i]? = some c → Cell.okWide P W r b0 u c := by
 unfold Value.okWide at h
 rw [ht] at h
 obtain ⟨cs, rfl, hs, ts', hts, _, hall⟩ := h
 rw [hc] at hts
 cases hts
 refine ⟨cs, rfl, hs.trans hn, fun i u c hu hcs => ?_⟩
 obtain ⟨u', hu', hok⟩ := hall i c hcs
 have hlt : i < ts.length := (List.getElem?_eq_some_iff.1 hu).1
 rw [Nat.mod_eq_of_lt hlt, hu] at hu'
 cases hu'
 exact hok
theorem cell_okInt {k : IntKind} (ht : P.underlying t = some (.int k)) (h : Cell.okWide P W r b0 t v) : ∃ n, v = .int k n :=
 okWide_int ht (by unfold Value.okWide; rw [ht]; exact h)
end
end Go.SE
end
section
open Go Go.SE
namespace Go.Proofs
theorem mapM_facts {α β : Type} {f : α → Option β} : ∀ {l : List α} {r : List β}, l.mapM f = some r → r.length = l.length ∧ ∀ (i : Nat) (a : α), l[i]? = some a → ∃ b, f a = some b ∧ r[i]? = some b
 | [], r, h => by
  have : r = [] := by simpa using h.symm
  subst this
  exact ⟨rfl, fun i a h => by simp at h⟩
 | x :: xs, r, h => by
  rw [List.mapM_cons] at h
  cases hx : f x with
  | none => simp [hx] at h
  | some y =>
   cases hxs : xs.mapM f with
   | none => simp [hx, hxs] at h
   | some ys =>
    have : r = y :: ys := by simpa [hx, hxs] using h.symm
    subst this
    obtain ⟨h1, h2⟩ := mapM_facts hxs
    refine ⟨by simp [h1], fun i a ha => ?_⟩
    cases i with
    | zero => cases ha; exact ⟨y, hx, rfl⟩
    | succ i => exact h2 i a (by simpa using ha)
theorem cells_row {w : World} {base : Nat} {a : Addr} {n : Nat} {cs : List Value} (h : w.cells? base a n = some cs) : cs.length = n ∧ Row w a cs := by
 obtain ⟨_, h1, h2⟩ := World.cells?_some h
 exact ⟨h1, fun j hj => h2 j (by omega)⟩
section
variable {H : Type} {enc : TypeId × Value → H} {P : Program} {W : World} {base : Nat} {sp : Nat → Bool} {held : Bool}
theorem trod_int1 {t : TypeId} {k : IntKind} (ht : P.underlying t = some (.int k)) {n : Nat} {c : Value} {x : DataW H × List MemPlace} (h : DataW.trod enc P W base sp held n t [c] = some x) : ∃ m, c = .int k m := by
 cases n with
 | zero => cases h
 | succ n =>
  rw [DataW.trod_step] at h
  unfold DataW.trodStep at h
  rw [ht] at h
  cases c <;> simp at h
  obtain ⟨⟨rfl, _⟩, _⟩ := h
  exact ⟨_, rfl⟩
theorem trod_str1 {t : TypeId} (ht : P.underlying t = some .string) {n : Nat} {c : Value} {x : DataW H × List MemPlace} (h : DataW.trod enc P W base sp held n t [c] = some x) : ∃ m, c = .string m := by
 cases n with
 | zero => cases h
 | succ n =>
  rw [DataW.trod_step] at h
  unfold DataW.trodStep at h
  rw [ht] at h
  cases c <;> simp at h
  exact ⟨_, rfl⟩
theorem trod_slice1 {t e : TypeId} (ht : P.underlying t = some (.slice e)) {n : Nat} {c : Value} {x : DataW H × List MemPlace} (h : DataW.trod enc P W base sp held (n + 1) t [c] = some x) :
  c = .slice none 0 0 ∨ ∃ a len cap, c = .slice (some a) len cap ∧ len ≤ cap ∧ cap ≤ maxLen ∧ ∀ i, i < len → ∃ cs y, W.cells? base (a.add (i * P.cellsOf e)) (P.cellsOf e) = some cs ∧ DataW.trod enc P W base sp held n e cs = some y := by
 rw [DataW.trod_step] at h
 unfold DataW.trodStep at h
 rw [ht] at h
 cases c with
 | slice a len cap =>
  cases a with
  | none =>
   cases len with
   | zero => cases cap with
    | zero => exact .inl rfl
    | succ c => simp at h
   | succ l => simp at h
  | some a =>
   right
   simp only at h
   split at h
   ·rename_i hc
    refine ⟨a, len, cap, rfl, hc.2.1, hc.2.2, fun i hi => ?_⟩
    cases hm : (List.range len).mapM fun i => (W.cells? base (a.add (i * P.cellsOf e)) (P.cellsOf e)).bind (DataW.trod enc P W base sp held n e) with
    | none => rw [hm] at h; cases h
    | some r =>
     obtain ⟨b, hb, _⟩ := (mapM_facts hm).2 i i (by simp [hi])
     obtain ⟨cs, h1, h2⟩ := Option.bind_eq_some_iff.1 hb
     exact ⟨cs, b, h1, h2⟩
   ·cases h
 | _ => simp at h
structure TreeTypes (P : Program) (tS tT : TypeId) : Prop where
 ex : ∃ ti tu ts : TypeId, ∃ f0 f1 f2 f3 f4 f5 : Field, P.underlying tS = some (.slice tT) ∧ P.underlying tT = some (.struct #[f0, f1, f2, f3, f4, f5]) ∧ P.cellsOf tT = 6 ∧
  (f0.type = ti ∧ f1.type = ti ∧ f2.type = ti ∧ f3.type = tu ∧ f4.type = ts ∧ f5.type = tS) ∧ (f0.offset = 0 ∧ f1.offset = 1 ∧ f2.offset = 2 ∧ f3.offset = 3 ∧ f4.offset = 4 ∧ f5.offset = 5) ∧
  P.underlying ti = some (.int .i64) ∧ P.underlying tu = some (.int .u64) ∧ P.underlying ts = some .string ∧ P.cellsOf ti = 1 ∧ P.cellsOf tu = 1 ∧ P.cellsOf ts = 1 ∧ P.cellsOf tS = 1
theorem trod_tree {tS tT : TypeId} (hTT : TreeTypes P tS tT) : ∀ n : Nat,
  (∀ (c : Value) (x : DataW H × List MemPlace), DataW.trod enc P W base sp held n tS [c] = some x → ∃ s : Sl, ∃ ts : List Sp.Tree, c = s.v ∧ ∀ (k f t u : Int) (tx : ByteArray), TreeAt (fun _ => True) W s (.mk k f t u tx ts)) ∧
  (∀ (cs : List Value) (x : DataW H × List MemPlace), DataW.trod enc P W base sp held n tT cs = some x → ∃ t s, cs = trow t s ∧ TreeAt (fun _ => True) W s t) := by
 obtain ⟨ti, tu, tx, f0, f1, f2, f3, f4, f5, hS, hT, hc6, ⟨e0, e1, e2, e3, e4, e5⟩, ⟨o0, o1, o2, o3, o4, o5⟩, ui, uu, us, ci, cu, cs1, cS⟩ := hTT.ex
 intro n
 induction n with
 | zero => exact ⟨fun c x h => (by cases h), fun cs x h => (by cases h)⟩
 | succ n ih =>
  refine ⟨fun c x h => ?_, fun cs x h => ?_⟩
  ·rcases trod_slice1 hS h with rfl | ⟨a, len, cap, rfl, hle, hcm, hel⟩
   ·exact ⟨Sl.nil, [], rfl, fun k f t u tx => .mk k f t u tx [] Sl.nil (fun _ => Sl.nil) rfl (by simp) (fun i h => by simp at h) (fun i h => by simp at h)⟩
   ·rw [hc6] at hel
    have hex : ∀ i, ∃ q : Sp.Tree × Sl, i < len → Row W (a.add (i * 6)) (trow q.1 q.2) ∧ TreeAt (fun _ => True) W q.2 q.1 := by
     intro i
     by_cases hi : i < len
     ·obtain ⟨cs, y, h1, h2⟩ := hel i hi
      obtain ⟨tr, s, e, hTr⟩ := ih.2 cs y h2
      exact ⟨(tr, s), fun _ => ⟨e ▸ (cells_row h1).2, hTr⟩⟩
     ·exact ⟨(Sp.Tree.mk 0 0 0 0 ⟨#[]⟩ [], Sl.nil), fun h => absurd h hi⟩
    obtain ⟨q, hq⟩ := Classical.axiomOfChoice hex
    refine ⟨⟨some a, len, cap⟩, (List.range len).map fun i => (q i).1, rfl, fun k f t u tx => .mk k f t u tx _ _ (fun i => (q i).2) (by simp) (by simp only [maxLen] at hcm; simp; omega) (fun i h => ?_) (fun i h => ?_)⟩
    ·have hi : i < len := by simpa using h
     refine ⟨a.add (i * 6), ⟨by omega, by simpa using hi, a, rfl, by simp⟩, trivial, ?_⟩
     simpa using (hq i hi).1
    ·have hi : i < len := by simpa using h
     simpa using (hq i hi).2
  ·rw [DataW.trod_step] at h
   unfold DataW.trodStep at h
   rw [hT] at h
   simp only at h
   split at h
   ·rename_i hl
    rw [hc6] at hl
    match cs, hl with
    | [c0, c1, c2, c3, c4, c5], _ =>
     cases hm : ([f0, f1, f2, f3, f4, f5] : List Field).mapM (fun f => DataW.trod enc P W base sp held n f.type ((([c0, c1, c2, c3, c4, c5] : List Value).drop f.offset).take (P.cellsOf f.type))) with
     | none => rw [hm] at h; cases h
     | some r =>
      have hf := (mapM_facts hm).2
      obtain ⟨_, h0, _⟩ := hf 0 f0 rfl
      obtain ⟨_, h1, _⟩ := hf 1 f1 rfl
      obtain ⟨_, h2, _⟩ := hf 2 f2 rfl
      obtain ⟨_, h3, _⟩ := hf 3 f3 rfl
      obtain ⟨_, h4, _⟩ := hf 4 f4 rfl
      obtain ⟨_, h5, _⟩ := hf 5 f5 rfl
      rw [e0, o0, ci] at h0; rw [e1, o1, ci] at h1; rw [e2, o2, ci] at h2; rw [e3, o3, cu] at h3; rw [e4, o4, cs1] at h4; rw [e5, o5, cS] at h5
      obtain ⟨m0, rfl⟩ := trod_int1 ui h0
      obtain ⟨m1, rfl⟩ := trod_int1 ui h1
      obtain ⟨m2, rfl⟩ := trod_int1 ui h2
      obtain ⟨m3, rfl⟩ := trod_int1 uu h3
      obtain ⟨m4, rfl⟩ := trod_str1 us h4
      obtain ⟨s, ts, rfl, hTr⟩ := ih.1 c5 _ h5
      exact ⟨.mk m0 m1 m2 m3 m4 ts, s, rfl, hTr m0 m1 m2 m3 m4⟩
   ·cases h
end
theorem treeTypes : TreeTypes Try.prog 22 63 :=
 ⟨3, 39, 9, _, _, _, _, _, _, Try.underlying22, Try.underlying63, by kernel_rfl, ⟨rfl, rfl, rfl, rfl, rfl, rfl⟩, ⟨rfl, rfl, rfl, rfl, rfl, rfl⟩, Try.underlying3, Try.underlying39, Try.underlying9, by kernel_rfl, by kernel_rfl, by kernel_rfl, by kernel_rfl⟩
end Go.Proofs
end
section
open Go Go.SE
namespace Go.Proofs
attribute [local irreducible] wpL wpX opE wpE Calls
end Go.Proofs
end
section
open Go Go.SE
namespace Go.Proofs
attribute [local irreducible] Calls
section
variable {w w' : World} {k p : Addr} {G : List Int} {S : List Sp.Way} {ks : List Int} {sg sl : Sl} {m : Nat} {F : Nat → Prop}
end
end Go.Proofs
end
section
open Go Go.SE
namespace Go.Proofs
attribute [local irreducible] Calls
section
variable {w w' : World} {k p : Addr} {G : List Int} {S : List Sp.Way} {F : Nat → Prop}
end
section
variable {w0 w w' : World} {H H' : Nat → Prop} {k p p1 : Addr} {L : Sp.Pool} {G : List Int} {S S' : List Sp.Way} {F F' F0 FP : Nat → Prop}
end
end Go.Proofs
end
section
open Go Go.SE
namespace Go.Sp
def madeS (L : Pool) (S : List Way) (t : Int) : Int × Int × Bool × Bool :=
 if inP L t = false then (0, 0, false, false)
 else if freeK (nodeOf L t).kind = true then (0, 0, true, true)
 else if (nodeOf L t).kind = 4 then ((nodeOf L t).a, (nodeOf L t).b, false, true)
 else if (nodeOf L t).kind = 5 then ((nodeOf L t).a, 0, false, true)
 else if (nodeOf L t).kind = 6 then (0, 0, false, false)
 else ((nodeOf L t).a, (keyOf L (whoOf (nodeOf L t))).1, false, (keyOf L (whoOf (nodeOf L t))).2 && decide ((keyOf L (whoOf (nodeOf L t))).1 ∈ wkeys S))
end Go.Sp
namespace Go.Proofs
attribute [local irreducible] Calls
section
variable (p : Addr) (w0 : World) {L : Sp.Pool} {F : Nat → Prop} (hP : PoolAt w0 p L F) (hok : Sp.Ok L)
include hP hok
end
end Go.Proofs
end
section
open Go Go.SE
namespace Go.Sp
def Dep (L : Pool) (S : List Way) (t y : Int) : Prop :=
 (∃ v ∈ S, v.t = t ∧ v.rule ≠ 0 ∧ y = v.frm) ∨ (t ∉ wkeys S ∧ 0 < y ∧ (y = (madeS L S t).1 ∨ y = (madeS L S t).2.1))
inductive Dp (L : Pool) (S : List Way) : Int → Int → Prop
 | refl (t : Int) : Dp L S t t
 | step {t y z : Int} : Dep L S t y → Dp L S y z → Dp L S t z
theorem Dep.way {L : Pool} {S : List Way} {t y r f : Int} (hn : (wkeys S).Nodup) (hl : SE.look (S.map fun v => (v.t, (v.rule, v.frm))) t = some (r, f)) : Dep L S t y ↔ r ≠ 0 ∧ y = f := by
 have hm := look_mem hl
 obtain ⟨v, hv, e⟩ := List.mem_map.1 hm
 simp only [Prod.mk.injEq] at e
 obtain ⟨rfl, rfl, rfl⟩ := e
 have hk : v.t ∈ wkeys S := List.mem_map.2 ⟨v, hv, rfl⟩
 unfold Dep
 constructor
 ·rintro (⟨u, hu, e, hr, rfl⟩ | ⟨h, _⟩)
  ·have hnd : ((S.map fun v => (v.t, (v.rule, v.frm))).map Prod.fst).Nodup := by rw [List.map_map]; exact hn
   have h2 := look_of_mem hnd (List.mem_map.2 ⟨u, hu, rfl⟩)
   rw [e, hl] at h2
   simp only [Option.some.injEq, Prod.mk.injEq] at h2
   exact ⟨by rw [h2.1]; exact hr, h2.2.symm⟩
  ·exact absurd hk h
 ·rintro ⟨h1, rfl⟩
  exact .inl ⟨v, hv, rfl, h1, rfl⟩
theorem Dp.all {L : Pool} {S : List Way} {M : List Step} (hc : ∀ s ∈ M, ∀ y, Dep L S s.t y → y ∈ M.map Step.t) {t x : Int} (ht : t ∈ M.map Step.t) (h : Dp L S t x) : x ∈ M.map Step.t := by
 induction h with
 | refl => exact ht
 | step hd _ ih =>
  obtain ⟨s, hs, rfl⟩ := List.mem_map.1 ht
  exact ih (hc s hs _ hd)
end Go.Sp
namespace Go.Proofs
attribute [local irreducible] Calls
section
variable {w w' : World} {k p c1 c2 c3 c4 c5 : Addr} {ma mb : Nat} {L : Sp.Pool} {G : List Int} {S : List Sp.Way} {F FP : Nat → Prop} {sl : Sl} {l : List Sp.Step} {B : List Int}
end
section
variable {w0 w w' : World} {H H' : Nat → Prop} {k p c1 c2 c3 c4 c5 : Addr} {ma mb : Nat} {L : Sp.Pool} {G : List Int} {S : List Sp.Way} {F FP : Nat → Prop} {sl sl1 sl2 : Sl} {l M M2 : List Sp.Step} {B0 B B2 : List Int} {t : Int}
end
end Go.Proofs
end
section
open Go Go.SE
namespace Go.Proofs
section
variable {H : Type} {enc : TypeId × Value → H} {P : Program} {W : World} {base : Nat} {sp : Nat → Bool} {held : Bool}
theorem row_lt {a : Addr} {v : Value} {vs : List Value} (h : Row W a (v :: vs)) : a.block < W.heap.size := by
 have := h 0 (by simp)
 have := World.block_lt_of_cell? W (a.add 0) this
 rwa [add_block] at this
theorem list_of_trod {α : Type} {tS e : TypeId} {sz : Nat} {f : α → List Value} (hS : P.underlying tS = some (.slice e)) (hc : P.cellsOf e = sz) (hf : ∀ a, ∃ v vs, f a = v :: vs) (x0 : α)
  (hel : ∀ (n : Nat) (cs : List Value) (x : DataW H × List MemPlace), DataW.trod enc P W base sp held n e cs = some x → ∃ a, cs = f a) {n : Nat} {c : Value} {x : DataW H × List MemPlace} (h : DataW.trod enc P W base sp held n tS [c] = some x) :
  ∃ s : Sl, ∃ xs : List α, c = s.v ∧ Lst (fun b => b < W.heap.size) W sz s (xs.map f) := by
 cases n with
 | zero => cases h
 | succ n =>
  rcases trod_slice1 hS h with rfl | ⟨a, len, cap, rfl, hle, hcm, hall⟩
  ·exact ⟨Sl.nil, [], rfl, ⟨rfl, fun i hi => by simp at hi⟩⟩
  ·rw [hc] at hall
   have hex : ∀ i, ∃ q : α, i < len → Row W (a.add (i * sz)) (f q) := by
    intro i
    by_cases hi : i < len
    ·obtain ⟨cs, y, h1, h2⟩ := hall i hi
     obtain ⟨q, rfl⟩ := hel n cs y h2
     exact ⟨q, fun _ => (cells_row h1).2⟩
    ·exact ⟨x0, fun h => absurd h hi⟩
   obtain ⟨q, hq⟩ := Classical.axiomOfChoice hex
   refine ⟨⟨some a, len, cap⟩, (List.range len).map q, rfl, ⟨by simp, fun i hi => ?_⟩⟩
   have hi : i < len := by simpa using hi
   have hr := hq i hi
   obtain ⟨v, vs, e⟩ := hf (q i)
   refine ⟨a.add (i * sz), ⟨by omega, by simpa using hi, a, rfl, by simp⟩, ?_, by simpa using hr⟩
   rw [e] at hr; exact row_lt hr
theorem terms_of_trod {tS e : TypeId} (hS : P.underlying tS = some (.slice e)) (he : P.underlying e = some (.int .i64)) (hc : P.cellsOf e = 1) {n : Nat} {c : Value} {x : DataW H × List MemPlace} (h : DataW.trod enc P W base sp held n tS [c] = some x) :
  ∃ s : Sl, ∃ ts : List Int, c = s.v ∧ Lst (fun b => b < W.heap.size) W 1 s (tmr ts) := by
 have := list_of_trod (f := fun t : Int => [Value.int .i64 t]) hS hc (fun a => ⟨_, _, rfl⟩) 0 (fun n cs x h => ?_) h
 ·exact this
 ·cases n with
  | zero => cases h
  | succ n =>
   rw [DataW.trod_step] at h
   unfold DataW.trodStep at h
   rw [he] at h
   cases cs with
   | nil => simp at h
   | cons c l =>
    cases l with
    | cons c2 l2 => cases c <;> simp at h
    | nil =>
     cases c <;> simp at h
     obtain ⟨⟨rfl, _⟩, _⟩ := h
     exact ⟨_, rfl⟩
theorem trod_fields {t : TypeId} {fs : Array Field} (ht : P.underlying t = some (.struct fs)) {n : Nat} {cs : List Value} {x : DataW H × List MemPlace} (h : DataW.trod enc P W base sp held n t cs = some x) :
  ∃ m, cs.length = P.cellsOf t ∧ ∀ (i : Nat) (f : Field), fs.toList[i]? = some f → ∃ y, DataW.trod enc P W base sp held m f.type ((cs.drop f.offset).take (P.cellsOf f.type)) = some y := by
 cases n with
 | zero => cases h
 | succ n =>
  rw [DataW.trod_step] at h
  unfold DataW.trodStep at h
  rw [ht] at h
  simp only at h
  split at h
  ·rename_i hl
   cases hm : fs.toList.mapM (fun f => DataW.trod enc P W base sp held n f.type ((cs.drop f.offset).take (P.cellsOf f.type))) with
   | none => rw [hm] at h; cases h
   | some r =>
    refine ⟨n, hl, fun i f hf => ?_⟩
    obtain ⟨b, hb, _⟩ := (mapM_facts hm).2 i f hf
    exact ⟨b, hb⟩
  ·cases h
end
section
variable {H : Type} {enc : TypeId × Value → H} {W : World} {base : Nat} {sp : Nat → Bool} {held : Bool}
theorem terms_in {n : Nat} {c : Value} {x : DataW H × List MemPlace} (h : DataW.trod enc Try.prog W base sp held n 36 [c] = some x) : ∃ s : Sl, ∃ ts : List Int, c = s.v ∧ Lst (fun b => b < W.heap.size) W 1 s (tmr ts) :=
 terms_of_trod Try.underlying36 Try.underlying23 (by kernel_rfl) h
end
end Go.Proofs
end
section
open Go.SE
namespace Go.Proofs
open Go.ChangeShapes Go.WideShapes Go.ChangeAt Go.RowKit
section
variable {H : Type} {enc : TypeId × Value → H} {W : World} {base : Nat} {sp : Nat → Bool} {held : Bool}
theorem trod_cap {P : Program} {t e : TypeId} (ht : P.underlying t = some (.slice e)) {n : Nat} {s : Sl} {x : DataW H × List MemPlace} (h : DataW.trod enc P W base sp held n t [s.v] = some x) : s.len ≤ s.cap := by
 cases n with
 | zero => cases h
 | succ n =>
  rcases trod_slice1 ht h with e | ⟨a, len, cap, e, hle, _⟩
  ·obtain ⟨a, l, c⟩ := s; cases e; exact Nat.le_refl _
  ·obtain ⟨a', l, c⟩ := s; cases e; exact hle
set_option maxRecDepth 100000 in
theorem lists_in {v : Value} {d : DataW H} {ps : List MemPlace} {r : Reach} {b0 : Nat} (h : DataW.Trod enc Try.prog W base sp held 48 v d ps) (hv : Value.okWide Try.prog W r b0 48 v) :
  ∃ (s sl sm sn : Sl) (ts : List Sp.Tree) (l m n : List Int) (who : Int), v = .agg #[s.v, sl.v, sm.v, sn.v, .int .i64 who] ∧ TreeAt (fun b => b < W.heap.size) W s (.mk 0 0 0 0 ⟨#[]⟩ ts) ∧
   Lst (fun b => b < W.heap.size) W 1 sl (tmr l) ∧ Lst (fun b => b < W.heap.size) W 1 sm (tmr m) ∧ Lst (fun b => b < W.heap.size) W 1 sn (tmr n) ∧ sl.len ≤ sl.cap ∧ sm.len ≤ sm.cap ∧ sn.len ≤ sn.cap := by
 obtain ⟨cs, rfl, hs, hc⟩ := okWide_cells (ts := [22, 36, 36, 36, 3]) Try.underlying48 (by kernel_rfl) (by kernel_rfl) hv
 obtain ⟨k, h⟩ := h
 obtain ⟨m, hl, hf⟩ := trod_fields Try.underlying48 h
 obtain ⟨cl⟩ := cs
 match cl, hs, hc, hf with
 | [a, b, c, d, e], _, hc, hf =>
  obtain ⟨_, h0⟩ := hf 0 _ rfl
  obtain ⟨_, h1⟩ := hf 1 _ rfl
  obtain ⟨_, h2⟩ := hf 2 _ rfl
  obtain ⟨_, h3⟩ := hf 3 _ rfl
  simp only [show (Try.prog.cellsOf 22) = 1 by kernel_rfl, show (Try.prog.cellsOf 36) = 1 by kernel_rfl] at h0 h1 h2 h3
  obtain ⟨s, ts, e0, hT⟩ := (trod_tree treeTypes m).1 _ _ h0
  obtain ⟨sl, l, e1, hL⟩ := terms_in h1
  obtain ⟨sm, lm, e2, hM⟩ := terms_in h2
  obtain ⟨sn, n, e3, hN⟩ := terms_in h3
  subst e0; subst e1; subst e2; subst e3
  obtain ⟨who, rfl⟩ := cell_okInt Try.underlying3 (hc 4 _ e rfl rfl)
  exact ⟨s, sl, sm, sn, ts, l, lm, n, who, rfl, (hT 0 0 0 0 ⟨#[]⟩).lt.mono (fun b hb => hb.2), hL, hM, hN, trod_cap Try.underlying36 h1, trod_cap Try.underlying36 h2, trod_cap Try.underlying36 h3⟩
end
end Go.Proofs
end
