import Derived.Test.YtakogcapgbilaaaPa4
import Derived.Test.YtakogcapgbilaaaPa2
import Derived.Test.YtakogcapgbilaaaProg
import Derived.KernelRfl
import Derived.Test.YtakogcapgbilaaaPa0
import Derived.Test.YtakogcapgbilaaaPa3
import Derived.ProofKit
import Derived.Carry
import Derived.OpenShut
import Derived.Stop.Joined
section
open Go Go.SE
namespace Go.Proofs
attribute [local irreducible] Calls
theorem c_ref05_cut (p : Addr) (n : Nat) (w0 : World) {L : Sp.Pool} {F : Nat → Prop} (hP : PoolR w0 p L F) (hn : n ≤ L.length) :
  Calls Try.prog 127 #[.pointer (some p), .int .i64 n] w0 (fun e w' => e = .returned (.tuple #[]) ∧ PoolR w' p (L.take n) F ∧ Ext F w0 w') := by
 suffices key : ∀ K : World → Prop, (∀ w', PoolR w' p (L.take n) F ∧ Ext F w0 w' → K w') → m_ref05_Pool_cut (some p) n w0 K from
  w_ref05_Pool_cut _ _ w0 _ (key _ (fun _ h => h))
 intro K hK
 unfold m_ref05_Pool_cut
 obtain ⟨s1, s2, s3, hS, hF⟩ := hP
 obtain ⟨t1, hr1, R1, hb1⟩ := Rws.hi (P := Try.prog) slT_node hS.r1 (k := .i64) (n := n) (by omega) (by simpa using hn)
 refine ⟨p, rfl, s1, hS.box.cell0, t1, hr1, p, rfl, hS.box.canW0 (by simp), ?_⟩
 rintro w1 hw1
 have B1 : Box w1 p [t1.v, s2.v, s3.v] 75 := by rw [hw1]; exact hS.box.set0
 have X1 : Ext (· = p.block) w0 w1 := by rw [hw1]; exact Ext.setCell p _
 clear hw1
 obtain ⟨t2, hr2, R2, hb2⟩ := Rws.hi (P := Try.prog) slT_int (hS.r2.ext X1 (fun b hb e => hS.n2 (e ▸ hb))) (k := .i64) (n := n) (by omega) (by simpa using hn)
 refine ⟨p, rfl, s2, B1.cell rfl, t2, hr2, p, rfl, B1.canW (by simp), ?_⟩
 rintro w2 hw2
 have B2 : Box w2 p [t1.v, t2.v, s3.v] 75 := by rw [hw2]; exact B1.set 1 _
 have X2 : Ext (· = p.block) w1 w2 := by rw [hw2]; have := Ext.setCell (w := w1) (p.add 1) t2.v; rw [add_block] at this; exact this
 clear hw2
 obtain ⟨t3, hr3, R3, hb3⟩ := Rws.hi (P := Try.prog) slT_int (hS.r3.ext (X1.trans X2) (fun b hb e => hS.n3 (e ▸ hb))) (k := .i64) (n := n) (by omega) (by simpa using hn)
 refine ⟨p, rfl, s3, B2.cell rfl, t3, hr3, p, rfl, B2.canW (by simp), ?_⟩
 rintro w3 hw3
 have B3 : Box w3 p [t1.v, t2.v, t3.v] 75 := by rw [hw3]; exact B2.set 2 _
 have X3 : Ext (· = p.block) w2 w3 := by rw [hw3]; have := Ext.setCell (w := w2) (p.add 2) t3.v; rw [add_block] at this; exact this
 clear hw3
 have E := (X1.trans X2).trans X3
 refine hK _ ⟨⟨t1, t2, t3, ⟨B3, ?_, ?_, ?_, fun h => hS.n1 ((hb1 _).1 h), fun h => hS.n2 ((hb2 _).1 h), fun h => hS.n3 ((hb3 _).1 h), fun b h1 h2 => hS.d12 b ((hb1 b).1 h1) ((hb2 b).1 h2), fun b h1 h2 => hS.d13 b ((hb1 b).1 h1) ((hb3 b).1 h2), fun b h1 h2 => hS.d23 b ((hb2 b).1 h1) ((hb3 b).1 h2)⟩, fun b => by rw [hF b, hb1 b, hb2 b, hb3 b]⟩, E.mono (fun i _ h => (hF i).2 (.inl h))⟩
 ·have := R1.ext E (fun b hb e => hS.n1 ((hb1 _).1 (e ▸ hb)))
  rw [List.map_take]; simpa using this
 ·have := R2.ext (X2.trans X3) (fun b hb e => hS.n2 ((hb2 _).1 (e ▸ hb)))
  rw [List.map_take]; simpa using this
 ·have := R3.ext X3 (fun b hb e => hS.n3 ((hb3 _).1 (e ▸ hb)))
  rw [List.map_take]; simpa using this
theorem c_ref05_made {S : Nat → Prop} (p : Addr) (t : Sp.Tree) : ∀ (s : Sl) (w0 : World) (L : Sp.Pool) (F : Nat → Prop), Sp.Tree.two t → TreeAt S w0 s t → PoolR w0 p L F → Sp.Ok L → (∀ b, F b → ¬ S b) → (∀ b, S b → b < w0.heap.size) →
  Calls Try.prog 126 #[.pointer (some p), .agg (trow t s).toArray] w0
   (fun e w' => ∃ r1 : Int, ∃ r2 : Int, e = .returned (.tuple #[.int .i64 r1, .int .i64 r2]) ∧ ((r1, r2) = ((Sp.grow L t).1, (Sp.grow L t).2.1) ∧ ∃ F', PoolR w' p (Sp.grow L t).2.2 F' ∧ Ext F w0 w' ∧ ∀ b, F' b → F b ∨ w0.heap.size ≤ b)) := by
 induction t using Sp.Tree.ind with
 | h k f t u x ks ih =>
 intro s w0 L F h2 hT hP hok hFS hSw
 suffices key : ∀ K : Int → Int → World → Prop, (∀ r1 r2 w', ((r1, r2) = ((Sp.grow L (.mk k f t u x ks)).1, (Sp.grow L (.mk k f t u x ks)).2.1) ∧ ∃ F', PoolR w' p (Sp.grow L (.mk k f t u x ks)).2.2 F' ∧ Ext F w0 w' ∧ ∀ b, F' b → F b ∨ w0.heap.size ≤ b) → K r1 r2 w') → m_ref05_Pool_made (some p) k f t u x s w0 K from
  w_ref05_Pool_made _ _ _ _ _ _ _ w0 _ (key _ (fun _ _ _ h => h))
 intro K hK
 obtain ⟨hk2, hall⟩ := two_mk.1 h2
 have hsp : Sp.grow L (.mk k f t u x ks) = Sp.growAll ⟨k, f, t, u, x, 0, 0⟩ 0 L ks := by rw [Sp.grow]
 rw [hsp] at hK
 have hlen : s.len = ks.length := by cases hT; assumption
 unfold m_ref05_Pool_made
 intro H2 w4 hs4
 refine ⟨fun i a1 a2 a3 a4 a5 a6 a7 H w' => ∃ j : Nat, i = j ∧ j ≤ ks.length ∧ ∃ (L' : Sp.Pool) (F' : Nat → Prop), Sp.growAll ⟨k, f, t, u, x, 0, 0⟩ 0 L ks = Sp.growAll ⟨a1, a2, a3, a4, a5, a6, a7⟩ j L' (ks.drop j) ∧ Sp.Ok L' ∧ PoolR w' p L' F' ∧ (∀ b, F' b → F b ∨ w0.heap.size ≤ b) ∧ (∀ b, F' b → ¬ H b) ∧ Ext F w0 w', fun i _ _ _ _ _ _ _ _ => ((ks.length : Int) - i).toNat,
  ⟨0, rfl, Nat.zero_le _, L, F, by simp, hok, hP.pure hs4.first, fun b h => .inl h, hs4.disj0 (fun b hb => hP.lt hb), hs4.first.pure⟩, ?_⟩
 rintro _ a1 a2 a3 a4 a5 a6 a7 Hl wl hl ⟨j, rfl, hj, L', F', heq, hok', hPl, hF', hv, El⟩
 unfold m_ref05_Pool_made_l1
 refine ⟨fun h => ?_, fun h => ?_⟩
 ·have hlt := lt_of_dec hlen h
  have hTl : TreeAt S wl s (.mk k f t u x ks) := hT.ext El (fun b hs hf => hFS b hf hs)
  have hkid : ∃ a r, At s j 6 a ∧ Row wl a (trow ks[j] r) ∧ TreeAt S wl r ks[j] := by
   cases hTl with
   | mk _ _ _ _ _ _ _ rs len fit row kid => exact let ⟨a, h1, _, h3⟩ := row j hlt; ⟨a, rs j, h1, h3, kid j hlt⟩
  obtain ⟨a, r, hat, hrow, hTk⟩ := hkid
  refine ⟨a, hat, _, _, _, _, _, r, hrow, ?_⟩
  have hsz : w0.heap.size ≤ wl.heap.size := El.size
  refine (ih j hlt r wl L' F' (twoAll_get hall hlt) hTk hPl hok' (fun b hb hs => (hF' b hb).elim (fun h => hFS b h hs) (fun h => by have := hSw b hs; omega)) (fun b hs => by have := hSw b hs; omega)).mono ?_
  rintro _ w8 ⟨r1, r2, rfl, hr, F8, hP8, E8, hF8⟩
  have e1 : r1 = (Sp.grow L' ks[j]).1 := congrArg Prod.fst hr
  have e2 : r2 = (Sp.grow L' ks[j]).2.1 := congrArg Prod.snd hr
  rw [List.drop_eq_getElem_cons hlt] at heq
  have hF8' : ∀ b, F8 b → F b ∨ w0.heap.size ≤ b := fun b hb => (hF8 b hb).elim (hF' b) (fun h => by right; omega)
  have Ew8 : Ext F w0 w8 := El.trans' E8 (fun i hi h => (hF' i h).elim id (fun h => by omega))
  refine ⟨_, _, rfl, E8.kept (fun b hH hF => hv b hF hH), fun h => ?_, fun h => ?_⟩
  ·have h : (Sp.grow L' ks[j]).2.1 ≠ 0 := by rw [← e2]; simpa using h
   rw [growAll_bad h] at heq
   refine hK _ _ _ ?_
   rw [heq]; exact ⟨by rw [e2], F8, hP8, Ew8, hF8'⟩
  ·have h : (Sp.grow L' ks[j]).2.1 = 0 := by rw [← e2]; simpa using h
   rw [growAll_good h] at heq
   intro H3 w9 hs9
   have hv8 : ∀ b, F8 b → ¬ Hl b := fun b hb hH => (hF8 b hb).elim (fun h => hv b h hH) (fun h => by have := hl.lt b hH; omega)
   have hv9 : ∀ b, F8 b → ¬ H3 b := hs9.disj (fun b hb => ⟨hP8.lt hb, hv8 b hb⟩)
   rw [wrap_succ hlt (by omega)]
   refine ⟨⟨j + 1, rfl, hlt, _, F8, ?_, (Sp.grow_facts ks[j] L' hok').1, hP8.ext hs9.ext hv9, hF8', hv9, Ew8.hst hs9⟩, lt_dec hlt⟩
   rw [heq, e1]
   have hj0 : (((j : Int)) == 0) = decide (j = 0) := by rw [Bool.eq_iff_iff]; simp
   rw [hj0]
   by_cases hj0' : j = 0
   ·subst hj0'; rfl
   ·simp [hj0']
 ·have hge := eq_of_dec hlen hj h
  rw [hge, List.drop_length, Sp.growAll] at heq
  refine (c_ref05_Make p ⟨a1, a2, a3, a4, a5, a6, a7⟩ wl hPl hok').mono ?_
  rintro _ w9 ⟨r1, r2, rfl, hr, F9, hP9, E9, hF9⟩
  have hsz : w0.heap.size ≤ wl.heap.size := El.size
  refine ⟨_, _, rfl, E9.kept (fun b hH hF => hv b hF hH), hK _ _ _ ?_⟩
  rw [heq]
  exact ⟨hr, F9, hP9, El.trans' E9 (fun i hi h => (hF' i h).elim id (fun h => by omega)), fun b hb => (hF9 b hb).elim (hF' b) (fun h => by right; omega)⟩
theorem grow_bad_term (t : Sp.Tree) : ∀ L, (Sp.grow L t).2.1 ≠ 0 → (Sp.grow L t).1 = 0 := by
 induction t using Sp.Tree.ind with
 | h k f t u x ks ih =>
  have hmk : ∀ L n, (Sp.make L n).2.1 ≠ 0 → (Sp.make L n).1 = 0 := by
   intro L n h
   unfold Sp.make at h ⊢
   simp only at h ⊢
   split at h
   ·rename_i h1; rw [if_pos h1]
   ·rename_i h1
    rw [if_neg h1]
    split at h
    ·rename_i hf; exact absurd rfl h
    ·split at h
     ·rename_i h2; simp [h2]
     ·exact absurd rfl h
  have : ∀ (ks : List Sp.Tree), (∀ i (hi : i < ks.length), ∀ L, (Sp.grow L ks[i]).2.1 ≠ 0 → (Sp.grow L ks[i]).1 = 0) → ∀ n i L, (Sp.growAll n i L ks).2.1 ≠ 0 → (Sp.growAll n i L ks).1 = 0 := by
   intro ks
   induction ks with
   | nil => intro _ n i L h; unfold Sp.growAll at h ⊢; exact hmk L n h
   | cons t ts iht =>
    intro hh n i L h
    unfold Sp.growAll at h ⊢
    split at h
    ·rename_i h1; rw [if_pos h1]
    ·rename_i h1; rw [if_neg h1]; exact iht (fun i hi => hh (i + 1) (by simpa using hi)) _ _ _ h
  intro L h
  unfold Sp.grow at h ⊢
  exact this ks ih _ _ L h
theorem c_ref05_Of {S : Nat → Prop} (p : Addr) (t : Sp.Tree) (s : Sl) (w0 : World) {L : Sp.Pool} {F : Nat → Prop} (hT : TreeAt S w0 s t) (hP : PoolR w0 p L F) (hok : Sp.Ok L) (hFS : ∀ b, F b → ¬ S b) (hSw : ∀ b, S b → b < w0.heap.size) :
  Calls Try.prog 77 #[.pointer (some p), .agg (trow t s).toArray] w0
   (fun e w' => ∃ r1 : Int, ∃ r2 : Int, e = .returned (.tuple #[.int .i64 r1, .int .i64 r2]) ∧ ((r1, r2) = ((Sp.of L t).1, (Sp.of L t).2.1) ∧ ∃ F', PoolR w' p (Sp.of L t).2.2 F' ∧ Ext F w0 w' ∧ ∀ b, F' b → F b ∨ w0.heap.size ≤ b)) := by
 obtain ⟨k, f, to, u, x, ks⟩ := t
 suffices key : ∀ K : Int → Int → World → Prop, (∀ r1 r2 w', ((r1, r2) = ((Sp.of L (.mk k f to u x ks)).1, (Sp.of L (.mk k f to u x ks)).2.1) ∧ ∃ F', PoolR w' p (Sp.of L (.mk k f to u x ks)).2.2 F' ∧ Ext F w0 w' ∧ ∀ b, F' b → F b ∨ w0.heap.size ≤ b) → K r1 r2 w') → m_ref05_Pool_Of (some p) k f to u x s w0 K from
  w_ref05_Pool_Of _ _ _ _ _ _ _ w0 _ (key _ (fun _ _ _ h => h))
 intro K hK
 unfold m_ref05_Pool_Of
 intro H1 w1 hs1
 have E1 := hs1.first
 generalize ht : Sp.Tree.mk k f to u x ks = t at *
 have htr : (Value.agg #[.int .i64 k, .int .i64 f, .int .i64 to, .int .u64 u, .string x, s.v]) = .agg (trow t s).toArray := by rw [← ht]; rfl
 rw [htr]
 refine (c_ref05_Looks t s w1 (hT.pure E1) (fun b hb => by have := hSw b hb; have := E1.size; omega)).mono ?_
 rintro _ w2 ⟨r1, rfl, rfl, E2⟩
 have E12 := E1.trans E2
 refine ⟨_, rfl, E2.keptP, fun h => ?_, fun h => ?_⟩
 ·have h : (Sp.looks 0 0 t).1 ≠ 0 := by simpa using h
  have : Sp.of L t = (0, (Sp.looks 0 0 t).1, L) := by rw [Sp.of, if_pos h]
  refine hK _ _ _ ?_
  rw [this]; exact ⟨rfl, F, hP.pure E12, E12.pure, fun _ h => .inl h⟩
 ·have h : (Sp.looks 0 0 t).1 = 0 := by simpa using h
  have hP2 := hP.pure E12
  have hv : ∀ b, F b → ¬ H1 b := hs1.disj0 (fun b hb => hP.lt hb)
  obtain ⟨s1, s2, s3, hS, hF0⟩ := id hP2
  have hl0 : s1.len = L.length := by rw [hS.r1.len]; simp
  refine ⟨p, rfl, s1, hS.box.cell0, ?_⟩
  refine (c_ref05_made p t s w2 L F (looks_two t _ _ h) (hT.pure E12) hP2 hok hFS (fun b hb => by have := hSw b hb; have := E12.size; omega)).mono ?_
  rintro _ w5 ⟨r1, r2, rfl, hr, F5, hP5, E5, hF5⟩
  have e1 : r1 = (Sp.grow L t).1 := congrArg Prod.fst hr
  have e2 : r2 = (Sp.grow L t).2.1 := congrArg Prod.snd hr
  have hs4 : w0.heap.size ≤ w2.heap.size := E12.size
  have E05 : Ext F w0 w5 := E12.pure.trans E5
  have hF5' : ∀ b, F5 b → F b ∨ w0.heap.size ≤ b := fun b hb => (hF5 b hb).elim .inl (fun h => .inr (by omega))
  have hs2 := hs1.again E2.keptP
  have hv5 : ∀ b, F5 b → ¬ H1 b := fun b hb hH => (hF5 b hb).elim (fun h => hv b h hH) (fun h => by have := hs2.lt b hH; omega)
  refine ⟨_, _, rfl, E5.kept (fun b hH hF => hv b hF hH), fun h' => ?_, fun h' => ?_⟩
  ·have h' : (Sp.grow L t).2.1 ≠ 0 := by rw [← e2]; simpa using h'
   obtain ⟨hok5, M, hM⟩ := Sp.grow_facts t L hok
   rw [hl0]
   refine (c_ref05_cut p L.length w5 hP5 (by rw [hM]; simp)).mono ?_
   rintro _ w6 ⟨rfl, hP6, E6⟩
   have : Sp.of L t = (0, (Sp.grow L t).2.1, L) := by rw [Sp.of, if_neg (by simp [h]), if_pos h']
   refine ⟨rfl, E6.kept (fun b hH hF => hv5 b hF hH), hK _ _ _ ?_⟩
   rw [this]
   rw [hM, List.take_left] at hP6
   exact ⟨by rw [e1, e2, grow_bad_term t L h'], F5, hP6, E05.trans' E6 (fun i hi h => (hF5' i h).elim id (fun h => by omega)), hF5'⟩
  ·have h' : (Sp.grow L t).2.1 = 0 := by rw [← e2]; simpa using h'
   have : Sp.of L t = ((Sp.grow L t).1, 0, (Sp.grow L t).2.2) := by rw [Sp.of, if_neg (by simp [h]), if_neg (by simp [h'])]
   refine hK _ _ _ ?_
   rw [this]
   exact ⟨by rw [e1, e2, h'], F5, hP5, E05, hF5'⟩
end Go.Proofs
end
section
namespace Go.Sp
inductive Good : Tree → Prop
 | mk (k f t u : Int) (x : ByteArray) (ks : List Tree) (own : ownErr ⟨k, f, t, u, x, 0, 0⟩ ks.length = 0) (kids : ∀ i (hi : i < ks.length), Good ks[i]) : Good (.mk k f t u x ks)
theorem Good.inv {k f t u : Int} {x : ByteArray} {ks : List Tree} (h : Good (.mk k f t u x ks)) : plainErr ⟨k, f, t, u, x, 0, 0⟩ = 0 ∧ (ks.length : Int) = (shapeOf k).kids ∧ fieldsErr (shapeOf k) ⟨k, f, t, u, x, 0, 0⟩ = 0 ∧ ∀ i (hi : i < ks.length), Good ks[i] := by
 cases h with
 | mk _ _ _ _ _ _ own kids =>
  unfold ownErr at own
  simp only at own
  by_cases hp : plainErr ⟨k, f, t, u, x, 0, 0⟩ = 0
  ·rw [if_pos hp] at own
   by_cases hl : (ks.length : Int) ≠ (shapeOf k).kids
   ·rw [if_pos hl] at own; simp at own
   ·rw [if_neg hl] at own
    simp at own
    exact ⟨hp, by simpa using hl, own, kids⟩
  ·rw [if_neg hp, if_neg hp] at own; exact absurd own hp
end Go.Sp
end
section
namespace Go.Sp
mutual
def cnt : Tree → Nat
 | .mk _ _ _ _ _ ks => 1 + cntAll ks
def cntAll : List Tree → Nat
 | [] => 0
 | t :: ts => cnt t + cntAll ts
end
mutual
def parts (most : Int) : Tree → Int
 | .mk _ _ _ _ _ ks => partsAll most 1 ks
def partsAll (most n : Int) : List Tree → Int
 | [] => n
 | t :: ts => if n ≤ most then partsAll most (n + parts (most - n) t) ts else n
end
theorem parts_facts (t : Tree) : ∀ most : Int, 0 ≤ most → 1 ≤ parts most t ∧ parts most t ≤ most + 1 ∧ (parts most t ≤ most → (cnt t : Int) = parts most t) := by
 induction t using Tree.ind with
 | h k f tt u x ks ih =>
  have hA : ∀ (ks : List Tree), (∀ i (hi : i < ks.length), ∀ most : Int, 0 ≤ most → 1 ≤ parts most ks[i] ∧ parts most ks[i] ≤ most + 1 ∧ (parts most ks[i] ≤ most → (cnt ks[i] : Int) = parts most ks[i])) →
    ∀ most n : Int, 1 ≤ n → n ≤ most + 1 → n ≤ partsAll most n ks ∧ partsAll most n ks ≤ most + 1 ∧ (partsAll most n ks ≤ most → n + (cntAll ks : Int) = partsAll most n ks) := by
   intro ks
   induction ks with
   | nil => intro _ most n h1 h2; simp [partsAll, cntAll, h2]
   | cons t ts iht =>
    intro hh most n h1 h2
    unfold partsAll
    by_cases hn : n ≤ most
    ·rw [if_pos hn]
     have h0 := hh 0 (by simp) (most - n) (by omega)
     simp only [List.getElem_cons_zero] at h0
     have h3 := iht (fun i hi => hh (i + 1) (by simpa using hi)) most (n + parts (most - n) t) (by omega) (by omega)
     refine ⟨by omega, h3.2.1, fun h => ?_⟩
     have h4 := h3.2.2 h
     have h5 := h0.2.2 (by omega)
     simp only [cntAll]; omega
    ·rw [if_neg hn]; exact ⟨Int.le_refl _, h2, fun h => absurd h hn⟩
  intro most hm
  have := hA ks ih most 1 (by omega) (by omega)
  simp only [parts, cnt]
  refine ⟨this.1, this.2.1, fun h => ?_⟩
  have := this.2.2 h
  omega
mutual
def same : Tree → Tree → Bool
 | .mk k f t u x ks, .mk k' f' t' u' x' ks' => decide (k = k') && decide (f = f') && decide (t = t') && decide (u = u') && decide (x = x') && sameAll ks ks'
def sameAll : List Tree → List Tree → Bool
 | [], [] => true
 | t :: ts, t' :: ts' => same t t' && sameAll ts ts'
 | _, _ => false
end
end Go.Sp
end
section
open Go Go.SE
namespace Go.Proofs
attribute [local irreducible] Calls
theorem TreeAt.hst {S : Nat → Prop} {w0 w w' : World} {H H' : Nat → Prop} {s : Sl} {t : Sp.Tree} (h : TreeAt S w s t) (hs : Hst w0 H w H' w') (hd : ∀ b, S b → b < w.heap.size ∧ ¬ H b) : TreeAt S w' s t :=
 h.ext hs.ext (fun b hb hh => hs.disj (G := S) hd b hb hh)
theorem c_ref05_Parts {S : Nat → Prop} (t : Sp.Tree) : ∀ (s : Sl) (most : Int) (w0 : World), 0 ≤ most → most ≤ 1000000000 → TreeAt S w0 s t → (∀ b, S b → b < w0.heap.size) →
  Calls Try.prog 71 #[.agg (trow t s).toArray, .int .i64 most] w0 (fun e w' => ∃ r : Int, e = .returned (.int .i64 r) ∧ (r = Sp.parts most t ∧ Pure w0 w')) := by
 induction t using Sp.Tree.ind with
 | h k f t u x ks ih =>
 intro s most w0 hm0 hm hT hSw
 suffices key : ∀ K : Int → World → Prop, (∀ r w', (r = Sp.parts most (.mk k f t u x ks) ∧ Pure w0 w') → K r w') → m_ref05_Parts k f t u x s most w0 K from
  w_ref05_Parts _ _ _ _ _ _ _ w0 _ (key _ (fun _ _ h => h))
 intro K hK
 have hlen : s.len = ks.length := by cases hT; assumption
 have hfit : ks.length ≤ 9223372036854775807 := by cases hT; assumption
 unfold m_ref05_Parts
 intro H1 w1 hs1
 refine ⟨fun n i H w' => ∃ j : Nat, i = j ∧ j ≤ ks.length ∧ 1 ≤ n ∧ n ≤ most + 1 ∧ Pure w0 w' ∧ Sp.partsAll most 1 ks = Sp.partsAll most n (ks.drop j), fun _ i _ => ((ks.length : Int) - i).toNat, ⟨0, rfl, Nat.zero_le _, Int.le_refl _, by omega, hs1.first, rfl⟩, ?_⟩
 rintro n _ Hl wl hl ⟨j, rfl, hj, hn1, hn2, El, heq⟩
 unfold m_ref05_Parts_l1
 refine ⟨fun hc => ?_, fun hc => ?_⟩
 ·simp only [Bool.and_eq_true, decide_eq_true_eq] at hc
  have hlt : j < ks.length := by omega
  rw [List.drop_eq_getElem_cons hlt, Sp.partsAll, if_pos hc.2] at heq
  have hT1 := hT.pure El
  cases hT1 with
  | mk _ _ _ _ _ _ _ rs len fit row kid =>
  obtain ⟨a, hat, ha, hr⟩ := row j hlt
  refine ⟨a, hat, ?_⟩
  intro H2 w2 hs2
  have hd : ∀ b, S b → ¬ H2 b := fun b hb hh => by have := hs2.old _ hh; have := hSw b hb; omega
  refine ⟨_, _, _, _, _, rs j, hs2.ext.row hr (hd _ ha), ?_⟩
  rw [i64 (n := most - n) (by omega) (by omega)]
  refine (ih j hlt (rs j) (most - n) w2 (by omega) (by omega) ((kid j hlt).ext hs2.ext hd) (fun b hb => by have := hSw b hb; have := (El.hst hs2).size; omega)).mono ?_
  rintro _ w3 ⟨r, rfl, rfl, E3⟩
  have hpf := Sp.parts_facts ks[j] (most - n) (by omega)
  refine ⟨_, rfl, E3.keptP, ?_⟩
  rw [wrap_succ hlt (by omega), i64 (n := n + Sp.parts (most - n) ks[j]) (by omega) (by omega)]
  exact ⟨⟨j + 1, rfl, hlt, by omega, by omega, (El.hst hs2).trans E3, heq⟩, lt_dec hlt⟩
 ·intro H2 w2 hs2
  refine hK _ _ ⟨?_, El.hst hs2⟩
  rw [Sp.parts, heq]
  by_cases hj2 : j = ks.length
  ·rw [hj2, List.drop_length]; rfl
  ·have hlt : j < ks.length := by omega
   rw [List.drop_eq_getElem_cons hlt, Sp.partsAll, if_neg]
   intro h
   have : decide (n ≤ most) = true := decide_eq_true h
   have h2 : decide ((j : Int) < (s.len : Int)) = true := decide_eq_true (by omega)
   rw [this, h2] at hc; cases hc
end Go.Proofs
end
section
open Go Go.SE
namespace Go.Proofs
set_option maxRecDepth 100000
set_option maxHeartbeats 4000000
attribute [local irreducible] wpL wpX opE wpE Calls
def m_law08_wide_l1 (l1 : Sl) (n1 i1 : Int) (wl1 : World) (Kc1 : Int → Int → World → Prop) (K : Bool → World → Prop) : Prop :=
 Br ((decide (i1 < (l1.len : Int))) && (decide (i1 ≤ 12)))
  (∃ a1 : Addr, At l1 i1 6 a1 ∧
  ∃ aL aM : Int, ∃ aN aO : Int, ∃ aP : ByteArray, ∃ aQ : Sl, Row wl1 a1 [(vi aL), (vi aM), (vi aN), (vu aO), (vs aP), aQ.v] ∧
  Calls Try.prog 71 #[(.agg #[(vi aL), (vi aM), (vi aN), (vu aO), (vs aP), aQ.v]), (vi 400)] wl1 (fun e w2 => ∃ r1 : Int, e = .returned (vi r1) ∧ 
   Br (decide ((IntKind.i64.wrap (n1 + r1)) ≥ 400))
    (K true w2)
    (Kc1 (IntKind.i64.wrap (n1 + r1)) (IntKind.i64.wrap (i1 + 1)) w2)))
  (K (decide ((l1.len : Int) > 12)) wl1)
def m_law08_wide (l1 : Sl) (w0 : World) (K : Bool → World → Prop) : Prop :=
 ∃ (I1 : Int → Int → World → Prop) (mu1 : Int → Int → World → Nat), I1 0 0 w0 ∧
  ∀ (n1 i1 : Int) (wl1 : World), I1 n1 i1 wl1 → m_law08_wide_l1 l1 n1 i1 wl1 (fun y'0 y'1 w' => I1 y'0 y'1 w' ∧ mu1 y'0 y'1 w' < mu1 n1 i1 wl1) K
theorem w_law08_wide (l1 : Sl) (w0 : World) (K : Bool → World → Prop) (h : m_law08_wide l1 w0 K) :
  Calls Try.prog 33 #[l1.v] w0 (fun e w' => ∃ r2 : Bool, e = .returned (vb r2) ∧ K r2 w') := by
 unfold m_law08_wide at h
 refine calls_of_wpE (args := [l1.v]) Try.func33 rfl Try.ntmps33 (Nat.le_of_ble_eq_true rfl) (wpE_seq (rg (q0 (vb false) (wpL_nil (th_n (wpE_seq (rg (q0 (vi 0) (wpL_nil (th_n (wpE_seq ?_)))))))))))
 refine wpE_seq (rg (q0 (vi 0) (wpL_nil (th_n (wpE_block ?_)))))
 obtain ⟨I1, mu1, h0, hr⟩ := h
 refine wpE_loop (σ := Int × Int × World) (fun s ρ w => w = s.2.2 ∧ Has ρ [(0, l1.v), (3, (vi s.1)), (4, (vi s.2.1))] ∧ I1 s.1 s.2.1 s.2.2) (fun s => mu1 s.1 s.2.1 s.2.2) (0, 0, w0) ⟨rfl, Has.mk (by kernel_rfl), h0⟩ ?_
 rintro ⟨n1, i1, wl1⟩ ρ w ⟨hw, hH, hI⟩
 obtain rfl : wl1 = w := (show w = wl1 from hw).symm
 replace hH : Has ρ [(0, l1.v), (3, (vi n1)), (4, (vi i1))] := hH
 have h := hr n1 i1 wl1 hI
 clear hr h0
 unfold m_law08_wide_l1 at h
 refine wpE_has hH ?_
 clear hH hI
 refine wpE_seq (wpE_seq ?_)
 refine wpE_via (fun ρ wJ => ∃ b1'0 : Bool, ((decide (i1 < (l1.len : Int))) = b1'0) ∧ wl1 = wJ ∧ Has ρ [(0, l1.v), (3, (vi n1)), (4, (vi i1)), (12, (vb (b1'0 && (decide (i1 ≤ 12)))))]) ?_ ?_
 ·skip
  refine rg (q0 (vi i1) (q0 l1.v (q0 (vi (l1.len : Int)) (q0 (vb (decide (i1 < (l1.len : Int)))) (q0 (vb (decide (i1 < (l1.len : Int)))) ?_)))))
  rcases Bool.eq_false_or_eq_true (decide (i1 < (l1.len : Int))) with hg2 | hg2
  ·skip
   refine q1 (vi i1) (want1 rfl (yD 9 hg2)) (q1 (vb (decide (i1 ≤ 12))) (want1 rfl (yD 9 hg2)) (q2 (vb (decide (i1 ≤ 12))) (xT hg2) (wpL_nil (th_n ?_))))
   exact ⟨true, hg2, rfl, Has.mk (by kernel_rfl)⟩
  ·skip
   refine sk (yD 9 hg2) (sk (yD 9 hg2) (q2 (vb false) (xF hg2) (wpL_nil (th_n ?_))))
   exact ⟨false, hg2, rfl, Has.mk (by kernel_rfl)⟩
 ·rintro ρ w1 ⟨b1'0, he0, hw, hH⟩
  subst he0
  subst hw
  refine norm_has hH ?_
  clear hH
  refine th_n ?_
  refine wpE_cond (t := ((decide (i1 < (l1.len : Int))) && (decide (i1 ≤ 12)))) (by kernel_rfl) (fun hc1 => ?_) (fun hc1 => ?_)
  ·replace h := h.1 hc1
   refine wpE_skip (th_n (wpE_seq (wpE_block (wpE_seq (rg (q0 (vi n1) (q0 l1.v (q0 (vi i1) ?_))))))))
   obtain ⟨a1, hv2, h⟩ := h
   refine q2 (vp (some a1)) (x_indexAddr (s := l1) (k := .i64) (i := i1) (by kernel_rfl) (by kernel_rfl) (Try.runUnderlying22 _) (Try.sizeOf116 _) hv2) ?_
   obtain ⟨aL, aM, aN, aO, aP, aQ, hv1, h⟩ := h
   refine q2 (.agg #[(vi aL), (vi aM), (vi aN), (vu aO), (vs aP), aQ.v]) (x_loadA (a := a1) (vs := [(vi aL), (vi aM), (vi aN), (vu aO), (vs aP), aQ.v]) (by kernel_rfl) (Try.isAgg116 _) (Try.sizeOf116 _) rfl hv1) ?_
   refine st_call (want0 rfl) (xc Try.call71) (h.mono ?_)
   rintro e w2 ⟨r1, rfl, h⟩
   refine ⟨_, rfl, ?_⟩
   refine q0 (vi (IntKind.i64.wrap (n1 + r1))) (q0 (vi (IntKind.i64.wrap (n1 + r1))) (wpL_nil (th_n (wpE_seq (rg (q0 (vi (IntKind.i64.wrap (n1 + r1))) (q0 (vb (decide ((IntKind.i64.wrap (n1 + r1)) ≥ 400))) (wpL_nil (th_n ?_)))))))))
   refine wpE_cond (t := (decide ((IntKind.i64.wrap (n1 + r1)) ≥ 400))) (by kernel_rfl) (fun hc2 => ?_) (fun hc2 => ?_)
   ·replace h := h.1 hc2
    refine wpE_seq (rg (q0 (vb true) (wpL_nil (th_n (wpE_ret (bl_r (th_r (th_r (bl_r (th_r (res1 (.inl rfl) Try.results33 (v := (vb true)) (by kernel_rfl) ?_)))))))))))
    exact ⟨true, rfl, h⟩
   ·replace h := h.2 hc2
    refine wpE_skip (bl_n (th_n (rg (q0 (vi i1) (q0 (vi (IntKind.i64.wrap (i1 + 1))) (q0 (vi (IntKind.i64.wrap (i1 + 1))) (wpL_nil (th_n ?_))))))))
    exact ⟨((IntKind.i64.wrap (n1 + r1)), (IntKind.i64.wrap (i1 + 1)), w2), ⟨rfl, Has.mk (by kernel_rfl), h.1⟩, h.2⟩
  ·replace h := h.2 hc1
   refine wpE_exit (th_x (th_x (bl_eq (th_n (wpE_seq (rg (q0 l1.v (q0 (vi (l1.len : Int)) (q0 (vb (decide ((l1.len : Int) > 12))) (q0 (vb (decide ((l1.len : Int) > 12))) (wpL_nil ?_)))))))))))
   refine th_n (wpE_ret (res1 (.inl rfl) Try.results33 (v := (vb (decide ((l1.len : Int) > 12)))) (by kernel_rfl) ?_))
   exact ⟨(decide ((l1.len : Int) > 12)), rfl, h⟩
def s_law08_num (e1 : Int) : Int :=
 e1
theorem pw_law08_num (e1 : Int) (w0 : World) :
  Calls Try.prog 43 #[(vi e1)] w0 (fun e w' => (e = .returned (vi e1)) ∧ Pure w0 w') := by
 refine calls_of_wpE (args := [(vi e1)]) Try.func43 rfl Try.ntmps43 (Nat.le_of_ble_eq_true rfl) (wpE_seq (rg (q0 (vi 0) (wpL_nil (th_n (wpE_seq (rg (q0 (vi e1) (q0 (vi e1) (wpL_nil (th_n ?_)))))))))))
 refine wpE_ret (res1 (.inl rfl) Try.results43 (v := (vi e1)) (by kernel_rfl) ?_)
 exact ⟨by kernel_rfl, Ext.refl _⟩
theorem p_law08_num (e1 : Int) (w0 : World) : Calls Try.prog 43 #[(.int .i64 e1)] w0 (fun e w' => e = .returned (.int .i64 (s_law08_num e1)) ∧ Pure w0 w') := pw_law08_num e1 w0
def m_law08_live_j4 (r2 : Option Addr) (x4 : Bool) (w0 : World) (H : Nat → Prop) (w : World) (K : Bool → World → Prop) : Prop :=
 Br x4
  (Calls Try.prog 37 #[(vp r2), (vi 99)] w (fun e w29 => ∃ r26 : Int, e = .returned (vi r26) ∧ 
   Kept H w w29 ∧
   ∀ (w30 : World), Hst w0 H w29 H w30 →
   K (r26 == 51) w30))
  (K false w)
def m_law08_live_j3 (r2 : Option Addr) (r25 : Int) (x3 : Bool) (w0 : World) (H : Nat → Prop) (w : World) (K : Bool → World → Prop) : Prop :=
 Br (x3 && (r25 == 0))
  (∀ (H7 : Nat → Prop) (w28 : World), Hst w0 H w H7 w28 →
  Calls Try.prog 90 #[(vp r2)] w28 (fun e w31 => ∃ r27 : Sl, e = .returned r27.v ∧ 
   Kept H7 w28 w31 ∧
   m_law08_live_j4 r2 (((r27.len : Int) : Int) == 2) w0 H7 w31 K))
  (∀ (H7 : Nat → Prop) (w28 : World), Hst w0 H w H7 w28 →
  m_law08_live_j4 r2 false w0 H7 w28 K)
def m_law08_live_j2 (r2 : Option Addr) (r3 r25 : Int) (x2 : Bool) (w0 : World) (H : Nat → Prop) (w : World) (K : Bool → World → Prop) : Prop :=
 Br x2
  (Calls Try.prog 48 #[(vp r2), (vi r3)] w (fun e w32 => ∃ r28 : Bool, e = .returned (vb r28) ∧ 
   Kept H w w32 ∧
   m_law08_live_j3 r2 r25 r28 w0 H w32 K))
  (m_law08_live_j3 r2 r25 false w0 H w K)
def m_law08_live_j1 (r2 : Option Addr) (r3 r15 r25 : Int) (x1 : Bool) (w0 : World) (H : Nat → Prop) (w : World) (K : Bool → World → Prop) : Prop :=
 Br x1
  (Calls Try.prog 48 #[(vp r2), (vi r15)] w (fun e w33 => ∃ r29 : Bool, e = .returned (vb r29) ∧ 
   Kept H w w33 ∧
   m_law08_live_j2 r2 r3 r25 (!r29) w0 H w33 K))
  (m_law08_live_j2 r2 r3 r25 false w0 H w K)
def m_law08_live  (w0 : World) (K : Bool → World → Prop) : Prop :=
 Calls Try.prog 72 #[] w0 (fun e w1 => ∃ r1 : Option Addr, e = .returned (vp r1) ∧ 
  Kept None w0 w1 ∧
  Calls Try.prog 36 #[(vp r1)] w1 (fun e w2 => ∃ r2 : Option Addr, e = .returned (vp r2) ∧ 
   Kept None w1 w2 ∧
   Br ((Option.isNone r1) || (Option.isNone r2))
    (∀ (H1 : Nat → Prop) (w3 : World), Hst w0 None w2 H1 w3 →
    K false w3)
    (∀ (H1 : Nat → Prop) (w3 : World), Hst w0 None w2 H1 w3 →
    Calls Try.prog 84 #[(vp r1), (vu 1)] w3 (fun e w4 => ∃ r3 r4 : Int, e = .returned (.tuple #[(vi r3), (vi r4)]) ∧ 
     Kept H1 w3 w4 ∧
     Calls Try.prog 85 #[(vp r1), (vi 2)] w4 (fun e w5 => ∃ r5 r6 : Int, e = .returned (.tuple #[(vi r5), (vi r6)]) ∧ 
      Kept H1 w4 w5 ∧
      Calls Try.prog 86 #[(vp r1), (vi r3), (vi r5)] w5 (fun e w6 => ∃ r7 r8 : Int, e = .returned (.tuple #[(vi r7), (vi r8)]) ∧ 
       Kept H1 w5 w6 ∧
       Calls Try.prog 87 #[(vp r1), (vi 0), (vi r7)] w6 (fun e w7 => ∃ r9 r10 : Int, e = .returned (.tuple #[(vi r9), (vi r10)]) ∧ 
        Kept H1 w6 w7 ∧
        Calls Try.prog 88 #[(vp r1), (vi r3)] w7 (fun e w8 => ∃ r11 r12 : Int, e = .returned (.tuple #[(vi r11), (vi r12)]) ∧ 
         Kept H1 w7 w8 ∧
         Calls Try.prog 89 #[(vp r1), (vi 0)] w8 (fun e w9 => ∃ r13 r14 : Int, e = .returned (.tuple #[(vi r13), (vi r14)]) ∧ 
          Kept H1 w8 w9 ∧
          Calls Try.prog 87 #[(vp r1), (vi 0), (vi r3)] w9 (fun e w10 => ∃ r15 r16 : Int, e = .returned (.tuple #[(vi r15), (vi r16)]) ∧ 
           Kept H1 w9 w10 ∧
           Calls Try.prog 37 #[(vp r2), (vi r9)] w10 (fun e w11 => ∃ r17 : Int, e = .returned (vi r17) ∧ 
            Kept H1 w10 w11 ∧
            Calls Try.prog 40 #[(vp r2), (vi r11)] w11 (fun e w12 => ∃ r18 : Sl, ∃ r19 : Bool, e = .returned (.tuple #[r18.v, (vb r19)]) ∧ 
             Kept H1 w11 w12 ∧
             ∀ (p1 : Addr) (w13 : World), New w12 (.cells #[(vi r9)] 41) p1 w13 →
             Calls Try.prog 41 #[(vp r1), (Sl.mk (some p1) 1 1).v, r18.v, (vi r11)] w13 (fun e w14 => ∃ r20 r21 : Int, e = .returned (.tuple #[(vi r20), (vi r21)]) ∧ 
              Kept H1 w13 w14 ∧
              Calls Try.prog 46 #[(vp r2), (vi r15)] w14 (fun e w15 => ∃ r22 : Bool, e = .returned (vb r22) ∧ 
               Kept H1 w14 w15 ∧
               Calls Try.prog 37 #[(vp r2), (vi r13)] w15 (fun e w16 => ∃ r23 : Int, e = .returned (vi r23) ∧ 
                Kept H1 w15 w16 ∧
                Calls Try.prog 41 #[(vp r1), Sl.nil.v, Sl.nil.v, (vi r11)] w16 (fun e w17 => ∃ r24 r25 : Int, e = .returned (.tuple #[(vi r24), (vi r25)]) ∧ 
                 Kept H1 w16 w17 ∧
                 ∀ y1 : Bool, y1 = (((((r17 == 0) && (r23 == 0)) && (decide ((r18.len : Int) > 0))) && r19) && (r20 == 0)) →
                 Br (y1 && (!r22))
                  (∀ (H6 : Nat → Prop) (w27 : World), Hst w0 H1 w17 H6 w27 →
                  Calls Try.prog 46 #[(vp r2), (vi r15)] w27 (fun e w34 => ∃ r30 : Bool, e = .returned (vb r30) ∧ 
                   Kept H6 w27 w34 ∧
                   m_law08_live_j1 r2 r3 r15 r25 r30 w0 H6 w34 K))
                  (∀ (H6 : Nat → Prop) (w27 : World), Hst w0 H1 w17 H6 w27 →
                  m_law08_live_j1 r2 r3 r15 r25 false w0 H6 w27 K)))))))))))))))))
theorem w_law08_live  (w0 : World) (K : Bool → World → Prop) (h : m_law08_live  w0 K) :
  Calls Try.prog 34 #[] w0 (fun e w' => ∃ r31 : Bool, e = .returned (vb r31) ∧ K r31 w') := by
 unfold m_law08_live at h
 refine calls_of_wpE (args := []) Try.func34 rfl Try.ntmps34 (Nat.le_of_ble_eq_true rfl) ?_
 have hs := Hst.start w0
 have hb := HB.nil None w0
 refine wpE_seq (rg (q0 (vb false) (wpL_nil (th_n (wpE_seq (rg ?_))))))
 refine st_call (want0 rfl) (xc Try.call72) (h.mono ?_)
 rintro e w1 ⟨r1, rfl, hk, h⟩
 refine ⟨_, rfl, ?_⟩
 obtain ⟨hs, hb⟩ := hk.hh hs hb
 refine q0 (vp r1) (wpL_nil (th_n (wpE_seq (rg (q0 (vp r1) ?_)))))
 refine st_call (want0 rfl) (xc Try.call36) (h.mono ?_)
 rintro e w2 ⟨r2, rfl, hk, h⟩
 refine ⟨_, rfl, ?_⟩
 obtain ⟨hs, hb⟩ := hk.hh hs hb
 refine q0 (vp r2) (wpL_nil (th_n (wpE_seq (wpE_seq ?_))))
 refine wpE_via (fun ρ wJ => ∃ b1'0 : Bool, ∃ HJ : Nat → Prop, ((Option.isNone r1) = b1'0) ∧ Hst w0 None w2 HJ wJ ∧ HB HJ wJ [] ∧ Has ρ [(1, (vp r1)), (2, (vp r2)), (34, (vb (b1'0 || (Option.isNone r2))))]) ?_ ?_
 ·skip
  refine rg (q0 (vp r1) (q2 (vb (Option.isNone r1)) (x_ptreq (by kernel_rfl) rfl Try.underlying25) (q0 (vb (Option.isNone r1)) ?_)))
  rcases Bool.eq_false_or_eq_true (Option.isNone r1) with hg2 | hg2
  ·skip
   refine sk (yD 31 hg2) (sk (yD 31 hg2) (q2 (vb true) (xT hg2) (wpL_nil (th_n ?_))))
   exact ⟨true, _, hg2, hs, hb, Has.mk (by kernel_rfl)⟩
  ·skip
   refine q1 (vp r2) (want1 rfl (yD 31 hg2)) (stp (v := (vb (Option.isNone r2))) (want1 rfl (yD 31 hg2)) (x_ptreq (by kernel_rfl) rfl Try.underlying62) (q2 (vb (Option.isNone r2)) (xF hg2) (wpL_nil (th_n ?_))))
   exact ⟨false, _, hg2, hs, hb, Has.mk (by kernel_rfl)⟩
 ·clear hs hb
  rintro ρ w3 ⟨b1'0, H1, he0, hs, hb, hH⟩
  subst he0
  refine norm_has hH ?_
  clear hH
  refine th_n ?_
  refine wpE_cond (t := ((Option.isNone r1) || (Option.isNone r2))) (by kernel_rfl) (fun hc1 => ?_) (fun hc1 => ?_)
  ·replace h := h.1 hc1
   refine wpE_seq (rg (q0 (vb false) (wpL_nil (th_n (wpE_ret (th_r ?_))))))
   replace h := h H1 w3 hs
   replace hs := hs.here
   refine res1 (.inl rfl) Try.results34 (v := (vb false)) (by kernel_rfl) ?_
   exact ⟨false, rfl, h⟩
  ·replace h := h.2 hc1
   refine wpE_skip (th_n (wpE_seq (rg (q0 (vp r1) ?_))))
   replace h := h H1 w3 hs
   replace hs := hs.here
   refine st_call (want0 rfl) (xc Try.call84) (h.mono ?_)
   rintro e w4 ⟨r3, r4, rfl, hk, h⟩
   refine ⟨_, rfl, ?_⟩
   obtain ⟨hs, hb⟩ := hk.hh hs hb
   refine q0 (.tuple #[(vi r3), (vi r4)]) (q0 (vi r3) (q0 (vi r4) (q0 (vi r3) (q0 (vi r4) (wpL_nil (th_n (wpE_seq (rg (q0 (vp r1) ?_)))))))))
   refine st_call (want0 rfl) (xc Try.call85) (h.mono ?_)
   rintro e w5 ⟨r5, r6, rfl, hk, h⟩
   refine ⟨_, rfl, ?_⟩
   obtain ⟨hs, hb⟩ := hk.hh hs hb
   refine q0 (.tuple #[(vi r5), (vi r6)]) (q0 (vi r5) (q0 (vi r6) (q0 (vi r5) (q0 (vi r6) (wpL_nil (th_n (wpE_seq (rg (q0 (vp r1) (q0 (vi r3) (q0 (vi r5) ?_)))))))))))
   refine st_call (want0 rfl) (xc Try.call86) (h.mono ?_)
   rintro e w6 ⟨r7, r8, rfl, hk, h⟩
   refine ⟨_, rfl, ?_⟩
   obtain ⟨hs, hb⟩ := hk.hh hs hb
   refine q0 (.tuple #[(vi r7), (vi r8)]) (q0 (vi r7) (q0 (vi r8) (q0 (vi r7) (q0 (vi r8) (wpL_nil (th_n (wpE_seq (rg (q0 (vp r1) (q0 (vi r7) ?_))))))))))
   refine st_call (want0 rfl) (xc Try.call87) (h.mono ?_)
   rintro e w7 ⟨r9, r10, rfl, hk, h⟩
   refine ⟨_, rfl, ?_⟩
   obtain ⟨hs, hb⟩ := hk.hh hs hb
   refine q0 (.tuple #[(vi r9), (vi r10)]) (q0 (vi r9) (q0 (vi r10) (q0 (vi r9) (q0 (vi r10) (wpL_nil (th_n (wpE_seq (rg (q0 (vp r1) (q0 (vi r3) ?_))))))))))
   refine st_call (want0 rfl) (xc Try.call88) (h.mono ?_)
   rintro e w8 ⟨r11, r12, rfl, hk, h⟩
   refine ⟨_, rfl, ?_⟩
   obtain ⟨hs, hb⟩ := hk.hh hs hb
   refine q0 (.tuple #[(vi r11), (vi r12)]) (q0 (vi r11) (q0 (vi r12) (q0 (vi r11) (q0 (vi r12) (wpL_nil (th_n (wpE_seq (rg (q0 (vp r1) ?_)))))))))
   refine st_call (want0 rfl) (xc Try.call89) (h.mono ?_)
   rintro e w9 ⟨r13, r14, rfl, hk, h⟩
   refine ⟨_, rfl, ?_⟩
   obtain ⟨hs, hb⟩ := hk.hh hs hb
   refine q0 (.tuple #[(vi r13), (vi r14)]) (q0 (vi r13) (q0 (vi r14) (q0 (vi r13) (q0 (vi r14) (wpL_nil (th_n (wpE_seq (rg (q0 (vp r1) (q0 (vi r3) ?_))))))))))
   refine st_call (want0 rfl) (xc Try.call87) (h.mono ?_)
   rintro e w10 ⟨r15, r16, rfl, hk, h⟩
   refine ⟨_, rfl, ?_⟩
   obtain ⟨hs, hb⟩ := hk.hh hs hb
   refine q0 (.tuple #[(vi r15), (vi r16)]) (q0 (vi r15) (q0 (vi r16) (q0 (vi r15) (q0 (vi r16) (wpL_nil (th_n (wpE_seq (rg (q0 (vp r2) (q0 (vi r9) ?_))))))))))
   refine st_call (want0 rfl) (xc Try.call37) (h.mono ?_)
   rintro e w11 ⟨r17, rfl, hk, h⟩
   refine ⟨_, rfl, ?_⟩
   obtain ⟨hs, hb⟩ := hk.hh hs hb
   refine q0 (vi r17) (wpL_nil (th_n (wpE_seq (rg (q0 (vp r2) (q0 (vi r11) ?_))))))
   refine st_call (want0 rfl) (xc Try.call40) (h.mono ?_)
   rintro e w12 ⟨r18, r19, rfl, hk, h⟩
   refine ⟨_, rfl, ?_⟩
   obtain ⟨hs, hb⟩ := hk.hh hs hb
   refine q0 (.tuple #[r18.v, (vb r19)]) (q0 r18.v (q0 (vb r19) (q0 r18.v (q0 (vb r19) (wpL_nil (th_n (wpE_seq (rg (q0 (vp r1) (q0 (vi r9) (st_new (O := (.cells #[(vi r9)] 41)) (fun p => (Sl.mk (some p) 1 1).v) (want0 rfl) (x_buildSlice (vs := #[(0, (vi r9))]) (by kernel_rfl) (by kernel_rfl)) ?_)))))))))))
   intro p1 w13 hn1
   replace h := h p1 w13 hn1
   replace hs := hs.again (Ext.new (F := None) hn1).keptP
   replace hb := hb.kept (Ext.new (F := None) hn1).keptP
   refine q0 r18.v (q0 (vi r11) ?_)
   refine st_call (want0 rfl) (xc Try.call41) (h.mono ?_)
   rintro e w14 ⟨r20, r21, rfl, hk, h⟩
   refine ⟨_, rfl, ?_⟩
   obtain ⟨hs, hb⟩ := hk.hh hs hb
   refine q0 (.tuple #[(vi r20), (vi r21)]) (q0 (vi r20) (q0 (vi r21) (q0 (vi r20) (q0 (vi r21) (wpL_nil (th_n (wpE_seq (rg (q0 (vp r2) (q0 (vi r15) ?_))))))))))
   refine st_call (want0 rfl) (xc Try.call46) (h.mono ?_)
   rintro e w15 ⟨r22, rfl, hk, h⟩
   refine ⟨_, rfl, ?_⟩
   obtain ⟨hs, hb⟩ := hk.hh hs hb
   refine q0 (vb r22) (wpL_nil (th_n (wpE_seq (rg (q0 (vp r2) (q0 (vi r13) ?_))))))
   refine st_call (want0 rfl) (xc Try.call37) (h.mono ?_)
   rintro e w16 ⟨r23, rfl, hk, h⟩
   refine ⟨_, rfl, ?_⟩
   obtain ⟨hs, hb⟩ := hk.hh hs hb
   refine q0 (vi r23) (wpL_nil (th_n (wpE_seq (rg (q0 (vp r1) (q0 (vi r11) ?_))))))
   refine st_call (want0 rfl) (xc Try.call41) (h.mono ?_)
   rintro e w17 ⟨r24, r25, rfl, hk, h⟩
   refine ⟨_, rfl, ?_⟩
   obtain ⟨hs, hb⟩ := hk.hh hs hb
   refine q0 (.tuple #[(vi r24), (vi r25)]) (q0 (vi r24) (q0 (vi r25) (q0 (vi r24) (q0 (vi r25) (wpL_nil (th_n (wpE_seq (rg (q0 (vi r17) ?_)))))))))
   refine st_call (want0 rfl) (xc Try.call43) ((p_law08_num r17 w17).mono ?_)
   rintro e w18 ⟨he, hE⟩
   refine ⟨(vi r17), he.trans (by kernel_rfl), ?_⟩
   replace hs := hs.pure hE
   replace hb := hb.pure hE
   clear hE he
   refine q0 (vb (r17 == 0)) (q0 (vb (r17 == 0)) ?_)
   refine wpL_join 4 (fun ρ wJ => ∃ b2'0 : Bool, ∃ HJ : Nat → Prop, ((r17 == 0) = b2'0) ∧ Hst w0 H1 w17 HJ wJ ∧ HB HJ wJ [] ∧ Has ρ [(2, (vp r2)), (3, (vi r3)), (15, (vi r15)), (18, r18.v), (19, (vb r19)), (20, (vi r20)), (22, (vb r22)), (25, (vi r25)), (112, (vb (b2'0 && (r23 == 0))))]) ?_ ?_
   ·clear hs hb
    rintro ρ w20 ⟨b2'0, H2, he0, hs, hb, hH⟩
    subst he0
    refine wpL_has hH ?_
    clear hH
    refine q0 (vb ((r17 == 0) && (r23 == 0))) ?_
    refine wpL_join 4 (fun ρ wJ => ∃ b3'0 : Bool, ∃ HJ : Nat → Prop, (((r17 == 0) && (r23 == 0)) = b3'0) ∧ Hst w0 H1 w17 HJ wJ ∧ HB HJ wJ [] ∧ Has ρ [(2, (vp r2)), (3, (vi r3)), (15, (vi r15)), (19, (vb r19)), (20, (vi r20)), (22, (vb r22)), (25, (vi r25)), (117, (vb (b3'0 && (decide ((r18.len : Int) > 0)))))]) ?_ ?_
    ·clear hs hb
     rintro ρ w22 ⟨b3'0, H3, he0, hs, hb, hH⟩
     subst he0
     refine wpL_has hH ?_
     clear hH
     refine q0 (vb (((r17 == 0) && (r23 == 0)) && (decide ((r18.len : Int) > 0)))) ?_
     refine wpL_join 2 (fun ρ wJ => ∃ b4'0 : Bool, ∃ HJ : Nat → Prop, ((((r17 == 0) && (r23 == 0)) && (decide ((r18.len : Int) > 0))) = b4'0) ∧ Hst w0 H1 w17 HJ wJ ∧ HB HJ wJ [] ∧ Has ρ [(2, (vp r2)), (3, (vi r3)), (15, (vi r15)), (20, (vi r20)), (22, (vb r22)), (25, (vi r25)), (120, (vb (b4'0 && r19)))]) ?_ ?_
     ·clear hs hb
      rintro ρ w23 ⟨b4'0, H4, he0, hs, hb, hH⟩
      subst he0
      refine wpL_has hH ?_
      clear hH
      refine q0 (vb ((((r17 == 0) && (r23 == 0)) && (decide ((r18.len : Int) > 0))) && r19)) ?_
      refine wpL_join 4 (fun ρ wJ => ∃ b5'0 y1 : Bool, ∃ HJ : Nat → Prop, (((((r17 == 0) && (r23 == 0)) && (decide ((r18.len : Int) > 0))) && r19) = b5'0) ∧ (y1 = (b5'0 && (r20 == 0))) ∧ Hst w0 H1 w17 HJ wJ ∧ HB HJ wJ [] ∧ Has ρ [(2, (vp r2)), (3, (vi r3)), (15, (vi r15)), (22, (vb r22)), (25, (vi r25)), (125, (vb y1))]) ?_ ?_
      ·clear hs hb
       rintro ρ w25 ⟨b5'0, y1, H5, he0, hy1, hs, hb, hH⟩
       subst he0
       replace h := h y1 hy1
       refine wpL_has hH ?_
       clear hH
       refine q0 (vb y1) ?_
       refine wpL_join 3 (fun ρ wJ => ∃ b6'0 : Bool, ∃ HJ : Nat → Prop, (y1 = b6'0) ∧ Hst w0 H1 w17 HJ wJ ∧ HB HJ wJ [] ∧ Has ρ [(2, (vp r2)), (3, (vi r3)), (15, (vi r15)), (25, (vi r25)), (129, (vb (b6'0 && (!r22))))]) ?_ ?_
       ·clear hs hb
        rintro ρ w27 ⟨b6'0, H6, he0, hs, hb, hH⟩
        subst he0
        refine wpL_has hH ?_
        clear hH
        refine q0 (vb (y1 && (!r22))) ?_
        refine wpL_join 4 (fun ρ w => ∃ x1 : Bool, ∃ H : Nat → Prop, Has ρ [(2, (vp r2)), (3, (vi r3)), (15, (vi r15)), (25, (vi r25)), (134, (vb x1))] ∧ Hst w0 H w H w ∧ HB H w [] ∧ m_law08_live_j1 r2 r3 r15 r25 x1 w0 H w K) ?_ ?_
        ·clear h hs hb
         rintro ρ w ⟨x1, H, hH, hs, hb, h⟩
         unfold m_law08_live_j1 at h
         refine wpL_has hH ?_
         clear hH
         refine q0 (vb x1) ?_
         refine wpL_join 5 (fun ρ w => ∃ x2 : Bool, ∃ H : Nat → Prop, Has ρ [(2, (vp r2)), (3, (vi r3)), (25, (vi r25)), (140, (vb x2))] ∧ Hst w0 H w H w ∧ HB H w [] ∧ m_law08_live_j2 r2 r3 r25 x2 w0 H w K) ?_ ?_
         ·clear h hs hb
          rintro ρ w ⟨x2, H, hH, hs, hb, h⟩
          unfold m_law08_live_j2 at h
          refine wpL_has hH ?_
          clear hH
          refine q0 (vb x2) ?_
          refine wpL_join 4 (fun ρ w => ∃ x3 : Bool, ∃ H : Nat → Prop, Has ρ [(2, (vp r2)), (25, (vi r25)), (145, (vb x3))] ∧ Hst w0 H w H w ∧ HB H w [] ∧ m_law08_live_j3 r2 r25 x3 w0 H w K) ?_ ?_
          ·clear h hs hb
           rintro ρ w ⟨x3, H, hH, hs, hb, h⟩
           unfold m_law08_live_j3 at h
           refine wpL_has hH ?_
           clear hH
           refine q0 (vb x3) ?_
           refine wpL_join 3 (fun ρ wJ => ∃ b7'0 : Bool, ∃ HJ : Nat → Prop, (x3 = b7'0) ∧ Hst w0 H w HJ wJ ∧ HB HJ wJ [] ∧ Has ρ [(2, (vp r2)), (149, (vb (b7'0 && (r25 == 0))))]) ?_ ?_
           ·clear hs hb
            rintro ρ w28 ⟨b7'0, H7, he0, hs, hb, hH⟩
            subst he0
            refine wpL_has hH ?_
            clear hH
            refine q0 (vb (x3 && (r25 == 0))) ?_
            refine wpL_join 5 (fun ρ w => ∃ x4 : Bool, ∃ H : Nat → Prop, Has ρ [(2, (vp r2)), (155, (vb x4))] ∧ Hst w0 H w H w ∧ HB H w [] ∧ m_law08_live_j4 r2 x4 w0 H w K) ?_ ?_
            ·clear h hs hb
             rintro ρ w ⟨x4, H, hH, hs, hb, h⟩
             unfold m_law08_live_j4 at h
             refine wpL_has hH ?_
             clear hH
             refine q0 (vb x4) ?_
             rcases Bool.eq_false_or_eq_true x4 with hg15 | hg15
             ·replace h := h.1 hg15
              refine q1 (vp r2) (want1 rfl (yD 156 hg15)) ?_
              refine st_call (want1 rfl (yD 156 hg15)) (xc Try.call37) (h.mono ?_)
              rintro e w29 ⟨r26, rfl, hk, h⟩
              refine ⟨_, rfl, ?_⟩
              obtain ⟨hs, hb⟩ := hk.hh hs hb
              refine st_call (want1 rfl (yD 156 hg15)) (xc Try.call43) ((p_law08_num r26 w29).mono ?_)
              rintro e w30 ⟨he, hE⟩
              refine ⟨(vi r26), he.trans (by kernel_rfl), ?_⟩
              replace hs := hs.pure hE
              replace hb := hb.pure hE
              clear hE he
              refine q1 (vb (r26 == 51)) (want1 rfl (yD 156 hg15)) (q2 (vb (r26 == 51)) (xT hg15) (q0 (vb (r26 == 51)) (wpL_nil (th_n (wpE_ret ?_)))))
              replace h := h w30 hs
              replace hs := hs.here
              refine res1 (.inl rfl) Try.results34 (v := (vb (r26 == 51))) (by kernel_rfl) ?_
              exact ⟨(r26 == 51), rfl, h⟩
             ·replace h := h.2 hg15
              refine sk (yD 156 hg15) (sk (yD 156 hg15) (sk (yD 156 hg15) (sk (yD 156 hg15) (q2 (vb false) (xF hg15) (q0 (vb false) (wpL_nil (th_n (wpE_ret (res1 (.inl rfl) Try.results34 (v := (vb false)) (by kernel_rfl) ?_)))))))))
              exact ⟨false, rfl, h⟩
            ·skip
             rcases Bool.eq_false_or_eq_true (x3 && (r25 == 0)) with hg16 | hg16
             ·replace h := h.1 hg16
              refine q1 (vp r2) (want1 rfl (yD 150 hg16)) ?_
              replace h := h H7 w28 hs
              replace hs := hs.here
              refine st_call (want1 rfl (yD 150 hg16)) (xc Try.call90) (h.mono ?_)
              rintro e w31 ⟨r27, rfl, hk, h⟩
              refine ⟨_, rfl, ?_⟩
              obtain ⟨hs, hb⟩ := hk.hh hs hb
              refine q1 (vi (r27.len : Int)) (want1 rfl (yD 150 hg16)) (q1 (vb (((r27.len : Int) : Int) == 2)) (want1 rfl (yD 150 hg16)) (q2 (vb (((r27.len : Int) : Int) == 2)) (xT hg16) (wpL_nil ?_)))
              exact ⟨(((r27.len : Int) : Int) == 2), H7, Has.mk (by kernel_rfl), hs, hb, h⟩
             ·replace h := h.2 hg16
              refine sk (yD 150 hg16) (sk (yD 150 hg16) (sk (yD 150 hg16) (sk (yD 150 hg16) (q2 (vb false) (xF hg16) (wpL_nil ?_)))))
              replace h := h H7 w28 hs
              replace hs := hs.here
              exact ⟨false, H7, Has.mk (by kernel_rfl), hs, hb, h⟩
           ·skip
            rcases Bool.eq_false_or_eq_true x3 with hg14 | hg14
            ·skip
             refine q1 (vi r25) (want1 rfl (yD 146 hg14)) (q1 (vb (r25 == 0)) (want1 rfl (yD 146 hg14)) (q2 (vb (r25 == 0)) (xT hg14) (wpL_nil ?_)))
             exact ⟨true, _, hg14, hs, hb, Has.mk (by kernel_rfl)⟩
            ·skip
             refine sk (yD 146 hg14) (sk (yD 146 hg14) (q2 (vb false) (xF hg14) (wpL_nil ?_)))
             exact ⟨false, _, hg14, hs, hb, Has.mk (by kernel_rfl)⟩
          ·skip
           rcases Bool.eq_false_or_eq_true x2 with hg17 | hg17
           ·replace h := h.1 hg17
            refine q1 (vp r2) (want1 rfl (yD 141 hg17)) (q1 (vi r3) (want1 rfl (yD 141 hg17)) ?_)
            refine st_call (want1 rfl (yD 141 hg17)) (xc Try.call48) (h.mono ?_)
            rintro e w32 ⟨r28, rfl, hk, h⟩
            refine ⟨_, rfl, ?_⟩
            obtain ⟨hs, hb⟩ := hk.hh hs hb
            refine q2 (vb r28) (xT hg17) (wpL_nil ?_)
            exact ⟨r28, H, Has.mk (by kernel_rfl), hs, hb, h⟩
           ·replace h := h.2 hg17
            refine sk (yD 141 hg17) (sk (yD 141 hg17) (sk (yD 141 hg17) (q2 (vb false) (xF hg17) (wpL_nil ?_))))
            exact ⟨false, H, Has.mk (by kernel_rfl), hs, hb, h⟩
         ·skip
          rcases Bool.eq_false_or_eq_true x1 with hg18 | hg18
          ·replace h := h.1 hg18
           refine q1 (vp r2) (want1 rfl (yD 135 hg18)) (q1 (vi r15) (want1 rfl (yD 135 hg18)) ?_)
           refine st_call (want1 rfl (yD 135 hg18)) (xc Try.call48) (h.mono ?_)
           rintro e w33 ⟨r29, rfl, hk, h⟩
           refine ⟨_, rfl, ?_⟩
           obtain ⟨hs, hb⟩ := hk.hh hs hb
           refine q1 (vb (!r29)) (want1 rfl (yD 135 hg18)) (q2 (vb (!r29)) (xT hg18) (wpL_nil ?_))
           exact ⟨(!r29), H, Has.mk (by kernel_rfl), hs, hb, h⟩
          ·replace h := h.2 hg18
           refine sk (yD 135 hg18) (sk (yD 135 hg18) (sk (yD 135 hg18) (sk (yD 135 hg18) (q2 (vb false) (xF hg18) (wpL_nil ?_)))))
           exact ⟨false, H, Has.mk (by kernel_rfl), hs, hb, h⟩
        ·skip
         rcases Bool.eq_false_or_eq_true (y1 && (!r22)) with hg19 | hg19
         ·replace h := h.1 hg19
          refine q1 (vp r2) (want1 rfl (yD 130 hg19)) (q1 (vi r15) (want1 rfl (yD 130 hg19)) ?_)
          replace h := h H6 w27 hs
          replace hs := hs.here
          refine st_call (want1 rfl (yD 130 hg19)) (xc Try.call46) (h.mono ?_)
          rintro e w34 ⟨r30, rfl, hk, h⟩
          refine ⟨_, rfl, ?_⟩
          obtain ⟨hs, hb⟩ := hk.hh hs hb
          refine q2 (vb r30) (xT hg19) (wpL_nil ?_)
          exact ⟨r30, H6, Has.mk (by kernel_rfl), hs, hb, h⟩
         ·replace h := h.2 hg19
          refine sk (yD 130 hg19) (sk (yD 130 hg19) (sk (yD 130 hg19) (q2 (vb false) (xF hg19) (wpL_nil ?_))))
          replace h := h H6 w27 hs
          replace hs := hs.here
          exact ⟨false, H6, Has.mk (by kernel_rfl), hs, hb, h⟩
       ·skip
        rcases Bool.eq_false_or_eq_true y1 with hg12 | hg12
        ·skip
         refine q1 (vb r22) (want1 rfl (yD 126 hg12)) (q1 (vb (!r22)) (want1 rfl (yD 126 hg12)) (q2 (vb (!r22)) (xT hg12) (wpL_nil ?_)))
         exact ⟨true, _, hg12, hs, hb, Has.mk (by kernel_rfl)⟩
        ·skip
         refine sk (yD 126 hg12) (sk (yD 126 hg12) (q2 (vb false) (xF hg12) (wpL_nil ?_)))
         exact ⟨false, _, hg12, hs, hb, Has.mk (by kernel_rfl)⟩
      ·skip
       rcases Bool.eq_false_or_eq_true ((((r17 == 0) && (r23 == 0)) && (decide ((r18.len : Int) > 0))) && r19) with hg10 | hg10
       ·skip
        refine q1 (vi r20) (want1 rfl (yD 121 hg10)) ?_
        refine st_call (want1 rfl (yD 121 hg10)) (xc Try.call43) ((p_law08_num r20 w23).mono ?_)
        rintro e w26 ⟨he, hE⟩
        refine ⟨(vi r20), he.trans (by kernel_rfl), ?_⟩
        replace hs := hs.pure hE
        replace hb := hb.pure hE
        clear hE he
        refine q1 (vb (r20 == 0)) (want1 rfl (yD 121 hg10)) (q2 (vb (r20 == 0)) (xT hg10) (wpL_nil ?_))
        exact ⟨true, _, _, hg10, rfl, hs, hb, Has.mk (by kernel_rfl)⟩
       ·skip
        refine sk (yD 121 hg10) (sk (yD 121 hg10) (sk (yD 121 hg10) (q2 (vb false) (xF hg10) (wpL_nil ?_))))
        exact ⟨false, _, _, hg10, rfl, hs, hb, Has.mk (by kernel_rfl)⟩
     ·skip
      rcases Bool.eq_false_or_eq_true (((r17 == 0) && (r23 == 0)) && (decide ((r18.len : Int) > 0))) with hg8 | hg8
      ·skip
       refine q1 (vb r19) (want1 rfl (yD 118 hg8)) (q2 (vb r19) (xT hg8) (wpL_nil ?_))
       exact ⟨true, _, hg8, hs, hb, Has.mk (by kernel_rfl)⟩
      ·skip
       refine sk (yD 118 hg8) (q2 (vb false) (xF hg8) (wpL_nil ?_))
       exact ⟨false, _, hg8, hs, hb, Has.mk (by kernel_rfl)⟩
    ·skip
     rcases Bool.eq_false_or_eq_true ((r17 == 0) && (r23 == 0)) with hg6 | hg6
     ·skip
      refine q1 r18.v (want1 rfl (yD 113 hg6)) (q1 (vi (r18.len : Int)) (want1 rfl (yD 113 hg6)) (q1 (vb (decide ((r18.len : Int) > 0))) (want1 rfl (yD 113 hg6)) (q2 (vb (decide ((r18.len : Int) > 0))) (xT hg6) (wpL_nil ?_))))
      exact ⟨true, _, hg6, hs, hb, Has.mk (by kernel_rfl)⟩
     ·skip
      refine sk (yD 113 hg6) (sk (yD 113 hg6) (sk (yD 113 hg6) (q2 (vb false) (xF hg6) (wpL_nil ?_))))
      exact ⟨false, _, hg6, hs, hb, Has.mk (by kernel_rfl)⟩
   ·skip
    rcases Bool.eq_false_or_eq_true (r17 == 0) with hg4 | hg4
    ·skip
     refine q1 (vi r23) (want1 rfl (yD 108 hg4)) ?_
     refine st_call (want1 rfl (yD 108 hg4)) (xc Try.call43) ((p_law08_num r23 w18).mono ?_)
     rintro e w21 ⟨he, hE⟩
     refine ⟨(vi r23), he.trans (by kernel_rfl), ?_⟩
     replace hs := hs.pure hE
     replace hb := hb.pure hE
     clear hE he
     refine q1 (vb (r23 == 0)) (want1 rfl (yD 108 hg4)) (q2 (vb (r23 == 0)) (xT hg4) (wpL_nil ?_))
     exact ⟨true, _, hg4, hs, hb, Has.mk (by kernel_rfl)⟩
    ·skip
     refine sk (yD 108 hg4) (sk (yD 108 hg4) (sk (yD 108 hg4) (q2 (vb false) (xF hg4) (wpL_nil ?_))))
     exact ⟨false, _, hg4, hs, hb, Has.mk (by kernel_rfl)⟩
def m_law08_pools_l1 (l1 : Sl) (r1 : Option Addr) (r2 : Option Addr) (out1 : Sl) (i1 : Int) (w0 : World) (Hl1 : Nat → Prop) (wl1 : World) (Kc1 : Sl → Int → (Nat → Prop) → World → Prop) (K : (Option Addr) → (Option Addr) → Sl → Bool → World → Prop) : Prop :=
 Br (decide (i1 < (l1.len : Int)))
  (∃ a1 : Addr, At l1 i1 6 a1 ∧
  ∃ aL aM : Int, ∃ aN aO : Int, ∃ aP : ByteArray, ∃ aQ : Sl, Row wl1 a1 [(vi aL), (vi aM), (vi aN), (vu aO), (vs aP), aQ.v] ∧
  Calls Try.prog 73 #[(vp r1), (.agg #[(vi aL), (vi aM), (vi aN), (vu aO), (vs aP), aQ.v])] wl1 (fun e w3 => ∃ r3 r4 : Int, e = .returned (.tuple #[(vi r3), (vi r4)]) ∧ 
   Kept Hl1 wl1 w3 ∧
   ∃ a2 : Addr, At l1 i1 6 a2 ∧
   ∃ aR aS : Int, ∃ aT aU : Int, ∃ aV : ByteArray, ∃ aW : Sl, Row w3 a2 [(vi aR), (vi aS), (vi aT), (vu aU), (vs aV), aW.v] ∧
   Calls Try.prog 77 #[(vp r2), (.agg #[(vi aR), (vi aS), (vi aT), (vu aU), (vs aV), aW.v])] w3 (fun e w4 => ∃ r5 r6 : Int, e = .returned (.tuple #[(vi r5), (vi r6)]) ∧ 
    Kept Hl1 w3 w4 ∧
    Br ((r4 != r6) || (r3 != r5))
     (∀ (H1 : Nat → Prop) (w6 : World), Hst w0 Hl1 w4 H1 w6 →
     K none none Sl.nil false w6)
     (∀ (H1 : Nat → Prop) (w6 : World), Hst w0 Hl1 w4 H1 w6 →
     ∀ (p1 : Addr) (w8 : World), New w6 (.cells #[(vi r5)] 41) p1 w8 →
     ∃ s1 : Sl, ∃ w9 : World, (Builtin.append_ #[26, 26] 26 #[out1.v, (Sl.mk (some p1) 1 1).v]).run Try.prog w8 = .ok s1.v w9 ∧
     Kept H1 w8 w9 ∧
     Kc1 s1 (IntKind.i64.wrap (i1 + 1)) H1 w9))))
  (K r1 r2 out1 true wl1)
def m_law08_pools (l1 : Sl) (w0 : World) (K : (Option Addr) → (Option Addr) → Sl → Bool → World → Prop) : Prop :=
 Calls Try.prog 72 #[] w0 (fun e w1 => ∃ r1 : Option Addr, e = .returned (vp r1) ∧ 
  Kept None w0 w1 ∧
  Calls Try.prog 75 #[] w1 (fun e w2 => ∃ r2 : Option Addr, e = .returned (vp r2) ∧ 
   Kept None w1 w2 ∧
   Br (Option.isNone r1)
    (K none none Sl.nil false w2)
    (∃ (I1 : Sl → Int → (Nat → Prop) → World → Prop) (mu1 : Sl → Int → World → Nat), I1 Sl.nil 0 None w2 ∧
     ∀ (out1 : Sl) (i1 : Int) (Hl1 : Nat → Prop) (wl1 : World), Hst w0 Hl1 wl1 Hl1 wl1 → I1 out1 i1 Hl1 wl1 → m_law08_pools_l1 l1 r1 r2 out1 i1 w0 Hl1 wl1 (fun y'0 y'1 H' w' => I1 y'0 y'1 H' w' ∧ mu1 y'0 y'1 w' < mu1 out1 i1 wl1) K)))
theorem w_law08_pools (l1 : Sl) (w0 : World) (K : (Option Addr) → (Option Addr) → Sl → Bool → World → Prop) (h : m_law08_pools l1 w0 K) :
  Calls Try.prog 35 #[l1.v] w0 (fun e w' => ∃ r7 : Option Addr, ∃ r8 : Option Addr, ∃ r9 : Sl, ∃ r10 : Bool, e = .returned (.tuple #[(vp r7), (vp r8), r9.v, (vb r10)]) ∧ K r7 r8 r9 r10 w') := by
 unfold m_law08_pools at h
 refine calls_of_wpE (args := [l1.v]) Try.func35 rfl Try.ntmps35 (Nat.le_of_ble_eq_true rfl) ?_
 have hs := Hst.start w0
 have hb := HB.nil None w0
 refine wpE_seq (rg (q0 (vp none) (q0 (vp none) (q0 Sl.nil.v (q0 (vb false) (wpL_nil (th_n (wpE_seq (rg ?_)))))))))
 refine st_call (want0 rfl) (xc Try.call72) (h.mono ?_)
 rintro e w1 ⟨r1, rfl, hk, h⟩
 refine ⟨_, rfl, ?_⟩
 obtain ⟨hs, hb⟩ := hk.hh hs hb
 refine q0 (vp r1) (wpL_nil (th_n (wpE_seq (rg ?_))))
 refine st_call (want0 rfl) (xc Try.call75) (h.mono ?_)
 rintro e w2 ⟨r2, rfl, hk, h⟩
 refine ⟨_, rfl, ?_⟩
 obtain ⟨hs, hb⟩ := hk.hh hs hb
 refine q0 (vp r2) (wpL_nil (th_n (wpE_seq (wpE_seq (rg (q0 (vp r1) (q2 (vb (Option.isNone r1)) (x_ptreq (by kernel_rfl) rfl Try.underlying25) (wpL_nil (th_n ?_)))))))))
 refine wpE_cond (t := (Option.isNone r1)) (by kernel_rfl) (fun hc1 => ?_) (fun hc1 => ?_)
 ·replace h := h.1 hc1
  refine wpE_seq (rg (q0 (vp none) (q0 (vp none) (q0 Sl.nil.v (q0 (vb false) (wpL_nil (th_n (wpE_ret (th_r (res4 (.inl rfl) Try.results35 (v := (vp none)) (by kernel_rfl) (v' := (vp none)) (by kernel_rfl) (v'' := Sl.nil.v) (by kernel_rfl) (v3 := (vb false)) (by kernel_rfl) ?_))))))))))
  exact ⟨none, none, Sl.nil, false, rfl, h⟩
 ·replace h := h.2 hc1
  refine wpE_skip (th_n (wpE_seq (rg (q0 Sl.nil.v (wpL_nil (th_n (wpE_seq (wpE_seq (rg (q0 (vi 0) (wpL_nil ?_)))))))))))
  refine th_n (wpE_block ?_)
  obtain ⟨I1, mu1, h0, hr⟩ := h
  refine wpE_loop (σ := Sl × Int × (Nat → Prop) × World) (fun s ρ w => w = s.2.2.2 ∧ Has ρ [(0, l1.v), (6, (vp r1)), (7, (vp r2)), (8, s.1.v), (9, (vi s.2.1))] ∧ Hst w0 s.2.2.1 w s.2.2.1 w ∧ HB s.2.2.1 w [] ∧ I1 s.1 s.2.1 s.2.2.1 s.2.2.2) (fun s => mu1 s.1 s.2.1 s.2.2.2) (Sl.nil, 0, None, w2) ⟨rfl, Has.mk (by kernel_rfl), hs, hb, h0⟩ ?_
  clear hs hb
  rintro ⟨out1, i1, Hl1, wl1⟩ ρ w ⟨hw, hH, hs, hb, hI⟩
  obtain rfl : wl1 = w := (show w = wl1 from hw).symm
  replace hH : Has ρ [(0, l1.v), (6, (vp r1)), (7, (vp r2)), (8, out1.v), (9, (vi i1))] := hH
  replace hs : Hst w0 Hl1 wl1 Hl1 wl1 := hs
  replace hb : HB Hl1 wl1 [] := hb
  have h := hr out1 i1 Hl1 wl1 hs hI
  clear hr h0
  unfold m_law08_pools_l1 at h
  refine wpE_has hH ?_
  clear hH hI
  refine wpE_seq (wpE_seq (rg (q0 (vi i1) (q0 l1.v (q0 (vi (l1.len : Int)) (q0 (vb (decide (i1 < (l1.len : Int)))) (wpL_nil (th_n ?_))))))))
  refine wpE_cond (t := (decide (i1 < (l1.len : Int)))) (by kernel_rfl) (fun hc2 => ?_) (fun hc2 => ?_)
  ·replace h := h.1 hc2
   refine wpE_skip (th_n (wpE_seq (wpE_block (wpE_seq (rg (q0 (vp r1) (q0 l1.v (q0 (vi i1) ?_))))))))
   obtain ⟨a1, hv5, h⟩ := h
   refine q2 (vp (some a1)) (x_indexAddr (s := l1) (k := .i64) (i := i1) (by kernel_rfl) (by kernel_rfl) (Try.runUnderlying22 _) (Try.sizeOf116 _) hv5) ?_
   obtain ⟨aL, aM, aN, aO, aP, aQ, hv4, h⟩ := h
   refine q2 (.agg #[(vi aL), (vi aM), (vi aN), (vu aO), (vs aP), aQ.v]) (x_loadA (a := a1) (vs := [(vi aL), (vi aM), (vi aN), (vu aO), (vs aP), aQ.v]) (by kernel_rfl) (Try.isAgg116 _) (Try.sizeOf116 _) rfl hv4) ?_
   refine st_call (want0 rfl) (xc Try.call73) (h.mono ?_)
   rintro e w3 ⟨r3, r4, rfl, hk, h⟩
   refine ⟨_, rfl, ?_⟩
   obtain ⟨hs, hb⟩ := hk.hh hs hb
   refine q0 (.tuple #[(vi r3), (vi r4)]) (q0 (vi r3) (q0 (vi r4) (q0 (vi r3) (q0 (vi r4) (wpL_nil (th_n (wpE_seq (rg (q0 (vp r2) (q0 l1.v (q0 (vi i1) ?_)))))))))))
   obtain ⟨a2, hv3, h⟩ := h
   refine q2 (vp (some a2)) (x_indexAddr (s := l1) (k := .i64) (i := i1) (by kernel_rfl) (by kernel_rfl) (Try.runUnderlying22 _) (Try.sizeOf116 _) hv3) ?_
   obtain ⟨aR, aS, aT, aU, aV, aW, hv2, h⟩ := h
   refine q2 (.agg #[(vi aR), (vi aS), (vi aT), (vu aU), (vs aV), aW.v]) (x_loadA (a := a2) (vs := [(vi aR), (vi aS), (vi aT), (vu aU), (vs aV), aW.v]) (by kernel_rfl) (Try.isAgg116 _) (Try.sizeOf116 _) rfl hv2) ?_
   refine st_call (want0 rfl) (xc Try.call77) (h.mono ?_)
   rintro e w4 ⟨r5, r6, rfl, hk, h⟩
   refine ⟨_, rfl, ?_⟩
   obtain ⟨hs, hb⟩ := hk.hh hs hb
   refine q0 (.tuple #[(vi r5), (vi r6)]) (q0 (vi r5) (q0 (vi r6) (q0 (vi r5) (q0 (vi r6) (wpL_nil (th_n (wpE_seq (wpE_seq ?_))))))))
   refine wpE_via (fun ρ wJ => ∃ b1'0 : Bool, ∃ HJ : Nat → Prop, ((r4 != r6) = b1'0) ∧ Hst w0 Hl1 w4 HJ wJ ∧ HB HJ wJ [] ∧ Has ρ [(0, l1.v), (6, (vp r1)), (7, (vp r2)), (8, out1.v), (9, (vi i1)), (12, (vi r5)), (50, (vb (b1'0 || (r3 != r5))))]) ?_ ?_
   ·skip
    refine rg (q0 (vi r4) ?_)
    refine st_call (want0 rfl) (xc Try.call43) ((p_law08_num r4 w4).mono ?_)
    rintro e w7 ⟨he, hE⟩
    refine ⟨(vi r4), he.trans (by kernel_rfl), ?_⟩
    replace hs := hs.pure hE
    replace hb := hb.pure hE
    clear hE he
    refine q0 (vi r6) (q0 (vb (r4 != r6)) (q0 (vb (r4 != r6)) ?_))
    rcases Bool.eq_false_or_eq_true (r4 != r6) with hg2 | hg2
    ·skip
     refine sk (yD 46 hg2) (sk (yD 46 hg2) (sk (yD 46 hg2) (q2 (vb true) (xT hg2) (wpL_nil (th_n ?_)))))
     exact ⟨true, _, hg2, hs, hb, Has.mk (by kernel_rfl)⟩
    ·skip
     refine q1 (vi r3) (want1 rfl (yD 46 hg2)) (q1 (vi r5) (want1 rfl (yD 46 hg2)) (q1 (vb (r3 != r5)) (want1 rfl (yD 46 hg2)) (q2 (vb (r3 != r5)) (xF hg2) (wpL_nil (th_n ?_)))))
     exact ⟨false, _, hg2, hs, hb, Has.mk (by kernel_rfl)⟩
   ·clear hs hb
    rintro ρ w6 ⟨b1'0, H1, he0, hs, hb, hH⟩
    subst he0
    refine norm_has hH ?_
    clear hH
    refine th_n ?_
    refine wpE_cond (t := ((r4 != r6) || (r3 != r5))) (by kernel_rfl) (fun hc3 => ?_) (fun hc3 => ?_)
    ·replace h := h.1 hc3
     refine wpE_seq (rg (q0 (vp none) (q0 (vp none) (q0 Sl.nil.v (q0 (vb false) (wpL_nil (th_n (wpE_ret (th_r (bl_r (th_r ?_)))))))))))
     refine th_r (bl_r (th_r ?_))
     replace h := h H1 w6 hs
     replace hs := hs.here
     refine res4 (.inl rfl) Try.results35 (v := (vp none)) (by kernel_rfl) (v' := (vp none)) (by kernel_rfl) (v'' := Sl.nil.v) (by kernel_rfl) (v3 := (vb false)) (by kernel_rfl) ?_
     exact ⟨none, none, Sl.nil, false, rfl, h⟩
    ·replace h := h.2 hc3
     refine wpE_skip (th_n (rg (q0 out1.v (q0 (vi r5) ?_))))
     replace h := h H1 w6 hs
     replace hs := hs.here
     refine st_new (O := (.cells #[(vi r5)] 41)) (fun p => (Sl.mk (some p) 1 1).v) (want0 rfl) (x_buildSlice (vs := #[(0, (vi r5))]) (by kernel_rfl) (by kernel_rfl)) ?_
     intro p1 w8 hn1
     replace h := h p1 w8 hn1
     replace hs := hs.again (Ext.new (F := None) hn1).keptP
     replace hb := hb.kept (Ext.new (F := None) hn1).keptP
     obtain ⟨s1, w9, hv1, hk, h⟩ := h
     refine st (v := s1.v) (want0 rfl) (x_builtin (args := #[out1.v, (Sl.mk (some p1) 1 1).v]) (by kernel_rfl) (fun _ => rfl) hv1) ?_
     obtain ⟨hs, hb⟩ := hk.hh hs hb
     refine q0 s1.v (wpL_nil (bl_n (th_n (rg (q0 (vi i1) (q0 (vi (IntKind.i64.wrap (i1 + 1))) (q0 (vi (IntKind.i64.wrap (i1 + 1))) (wpL_nil (th_n ?_)))))))))
     exact ⟨(s1, (IntKind.i64.wrap (i1 + 1)), H1, w9), ⟨rfl, Has.mk (by kernel_rfl), hs, hb, h.1⟩, h.2⟩
  ·replace h := h.2 hc2
   refine wpE_exit (th_x (th_x (bl_eq (th_n (wpE_seq (rg (q0 (vp r1) (q0 (vp r2) (q0 out1.v (q0 (vp r1) (q0 (vp r2) ?_)))))))))))
   refine q0 out1.v (q0 (vb true) (wpL_nil (th_n (wpE_ret (res4 (.inl rfl) Try.results35 (v := (vp r1)) (by kernel_rfl) (v' := (vp r2)) (by kernel_rfl) (v'' := out1.v) (by kernel_rfl) (v3 := (vb true)) (by kernel_rfl) ?_)))))
   exact ⟨r1, r2, out1, true, rfl, h⟩
def m_law08_local_l3 (l1 : Sl) (i2 k1 : Int) (w0 : World) (Hl3 : Nat → Prop) (wl3 : World) (Kc2 : Int → (Nat → Prop) → World → Prop) (Kc3 : Int → (Nat → Prop) → World → Prop) (K : Bool → World → Prop) : Prop :=
 Br (decide (k1 < i2))
  (∃ a3 : Addr, At l1 k1 4 a3 ∧
  ∀ (w8 : World), Hst w0 Hl3 wl3 Hl3 w8 →
  ∃ v3 : Int, w8.cell? (a3.add 3) = some (vi v3) ∧
  ∃ a4 : Addr, At l1 i2 4 a4 ∧
  ∃ v4 : Int, w8.cell? (a4.add 3) = some (vi v4) ∧
  Br (v3 == v4)
   (K false w8)
   (Kc3 (IntKind.i64.wrap (k1 + 1)) Hl3 w8))
  (Kc2 (IntKind.i64.wrap (i2 + 1)) Hl3 wl3)
def m_law08_local_l2 (l1 may1 : Sl) (i2 : Int) (w0 : World) (Hl2 : Nat → Prop) (wl2 : World) (Kc2 : Int → (Nat → Prop) → World → Prop) (K : Bool → World → Prop) : Prop :=
 Br (decide (i2 < (l1.len : Int)))
  (∃ a2 : Addr, At l1 i2 4 a2 ∧
  ∃ v2 : Int, wl2.cell? (a2.add 3) = some (vi v2) ∧
  Calls Try.prog 95 #[may1.v, (vi v2)] wl2 (fun e w7 => ∃ r3 : Bool, e = .returned (vb r3) ∧ 
   Kept Hl2 wl2 w7 ∧
   Br (!r3)
    (K false w7)
    (∃ (I3 : Int → (Nat → Prop) → World → Prop) (mu3 : Int → World → Nat), I3 0 Hl2 w7 ∧
     ∀ (k1 : Int) (Hl3 : Nat → Prop) (wl3 : World), Hst w0 Hl3 wl3 Hl3 wl3 → I3 k1 Hl3 wl3 → m_law08_local_l3 l1 i2 k1 w0 Hl3 wl3 Kc2 (fun y'0 H' w' => I3 y'0 H' w' ∧ mu3 y'0 w' < mu3 k1 wl3) K)))
  (K true wl2)
def m_law08_local_l1 (w1 : Option Addr) (given1 l1 may1 : Sl) (i1 : Int) (w0 : World) (Hl1 : Nat → Prop) (wl1 : World) (Kc1 : Sl → Int → (Nat → Prop) → World → Prop) (K : Bool → World → Prop) : Prop :=
 Br (decide (i1 < (given1.len : Int)))
  (∃ a1 : Addr, At given1 i1 1 a1 ∧
  ∃ v1 : Int, wl1.cell? a1 = some (vi v1) ∧
  Calls Try.prog 102 #[(vp w1), (vi v1)] wl1 (fun e w5 => ∃ r2 : Sl, e = .returned r2.v ∧ 
   Kept Hl1 wl1 w5 ∧
   ∃ s2 : Sl, ∃ w6 : World, (Builtin.append_ #[26, 26] 26 #[may1.v, r2.v]).run Try.prog w5 = .ok s2.v w6 ∧
   Kept Hl1 w5 w6 ∧
   Kc1 s2 (IntKind.i64.wrap (i1 + 1)) Hl1 w6))
  (∃ (I2 : Int → (Nat → Prop) → World → Prop) (mu2 : Int → World → Nat), I2 0 Hl1 wl1 ∧
   ∀ (i2 : Int) (Hl2 : Nat → Prop) (wl2 : World), Hst w0 Hl2 wl2 Hl2 wl2 → I2 i2 Hl2 wl2 → m_law08_local_l2 l1 may1 i2 w0 Hl2 wl2 (fun y'0 H' w' => I2 y'0 H' w' ∧ mu2 y'0 w' < mu2 i2 wl2) K)
def m_law08_local (w1 : Option Addr) (given1 l1 : Sl) (t1 : Int) (w0 : World) (K : Bool → World → Prop) : Prop :=
 ∀ (p1 : Addr) (w2 : World), New w0 (.cells #[] 41) p1 w2 →
 Calls Try.prog 102 #[(vp w1), (vi t1)] w2 (fun e w3 => ∃ r1 : Sl, e = .returned r1.v ∧ 
  Kept None w2 w3 ∧
  ∃ s1 : Sl, ∃ w4 : World, (Builtin.append_ #[26, 26] 26 #[(Sl.mk (some p1) 0 0).v, r1.v]).run Try.prog w3 = .ok s1.v w4 ∧
  Kept None w3 w4 ∧
  ∃ (I1 : Sl → Int → (Nat → Prop) → World → Prop) (mu1 : Sl → Int → World → Nat), I1 s1 0 None w4 ∧
   ∀ (may1 : Sl) (i1 : Int) (Hl1 : Nat → Prop) (wl1 : World), Hst w0 Hl1 wl1 Hl1 wl1 → I1 may1 i1 Hl1 wl1 → m_law08_local_l1 w1 given1 l1 may1 i1 w0 Hl1 wl1 (fun y'0 y'1 H' w' => I1 y'0 y'1 H' w' ∧ mu1 y'0 y'1 w' < mu1 may1 i1 wl1) K)
theorem w_law08_local (w1 : Option Addr) (given1 l1 : Sl) (t1 : Int) (w0 : World) (K : Bool → World → Prop) (h : m_law08_local w1 given1 l1 t1 w0 K) :
  Calls Try.prog 44 #[(vp w1), given1.v, l1.v, (vi t1)] w0 (fun e w' => ∃ r4 : Bool, e = .returned (vb r4) ∧ K r4 w') := by
 unfold m_law08_local at h
 refine calls_of_wpE (args := [(vp w1), given1.v, l1.v, (vi t1)]) Try.func44 rfl Try.ntmps44 (Nat.le_of_ble_eq_true rfl) ?_
 have hs := Hst.start w0
 have hb := HB.nil None w0
 refine wpE_seq (rg (q0 (vb false) (wpL_nil (th_n (wpE_seq (rg (st_new (O := (.cells #[] 41)) (fun p => (Sl.mk (some p) 0 0).v) (want0 rfl) (x_buildSlice (vs := #[]) (by kernel_rfl) (by kernel_rfl)) ?_)))))))
 intro p1 w2 hn1
 replace h := h p1 w2 hn1
 replace hs := hs.again (Ext.new (F := None) hn1).keptP
 replace hb := hb.kept (Ext.new (F := None) hn1).keptP
 refine q0 (vp w1) (q0 (vi t1) ?_)
 refine st_call (want0 rfl) (xc Try.call102) (h.mono ?_)
 rintro e w3 ⟨r1, rfl, hk, h⟩
 refine ⟨_, rfl, ?_⟩
 obtain ⟨hs, hb⟩ := hk.hh hs hb
 obtain ⟨s1, w4, hv10, hk, h⟩ := h
 refine st (v := s1.v) (want0 rfl) (x_builtin (args := #[(Sl.mk (some p1) 0 0).v, r1.v]) (by kernel_rfl) (fun _ => rfl) hv10) ?_
 obtain ⟨hs, hb⟩ := hk.hh hs hb
 refine q0 s1.v (wpL_nil (th_n (wpE_seq (wpE_seq (rg (q0 (vi 0) (wpL_nil (th_n (wpE_block ?_)))))))))
 obtain ⟨I1, mu1, h0, hr⟩ := h
 refine wpE_loop (σ := Sl × Int × (Nat → Prop) × World) (fun s ρ w => w = s.2.2.2 ∧ Has ρ [(0, (vp w1)), (1, given1.v), (2, l1.v), (9, s.1.v), (10, (vi s.2.1))] ∧ Hst w0 s.2.2.1 w s.2.2.1 w ∧ HB s.2.2.1 w [] ∧ I1 s.1 s.2.1 s.2.2.1 s.2.2.2) (fun s => mu1 s.1 s.2.1 s.2.2.2) (s1, 0, None, w4) ⟨rfl, Has.mk (by kernel_rfl), hs, hb, h0⟩ ?_
 clear hs hb
 rintro ⟨may1, i1, Hl1, wl1⟩ ρ w ⟨hw, hH, hs, hb, hI⟩
 obtain rfl : wl1 = w := (show w = wl1 from hw).symm
 replace hH : Has ρ [(0, (vp w1)), (1, given1.v), (2, l1.v), (9, may1.v), (10, (vi i1))] := hH
 replace hs : Hst w0 Hl1 wl1 Hl1 wl1 := hs
 replace hb : HB Hl1 wl1 [] := hb
 have h := hr may1 i1 Hl1 wl1 hs hI
 clear hr h0
 unfold m_law08_local_l1 at h
 refine wpE_has hH ?_
 clear hH hI
 refine wpE_seq (wpE_seq (rg (q0 (vi i1) (q0 given1.v (q0 (vi (given1.len : Int)) (q0 (vb (decide (i1 < (given1.len : Int)))) (wpL_nil (th_n ?_))))))))
 refine wpE_cond (t := (decide (i1 < (given1.len : Int)))) (by kernel_rfl) (fun hc1 => ?_) (fun hc1 => ?_)
 ·replace h := h.1 hc1
  refine wpE_skip (th_n (wpE_seq (wpE_block (rg (q0 may1.v (q0 (vp w1) (q0 given1.v (q0 (vi i1) ?_))))))))
  obtain ⟨a1, hv3, h⟩ := h
  refine q2 (vp (some a1)) (x_indexAddr (s := given1) (k := .i64) (i := i1) (by kernel_rfl) (by kernel_rfl) (Try.runUnderlying26 _) (Try.sizeOf41 _) hv3) ?_
  obtain ⟨v1, hv2, h⟩ := h
  refine q2 (vi v1) (xl (Try.isAgg41 _) hv2) ?_
  refine st_call (want0 rfl) (xc Try.call102) (h.mono ?_)
  rintro e w5 ⟨r2, rfl, hk, h⟩
  refine ⟨_, rfl, ?_⟩
  obtain ⟨hs, hb⟩ := hk.hh hs hb
  obtain ⟨s2, w6, hv1, hk, h⟩ := h
  refine st (v := s2.v) (want0 rfl) (x_builtin (args := #[may1.v, r2.v]) (by kernel_rfl) (fun _ => rfl) hv1) ?_
  obtain ⟨hs, hb⟩ := hk.hh hs hb
  refine q0 s2.v (wpL_nil (bl_n (th_n (rg (q0 (vi i1) (q0 (vi (IntKind.i64.wrap (i1 + 1))) (q0 (vi (IntKind.i64.wrap (i1 + 1))) (wpL_nil (th_n ?_)))))))))
  exact ⟨(s2, (IntKind.i64.wrap (i1 + 1)), Hl1, w6), ⟨rfl, Has.mk (by kernel_rfl), hs, hb, h.1⟩, h.2⟩
 ·replace h := h.2 hc1
  refine wpE_exit (th_x (th_x (bl_eq (th_n (wpE_seq (wpE_seq (rg (q0 (vi 0) (wpL_nil (th_n (wpE_block ?_)))))))))))
  obtain ⟨I2, mu2, h0, hr⟩ := h
  refine wpE_loop (σ := Int × (Nat → Prop) × World) (fun s ρ w => w = s.2.2 ∧ Has ρ [(2, l1.v), (9, may1.v), (11, (vi s.1))] ∧ Hst w0 s.2.1 w s.2.1 w ∧ HB s.2.1 w [] ∧ I2 s.1 s.2.1 s.2.2) (fun s => mu2 s.1 s.2.2) (0, Hl1, wl1) ⟨rfl, Has.mk (by kernel_rfl), hs, hb, h0⟩ ?_
  clear hs hb
  rintro ⟨i2, Hl2, wl2⟩ ρ w ⟨hw, hH, hs, hb, hI⟩
  obtain rfl : wl2 = w := (show w = wl2 from hw).symm
  replace hH : Has ρ [(2, l1.v), (9, may1.v), (11, (vi i2))] := hH
  replace hs : Hst w0 Hl2 wl2 Hl2 wl2 := hs
  replace hb : HB Hl2 wl2 [] := hb
  have h := hr i2 Hl2 wl2 hs hI
  clear hr h0
  unfold m_law08_local_l2 at h
  refine wpE_has hH ?_
  clear hH hI
  refine wpE_seq (wpE_seq (rg (q0 (vi i2) (q0 l1.v (q0 (vi (l1.len : Int)) (q0 (vb (decide (i2 < (l1.len : Int)))) (wpL_nil (th_n ?_))))))))
  refine wpE_cond (t := (decide (i2 < (l1.len : Int)))) (by kernel_rfl) (fun hc2 => ?_) (fun hc2 => ?_)
  ·replace h := h.1 hc2
   refine wpE_skip (th_n (wpE_seq (wpE_block (wpE_seq (wpE_seq (rg (q0 may1.v (q0 l1.v (q0 (vi i2) ?_)))))))))
   obtain ⟨a2, hv9, h⟩ := h
   refine q2 (vp (some a2)) (x_indexAddr (s := l1) (k := .i64) (i := i2) (by kernel_rfl) (by kernel_rfl) (Try.runUnderlying76 _) (Try.sizeOf167 _) hv9) (q0 (vp (some (a2.add 3))) ?_)
   obtain ⟨v2, hv8, h⟩ := h
   refine q2 (vi v2) (xl (Try.isAgg41 _) hv8) ?_
   refine st_call (want0 rfl) (xc Try.call95) (h.mono ?_)
   rintro e w7 ⟨r3, rfl, hk, h⟩
   refine ⟨_, rfl, ?_⟩
   obtain ⟨hs, hb⟩ := hk.hh hs hb
   refine q0 (vb (!r3)) (wpL_nil (th_n ?_))
   refine wpE_cond (t := (!r3)) (by kernel_rfl) (fun hc3 => ?_) (fun hc3 => ?_)
   ·replace h := h.1 hc3
    refine wpE_seq (rg (q0 (vb false) (wpL_nil (th_n (wpE_ret (th_r (bl_r (th_r (th_r (bl_r (th_r ?_)))))))))))
    refine res1 (.inl rfl) Try.results44 (v := (vb false)) (by kernel_rfl) ?_
    exact ⟨false, rfl, h⟩
   ·replace h := h.2 hc3
    refine wpE_skip (th_n (wpE_seq (rg (q0 (vi 0) (wpL_nil (th_n (wpE_block ?_)))))))
    obtain ⟨I3, mu3, h0, hr⟩ := h
    refine wpE_loop (σ := Int × (Nat → Prop) × World) (fun s ρ w => w = s.2.2 ∧ Has ρ [(2, l1.v), (9, may1.v), (11, (vi i2)), (12, (vi s.1))] ∧ Hst w0 s.2.1 w s.2.1 w ∧ HB s.2.1 w [] ∧ I3 s.1 s.2.1 s.2.2) (fun s => mu3 s.1 s.2.2) (0, Hl2, w7) ⟨rfl, Has.mk (by kernel_rfl), hs, hb, h0⟩ ?_
    clear hs hb
    rintro ⟨k1, Hl3, wl3⟩ ρ w ⟨hw, hH, hs, hb, hI⟩
    obtain rfl : wl3 = w := (show w = wl3 from hw).symm
    replace hH : Has ρ [(2, l1.v), (9, may1.v), (11, (vi i2)), (12, (vi k1))] := hH
    replace hs : Hst w0 Hl3 wl3 Hl3 wl3 := hs
    replace hb : HB Hl3 wl3 [] := hb
    have h := hr k1 Hl3 wl3 hs hI
    clear hr h0
    unfold m_law08_local_l3 at h
    refine wpE_has hH ?_
    clear hH hI
    refine wpE_seq (wpE_seq (rg (q0 (vi k1) (q0 (vi i2) (q0 (vb (decide (k1 < i2))) (wpL_nil (th_n ?_)))))))
    refine wpE_cond (t := (decide (k1 < i2))) (by kernel_rfl) (fun hc4 => ?_) (fun hc4 => ?_)
    ·replace h := h.1 hc4
     refine wpE_skip (th_n (wpE_seq (wpE_block (wpE_seq (wpE_drawnQ (by kernel_rfl) (by kernel_rfl) (by kernel_rfl) (by kernel_rfl) ?_)))))
     intro w8 hw8
     replace hs : Hst w0 Hl3 wl3 Hl3 w8 := by rw [hw8]; exact hs.drew
     replace hb : HB Hl3 w8 [] := by rw [hw8]; exact hb.drew
     clear hw8
     refine qq 0 l1.v Kp0 (qq 1 (vi k1) Kp1 (qgo (k := 2) (by kernel_rfl) ?_))
     obtain ⟨a3, hv7, h⟩ := h
     refine sxQ (v := (vp (some a3))) Kp2 (want0 rfl) rfl (x_indexAddr (s := l1) (k := .i64) (i := k1) (by kernel_rfl) (by kernel_rfl) (Try.runUnderlying76 _) (Try.sizeOf167 _) hv7) (qq 3 (vp (some (a3.add 3))) Kp3 (qgo (k := 4) (by kernel_rfl) ?_))
     replace h := h w8 hs
     replace hs := hs.here
     obtain ⟨v3, hv6, h⟩ := h
     refine sxQ (v := (vi v3)) Kp4 (want0 rfl) rfl (xl (Try.isAgg41 _) hv6) (qq 5 l1.v Kp5 (qq 6 (vi i2) Kp6 (qgo (k := 7) (by kernel_rfl) ?_)))
     obtain ⟨a4, hv5, h⟩ := h
     refine sxQ (v := (vp (some a4))) Kp7 (want0 rfl) rfl (x_indexAddr (s := l1) (k := .i64) (i := i2) (by kernel_rfl) (by kernel_rfl) (Try.runUnderlying76 _) (Try.sizeOf167 _) hv5) (qq 8 (vp (some (a4.add 3))) Kp8 (qgo (k := 9) (by kernel_rfl) ?_))
     obtain ⟨v4, hv4, h⟩ := h
     refine sxQ (v := (vi v4)) Kp9 (want0 rfl) rfl (xl (Try.isAgg41 _) hv4) (qq 10 (vb (v3 == v4)) (pickA (S8 (pickS (pickS pickZ)))) (wpX_nil (by kernel_rfl) (th_n ?_)))
     refine wpE_cond (t := (v3 == v4)) (by kernel_rfl) (fun hc5 => ?_) (fun hc5 => ?_)
     ·replace h := h.1 hc5
      refine wpE_seq (rg (q0 (vb false) (wpL_nil (th_n (wpE_ret (bl_r (th_r (th_r (bl_r (bl_r (th_r ?_)))))))))))
      refine th_r (bl_r (th_r (res1 (.inl rfl) Try.results44 (v := (vb false)) (by kernel_rfl) ?_)))
      exact ⟨false, rfl, h⟩
     ·replace h := h.2 hc5
      refine wpE_skip (bl_n (th_n (rg (q0 (vi k1) (q0 (vi (IntKind.i64.wrap (k1 + 1))) (q0 (vi (IntKind.i64.wrap (k1 + 1))) (wpL_nil (th_n ?_))))))))
      exact ⟨((IntKind.i64.wrap (k1 + 1)), Hl3, w8), ⟨rfl, Has.mk (by kernel_rfl), hs, hb, h.1⟩, h.2⟩
    ·replace h := h.2 hc4
     refine wpE_exit (th_x (th_x (bl_eq (bl_n (th_n (rg (q0 (vi i2) (q0 (vi (IntKind.i64.wrap (i2 + 1))) (q0 (vi (IntKind.i64.wrap (i2 + 1))) (wpL_nil (th_n ?_)))))))))))
     exact ⟨((IntKind.i64.wrap (i2 + 1)), Hl3, wl3), ⟨rfl, Has.mk (by kernel_rfl), hs, hb, h.1⟩, h.2⟩
  ·replace h := h.2 hc2
   refine wpE_exit (th_x (th_x (bl_eq (th_n (wpE_seq (rg (q0 (vb true) (wpL_nil (th_n (wpE_ret (res1 (.inl rfl) Try.results44 (v := (vb true)) (by kernel_rfl) ?_)))))))))))
   exact ⟨true, rfl, h⟩
theorem eqt_law08_DeduceProofs_neq_4 (a0 b0 : Bool) (w : World) : (Go.binOp .neq 4 (.bool a0) (.bool b0)).run Try.prog w = .ok (.bool (!(a0 == b0))) w := by
 simp [Go.binOp, Op.equal, Op.maxDepth, go_sem, streq, bne]
def m_law08_DeduceProofs_j4 (given1 : Sl) (r2 : Option Addr) (r3 : Option Addr) (p1 : Addr) (t1 : Int) (r10 : Sl) (r11 x2 : Bool) (w0 : World) (H : Nat → Prop) (w : World) (Kc3 : Int → (Nat → Prop) → World → Prop) (K : Bool → World → Prop) : Prop :=
 Br x2
  (K false w)
  (Br (!r11)
   (Kc3 (IntKind.i64.wrap (t1 + 1)) H w)
   (Calls Try.prog 41 #[(vp r2), given1.v, r10.v, (vi t1)] w (fun e w9 => ∃ r12 r13 : Int, e = .returned (.tuple #[(vi r12), (vi r13)]) ∧ 
    Kept H w w9 ∧
    Calls Try.prog 42 #[(vp r3), given1.v, r10.v, (vi t1)] w9 (fun e w10 => ∃ r14 r15 : Int, e = .returned (.tuple #[(vi r14), (vi r15)]) ∧ 
     Kept H w9 w10 ∧
     Br (((r14 != 0) || (r12 != 0)) || (r13 != 0))
      (∀ (H2 : Nat → Prop) (w14 : World), Hst w0 H w10 H2 w14 →
      K false w14)
      (∀ (H2 : Nat → Prop) (w14 : World), Hst w0 H w10 H2 w14 →
      ∃ v4 : Sl, w14.cell? (p1.add 1) = some v4.v ∧
      Calls Try.prog 44 #[(vp r3), v4.v, r10.v, (vi t1)] w14 (fun e w15 => ∃ r16 : Bool, e = .returned (vb r16) ∧ 
       Kept H2 w14 w15 ∧
       Br (!r16)
        (K false w15)
        (Kc3 (IntKind.i64.wrap (t1 + 1)) H2 w15)))))))
def m_law08_DeduceProofs_j5 (given1 : Sl) (r2 : Option Addr) (r3 : Option Addr) (p1 : Addr) (t1 : Int) (r10 : Sl) (r11 x3 : Bool) (w0 : World) (H : Nat → Prop) (w : World) (Kc3 : Int → (Nat → Prop) → World → Prop) (K : Bool → World → Prop) : Prop :=
 ∀ (H4 : Nat → Prop) (w17 : World), Hst w0 H w H4 w17 →
 m_law08_DeduceProofs_j4 given1 r2 r3 p1 t1 r10 r11 ((!(r11 == x3)) || ((!r11) && (decide ((r10.len : Int) > 0)))) w0 H4 w17 Kc3 K
def m_law08_DeduceProofs_l3 (given1 : Sl) (r2 : Option Addr) (r3 : Option Addr) (r6 : Option Addr) (p1 : Addr) (r9 : Sl) (t1 : Int) (w0 : World) (Hl2 : Nat → Prop) (wl2 : World) (Kc3 : Int → (Nat → Prop) → World → Prop) (K : Bool → World → Prop) : Prop :=
 ∃ a3 : Addr, r3 = some a3 ∧
 ∃ v3 : Sl, wl2.cell? a3 = some v3.v ∧
 Br (decide (t1 ≤ (v3.len : Int)))
  (Calls Try.prog 40 #[(vp r6), (vi t1)] wl2 (fun e w8 => ∃ r10 : Sl, ∃ r11 : Bool, e = .returned (.tuple #[r10.v, (vb r11)]) ∧ 
   Kept Hl2 wl2 w8 ∧
   Br (decide (t1 > 0))
    (∃ a4 : Addr, At r9 t1 1 a4 ∧
    ∃ v5 : Bool, w8.cell? a4 = some (vb v5) ∧
    m_law08_DeduceProofs_j5 given1 r2 r3 p1 t1 r10 r11 v5 w0 Hl2 w8 Kc3 K)
    (m_law08_DeduceProofs_j5 given1 r2 r3 p1 t1 r10 r11 false w0 Hl2 w8 Kc3 K)))
  (Calls Try.prog 34 #[] wl2 (fun e w19 => ∃ r17 : Bool, e = .returned (vb r17) ∧ 
   Kept Hl2 wl2 w19 ∧
   K r17 w19))
def m_law08_DeduceProofs_l2 (given1 : Sl) (r2 : Option Addr) (r3 : Option Addr) (r6 : Option Addr) (p1 : Addr) (i1 : Int) (w0 : World) (Hl1 : Nat → Prop) (wl1 : World) (Kc2 : Int → (Nat → Prop) → World → Prop) (K : Bool → World → Prop) : Prop :=
 Br (decide (i1 < (given1.len : Int)))
  (∃ a1 : Addr, At given1 i1 1 a1 ∧
  ∃ v1 : Int, wl1.cell? a1 = some (vi v1) ∧
  Calls Try.prog 37 #[(vp r6), (vi v1)] wl1 (fun e w5 => ∃ r7 : Int, e = .returned (vi r7) ∧ 
   Kept Hl1 wl1 w5 ∧
   ∃ a2 : Addr, At given1 i1 1 a2 ∧
   ∃ v2 : Int, w5.cell? a2 = some (vi v2) ∧
   Calls Try.prog 38 #[(vp (some p1)), (vi v2)] w5 (fun e w6 => ∃ r8 : Int, e = .returned (vi r8) ∧ 
    Kept Hl1 w5 w6 ∧
    Kc2 (IntKind.i64.wrap (i1 + 1)) Hl1 w6)))
  (Calls Try.prog 39 #[(vp (some p1))] wl1 (fun e w7 => ∃ r9 : Sl, e = .returned r9.v ∧ 
   Kept Hl1 wl1 w7 ∧
   ∃ (I2 : Int → (Nat → Prop) → World → Prop) (mu2 : Int → World → Nat), I2 0 Hl1 w7 ∧
    ∀ (t1 : Int) (Hl2 : Nat → Prop) (wl2 : World), Hst w0 Hl2 wl2 Hl2 wl2 → I2 t1 Hl2 wl2 → m_law08_DeduceProofs_l3 given1 r2 r3 r6 p1 r9 t1 w0 Hl2 wl2 (fun y'0 H' w' => I2 y'0 H' w' ∧ mu2 y'0 w' < mu2 t1 wl2) K))
def m_law08_DeduceProofs_j1 (l1 given1 : Sl) (x1 : Bool) (w0 : World) (H : Nat → Prop) (w : World) (K : Bool → World → Prop) : Prop :=
 Br x1
  (Calls Try.prog 34 #[] w (fun e w1 => ∃ r1 : Bool, e = .returned (vb r1) ∧ 
   Kept H w w1 ∧
   K r1 w1))
  (Calls Try.prog 35 #[l1.v] w (fun e w2 => ∃ r2 : Option Addr, ∃ r3 : Option Addr, ∃ r4 : Sl, ∃ r5 : Bool, e = .returned (.tuple #[(vp r2), (vp r3), r4.v, (vb r5)]) ∧ 
   Kept H w w2 ∧
   Br (!r5)
    (K false w2)
    (Calls Try.prog 36 #[(vp r2)] w2 (fun e w3 => ∃ r6 : Option Addr, e = .returned (vp r6) ∧ 
     Kept H w2 w3 ∧
     ∀ (p1 : Addr) (w4 : World), New w3 (.cells #[(vp r3), Sl.nil.v] 66) p1 w4 →
     Br (Option.isNone r6)
      (K false w4)
      (∃ (I1 : Int → (Nat → Prop) → World → Prop) (mu1 : Int → World → Nat), I1 0 H w4 ∧
       ∀ (i1 : Int) (Hl1 : Nat → Prop) (wl1 : World), Hst w0 Hl1 wl1 Hl1 wl1 → I1 i1 Hl1 wl1 → m_law08_DeduceProofs_l2 given1 r2 r3 r6 p1 i1 w0 Hl1 wl1 (fun y'0 H' w' => I1 y'0 H' w' ∧ mu1 y'0 w' < mu1 i1 wl1) K)))))
def m_law08_DeduceProofs (l1 given1 : Sl) (w0 : World) (K : Bool → World → Prop) : Prop :=
 Calls Try.prog 33 #[l1.v] w0 (fun e w20 => ∃ r18 : Bool, e = .returned (vb r18) ∧ 
  Kept None w0 w20 ∧
  ∀ (H6 : Nat → Prop) (w21 : World), Hst w0 None w20 H6 w21 →
  m_law08_DeduceProofs_j1 l1 given1 (r18 || (decide ((given1.len : Int) > 20))) w0 H6 w21 K)
theorem w_law08_DeduceProofs (l1 given1 : Sl) (w0 : World) (K : Bool → World → Prop) (h : m_law08_DeduceProofs l1 given1 w0 K) :
  Calls Try.prog 7 #[l1.v, given1.v] w0 (fun e w' => ∃ r19 : Bool, e = .returned (vb r19) ∧ K r19 w') := by
 unfold m_law08_DeduceProofs at h
 refine calls_of_wpE (args := [l1.v, given1.v]) Try.func7 rfl Try.ntmps7 (Nat.le_of_ble_eq_true rfl) ?_
 have hs := Hst.start w0
 have hb := HB.nil None w0
 refine wpE_seq (rg (q0 (vb false) (wpL_nil (th_n (wpE_seq (wpE_seq ?_))))))
 refine wpE_joinT (fun ρ w => ∃ x1 : Bool, ∃ H : Nat → Prop, Has ρ [(0, l1.v), (1, given1.v), (26, (vb x1))] ∧ Hst w0 H w H w ∧ HB H w [] ∧ m_law08_DeduceProofs_j1 l1 given1 x1 w0 H w K) ?_ ?_
 ·clear h hs hb
  rintro ρ w ⟨x1, H, hH, hs, hb, h⟩
  unfold m_law08_DeduceProofs_j1 at h
  refine wpE_has hH ?_
  clear hH
  refine wpE_cond (t := x1) (by kernel_rfl) (fun hc1 => ?_) (fun hc1 => ?_)
  ·replace h := h.1 hc1
   refine wpE_seq (rg ?_)
   refine st_call (want0 rfl) (xc Try.call34) (h.mono ?_)
   rintro e w1 ⟨r1, rfl, hk, h⟩
   refine ⟨_, rfl, ?_⟩
   obtain ⟨hs, hb⟩ := hk.hh hs hb
   refine q0 (vb r1) (wpL_nil (th_n (wpE_ret (th_r (res1 (.inl rfl) Try.results7 (v := (vb r1)) (by kernel_rfl) ?_)))))
   exact ⟨r1, rfl, h⟩
  ·replace h := h.2 hc1
   refine wpE_skip (th_n (wpE_seq (rg (q0 l1.v ?_))))
   refine st_call (want0 rfl) (xc Try.call35) (h.mono ?_)
   rintro e w2 ⟨r2, r3, r4, r5, rfl, hk, h⟩
   refine ⟨_, rfl, ?_⟩
   obtain ⟨hs, hb⟩ := hk.hh hs hb
   refine q0 (.tuple #[(vp r2), (vp r3), r4.v, (vb r5)]) (q0 (vp r2) (q0 (vp r3) (q0 r4.v (q0 (vb r5) (q0 (vp r2) (q0 (vp r3) (q0 r4.v (q0 (vb r5) (wpL_nil (th_n (wpE_seq ?_)))))))))))
   refine wpE_seq (rg (q0 (vb r5) (q0 (vb (!r5)) (wpL_nil (th_n ?_)))))
   refine wpE_cond (t := (!r5)) (by kernel_rfl) (fun hc2 => ?_) (fun hc2 => ?_)
   ·replace h := h.1 hc2
    refine wpE_seq (rg (q0 (vb false) (wpL_nil (th_n (wpE_ret (th_r (res1 (.inl rfl) Try.results7 (v := (vb false)) (by kernel_rfl) ?_)))))))
    exact ⟨false, rfl, h⟩
   ·replace h := h.2 hc2
    refine wpE_skip (th_n (wpE_seq (rg (q0 (vp r2) ?_))))
    refine st_call (want0 rfl) (xc Try.call36) (h.mono ?_)
    rintro e w3 ⟨r6, rfl, hk, h⟩
    refine ⟨_, rfl, ?_⟩
    obtain ⟨hs, hb⟩ := hk.hh hs hb
    refine q0 (vp r6) (wpL_nil (th_n (wpE_seq (rg (q0 (vp r3) (q0 (.agg #[(vp r3), Sl.nil.v]) (sn (O := (.cells #[(vp r3), Sl.nil.v] 66)) xb ?_)))))))
    intro p1 w4 hn1
    replace h := h p1 w4 hn1
    replace hs := hs.again (Ext.new (F := None) hn1).keptP
    replace hb := hb.kept (Ext.new (F := None) hn1).keptP
    refine q0 (vp (some p1)) (wpL_nil (th_n (wpE_seq (wpE_seq (rg (q0 (vp r6) (q2 (vb (Option.isNone r6)) (x_ptreq (by kernel_rfl) rfl Try.underlying62) (wpL_nil (th_n ?_)))))))))
    refine wpE_cond (t := (Option.isNone r6)) (by kernel_rfl) (fun hc3 => ?_) (fun hc3 => ?_)
    ·replace h := h.1 hc3
     refine wpE_seq (rg (q0 (vb false) (wpL_nil (th_n (wpE_ret (th_r (res1 (.inl rfl) Try.results7 (v := (vb false)) (by kernel_rfl) ?_)))))))
     exact ⟨false, rfl, h⟩
    ·replace h := h.2 hc3
     refine wpE_skip (th_n (wpE_seq (wpE_seq (rg (q0 (vi 0) (wpL_nil (th_n (wpE_block ?_))))))))
     obtain ⟨I1, mu1, h0, hr⟩ := h
     refine wpE_loop (σ := Int × (Nat → Prop) × World) (fun s ρ w => w = s.2.2 ∧ Has ρ [(1, given1.v), (5, (vp r2)), (6, (vp r3)), (9, (vp r6)), (10, (vp (some p1))), (11, (vi s.1))] ∧ Hst w0 s.2.1 w s.2.1 w ∧ HB s.2.1 w [] ∧ I1 s.1 s.2.1 s.2.2) (fun s => mu1 s.1 s.2.2) (0, H, w4) ⟨rfl, Has.mk (by kernel_rfl), hs, hb, h0⟩ ?_
     clear hs hb
     rintro ⟨i1, Hl1, wl1⟩ ρ w ⟨hw, hH, hs, hb, hI⟩
     obtain rfl : wl1 = w := (show w = wl1 from hw).symm
     replace hH : Has ρ [(1, given1.v), (5, (vp r2)), (6, (vp r3)), (9, (vp r6)), (10, (vp (some p1))), (11, (vi i1))] := hH
     replace hs : Hst w0 Hl1 wl1 Hl1 wl1 := hs
     replace hb : HB Hl1 wl1 [] := hb
     have h := hr i1 Hl1 wl1 hs hI
     clear hr h0
     unfold m_law08_DeduceProofs_l2 at h
     refine wpE_has hH ?_
     clear hH hI
     refine wpE_seq (wpE_seq (rg (q0 (vi i1) (q0 given1.v (q0 (vi (given1.len : Int)) (q0 (vb (decide (i1 < (given1.len : Int)))) (wpL_nil (th_n ?_))))))))
     refine wpE_cond (t := (decide (i1 < (given1.len : Int)))) (by kernel_rfl) (fun hc4 => ?_) (fun hc4 => ?_)
     ·replace h := h.1 hc4
      refine wpE_skip (th_n (wpE_seq (wpE_block (wpE_seq (rg (q0 (vp r6) (q0 given1.v (q0 (vi i1) ?_))))))))
      obtain ⟨a1, hv4, h⟩ := h
      refine q2 (vp (some a1)) (x_indexAddr (s := given1) (k := .i64) (i := i1) (by kernel_rfl) (by kernel_rfl) (Try.runUnderlying26 _) (Try.sizeOf41 _) hv4) ?_
      obtain ⟨v1, hv3, h⟩ := h
      refine q2 (vi v1) (xl (Try.isAgg41 _) hv3) ?_
      refine st_call (want0 rfl) (xc Try.call37) (h.mono ?_)
      rintro e w5 ⟨r7, rfl, hk, h⟩
      refine ⟨_, rfl, ?_⟩
      obtain ⟨hs, hb⟩ := hk.hh hs hb
      refine wpL_nil (th_n (rg (q0 (vp (some p1)) (q0 given1.v (q0 (vi i1) ?_)))))
      obtain ⟨a2, hv2, h⟩ := h
      refine q2 (vp (some a2)) (x_indexAddr (s := given1) (k := .i64) (i := i1) (by kernel_rfl) (by kernel_rfl) (Try.runUnderlying26 _) (Try.sizeOf41 _) hv2) ?_
      obtain ⟨v2, hv1, h⟩ := h
      refine q2 (vi v2) (xl (Try.isAgg41 _) hv1) ?_
      refine st_call (want0 rfl) (xc Try.call38) (h.mono ?_)
      rintro e w6 ⟨r8, rfl, hk, h⟩
      refine ⟨_, rfl, ?_⟩
      obtain ⟨hs, hb⟩ := hk.hh hs hb
      refine wpL_nil (bl_n (th_n (rg (q0 (vi i1) (q0 (vi (IntKind.i64.wrap (i1 + 1))) (q0 (vi (IntKind.i64.wrap (i1 + 1))) (wpL_nil (th_n ?_))))))))
      exact ⟨((IntKind.i64.wrap (i1 + 1)), Hl1, w6), ⟨rfl, Has.mk (by kernel_rfl), hs, hb, h.1⟩, h.2⟩
     ·replace h := h.2 hc4
      refine wpE_exit (th_x (th_x (bl_eq (th_n (wpE_seq (rg (q0 (vp (some p1)) ?_)))))))
      refine st_call (want0 rfl) (xc Try.call39) (h.mono ?_)
      rintro e w7 ⟨r9, rfl, hk, h⟩
      refine ⟨_, rfl, ?_⟩
      obtain ⟨hs, hb⟩ := hk.hh hs hb
      refine q0 r9.v (wpL_nil (th_n (wpE_seq (wpE_seq (rg (q0 (vi 0) (wpL_nil (th_n (wpE_block ?_)))))))))
      obtain ⟨I2, mu2, h0, hr⟩ := h
      refine wpE_loop (σ := Int × (Nat → Prop) × World) (fun s ρ w => w = s.2.2 ∧ Has ρ [(1, given1.v), (5, (vp r2)), (6, (vp r3)), (9, (vp r6)), (10, (vp (some p1))), (12, r9.v), (13, (vi s.1))] ∧ Hst w0 s.2.1 w s.2.1 w ∧ HB s.2.1 w [] ∧ I2 s.1 s.2.1 s.2.2) (fun s => mu2 s.1 s.2.2) (0, Hl1, w7) ⟨rfl, Has.mk (by kernel_rfl), hs, hb, h0⟩ ?_
      clear hs hb
      rintro ⟨t1, Hl2, wl2⟩ ρ w ⟨hw, hH, hs, hb, hI⟩
      obtain rfl : wl2 = w := (show w = wl2 from hw).symm
      replace hH : Has ρ [(1, given1.v), (5, (vp r2)), (6, (vp r3)), (9, (vp r6)), (10, (vp (some p1))), (12, r9.v), (13, (vi t1))] := hH
      replace hs : Hst w0 Hl2 wl2 Hl2 wl2 := hs
      replace hb : HB Hl2 wl2 [] := hb
      have h := hr t1 Hl2 wl2 hs hI
      clear hr h0
      unfold m_law08_DeduceProofs_l3 at h
      refine wpE_has hH ?_
      clear hH hI
      refine wpE_seq (wpE_seq (rg (q0 (vi t1) (q0 (vp r3) ?_))))
      obtain ⟨a3, hp1, h⟩ := h
      refine q2 (vp (some a3)) (x_nilCheck (p := r3) (by kernel_rfl) hp1) (q0 (vp (some a3)) ?_)
      obtain ⟨v3, hv8, h⟩ := h
      refine q2 v3.v (xl (Try.isAgg72 _) hv8) (q0 (vi (v3.len : Int)) (q0 (vb (decide (t1 ≤ (v3.len : Int)))) (wpL_nil (th_n ?_))))
      refine wpE_cond (t := (decide (t1 ≤ (v3.len : Int)))) (by kernel_rfl) (fun hc5 => ?_) (fun hc5 => ?_)
      ·replace h := h.1 hc5
       refine wpE_skip (th_n (wpE_seq (wpE_block (wpE_seq (rg (q0 (vp r6) (q0 (vi t1) ?_)))))))
       refine st_call (want0 rfl) (xc Try.call40) (h.mono ?_)
       rintro e w8 ⟨r10, r11, rfl, hk, h⟩
       refine ⟨_, rfl, ?_⟩
       obtain ⟨hs, hb⟩ := hk.hh hs hb
       refine q0 (.tuple #[r10.v, (vb r11)]) (q0 r10.v (q0 (vb r11) (q0 r10.v (q0 (vb r11) (wpL_nil (th_n (wpE_seq (wpE_seq ?_))))))))
       refine wpE_joinT (fun ρ w => ∃ x2 : Bool, ∃ H : Nat → Prop, Has ρ [(1, given1.v), (5, (vp r2)), (6, (vp r3)), (9, (vp r6)), (10, (vp (some p1))), (12, r9.v), (13, (vi t1)), (14, r10.v), (15, (vb r11)), (97, (vb x2))] ∧ Hst w0 H w H w ∧ HB H w [] ∧ m_law08_DeduceProofs_j4 given1 r2 r3 p1 t1 r10 r11 x2 w0 H w (fun y'0 H' w' => I2 y'0 H' w' ∧ mu2 y'0 w' < mu2 t1 wl2) K) ?_ ?_
       ·clear h hs hb
        rintro ρ w ⟨x2, H, hH, hs, hb, h⟩
        unfold m_law08_DeduceProofs_j4 at h
        refine wpE_has hH ?_
        clear hH
        refine wpE_cond (t := x2) (by kernel_rfl) (fun hc6 => ?_) (fun hc6 => ?_)
        ·replace h := h.1 hc6
         refine wpE_seq (rg (q0 (vb false) (wpL_nil (th_n (wpE_ret (th_r (bl_r (th_r (th_r (bl_r (th_r ?_)))))))))))
         refine res1 (.inl rfl) Try.results7 (v := (vb false)) (by kernel_rfl) ?_
         exact ⟨false, rfl, h⟩
        ·replace h := h.2 hc6
         refine wpE_skip (th_n (wpE_seq (wpE_seq (rg (q0 (vb r11) (q0 (vb (!r11)) (wpL_nil (th_n ?_))))))))
         refine wpE_cond (t := (!r11)) (by kernel_rfl) (fun hc7 => ?_) (fun hc7 => ?_)
         ·replace h := h.1 hc7
          refine wpE_exit (th_x (bl_eq (th_n (rg (q0 (vi t1) (q0 (vi (IntKind.i64.wrap (t1 + 1))) (q0 (vi (IntKind.i64.wrap (t1 + 1))) (wpL_nil (th_n ?_)))))))))
          exact ⟨((IntKind.i64.wrap (t1 + 1)), H, w), ⟨rfl, Has.mk (by kernel_rfl), hs, hb, h.1⟩, h.2⟩
         ·replace h := h.2 hc7
          refine wpE_skip (th_n (wpE_seq (rg (q0 (vp r2) (q0 given1.v (q0 r10.v (q0 (vi t1) ?_)))))))
          refine st_call (want0 rfl) (xc Try.call41) (h.mono ?_)
          rintro e w9 ⟨r12, r13, rfl, hk, h⟩
          refine ⟨_, rfl, ?_⟩
          obtain ⟨hs, hb⟩ := hk.hh hs hb
          refine q0 (.tuple #[(vi r12), (vi r13)]) (q0 (vi r12) (q0 (vi r13) (q0 (vi r12) (q0 (vi r13) (wpL_nil (th_n (wpE_seq (rg (q0 (vp r3) (q0 given1.v (q0 r10.v ?_)))))))))))
          refine q0 (vi t1) ?_
          refine st_call (want0 rfl) (xc Try.call42) (h.mono ?_)
          rintro e w10 ⟨r14, r15, rfl, hk, h⟩
          refine ⟨_, rfl, ?_⟩
          obtain ⟨hs, hb⟩ := hk.hh hs hb
          refine q0 (.tuple #[(vi r14), (vi r15)]) (q0 (vi r14) (q0 (vi r15) (q0 (vi r14) (q0 (vi r15) (wpL_nil (th_n (wpE_seq (rg (q0 (vi r14) (q0 (vb (r14 != 0)) (q0 (vb (r14 != 0)) ?_)))))))))))
          refine wpL_join 4 (fun ρ wJ => ∃ b1'0 : Bool, ∃ HJ : Nat → Prop, ((r14 != 0) = b1'0) ∧ Hst w0 H w10 HJ wJ ∧ HB HJ wJ [] ∧ Has ρ [(1, given1.v), (5, (vp r2)), (6, (vp r3)), (9, (vp r6)), (10, (vp (some p1))), (12, r9.v), (13, (vi t1)), (14, r10.v), (17, (vi r13)), (122, (vb (b1'0 || (r12 != 0))))]) ?_ ?_
          ·clear hs hb
           rintro ρ w12 ⟨b1'0, H1, he0, hs, hb, hH⟩
           subst he0
           refine wpL_has hH ?_
           clear hH
           refine q0 (vb ((r14 != 0) || (r12 != 0))) ?_
           refine wpL_join 3 (fun ρ wJ => ∃ b2'0 : Bool, ∃ HJ : Nat → Prop, (((r14 != 0) || (r12 != 0)) = b2'0) ∧ Hst w0 H w10 HJ wJ ∧ HB HJ wJ [] ∧ Has ρ [(1, given1.v), (5, (vp r2)), (6, (vp r3)), (9, (vp r6)), (10, (vp (some p1))), (12, r9.v), (13, (vi t1)), (14, r10.v), (126, (vb (b2'0 || (r13 != 0))))]) ?_ ?_
           ·clear hs hb
            rintro ρ w14 ⟨b2'0, H2, he0, hs, hb, hH⟩
            subst he0
            refine wpL_has hH ?_
            clear hH
            refine q0 (vb (((r14 != 0) || (r12 != 0)) || (r13 != 0))) ?_
            rcases Bool.eq_false_or_eq_true (((r14 != 0) || (r12 != 0)) || (r13 != 0)) with hg5 | hg5
            ·replace h := h.1 hg5
             refine sk (yD 127 hg5) (sk (yD 127 hg5) (sk (yD 127 hg5) (sk (yD 127 hg5) (sk (yD 127 hg5) (sk (yD 127 hg5) (sk (yD 127 hg5) (sk (yD 127 hg5) (sk (yD 127 hg5) (q2 (vb true) (xT hg5) (wpL_nil (th_n ?_)))))))))))
             refine wpE_condT (by kernel_rfl) (wpE_seq (rg (q0 (vb false) (wpL_nil (th_n (wpE_ret (bl_r (th_r (th_r (bl_r (th_r ?_)))))))))))
             replace h := h H2 w14 hs
             replace hs := hs.here
             refine res1 (.inl rfl) Try.results7 (v := (vb false)) (by kernel_rfl) ?_
             exact ⟨false, rfl, h⟩
            ·replace h := h.2 hg5
             refine q1 (vp r3) (want1 rfl (yD 127 hg5)) (q1 (vp (some p1)) (want1 rfl (yD 127 hg5)) (q1 (vp (some p1)) (want1 rfl (yD 127 hg5)) (q1 (vp (some (p1.add 1))) (want1 rfl (yD 127 hg5)) ?_)))
             replace h := h H2 w14 hs
             replace hs := hs.here
             obtain ⟨v4, hv5, h⟩ := h
             refine stp (v := v4.v) (want1 rfl (yD 127 hg5)) (xl (Try.isAgg26 _) hv5) (q1 r10.v (want1 rfl (yD 127 hg5)) (q1 (vi t1) (want1 rfl (yD 127 hg5)) ?_))
             refine st_call (want1 rfl (yD 127 hg5)) (xc Try.call44) (h.mono ?_)
             rintro e w15 ⟨r16, rfl, hk, h⟩
             refine ⟨_, rfl, ?_⟩
             obtain ⟨hs, hb⟩ := hk.hh hs hb
             refine q1 (vb (!r16)) (want1 rfl (yD 127 hg5)) (q2 (vb (!r16)) (xF hg5) (wpL_nil (th_n ?_)))
             refine wpE_cond (t := (!r16)) (by kernel_rfl) (fun hc8 => ?_) (fun hc8 => ?_)
             ·replace h := h.1 hc8
              refine wpE_seq (rg (q0 (vb false) (wpL_nil (th_n (wpE_ret (bl_r (th_r (th_r (bl_r (th_r (res1 (.inl rfl) Try.results7 (v := (vb false)) (by kernel_rfl) ?_)))))))))))
              exact ⟨false, rfl, h⟩
             ·replace h := h.2 hc8
              refine wpE_skip (bl_n (th_n (rg (q0 (vi t1) (q0 (vi (IntKind.i64.wrap (t1 + 1))) (q0 (vi (IntKind.i64.wrap (t1 + 1))) (wpL_nil (th_n ?_))))))))
              exact ⟨((IntKind.i64.wrap (t1 + 1)), H2, w15), ⟨rfl, Has.mk (by kernel_rfl), hs, hb, h.1⟩, h.2⟩
           ·skip
            rcases Bool.eq_false_or_eq_true ((r14 != 0) || (r12 != 0)) with hg4 | hg4
            ·skip
             refine sk (yD 123 hg4) (sk (yD 123 hg4) (q2 (vb true) (xT hg4) (wpL_nil ?_)))
             exact ⟨true, _, hg4, hs, hb, Has.mk (by kernel_rfl)⟩
            ·skip
             refine q1 (vi r13) (want1 rfl (yD 123 hg4)) (q1 (vb (r13 != 0)) (want1 rfl (yD 123 hg4)) (q2 (vb (r13 != 0)) (xF hg4) (wpL_nil ?_)))
             exact ⟨false, _, hg4, hs, hb, Has.mk (by kernel_rfl)⟩
          ·skip
           rcases Bool.eq_false_or_eq_true (r14 != 0) with hg2 | hg2
           ·skip
            refine sk (yD 118 hg2) (sk (yD 118 hg2) (sk (yD 118 hg2) (q2 (vb true) (xT hg2) (wpL_nil ?_))))
            exact ⟨true, _, hg2, hs, hb, Has.mk (by kernel_rfl)⟩
           ·skip
            refine q1 (vi r12) (want1 rfl (yD 118 hg2)) ?_
            refine st_call (want1 rfl (yD 118 hg2)) (xc Try.call43) ((p_law08_num r12 w10).mono ?_)
            rintro e w13 ⟨he, hE⟩
            refine ⟨(vi r12), he.trans (by kernel_rfl), ?_⟩
            replace hs := hs.pure hE
            replace hb := hb.pure hE
            clear hE he
            refine q1 (vb (r12 != 0)) (want1 rfl (yD 118 hg2)) (q2 (vb (r12 != 0)) (xF hg2) (wpL_nil ?_))
            exact ⟨false, _, hg2, hs, hb, Has.mk (by kernel_rfl)⟩
       ·skip
        refine rg (q0 (vb r11) (q0 (vi t1) (q0 (vb (decide (t1 > 0))) (q0 (vb (decide (t1 > 0))) ?_))))
        refine wpL_join 5 (fun ρ w => ∃ x3 : Bool, ∃ H : Nat → Prop, Has ρ [(1, given1.v), (5, (vp r2)), (6, (vp r3)), (9, (vp r6)), (10, (vp (some p1))), (12, r9.v), (13, (vi t1)), (14, r10.v), (15, (vb r11)), (79, (vb r11)), (87, (vb x3))] ∧ Hst w0 H w H w ∧ HB H w [] ∧ m_law08_DeduceProofs_j5 given1 r2 r3 p1 t1 r10 r11 x3 w0 H w (fun y'0 H' w' => I2 y'0 H' w' ∧ mu2 y'0 w' < mu2 t1 wl2) K) ?_ ?_
        ·clear h hs hb
         rintro ρ w ⟨x3, H, hH, hs, hb, h⟩
         unfold m_law08_DeduceProofs_j5 at h
         refine wpL_has hH ?_
         clear hH
         refine q2 (vb (!(r11 == x3))) (x_bin (by kernel_rfl) (by kernel_rfl) (by kernel_rfl) (eqt_law08_DeduceProofs_neq_4 r11 x3 _)) (q0 (vb (!(r11 == x3))) ?_)
         refine wpL_join 8 (fun ρ wJ => ∃ b4'0 : Bool, ∃ HJ : Nat → Prop, ((!(r11 == x3)) = b4'0) ∧ Hst w0 H w HJ wJ ∧ HB HJ wJ [] ∧ Has ρ [(1, given1.v), (5, (vp r2)), (6, (vp r3)), (9, (vp r6)), (10, (vp (some p1))), (12, r9.v), (13, (vi t1)), (14, r10.v), (15, (vb r11)), (97, (vb (b4'0 || ((!r11) && (decide ((r10.len : Int) > 0))))))]) ?_ ?_
         ·clear hs hb
          rintro ρ w17 ⟨b4'0, H4, he0, hs, hb, hH⟩
          subst he0
          refine wpL_has hH ?_
          clear hH
          refine wpL_nil ?_
          replace h := h H4 w17 hs
          replace hs := hs.here
          refine th_n ?_
          exact ⟨((!(r11 == x3)) || ((!r11) && (decide ((r10.len : Int) > 0)))), H4, Has.mk (by kernel_rfl), hs, hb, h⟩
         ·skip
          rcases Bool.eq_false_or_eq_true (!(r11 == x3)) with hg9 | hg9
          ·skip
           refine sk (yD 89 hg9) (sk (yD 89 hg9) (sk (yD 89 hg9) (st_not (by kernel_rfl) (st_not (by kernel_rfl) (st_not (by kernel_rfl) (sk (yD 89 hg9) (q2 (vb true) (xT hg9) (wpL_nil ?_))))))))
           exact ⟨true, _, hg9, hs, hb, Has.mk (by kernel_rfl)⟩
          ·skip
           refine q1 (vb r11) (want1 rfl (yD 89 hg9)) (q1 (vb (!r11)) (want1 rfl (yD 89 hg9)) (q1 (vb (!r11)) (want1 rfl (yD 89 hg9)) ?_))
           refine wpL_join 4 (fun ρ wJ => ∃ b5'0 : Bool, ∃ HJ : Nat → Prop, ((!r11) = b5'0) ∧ Hst w0 H w HJ wJ ∧ HB HJ wJ [] ∧ Has ρ [(1, given1.v), (5, (vp r2)), (6, (vp r3)), (9, (vp r6)), (10, (vp (some p1))), (12, r9.v), (13, (vi t1)), (14, r10.v), (15, (vb r11)), (89, (vb (!(r11 == x3)))), (96, (vb (b5'0 && (decide ((r10.len : Int) > 0)))))]) ?_ ?_
           ·clear hs hb
            rintro ρ w18 ⟨b5'0, H5, he0, hs, hb, hH⟩
            subst he0
            refine wpL_has hH ?_
            clear hH
            refine q2 (vb ((!r11) && (decide ((r10.len : Int) > 0)))) (xF hg9) (wpL_nil ?_)
            exact ⟨false, _, hg9, hs, hb, Has.mk (by kernel_rfl)⟩
           ·skip
            rcases Bool.eq_false_or_eq_true (!r11) with hg11 | hg11
            ·skip
             refine q1 r10.v (want1 rfl (yD 92 hg11)) (q1 (vi (r10.len : Int)) (want1 rfl (yD 92 hg11)) (q1 (vb (decide ((r10.len : Int) > 0))) (want1 rfl (yD 92 hg11)) (stp (v := (vb (decide ((r10.len : Int) > 0)))) (want1 rfl (yD 89 hg9)) (xT hg11) (wpL_nil ?_))))
             exact ⟨true, _, hg11, hs, hb, Has.mk (by kernel_rfl)⟩
            ·skip
             refine sk (yD 92 hg11) (sk (yD 92 hg11) (sk (yD 92 hg11) (stp (v := (vb false)) (want1 rfl (yD 89 hg9)) (xF hg11) (wpL_nil ?_))))
             exact ⟨false, _, hg11, hs, hb, Has.mk (by kernel_rfl)⟩
        ·skip
         rcases Bool.eq_false_or_eq_true (decide (t1 > 0)) with hg12 | hg12
         ·replace h := h.1 hg12
          refine q1 r9.v (want1 rfl (yD 82 hg12)) (q1 (vi t1) (want1 rfl (yD 82 hg12)) ?_)
          obtain ⟨a4, hv7, h⟩ := h
          refine stp (v := (vp (some a4))) (want1 rfl (yD 82 hg12)) (x_indexAddr (s := r9) (k := .i64) (i := t1) (by kernel_rfl) (by kernel_rfl) (Try.runUnderlying70 _) (Try.sizeOf4 _) hv7) ?_
          obtain ⟨v5, hv6, h⟩ := h
          refine stp (v := (vb v5)) (want1 rfl (yD 82 hg12)) (xl (Try.isAgg4 _) hv6) (q2 (vb v5) (xT hg12) (wpL_nil ?_))
          exact ⟨v5, Hl2, Has.mk (by kernel_rfl), hs, hb, h⟩
         ·replace h := h.2 hg12
          refine sk (yD 82 hg12) (sk (yD 82 hg12) (sk (yD 82 hg12) (sk (yD 82 hg12) (q2 (vb false) (xF hg12) (wpL_nil ?_)))))
          exact ⟨false, Hl2, Has.mk (by kernel_rfl), hs, hb, h⟩
      ·replace h := h.2 hc5
       refine wpE_exit (th_x (th_x (bl_eq (th_n (wpE_seq (rg ?_))))))
       refine st_call (want0 rfl) (xc Try.call34) (h.mono ?_)
       rintro e w19 ⟨r17, rfl, hk, h⟩
       refine ⟨_, rfl, ?_⟩
       obtain ⟨hs, hb⟩ := hk.hh hs hb
       refine q0 (vb r17) (wpL_nil (th_n (wpE_ret (res1 (.inl rfl) Try.results7 (v := (vb r17)) (by kernel_rfl) ?_))))
       exact ⟨r17, rfl, h⟩
 ·skip
  refine rg (q0 l1.v ?_)
  refine st_call (want0 rfl) (xc Try.call33) (h.mono ?_)
  rintro e w20 ⟨r18, rfl, hk, h⟩
  refine ⟨_, rfl, ?_⟩
  obtain ⟨hs, hb⟩ := hk.hh hs hb
  refine q0 (vb r18) ?_
  refine wpL_join 4 (fun ρ wJ => ∃ b6'0 : Bool, ∃ HJ : Nat → Prop, (r18 = b6'0) ∧ Hst w0 None w20 HJ wJ ∧ HB HJ wJ [] ∧ Has ρ [(0, l1.v), (1, given1.v), (26, (vb (b6'0 || (decide ((given1.len : Int) > 20)))))]) ?_ ?_
  ·clear hs hb
   rintro ρ w21 ⟨b6'0, H6, he0, hs, hb, hH⟩
   subst he0
   refine wpL_has hH ?_
   clear hH
   refine wpL_nil ?_
   replace h := h H6 w21 hs
   replace hs := hs.here
   refine th_n ?_
   exact ⟨(r18 || (decide ((given1.len : Int) > 20))), H6, Has.mk (by kernel_rfl), hs, hb, h⟩
  ·skip
   rcases Bool.eq_false_or_eq_true r18 with hg14 | hg14
   ·skip
    refine sk (yD 22 hg14) (sk (yD 22 hg14) (sk (yD 22 hg14) (q2 (vb true) (xT hg14) (wpL_nil ?_))))
    exact ⟨true, _, hg14, hs, hb, Has.mk (by kernel_rfl)⟩
   ·skip
    refine q1 given1.v (want1 rfl (yD 22 hg14)) (q1 (vi (given1.len : Int)) (want1 rfl (yD 22 hg14)) (q1 (vb (decide ((given1.len : Int) > 20))) (want1 rfl (yD 22 hg14)) (q2 (vb (decide ((given1.len : Int) > 20))) (xF hg14) (wpL_nil ?_))))
    exact ⟨false, _, hg14, hs, hb, Has.mk (by kernel_rfl)⟩
end Go.Proofs
end
section
open Go Go.SE
namespace Go.Proofs
attribute [local irreducible] Calls
structure KnAt (w0 : World) (H : Nat → Prop) (w : World) (p k : Addr) (L : Sp.Pool) (G : List Int) (S : List Sp.Way) (FP F : Nat → Prop) : Prop where
 pool : PoolAt w p L FP
 know : KnowAt w k p G S F
 pure : Pure w0 w
 oP : ∀ b, FP b → w0.heap.size ≤ b ∧ ¬ H b
 oF : ∀ b, F b → w0.heap.size ≤ b ∧ ¬ H b ∧ ¬ FP b
 hs : Hst w0 H w H w
section
variable {w0 w w' : World} {H H' : Nat → Prop} {p k : Addr} {L L' : Sp.Pool} {G G' : List Int} {S S' : List Sp.Way} {FP FP' F F' : Nat → Prop}
theorem KnAt.pureE (h : KnAt w0 H w p k L G S FP F) (E : Pure w w') : KnAt w0 H w' p k L G S FP F := ⟨h.pool.pure E, h.know.pure E, h.pure.trans E, h.oP, h.oF, h.hs.again E.keptP⟩
theorem KnAt.hst (h : KnAt w0 H w p k L G S FP F) (hs : Hst w0 H w H' w') : KnAt w0 H' w' p k L G S FP F := by
 have x1 := hs.disj (G := FP) (fun b hb => ⟨h.pool.lt hb, (h.oP b hb).2⟩)
 have x2 := hs.disj (G := F) (fun b hb => ⟨h.know.lt hb, (h.oF b hb).2.1⟩)
 exact ⟨h.pool.ext hs.ext x1, h.know.ext hs.ext x2, h.pure.hst hs, fun b hb => ⟨(h.oP b hb).1, x1 b hb⟩, fun b hb => ⟨(h.oF b hb).1, x2 b hb, (h.oF b hb).2.2⟩, hs.here⟩
theorem KnAt.make (h : KnAt w0 H w p k L G S FP F) (hP : PoolAt w' p L' FP') (E : Ext FP w w') (hF : ∀ b, FP' b → FP b ∨ w.heap.size ≤ b) : Kept H w w' ∧ KnAt w0 H w' p k L' G S FP' F := by
 have hk : Kept H w w' := E.kept (fun b hb hf => (h.oP b hf).2 hb)
 refine ⟨hk, hP, h.know.ext E (fun b hb => (h.oF b hb).2.2), h.pure.trans' E (fun i hi hb => by have := (h.oP i hb).1; omega), fun b hb => ?_, fun b hb => ⟨(h.oF b hb).1, (h.oF b hb).2.1, fun hx => ?_⟩, h.hs.again hk⟩
 ·rcases hF b hb with h1 | h1
  ·exact h.oP b h1
  ·exact ⟨by have := h.pure.size; omega, fun hh => by have := h.hs.lt b hh; omega⟩
 ·rcases hF b hx with h1 | h1
  ·exact (h.oF b hb).2.2 h1
  ·have := h.know.lt hb; omega
theorem KnAt.add (h : KnAt w0 H w p k L G S FP F) (hK : KnowAt w' k p G' S' F') (E : Ext F w w') (hF : ∀ b, F' b → F b ∨ w.heap.size ≤ b) : Kept H w w' ∧ KnAt w0 H w' p k L G' S' FP F' := by
 have hk : Kept H w w' := E.kept (fun b hb hf => (h.oF b hf).2.1 hb)
 refine ⟨hk, h.pool.ext E (fun b hb hf => (h.oF b hf).2.2 hb), hK, h.pure.trans' E (fun i hi hb => by have := (h.oF i hb).1; omega), h.oP, fun b hb => ?_, h.hs.again hk⟩
 rcases hF b hb with h1 | h1
 ·exact h.oF b h1
 ·exact ⟨by have := h.pure.size; omega, fun hh => by have := h.hs.lt b hh; omega, fun hh => by have := h.pool.lt hh; omega⟩
end
theorem tm_box {w : World} {p : Addr} {T : TypeId} (t : Int) (h : Box w p [.int .i64 t] T) : Lst (· = p.block) w 1 ⟨some p, 1, 1⟩ (tmr [t]) := by
 refine ⟨by simp [tmr], fun i hi => ?_⟩
 have hi0 : i = 0 := by simpa [tmr] using hi
 subst hi0
 refine ⟨p, ⟨by omega, by simp, p, rfl, by simp [Addr.add]⟩, rfl, fun j hj => ?_⟩
 have hj0 : j = 0 := by simpa [tmr] using hj
 subst hj0
 have := h.cell0
 simpa [tmr, Addr.add] using this
theorem c_live8 (w0 : World) : Calls Try.prog 34 #[] w0 (fun e w' => ∃ r : Bool, e = .returned (.bool r) ∧ (r = true ∧ Pure w0 w')) := by
 refine w_law08_live w0 (fun r w' => r = true ∧ Pure w0 w') ?_
 unfold m_law08_live
 refine (c_New w0).mono ?_
 rintro _ w1 ⟨_, rfl, p, rfl, E1, FP1, hP1, hF1⟩
 refine ⟨_, rfl, E1.keptP, ?_⟩
 refine (c_ded_New p w1).mono ?_
 rintro _ w2 ⟨_, rfl, k, F, rfl, hk2, E2, hF2⟩
 refine ⟨_, rfl, E2.keptP, Br.f rfl ?_⟩
 have A2 : KnAt w0 None w2 p k [] [] [] FP1 F := ⟨hP1.pure E2, hk2, E1.trans E2, fun b hb => ⟨hF1 b hb, fun h => h⟩, fun b hb => ⟨by have := hF2 b hb; have := E1.size; omega, fun h => h, fun h => by have := hF2 b hb; have := hP1.lt h; omega⟩, (Hst.start w0).again (E1.trans E2).keptP⟩
 intro H1 w3 hs3
 have A3 := A2.hst hs3
 refine (c_Num p w3 A3.pool Sp.Wf.nil.ok 1).mono ?_
 rintro _ w4 ⟨r3, r4, rfl, hr, FP4, hP4, E4, hF4⟩
 rw [show (⟨2, 0, 0, 1, ⟨#[]⟩, 0, 0⟩ : Sp.Node) = Sp.l8a from rfl, Sp.l8m1] at hr hP4; cases hr
 obtain ⟨k4, A4⟩ := A3.make hP4 E4 hF4
 refine ⟨_, _, rfl, k4, ?_⟩
 refine (c_Name p w4 A4.pool Sp.l8w1.ok 2).mono ?_
 rintro _ w5 ⟨r5, r6, rfl, hr, FP5, hP5, E5, hF5⟩
 rw [show (⟨1, 2, 0, 0, ⟨#[]⟩, 0, 0⟩ : Sp.Node) = Sp.l8b from rfl, Sp.l8m2] at hr hP5; cases hr
 obtain ⟨k5, A5⟩ := A4.make hP5 E5 hF5
 refine ⟨_, _, rfl, k5, ?_⟩
 refine (c_Pair p w5 A5.pool Sp.l8w2.ok 1 2).mono ?_
 rintro _ w6 ⟨r7, r8, rfl, hr, FP6, hP6, E6, hF6⟩
 rw [show (⟨4, 0, 0, 0, ⟨#[]⟩, 1, 2⟩ : Sp.Node) = Sp.l8c from rfl, Sp.l8m3] at hr hP6; cases hr
 obtain ⟨k6, A6⟩ := A5.make hP6 E6 hF6
 refine ⟨_, _, rfl, k6, ?_⟩
 refine (c_Sign p w6 A6.pool Sp.l8w3.ok 0 3).mono ?_
 rintro _ w7 ⟨r9, r10, rfl, hr, FP7, hP7, E7, hF7⟩
 rw [show (⟨7, 0, 0, 0, ⟨#[]⟩, 3, 0⟩ : Sp.Node) = Sp.l8s from rfl, Sp.l8m4] at hr hP7; cases hr
 obtain ⟨k7, A7⟩ := A6.make hP7 E7 hF7
 refine ⟨_, _, rfl, k7, ?_⟩
 refine (c_Hash p w7 A7.pool Sp.l8w4.ok 1).mono ?_
 rintro _ w8 ⟨r11, r12, rfl, hr, FP8, hP8, E8, hF8⟩
 rw [show (⟨5, 0, 0, 0, ⟨#[]⟩, 1, 0⟩ : Sp.Node) = Sp.l8h from rfl, Sp.l8m5] at hr hP8; cases hr
 obtain ⟨k8, A8⟩ := A7.make hP8 E8 hF8
 refine ⟨_, _, rfl, k8, ?_⟩
 refine (c_Key p w8 A8.pool Sp.l8w5.ok 0).mono ?_
 rintro _ w9 ⟨r13, r14, rfl, hr, FP9, hP9, E9, hF9⟩
 rw [show (⟨6, 0, 0, 0, ⟨#[]⟩, 0, 0⟩ : Sp.Node) = Sp.l8k from rfl, Sp.l8m6] at hr hP9; cases hr
 obtain ⟨k9, A9⟩ := A8.make hP9 E9 hF9
 refine ⟨_, _, rfl, k9, ?_⟩
 refine (c_Sign p w9 A9.pool Sp.l8w6.ok 0 1).mono ?_
 rintro _ w10 ⟨r15, r16, rfl, hr, FP, hP10, E10, hF10⟩
 rw [show (⟨7, 0, 0, 0, ⟨#[]⟩, 1, 0⟩ : Sp.Node) = Sp.l8u from rfl, Sp.l8m7] at hr hP10; cases hr
 obtain ⟨k10, A10⟩ := A9.make hP10 E10 hF10
 refine ⟨_, _, rfl, k10, ?_⟩
 have hW := Sp.l8w7
 refine (c_ded_Add k p 4 w10 A10.know A10.pool hW (fun b hb => (A10.oF b hb).2.2) (Sp.KnowOk.nil _)).mono ?_
 rintro _ w11 ⟨_, rfl, rfl, S1, F1, hK1, ok1, X11, f11⟩
 rw [show Sp.giveT Sp.l87 [] 4 = [4] by unfold Sp.giveT; rw [if_pos Sp.l8in.1]; rfl] at hK1 ok1
 obtain ⟨k11, A11⟩ := A10.add hK1 X11 f11
 refine ⟨_, rfl, k11, ?_⟩
 have hs1 : ∀ t, t ∈ Sp.wkeys S1 ↔ Sp.Seen Sp.l87 [4] t := ok1.seen_iff
 refine (c_ded_Proof k p 5 w11 hW ok1 A11.know A11.pool).mono ?_
 rintro _ w12 ⟨r18, r19, rfl, l, hr18, hd19, _, hpf⟩
 have h19 := hd19.2 Sp.l8hash
 subst h19
 obtain ⟨hne, hfol, hnd, hlast, _⟩ := hpf rfl
 refine ⟨_, _, rfl, hr18.kept, ?_⟩
 have A12 := A11.pureE hr18.pure
 intro p1 w13 h13
 have E13 : Pure w12 w13 := Ext.new h13
 have A13 := A12.pureE E13
 have hfew : l.length ≤ 7 := by
  have := Sp.pool_few (L := Sp.l87) hnd (fun t ht => by
   obtain ⟨s, hs, rfl⟩ := List.mem_map.1 ht
   obtain ⟨i, hi, rfl⟩ := List.getElem_of_mem hs
   exact Sp.fol_in (hfol i hi))
  simpa [Sp.l87] using this
 refine (c_ded_Check p _ r18 [4] l 5 w13 A13.pool hW.ok (tm_box 4 (Box.of_new h13)) (hr18.rows.pure E13).lst (by simp) (by omega)).mono ?_
 rintro _ w14 ⟨r20, r21, rfl, hch, E14⟩
 have hc0 : Sp.check8 Sp.l87 [4] l 5 = (0, 0) := by
  unfold Sp.check8
  rw [Sp.badAt_none hfol]
  have : l.length ≠ 0 := fun h => hne (List.length_eq_zero_iff.1 h)
  simp [this, hlast]
 rw [hc0] at hch; cases hch
 have A14 := A13.pureE E14
 refine ⟨_, _, rfl, E14.keptP, ?_⟩
 refine (c_ded_Derives k p 7 w14 hW ok1 A14.know A14.pool).mono ?_
 rintro _ w15 ⟨r22, rfl, hd22, E15⟩
 have h22 : r22 = false := by
  cases r22 with
  | false => rfl
  | true =>
   refine absurd (hd22.1 rfl) (Sp.l8u_no (fun h => ?_) (fun h => ?_))
   ·have := Sp.l8see6 ((hs1 7).1 h); omega
   ·have := Sp.l8see6 ((hs1 6).1 h); omega
 subst h22
 have A15 := A14.pureE E15
 refine ⟨_, rfl, E15.keptP, ?_⟩
 refine (c_ded_Add k p 6 w15 A15.know A15.pool hW (fun b hb => (A15.oF b hb).2.2) ok1).mono ?_
 rintro _ w16 ⟨_, rfl, rfl, S2, F2, hK2, ok2, X16, f16⟩
 rw [show Sp.giveT Sp.l87 [4] 6 = [4, 6] by unfold Sp.giveT; rw [if_pos Sp.l8in.2.1]; rfl] at hK2 ok2
 obtain ⟨k16, A16⟩ := A15.add hK2 X16 f16
 refine ⟨_, rfl, k16, ?_⟩
 have hs2 : ∀ t, t ∈ Sp.wkeys S2 ↔ Sp.Seen Sp.l87 [4, 6] t := ok2.seen_iff
 have hnil : Lst (fun _ => False) w16 1 Sl.nil (tmr []) := ⟨rfl, fun i hi => by simp [tmr] at hi⟩
 have hnil4 : Lst (fun _ => False) w16 4 Sl.nil (([] : List Sp.Step).map strow) := ⟨rfl, fun i hi => by simp at hi⟩
 refine (c_ded_Check p Sl.nil Sl.nil [] [] 5 w16 A16.pool hW.ok hnil hnil4 (by simp) (by simp)).mono ?_
 rintro _ w17 ⟨r24, r25, rfl, hch, E17⟩
 have hc1 : Sp.check8 Sp.l87 [] [] 5 = (81, 0) := by kernel_rfl
 rw [hc1] at hch; cases hch
 have A17 := A16.pureE E17
 refine ⟨_, _, rfl, E17.keptP, ?_⟩
 have l18 : r18.len = l.length := by rw [hr18.rows.len]; simp
 rintro y1 rfl
 refine Br.t ?_ ?_
 ·have hpos : 0 < l.length := List.length_pos_iff.2 hne
  simp [Sp.l8in.1, Sp.l8in.2.1, l18, hpos]
 intro H6 w27 hs27
 have A27 := A17.hst hs27
 refine (c_ded_Derives k p 7 w27 hW ok2 A27.know A27.pool).mono ?_
 rintro _ w34 ⟨r30, rfl, hd30, E34⟩
 have h30 := hd30.2 (Sp.l8u_yes ((hs2 6).2 (.given (by simp))))
 subst h30
 have A34 := A27.pureE E34
 refine ⟨_, rfl, E34.keptP, ?_⟩
 unfold m_law08_live_j1
 refine Br.t rfl ?_
 refine (c_ded_Sees k p 7 w34 A34.know).mono ?_
 rintro _ w33 ⟨r29, rfl, rfl, E33⟩
 have A33 := A34.pureE E33
 refine ⟨_, rfl, E33.keptP, ?_⟩
 have n7 : 7 ∉ Sp.wkeys S2 := fun h => by have := Sp.l8see (fun t ht => by simp at ht; exact ht) ((hs2 7).1 h); omega
 rw [show (!decide ((7 : Int) ∈ Sp.wkeys S2)) = true by simp [n7]]
 unfold m_law08_live_j2
 refine Br.t rfl ?_
 refine (c_ded_Sees k p 1 w33 A33.know).mono ?_
 rintro _ w32 ⟨r28, rfl, rfl, E32⟩
 have A32 := A33.pureE E32
 refine ⟨_, rfl, E32.keptP, ?_⟩
 have y1 : (1 : Int) ∈ Sp.wkeys S2 := (hs2 1).2 (Sp.l8seen (by simp))
 rw [decide_eq_true y1]
 unfold m_law08_live_j3
 refine Br.t rfl ?_
 intro H7 w28 hs28
 have A28 := A32.hst hs28
 refine (c_ded_Given k p w28 A28.know (by simp)).mono ?_
 rintro _ w31 ⟨r27, rfl, hr27⟩
 have A31 := A28.pureE hr27.pure
 refine ⟨_, rfl, hr27.kept, ?_⟩
 have l27 : r27.len = 2 := by rw [hr27.rows.len]; rfl
 rw [l27]
 unfold m_law08_live_j4
 refine Br.t rfl ?_
 refine (c_ded_Add k p 99 w31 A31.know A31.pool hW (fun b hb => (A31.oF b hb).2.2) ok2).mono ?_
 rintro _ w29 ⟨_, rfl, rfl, S3, F3, hK3, ok3, X29, f29⟩
 obtain ⟨k29, A29⟩ := A31.add hK3 X29 f29
 refine ⟨_, rfl, k29, ?_⟩
 intro w30 hs30
 exact ⟨by simp [Sp.l8in.2.2], (A29.hst hs30).pure⟩
end Go.Proofs
end
section
open Go Go.SE
namespace Go.Sp
def poolStep (q : Pool × List Int) (t : Tree) : Pool × List Int := ((of q.1 t).2.2, q.2 ++ [(of q.1 t).1])
def poolAll (ts : List Tree) : Pool × List Int := ts.foldl poolStep ([], [])
theorem cntAll_snoc (ts : List Tree) (t : Tree) : cntAll (ts ++ [t]) = cntAll ts + cnt t := by
 induction ts with
 | nil => simp [cntAll]
 | cons a ts ih => rw [List.cons_append, cntAll, cntAll, ih]; omega
theorem make_few8 (L : Pool) (n : Node) : (make L n).2.2.length ≤ L.length + 1 := by
 rcases make_pool L n with e | ⟨_, e⟩ <;> rw [e] <;> simp
theorem grow_few8 (t : Tree) : ∀ L, (grow L t).2.2.length ≤ L.length + cnt t := by
 induction t using Tree.ind with
 | h k f t u x ks ih =>
  have : ∀ (ks : List Tree), (∀ i (hi : i < ks.length), ∀ L, (grow L ks[i]).2.2.length ≤ L.length + cnt ks[i]) → ∀ n i L, (growAll n i L ks).2.2.length ≤ L.length + 1 + cntAll ks := by
   intro ks
   induction ks with
   | nil => intro _ n i L; unfold growAll; have := make_few8 L n; simp only [cntAll]; omega
   | cons t ts iht =>
    intro hh n i L
    have h0 := hh 0 (by simp) L
    simp only [List.getElem_cons_zero] at h0
    unfold growAll
    simp only [cntAll]
    split
    ·simp only; omega
    ·have := iht (fun i hi => hh (i + 1) (by simpa using hi)) (if i = 0 then { n with a := (grow L t).1 } else { n with b := (grow L t).1 }) (i + 1) (grow L t).2.2
     omega
  intro L
  have := this ks ih ⟨k, f, t, u, x, 0, 0⟩ 0 L
  unfold grow
  rw [cnt]; omega
theorem of_few8 (L : Pool) (t : Tree) : (of L t).2.2.length ≤ L.length + cnt t := by
 have := grow_few8 t L
 unfold of
 split
 ·simp only; omega
 ·split
  ·simp only; omega
  ·exact this
theorem poolAll_ok (ts : List Tree) : Wf (poolAll ts).1 ∧ (poolAll ts).1.length ≤ cntAll ts ∧ (poolAll ts).2.length = ts.length := by
 have : ∀ (ts : List Tree) q, Wf q.1 → Wf (ts.foldl poolStep q).1 ∧ (ts.foldl poolStep q).1.length ≤ q.1.length + cntAll ts ∧ (ts.foldl poolStep q).2.length = q.2.length + ts.length := by
  intro ts
  induction ts with
  | nil => intro q h; exact ⟨h, by simp [cntAll], by simp⟩
  | cons t ts ih =>
   intro q h
   obtain ⟨h1, h2, h3⟩ := ih (poolStep q t) (of_wf h t)
   have := of_few8 q.1 t
   refine ⟨h1, ?_, ?_⟩
   ·rw [List.foldl_cons, cntAll]; unfold poolStep at h2 ⊢; simp only at h2; omega
   ·rw [List.foldl_cons, h3]; simp [poolStep]; omega
 obtain ⟨h1, h2, h3⟩ := this ts ([], []) Wf.nil
 exact ⟨h1, by unfold poolAll; simpa using h2, by unfold poolAll; simpa using h3⟩
end Go.Sp
namespace Go.Proofs
attribute [local irreducible] Calls
theorem c_law08_wide {S : Nat → Prop} (ts : List Sp.Tree) (s : Sl) (w0 : World) (hT : TreeAt S w0 s (.mk 0 0 0 0 ⟨#[]⟩ ts)) (hS : ∀ b, S b → b < w0.heap.size) :
  Calls Try.prog 33 #[s.v] w0 (fun e w' => ∃ r : Bool, e = .returned (.bool r) ∧ ((r = false → ts.length ≤ 12 ∧ Sp.cntAll ts ≤ 400) ∧ Pure w0 w')) := by
 refine w_law08_wide _ w0 (fun r w' => (r = false → ts.length ≤ 12 ∧ Sp.cntAll ts ≤ 400) ∧ Pure w0 w') ?_
 unfold m_law08_wide
 cases hT with
 | mk _ _ _ _ _ _ _ rs len fit row kid =>
 refine ⟨fun n i w' => ∃ j : Nat, i = j ∧ j ≤ ts.length ∧ j ≤ 13 ∧ n = (Sp.cntAll (ts.take j) : Nat) ∧ n < 400 ∧ Pure w0 w', fun _ i _ => (14 - i).toNat, ⟨0, rfl, Nat.zero_le _, by omega, by simp [Sp.cntAll], by omega, Ext.refl _⟩, ?_⟩
 rintro n _ wl ⟨j, rfl, hj, hj13, hn, hn4, E⟩
 unfold m_law08_wide_l1
 refine ⟨fun h => ?_, fun h => ⟨fun hr => ?_, E⟩⟩
 ·rw [Bool.and_eq_true] at h
  have hlt := lt_of_dec len h.1
  have h12 := of_decide_eq_true h.2
  obtain ⟨a, hat, hSa, hrow⟩ := row j hlt
  have hkid := kid j hlt
  have htk : ts.take (j + 1) = ts.take j ++ [ts[j]] := List.take_succ_eq_append_getElem hlt
  have hsn := Sp.cntAll_snoc (ts.take j) ts[j]
  rw [← htk] at hsn
  generalize ts[j] = x at *
  generalize rs j = sx at *
  obtain ⟨xk, xf, xt, xu, xx, xks⟩ := x
  have hrl : Row wl a (trow (.mk xk xf xt xu xx xks) sx) := E.row hrow (fun h => h)
  refine ⟨a, hat, _, _, _, _, _, sx, hrl, ?_⟩
  refine (c_ref05_Parts (.mk xk xf xt xu xx xks) sx 400 wl (by omega) (by omega) (hkid.pure E) (fun b hb => by have := hS b hb; have := E.size; omega)).mono ?_
  rintro _ w1 ⟨r, rfl, rfl, E1⟩
  obtain ⟨p1, p2, p3⟩ := Sp.parts_facts (.mk xk xf xt xu xx xks) 400 (by omega)
  generalize Sp.parts 400 (.mk xk xf xt xu xx xks) = r at *
  refine ⟨r, rfl, ?_⟩
  rw [IntWalk.i64_in _ (by omega), IntWalk.i64_in _ (by omega)]
  refine ⟨fun h => ⟨(fun h => by cases h), E.trans E1⟩, fun h => ?_⟩
  have h := of_decide_eq_false h
  have hc := p3 (by omega)
  refine ⟨⟨j + 1, by omega, hlt, by omega, ?_, by omega, E.trans E1⟩, by show (14 - ((j : Int) + 1)).toNat < (14 - (j : Int)).toNat; omega⟩
  rw [hsn]; omega
 ·have hr := of_decide_eq_false hr
  have hjl : j = ts.length := by
   rw [Bool.and_eq_false_iff] at h
   rcases h with h | h
   ·exact eq_of_dec len hj h
   ·have := of_decide_eq_false h; omega
  subst hjl
  rw [List.take_length] at hn
  exact ⟨by omega, by omega⟩
structure Pl3 (w0 : World) (H : Nat → Prop) (w : World) (p q : Addr) (L1 L2 : Sp.Pool) (t : Sl) (ids : List Int) (F1 F2 : Nat → Prop) : Prop where
 pure : Pure w0 w
 pool : PoolAt w p L1 F1
 ref : PoolR w q L2 F2
 ts : Rws w 41 1 t (tmr ids)
 o1 : ∀ b, F1 b → w0.heap.size ≤ b ∧ ¬ H b ∧ ¬ F2 b ∧ ¬ t.blk b
 o2 : ∀ b, F2 b → w0.heap.size ≤ b ∧ ¬ H b ∧ ¬ t.blk b
 o3 : ∀ b, t.blk b → w0.heap.size ≤ b ∧ ¬ H b
section
variable {w0 w w' : World} {H H' : Nat → Prop} {p q : Addr} {L1 L2 : Sp.Pool} {t : Sl} {ids : List Int} {F1 F2 : Nat → Prop}
theorem Pl3.pureE (h : Pl3 w0 H w p q L1 L2 t ids F1 F2) (E : Pure w w') : Pl3 w0 H w' p q L1 L2 t ids F1 F2 := ⟨h.pure.trans E, h.pool.pure E, h.ref.pure E, h.ts.pure E, h.o1, h.o2, h.o3⟩
theorem Pl3.hst (h : Pl3 w0 H w p q L1 L2 t ids F1 F2) (hs : Hst w0 H w H' w') : Pl3 w0 H' w' p q L1 L2 t ids F1 F2 := by
 have d : ∀ b, b < w.heap.size → ¬ H b → ¬ H' b := fun b h1 h2 => hs.disj (G := (· = b)) (fun c e => by subst e; exact ⟨h1, h2⟩) b rfl
 have d1 : ∀ b, F1 b → ¬ H' b := fun b hb => d b (h.pool.lt hb) (h.o1 b hb).2.1
 have d2 : ∀ b, F2 b → ¬ H' b := fun b hb => d b (h.ref.lt hb) (h.o2 b hb).2.1
 have d3 : ∀ b, t.blk b → ¬ H' b := fun b hb => d b (h.ts.lt hb) (h.o3 b hb).2
 exact ⟨h.pure.hst hs, h.pool.ext hs.ext d1, h.ref.ext hs.ext d2, h.ts.ext hs.ext d3, fun b hb => ⟨(h.o1 b hb).1, d1 b hb, (h.o1 b hb).2.2⟩, fun b hb => ⟨(h.o2 b hb).1, d2 b hb, (h.o2 b hb).2.2⟩, fun b hb => ⟨(h.o3 b hb).1, d3 b hb⟩⟩
theorem Pl3.of1 (h : Pl3 w0 H w p q L1 L2 t ids F1 F2) (hH : ∀ b, H b → b < w.heap.size) {L : Sp.Pool} {F : Nat → Prop} (hP : PoolAt w' p L F) (hE : Ext F1 w w') (hF : ∀ b, F b → F1 b ∨ w.heap.size ≤ b) : Pl3 w0 H w' p q L L2 t ids F F2 := by
 refine ⟨h.pure.trans' hE (fun i hi hb => by have := (h.o1 i hb).1; omega), hP, h.ref.ext hE (fun b hb h1 => (h.o1 b h1).2.2.1 hb), h.ts.ext hE (fun b hb h1 => (h.o1 b h1).2.2.2 hb), fun b hb => ?_, h.o2, h.o3⟩
 rcases hF b hb with h1 | h1
 ·exact h.o1 b h1
 ·exact ⟨by have := h.pure.size; omega, fun hh => by have := hH b hh; omega, fun hh => by have := h.ref.lt hh; omega, fun hh => by have := h.ts.lt hh; omega⟩
theorem Pl3.of2 (h : Pl3 w0 H w p q L1 L2 t ids F1 F2) (hH : ∀ b, H b → b < w.heap.size) {L : Sp.Pool} {F : Nat → Prop} (hP : PoolR w' q L F) (hE : Ext F2 w w') (hF : ∀ b, F b → F2 b ∨ w.heap.size ≤ b) : Pl3 w0 H w' p q L1 L t ids F1 F := by
 refine ⟨h.pure.trans' hE (fun i hi hb => by have := (h.o2 i hb).1; omega), h.pool.ext hE (fun b hb h1 => (h.o1 b hb).2.2.1 h1), hP, h.ts.ext hE (fun b hb h1 => (h.o2 b h1).2.2 hb), fun b hb => ?_, fun b hb => ?_, h.o3⟩
 ·refine ⟨(h.o1 b hb).1, (h.o1 b hb).2.1, fun hh => ?_, (h.o1 b hb).2.2.2⟩
  rcases hF b hh with h1 | h1
  ·exact (h.o1 b hb).2.2.1 h1
  ·have := h.pool.lt hb; omega
 ·rcases hF b hb with h1 | h1
  ·exact h.o2 b h1
  ·exact ⟨by have := h.pure.size; omega, fun hh => by have := hH b hh; omega, fun hh => by have := h.ts.lt hh; omega⟩
theorem Pl3.of3 (h : Pl3 w0 H w p q L1 L2 t ids F1 F2) (hH : ∀ b, H b → b < w.heap.size) {t' : Sl} {ids' : List Int} (hP : Rws w' 41 1 t' (tmr ids')) (hE : Ext t.blk w w') (hF : ∀ b, t'.blk b → t.blk b ∨ w.heap.size ≤ b) : Pl3 w0 H w' p q L1 L2 t' ids' F1 F2 := by
 refine ⟨h.pure.trans' hE (fun i hi hb => by have := (h.o3 i hb).1; omega), h.pool.ext hE (fun b hb h1 => (h.o1 b hb).2.2.2 h1), h.ref.ext hE (fun b hb h1 => (h.o2 b hb).2.2 h1), hP, fun b hb => ?_, fun b hb => ?_, fun b hb => ?_⟩
 ·refine ⟨(h.o1 b hb).1, (h.o1 b hb).2.1, (h.o1 b hb).2.2.1, fun hh => ?_⟩
  rcases hF b hh with h1 | h1
  ·exact (h.o1 b hb).2.2.2 h1
  ·have := h.pool.lt hb; omega
 ·refine ⟨(h.o2 b hb).1, (h.o2 b hb).2.1, fun hh => ?_⟩
  rcases hF b hh with h1 | h1
  ·exact (h.o2 b hb).2.2 h1
  ·have := h.ref.lt hb; omega
 ·rcases hF b hb with h1 | h1
  ·exact h.o3 b h1
  ·exact ⟨by have := h.pure.size; omega, fun hh => by have := hH b hh; omega⟩
end
theorem c_law08_pools {S : Nat → Prop} (ts : List Sp.Tree) (s : Sl) (w0 : World) (hT : TreeAt S w0 s (.mk 0 0 0 0 ⟨#[]⟩ ts)) (hS : ∀ b, S b → b < w0.heap.size) (hn : ts.length ≤ 12) :
  Calls Try.prog 35 #[s.v] w0 (fun e w' => ∃ r1 : Option Addr, ∃ r2 : Option Addr, ∃ r3 : Sl, ∃ r4 : Bool, e = .returned (.tuple #[.pointer r1, .pointer r2, r3.v, .bool r4]) ∧ ∃ p q F1 F2, r1 = some p ∧ r2 = some q ∧ r4 = true ∧ Pl3 w0 None w' p q (Sp.poolAll ts).1 (Sp.poolAll ts).1 r3 (Sp.poolAll ts).2 F1 F2) := by
 suffices key : ∀ K : Option Addr → Option Addr → Sl → Bool → World → Prop, (∀ p q F1 F2 H r3 w', Pl3 w0 H w' p q (Sp.poolAll ts).1 (Sp.poolAll ts).1 r3 (Sp.poolAll ts).2 F1 F2 → K (some p) (some q) r3 true w') → m_law08_pools s w0 K from
  w_law08_pools _ w0 _ (key _ (fun p q F1 F2 H r3 w' h => ⟨p, q, F1, F2, rfl, rfl, rfl, h.pure, h.pool, h.ref, h.ts, fun b hb => ⟨(h.o1 b hb).1, id, (h.o1 b hb).2.2⟩, fun b hb => ⟨(h.o2 b hb).1, id, (h.o2 b hb).2.2⟩, fun b hb => ⟨(h.o3 b hb).1, id⟩⟩))
 intro K hK
 have hnil : ∀ b, Sl.nil.blk b → False := fun b hb => by obtain ⟨a, h, _⟩ := hb; cases h
 cases hT with
 | mk _ _ _ _ _ _ _ rs len fit row kid =>
 unfold m_law08_pools
 refine (c_New w0).mono ?_
 rintro _ w1 ⟨_, rfl, p, rfl, E1, F1, hP1, hF1⟩
 refine ⟨_, rfl, E1.keptP, ?_⟩
 refine (c_ref05_New w1).mono ?_
 rintro _ w2 ⟨_, rfl, q, F2, rfl, hP2, E2, hF2⟩
 refine ⟨_, rfl, E2.keptP, Br.f rfl ?_⟩
 have S0 : Pl3 w0 None w2 p q [] [] Sl.nil [] F1 F2 := ⟨E1.trans E2, hP1.pure E2, hP2, Rws.nil _ _ _,
  fun b hb => ⟨hF1 b hb, id, fun h2 => by have := hF2 b h2; have := hP1.lt hb; omega, hnil b⟩, fun b hb => ⟨by have := hF2 b hb; have := E1.size; omega, id, hnil b⟩, fun b hb => (hnil b hb).elim⟩
 refine ⟨fun t i H w' => ∃ j : Nat, i = j ∧ j ≤ ts.length ∧ ∃ F1 F2, Pl3 w0 H w' p q (Sp.poolAll (ts.take j)).1 (Sp.poolAll (ts.take j)).1 t (Sp.poolAll (ts.take j)).2 F1 F2, fun _ i _ => ((ts.length : Int) - i).toNat, ⟨0, rfl, Nat.zero_le _, F1, F2, S0⟩, ?_⟩
 rintro t _ Hl wl hl ⟨j, rfl, hj, F1, F2, hq⟩
 unfold m_law08_pools_l1
 refine ⟨fun h => ?_, fun h => ?_⟩
 ·have hlt := lt_of_dec len h
  have htk : ts.take (j + 1) = ts.take j ++ [ts[j]] := List.take_succ_eq_append_getElem hlt
  obtain ⟨hW, _, hlens⟩ := Sp.poolAll_ok (ts.take j)
  rw [List.length_take, Nat.min_eq_left (by omega)] at hlens
  have hstep : Sp.poolAll (ts.take (j + 1)) = Sp.poolStep (Sp.poolAll (ts.take j)) ts[j] := by rw [htk]; unfold Sp.poolAll; rw [List.foldl_append]; rfl
  generalize Sp.poolAll (ts.take j) = Q at *
  obtain ⟨a, hat, hSa, hrow⟩ := row j hlt
  have hkid := kid j hlt
  generalize ts[j] = x at *
  generalize rs j = sx at *
  obtain ⟨xk, xf, xt, xu, xx, xks⟩ := x
  have hrl : Row wl a (trow (.mk xk xf xt xu xx xks) sx) := hq.pure.row hrow (fun h => h)
  refine ⟨a, hat, _, _, _, _, _, sx, hrl, ?_⟩
  refine (c_Of (S := S) p (.mk xk xf xt xu xx xks) sx wl (hkid.pure hq.pure) hq.pool hW.ok (fun b hb hh => by have := (hq.o1 b hb).1; have := hS b hh; omega) (fun b hb => by have := hS b hb; have := hq.pure.size; omega)).mono ?_
  rintro _ w3 ⟨r3, r4, rfl, h34, F1', hP3, E3, hF3⟩
  have k3 : Kept Hl wl w3 := E3.kept (fun b hb h1 => (hq.o1 b h1).2.1 hb)
  refine ⟨_, _, rfl, k3, ?_⟩
  have hq3 := hq.of1 (fun b hb => hl.lt b hb) hP3 E3 hF3
  have hl3 := hl.again k3
  have hr3 : Row w3 a (trow (.mk xk xf xt xu xx xks) sx) := hq3.pure.row hrow (fun h => h)
  refine ⟨a, hat, _, _, _, _, _, sx, hr3, ?_⟩
  refine (c_ref05_Of (S := S) q (.mk xk xf xt xu xx xks) sx w3 (hkid.pure hq3.pure) hq3.ref hW.ok (fun b hb hh => by have := (hq3.o2 b hb).1; have := hS b hh; omega) (fun b hb => by have := hS b hb; have := hq3.pure.size; omega)).mono ?_
  rintro _ w4 ⟨r5, r6, rfl, h56, F2', hP4, E4, hF4⟩
  have k4 : Kept Hl w3 w4 := E4.kept (fun b hb h1 => (hq3.o2 b h1).2.1 hb)
  refine ⟨_, _, rfl, k4, ?_⟩
  have hq4 := hq3.of2 (fun b hb => hl3.lt b hb) hP4 E4 hF4
  have hl4 := hl3.again k4
  injection h34 with e3 e4
  injection h56 with e5 e6
  refine Br.f (by rw [e4, e6, e3, e5]; simp) ?_
  intro H1 w6 hs6
  have hq6 := hq4.hst hs6
  intro pa w8 h8
  have E8 : Pure w6 w8 := Ext.new h8
  have hq8 := hq6.pureE E8
  have hs8 := hs6.here.again E8.keptP
  obtain ⟨s1, w9, hr9, hR9, E9, hb9⟩ := hq8.ts.append (P := Try.prog) (ty := 26) (c := 1) slT_tm (r := [.int .i64 r5]) (Box.of_new h8).row rfl rfl (by simp [tmr]; omega) (by simp [tmr, maxLen]; omega)
  have k9 : Kept H1 w8 w9 := E9.kept (fun b hb h1 => (hq8.o3 b h1).2 hb)
  refine ⟨s1, w9, hr9, k9, ?_⟩
  have hq9 := hq8.of3 (fun b hb => hs8.lt b hb) (ids' := Q.2 ++ [r5]) (by simpa [tmr] using hR9) E9 hb9
  rw [wrap_succ hlt (by omega)]
  refine ⟨⟨j + 1, rfl, hlt, F1', F2', ?_⟩, lt_dec hlt⟩
  rw [hstep]
  unfold Sp.poolStep
  rw [← e5]
  exact hq9
 ·have hge := eq_of_dec len hj h
  subst hge
  rw [List.take_length] at hq
  exact hK _ _ _ _ _ _ _ hq
def _root_.Go.Sp.giveAll (L : Sp.Pool) (given : List Int) : List Int := given.foldl (Sp.giveT L) []
theorem mem_giveAll {L : Sp.Pool} {given : List Int} {x : Int} : x ∈ Sp.giveAll L given ↔ x ∈ given ∧ Sp.inP L x = true := by
 have : ∀ (given G : List Int), x ∈ given.foldl (Sp.giveT L) G ↔ x ∈ G ∨ (x ∈ given ∧ Sp.inP L x = true) := by
  intro given
  induction given with
  | nil => intro G; simp
  | cons g given ih =>
   intro G
   rw [List.foldl_cons, ih]
   unfold Sp.giveT
   split
   ·rename_i hg
    rw [Sp.mem_addT]
    simp only [List.mem_cons]
    constructor
    ·rintro ((h | rfl) | h)
     ·exact .inl h
     ·exact .inr ⟨.inl rfl, hg⟩
     ·exact .inr ⟨.inr h.1, h.2⟩
    ·rintro (h | ⟨rfl | h, h2⟩)
     ·exact .inl (.inl h)
     ·exact .inl (.inr rfl)
     ·exact .inr ⟨h, h2⟩
   ·rename_i hg
    simp only [List.mem_cons]
    constructor
    ·rintro (h | h)
     ·exact .inl h
     ·exact .inr ⟨.inr h.1, h.2⟩
    ·rintro (h | ⟨rfl | h, h2⟩)
     ·exact .inl h
     ·exact absurd h2 hg
     ·exact .inr ⟨h, h2⟩
 have := this given []
 simpa [Sp.giveAll] using this
end Go.Proofs
end
section
open Go Go.SE
namespace Go.Proofs
attribute [local irreducible] Calls
theorem copied {P : Program} {t e : TypeId} {sz bytes : Nat} (T : SlType P t e sz bytes) {w w1 : World} {ty : TypeId} {p : Addr} (hn : New w (.cells #[] e) p w1) {S : Nat → Prop} {x : Sl} {qs : List (List Value)} (hx : Lst S w sz x qs) (hl : ∀ q ∈ qs, q.length = sz) (h1 : ∀ q ∈ qs, q.all oneCell = true) (hb : qs.length * bytes ≤ 140737488355328) (hm : qs.length ≤ maxLen) {H : Nat → Prop} (hH : ∀ b, H b → b < w.heap.size) :
  ∃ s' w2, (Builtin.append_ #[t, t] ty #[(Sl.mk (some p) 0 0).v, x.v]).run P w1 = .ok s'.v w2 ∧ Rws w2 e sz s' qs ∧ Pure w w2 ∧ Kept H w1 w2 ∧ ∀ b, s'.blk b → w.heap.size ≤ b := by
 have E1 : Pure w w1 := Ext.new hn
 obtain ⟨s2, w2, hr, hR, hE, hb'⟩ := (Rws.empty (sz := sz) hn).appendL (P := P) (ty := ty) T (hx.pure E1) hl h1 (by simpa using hb) (by simpa using hm)
 have hp := hn.at_size
 have hp' : ∀ b, (Sl.mk (some p) 0 0).blk b → w.heap.size ≤ b := fun b hb => (by obtain ⟨a, ha, e⟩ := hb; cases ha; omega)
 exact ⟨s2, w2, hr, by simpa using hR, E1.trans' hE (fun i hi h => by have := hp' i h; omega), hE.kept (fun b hh hb => by have := hp' b hb; have := hH b hh; omega), fun b h => (hb' b h).elim (hp' b) (fun h => by have := E1.size; omega)⟩
structure KqAt (w0 : World) (H : Nat → Prop) (w : World) (p q k : Addr) (L : Sp.Pool) (G : List Int) (S : List Sp.Way) (FP FR F : Nat → Prop) : Prop where
 kn : KnAt w0 H w p k L G S FP F
 ref : PoolR w q L FR
 oR : ∀ b, FR b → ¬ H b
section
variable {w0 w w' : World} {H H' : Nat → Prop} {p q k : Addr} {L : Sp.Pool} {G : List Int} {S : List Sp.Way} {FP FR F : Nat → Prop}
theorem KqAt.pureE (h : KqAt w0 H w p q k L G S FP FR F) (E : Pure w w') : KqAt w0 H w' p q k L G S FP FR F := ⟨h.kn.pureE E, h.ref.pure E, h.oR⟩
theorem KqAt.hst (h : KqAt w0 H w p q k L G S FP FR F) (hs : Hst w0 H w H' w') : KqAt w0 H' w' p q k L G S FP FR F := by
 have x1 := hs.disj (G := FR) (fun b hb => ⟨h.ref.lt hb, h.oR b hb⟩)
 exact ⟨h.kn.hst hs, h.ref.ext hs.ext x1, x1⟩
theorem KqAt.start {w1 w2 w3 : World} {t : Sl} {ids : List Int} (hE : Pure w0 w1) (hs : Hst w0 H w1 H w1) (hq : Pl3 w1 None w2 p q L L t ids FP FR) (hk : KnowAt w3 k p G S F) (E : Pure w2 w3) (hF : ∀ b, F b → w2.heap.size ≤ b) : KqAt w0 H w3 p q k L G S FP FR F := by
 have z1 := hE.size; have z2 := hq.pure.size; have z3 := E.size
 refine ⟨⟨hq.pool.pure E, hk, (hE.trans hq.pure).trans E, fun b hb => ?_, fun b hb => ?_, (hs.again hq.pure.keptP).again E.keptP⟩, hq.ref.pure E, fun b hb hh => ?_⟩
 ·have := (hq.o1 b hb).1; exact ⟨by omega, fun hh => by have := hs.lt b hh; omega⟩
 ·have := hF b hb; exact ⟨by omega, fun hh => by have := hs.lt b hh; omega, fun hh => by have := hq.pool.lt hh; omega⟩
 ·have := (hq.o2 b hb).1; have := hs.lt b hh; omega
theorem PoolR.nodes (h : PoolR w q L FR) : ∃ s : Sl, w.cell? q = some s.v ∧ s.len = L.length := by
 obtain ⟨s1, s2, s3, h, _⟩ := h
 exact ⟨s1, h.box.cell0, by rw [h.r1.len]; simp⟩
end
theorem bool_iff {a b : Bool} (h : a = true ↔ b = true) : a = b := by cases a <;> cases b <;> simp_all
end Go.Proofs
end
section
open Go Go.SE
namespace Go.Proofs
attribute [local irreducible] Calls
theorem at_uniq {s : Sl} {i : Int} {n : Nat} {a b : Addr} (h : At s i n a) (k : At s i n b) : a = b := by
 obtain ⟨_, _, b1, hb1, rfl⟩ := h
 obtain ⟨_, _, b2, hb2, rfl⟩ := k
 rw [hb1] at hb2; cases hb2; rfl
theorem shows_of2 {k : Int} (h : (cond (k == 7) (k == 7) (k == 8)) = true) : Sp.showsK k = true := by
 unfold Sp.showsK; cases h7 : (k == 7) <;> cases h8 : (k == 8) <;> simp_all
theorem shows_not2 {k : Int} (h : (cond (k == 7) (k == 7) (k == 8)) = false) (h9 : (k == 9) = false) : Sp.showsK k = false := by
 unfold Sp.showsK; cases h7 : (k == 7) <;> cases h8 : (k == 8) <;> simp_all
theorem c_r08_Derived (x q : Addr) (w0 : World) {L : Sp.Pool} {G : List Int} {F FR : Nat → Prop} (h : K8At w0 x q G F) (hP : PoolR w0 q L FR) (hW : Sp.Wf L) (hG : ∀ g ∈ G, Sp.inP L g = true) (hGn : G.length ≤ 100000) :
  Calls Try.prog 39 #[.pointer (some x)] w0 (fun e w' => ∃ r : Sl, e = .returned r.v ∧ ∃ D, RetO w0 4 1 (brw (L.length + 1) D) r w' ∧ ∀ t, Sp.inP L t = true → (D t = true ↔ Sp.Drv L (Sp.Seen L G) t)) := by
 suffices key : ∀ K : Sl → World → Prop, (∀ r w' D, RetO w0 4 1 (brw (L.length + 1) D) r w' → (∀ t, Sp.inP L t = true → (D t = true ↔ Sp.Drv L (Sp.Seen L G) t)) → K r w') → m_ref08_Know_Derived (some x) w0 K from
  w_ref08_Know_Derived _ w0 _ (key _ (fun r w' D a b => ⟨D, a, b⟩))
 intro K hK
 unfold m_ref08_Know_Derived
 have hL := hW.ok.few
 refine (c_r08_seen x q w0 h hP hW hG hGn).mono ?_
 rintro _ w1 ⟨r1, rfl, V, hr, hV⟩
 have E1 := hr.pure
 refine ⟨r1, rfl, E1.keptP, ?_⟩
 intro p1 w2 h2
 obtain ⟨s1, w3, hr3, R3, X3, k3, o3⟩ := copied (P := Try.prog) (ty := 70) slT_bool h2 hr.rows.lst (brw_sz _ _) (brw_one _ _) (by rw [brw_len]; omega) (by rw [brw_len]; simp [maxLen]; omega) (H := None) (fun b h => h.elim)
 refine ⟨s1, w3, hr3, k3, ?_⟩
 have hl1 : r1.len = L.length + 1 := by rw [hr.rows.len, brw_len]
 have E3 := E1.trans X3
 refine ⟨fun t H w' => ∃ j : Nat, t = (j : Int) + 1 ∧ j ≤ L.length ∧ Pure w0 w' ∧ Own H w' 4 1 r1 (brw (L.length + 1) V) ∧ ∃ D, Own H w' 4 1 s1 (brw (L.length + 1) D) ∧ (∀ u, 1 ≤ u → u < t → (D u = true ↔ Sp.Drv L (Sp.Seen L G) u)) ∧ ∀ u, t ≤ u → D u = V u, fun t _ => ((L.length : Int) + 1 - t).toNat,
  ⟨0, by simp, Nat.zero_le _, E3, ⟨hr.rows.pure X3, fun b _ h => h⟩, V, ⟨R3, fun b _ h => h⟩, fun u h1 h2 => by omega, fun u _ => rfl⟩, ?_⟩
 rintro _ Hl wl hl ⟨j, rfl, hj, El, Or, D, Os, hD1, hD2⟩
 unfold m_ref08_Know_Derived_l1
 refine ⟨fun hc => ?_, fun hc => ?_⟩
 ·have hc := of_decide_eq_true hc
  have hlt : j < L.length := by omega
  have hin : Sp.inP L ((j : Int) + 1) = true := Sp.inP_iff.2 ⟨by omega, by omega⟩
  have hwr : IntKind.i64.wrap ((j : Int) + 1 + 1) = ((j + 1 : Nat) : Int) + 1 := by rw [IntWalk.i64_in _ (by omega)]; omega
  have hmu : ∀ y : Int, y = ((j + 1 : Nat) : Int) + 1 → ((L.length : Int) + 1 - y).toNat < ((L.length : Int) + 1 - ((j : Int) + 1)).toNat := fun y e => by omega
  generalize ht : (j : Int) + 1 = t at *
  have hVt := hV t hin
  have hDt : D t = V t := hD2 t (Int.le_refl _)
  have t1 : 1 ≤ t := by omega
  have tL : t ≤ L.length := by omega
  obtain ⟨sg, h8, hF⟩ := h
  have h8' : K8At w0 x q G F := ⟨sg, h8, hF⟩
  refine ⟨x, rfl, _, (h8.box.pure El).cell0, ?_⟩
  refine (c_ref05_Node q t wl (hP.pure El) hW.ok).mono ?_
  rintro _ w4 ⟨nk, nf, nt, nu, nx, na, nb, ok, rfl, ⟨hn, _⟩, E4⟩
  refine ⟨_, _, _, _, _, _, _, _, rfl, E4.keptP, ?_⟩
  have hk1 : (Sp.nodeOf L t).kind = nk := by rw [← hn]
  have hfr : (Sp.nodeOf L t).frm = nf := by rw [← hn]
  have hto : (Sp.nodeOf L t).to = nt := by rw [← hn]
  have ha : (Sp.nodeOf L t).a = na := by rw [← hn]
  have hb : (Sp.nodeOf L t).b = nb := by rw [← hn]
  have El4 := El.trans E4
  have hs4 : Hst w0 Hl w4 Hl w4 := hl.again E4.keptP
  have Or4 := Or.pure E4
  have Os4 := Os.pure E4
  obtain ⟨a0, at0, _, _⟩ := brw_get Os4.rows (t := t) (by omega) (by omega)
  have rd : ∀ {H : Nat → Prop} {w : World} (y : Int), Own H w 4 1 s1 (brw (L.length + 1) D) → 0 ≤ y → y ≤ L.length → ∃ a, At s1 y 1 a ∧ w.cell? a = some (.bool (D y)) := fun y O h0 hy => by
   obtain ⟨a, q1, _, q2⟩ := brw_get O.rows (t := y) h0 (by omega); exact ⟨a, q1, q2⟩
  have rd0 : ∀ {H : Nat → Prop} {w : World}, Own H w 4 1 s1 (brw (L.length + 1) D) → w.cell? a0 = some (.bool (D t)) := fun O => by
   obtain ⟨a, q1, q2⟩ := rd t O (by omega) tL; rw [at_uniq at0 q1]; exact q2
  have put : ∀ {H : Nat → Prop} {w : World} (b : Bool), Pure w0 w → Own H w 4 1 r1 (brw (L.length + 1) V) → Own H w 4 1 s1 (brw (L.length + 1) D) → (b = true ↔ Sp.Drv L (Sp.Seen L G) t) → CanW w a0 ∧ ¬ H a0.block ∧ ∀ w' : World, w' = w.setCell a0 (.bool b) →
    (∃ j : Nat, IntKind.i64.wrap (t + 1) = (j : Int) + 1 ∧ j ≤ L.length ∧ Pure w0 w' ∧ Own H w' 4 1 r1 (brw (L.length + 1) V) ∧ ∃ D, Own H w' 4 1 s1 (brw (L.length + 1) D) ∧ (∀ u, 1 ≤ u → u < IntKind.i64.wrap (t + 1) → (D u = true ↔ Sp.Drv L (Sp.Seen L G) u)) ∧ ∀ u, IntKind.i64.wrap (t + 1) ≤ u → D u = V u) ∧ ((L.length : Int) + 1 - IntKind.i64.wrap (t + 1)).toNat < ((L.length : Int) + 1 - t).toNat := by
   intro H w b E Or Os hb
   obtain ⟨a, q1, hblk, cw, hput⟩ := brw_put Os.rows (t := t) (by omega) (by omega)
   have := at_uniq q1 at0
   subst this
   refine ⟨cw, Os.vis _ hblk, ?_⟩
   rintro _ rfl
   obtain ⟨R', X'⟩ := hput b
   have hdis : ∀ c, r1.blk c → ¬ s1.blk c := fun c hc hs => by
    have := hr.rows.lt hc; have := o3 c hs; omega
   refine ⟨⟨j + 1, hwr, hlt, E.trans' X' (fun i hi hb => by have := o3 i hb; have := E1.size; omega), ⟨Or.rows.ext X' hdis, Or.vis⟩, _, ⟨R', Os.vis⟩, fun u h1 h2 => ?_, fun u hu => ?_⟩, hmu _ hwr⟩
   ·rw [hwr] at h2
    simp only [Sp.upd]
    split
    ·rename_i e; rw [e]; exact hb
    ·exact hD1 u h1 (by omega)
   ·rw [hwr] at hu
    simp only [Sp.upd]
    rw [if_neg (by omega)]
    exact hD2 u (by omega)
  have kidv : ∀ k, Sp.inP L k = true → k < t → (D k = true ↔ Sp.Drv L (Sp.Seen L G) k) := fun k hk hlt => hD1 k (Sp.inP_iff.1 hk).1 hlt
  rintro y1 rfl
  have hy : (cond ((nk : Int) == 1) ((nk : Int) == 1) (cond ((nk : Int) == 2) ((nk : Int) == 2) ((nk : Int) == 3))) = Sp.freeK nk := by
   unfold Sp.freeK; cases (nk == 1) <;> cases (nk == 2) <;> simp
  rw [hy]
  have seenD : D t = true → Sp.Drv L (Sp.Seen L G) t := fun h => .seen (hVt.1 (hDt ▸ h))
  have unseen : D t = false → ¬ Sp.Seen L G t := fun h hs => by have := hVt.2 hs; rw [← hDt, h] at this; cases this
  refine ⟨fun hf => ?_, fun hf => ⟨fun k4 => ?_, fun k4 => ⟨fun k5 => ?_, fun k5 => ?_⟩⟩⟩
  ·refine ⟨a0, at0, ?_⟩
   intro H2 w7 hs7
   exact put true (El4.hst hs7) (Or4.hst hs7) (Os4.hst hs7) ⟨fun _ => .free (by rw [hk1]; exact hf), fun _ => rfl⟩
  ·have k4 : nk = 4 := by simpa using k4
   have hkid := Sp.kids4 hW hin (by rw [hk1]; exact k4)
   rw [ha, hb] at hkid
   have na1 := Sp.inP_iff.1 hkid.1.1
   have nb1 := Sp.inP_iff.1 hkid.2.1
   have hda := kidv na hkid.1.1 hkid.1.2
   have hdb := kidv nb hkid.2.1 hkid.2.2
   have inv : D t = false → (Sp.Drv L (Sp.Seen L G) t ↔ Sp.Drv L (Sp.Seen L G) na ∧ Sp.Drv L (Sp.Seen L G) nb) := fun hdt => by
    constructor
    ·intro hd
     rcases hd.inv with h | h | ⟨_, h1, h2⟩ | ⟨h, _⟩ | ⟨h, _⟩
     ·exact absurd h (unseen hdt)
     ·rw [hk1, hf] at h; cases h
     ·rw [ha] at h1; rw [hb] at h2; exact ⟨h1, h2⟩
     ·rw [hk1, k4] at h; cases h
     ·rw [hk1, k4] at h; cases h
    ·intro h; exact .pair (by rw [hk1]; exact k4) (by rw [ha]; exact h.1) (by rw [hb]; exact h.2)
   refine ⟨a0, at0, ?_⟩
   intro H2 w7 hs7
   have E7 := El4.hst hs7
   have Or7 := Or4.hst hs7
   have Os7 := Os4.hst hs7
   refine ⟨_, rd0 Os7, fun hv => ⟨a0, at0, put true E7 Or7 Os7 ⟨fun _ => seenD hv, fun _ => rfl⟩⟩, fun hv => ?_⟩
   obtain ⟨a5, at5, c5⟩ := rd na Os7 (by omega) (by omega)
   refine ⟨a5, at5, _, c5, fun hva => ?_, fun hva => ⟨a0, at0, put false E7 Or7 Os7 ?_⟩⟩
   ·obtain ⟨a6, at6, c6⟩ := rd nb Os7 (by omega) (by omega)
    refine ⟨a6, at6, _, c6, a0, at0, put _ E7 Or7 Os7 ?_⟩
    rw [inv hv, hdb]; exact ⟨fun h => ⟨hda.1 hva, h⟩, fun h => h.2⟩
   ·rw [inv hv]; exact ⟨(fun h => by cases h), fun h => by have := hda.2 h.1; rw [hva] at this; cases this⟩
  ·have k4 : ¬ nk = 4 := by simpa using k4
   have k5 : nk = 5 := by simpa using k5
   have hkid := Sp.kids5 hW hin (by rw [hk1]; exact k5)
   rw [ha] at hkid
   have na1 := Sp.inP_iff.1 hkid.1
   have hda := kidv na hkid.1 hkid.2
   refine ⟨a0, at0, ?_⟩
   intro H2 w7 hs7
   have E7 := El4.hst hs7
   have Or7 := Or4.hst hs7
   have Os7 := Os4.hst hs7
   refine ⟨_, rd0 Os7, fun hv => ⟨a0, at0, put true E7 Or7 Os7 ⟨fun _ => seenD hv, fun _ => rfl⟩⟩, fun hv => ?_⟩
   obtain ⟨a6, at6, c6⟩ := rd na Os7 (by omega) (by omega)
   refine ⟨a6, at6, _, c6, a0, at0, put _ E7 Or7 Os7 ?_⟩
   rw [hda]
   constructor
   ·intro h; exact .hash (by rw [hk1]; exact k5) (by rw [ha]; exact h)
   ·intro hd
    rcases hd.inv with h | h | ⟨h, _⟩ | ⟨_, h⟩ | ⟨h, _⟩
    ·exact absurd h (unseen hv)
    ·rw [hk1, hf] at h; cases h
    ·rw [hk1, k5] at h; cases h
    ·rw [ha] at h; exact h
    ·rw [hk1, k5] at h; cases h
  ·have k4 : ¬ nk = 4 := by simpa using k4
   have k5 : ¬ nk = 5 := by simpa using k5
   have sgn : ∀ (who : Int) (H : Nat → Prop) (w : World), Sp.showsK nk = true → who = Sp.whoOf (Sp.nodeOf L t) → Hst w0 H w H w → Pure w0 w → Own H w 4 1 r1 (brw (L.length + 1) V) → Own H w 4 1 s1 (brw (L.length + 1) D) →
     ∃ v7 : Bool, w.cell? a0 = some (.bool v7) ∧ Br v7 (∃ a14 : Addr, At s1 t 1 a14 ∧ CanW w a14 ∧ ¬ H a14.block ∧ ∀ w15 : World, w15 = w.setCell a14 (.bool true) →
       (∃ j : Nat, IntKind.i64.wrap (t + 1) = (j : Int) + 1 ∧ j ≤ L.length ∧ Pure w0 w15 ∧ Own H w15 4 1 r1 (brw (L.length + 1) V) ∧ ∃ D, Own H w15 4 1 s1 (brw (L.length + 1) D) ∧ (∀ u, 1 ≤ u → u < IntKind.i64.wrap (t + 1) → (D u = true ↔ Sp.Drv L (Sp.Seen L G) u)) ∧ ∀ u, IntKind.i64.wrap (t + 1) ≤ u → D u = V u) ∧ ((L.length : Int) + 1 - IntKind.i64.wrap (t + 1)).toNat < ((L.length : Int) + 1 - t).toNat)
      (∃ a15 : Addr, At s1 na 1 a15 ∧ ∃ v8 : Bool, w.cell? a15 = some (.bool v8) ∧ Br v8
       (Calls Try.prog 97 #[.pointer (some x), r1.v, .int .i64 who] w (fun e w16 => ∃ r3 : Bool, e = .returned (.bool r3) ∧ Kept H w w16 ∧ ∃ a16 : Addr, At s1 t 1 a16 ∧ CanW w16 a16 ∧ ¬ H a16.block ∧ ∀ w17 : World, w17 = w16.setCell a16 (.bool r3) →
        (∃ j : Nat, IntKind.i64.wrap (t + 1) = (j : Int) + 1 ∧ j ≤ L.length ∧ Pure w0 w17 ∧ Own H w17 4 1 r1 (brw (L.length + 1) V) ∧ ∃ D, Own H w17 4 1 s1 (brw (L.length + 1) D) ∧ (∀ u, 1 ≤ u → u < IntKind.i64.wrap (t + 1) → (D u = true ↔ Sp.Drv L (Sp.Seen L G) u)) ∧ ∀ u, IntKind.i64.wrap (t + 1) ≤ u → D u = V u) ∧ ((L.length : Int) + 1 - IntKind.i64.wrap (t + 1)).toNat < ((L.length : Int) + 1 - t).toNat))
       (∃ a17 : Addr, At s1 t 1 a17 ∧ CanW w a17 ∧ ¬ H a17.block ∧ ∀ w18 : World, w18 = w.setCell a17 (.bool false) →
        (∃ j : Nat, IntKind.i64.wrap (t + 1) = (j : Int) + 1 ∧ j ≤ L.length ∧ Pure w0 w18 ∧ Own H w18 4 1 r1 (brw (L.length + 1) V) ∧ ∃ D, Own H w18 4 1 s1 (brw (L.length + 1) D) ∧ (∀ u, 1 ≤ u → u < IntKind.i64.wrap (t + 1) → (D u = true ↔ Sp.Drv L (Sp.Seen L G) u)) ∧ ∀ u, IntKind.i64.wrap (t + 1) ≤ u → D u = V u) ∧ ((L.length : Int) + 1 - IntKind.i64.wrap (t + 1)).toNat < ((L.length : Int) + 1 - t).toNat)) := by
    rintro _ H w h7 rfl hs E Or Os
    obtain ⟨x4, x5, _, xf⟩ := Sp.shows_ne h7
    have hkid := Sp.kids7 hW hin (by rw [hk1]; exact h7)
    rw [ha] at hkid
    have na1 := Sp.inP_iff.1 hkid.1
    have hda := kidv na hkid.1 hkid.2
    have inv : D t = false → (Sp.Drv L (Sp.Seen L G) t ↔ Sp.Drv L (Sp.Seen L G) na ∧ (Sp.keyOf L (Sp.whoOf (Sp.nodeOf L t))).2 = true ∧ Sp.Seen L G (Sp.keyOf L (Sp.whoOf (Sp.nodeOf L t))).1) := fun hdt => by
     constructor
     ·intro hd
      rcases hd.inv with h | h | ⟨h, _⟩ | ⟨h, _⟩ | ⟨_, h1, h2, h3⟩
      ·exact absurd h (unseen hdt)
      ·rw [hk1, xf] at h; cases h
      ·rw [hk1] at h; exact absurd h x4
      ·rw [hk1] at h; exact absurd h x5
      ·rw [ha] at h1; exact ⟨h1, h2, h3⟩
     ·rintro ⟨h1, h2, h3⟩; exact .signed (by rw [hk1]; exact h7) (by rw [ha]; exact h1) h2 h3
    refine ⟨_, rd0 Os, fun hv => ⟨a0, at0, put true E Or Os ⟨fun _ => seenD hv, fun _ => rfl⟩⟩, fun hv => ?_⟩
    obtain ⟨a5, at5, c5⟩ := rd na Os (by omega) (by omega)
    refine ⟨a5, at5, _, c5, fun hva => ?_, fun hva => ⟨a0, at0, put false E Or Os ?_⟩⟩
    ·refine (c_r08_key x q _ r1 w (h8'.pure E) (hP.pure E) hW.ok Or.rows).mono ?_
     rintro _ w16 ⟨r3, rfl, rfl, E16⟩
     refine ⟨_, rfl, E16.keptP, a0, at0, put _ (E.trans E16) (Or.pure E16) (Os.pure E16) ?_⟩
     rw [inv hv, Bool.and_eq_true]
     constructor
     ·rintro ⟨g1, g2⟩; exact ⟨hda.1 hva, g1, (hV _ (Sp.keyOf_ok g1).1).1 g2⟩
     ·rintro ⟨_, g1, g2⟩; exact ⟨g1, (hV _ (Sp.keyOf_ok g1).1).2 g2⟩
    ·rw [inv hv]; exact ⟨(fun h => by cases h), fun h => by have := hda.2 h.1; rw [hva] at this; cases this⟩
   refine ⟨fun k7 => ?_, fun k7 => ⟨fun k9 => ?_, fun k9 => ?_⟩⟩
   ·have h7 : Sp.showsK nk = true := shows_of2 k7
    have h9 : ¬ nk = 9 := fun e => by rw [e] at k7; cases k7
    refine ⟨a0, at0, ?_⟩
    intro H3 w14 hs14
    exact sgn nf H3 w14 h7 (by unfold Sp.whoOf; rw [hk1, if_neg h9, hfr]) hs14.here (El4.hst hs14) (Or4.hst hs14) (Os4.hst hs14)
   ·have k9 : nk = 9 := by simpa using k9
    refine ⟨a0, at0, ?_⟩
    intro H3 w14 hs14
    exact sgn nt H3 w14 (by rw [k9]; rfl) (by unfold Sp.whoOf; rw [hk1, if_pos k9, hto]) hs14.here (El4.hst hs14) (Or4.hst hs14) (Os4.hst hs14)
   ·intro H3 w14 hs14
    have h7 : Sp.showsK nk = false := shows_not2 k7 k9
    have hdt : D t = true ↔ Sp.Drv L (Sp.Seen L G) t := by
     refine ⟨seenD, fun hd => ?_⟩
     rcases hd.inv with h | h | ⟨h, _⟩ | ⟨h, _⟩ | ⟨h, _⟩
     ·rw [hDt]; exact hVt.2 h
     ·rw [hk1, hf] at h; cases h
     ·rw [hk1] at h; exact absurd h k4
     ·rw [hk1] at h; exact absurd h k5
     ·rw [hk1, h7] at h; cases h
    refine ⟨⟨j + 1, hwr, hlt, El4.hst hs14, Or4.hst hs14, D, Os4.hst hs14, fun u h1 h2 => ?_, fun u hu => hD2 u (by rw [hwr] at hu; omega)⟩, hmu _ hwr⟩
    rw [hwr] at h2
    by_cases e : u = t
    ·rw [e]; exact hdt
    ·exact hD1 u h1 (by omega)
 ·have hc := of_decide_eq_false hc
  refine hK s1 wl D ⟨Os.rows, fun b hb => by have := o3 b hb; have := E1.size; omega, El⟩ (fun t ht => hD1 t (Sp.inP_iff.1 ht).1 (by have := (Sp.inP_iff.1 ht).2; omega))
end Go.Proofs
end
section
open Go Go.SE
namespace Go.Sp
theorem flat_len {α β : Type} {f : α → List β} {n : Nat} (h : ∀ a, (f a).length ≤ n) : ∀ l : List α, (l.flatMap f).length ≤ l.length * n
 | [] => by simp
 | a :: l => by have := flat_len h l; have := h a; simp only [List.flatMap_cons, List.length_append, List.length_cons, Nat.succ_mul]; omega
end Go.Sp
namespace Go.Proofs
attribute [local irreducible] Calls
theorem giveAll_len {L : Sp.Pool} {given : List Int} : (Sp.giveAll L given).length ≤ given.length := by
 have : ∀ (given G : List Int), (given.foldl (Sp.giveT L) G).length ≤ G.length + given.length := by
  intro given
  induction given with
  | nil => intro G; simp
  | cons g given ih =>
   intro G
   have := ih (Sp.giveT L G g)
   have h2 : (Sp.giveT L G g).length ≤ G.length + 1 := by unfold Sp.giveT Sp.addT; split <;> (try split) <;> simp
   simp only [List.foldl_cons, List.length_cons]; omega
 have := this given []
 simpa [Sp.giveAll] using this
theorem fol_give {L : Sp.Pool} {given : List Int} {pre : List Sp.Step} {s : Sp.Step} (h : Sp.fol L (Sp.giveAll L given) pre s = true) : Sp.fol L given pre s = true := by
 have hin := Sp.fol_in h
 have e : decide (s.t ∈ given) = decide (s.t ∈ Sp.giveAll L given) := by simp only [mem_giveAll, hin, and_true]
 unfold Sp.fol at h ⊢
 rw [e]; exact h
theorem c_law08_local {Sg Ss : Nat → Prop} (q : Addr) (sg sl : Sl) (G : List Int) (l : List Sp.Step) (t : Int) (w0 : World) {L : Sp.Pool} {FR : Nat → Prop} (hW : Sp.Wf L) (hP : PoolR w0 q L FR) (hL : L.length ≤ 1000) (hg : Lst Sg w0 1 sg (tmr G)) (hGn : G.length ≤ 50) (hs : Lst Ss w0 4 sl (l.map strow)) (hln : l.length ≤ 1000000) (hnd : (l.map Sp.Step.t).Nodup) (hmay : ∀ s ∈ l, s.t ∈ Sp.subs L t ∨ ∃ g ∈ G, s.t ∈ Sp.subs L g) :
  Calls Try.prog 44 #[.pointer (some q), sg.v, sl.v, .int .i64 t] w0 (fun e w' => ∃ r : Bool, e = .returned (.bool r) ∧ (r = true ∧ Pure w0 w')) := by
 refine w_law08_local _ _ _ _ w0 (fun r w' => r = true ∧ Pure w0 w') ?_
 unfold m_law08_local
 have hlg : sg.len = G.length := by rw [hg.len, tmr_len]
 have hll : sl.len = l.length := by rw [hs.len]; simp
 have hfl : ∀ j, (Sp.subs L t ++ (G.take j).flatMap (Sp.subs L)).length ≤ 52000 := fun j => by
  have h1 := Sp.subs_few hW t
  have h2 := Sp.flat_len (f := Sp.subs L) (n := 1000) (fun a => by have := Sp.subs_few hW a; omega) (G.take j)
  have h3 : (G.take j).length ≤ 50 := by rw [List.length_take]; omega
  have h4 : (G.take j).length * 1000 ≤ 50 * 1000 := Nat.mul_le_mul_right _ h3
  rw [List.length_append]; omega
 intro p1 w2 h2
 have E2 : Pure w0 w2 := Ext.new h2
 have hp1 := h2.at_size
 refine (c_ref05_Subs q t w2 hW (hP.pure E2)).mono ?_
 rintro _ w3 ⟨r1, rfl, hr1⟩
 refine ⟨r1, rfl, hr1.kept, ?_⟩
 have e0 := hfl 0
 simp only [List.take_zero, List.flatMap_nil, List.append_nil] at e0
 obtain ⟨s1, w4, hr4, R4, X4, f4⟩ := ((Rws.empty (sz := 1) h2).pure hr1.pure).appendL (P := Try.prog) (ty := 26) slT_tm hr1.rows.lst (tmr_sz _) (tmr_one _) (by simp only [List.length_nil, tmr_len]; omega) (by simp only [List.length_nil, tmr_len, maxLen]; omega)
 have hp' : ∀ b, (Sl.mk (some p1) 0 0).blk b → w0.heap.size ≤ b := fun b hb => (by obtain ⟨a, ha, e⟩ := hb; cases ha; omega)
 have z2 := E2.size; have z3 := hr1.pure.size
 have E4 : Pure w0 w4 := (E2.trans hr1.pure).trans' X4 (fun i hi hb => by have := hp' i hb; omega)
 refine ⟨s1, w4, hr4, X4.kept (fun b hb => hb.elim), ?_⟩
 refine ⟨fun may i H w' => ∃ j : Nat, i = j ∧ j ≤ G.length ∧ Pure w0 w' ∧ Own H w' 41 1 may (tmr (Sp.subs L t ++ (G.take j).flatMap (Sp.subs L))) ∧ ∀ b, may.blk b → w0.heap.size ≤ b, fun _ i _ => ((G.length : Int) - i).toNat,
  ⟨0, rfl, Nat.zero_le _, E4, ⟨by simpa using R4, fun b _ h => h⟩, fun b hb => (f4 b hb).elim (hp' b) (fun h => by omega)⟩, ?_⟩
 rintro may _ Hl wl hl ⟨j, rfl, hj, El, Om, om⟩
 unfold m_law08_local_l1
 refine ⟨fun hc => ?_, fun hc => ?_⟩
 ·have hlt := lt_of_dec hlg hc
  obtain ⟨a1, at1, _, c1⟩ := tm_nth (hg.pure El) hlt
  have htk : G.take (j + 1) = G.take j ++ [G[j]] := List.take_succ_eq_append_getElem hlt
  refine ⟨a1, at1, _, c1, ?_⟩
  refine (c_ref05_Subs q G[j] wl hW (hP.pure El)).mono ?_
  rintro _ w5 ⟨r2, rfl, hr2⟩
  refine ⟨r2, rfl, hr2.kept, ?_⟩
  have e1 := hfl j
  have e2 := hfl (j + 1)
  have ee : Sp.subs L t ++ (G.take (j + 1)).flatMap (Sp.subs L) = (Sp.subs L t ++ (G.take j).flatMap (Sp.subs L)) ++ Sp.subs L G[j] := by rw [htk, List.flatMap_append]; simp
  rw [ee, List.length_append] at e2
  have O5 := Om.pure hr2.pure
  obtain ⟨s2, w6, hr6, R6, X6, f6⟩ := O5.rows.appendL (P := Try.prog) (ty := 26) slT_tm hr2.rows.lst (tmr_sz _) (tmr_one _) (by rw [tmr_len, tmr_len]; omega) (by rw [tmr_len, tmr_len]; simp only [maxLen]; omega)
  refine ⟨s2, w6, hr6, X6.kept (fun b hb hx => Om.vis b hx hb), ?_⟩
  rw [wrap_succ hlt (by omega)]
  have z5 := hr2.pure.size
  have zl := El.size
  refine ⟨⟨j + 1, rfl, hlt, (El.trans hr2.pure).trans' X6 (fun i hi hb => by have := om i hb; omega), ⟨by rw [ee]; simpa [tmr] using R6, fun b hb hh => ?_⟩, fun b hb => ?_⟩, lt_dec hlt⟩
  ·rcases f6 b hb with h | h
   ·exact Om.vis b h hh
   ·have := hl.lt b hh; omega
  ·rcases f6 b hb with h | h
   ·exact om b h
   ·omega
 ·have hge := eq_of_dec hlg hj hc
  subst hge
  rw [List.take_length] at Om
  have e1 := hfl G.length
  rw [List.take_length] at e1
  have hin : ∀ s ∈ l, s.t ∈ Sp.subs L t ++ G.flatMap (Sp.subs L) := fun s hs => by
   rw [List.mem_append]
   rcases hmay s hs with h | ⟨g, hg, h⟩
   ·exact .inl h
   ·exact .inr (List.mem_flatMap.2 ⟨g, hg, h⟩)
  generalize Sp.subs L t ++ G.flatMap (Sp.subs L) = M at *
  refine ⟨fun i H w' => ∃ j : Nat, i = j ∧ j ≤ l.length ∧ Pure w0 w' ∧ Own H w' 41 1 may (tmr M), fun i _ => ((l.length : Int) - i).toNat, ⟨0, rfl, Nat.zero_le _, El, Om⟩, ?_⟩
  rintro _ Hm wm hm ⟨j, rfl, hj, Em, Omm⟩
  unfold m_law08_local_l2
  refine ⟨fun hc => ?_, fun _ => ⟨rfl, Em⟩⟩
  have hlt := lt_of_dec hll hc
  obtain ⟨a2, at2, _, row2⟩ := st_nth hs (v := (j : Int)) (by omega) (by simpa using hlt)
  have hjt : ((j : Int)).toNat = j := by simp
  simp only [hjt] at row2
  have c2 : ∀ {w : World}, Pure w0 w → w.cell? (a2.add 3) = some (.int .i64 l[j].t) := fun E => (E.row row2 (fun h => h)) 3 (by simp [strow])
  refine ⟨a2, at2, _, c2 Em, ?_⟩
  refine (c_r08_Has may M l[j].t wm Omm.rows.lst (by omega)).mono ?_
  rintro _ w7 ⟨r3, rfl, rfl, rfl⟩
  refine ⟨_, rfl, Kept.refl _, Br.f (by simp [hin _ (List.getElem_mem hlt)]) ?_⟩
  refine ⟨fun i H w' => ∃ a : Nat, i = a ∧ a ≤ j ∧ Pure w0 w' ∧ Own H w' 41 1 may (tmr M), fun i _ => ((j : Int) - i).toNat, ⟨0, rfl, Nat.zero_le _, Em, Omm⟩, ?_⟩
  rintro _ Hn wn hnn ⟨a, rfl, ha, En, On⟩
  unfold m_law08_local_l3
  refine ⟨fun hc3 => ?_, fun hc3 => ?_⟩
  ·have hc3 := of_decide_eq_true hc3
   have haj : a < j := by omega
   obtain ⟨a3, at3, _, row3⟩ := st_nth hs (v := (a : Int)) (by omega) (by simp; omega)
   have hat : ((a : Int)).toNat = a := by simp
   simp only [hat] at row3
   refine ⟨a3, at3, ?_⟩
   intro w8 hs8
   have E8 := En.hst hs8
   have c3 : w8.cell? (a3.add 3) = some (.int .i64 (l[a]'(by omega)).t) := (E8.row row3 (fun h => h)) 3 (by simp [strow])
   refine ⟨_, c3, a2, at2, _, c2 E8, Br.f ?_ ?_⟩
   ·have hne : (l[a]'(by omega)).t ≠ l[j].t := fun e => by
     have h1 : (l.map Sp.Step.t)[a]'(by simp; omega) = (l.map Sp.Step.t)[j]'(by simpa using hlt) := by simpa using e
     have := (List.getElem_inj hnd).1 h1
     omega
    simpa using hne
   ·rw [wrap_succ (n := j) haj (by omega)]
    exact ⟨⟨a + 1, rfl, haj, E8, On.hst hs8⟩, lt_dec haj⟩
  ·have hc3 := of_decide_eq_false hc3
   rw [wrap_succ hlt (by omega)]
   exact ⟨⟨j + 1, rfl, hlt, En, On⟩, lt_dec hlt⟩
structure PfAt (w0 : World) (H : Nat → Prop) (w : World) (p q k x : Addr) (L : Sp.Pool) (G G8 : List Int) (S : List Sp.Way) (FP FR F F8 : Nat → Prop) : Prop where
 kq : KqAt w0 H w p q k L G S FP FR F
 k8 : K8At w x q G8 F8
 dR : ∀ b, F b → ¬ FR b
 o8 : ∀ b, F8 b → w0.heap.size ≤ b ∧ ¬ H b ∧ ¬ FP b ∧ ¬ FR b ∧ ¬ F b
section
variable {w0 w w' : World} {H H' : Nat → Prop} {p q k x : Addr} {L : Sp.Pool} {G G8 G' : List Int} {S S' : List Sp.Way} {FP FR F F8 F' : Nat → Prop}
theorem PfAt.pureE (h : PfAt w0 H w p q k x L G G8 S FP FR F F8) (E : Pure w w') : PfAt w0 H w' p q k x L G G8 S FP FR F F8 := ⟨h.kq.pureE E, h.k8.pure E, h.dR, h.o8⟩
theorem PfAt.hst (h : PfAt w0 H w p q k x L G G8 S FP FR F F8) (hs : Hst w0 H w H' w') : PfAt w0 H' w' p q k x L G G8 S FP FR F F8 := by
 have x1 := hs.disj (G := F8) (fun b hb => ⟨h.k8.lt hb, (h.o8 b hb).2.1⟩)
 exact ⟨h.kq.hst hs, h.k8.ext hs.ext x1, h.dR, fun b hb => ⟨(h.o8 b hb).1, x1 b hb, (h.o8 b hb).2.2⟩⟩
theorem PfAt.add (h : PfAt w0 H w p q k x L G G8 S FP FR F F8) (hK : KnowAt w' k p G' S' F') (E : Ext F w w') (hF : ∀ b, F' b → F b ∨ w.heap.size ≤ b) : Kept H w w' ∧ PfAt w0 H w' p q k x L G' G8 S' FP FR F' F8 := by
 obtain ⟨hk, A⟩ := h.kq.kn.add hK E hF
 refine ⟨hk, ⟨A, h.kq.ref.ext E (fun b hb hf => h.dR b hf hb), h.kq.oR⟩, h.k8.ext E (fun b hb => (h.o8 b hb).2.2.2.2), fun b hb => ?_, fun b hb => ⟨(h.o8 b hb).1, (h.o8 b hb).2.1, (h.o8 b hb).2.2.1, (h.o8 b hb).2.2.2.1, fun hf => ?_⟩⟩
 ·rcases hF b hb with h1 | h1
  ·exact h.dR b h1
  ·exact fun hh => by have := h.kq.ref.lt hh; omega
 ·rcases hF b hf with h1 | h1
  ·exact (h.o8 b hb).2.2.2.2 h1
  ·have := h.k8.lt hb; omega
theorem PfAt.add8 (h : PfAt w0 H w p q k x L G G8 S FP FR F F8) (hK : K8At w' x q G' F') (E : Ext F8 w w') (hF : ∀ b, F' b → F8 b ∨ w.heap.size ≤ b) : Kept H w w' ∧ PfAt w0 H w' p q k x L G G' S FP FR F F' := by
 have hk : Kept H w w' := E.kept (fun b hb hf => (h.o8 b hf).2.1 hb)
 refine ⟨hk, ⟨⟨h.kq.kn.pool.ext E (fun b hb hf => (h.o8 b hf).2.2.1 hb), h.kq.kn.know.ext E (fun b hb hf => (h.o8 b hf).2.2.2.2 hb), h.kq.kn.pure.trans' E (fun i hi hb => by have := (h.o8 i hb).1; omega), h.kq.kn.oP, h.kq.kn.oF, h.kq.kn.hs.again hk⟩, h.kq.ref.ext E (fun b hb hf => (h.o8 b hf).2.2.2.1 hb), h.kq.oR⟩, hK, h.dR, fun b hb => ?_⟩
 rcases hF b hb with h1 | h1
 ·exact h.o8 b h1
 ·exact ⟨by have := h.kq.kn.pure.size; omega, fun hh => by have := h.kq.kn.hs.lt b hh; omega, fun hh => by have := h.kq.kn.pool.lt hh; omega, fun hh => by have := h.kq.ref.lt hh; omega, fun hh => by have := h.kq.kn.know.lt hh; omega⟩
end
theorem c_law08_DeduceProofs {S0 Sg : Nat → Prop} (ts : List Sp.Tree) (given : List Int) (sT sg : Sl) (w0 : World) (hT : TreeAt S0 w0 sT (.mk 0 0 0 0 ⟨#[]⟩ ts)) (hS : ∀ b, S0 b → b < w0.heap.size) (hg : Lst Sg w0 1 sg (tmr given)) :
  Calls Try.prog 7 #[sT.v, sg.v] w0 (fun e w' => ∃ r : Bool, e = .returned (.bool r) ∧ (r = true ∧ Pure w0 w')) := by
 refine w_law08_DeduceProofs _ _ w0 (fun r w' => r = true ∧ Pure w0 w') ?_
 unfold m_law08_DeduceProofs
 refine (c_law08_wide ts sT w0 hT hS).mono ?_
 rintro _ w1 ⟨r14, rfl, hwd, E1⟩
 refine ⟨_, rfl, E1.keptP, ?_⟩
 intro H w hs
 have Ew : Pure w0 w := E1.hst hs
 have lg : sg.len = given.length := by rw [hg.len, tmr_len]
 unfold m_law08_DeduceProofs_j1
 refine ⟨fun _ => ?_, fun h => ?_⟩
 ·refine (c_live8 w).mono ?_
  rintro _ w3 ⟨r1, rfl, hr1, E3⟩
  exact ⟨_, rfl, E3.keptP, hr1, Ew.trans E3⟩
 rw [Bool.or_eq_false_iff] at h
 obtain ⟨h1, h2⟩ := h
 have h2 := of_decide_eq_false h2
 have h20 : given.length ≤ 20 := by omega
 obtain ⟨hn, hc⟩ := hwd h1
 refine (c_law08_pools ts sT w (hT.pure Ew) (fun b hb => by have := hS b hb; have := Ew.size; omega) hn).mono ?_
 rintro _ w2 ⟨_, _, r4, _, rfl, p, q, FP, FR, rfl, rfl, rfl, hq⟩
 obtain ⟨hW, hLn, _⟩ := Sp.poolAll_ok ts
 have hL4 : (Sp.poolAll ts).1.length ≤ 400 := by omega
 generalize (Sp.poolAll ts).1 = L at *
 have E02 := Ew.trans hq.pure
 refine ⟨_, _, _, _, rfl, hq.pure.keptP, Br.f rfl ?_⟩
 refine (c_ded_New p w2).mono ?_
 rintro _ w3 ⟨_, rfl, k, F0, rfl, hk3, E3, hF3⟩
 have A3 := KqAt.start Ew hs.here hq hk3 E3 hF3
 refine ⟨_, rfl, E3.keptP, ?_⟩
 intro x w4 h4
 have E4 : Pure w3 w4 := Ext.new h4
 have hx := h4.at_size
 have A4 := A3.pureE E4
 have hnil : ∀ b, ¬ Sl.nil.blk b := fun b hb => by obtain ⟨a, h, _⟩ := hb; cases h
 have P4 : PfAt w0 H w4 p q k x L [] [] [] FP FR F0 (fun b => b = x.block ∨ Sl.nil.blk b) := by
  refine ⟨A4, ⟨Sl.nil, ⟨Box.of_new h4, Rws.nil _ _ _, hnil _⟩, fun b => Iff.rfl⟩, fun b hb hh => ?_, fun b hb => ?_⟩
  ·have := hF3 b hb; have := hq.ref.lt hh; omega
  ·rcases hb with rfl | hb
   ·exact ⟨by have := A3.kn.pure.size; omega, fun hh => by have := A3.kn.hs.lt _ hh; omega, fun hh => by have := A3.kn.pool.lt hh; omega, fun hh => by have := A3.ref.lt hh; omega, fun hh => by have := A3.kn.know.lt hh; omega⟩
   ·exact (hnil b hb).elim
 refine Br.f rfl ?_
 refine ⟨fun i H w' => ∃ j : Nat, i = j ∧ j ≤ given.length ∧ ∃ S F F8, PfAt w0 H w' p q k x L (Sp.giveAll L (given.take j)) (Sp.giveAll L (given.take j)) S FP FR F F8 ∧ Sp.KnowOk L (Sp.giveAll L (given.take j)) S, fun i _ => ((given.length : Int) - i).toNat, ⟨0, rfl, Nat.zero_le _, [], F0, _, P4, Sp.KnowOk.nil L⟩, ?_⟩
 rintro _ Hl wl hl ⟨j, rfl, hj, S, F, F8, A, hok⟩
 unfold m_law08_DeduceProofs_l2
 refine ⟨fun hc => ?_, fun hc => ?_⟩
 ·have hlt := lt_of_dec lg hc
  obtain ⟨a1, at1, _, c1⟩ := tm_nth (hg.pure A.kq.kn.pure) hlt
  have htk : given.take (j + 1) = given.take j ++ [given[j]] := List.take_succ_eq_append_getElem hlt
  have hga : Sp.giveAll L (given.take (j + 1)) = Sp.giveT L (Sp.giveAll L (given.take j)) given[j] := by rw [htk]; unfold Sp.giveAll; rw [List.foldl_append]; rfl
  have hgl : (Sp.giveAll L (given.take j)).length ≤ 20 := by have := giveAll_len (L := L) (given := given.take j); rw [List.length_take] at this; omega
  refine ⟨a1, at1, _, c1, ?_⟩
  refine (c_ded_Add k p given[j] wl A.kq.kn.know A.kq.kn.pool hW (fun b hb => (A.kq.kn.oF b hb).2.2) hok).mono ?_
  rintro _ w5 ⟨_, rfl, _, S', F', hK', hok', X5, f5⟩
  obtain ⟨k5, A5⟩ := A.add hK' X5 f5
  obtain ⟨a2, at2, _, c2⟩ := tm_nth (hg.pure A5.kq.kn.pure) hlt
  refine ⟨_, rfl, k5, a2, at2, _, c2, ?_⟩
  refine (c_r08_Add x q given[j] w5 A5.k8 A5.kq.ref (by omega)).mono ?_
  rintro _ w6 ⟨_, rfl, F8', hK8, X6, f6⟩
  obtain ⟨k6, A6⟩ := A5.add8 hK8 X6 f6
  refine ⟨_, rfl, k6, ?_⟩
  rw [wrap_succ hlt (by omega)]
  exact ⟨⟨j + 1, rfl, hlt, S', F', F8', by rw [hga]; exact A6, by rw [hga]; exact hok'⟩, lt_dec hlt⟩
 have hge := eq_of_dec lg hj hc
 subst hge
 rw [List.take_length] at A hok
 have hGin : ∀ g ∈ Sp.giveAll L given, Sp.inP L g = true := fun g hg => (mem_giveAll.1 hg).2
 have hGl : (Sp.giveAll L given).length ≤ 20 := by have := giveAll_len (L := L) (given := given); omega
 have hfg : ∀ {pre : List Sp.Step} {s : Sp.Step}, Sp.fol L (Sp.giveAll L given) pre s = true → Sp.fol L given pre s = true := fun h => fol_give h
 generalize Sp.giveAll L given = G at *
 refine (c_r08_Derived x q wl A.k8 A.kq.ref hW hGin (by omega)).mono ?_
 rintro _ w7 ⟨r9, rfl, D, hr9, hD⟩
 have A7 := A.pureE hr9.pure
 refine ⟨r9, rfl, hr9.kept, ?_⟩
 have O7 : Own Hl w7 4 1 r9 (brw (L.length + 1) D) := ⟨hr9.rows, fun b hb hh => by have := hr9.own b hb; have := hl.lt b hh; omega⟩
 have hds : ∀ t, Sp.Drv L (Sp.Seen L G) t ↔ Sp.Drv L (fun x => x ∈ Sp.wkeys S) t := fun t => ⟨fun h => h.mono (fun y hy => (hok.seen_iff y).2 hy), fun h => h.mono (fun y hy => (hok.seen_iff y).1 hy)⟩
 refine ⟨fun i H w' => ∃ j : Nat, i = j ∧ j ≤ L.length + 1 ∧ PfAt w0 H w' p q k x L G G S FP FR F F8 ∧ Own H w' 4 1 r9 (brw (L.length + 1) D), fun i _ => (((L.length + 1 : Nat) : Int) - i).toNat, ⟨0, rfl, Nat.zero_le _, A7, O7⟩, ?_⟩
 rintro _ Hm wm hm ⟨j, rfl, hj, Am, Om⟩
 unfold m_law08_DeduceProofs_l3
 obtain ⟨v3, hv3, hv3l⟩ := Am.kq.ref.nodes
 refine ⟨q, rfl, v3, hv3, fun hc => ?_, fun _ => ?_⟩
 ·have hc := of_decide_eq_true hc
  have hlt : j < L.length + 1 := by omega
  have hwr : IntKind.i64.wrap ((j : Int) + 1) = ((j + 1 : Nat) : Int) := by rw [IntWalk.i64_in _ (by omega)]; omega
  refine (c_ded_Proof k p j wm hW hok Am.kq.kn.know Am.kq.kn.pool).mono ?_
  rintro _ w8 ⟨r10, r11, rfl, l, hr10, hd11, hemp, hpf⟩
  have A8 := Am.pureE hr10.pure
  have O8 := Om.pure hr10.pure
  have L8 : Own Hm w8 167 4 r10 (l.map strow) := ⟨hr10.rows, fun b hb hh => by have := hr10.own b hb; have := hm.lt b hh; omega⟩
  refine ⟨r10, r11, rfl, hr10.kept, ?_⟩
  have J5 : ∀ (x3 : Bool) (H : Nat → Prop) (w : World), r11 = x3 → PfAt w0 H w p q k x L G G S FP FR F F8 → Own H w 4 1 r9 (brw (L.length + 1) D) → Own H w 167 4 r10 (l.map strow) → Hst w0 H w H w → (r11 = true → Sp.inP L (j : Int) = true) →
    m_law08_DeduceProofs_j5 sg (some p) (some q) x j r10 r11 x3 w0 H w (fun y'0 H' w' => (∃ j : Nat, y'0 = j ∧ j ≤ L.length + 1 ∧ PfAt w0 H' w' p q k x L G G S FP FR F F8 ∧ Own H' w' 4 1 r9 (brw (L.length + 1) D)) ∧ (((L.length + 1 : Nat) : Int) - y'0).toNat < (((L.length + 1 : Nat) : Int) - (j : Int)).toNat) (fun r w' => r = true ∧ Pure w0 w') := by
   rintro _ H w rfl A O Ls hs hin
   unfold m_law08_DeduceProofs_j5
   intro H4 w17 hs17
   have A17 := A.hst hs17
   have O17 := O.hst hs17
   have L17 := Ls.hst hs17
   have hrl : r10.len = l.length := by rw [L17.rows.len]; simp
   unfold m_law08_DeduceProofs_j4
   refine Br.f ?_ ⟨fun hf => ?_, fun ht => ?_⟩
   ·cases hr : r11 with
    | true => simp
    | false =>
     have : l = [] := hemp hr
     simp [hrl, this]
   ·rw [hwr]
    exact ⟨⟨j + 1, rfl, hlt, A17, O17⟩, lt_dec hlt⟩
   ·have ht : r11 = true := by simpa using ht
    obtain ⟨hne, hfol, hnd, hlast, hsub⟩ := hpf ht
    have hinj := hin ht
    have hch : Sp.check8 L given l j = (0, 0) := by
     unfold Sp.check8
     rw [Sp.badAt_none (fun i hi => hfg (hfol i hi))]
     have : l.length ≠ 0 := fun h => hne (List.length_eq_zero_iff.1 h)
     simp [this, hlast]
    have hfew : l.length ≤ L.length := by
     have := Sp.pool_few hnd (fun t ht => by
      obtain ⟨s, hs, rfl⟩ := List.mem_map.1 ht
      obtain ⟨i, hi, rfl⟩ := List.getElem_of_mem hs
      exact Sp.fol_in (hfol i hi))
     simpa using this
    refine (c_ded_Check p sg r10 given l j w17 A17.kq.kn.pool hW.ok (hg.pure A17.kq.kn.pure) L17.rows.lst (by omega) (by omega)).mono ?_
    rintro _ w9 ⟨r12, r13, rfl, hc1, E9⟩
    rw [hch] at hc1; cases hc1
    have A9 := A17.pureE E9
    refine ⟨_, _, rfl, E9.keptP, ?_⟩
    refine (c_r08_Check q sg r10 given l j w9 A9.kq.ref hW.ok (hg.pure A9.kq.kn.pure) (L17.pure E9).rows.lst (by omega) (by omega)).mono ?_
    rintro _ w10 ⟨r14, r15, rfl, hc2, E10⟩
    rw [hch] at hc2; cases hc2
    have A10 := A9.pureE E10
    refine ⟨_, _, rfl, E10.keptP, Br.f rfl ?_⟩
    intro H2 w14 hs14
    have A14 := A10.hst hs14
    have O14 := ((O17.pure E9).pure E10).hst hs14
    have L14 := ((L17.pure E9).pure E10).hst hs14
    obtain ⟨s8, k8, hF8⟩ := A14.k8
    refine ⟨s8, k8.box.cell rfl, ?_⟩
    refine (c_law08_local q s8 r10 G l j w14 hW A14.kq.ref (by omega) k8.giv.lst (by omega) L14.rows.lst (by omega) hnd (fun s hs => ?_)).mono ?_
    ·rcases hsub s hs with h | h
     ·exact .inl ((Sp.subs_mem hW).2 ⟨hinj, h⟩)
     ·obtain ⟨g, hg, h2⟩ := ((hok.seen_iff _).1 h).sub
      exact .inr ⟨g, hg, (Sp.subs_mem hW).2 ⟨hGin g hg, h2⟩⟩
    ·rintro _ w15 ⟨_, rfl, rfl, E15⟩
     refine ⟨_, rfl, E15.keptP, Br.f rfl ?_⟩
     rw [hwr]
     exact ⟨⟨j + 1, rfl, hlt, A14.pureE E15, O14.pure E15⟩, lt_dec hlt⟩
  have hs8 := hm.again (hr10.kept (H := Hm))
  refine ⟨fun hp => ?_, fun hp => ?_⟩
  ·have hp := of_decide_eq_true hp
   have hin : Sp.inP L (j : Int) = true := Sp.inP_iff.2 ⟨by omega, by omega⟩
   obtain ⟨a4, at4, _, c4⟩ := brw_get O8.rows (t := (j : Int)) (by omega) (by omega)
   exact ⟨a4, at4, _, c4, J5 _ Hm w8 (bool_iff (by rw [hd11, hD _ hin, hds])) A8 O8 L8 hs8 (fun _ => hin)⟩
  ·have hp := of_decide_eq_false hp
   have hj0 : (j : Int) = 0 := by omega
   have hno : r11 = false := by
    cases hr : r11 with
    | false => rfl
    | true =>
     have hd := hd11.1 hr
     have hin : Sp.inP L (j : Int) = false := by
      cases h : Sp.inP L (j : Int) with
      | false => rfl
      | true => have := (Sp.inP_iff.1 h).1; omega
     have hnode : Sp.nodeOf L (j : Int) = Sp.noNode := by unfold Sp.nodeOf; rw [Sp.get_none hin]; rfl
     rcases hd.inv with h | h | ⟨h, _⟩ | ⟨h, _⟩ | ⟨h, _⟩
     ·have := hok.inp _ h; rw [hin] at this; cases this
     all_goals (rw [hnode] at h; exact absurd h (by decide))
   exact J5 false Hm w8 hno A8 O8 L8 hs8 (fun h => by rw [hno] at h; cases h)
 ·refine (c_live8 wm).mono ?_
  rintro _ w19 ⟨r17, rfl, hr17, E19⟩
  exact ⟨_, rfl, E19.keptP, hr17, Am.kq.kn.pure.trans E19⟩
end Go.Proofs
end
section
namespace Go.SE
open Go.ChangeShapes Go.WideShapes Go.ChangeAt Go.RowKit
section
variable {H : Type} {enc : TypeId × Value → H} {P : Program}
theorem below_trodAll (hl : laidOutB P = true) {W W' : World} (hb : Below W.heap.size W W') : ∀ (ts : List TypeId) (vs : List Value) (ds : List (DataW H)) (ps : List MemPlace), (ts.all fun t => P.readableRec t && decide (t < P.types.size)) = true →
  DataW.TrodAll enc P W 0 (fun _ => true) true ts vs ds ps → (∀ x ∈ ps, x.block < W.heap.size) → DataW.TrodAll enc P W' 0 (fun b => decide (b < W.heap.size)) true ts vs ds ps
 | [], _, _, _, _, h, _ => by
  obtain ⟨rfl, rfl, rfl⟩ := trodAll_nil h
  exact h
 | t :: ts, _, _, _, hr, h, hlt => by
  obtain ⟨v, vs1, d, ds1, a, b, rfl, rfl, rfl, h1, h2⟩ := trodAll_cons h
  simp only [List.all_cons, Bool.and_eq_true, decide_eq_true_eq] at hr
  exact ⟨a, b, Below.trod hl hr.1.1 hr.1.2 h1 hb (fun x hx => hlt x (by simp [hx])), below_trodAll hl hb ts vs1 ds1 b (by simpa using hr.2) h2 (fun x hx => hlt x (by simp [hx])), rfl⟩
theorem law_post {f : Func} {s : ChangeSpec} {W W' : World} {args : Array Value} {ds gs : List (DataW H)} {before : List MemPlace} {t : TypeId} (hl : laidOutB P = true)
  (hv : s.vars = []) (hf : ∀ ds : List (DataW H), ds.length = f.params.size → s.fn H ds = { results := [.lit (.bool true)], args := ds }) (hrt : f.resultTypes = #[t]) (ht : P.underlying t = some .bool)
  (hr : (f.params.toList.all fun t => P.readableRec t && decide (t < P.types.size)) = true)
  (hW : DataW.Whole enc P f.params.toList s.vars false W args.toList ds gs before) (E : Pure W W') :
  s.post enc P f false true false false W args (.bool true) W' := by
 have hW' := hW
 obtain ⟨p, q, hA, hV, rfl, hfz, hnd⟩ := hW
 rw [hv] at hV
 obtain ⟨rfl, rfl⟩ := trodVars_none hV
 have hlen : ds.length = f.params.size := by
  have : ∀ (ts : List TypeId) (vs : List Value) (ds : List (DataW H)) (ps : List MemPlace), DataW.TrodAll enc P W 0 (fun _ => true) true ts vs ds ps → ds.length = ts.length := by
   intro ts
   induction ts with
   | nil => intro vs ds ps h; obtain ⟨_, rfl, _⟩ := trodAll_nil h; rfl
   | cons t ts ih =>
    intro vs ds ps h
    obtain ⟨v, vs1, d, ds1, a, b, _, rfl, _, _, h2⟩ := trodAll_cons h
    simp [ih _ _ _ h2]
  simpa using this _ _ _ _ hA
 have hfn := hf ds hlen
 have hfn' : s.fn H (ds ++ []) = { results := [.lit (.bool true)], args := ds } := by rw [List.append_nil]; exact hfn
 have hlt : ∀ x ∈ p, x.block < W.heap.size := fun x hx => by simpa using hW'.lt x (by simp [hx])
 have bel := E.below
 refine ⟨ds, [], p ++ [], [], p, [], hW', ?_, ?_, ?_, bel.frame _, fun h => by cases h⟩
 ·rw [hfn', hrt]; exact trodAll_mk1 (shut_bool ht _)
 ·rw [hfn']; exact below_trodAll hl bel _ _ _ _ hr hA hlt
 ·rw [hfn', hv]; exact hV
theorem law_lifted {C : Checked} {os : Os} {f : FuncId} {fn : Func} {s : ChangeSpec} {t : TypeId} (hl : laidOutB C.prog = true)
  (hv : s.vars = []) (hf : ∀ ds : List (DataW H), ds.length = fn.params.size → s.fn H ds = { results := [.lit (.bool true)], args := ds }) (hrt : fn.resultTypes = #[t]) (ht : C.prog.underlying t = some .bool)
  (hr : (fn.params.toList.all fun t => C.prog.readableRec t && decide (t < C.prog.types.size)) = true)
  (own : ownKnob C.prog.godebug = none) (started : os.Started) (noInit : C.prog.inits.idxOf? f = none) (hfn : C.prog.funcs[f]? = some fn)
  (witness : ∃ (w : World) (tape : Tape) (i : Input), w.os = os ∧ (w.forCall tape i).Shaped C.prog ∧ i.vars = [] ∧ Input.okWide C.prog (w.forCall tape i) .any w.heap.size f i ∧
   s.pre6 enc C.prog fn [] false (w.forCall tape i).memory i.args ∧ ({} : Assume).holds C.prog (lone (Frame.enter C.prog f i.args .normal) [] (w.forCall tape i)))
  (contract : ∀ (W : World) (base : Nat) (args : Array Value) (ds : List (DataW H)) (p : List MemPlace),
   (∀ (j : Nat) t v, fn.params[j]? = some t → args[j]? = some v → Value.okWide C.prog W .any base t v) →
   DataW.TrodAll enc C.prog W 0 (fun _ => true) true fn.params.toList args.toList ds p → (∀ x ∈ p, x.block < W.heap.size) →
   Calls C.prog f args W (fun e W' => ∃ r : Bool, e = .returned (.bool r) ∧ (r = true ∧ Pure W W'))) :
  ReturnsInHanded {} C os f .any (s.pre6 enc C.prog fn [] false) (s.post enc C.prog fn false true false false) := by
 refine returnsInHanded_of_change own started noInit hfn witness ?_
 intro W base args ds gs before hval hW _ _
 have hW' := hW
 obtain ⟨p, q, hA, hV, rfl, hfz, hnd⟩ := hW
 refine (contract W base args ds p hval hA (fun x hx => by simpa using hW'.lt x (by simp [hx]))).mono fun e W' ⟨r, he, h1, h2⟩ => ?_
 subst h1
 exact ⟨_, he, law_post hl hv hf hrt ht hr hW' h2⟩
end
end Go.SE
namespace Go.SE
open Go.ChangeShapes Go.WideShapes Go.ChangeAt Go.RowKit
section
variable {P : Program} {W : World} {r : Reach} {b0 : Nat} {t : TypeId} {v : Value}
theorem okWide_sl {e : TypeId} (ht : P.underlying t = some (.slice e)) (h : Value.okWide P W r b0 t v) : ∃ a n c, v = .slice a n c := by
 unfold Value.okWide at h
 rw [ht] at h
 simp only at h
 unfold Cell.okWide at h
 rw [ht] at h
 cases v <;> simp [Cell.ok, ht] at h
 exact ⟨_, _, _, rfl⟩
end
end Go.SE
end
section
open Go Go.SE
namespace Go.Proofs
theorem mapM_facts {α β : Type} {f : α → Option β} : ∀ {l : List α} {r : List β}, l.mapM f = some r → r.length = l.length ∧ ∀ (i : Nat) (a : α), l[i]? = some a → ∃ b, f a = some b ∧ r[i]? = some b
 | [], r, h => by
  have : r = [] := by simpa using h.symm
  subst this
  exact ⟨rfl, fun i a h => by simp at h⟩
 | x :: xs, r, h => by
  rw [List.mapM_cons] at h
  cases hx : f x with
  | none => simp [hx] at h
  | some y =>
   cases hxs : xs.mapM f with
   | none => simp [hx, hxs] at h
   | some ys =>
    have : r = y :: ys := by simpa [hx, hxs] using h.symm
    subst this
    obtain ⟨h1, h2⟩ := mapM_facts hxs
    refine ⟨by simp [h1], fun i a ha => ?_⟩
    cases i with
    | zero => cases ha; exact ⟨y, hx, rfl⟩
    | succ i => exact h2 i a (by simpa using ha)
theorem cells_row {w : World} {base : Nat} {a : Addr} {n : Nat} {cs : List Value} (h : w.cells? base a n = some cs) : cs.length = n ∧ Row w a cs := by
 obtain ⟨_, h1, h2⟩ := World.cells?_some h
 exact ⟨h1, fun j hj => h2 j (by omega)⟩
section
variable {H : Type} {enc : TypeId × Value → H} {P : Program} {W : World} {base : Nat} {sp : Nat → Bool} {held : Bool}
theorem trod_int1 {t : TypeId} {k : IntKind} (ht : P.underlying t = some (.int k)) {n : Nat} {c : Value} {x : DataW H × List MemPlace} (h : DataW.trod enc P W base sp held n t [c] = some x) : ∃ m, c = .int k m := by
 cases n with
 | zero => cases h
 | succ n =>
  rw [DataW.trod_step] at h
  unfold DataW.trodStep at h
  rw [ht] at h
  cases c <;> simp at h
  obtain ⟨⟨rfl, _⟩, _⟩ := h
  exact ⟨_, rfl⟩
theorem trod_str1 {t : TypeId} (ht : P.underlying t = some .string) {n : Nat} {c : Value} {x : DataW H × List MemPlace} (h : DataW.trod enc P W base sp held n t [c] = some x) : ∃ m, c = .string m := by
 cases n with
 | zero => cases h
 | succ n =>
  rw [DataW.trod_step] at h
  unfold DataW.trodStep at h
  rw [ht] at h
  cases c <;> simp at h
  exact ⟨_, rfl⟩
theorem trod_slice1 {t e : TypeId} (ht : P.underlying t = some (.slice e)) {n : Nat} {c : Value} {x : DataW H × List MemPlace} (h : DataW.trod enc P W base sp held (n + 1) t [c] = some x) :
  c = .slice none 0 0 ∨ ∃ a len cap, c = .slice (some a) len cap ∧ len ≤ cap ∧ cap ≤ maxLen ∧ ∀ i, i < len → ∃ cs y, W.cells? base (a.add (i * P.cellsOf e)) (P.cellsOf e) = some cs ∧ DataW.trod enc P W base sp held n e cs = some y := by
 rw [DataW.trod_step] at h
 unfold DataW.trodStep at h
 rw [ht] at h
 cases c with
 | slice a len cap =>
  cases a with
  | none =>
   cases len with
   | zero => cases cap with
    | zero => exact .inl rfl
    | succ c => simp at h
   | succ l => simp at h
  | some a =>
   right
   simp only at h
   split at h
   ·rename_i hc
    refine ⟨a, len, cap, rfl, hc.2.1, hc.2.2, fun i hi => ?_⟩
    cases hm : (List.range len).mapM fun i => (W.cells? base (a.add (i * P.cellsOf e)) (P.cellsOf e)).bind (DataW.trod enc P W base sp held n e) with
    | none => rw [hm] at h; cases h
    | some r =>
     obtain ⟨b, hb, _⟩ := (mapM_facts hm).2 i i (by simp [hi])
     obtain ⟨cs, h1, h2⟩ := Option.bind_eq_some_iff.1 hb
     exact ⟨cs, b, h1, h2⟩
   ·cases h
 | _ => simp at h
structure TreeTypes (P : Program) (tS tT : TypeId) : Prop where
 ex : ∃ ti tu ts : TypeId, ∃ f0 f1 f2 f3 f4 f5 : Field, P.underlying tS = some (.slice tT) ∧ P.underlying tT = some (.struct #[f0, f1, f2, f3, f4, f5]) ∧ P.cellsOf tT = 6 ∧
  (f0.type = ti ∧ f1.type = ti ∧ f2.type = ti ∧ f3.type = tu ∧ f4.type = ts ∧ f5.type = tS) ∧ (f0.offset = 0 ∧ f1.offset = 1 ∧ f2.offset = 2 ∧ f3.offset = 3 ∧ f4.offset = 4 ∧ f5.offset = 5) ∧
  P.underlying ti = some (.int .i64) ∧ P.underlying tu = some (.int .u64) ∧ P.underlying ts = some .string ∧ P.cellsOf ti = 1 ∧ P.cellsOf tu = 1 ∧ P.cellsOf ts = 1 ∧ P.cellsOf tS = 1
theorem trod_tree {tS tT : TypeId} (hTT : TreeTypes P tS tT) : ∀ n : Nat,
  (∀ (c : Value) (x : DataW H × List MemPlace), DataW.trod enc P W base sp held n tS [c] = some x → ∃ s : Sl, ∃ ts : List Sp.Tree, c = s.v ∧ ∀ (k f t u : Int) (tx : ByteArray), TreeAt (fun _ => True) W s (.mk k f t u tx ts)) ∧
  (∀ (cs : List Value) (x : DataW H × List MemPlace), DataW.trod enc P W base sp held n tT cs = some x → ∃ t s, cs = trow t s ∧ TreeAt (fun _ => True) W s t) := by
 obtain ⟨ti, tu, tx, f0, f1, f2, f3, f4, f5, hS, hT, hc6, ⟨e0, e1, e2, e3, e4, e5⟩, ⟨o0, o1, o2, o3, o4, o5⟩, ui, uu, us, ci, cu, cs1, cS⟩ := hTT.ex
 intro n
 induction n with
 | zero => exact ⟨fun c x h => (by cases h), fun cs x h => (by cases h)⟩
 | succ n ih =>
  refine ⟨fun c x h => ?_, fun cs x h => ?_⟩
  ·rcases trod_slice1 hS h with rfl | ⟨a, len, cap, rfl, hle, hcm, hel⟩
   ·exact ⟨Sl.nil, [], rfl, fun k f t u tx => .mk k f t u tx [] Sl.nil (fun _ => Sl.nil) rfl (by simp) (fun i h => by simp at h) (fun i h => by simp at h)⟩
   ·rw [hc6] at hel
    have hex : ∀ i, ∃ q : Sp.Tree × Sl, i < len → Row W (a.add (i * 6)) (trow q.1 q.2) ∧ TreeAt (fun _ => True) W q.2 q.1 := by
     intro i
     by_cases hi : i < len
     ·obtain ⟨cs, y, h1, h2⟩ := hel i hi
      obtain ⟨tr, s, e, hTr⟩ := ih.2 cs y h2
      exact ⟨(tr, s), fun _ => ⟨e ▸ (cells_row h1).2, hTr⟩⟩
     ·exact ⟨(Sp.Tree.mk 0 0 0 0 ⟨#[]⟩ [], Sl.nil), fun h => absurd h hi⟩
    obtain ⟨q, hq⟩ := Classical.axiomOfChoice hex
    refine ⟨⟨some a, len, cap⟩, (List.range len).map fun i => (q i).1, rfl, fun k f t u tx => .mk k f t u tx _ _ (fun i => (q i).2) (by simp) (by simp only [maxLen] at hcm; simp; omega) (fun i h => ?_) (fun i h => ?_)⟩
    ·have hi : i < len := by simpa using h
     refine ⟨a.add (i * 6), ⟨by omega, by simpa using hi, a, rfl, by simp⟩, trivial, ?_⟩
     simpa using (hq i hi).1
    ·have hi : i < len := by simpa using h
     simpa using (hq i hi).2
  ·rw [DataW.trod_step] at h
   unfold DataW.trodStep at h
   rw [hT] at h
   simp only at h
   split at h
   ·rename_i hl
    rw [hc6] at hl
    match cs, hl with
    | [c0, c1, c2, c3, c4, c5], _ =>
     cases hm : ([f0, f1, f2, f3, f4, f5] : List Field).mapM (fun f => DataW.trod enc P W base sp held n f.type ((([c0, c1, c2, c3, c4, c5] : List Value).drop f.offset).take (P.cellsOf f.type))) with
     | none => rw [hm] at h; cases h
     | some r =>
      have hf := (mapM_facts hm).2
      obtain ⟨_, h0, _⟩ := hf 0 f0 rfl
      obtain ⟨_, h1, _⟩ := hf 1 f1 rfl
      obtain ⟨_, h2, _⟩ := hf 2 f2 rfl
      obtain ⟨_, h3, _⟩ := hf 3 f3 rfl
      obtain ⟨_, h4, _⟩ := hf 4 f4 rfl
      obtain ⟨_, h5, _⟩ := hf 5 f5 rfl
      rw [e0, o0, ci] at h0; rw [e1, o1, ci] at h1; rw [e2, o2, ci] at h2; rw [e3, o3, cu] at h3; rw [e4, o4, cs1] at h4; rw [e5, o5, cS] at h5
      obtain ⟨m0, rfl⟩ := trod_int1 ui h0
      obtain ⟨m1, rfl⟩ := trod_int1 ui h1
      obtain ⟨m2, rfl⟩ := trod_int1 ui h2
      obtain ⟨m3, rfl⟩ := trod_int1 uu h3
      obtain ⟨m4, rfl⟩ := trod_str1 us h4
      obtain ⟨s, ts, rfl, hTr⟩ := ih.1 c5 _ h5
      exact ⟨.mk m0 m1 m2 m3 m4 ts, s, rfl, hTr m0 m1 m2 m3 m4⟩
   ·cases h
theorem trees_of_trod {tS tT : TypeId} (hTT : TreeTypes P tS tT) {v : Value} {d : DataW H} {ps : List MemPlace} (h : DataW.Trod enc P W base sp held tS v d ps) (hv : ∃ a n c, v = .slice a n c) :
  ∃ s : Sl, ∃ ts : List Sp.Tree, v = s.v ∧ TreeAt (fun b => b < W.heap.size) W s (.mk 0 0 0 0 ⟨#[]⟩ ts) := by
 obtain ⟨n, h⟩ := h
 obtain ⟨a, m, c, rfl⟩ := hv
 obtain ⟨s, ts, e, hT⟩ := (trod_tree hTT n).1 _ _ h
 exact ⟨s, ts, e, (hT 0 0 0 0 ⟨#[]⟩).lt.mono (fun b hb => hb.2)⟩
end
theorem treeTypes : TreeTypes Try.prog 22 116 :=
 ⟨3, 38, 9, _, _, _, _, _, _, Try.underlying22, Try.underlying116, by kernel_rfl, ⟨rfl, rfl, rfl, rfl, rfl, rfl⟩, ⟨rfl, rfl, rfl, rfl, rfl, rfl⟩, Try.underlying3, Try.underlying38, Try.underlying9, by kernel_rfl, by kernel_rfl, by kernel_rfl, by kernel_rfl⟩
end Go.Proofs
end
section
open Go Go.SE
namespace Go.Proofs
section
variable {H : Type} {enc : TypeId × Value → H} {P : Program} {W : World} {base : Nat} {sp : Nat → Bool} {held : Bool}
theorem row_lt {a : Addr} {v : Value} {vs : List Value} (h : Row W a (v :: vs)) : a.block < W.heap.size := by
 have := h 0 (by simp)
 have := World.block_lt_of_cell? W (a.add 0) this
 rwa [add_block] at this
theorem list_of_trod {α : Type} {tS e : TypeId} {sz : Nat} {f : α → List Value} (hS : P.underlying tS = some (.slice e)) (hc : P.cellsOf e = sz) (hf : ∀ a, ∃ v vs, f a = v :: vs) (x0 : α)
  (hel : ∀ (n : Nat) (cs : List Value) (x : DataW H × List MemPlace), DataW.trod enc P W base sp held n e cs = some x → ∃ a, cs = f a) {n : Nat} {c : Value} {x : DataW H × List MemPlace} (h : DataW.trod enc P W base sp held n tS [c] = some x) :
  ∃ s : Sl, ∃ xs : List α, c = s.v ∧ Lst (fun b => b < W.heap.size) W sz s (xs.map f) := by
 cases n with
 | zero => cases h
 | succ n =>
  rcases trod_slice1 hS h with rfl | ⟨a, len, cap, rfl, hle, hcm, hall⟩
  ·exact ⟨Sl.nil, [], rfl, ⟨rfl, fun i hi => by simp at hi⟩⟩
  ·rw [hc] at hall
   have hex : ∀ i, ∃ q : α, i < len → Row W (a.add (i * sz)) (f q) := by
    intro i
    by_cases hi : i < len
    ·obtain ⟨cs, y, h1, h2⟩ := hall i hi
     obtain ⟨q, rfl⟩ := hel n cs y h2
     exact ⟨q, fun _ => (cells_row h1).2⟩
    ·exact ⟨x0, fun h => absurd h hi⟩
   obtain ⟨q, hq⟩ := Classical.axiomOfChoice hex
   refine ⟨⟨some a, len, cap⟩, (List.range len).map q, rfl, ⟨by simp, fun i hi => ?_⟩⟩
   have hi : i < len := by simpa using hi
   have hr := hq i hi
   obtain ⟨v, vs, e⟩ := hf (q i)
   refine ⟨a.add (i * sz), ⟨by omega, by simpa using hi, a, rfl, by simp⟩, ?_, by simpa using hr⟩
   rw [e] at hr; exact row_lt hr
theorem terms_of_trod {tS e : TypeId} (hS : P.underlying tS = some (.slice e)) (he : P.underlying e = some (.int .i64)) (hc : P.cellsOf e = 1) {n : Nat} {c : Value} {x : DataW H × List MemPlace} (h : DataW.trod enc P W base sp held n tS [c] = some x) :
  ∃ s : Sl, ∃ ts : List Int, c = s.v ∧ Lst (fun b => b < W.heap.size) W 1 s (tmr ts) := by
 have := list_of_trod (f := fun t : Int => [Value.int .i64 t]) hS hc (fun a => ⟨_, _, rfl⟩) 0 (fun n cs x h => ?_) h
 ·exact this
 ·cases n with
  | zero => cases h
  | succ n =>
   rw [DataW.trod_step] at h
   unfold DataW.trodStep at h
   rw [he] at h
   cases cs with
   | nil => simp at h
   | cons c l =>
    cases l with
    | cons c2 l2 => cases c <;> simp at h
    | nil =>
     cases c <;> simp at h
     obtain ⟨⟨rfl, _⟩, _⟩ := h
     exact ⟨_, rfl⟩
end
section
variable {H : Type} {enc : TypeId × Value → H} {W : World} {base : Nat} {sp : Nat → Bool} {held : Bool}
theorem terms_in {n : Nat} {c : Value} {x : DataW H × List MemPlace} (h : DataW.trod enc Try.prog W base sp held n 26 [c] = some x) : ∃ s : Sl, ∃ ts : List Int, c = s.v ∧ Lst (fun b => b < W.heap.size) W 1 s (tmr ts) :=
 terms_of_trod Try.underlying26 Try.underlying41 (by kernel_rfl) h
end
end Go.Proofs
end
