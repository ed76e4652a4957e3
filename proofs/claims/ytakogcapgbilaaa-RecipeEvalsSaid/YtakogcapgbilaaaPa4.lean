import Derived.Test.YtakogcapgbilaaaPa3
import Derived.Test.YtakogcapgbilaaaPa2
import Derived.Test.YtakogcapgbilaaaProg
import Derived.KernelRfl
import Derived.Test.YtakogcapgbilaaaPa0
import Derived.Test.YtakogcapgbilaaaPa1
section
open Go Go.SE
namespace Go.Proofs
attribute [local irreducible] Calls
theorem c_ref05_cut (p : Addr) (n : Nat) (w0 : World) {L : Sp.Pool} {F : Nat → Prop} (hP : PoolR w0 p L F) (hn : n ≤ L.length) :
  Calls Try.prog 127 #[.pointer (some p), .int .i64 n] w0 (fun e w' => e = .returned (.tuple #[]) ∧ PoolR w' p (L.take n) F ∧ Ext F w0 w') := by
 suffices key : ∀ K : World → Prop, (∀ w', PoolR w' p (L.take n) F ∧ Ext F w0 w' → K w') → m_ref05_Pool_cut (some p) n w0 K from
  w_ref05_Pool_cut _ _ w0 _ (key _ (fun _ h => h))
 intro K hK
 unfold m_ref05_Pool_cut
 obtain ⟨s1, s2, s3, hS, hF⟩ := hP
 obtain ⟨t1, hr1, R1, hb1⟩ := Rws.hi (P := Try.prog) slT_node hS.r1 (k := .i64) (n := n) (by omega) (by simpa using hn)
 refine ⟨p, rfl, s1, hS.box.cell0, t1, hr1, p, rfl, hS.box.canW0 (by simp), ?_⟩
 rintro w1 hw1
 have B1 : Box w1 p [t1.v, s2.v, s3.v] 75 := by rw [hw1]; exact hS.box.set0
 have X1 : Ext (· = p.block) w0 w1 := by rw [hw1]; exact Ext.setCell p _
 clear hw1
 obtain ⟨t2, hr2, R2, hb2⟩ := Rws.hi (P := Try.prog) slT_int (hS.r2.ext X1 (fun b hb e => hS.n2 (e ▸ hb))) (k := .i64) (n := n) (by omega) (by simpa using hn)
 refine ⟨p, rfl, s2, B1.cell rfl, t2, hr2, p, rfl, B1.canW (by simp), ?_⟩
 rintro w2 hw2
 have B2 : Box w2 p [t1.v, t2.v, s3.v] 75 := by rw [hw2]; exact B1.set 1 _
 have X2 : Ext (· = p.block) w1 w2 := by rw [hw2]; have := Ext.setCell (w := w1) (p.add 1) t2.v; rw [add_block] at this; exact this
 clear hw2
 obtain ⟨t3, hr3, R3, hb3⟩ := Rws.hi (P := Try.prog) slT_int (hS.r3.ext (X1.trans X2) (fun b hb e => hS.n3 (e ▸ hb))) (k := .i64) (n := n) (by omega) (by simpa using hn)
 refine ⟨p, rfl, s3, B2.cell rfl, t3, hr3, p, rfl, B2.canW (by simp), ?_⟩
 rintro w3 hw3
 have B3 : Box w3 p [t1.v, t2.v, t3.v] 75 := by rw [hw3]; exact B2.set 2 _
 have X3 : Ext (· = p.block) w2 w3 := by rw [hw3]; have := Ext.setCell (w := w2) (p.add 2) t3.v; rw [add_block] at this; exact this
 clear hw3
 have E := (X1.trans X2).trans X3
 refine hK _ ⟨⟨t1, t2, t3, ⟨B3, ?_, ?_, ?_, fun h => hS.n1 ((hb1 _).1 h), fun h => hS.n2 ((hb2 _).1 h), fun h => hS.n3 ((hb3 _).1 h), fun b h1 h2 => hS.d12 b ((hb1 b).1 h1) ((hb2 b).1 h2), fun b h1 h2 => hS.d13 b ((hb1 b).1 h1) ((hb3 b).1 h2), fun b h1 h2 => hS.d23 b ((hb2 b).1 h1) ((hb3 b).1 h2)⟩, fun b => by rw [hF b, hb1 b, hb2 b, hb3 b]⟩, E.mono (fun i _ h => (hF i).2 (.inl h))⟩
 ·have := R1.ext E (fun b hb e => hS.n1 ((hb1 _).1 (e ▸ hb)))
  rw [List.map_take]; simpa using this
 ·have := R2.ext (X2.trans X3) (fun b hb e => hS.n2 ((hb2 _).1 (e ▸ hb)))
  rw [List.map_take]; simpa using this
 ·have := R3.ext X3 (fun b hb e => hS.n3 ((hb3 _).1 (e ▸ hb)))
  rw [List.map_take]; simpa using this
theorem c_ref05_made {S : Nat → Prop} (p : Addr) (t : Sp.Tree) : ∀ (s : Sl) (w0 : World) (L : Sp.Pool) (F : Nat → Prop), Sp.Tree.two t → TreeAt S w0 s t → PoolR w0 p L F → Sp.Ok L → (∀ b, F b → ¬ S b) → (∀ b, S b → b < w0.heap.size) →
  Calls Try.prog 126 #[.pointer (some p), .agg (trow t s).toArray] w0
   (fun e w' => ∃ r1 : Int, ∃ r2 : Int, e = .returned (.tuple #[.int .i64 r1, .int .i64 r2]) ∧ ((r1, r2) = ((Sp.grow L t).1, (Sp.grow L t).2.1) ∧ ∃ F', PoolR w' p (Sp.grow L t).2.2 F' ∧ Ext F w0 w' ∧ ∀ b, F' b → F b ∨ w0.heap.size ≤ b)) := by
 induction t using Sp.Tree.ind with
 | h k f t u x ks ih =>
 intro s w0 L F h2 hT hP hok hFS hSw
 suffices key : ∀ K : Int → Int → World → Prop, (∀ r1 r2 w', ((r1, r2) = ((Sp.grow L (.mk k f t u x ks)).1, (Sp.grow L (.mk k f t u x ks)).2.1) ∧ ∃ F', PoolR w' p (Sp.grow L (.mk k f t u x ks)).2.2 F' ∧ Ext F w0 w' ∧ ∀ b, F' b → F b ∨ w0.heap.size ≤ b) → K r1 r2 w') → m_ref05_Pool_made (some p) k f t u x s w0 K from
  w_ref05_Pool_made _ _ _ _ _ _ _ w0 _ (key _ (fun _ _ _ h => h))
 intro K hK
 obtain ⟨hk2, hall⟩ := two_mk.1 h2
 have hsp : Sp.grow L (.mk k f t u x ks) = Sp.growAll ⟨k, f, t, u, x, 0, 0⟩ 0 L ks := by rw [Sp.grow]
 rw [hsp] at hK
 have hlen : s.len = ks.length := by cases hT; assumption
 unfold m_ref05_Pool_made
 intro H2 w4 hs4
 refine ⟨fun i a1 a2 a3 a4 a5 a6 a7 H w' => ∃ j : Nat, i = j ∧ j ≤ ks.length ∧ ∃ (L' : Sp.Pool) (F' : Nat → Prop), Sp.growAll ⟨k, f, t, u, x, 0, 0⟩ 0 L ks = Sp.growAll ⟨a1, a2, a3, a4, a5, a6, a7⟩ j L' (ks.drop j) ∧ Sp.Ok L' ∧ PoolR w' p L' F' ∧ (∀ b, F' b → F b ∨ w0.heap.size ≤ b) ∧ (∀ b, F' b → ¬ H b) ∧ Ext F w0 w', fun i _ _ _ _ _ _ _ _ => ((ks.length : Int) - i).toNat,
  ⟨0, rfl, Nat.zero_le _, L, F, by simp, hok, hP.pure hs4.first, fun b h => .inl h, hs4.disj0 (fun b hb => hP.lt hb), hs4.first.pure⟩, ?_⟩
 rintro _ a1 a2 a3 a4 a5 a6 a7 Hl wl hl ⟨j, rfl, hj, L', F', heq, hok', hPl, hF', hv, El⟩
 unfold m_ref05_Pool_made_l1
 refine ⟨fun h => ?_, fun h => ?_⟩
 ·have hlt := lt_of_dec hlen h
  have hTl : TreeAt S wl s (.mk k f t u x ks) := hT.ext El (fun b hs hf => hFS b hf hs)
  have hkid : ∃ a r, At s j 6 a ∧ Row wl a (trow ks[j] r) ∧ TreeAt S wl r ks[j] := by
   cases hTl with
   | mk _ _ _ _ _ _ _ rs len fit row kid => exact let ⟨a, h1, _, h3⟩ := row j hlt; ⟨a, rs j, h1, h3, kid j hlt⟩
  obtain ⟨a, r, hat, hrow, hTk⟩ := hkid
  refine ⟨a, hat, _, _, _, _, _, r, hrow, ?_⟩
  have hsz : w0.heap.size ≤ wl.heap.size := El.size
  refine (ih j hlt r wl L' F' (twoAll_get hall hlt) hTk hPl hok' (fun b hb hs => (hF' b hb).elim (fun h => hFS b h hs) (fun h => by have := hSw b hs; omega)) (fun b hs => by have := hSw b hs; omega)).mono ?_
  rintro _ w8 ⟨r1, r2, rfl, hr, F8, hP8, E8, hF8⟩
  have e1 : r1 = (Sp.grow L' ks[j]).1 := congrArg Prod.fst hr
  have e2 : r2 = (Sp.grow L' ks[j]).2.1 := congrArg Prod.snd hr
  rw [List.drop_eq_getElem_cons hlt] at heq
  have hF8' : ∀ b, F8 b → F b ∨ w0.heap.size ≤ b := fun b hb => (hF8 b hb).elim (hF' b) (fun h => by right; omega)
  have Ew8 : Ext F w0 w8 := El.trans' E8 (fun i hi h => (hF' i h).elim id (fun h => by omega))
  refine ⟨_, _, rfl, E8.kept (fun b hH hF => hv b hF hH), fun h => ?_, fun h => ?_⟩
  ·have h : (Sp.grow L' ks[j]).2.1 ≠ 0 := by rw [← e2]; simpa using h
   rw [growAll_bad h] at heq
   refine hK _ _ _ ?_
   rw [heq]; exact ⟨by rw [e2], F8, hP8, Ew8, hF8'⟩
  ·have h : (Sp.grow L' ks[j]).2.1 = 0 := by rw [← e2]; simpa using h
   rw [growAll_good h] at heq
   intro H3 w9 hs9
   have hv8 : ∀ b, F8 b → ¬ Hl b := fun b hb hH => (hF8 b hb).elim (fun h => hv b h hH) (fun h => by have := hl.lt b hH; omega)
   have hv9 : ∀ b, F8 b → ¬ H3 b := hs9.disj (fun b hb => ⟨hP8.lt hb, hv8 b hb⟩)
   rw [wrap_succ hlt (by omega)]
   refine ⟨⟨j + 1, rfl, hlt, _, F8, ?_, (Sp.grow_facts ks[j] L' hok').1, hP8.ext hs9.ext hv9, hF8', hv9, Ew8.hst hs9⟩, lt_dec hlt⟩
   rw [heq, e1]
   have hj0 : (((j : Int)) == 0) = decide (j = 0) := by rw [Bool.eq_iff_iff]; simp
   rw [hj0]
   by_cases hj0' : j = 0
   ·subst hj0'; rfl
   ·simp [hj0']
 ·have hge := eq_of_dec hlen hj h
  rw [hge, List.drop_length, Sp.growAll] at heq
  refine (c_ref05_Make p ⟨a1, a2, a3, a4, a5, a6, a7⟩ wl hPl hok').mono ?_
  rintro _ w9 ⟨r1, r2, rfl, hr, F9, hP9, E9, hF9⟩
  have hsz : w0.heap.size ≤ wl.heap.size := El.size
  refine ⟨_, _, rfl, E9.kept (fun b hH hF => hv b hF hH), hK _ _ _ ?_⟩
  rw [heq]
  exact ⟨hr, F9, hP9, El.trans' E9 (fun i hi h => (hF' i h).elim id (fun h => by omega)), fun b hb => (hF9 b hb).elim (hF' b) (fun h => by right; omega)⟩
theorem grow_bad_term (t : Sp.Tree) : ∀ L, (Sp.grow L t).2.1 ≠ 0 → (Sp.grow L t).1 = 0 := by
 induction t using Sp.Tree.ind with
 | h k f t u x ks ih =>
  have hmk : ∀ L n, (Sp.make L n).2.1 ≠ 0 → (Sp.make L n).1 = 0 := by
   intro L n h
   unfold Sp.make at h ⊢
   simp only at h ⊢
   split at h
   ·rename_i h1; rw [if_pos h1]
   ·rename_i h1
    rw [if_neg h1]
    split at h
    ·rename_i hf; exact absurd rfl h
    ·split at h
     ·rename_i h2; simp [h2]
     ·exact absurd rfl h
  have : ∀ (ks : List Sp.Tree), (∀ i (hi : i < ks.length), ∀ L, (Sp.grow L ks[i]).2.1 ≠ 0 → (Sp.grow L ks[i]).1 = 0) → ∀ n i L, (Sp.growAll n i L ks).2.1 ≠ 0 → (Sp.growAll n i L ks).1 = 0 := by
   intro ks
   induction ks with
   | nil => intro _ n i L h; unfold Sp.growAll at h ⊢; exact hmk L n h
   | cons t ts iht =>
    intro hh n i L h
    unfold Sp.growAll at h ⊢
    split at h
    ·rename_i h1; rw [if_pos h1]
    ·rename_i h1; rw [if_neg h1]; exact iht (fun i hi => hh (i + 1) (by simpa using hi)) _ _ _ h
  intro L h
  unfold Sp.grow at h ⊢
  exact this ks ih _ _ L h
theorem c_ref05_Of {S : Nat → Prop} (p : Addr) (t : Sp.Tree) (s : Sl) (w0 : World) {L : Sp.Pool} {F : Nat → Prop} (hT : TreeAt S w0 s t) (hP : PoolR w0 p L F) (hok : Sp.Ok L) (hFS : ∀ b, F b → ¬ S b) (hSw : ∀ b, S b → b < w0.heap.size) :
  Calls Try.prog 77 #[.pointer (some p), .agg (trow t s).toArray] w0
   (fun e w' => ∃ r1 : Int, ∃ r2 : Int, e = .returned (.tuple #[.int .i64 r1, .int .i64 r2]) ∧ ((r1, r2) = ((Sp.of L t).1, (Sp.of L t).2.1) ∧ ∃ F', PoolR w' p (Sp.of L t).2.2 F' ∧ Ext F w0 w' ∧ ∀ b, F' b → F b ∨ w0.heap.size ≤ b)) := by
 obtain ⟨k, f, to, u, x, ks⟩ := t
 suffices key : ∀ K : Int → Int → World → Prop, (∀ r1 r2 w', ((r1, r2) = ((Sp.of L (.mk k f to u x ks)).1, (Sp.of L (.mk k f to u x ks)).2.1) ∧ ∃ F', PoolR w' p (Sp.of L (.mk k f to u x ks)).2.2 F' ∧ Ext F w0 w' ∧ ∀ b, F' b → F b ∨ w0.heap.size ≤ b) → K r1 r2 w') → m_ref05_Pool_Of (some p) k f to u x s w0 K from
  w_ref05_Pool_Of _ _ _ _ _ _ _ w0 _ (key _ (fun _ _ _ h => h))
 intro K hK
 unfold m_ref05_Pool_Of
 intro H1 w1 hs1
 have E1 := hs1.first
 generalize ht : Sp.Tree.mk k f to u x ks = t at *
 have htr : (Value.agg #[.int .i64 k, .int .i64 f, .int .i64 to, .int .u64 u, .string x, s.v]) = .agg (trow t s).toArray := by rw [← ht]; rfl
 rw [htr]
 refine (c_ref05_Looks t s w1 (hT.pure E1) (fun b hb => by have := hSw b hb; have := E1.size; omega)).mono ?_
 rintro _ w2 ⟨r1, rfl, rfl, E2⟩
 have E12 := E1.trans E2
 refine ⟨_, rfl, E2.keptP, fun h => ?_, fun h => ?_⟩
 ·have h : (Sp.looks 0 0 t).1 ≠ 0 := by simpa using h
  have : Sp.of L t = (0, (Sp.looks 0 0 t).1, L) := by rw [Sp.of, if_pos h]
  refine hK _ _ _ ?_
  rw [this]; exact ⟨rfl, F, hP.pure E12, E12.pure, fun _ h => .inl h⟩
 ·have h : (Sp.looks 0 0 t).1 = 0 := by simpa using h
  have hP2 := hP.pure E12
  have hv : ∀ b, F b → ¬ H1 b := hs1.disj0 (fun b hb => hP.lt hb)
  obtain ⟨s1, s2, s3, hS, hF0⟩ := id hP2
  have hl0 : s1.len = L.length := by rw [hS.r1.len]; simp
  refine ⟨p, rfl, s1, hS.box.cell0, ?_⟩
  refine (c_ref05_made p t s w2 L F (looks_two t _ _ h) (hT.pure E12) hP2 hok hFS (fun b hb => by have := hSw b hb; have := E12.size; omega)).mono ?_
  rintro _ w5 ⟨r1, r2, rfl, hr, F5, hP5, E5, hF5⟩
  have e1 : r1 = (Sp.grow L t).1 := congrArg Prod.fst hr
  have e2 : r2 = (Sp.grow L t).2.1 := congrArg Prod.snd hr
  have hs4 : w0.heap.size ≤ w2.heap.size := E12.size
  have E05 : Ext F w0 w5 := E12.pure.trans E5
  have hF5' : ∀ b, F5 b → F b ∨ w0.heap.size ≤ b := fun b hb => (hF5 b hb).elim .inl (fun h => .inr (by omega))
  have hs2 := hs1.again E2.keptP
  have hv5 : ∀ b, F5 b → ¬ H1 b := fun b hb hH => (hF5 b hb).elim (fun h => hv b h hH) (fun h => by have := hs2.lt b hH; omega)
  refine ⟨_, _, rfl, E5.kept (fun b hH hF => hv b hF hH), fun h' => ?_, fun h' => ?_⟩
  ·have h' : (Sp.grow L t).2.1 ≠ 0 := by rw [← e2]; simpa using h'
   obtain ⟨hok5, M, hM⟩ := Sp.grow_facts t L hok
   rw [hl0]
   refine (c_ref05_cut p L.length w5 hP5 (by rw [hM]; simp)).mono ?_
   rintro _ w6 ⟨rfl, hP6, E6⟩
   have : Sp.of L t = (0, (Sp.grow L t).2.1, L) := by rw [Sp.of, if_neg (by simp [h]), if_pos h']
   refine ⟨rfl, E6.kept (fun b hH hF => hv5 b hF hH), hK _ _ _ ?_⟩
   rw [this]
   rw [hM, List.take_left] at hP6
   exact ⟨by rw [e1, e2, grow_bad_term t L h'], F5, hP6, E05.trans' E6 (fun i hi h => (hF5' i h).elim id (fun h => by omega)), hF5'⟩
  ·have h' : (Sp.grow L t).2.1 = 0 := by rw [← e2]; simpa using h'
   have : Sp.of L t = ((Sp.grow L t).1, 0, (Sp.grow L t).2.2) := by rw [Sp.of, if_neg (by simp [h]), if_neg (by simp [h'])]
   refine hK _ _ _ ?_
   rw [this]
   exact ⟨by rw [e1, e2, h'], F5, hP5, E05, hF5'⟩
end Go.Proofs
end
section
namespace Go.Sp
mutual
def cnt : Tree → Nat
 | .mk _ _ _ _ _ ks => 1 + cntAll ks
def cntAll : List Tree → Nat
 | [] => 0
 | t :: ts => cnt t + cntAll ts
end
theorem cnt_pos (t : Tree) : 1 ≤ cnt t := by cases t; simp [cnt]
theorem cntAll_len : ∀ ks : List Tree, ks.length ≤ cntAll ks
 | [] => by simp
 | t :: ts => by have := cnt_pos t; have := cntAll_len ts; simp only [cntAll, List.length_cons]; omega
theorem cntAll_get : ∀ {ks : List Tree} {i : Nat} (hi : i < ks.length), cnt ks[i] ≤ cntAll ks
 | t :: ts, 0, _ => by simp [cntAll]
 | t :: ts, i + 1, hi => by
  have := cntAll_get (ks := ts) (i := i) (by simpa using hi)
  simp only [cntAll, List.getElem_cons_succ]; omega
mutual
def parts (most : Int) : Tree → Int
 | .mk _ _ _ _ _ ks => partsAll most 1 ks
def partsAll (most n : Int) : List Tree → Int
 | [] => n
 | t :: ts => if n ≤ most then partsAll most (n + parts (most - n) t) ts else n
end
theorem parts_facts (t : Tree) : ∀ most : Int, 0 ≤ most → 1 ≤ parts most t ∧ parts most t ≤ most + 1 ∧ (parts most t ≤ most → (cnt t : Int) = parts most t) := by
 induction t using Tree.ind with
 | h k f tt u x ks ih =>
  have hA : ∀ (ks : List Tree), (∀ i (hi : i < ks.length), ∀ most : Int, 0 ≤ most → 1 ≤ parts most ks[i] ∧ parts most ks[i] ≤ most + 1 ∧ (parts most ks[i] ≤ most → (cnt ks[i] : Int) = parts most ks[i])) →
    ∀ most n : Int, 1 ≤ n → n ≤ most + 1 → n ≤ partsAll most n ks ∧ partsAll most n ks ≤ most + 1 ∧ (partsAll most n ks ≤ most → n + (cntAll ks : Int) = partsAll most n ks) := by
   intro ks
   induction ks with
   | nil => intro _ most n h1 h2; simp [partsAll, cntAll, h2]
   | cons t ts iht =>
    intro hh most n h1 h2
    unfold partsAll
    by_cases hn : n ≤ most
    ·rw [if_pos hn]
     have h0 := hh 0 (by simp) (most - n) (by omega)
     simp only [List.getElem_cons_zero] at h0
     have h3 := iht (fun i hi => hh (i + 1) (by simpa using hi)) most (n + parts (most - n) t) (by omega) (by omega)
     refine ⟨by omega, h3.2.1, fun h => ?_⟩
     have h4 := h3.2.2 h
     have h5 := h0.2.2 (by omega)
     simp only [cntAll]; omega
    ·rw [if_neg hn]; exact ⟨Int.le_refl _, h2, fun h => absurd h hn⟩
  intro most hm
  have := hA ks ih most 1 (by omega) (by omega)
  simp only [parts, cnt]
  refine ⟨this.1, this.2.1, fun h => ?_⟩
  have := this.2.2 h
  omega
mutual
def same : Tree → Tree → Bool
 | .mk k f t u x ks, .mk k' f' t' u' x' ks' => decide (k = k') && decide (f = f') && decide (t = t') && decide (u = u') && decide (x = x') && sameAll ks ks'
def sameAll : List Tree → List Tree → Bool
 | [], [] => true
 | t :: ts, t' :: ts' => same t t' && sameAll ts ts'
 | _, _ => false
end
theorem same_iff (a : Tree) : ∀ b, same a b = true ↔ a = b := by
 induction a using Tree.ind with
 | h k f t u x ks ih =>
  have hA : ∀ (ks : List Tree), (∀ i (hi : i < ks.length), ∀ b, same ks[i] b = true ↔ ks[i] = b) → ∀ ks', sameAll ks ks' = true ↔ ks = ks' := by
   intro ks
   induction ks with
   | nil => intro _ ks'; cases ks' <;> simp [sameAll]
   | cons t ts iht =>
    intro hh ks'
    cases ks' with
    | nil => simp [sameAll]
    | cons t' ts' =>
     have h0 := hh 0 (by simp) t'
     simp only [List.getElem_cons_zero] at h0
     simp only [sameAll, Bool.and_eq_true, h0, iht (fun i hi => hh (i + 1) (by simpa using hi)) ts', List.cons.injEq]
  intro b
  obtain ⟨k', f', t', u', x', ks'⟩ := b
  simp only [same, Bool.and_eq_true, decide_eq_true_eq, hA ks ih ks', Tree.mk.injEq]
  constructor
  ·rintro ⟨⟨⟨⟨⟨h1, h2⟩, h3⟩, h4⟩, h5⟩, h6⟩; exact ⟨h1, h2, h3, h4, h5, h6⟩
  ·rintro ⟨h1, h2, h3, h4, h5, h6⟩; exact ⟨⟨⟨⟨⟨h1, h2⟩, h3⟩, h4⟩, h5⟩, h6⟩
end Go.Sp
end
section
open Go Go.SE
namespace Go.Proofs
attribute [local irreducible] Calls
theorem TreeAt.hst {S : Nat → Prop} {w0 w w' : World} {H H' : Nat → Prop} {s : Sl} {t : Sp.Tree} (h : TreeAt S w s t) (hs : Hst w0 H w H' w') (hd : ∀ b, S b → b < w.heap.size ∧ ¬ H b) : TreeAt S w' s t :=
 h.ext hs.ext (fun b hb hh => hs.disj (G := S) hd b hb hh)
theorem c_ref05_Parts {S : Nat → Prop} (t : Sp.Tree) : ∀ (s : Sl) (most : Int) (w0 : World), 0 ≤ most → most ≤ 1000000000 → TreeAt S w0 s t → (∀ b, S b → b < w0.heap.size) →
  Calls Try.prog 71 #[.agg (trow t s).toArray, .int .i64 most] w0 (fun e w' => ∃ r : Int, e = .returned (.int .i64 r) ∧ (r = Sp.parts most t ∧ Pure w0 w')) := by
 induction t using Sp.Tree.ind with
 | h k f t u x ks ih =>
 intro s most w0 hm0 hm hT hSw
 suffices key : ∀ K : Int → World → Prop, (∀ r w', (r = Sp.parts most (.mk k f t u x ks) ∧ Pure w0 w') → K r w') → m_ref05_Parts k f t u x s most w0 K from
  w_ref05_Parts _ _ _ _ _ _ _ w0 _ (key _ (fun _ _ h => h))
 intro K hK
 have hlen : s.len = ks.length := by cases hT; assumption
 have hfit : ks.length ≤ 9223372036854775807 := by cases hT; assumption
 unfold m_ref05_Parts
 intro H1 w1 hs1
 refine ⟨fun n i H w' => ∃ j : Nat, i = j ∧ j ≤ ks.length ∧ 1 ≤ n ∧ n ≤ most + 1 ∧ Pure w0 w' ∧ Sp.partsAll most 1 ks = Sp.partsAll most n (ks.drop j), fun _ i _ => ((ks.length : Int) - i).toNat, ⟨0, rfl, Nat.zero_le _, Int.le_refl _, by omega, hs1.first, rfl⟩, ?_⟩
 rintro n _ Hl wl hl ⟨j, rfl, hj, hn1, hn2, El, heq⟩
 unfold m_ref05_Parts_l1
 refine ⟨fun hc => ?_, fun hc => ?_⟩
 ·simp only [Bool.and_eq_true, decide_eq_true_eq] at hc
  have hlt : j < ks.length := by omega
  rw [List.drop_eq_getElem_cons hlt, Sp.partsAll, if_pos hc.2] at heq
  have hT1 := hT.pure El
  cases hT1 with
  | mk _ _ _ _ _ _ _ rs len fit row kid =>
  obtain ⟨a, hat, ha, hr⟩ := row j hlt
  refine ⟨a, hat, ?_⟩
  intro H2 w2 hs2
  have hd : ∀ b, S b → ¬ H2 b := fun b hb hh => by have := hs2.old _ hh; have := hSw b hb; omega
  refine ⟨_, _, _, _, _, rs j, hs2.ext.row hr (hd _ ha), ?_⟩
  rw [i64 (n := most - n) (by omega) (by omega)]
  refine (ih j hlt (rs j) (most - n) w2 (by omega) (by omega) ((kid j hlt).ext hs2.ext hd) (fun b hb => by have := hSw b hb; have := (El.hst hs2).size; omega)).mono ?_
  rintro _ w3 ⟨r, rfl, rfl, E3⟩
  have hpf := Sp.parts_facts ks[j] (most - n) (by omega)
  refine ⟨_, rfl, E3.keptP, ?_⟩
  rw [wrap_succ hlt (by omega), i64 (n := n + Sp.parts (most - n) ks[j]) (by omega) (by omega)]
  exact ⟨⟨j + 1, rfl, hlt, by omega, by omega, (El.hst hs2).trans E3, heq⟩, lt_dec hlt⟩
 ·intro H2 w2 hs2
  refine hK _ _ ⟨?_, El.hst hs2⟩
  rw [Sp.parts, heq]
  by_cases hj2 : j = ks.length
  ·rw [hj2, List.drop_length]; rfl
  ·have hlt : j < ks.length := by omega
   rw [List.drop_eq_getElem_cons hlt, Sp.partsAll, if_neg]
   intro h
   have : decide (n ≤ most) = true := decide_eq_true h
   have h2 : decide ((j : Int) < (s.len : Int)) = true := decide_eq_true (by omega)
   rw [this, h2] at hc; cases hc
theorem sameAll_drop {xs ys : List Sp.Tree} {j : Nat} (hl : xs.length = ys.length) (hj : j < xs.length) : Sp.sameAll (xs.drop j) (ys.drop j) = (Sp.same xs[j] (ys[j]'(by omega)) && Sp.sameAll (xs.drop (j + 1)) (ys.drop (j + 1))) := by
 rw [List.drop_eq_getElem_cons hj, List.drop_eq_getElem_cons (show j < ys.length by omega), Sp.sameAll]
theorem sameAll_len : ∀ {xs ys : List Sp.Tree}, Sp.sameAll xs ys = true → xs.length = ys.length
 | [], [], _ => rfl
 | a :: xs, b :: ys, h => by simp only [Sp.sameAll, Bool.and_eq_true] at h; simp [sameAll_len h.2]
 | [], b :: ys, h => by simp [Sp.sameAll] at h
 | a :: xs, [], h => by simp [Sp.sameAll] at h
theorem c_ref05_Same {S : Nat → Prop} (t : Sp.Tree) : ∀ (t' : Sp.Tree) (s s' : Sl) (w0 : World), TreeAt S w0 s t → TreeAt S w0 s' t' → (∀ b, S b → b < w0.heap.size) →
  Calls Try.prog 61 #[.agg (trow t s).toArray, .agg (trow t' s').toArray] w0 (fun e w' => ∃ r : Bool, e = .returned (.bool r) ∧ (r = Sp.same t t' ∧ Pure w0 w')) := by
 induction t using Sp.Tree.ind with
 | h k f t u x ks ih =>
 intro t' s s' w0 hT hT' hSw
 obtain ⟨k', f', tt', u', x', ks'⟩ := t'
 suffices key : ∀ K : Bool → World → Prop, (∀ r w', (r = Sp.same (.mk k f t u x ks) (.mk k' f' tt' u' x' ks') ∧ Pure w0 w') → K r w') → m_ref05_Same k f t u x s k' f' tt' u' x' s' w0 K from
  w_ref05_Same _ _ _ _ _ _ _ _ _ _ _ _ w0 _ (key _ (fun _ _ h => h))
 intro K hK
 have hlen : s.len = ks.length := by cases hT; assumption
 have hlen' : s'.len = ks'.length := by cases hT'; assumption
 have hfit : ks.length ≤ 9223372036854775807 := by cases hT; assumption
 unfold m_ref05_Same
 rintro y1 rfl
 refine ⟨fun h => ?_, fun h => ?_⟩
 ·intro H7 w7 hs7
  refine hK _ _ ⟨?_, hs7.first⟩
  symm
  apply Bool.eq_false_iff.2
  intro hs
  simp only [Sp.same, Bool.and_eq_true, decide_eq_true_eq] at hs
  obtain ⟨⟨⟨⟨⟨rfl, rfl⟩, rfl⟩, rfl⟩, rfl⟩, h6⟩ := hs
  have := sameAll_len h6
  simp [hlen, hlen', this] at h
 ·have hne : k = k' ∧ f = f' ∧ t = tt' ∧ u = u' ∧ x = x' ∧ ks.length = ks'.length := by
   simp only [Bool.or_eq_false_iff, bne_eq_false_iff_eq, Bool.not_eq_false', decide_eq_true_eq] at h
   obtain ⟨⟨⟨⟨⟨h1, h2⟩, h3⟩, h4⟩, h5⟩, h6⟩ := h
   exact ⟨h1, h2, h3, h4, h5, by omega⟩
  obtain ⟨rfl, rfl, rfl, rfl, rfl, hll⟩ := hne
  have hsp : Sp.same (.mk k f t u x ks) (.mk k f t u x ks') = Sp.sameAll ks ks' := by simp [Sp.same]
  rw [hsp] at hK
  intro H7 w7 hs7
  refine ⟨fun i H w' => ∃ j : Nat, i = j ∧ j ≤ ks.length ∧ Pure w0 w' ∧ Sp.sameAll ks ks' = Sp.sameAll (ks.drop j) (ks'.drop j), fun i _ => ((ks.length : Int) - i).toNat, ⟨0, rfl, Nat.zero_le _, hs7.first, rfl⟩, ?_⟩
  rintro _ Hl wl hl ⟨j, rfl, hj, El, heq⟩
  unfold m_ref05_Same_l1
  refine ⟨fun hc => ?_, fun hc => ?_⟩
  ·have hlt := lt_of_dec hlen hc
   have hlt' : j < ks'.length := by omega
   rw [sameAll_drop hll hlt] at heq
   have g1 : ∃ a r, At s j 6 a ∧ S a.block ∧ (∀ w', Pure w0 w' → Row w' a (trow ks[j] r)) ∧ TreeAt S w0 r ks[j] := by
    cases hT with
    | mk _ _ _ _ _ _ _ rs len fit row kid => obtain ⟨a, h1, h2, h3⟩ := row j hlt; exact ⟨a, rs j, h1, h2, fun w' E => E.row h3 id, kid j hlt⟩
   have g2 : ∃ a r, At s' j 6 a ∧ S a.block ∧ (∀ w', Pure w0 w' → Row w' a (trow ks'[j] r)) ∧ TreeAt S w0 r ks'[j] := by
    cases hT' with
    | mk _ _ _ _ _ _ _ rs len fit row kid => obtain ⟨a, h1, h2, h3⟩ := row j hlt'; exact ⟨a, rs j, h1, h2, fun w' E => E.row h3 id, kid j hlt'⟩
   obtain ⟨a, r, hat, _, hr, hk⟩ := g1
   obtain ⟨a', r', hat', _, hr', hk'⟩ := g2
   refine ⟨fun w' => Pure w0 w', El.trans (Ext.drew wl), ?_⟩
   rintro _ rfl
   have Ed := El.trans (Ext.drew wl)
   refine ⟨a, hat, _, _, _, _, _, r, fun w' h => hr w' h, a', hat', _, _, _, _, _, r', fun w' h => hr' w' h, ?_⟩
   refine (ih j hlt ks'[j] r r' wl.drew (hk.pure Ed) (hk'.pure Ed) (fun b hb => by have := hSw b hb; have := Ed.size; omega)).mono ?_
   rintro _ w13 ⟨q, rfl, rfl, E13⟩
   refine ⟨_, rfl, Ed.trans E13, E13.keptP, fun h => ?_, fun h => ?_⟩
   ·have h : Sp.same ks[j] ks'[j] = false := by simpa using h
    exact hK _ _ ⟨by rw [heq, h]; rfl, Ed.trans E13⟩
   ·have h : Sp.same ks[j] ks'[j] = true := by simpa using h
    rw [h, Bool.true_and] at heq
    rw [wrap_succ hlt (by omega)]
    exact ⟨⟨j + 1, rfl, hlt, Ed.trans E13, heq⟩, lt_dec hlt⟩
  ·have hge := eq_of_dec hlen hj hc
   subst hge
   rw [List.drop_length, hll, List.drop_length] at heq
   exact hK _ _ ⟨heq.symm, El⟩
end Go.Proofs
end
section
open Go Go.SE
namespace Go.Proofs
set_option maxRecDepth 100000
set_option maxHeartbeats 4000000
attribute [local irreducible] wpL wpX opE wpE Calls
end Go.Proofs
end
section
open Go Go.SE
namespace Go.Sp
end Go.Sp
namespace Go.Proofs
attribute [local irreducible] Calls
theorem TreeAt.leaf {S : Nat → Prop} {w : World} {k f t u : Int} {x : ByteArray} : TreeAt S w Sl.nil (.mk k f t u x []) :=
 .mk k f t u x [] Sl.nil (fun _ => Sl.nil) rfl (by simp) (fun i h => by simp at h) (fun i h => by simp at h)
theorem TreeAt.one {S : Nat → Prop} {w : World} {k f t u : Int} {x : ByteArray} {p : Addr} {A : Sp.Tree} {sa : Sl} {T : TypeId} (hB : Box w p (trow A sa) T) (hS : S p.block) (hA : TreeAt S w sa A) : TreeAt S w ⟨some p, 1, 1⟩ (.mk k f t u x [A]) := by
 refine .mk k f t u x [A] _ (fun _ => sa) rfl (by simp) (fun i h => ?_) (fun i h => ?_)
 ·have : i = 0 := by simpa using h
  subst this
  exact ⟨p, ⟨by omega, by simp, p, rfl, rfl⟩, hS, hB.row⟩
 ·have : i = 0 := by simpa using h
  subst this
  exact hA
theorem TreeAt.pair {S : Nat → Prop} {w : World} {k f t u : Int} {x : ByteArray} {p : Addr} {A B : Sp.Tree} {sa sb : Sl} {T : TypeId} (hB : Box w p (trow A sa ++ trow B sb) T) (hS : S p.block) (hA : TreeAt S w sa A) (hB2 : TreeAt S w sb B) : TreeAt S w ⟨some p, 2, 2⟩ (.mk k f t u x [A, B]) := by
 refine .mk k f t u x [A, B] _ (fun i => if i = 0 then sa else sb) rfl (by simp) (fun i h => ?_) (fun i h => ?_)
 ·have : i = 0 ∨ i = 1 := by simp at h; omega
  rcases this with rfl | rfl
  ·refine ⟨p, ⟨by omega, by simp, p, rfl, rfl⟩, hS, fun i hi => ?_⟩
   have := hB.row i (by simp [trow] at hi ⊢; omega)
   have hi' : i < 6 := by simpa [trow] using hi
   rw [this]; exact List.getElem?_append_left (by simp [trow]; omega)
  ·refine ⟨p.add (1 * 6), ⟨by omega, by simp, p, rfl, rfl⟩, by rw [add_block]; exact hS, fun i hi => ?_⟩
   have hi' : i < 6 := by simpa [trow] using hi
   have := hB.row (6 + i) (by simp [trow]; omega)
   rw [add_add, this, List.getElem?_append_right (by simp [trow])]
   simp [trow]
 ·have : i = 0 ∨ i = 1 := by simp at h; omega
  rcases this with rfl | rfl
  ·exact hA
  ·exact hB2
abbrev RetT (n0 : Nat) (w : World) (T : Sp.Tree) (e : Ending) (w' : World) : Prop := ∃ s, e = .returned (.agg (trow T s).toArray) ∧ TreeAt (n0 ≤ ·) w' s T ∧ Pure w w'
end Go.Proofs
end
section
open Go Go.SE
namespace Go.Proofs
attribute [local irreducible] Calls
theorem slT_tree : SlType Try.prog 22 116 6 72 := by
 refine ⟨Try.underlying22, ⟨Try.t116, _, by kernel_rfl, (by kernel_rfl : Try.t116.zero = some (.agg #[.int .i64 0, .int .i64 0, .int .i64 0, .int .u64 0, .string ⟨#[]⟩, .slice none 0 0])), by kernel_rfl, by kernel_rfl, rfl⟩, by omega⟩
def prow (p : Sp.Tree × Sl) : List Value := trow p.1 p.2
theorem TreeAt.of_pairs {S : Nat → Prop} {w : World} {s : Sl} {e : TypeId} {ps : List (Sp.Tree × Sl)} {k f t u : Int} {x : ByteArray} (hR : Rws w e 6 s (ps.map prow)) (hS : ∀ b, s.blk b → S b) (hk : ∀ p ∈ ps, TreeAt S w p.2 p.1) (fit : ps.length ≤ 9223372036854775807) : TreeAt S w s (.mk k f t u x (ps.map Prod.fst)) := by
 refine .mk k f t u x _ s (fun i => (ps.getD i (Sp.noTree, Sl.nil)).2) (by rw [hR.len]; simp) (by simpa using fit) (fun i h => ?_) (fun i h => ?_)
 ·have h' : i < ps.length := by simpa using h
  obtain ⟨a, h1, h2, h3⟩ := hR.at (i := i) (by omega) (by simpa using h')
  refine ⟨a, h1, hS _ h3, ?_⟩
  have e1 : (ps.map Prod.fst)[i] = ps[i].1 := by simp
  have e2 : (ps.getD i (Sp.noTree, Sl.nil)).2 = ps[i].2 := by simp [List.getD_eq_getElem?_getD, h']
  rw [e1, e2]; simpa [prow] using h2
 ·have h' : i < ps.length := by simpa using h
  have e1 : (ps.map Prod.fst)[i] = ps[i].1 := by simp
  have e2 : (ps.getD i (Sp.noTree, Sl.nil)).2 = ps[i].2 := by simp [List.getD_eq_getElem?_getD, h']
  rw [e1, e2]; exact hk _ (List.getElem_mem h')
theorem trow_one (t : Sp.Tree) (s : Sl) : (trow t s).all oneCell = true := by simp [trow, oneCell, Sl.v]
theorem c_ref05_Lent {S : Nat → Prop} (t : Sp.Tree) : ∀ (s : Sl) (w0 : World), Sp.cnt t ≤ 1000000 → TreeAt S w0 s t → (∀ b, S b → b < w0.heap.size) →
  Calls Try.prog 76 #[.agg (trow t s).toArray] w0 (RetT w0.heap.size w0 t) := by
 induction t using Sp.Tree.ind with
 | h k f t u x ks ih =>
 intro s w0 hcnt hT hSw
 suffices key : ∀ K : Int → Int → Int → Int → ByteArray → Sl → World → Prop, (∀ s' w', TreeAt (w0.heap.size ≤ ·) w' s' (.mk k f t u x ks) → Pure w0 w' → K k f t u x s' w') → m_ref05_Lent k f t u x s w0 K by
  refine (w_ref05_Lent _ _ _ _ _ _ w0 (fun k' f' t' u' x' s' w' => (k' = k ∧ f' = f ∧ t' = t ∧ u' = u ∧ x' = x) ∧ TreeAt (w0.heap.size ≤ ·) w' s' (.mk k f t u x ks) ∧ Pure w0 w') (key _ (fun s' w' h1 h2 => ⟨⟨rfl, rfl, rfl, rfl, rfl⟩, h1, h2⟩))).mono ?_
  rintro _ w' ⟨_, _, _, _, _, s', rfl, ⟨rfl, rfl, rfl, rfl, rfl⟩, h1, h2⟩
  exact ⟨s', rfl, h1, h2⟩
 intro K hK
 have hlen : s.len = ks.length := by cases hT; assumption
 have hca : 1 + Sp.cntAll ks ≤ 1000000 := by simpa [Sp.cnt] using hcnt
 have hkl := Sp.cntAll_len ks
 have hnil : ∀ b, ¬ Sl.nil.blk b := fun b hb => by obtain ⟨a, h, _⟩ := hb; cases h
 unfold m_ref05_Lent
 intro H3 w5 hs5
 refine ⟨fun i _ _ _ _ _ yk H w' => ∃ j : Nat, i = j ∧ j ≤ ks.length ∧ Pure w0 w' ∧ ∃ (ps : List (Sp.Tree × Sl)) (S' : Nat → Prop), ps.map Prod.fst = ks.take j ∧ Own H w' 116 6 yk (ps.map prow) ∧ (∀ p ∈ ps, TreeAt S' w' p.2 p.1) ∧ (∀ b, S' b → w0.heap.size ≤ b ∧ b < w'.heap.size ∧ ¬ H b ∧ ¬ yk.blk b) ∧ (∀ b, yk.blk b → w0.heap.size ≤ b),
  fun i _ _ _ _ _ _ _ => ((ks.length : Int) - i).toNat, ⟨0, rfl, Nat.zero_le _, hs5.first, [], fun _ => False, by simp, Own.nil _ _, by simp, fun b h => h.elim, fun b h => (hnil b h).elim⟩, ?_⟩
 rintro _ y1 y2 y3 y4 y5 yk Hl wl hl ⟨j, rfl, hj, El, ps, S', hps, Oy, hkids, hS', hyk⟩
 have hpl : ps.length = j := by have := congrArg List.length hps; simpa [Nat.min_eq_left hj] using this
 unfold m_ref05_Lent_l1
 refine ⟨fun hc => ?_, fun hc => ?_⟩
 ·have hlt := lt_of_dec hlen hc
  have g1 : ∃ a r, At s j 6 a ∧ S a.block ∧ (∀ w', Pure w0 w' → Row w' a (trow ks[j] r)) ∧ TreeAt S w0 r ks[j] := by
   cases hT with
   | mk _ _ _ _ _ _ _ rs len fit row kid => obtain ⟨a, h1, h2, h3⟩ := row j hlt; exact ⟨a, rs j, h1, h2, fun w' E => E.row h3 id, kid j hlt⟩
  obtain ⟨a, r, hat, _, hr, hk⟩ := g1
  have E6 : Pure wl wl.drew := Ext.drew wl
  have Ed := El.trans E6
  refine ⟨fun w' => Pure w0 w', Ed, ?_⟩
  rintro _ rfl
  refine ⟨a, hat, _, _, _, _, _, r, fun w' h => hr w' h, ?_⟩
  have hcj := Sp.cntAll_get (ks := ks) hlt
  refine (ih j hlt r wl.drew (by omega) (hk.pure Ed) (fun b hb => by have := hSw b hb; have := Ed.size; omega)).mono ?_
  rintro _ w7 ⟨s', rfl, hTk, E7⟩
  have E07 := Ed.trans E7
  refine ⟨_, _, _, _, _, s', rfl, E07, E7.keptP, ?_⟩
  intro p4 w8 h8
  have E8 : Pure w7 w8 := Ext.new h8
  refine ⟨E07.trans E8, ?_⟩
  have hs8 : Hst w0 Hl w8 Hl w8 := (hl.again E6.keptP).again (E7.trans E8).keptP
  have O8 := Oy.pure ((E6.trans E7).trans E8)
  obtain ⟨s1, w9, hr9, hO9, hE9, hk9, hb9⟩ := O8.append (P := Try.prog) (ty := 22) (c := 1) slT_tree hs8 (r := trow ks[j] s') (Box.of_new h8).row rfl (trow_one _ _) (by simp; omega) (by simp [maxLen]; omega)
  have E09 : Pure w0 w9 := (E07.trans E8).trans' hE9 (fun i hi hb => by have := hyk i hb; omega)
  refine ⟨s1, w9, hr9, E09, hk9, ?_⟩
  intro w10 hs10
  have hsd : wl.drew.heap.size = wl.heap.size := rfl
  have z7 := E7.size
  have z8 := E8.size
  have z9 := hE9.size
  have hSn : ∀ b, (S' b ∨ (wl.heap.size ≤ b ∧ b < w7.heap.size)) → w0.heap.size ≤ b ∧ b < w9.heap.size ∧ ¬ Hl b ∧ ¬ s1.blk b := by
   rintro b (hb | ⟨h1, h2⟩)
   ·obtain ⟨q1, q2, q3, q4⟩ := hS' b hb
    exact ⟨q1, by omega, q3, fun h => (hb9 b h).elim q4 (fun h => by omega)⟩
   ·refine ⟨by have := El.size; omega, by omega, fun h => by have := hl.lt b h; omega, fun h => (hb9 b h).elim (fun h => by have := Oy.rows.lt h; omega) (fun h => by omega)⟩
  rw [wrap_succ hlt (by omega)]
  refine ⟨⟨j + 1, rfl, hlt, E09.hst hs10, ps ++ [(ks[j], s')], fun b => S' b ∨ (wl.heap.size ≤ b ∧ b < w7.heap.size), ?_, ?_, ?_, ?_, ?_⟩, lt_dec hlt⟩
  ·rw [List.map_append, hps, List.take_succ_eq_append_getElem hlt]; rfl
  ·have : (ps ++ [(ks[j], s')]).map prow = ps.map prow ++ [trow ks[j] s'] := by simp [prow]
   rw [this]; exact hO9.hst hs10
  ·intro p hp
   have hnb : ∀ b, (S' b ∨ (wl.heap.size ≤ b ∧ b < w7.heap.size)) → b < w9.heap.size ∧ ¬ Hl b := fun b hb => ⟨(hSn b hb).2.1, (hSn b hb).2.2.1⟩
   rcases List.mem_append.1 hp with h | h
   ·have := (hkids p h).pure ((E6.trans E7).trans E8)
    have := this.ext hE9 (fun b hb hy => (hS' b hb).2.2.2 hy)
    exact (this.mono (fun b hb => .inl hb)).hst hs10 hnb
   ·simp only [List.mem_singleton] at h; subst h
    have := (hTk.lt.pure E8).ext hE9 (fun b hb hy => by have := Oy.rows.lt hy; have := hb.1; omega)
    exact (this.mono (S' := fun b => S' b ∨ (wl.heap.size ≤ b ∧ b < w7.heap.size)) (fun b hb => .inr ⟨by have := hb.1; omega, hb.2⟩)).hst hs10 hnb
  ·intro b hb
   obtain ⟨q1, q2, q3, q4⟩ := hSn b hb
   exact ⟨q1, Nat.lt_of_lt_of_le q2 hs10.ext.size, q3, q4⟩
  ·intro b hb
   exact (hb9 b hb).elim (hyk b) (fun h => by have := (E07.trans E8).size; omega)
 ·have hge := eq_of_dec hlen hj hc
  subst hge
  rw [List.take_length] at hps
  have E6 : Pure wl wl.drew := Ext.drew wl
  refine ⟨fun _ => True, trivial, ?_⟩
  rintro _ rfl
  intro p5 w12 h12
  have E12 : Pure wl w12 := E6.trans (Ext.new h12)
  refine ⟨trivial, ?_⟩
  have hs12 : Hst w0 Hl w12 Hl w12 := hl.again E12.keptP
  obtain ⟨s2, w13, hr13, hO13, hE13, hk13, hb13⟩ := (Oy.pure E12).append (P := Try.prog) (ty := 22) (c := 1) slT_tree hs12 (r := trow (.mk (-1) 0 0 0 ⟨#[]⟩ []) Sl.nil) (Box.of_new h12).row rfl (trow_one _ _) (by simp; omega) (by simp [maxLen]; omega)
  refine ⟨s2, w13, hr13, trivial, hk13, ?_⟩
  have hyl : yk.len = ks.length := by rw [Oy.len]; simp [hpl]
  obtain ⟨s3, hr3, hR3, hb3⟩ := Rws.hiA (P := Try.prog) slT_tree hO13.rows (k := .i64) (n := (ks.length : Int)) (by omega) (by simp [hpl]; omega)
  rw [hyl]
  refine ⟨s3, fun w' _ => hr3 w', ?_⟩
  intro w14 hs14
  have hR3' : Rws w13 116 6 s3 (ps.map prow) := by
   have e : ((ps.map prow) ++ [trow (.mk (-1) 0 0 0 ⟨#[]⟩ []) Sl.nil]).take (ks.length : Int).toNat = ps.map prow := by
    rw [Int.toNat_natCast]; exact List.take_left' (by simp [hpl])
   rw [e] at hR3; exact hR3
  have hv3 : ∀ b, s3.blk b → b < w13.heap.size ∧ ¬ Hl b := fun b hb => ⟨hR3'.lt hb, hO13.vis b ((hb3 b).1 hb)⟩
  have hR14 := hR3'.ext hs14.ext (hs14.disj (G := s3.blk) hv3)
  have z12 := E12.size
  have z13 := hE13.size
  have hs3 : ∀ b, s3.blk b → w0.heap.size ≤ b := fun b hb => (hb13 b ((hb3 b).1 hb)).elim (hyk b) (fun h => by have := El.size; omega)
  refine hK s3 w14 ?_ ?_
  ·have hT3 := TreeAt.of_pairs (S := fun b => w0.heap.size ≤ b) (k := k) (f := f) (t := t) (u := u) (x := x) hR14 hs3 (fun p hp => ?_) (by omega)
   ·rw [hps] at hT3; exact hT3
   ·have h1 := ((hkids p hp).pure E12).ext hE13 (fun b hb hy => (hS' b hb).2.2.2 hy)
    exact (h1.hst hs14 (fun b hb => ⟨by have := (hS' b hb).2.1; omega, (hS' b hb).2.2.1⟩)).mono (fun b hb => (hS' b hb).1)
  ·exact ((El.trans E12).trans' hE13 (fun i hi hb => by have := hyk i hb; omega)).hst hs14
end Go.Proofs
end
section
open Go Go.SE
namespace Go.Proofs
set_option maxRecDepth 100000
set_option maxHeartbeats 4000000
attribute [local irreducible] wpL wpX opE wpE Calls
def s_ref09_one (code1 : Int) : Bool :=
 ((decide (code1 ≥ 4)) && (decide (code1 ≤ 11)))
theorem pw_ref09_one (code1 : Int) (w0 : World) :
  Calls Try.prog 110 #[(vi code1)] w0 (fun e w' => (e = .returned (vb ((decide (code1 ≥ 4)) && (decide (code1 ≤ 11))))) ∧ Pure w0 w') := by
 refine calls_of_wpE (args := [(vi code1)]) Try.func110 rfl Try.ntmps110 (Nat.le_of_ble_eq_true rfl) (wpE_seq (rg (q0 (vb false) (wpL_nil (th_n (wpE_seq ?_))))))
 refine wpE_via (fun ρ wJ => w0 = wJ ∧ Has ρ [(2, (vb ((decide (code1 ≥ 4)) && (decide (code1 ≤ 11)))))]) ?_ ?_
 ·skip
  refine rg (q0 (vi code1) (q0 (vb (decide (code1 ≥ 4))) (q0 (vb (decide (code1 ≥ 4))) ?_)))
  refine wpL_join 3 (fun ρ wJ => ∃ b3'0 : Bool, ((decide (code1 ≥ 4)) = b3'0) ∧ w0 = wJ ∧ Has ρ [(8, (vb (b3'0 && (decide (code1 ≤ 11)))))]) ?_ ?_
  ·rintro ρ w3 ⟨b3'0, he0, hw, hH⟩
   subst he0
   subst hw
   refine wpL_has hH ?_
   clear hH
   refine q0 (vb ((decide (code1 ≥ 4)) && (decide (code1 ≤ 11)))) (wpL_nil (th_n ?_))
   exact ⟨rfl, Has.mk (by kernel_rfl)⟩
  ·skip
   rcases Bool.eq_false_or_eq_true (decide (code1 ≥ 4)) with hg4 | hg4
   ·skip
    refine q1 (vi code1) (want1 rfl (yD 5 hg4)) (q1 (vb (decide (code1 ≤ 11))) (want1 rfl (yD 5 hg4)) (q2 (vb (decide (code1 ≤ 11))) (xT hg4) (wpL_nil ?_)))
    exact ⟨true, hg4, rfl, Has.mk (by kernel_rfl)⟩
   ·skip
    refine sk (yD 5 hg4) (sk (yD 5 hg4) (q2 (vb false) (xF hg4) (wpL_nil ?_)))
    exact ⟨false, hg4, rfl, Has.mk (by kernel_rfl)⟩
 ·rintro ρ w2 ⟨hw, hH⟩
  subst hw
  refine norm_has hH ?_
  clear hH
  refine th_n (wpE_ret (res1 (.inl rfl) Try.results110 (v := (vb ((decide (code1 ≥ 4)) && (decide (code1 ≤ 11))))) (by kernel_rfl) ?_))
  exact ⟨by kernel_rfl, Ext.refl _⟩
theorem p_ref09_one (code1 : Int) (w0 : World) : Calls Try.prog 110 #[(.int .i64 code1)] w0 (fun e w' => e = .returned (.bool (s_ref09_one code1)) ∧ Pure w0 w') := pw_ref09_one code1 w0
def s_ref09_two (code1 : Int) : Bool :=
 ((code1 == 4) || ((decide (code1 ≥ 9)) && (decide (code1 ≤ 11))))
theorem pw_ref09_two (code1 : Int) (w0 : World) :
  Calls Try.prog 111 #[(vi code1)] w0 (fun e w' => (e = .returned (vb ((code1 == 4) || ((decide (code1 ≥ 9)) && (decide (code1 ≤ 11)))))) ∧ Pure w0 w') := by
 refine calls_of_wpE (args := [(vi code1)]) Try.func111 rfl Try.ntmps111 (Nat.le_of_ble_eq_true rfl) (wpE_seq (rg (q0 (vb false) (wpL_nil (th_n (wpE_seq ?_))))))
 refine wpE_via (fun ρ wJ => w0 = wJ ∧ Has ρ [(2, (vb ((code1 == 4) || ((decide (code1 ≥ 9)) && (decide (code1 ≤ 11))))))]) ?_ ?_
 ·skip
  refine rg (q0 (vi code1) (q0 (vb (code1 == 4)) (q0 (vb (code1 == 4)) ?_)))
  refine wpL_join 7 (fun ρ wJ => ∃ b6'0 : Bool, ((code1 == 4) = b6'0) ∧ w0 = wJ ∧ Has ρ [(12, (vb (b6'0 || ((decide (code1 ≥ 9)) && (decide (code1 ≤ 11))))))]) ?_ ?_
  ·rintro ρ w6 ⟨b6'0, he0, hw, hH⟩
   subst he0
   subst hw
   refine wpL_has hH ?_
   clear hH
   refine q0 (vb ((code1 == 4) || ((decide (code1 ≥ 9)) && (decide (code1 ≤ 11))))) (wpL_nil (th_n ?_))
   exact ⟨rfl, Has.mk (by kernel_rfl)⟩
  ·skip
   rcases Bool.eq_false_or_eq_true (code1 == 4) with hg10 | hg10
   ·skip
    refine sk (yD 5 hg10) (sk (yD 5 hg10) (sk (yD 5 hg10) (st_not (by kernel_rfl) (st_not (by kernel_rfl) (sk (yD 5 hg10) (q2 (vb true) (xT hg10) (wpL_nil ?_)))))))
    exact ⟨true, hg10, rfl, Has.mk (by kernel_rfl)⟩
   ·skip
    refine q1 (vi code1) (want1 rfl (yD 5 hg10)) (q1 (vb (decide (code1 ≥ 9))) (want1 rfl (yD 5 hg10)) (q1 (vb (decide (code1 ≥ 9))) (want1 rfl (yD 5 hg10)) ?_))
    refine wpL_join 3 (fun ρ wJ => ∃ b7'0 : Bool, ((decide (code1 ≥ 9)) = b7'0) ∧ w0 = wJ ∧ Has ρ [(5, (vb (code1 == 4))), (11, (vb (b7'0 && (decide (code1 ≤ 11)))))]) ?_ ?_
    ·rintro ρ w7 ⟨b7'0, he0, hw, hH⟩
     subst he0
     subst hw
     refine wpL_has hH ?_
     clear hH
     refine q2 (vb ((decide (code1 ≥ 9)) && (decide (code1 ≤ 11)))) (xF hg10) (wpL_nil ?_)
     exact ⟨false, hg10, rfl, Has.mk (by kernel_rfl)⟩
    ·skip
     rcases Bool.eq_false_or_eq_true (decide (code1 ≥ 9)) with hg12 | hg12
     ·skip
      refine q1 (vi code1) (want1 rfl (yD 8 hg12)) (q1 (vb (decide (code1 ≤ 11))) (want1 rfl (yD 8 hg12)) (stp (v := (vb (decide (code1 ≤ 11)))) (want1 rfl (yD 5 hg10)) (xT hg12) (wpL_nil ?_)))
      exact ⟨true, hg12, rfl, Has.mk (by kernel_rfl)⟩
     ·skip
      refine sk (yD 8 hg12) (sk (yD 8 hg12) (stp (v := (vb false)) (want1 rfl (yD 5 hg10)) (xF hg12) (wpL_nil ?_)))
      exact ⟨false, hg12, rfl, Has.mk (by kernel_rfl)⟩
 ·rintro ρ w4 ⟨hw, hH⟩
  subst hw
  refine norm_has hH ?_
  clear hH
  refine th_n (wpE_ret (res1 (.inl rfl) Try.results111 (v := (vb ((code1 == 4) || ((decide (code1 ≥ 9)) && (decide (code1 ≤ 11)))))) (by kernel_rfl) ?_))
  exact ⟨by kernel_rfl, Ext.refl _⟩
theorem p_ref09_two (code1 : Int) (w0 : World) : Calls Try.prog 111 #[(.int .i64 code1)] w0 (fun e w' => e = .returned (.bool (s_ref09_two code1)) ∧ Pure w0 w') := pw_ref09_two code1 w0
def s_ref09_who (n1 : Int) : Int :=
 (cond (decide (n1 > 2147483648)) (-1) (IntKind.i64.wrap n1))
theorem pw_ref09_who (n1 : Int) (w0 : World) :
  Calls Try.prog 147 #[(vu n1)] w0 (fun e w' => ∃ b'0 : Bool, ((decide (n1 > 2147483648)) = b'0) ∧ (e = .returned (vi (cond b'0 (-1) (IntKind.i64.wrap n1)))) ∧ Pure w0 w') := by
 refine calls_of_wpE (args := [(vu n1)]) Try.func147 rfl Try.ntmps147 (Nat.le_of_ble_eq_true rfl) (wpE_seq (rg (q0 (vi 0) (wpL_nil (th_n (wpE_seq (wpE_seq (rg (q0 (vu n1) (q0 (vb (decide (n1 > 2147483648))) (wpL_nil ?_)))))))))))
 refine th_n ?_
 refine wpE_cond (t := (decide (n1 > 2147483648))) (by kernel_rfl) (fun hc1 => ?_) (fun hc1 => ?_)
 ·skip
  refine wpE_seq (rg (q0 (vi (-1)) (wpL_nil (th_n (wpE_ret (th_r (res1 (.inl rfl) Try.results147 (v := (vi (-1))) (by kernel_rfl) ?_)))))))
  exact ⟨true, hc1, by kernel_rfl, Ext.refl _⟩
 ·skip
  refine wpE_skip (th_n (wpE_seq (rg (q0 (vu n1) (q0 (vi (IntKind.i64.wrap n1)) (q0 (vi (IntKind.i64.wrap n1)) (wpL_nil (th_n (wpE_ret (res1 (.inl rfl) Try.results147 (v := (vi (IntKind.i64.wrap n1))) (by kernel_rfl) ?_))))))))))
  exact ⟨false, hc1, by kernel_rfl, Ext.refl _⟩
theorem p_ref09_who (n1 : Int) (w0 : World) : Calls Try.prog 147 #[(.int .u64 n1)] w0 (fun e w' => e = .returned (.int .i64 (s_ref09_who n1)) ∧ Pure w0 w') := by
 refine (pw_ref09_who n1 w0).mono ?_
 rintro e w' ⟨b'0, e0, h, E⟩
 subst e0
 exact ⟨h, E⟩
def m_ref09_does_j2 (p1 : Option Addr) (given1 made1 : Sl) (aA aB : Int) (aC aE : Int) (aF : ByteArray) (a1 aD : Int) (aG aH : Int) (keyKind1 keyFrom1 : Int) (keyTo1 keyNum1 : Int) (keyText1 : ByteArray) (keyA1 keyB1 : Int) (w0 : World) (H : Nat → Prop) (w : World) (K : Int → Int → World → Prop) : Prop :=
 Br (aA == 0)
  (Br ((decide (aB < 0)) || (decide (aB ≥ (given1.len : Int))))
   (∀ (H27 : Nat → Prop) (w37 : World), Hst w0 H w H27 w37 →
   K 0 90 w37)
   (∃ a2 : Addr, At given1 aB 1 a2 ∧
   ∀ (H27 : Nat → Prop) (w37 : World), Hst w0 H w H27 w37 →
   ∃ v1 : Int, w37.cell? a2 = some (vi v1) ∧
   K v1 0 w37))
  (Br (aA == 1)
   (Calls Try.prog 146 #[(vp p1), (.agg #[(vi 1), (vi aB), (vi 0), (vu 0), (vs ⟨#[]⟩), (vi 0), (vi 0)])] w (fun e w38 => ∃ r2 r3 : Int, e = .returned (.tuple #[(vi r2), (vi r3)]) ∧ 
    Kept H w w38 ∧
    K r2 r3 w38))
   (Br (aA == 2)
    (Calls Try.prog 146 #[(vp p1), (.agg #[(vi 2), (vi 0), (vi 0), (vu aE), (vs ⟨#[]⟩), (vi 0), (vi 0)])] w (fun e w39 => ∃ r4 r5 : Int, e = .returned (.tuple #[(vi r4), (vi r5)]) ∧ 
     Kept H w w39 ∧
     K r4 r5 w39))
    (Br (aA == 3)
     (Calls Try.prog 146 #[(vp p1), (.agg #[(vi 3), (vi 0), (vi 0), (vu 0), (vs aF), (vi 0), (vi 0)])] w (fun e w40 => ∃ r6 r7 : Int, e = .returned (.tuple #[(vi r6), (vi r7)]) ∧ 
      Kept H w w40 ∧
      K r6 r7 w40))
     (Br (aA == 4)
      (∃ a3 : Addr, At made1 aC 1 a3 ∧
      ∃ v2 : Int, w.cell? a3 = some (vi v2) ∧
      Calls Try.prog 146 #[(vp p1), (.agg #[(vi 4), (vi 0), (vi 0), (vu 0), (vs ⟨#[]⟩), (vi a1), (vi v2)])] w (fun e w41 => ∃ r8 r9 : Int, e = .returned (.tuple #[(vi r8), (vi r9)]) ∧ 
       Kept H w w41 ∧
       K r8 r9 w41))
      (Br (aA == 5)
       (Calls Try.prog 146 #[(vp p1), (.agg #[(vi 5), (vi 0), (vi 0), (vu 0), (vs ⟨#[]⟩), (vi a1), (vi 0)])] w (fun e w42 => ∃ r10 r11 : Int, e = .returned (.tuple #[(vi r10), (vi r11)]) ∧ 
        Kept H w w42 ∧
        K r10 r11 w42))
       (Br (cond (aA == 6) (aA == 6) (aA == 7))
        (Br (aD != 4)
         (∀ (H28 : Nat → Prop) (w43 : World), Hst w0 H w H28 w43 →
         K 0 90 w43)
         (Br (aA == 6)
          (∀ (H28 : Nat → Prop) (w43 : World), Hst w0 H w H28 w43 →
          K aG 0 w43)
          (∀ (H28 : Nat → Prop) (w43 : World), Hst w0 H w H28 w43 →
          K aH 0 w43)))
        (Br (aA == 8)
         (Br (((aD != 7) && (aD != 8)) && (aD != 9))
          (∀ (H30 : Nat → Prop) (w45 : World), Hst w0 H w H30 w45 →
          K 0 90 w45)
          (∀ (H30 : Nat → Prop) (w45 : World), Hst w0 H w H30 w45 →
          K aG 0 w45))
         (Br (aA == 9)
          (∀ (H28 : Nat → Prop) (w43 : World), Hst w0 H w H28 w43 →
          Calls Try.prog 146 #[(vp p1), (.agg #[(vi 7), (vi keyFrom1), (vi 0), (vu 0), (vs ⟨#[]⟩), (vi a1), (vi 0)])] w43 (fun e w47 => ∃ r12 r13 : Int, e = .returned (.tuple #[(vi r12), (vi r13)]) ∧ 
           Kept H28 w43 w47 ∧
           K r12 r13 w47))
          (Br (aA == 10)
           (∀ (H28 : Nat → Prop) (w43 : World), Hst w0 H w H28 w43 →
           ∃ C1 : World → Prop, C1 w43.drew ∧ ∀ w48, w48 = w43.drew →
           Calls Try.prog 147 #[(vu aE)] w48 (fun e w49 => ∃ r14 : Int, e = .returned (vi r14) ∧ C1 w49 ∧ 
            Kept H28 w48 w49 ∧
            Calls Try.prog 146 #[(vp p1), (.agg #[(vi 8), (vi keyFrom1), (vi r14), (vu 0), (vs ⟨#[]⟩), (vi a1), (vi 0)])] w49 (fun e w50 => ∃ r15 r16 : Int, e = .returned (.tuple #[(vi r15), (vi r16)]) ∧ C1 w50 ∧ 
             Kept H28 w49 w50 ∧
             K r15 r16 w50)))
           (∀ (H28 : Nat → Prop) (w43 : World), Hst w0 H w H28 w43 →
           ∃ C2 : World → Prop, C2 w43.drew ∧ ∀ w51, w51 = w43.drew →
           Calls Try.prog 147 #[(vu aE)] w51 (fun e w52 => ∃ r17 : Int, e = .returned (vi r17) ∧ C2 w52 ∧ 
            Kept H28 w51 w52 ∧
            Calls Try.prog 146 #[(vp p1), (.agg #[(vi 9), (vi r17), (vi keyFrom1), (vu 0), (vs ⟨#[]⟩), (vi a1), (vi 0)])] w52 (fun e w53 => ∃ r18 r19 : Int, e = .returned (.tuple #[(vi r18), (vi r19)]) ∧ C2 w53 ∧ 
             Kept H28 w52 w53 ∧
             K r18 r19 w53))))))))))))
def m_ref09_does_j1 (p1 : Option Addr) (given1 made1 : Sl) (aA aB : Int) (aC aE : Int) (aF : ByteArray) (a1 : Int) (w0 : World) (H : Nat → Prop) (w : World) (K : Int → Int → World → Prop) : Prop :=
 Calls Try.prog 47 #[(vp p1), (vi a1)] w (fun e w32 => ∃ aD aI : Int, ∃ aJ aK : Int, ∃ aL : ByteArray, ∃ aG aH : Int, ∃ r1 : Bool, e = .returned (.tuple #[(.agg #[(vi aD), (vi aI), (vi aJ), (vu aK), (vs aL), (vi aG), (vi aH)]), (vb r1)]) ∧ 
  Kept H w w32 ∧
  Br (decide (aA ≥ 9))
   (∃ a4 : Addr, At made1 aC 1 a4 ∧
   ∀ (H26 : Nat → Prop) (w36 : World), Hst w0 H w32 H26 w36 →
   ∃ v3 : Int, w36.cell? a4 = some (vi v3) ∧
   Calls Try.prog 47 #[(vp p1), (vi v3)] w36 (fun e w54 => ∃ aR aS : Int, ∃ aT aU : Int, ∃ aV : ByteArray, ∃ aW aX : Int, ∃ r20 : Bool, e = .returned (.tuple #[(.agg #[(vi aR), (vi aS), (vi aT), (vu aU), (vs aV), (vi aW), (vi aX)]), (vb r20)]) ∧ 
    Kept H26 w36 w54 ∧
    Br (aR != 6)
     (∀ (w55 : World), Hst w0 H26 w54 H26 w55 →
     K 0 90 w55)
     (∀ (w55 : World), Hst w0 H26 w54 H26 w55 →
     m_ref09_does_j2 p1 given1 made1 aA aB aC aE aF a1 aD aG aH aR aS aT aU aV aW aX w0 H26 w55 K)))
   (∀ (H26 : Nat → Prop) (w36 : World), Hst w0 H w32 H26 w36 →
   m_ref09_does_j2 p1 given1 made1 aA aB aC aE aF a1 aD aG aH 0 0 0 0 ⟨#[]⟩ 0 0 w0 H26 w36 K))
def m_ref09_does (p1 : Option Addr) (given1 made1 : Sl) (aA aB : Int) (aC aE : Int) (aF : ByteArray) (w0 : World) (K : Int → Int → World → Prop) : Prop :=
 ∀ y1 : Bool, y1 = ((((decide (aA < 0)) || (decide (aA > 11))) || (((decide (aA ≥ 4)) && (decide (aA ≤ 11))) && ((decide (aB < 0)) || (decide (aB ≥ (made1.len : Int)))))) || ((s_ref09_two aA) && ((decide (aC < 0)) || (decide (aC ≥ (made1.len : Int)))))) →
 Br y1
  (∀ (H13 : Nat → Prop) (w16 : World), Hst w0 None w0 H13 w16 →
  K 0 90 w16)
  (Br ((decide (aA ≥ 4)) && (decide (aA ≤ 11)))
   (∃ a5 : Addr, At made1 aB 1 a5 ∧
   ∀ (H13 : Nat → Prop) (w31 : World), Hst w0 None w0 H13 w31 →
   ∃ v4 : Int, w31.cell? a5 = some (vi v4) ∧
   m_ref09_does_j1 p1 given1 made1 aA aB aC aE aF v4 w0 H13 w31 K)
   (∀ (H13 : Nat → Prop) (w31 : World), Hst w0 None w0 H13 w31 →
   m_ref09_does_j1 p1 given1 made1 aA aB aC aE aF 0 w0 H13 w31 K))
theorem w_ref09_does (p1 : Option Addr) (given1 made1 : Sl) (aA aB : Int) (aC aE : Int) (aF : ByteArray) (w0 : World) (K : Int → Int → World → Prop) (h : m_ref09_does p1 given1 made1 aA aB aC aE aF w0 K) :
  Calls Try.prog 105 #[(vp p1), given1.v, made1.v, (.agg #[(vi aA), (vi aB), (vi aC), (vu aE), (vs aF)])] w0 (fun e w' => ∃ r21 r22 : Int, e = .returned (.tuple #[(vi r21), (vi r22)]) ∧ K r21 r22 w') := by
 unfold m_ref09_does at h
 refine calls_of_wpE (args := [(vp p1), given1.v, made1.v, (.agg #[(vi aA), (vi aB), (vi aC), (vu aE), (vs aF)])]) Try.func105 rfl Try.ntmps105 (Nat.le_of_ble_eq_true rfl) ?_
 have hs := Hst.start w0
 have hb := HB.nil None w0
 refine wpE_seq (rg (sn (O := (.cells #[(vi aA), (vi aB), (vi aC), (vu aE), (vs aF)] 175)) xb ?_))
 intro p2 w1 hn1
 obtain ⟨H1, hs, hb⟩ := hs.alloc hb hn1
 refine q0 (vi 0) (q0 (vi 0) (wpL_nil (th_n (wpE_seq (wpE_seq ?_)))))
 refine wpE_via (fun ρ wJ => ∃ b12'0 y1 : Bool, ∃ HJ : Nat → Prop, ((((decide (aA < 0)) || (decide (aA > 11))) || (((decide (aA ≥ 4)) && (decide (aA ≤ 11))) && ((decide (aB < 0)) || (decide (aB ≥ (made1.len : Int)))))) = b12'0) ∧ (y1 = (b12'0 || ((s_ref09_two aA) && ((decide (aC < 0)) || (decide (aC ≥ (made1.len : Int))))))) ∧ Hst w0 None w0 HJ wJ ∧ HB HJ wJ [(p2, [(vi aA), (vi aB), (vi aC), (vu aE), (vs aF)], 175)] ∧ Has ρ [(0, (vp p1)), (1, given1.v), (2, made1.v), (7, (vp (some p2))), (55, (vb y1))]) ?_ ?_
 ·skip
  refine rg (q0 (vp (some p2)) (q2 (vi aA) (xl (Try.isAgg3 _) (hb.c0 0 gZ)) (q0 (vb (decide (aA < 0))) (q0 (vb (decide (aA < 0))) ?_))))
  refine wpL_join 4 (fun ρ wJ => ∃ b13'0 : Bool, ∃ HJ : Nat → Prop, ((decide (aA < 0)) = b13'0) ∧ Hst w0 None w0 HJ wJ ∧ HB HJ wJ [(p2, [(vi aA), (vi aB), (vi aC), (vu aE), (vs aF)], 175)] ∧ Has ρ [(0, (vp p1)), (1, given1.v), (2, made1.v), (7, (vp (some p2))), (21, (vb (b13'0 || (decide (aA > 11)))))]) ?_ ?_
  ·clear hs hb
   rintro ρ w17 ⟨b13'0, H14, he0, hs, hb, hH⟩
   subst he0
   refine wpL_has hH ?_
   clear hH
   refine q0 (vb ((decide (aA < 0)) || (decide (aA > 11)))) ?_
   refine wpL_join 16 (fun ρ wJ => ∃ b17'0 : Bool, ∃ HJ : Nat → Prop, (((decide (aA < 0)) || (decide (aA > 11))) = b17'0) ∧ Hst w0 None w0 HJ wJ ∧ HB HJ wJ [(p2, [(vi aA), (vi aB), (vi aC), (vu aE), (vs aF)], 175)] ∧ Has ρ [(0, (vp p1)), (1, given1.v), (2, made1.v), (7, (vp (some p2))), (38, (vb (b17'0 || (((decide (aA ≥ 4)) && (decide (aA ≤ 11))) && ((decide (aB < 0)) || (decide (aB ≥ (made1.len : Int))))))))]) ?_ ?_
   ·clear hs hb
    rintro ρ w22 ⟨b17'0, H18, he0, hs, hb, hH⟩
    subst he0
    refine wpL_has hH ?_
    clear hH
    refine q0 (vb (((decide (aA < 0)) || (decide (aA > 11))) || (((decide (aA ≥ 4)) && (decide (aA ≤ 11))) && ((decide (aB < 0)) || (decide (aB ≥ (made1.len : Int))))))) ?_
    rcases Bool.eq_false_or_eq_true (((decide (aA < 0)) || (decide (aA > 11))) || (((decide (aA ≥ 4)) && (decide (aA ≤ 11))) && ((decide (aB < 0)) || (decide (aB ≥ (made1.len : Int)))))) with hg40 | hg40
    ·skip
     refine sk (yD 39 hg40) (sk (yD 39 hg40) (sk (yD 39 hg40) (sk (yD 39 hg40) (st_not (by kernel_rfl) (st_not (by kernel_rfl) (st_not (by kernel_rfl) (st_not (by kernel_rfl) (st_not (by kernel_rfl) (st_not (by kernel_rfl) (st_not (by kernel_rfl) (st_not (by kernel_rfl) ?_)))))))))))
     refine st_not (by kernel_rfl) (st_not (by kernel_rfl) (sk (yD 39 hg40) (q2 (vb true) (xT hg40) (wpL_nil (th_n ?_)))))
     exact ⟨true, _, _, hg40, rfl, hs, hb, Has.mk (by kernel_rfl)⟩
    ·skip
     refine q1 (vp (some p2)) (want1 rfl (yD 39 hg40)) (stp (v := (vi aA)) (want1 rfl (yD 39 hg40)) (xl (Try.isAgg3 _) (hb.c0 0 gZ)) ?_)
     refine st_call (want1 rfl (yD 39 hg40)) (xc Try.call111) ((p_ref09_two aA w22).mono ?_)
     rintro e w27 ⟨he, hE⟩
     refine ⟨(vb (s_ref09_two aA)), he.trans (by kernel_rfl), ?_⟩
     replace hs := hs.pure hE
     replace hb := hb.pure hE
     clear hE he
     refine q1 (vb (s_ref09_two aA)) (want1 rfl (yD 39 hg40)) ?_
     refine wpL_join 11 (fun ρ wJ => ∃ b22'0 : Bool, ∃ HJ : Nat → Prop, ((s_ref09_two aA) = b22'0) ∧ Hst w0 None w0 HJ wJ ∧ HB HJ wJ [(p2, [(vi aA), (vi aB), (vi aC), (vu aE), (vs aF)], 175)] ∧ Has ρ [(0, (vp p1)), (1, given1.v), (2, made1.v), (7, (vp (some p2))), (39, (vb (((decide (aA < 0)) || (decide (aA > 11))) || (((decide (aA ≥ 4)) && (decide (aA ≤ 11))) && ((decide (aB < 0)) || (decide (aB ≥ (made1.len : Int)))))))), (54, (vb (b22'0 && ((decide (aC < 0)) || (decide (aC ≥ (made1.len : Int)))))))]) ?_ ?_
     ·clear hs hb
      rintro ρ w29 ⟨b22'0, H23, he0, hs, hb, hH⟩
      subst he0
      refine wpL_has hH ?_
      clear hH
      refine q2 (vb ((s_ref09_two aA) && ((decide (aC < 0)) || (decide (aC ≥ (made1.len : Int)))))) (xF hg40) (wpL_nil (th_n ?_))
      exact ⟨false, _, _, hg40, rfl, hs, hb, Has.mk (by kernel_rfl)⟩
     ·skip
      rcases Bool.eq_false_or_eq_true (s_ref09_two aA) with hg44 | hg44
      ·skip
       refine q1 (vp (some (p2.add 2))) (want1 rfl (yD 43 hg44)) (stp (v := (vi aC)) (want1 rfl (yD 43 hg44)) (xl (Try.isAgg3 _) (hb.c 0 2 gZ)) (q1 (vb (decide (aC < 0))) (want1 rfl (yD 43 hg44)) (q1 (vb (decide (aC < 0))) (want1 rfl (yD 43 hg44)) ?_)))
       refine wpL_join 6 (fun ρ wJ => ∃ b23'0 : Bool, ∃ HJ : Nat → Prop, ((decide (aC < 0)) = b23'0) ∧ Hst w0 None w0 HJ wJ ∧ HB HJ wJ [(p2, [(vi aA), (vi aB), (vi aC), (vu aE), (vs aF)], 175)] ∧ Has ρ [(0, (vp p1)), (1, given1.v), (2, made1.v), (7, (vp (some p2))), (39, (vb (((decide (aA < 0)) || (decide (aA > 11))) || (((decide (aA ≥ 4)) && (decide (aA ≤ 11))) && ((decide (aB < 0)) || (decide (aB ≥ (made1.len : Int)))))))), (43, (vb (s_ref09_two aA))), (53, (vb (b23'0 || (decide (aC ≥ (made1.len : Int))))))]) ?_ ?_
       ·clear hs hb
        rintro ρ w30 ⟨b23'0, H24, he0, hs, hb, hH⟩
        subst he0
        refine wpL_has hH ?_
        clear hH
        refine stp (v := (vb ((decide (aC < 0)) || (decide (aC ≥ (made1.len : Int)))))) (want1 rfl (yD 39 hg40)) (xT hg44) (wpL_nil ?_)
        exact ⟨true, _, hg44, hs, hb, Has.mk (by kernel_rfl)⟩
       ·skip
        rcases Bool.eq_false_or_eq_true (decide (aC < 0)) with hg46 | hg46
        ·skip
         refine sk (yD 47 hg46) (sk (yD 47 hg46) (sk (yD 47 hg46) (sk (yD 47 hg46) (sk (yD 47 hg46) (stp (v := (vb true)) (want1 rfl (yD 43 hg44)) (xT hg46) (wpL_nil ?_))))))
         exact ⟨true, _, hg46, hs, hb, Has.mk (by kernel_rfl)⟩
        ·skip
         refine q1 (vp (some (p2.add 2))) (want1 rfl (yD 47 hg46)) (stp (v := (vi aC)) (want1 rfl (yD 47 hg46)) (xl (Try.isAgg3 _) (hb.c 0 2 gZ)) (q1 made1.v (want1 rfl (yD 47 hg46)) (q1 (vi (made1.len : Int)) (want1 rfl (yD 47 hg46)) (q1 (vb (decide (aC ≥ (made1.len : Int)))) (want1 rfl (yD 47 hg46)) (stp (v := (vb (decide (aC ≥ (made1.len : Int))))) (want1 rfl (yD 43 hg44)) (xF hg46) (wpL_nil ?_))))))
         exact ⟨false, _, hg46, hs, hb, Has.mk (by kernel_rfl)⟩
      ·skip
       refine sk (yD 43 hg44) (sk (yD 43 hg44) (sk (yD 43 hg44) (sk (yD 43 hg44) (st_not (by kernel_rfl) (st_not (by kernel_rfl) (st_not (by kernel_rfl) (st_not (by kernel_rfl) (st_not (by kernel_rfl) (sk (yD 43 hg44) (stp (v := (vb false)) (want1 rfl (yD 39 hg40)) (xF hg44) (wpL_nil ?_)))))))))))
       exact ⟨false, _, hg44, hs, hb, Has.mk (by kernel_rfl)⟩
   ·skip
    rcases Bool.eq_false_or_eq_true ((decide (aA < 0)) || (decide (aA > 11))) with hg33 | hg33
    ·skip
     refine sk (yD 22 hg33) (sk (yD 22 hg33) (sk (yD 22 hg33) (sk (yD 22 hg33) (st_not (by kernel_rfl) (st_not (by kernel_rfl) (st_not (by kernel_rfl) (st_not (by kernel_rfl) (st_not (by kernel_rfl) (st_not (by kernel_rfl) (st_not (by kernel_rfl) (st_not (by kernel_rfl) ?_)))))))))))
     refine st_not (by kernel_rfl) (st_not (by kernel_rfl) (sk (yD 22 hg33) (q2 (vb true) (xT hg33) (wpL_nil ?_))))
     exact ⟨true, _, hg33, hs, hb, Has.mk (by kernel_rfl)⟩
    ·skip
     refine q1 (vp (some p2)) (want1 rfl (yD 22 hg33)) (stp (v := (vi aA)) (want1 rfl (yD 22 hg33)) (xl (Try.isAgg3 _) (hb.c0 0 gZ)) ?_)
     refine st_call (want1 rfl (yD 22 hg33)) (xc Try.call110) ((p_ref09_one aA w17).mono ?_)
     rintro e w23 ⟨he, hE⟩
     refine ⟨(vb ((decide (aA ≥ 4)) && (decide (aA ≤ 11)))), he.trans (by kernel_rfl), ?_⟩
     replace hs := hs.pure hE
     replace hb := hb.pure hE
     clear hE he
     refine q1 (vb ((decide (aA ≥ 4)) && (decide (aA ≤ 11)))) (want1 rfl (yD 22 hg33)) ?_
     refine wpL_join 11 (fun ρ wJ => ∃ b19'0 : Bool, ∃ HJ : Nat → Prop, (((decide (aA ≥ 4)) && (decide (aA ≤ 11))) = b19'0) ∧ Hst w0 None w0 HJ wJ ∧ HB HJ wJ [(p2, [(vi aA), (vi aB), (vi aC), (vu aE), (vs aF)], 175)] ∧ Has ρ [(0, (vp p1)), (1, given1.v), (2, made1.v), (7, (vp (some p2))), (22, (vb ((decide (aA < 0)) || (decide (aA > 11))))), (37, (vb (b19'0 && ((decide (aB < 0)) || (decide (aB ≥ (made1.len : Int)))))))]) ?_ ?_
     ·clear hs hb
      rintro ρ w25 ⟨b19'0, H20, he0, hs, hb, hH⟩
      subst he0
      refine wpL_has hH ?_
      clear hH
      refine q2 (vb (((decide (aA ≥ 4)) && (decide (aA ≤ 11))) && ((decide (aB < 0)) || (decide (aB ≥ (made1.len : Int)))))) (xF hg33) (wpL_nil ?_)
      exact ⟨false, _, hg33, hs, hb, Has.mk (by kernel_rfl)⟩
     ·skip
      rcases Bool.eq_false_or_eq_true ((decide (aA ≥ 4)) && (decide (aA ≤ 11))) with hg37 | hg37
      ·skip
       refine q1 (vp (some (p2.add 1))) (want1 rfl (yD 26 hg37)) (stp (v := (vi aB)) (want1 rfl (yD 26 hg37)) (xl (Try.isAgg3 _) (hb.c 0 1 gZ)) (q1 (vb (decide (aB < 0))) (want1 rfl (yD 26 hg37)) (q1 (vb (decide (aB < 0))) (want1 rfl (yD 26 hg37)) ?_)))
       refine wpL_join 6 (fun ρ wJ => ∃ b20'0 : Bool, ∃ HJ : Nat → Prop, ((decide (aB < 0)) = b20'0) ∧ Hst w0 None w0 HJ wJ ∧ HB HJ wJ [(p2, [(vi aA), (vi aB), (vi aC), (vu aE), (vs aF)], 175)] ∧ Has ρ [(0, (vp p1)), (1, given1.v), (2, made1.v), (7, (vp (some p2))), (22, (vb ((decide (aA < 0)) || (decide (aA > 11))))), (26, (vb ((decide (aA ≥ 4)) && (decide (aA ≤ 11))))), (36, (vb (b20'0 || (decide (aB ≥ (made1.len : Int))))))]) ?_ ?_
       ·clear hs hb
        rintro ρ w26 ⟨b20'0, H21, he0, hs, hb, hH⟩
        subst he0
        refine wpL_has hH ?_
        clear hH
        refine stp (v := (vb ((decide (aB < 0)) || (decide (aB ≥ (made1.len : Int)))))) (want1 rfl (yD 22 hg33)) (xT hg37) (wpL_nil ?_)
        exact ⟨true, _, hg37, hs, hb, Has.mk (by kernel_rfl)⟩
       ·skip
        rcases Bool.eq_false_or_eq_true (decide (aB < 0)) with hg39 | hg39
        ·skip
         refine sk (yD 30 hg39) (sk (yD 30 hg39) (sk (yD 30 hg39) (sk (yD 30 hg39) (sk (yD 30 hg39) (stp (v := (vb true)) (want1 rfl (yD 26 hg37)) (xT hg39) (wpL_nil ?_))))))
         exact ⟨true, _, hg39, hs, hb, Has.mk (by kernel_rfl)⟩
        ·skip
         refine q1 (vp (some (p2.add 1))) (want1 rfl (yD 30 hg39)) (stp (v := (vi aB)) (want1 rfl (yD 30 hg39)) (xl (Try.isAgg3 _) (hb.c 0 1 gZ)) (q1 made1.v (want1 rfl (yD 30 hg39)) (q1 (vi (made1.len : Int)) (want1 rfl (yD 30 hg39)) (q1 (vb (decide (aB ≥ (made1.len : Int)))) (want1 rfl (yD 30 hg39)) (stp (v := (vb (decide (aB ≥ (made1.len : Int))))) (want1 rfl (yD 26 hg37)) (xF hg39) (wpL_nil ?_))))))
         exact ⟨false, _, hg39, hs, hb, Has.mk (by kernel_rfl)⟩
      ·skip
       refine sk (yD 26 hg37) (sk (yD 26 hg37) (sk (yD 26 hg37) (sk (yD 26 hg37) (st_not (by kernel_rfl) (st_not (by kernel_rfl) (st_not (by kernel_rfl) (st_not (by kernel_rfl) (st_not (by kernel_rfl) (sk (yD 26 hg37) (stp (v := (vb false)) (want1 rfl (yD 22 hg33)) (xF hg37) (wpL_nil ?_)))))))))))
       exact ⟨false, _, hg37, hs, hb, Has.mk (by kernel_rfl)⟩
  ·skip
   rcases Bool.eq_false_or_eq_true (decide (aA < 0)) with hg25 | hg25
   ·skip
    refine sk (yD 17 hg25) (sk (yD 17 hg25) (sk (yD 17 hg25) (q2 (vb true) (xT hg25) (wpL_nil ?_))))
    exact ⟨true, _, hg25, hs, hb, Has.mk (by kernel_rfl)⟩
   ·skip
    refine q1 (vp (some p2)) (want1 rfl (yD 17 hg25)) (stp (v := (vi aA)) (want1 rfl (yD 17 hg25)) (xl (Try.isAgg3 _) (hb.c0 0 gZ)) (q1 (vb (decide (aA > 11))) (want1 rfl (yD 17 hg25)) (q2 (vb (decide (aA > 11))) (xF hg25) (wpL_nil ?_))))
    exact ⟨false, _, hg25, hs, hb, Has.mk (by kernel_rfl)⟩
 ·clear hs hb
  rintro ρ w16 ⟨b12'0, y1, H13, he0, hy1, hs, hb, hH⟩
  subst he0
  replace h := h y1 hy1
  refine norm_has hH ?_
  clear hH
  refine th_n ?_
  refine wpE_cond (t := y1) (by kernel_rfl) (fun hc1 => ?_) (fun hc1 => ?_)
  ·replace h := h.1 hc1
   refine wpE_seq (rg (q0 (vi 0) (q0 (vi 90) (wpL_nil (th_n (wpE_ret (th_r ?_)))))))
   replace h := h H13 w16 hs
   replace hs := hs.here
   refine res2 (.inl rfl) Try.results105 (v := (vi 0)) (by kernel_rfl) (v' := (vi 90)) (by kernel_rfl) ?_
   exact ⟨0, 90, rfl, h⟩
  ·replace h := h.2 hc1
   refine wpE_skip (th_n (wpE_seq (rg (q0 (vi 0) (wpL_nil (th_n (wpE_seq (wpE_seq (rg (q0 (vp (some p2)) (q2 (vi aA) (xl (Try.isAgg3 _) (hb.c0 0 gZ)) ?_)))))))))))
   refine st_call (want0 rfl) (xc Try.call110) ((p_ref09_one aA w16).mono ?_)
   rintro e w31 ⟨he, hE⟩
   refine ⟨(vb ((decide (aA ≥ 4)) && (decide (aA ≤ 11)))), he.trans (by kernel_rfl), ?_⟩
   replace hs := hs.pure hE
   replace hb := hb.pure hE
   clear hE he
   refine wpL_nil (th_n ?_)
   refine wpE_joinT (fun ρ w => ∃ a1 : Int, ∃ H : Nat → Prop, Has ρ [(0, (vp p1)), (1, given1.v), (2, made1.v), (7, (vp (some p2))), (10, (vi a1))] ∧ Hst w0 H w H w ∧ HB H w [(p2, [(vi aA), (vi aB), (vi aC), (vu aE), (vs aF)], 175)] ∧ m_ref09_does_j1 p1 given1 made1 aA aB aC aE aF a1 w0 H w K) ?_ ?_
   ·clear h hs hb
    rintro ρ w ⟨a1, H, hH, hs, hb, h⟩
    unfold m_ref09_does_j1 at h
    refine wpE_has hH ?_
    clear hH
    refine wpE_seq (rg (q0 (vp p1) (q0 (vi a1) ?_)))
    refine st_call (want0 rfl) (xc Try.call47) (h.mono ?_)
    rintro e w32 ⟨aD, aI, aJ, aK, aL, aG, aH, r1, rfl, hk, h⟩
    refine ⟨_, rfl, ?_⟩
    obtain ⟨hs, hb⟩ := hk.hh hs hb
    refine q0 (.tuple #[(.agg #[(vi aD), (vi aI), (vi aJ), (vu aK), (vs aL), (vi aG), (vi aH)]), (vb r1)]) (q0 (.agg #[(vi aD), (vi aI), (vi aJ), (vu aK), (vs aL), (vi aG), (vi aH)]) (q0 (vb r1) (sn (O := (.cells #[(vi 0), (vi 0), (vi 0), (vu 0), (vs ⟨#[]⟩), (vi 0), (vi 0)] 93)) (x_alloc (Try.zeroValue93 _) rfl) ?_)))
    intro p3 w33 hn2
    obtain ⟨H25, hs, hb⟩ := hs.alloc hb hn2
    refine st_set (want0 rfl) (x_storeA (a := p3) (vs := [(vi aD), (vi aI), (vi aJ), (vu aK), (vs aL), (vi aG), (vi aH)]) (by kernel_rfl) (by kernel_rfl) rfl (Try.sizeOf93 _) rfl (hb.canWs0 0 7 gZ (by kernel_rfl))) ?_
    intro w34 hn3
    have hsb : Hst w0 H w32 H25 w34 ∧ HB H25 w34 [(p3, [(vi aD), (vi aI), (vi aJ), (vu aK), (vs aL), (vi aG), (vi aH)], 93), (p2, [(vi aA), (vi aB), (vi aC), (vu aE), (vs aF)], 175)] := by
     rw [hn3]
     exact hb.store0 (i := 0) (vs := [(vi aD), (vi aI), (vi aJ), (vu aK), (vs aL), (vi aG), (vi aH)]) hs gZ (by kernel_rfl) (by kernel_rfl)
    clear hs hb hn3
    obtain ⟨hs, hb⟩ := hsb
    refine q0 (vb r1) (wpL_nil (th_n (wpE_seq (rg (q0 (.agg #[(vi 0), (vi 0), (vi 0), (vu 0), (vs ⟨#[]⟩), (vi 0), (vi 0)]) (sn (O := (.cells #[(vi 0), (vi 0), (vi 0), (vu 0), (vs ⟨#[]⟩), (vi 0), (vi 0)] 93)) (x_alloc (Try.zeroValue93 _) rfl) ?_))))))
    intro p4 w35 hn4
    obtain ⟨H26, hs, hb⟩ := hs.alloc hb hn4
    refine st_set (want0 rfl) (x_storeA (a := p4) (vs := [(vi 0), (vi 0), (vi 0), (vu 0), (vs ⟨#[]⟩), (vi 0), (vi 0)]) (by kernel_rfl) (by kernel_rfl) rfl (Try.sizeOf93 _) rfl (hb.canWs0 0 7 gZ (by kernel_rfl))) ?_
    intro w36 hn5
    have hsb : Hst w0 H w32 H26 w36 ∧ HB H26 w36 [(p4, [(vi 0), (vi 0), (vi 0), (vu 0), (vs ⟨#[]⟩), (vi 0), (vi 0)], 93), (p3, [(vi aD), (vi aI), (vi aJ), (vu aK), (vs aL), (vi aG), (vi aH)], 93), (p2, [(vi aA), (vi aB), (vi aC), (vu aE), (vs aF)], 175)] := by
     rw [hn5]
     exact hb.store0 (i := 0) (vs := [(vi 0), (vi 0), (vi 0), (vu 0), (vs ⟨#[]⟩), (vi 0), (vi 0)]) hs gZ (by kernel_rfl) (by kernel_rfl)
    clear hs hb hn5
    obtain ⟨hs, hb⟩ := hsb
    refine wpL_nil (th_n (wpE_seq (wpE_seq (rg (q0 (vp (some p2)) (q2 (vi aA) (xl (Try.isAgg3 _) (hb.c0 2 (gS (gS gZ)))) (q0 (vb (decide (aA ≥ 9))) (wpL_nil (th_n ?_)))))))))
    refine wpE_joinT (fun ρ w => ∃ keyKind1 keyFrom1 : Int, ∃ keyTo1 keyNum1 : Int, ∃ keyText1 : ByteArray, ∃ keyA1 keyB1 : Int, ∃ H : Nat → Prop, Has ρ [(0, (vp p1)), (1, given1.v), (2, made1.v), (7, (vp (some p2))), (10, (vi a1)), (11, (vp (some p3))), (13, (vp (some p4)))] ∧ Hst w0 H w H w ∧ HB H w [(p4, [(vi keyKind1), (vi keyFrom1), (vi keyTo1), (vu keyNum1), (vs keyText1), (vi keyA1), (vi keyB1)], 93), (p3, [(vi aD), (vi aI), (vi aJ), (vu aK), (vs aL), (vi aG), (vi aH)], 93), (p2, [(vi aA), (vi aB), (vi aC), (vu aE), (vs aF)], 175)] ∧ m_ref09_does_j2 p1 given1 made1 aA aB aC aE aF a1 aD aG aH keyKind1 keyFrom1 keyTo1 keyNum1 keyText1 keyA1 keyB1 w0 H w K) ?_ ?_
    ·clear h hs hb
     rintro ρ w ⟨keyKind1, keyFrom1, keyTo1, keyNum1, keyText1, keyA1, keyB1, H, hH, hs, hb, h⟩
     unfold m_ref09_does_j2 at h
     refine wpE_has hH ?_
     clear hH
     refine wpE_seq (wpE_seq (rg (q0 (vp (some p2)) (q2 (vi aA) (xl (Try.isAgg3 _) (hb.c0 2 (gS (gS gZ)))) (wpL_nil (th_n (wpE_block (wpE_seq (rg (q0 (vb (aA == 0)) (q0 (vb (aA == 0)) ?_)))))))))))
     refine wpL_nil (th_n ?_)
     refine wpE_cond (t := (aA == 0)) (by kernel_rfl) (fun hc2 => ?_) (fun hc2 => ?_)
     ·replace h := h.1 hc2
      refine wpE_seq (wpE_seq ?_)
      refine wpE_via (fun ρ wJ => ∃ b24'0 : Bool, ∃ HJ : Nat → Prop, ((decide (aB < 0)) = b24'0) ∧ Hst w0 H w HJ wJ ∧ HB HJ wJ [(p4, [(vi keyKind1), (vi keyFrom1), (vi keyTo1), (vu keyNum1), (vs keyText1), (vi keyA1), (vi keyB1)], 93), (p3, [(vi aD), (vi aI), (vi aJ), (vu aK), (vs aL), (vi aG), (vi aH)], 93), (p2, [(vi aA), (vi aB), (vi aC), (vu aE), (vs aF)], 175)] ∧ Has ρ [(1, given1.v), (7, (vp (some p2))), (100, (vb (b24'0 || (decide (aB ≥ (given1.len : Int))))))]) ?_ ?_
      ·skip
       refine rg (q0 (vp (some (p2.add 1))) (q2 (vi aB) (xl (Try.isAgg3 _) (hb.c 2 1 (gS (gS gZ)))) (q0 (vb (decide (aB < 0))) (q0 (vb (decide (aB < 0))) ?_))))
       rcases Bool.eq_false_or_eq_true (decide (aB < 0)) with hg48 | hg48
       ·skip
        refine sk (yD 94 hg48) (sk (yD 94 hg48) (sk (yD 94 hg48) (sk (yD 94 hg48) (sk (yD 94 hg48) (q2 (vb true) (xT hg48) (wpL_nil (th_n ?_)))))))
        exact ⟨true, _, hg48, hs, hb, Has.mk (by kernel_rfl)⟩
       ·skip
        refine q1 (vp (some (p2.add 1))) (want1 rfl (yD 94 hg48)) (stp (v := (vi aB)) (want1 rfl (yD 94 hg48)) (xl (Try.isAgg3 _) (hb.c 2 1 (gS (gS gZ)))) (q1 given1.v (want1 rfl (yD 94 hg48)) (q1 (vi (given1.len : Int)) (want1 rfl (yD 94 hg48)) (q1 (vb (decide (aB ≥ (given1.len : Int)))) (want1 rfl (yD 94 hg48)) (q2 (vb (decide (aB ≥ (given1.len : Int)))) (xF hg48) (wpL_nil (th_n ?_)))))))
        exact ⟨false, _, hg48, hs, hb, Has.mk (by kernel_rfl)⟩
      ·clear hs hb
       rintro ρ w37 ⟨b24'0, H27, he0, hs, hb, hH⟩
       subst he0
       refine norm_has hH ?_
       clear hH
       refine th_n ?_
       refine wpE_cond (t := ((decide (aB < 0)) || (decide (aB ≥ (given1.len : Int))))) (by kernel_rfl) (fun hc3 => ?_) (fun hc3 => ?_)
       ·replace h := h.1 hc3
        refine wpE_seq (rg (q0 (vi 0) (q0 (vi 90) (wpL_nil (th_n (wpE_ret (th_r (bl_r (th_r ?_)))))))))
        replace h := h H27 w37 hs
        replace hs := hs.here
        refine res2 (.inl rfl) Try.results105 (v := (vi 0)) (by kernel_rfl) (v' := (vi 90)) (by kernel_rfl) ?_
        exact ⟨0, 90, rfl, h⟩
       ·replace h := h.2 hc3
        refine wpE_skip (th_n (wpE_seq (rg (q0 given1.v (q0 (vp (some (p2.add 1))) (q2 (vi aB) (xl (Try.isAgg3 _) (hb.c 2 1 (gS (gS gZ)))) ?_))))))
        obtain ⟨a2, hv2, h⟩ := h
        refine q2 (vp (some a2)) (x_indexAddr (s := given1) (k := .i64) (i := aB) (by kernel_rfl) (by kernel_rfl) (Try.runUnderlying26 _) (Try.sizeOf41 _) hv2) ?_
        replace h := h H27 w37 hs
        replace hs := hs.here
        obtain ⟨v1, hv1, h⟩ := h
        refine q2 (vi v1) (xl (Try.isAgg41 _) hv1) (q0 (vi v1) (q0 (vi 0) (wpL_nil (th_n (wpE_ret (bl_r (th_r (res2 (.inl rfl) Try.results105 (v := (vi v1)) (by kernel_rfl) (v' := (vi 0)) (by kernel_rfl) ?_))))))))
        exact ⟨v1, 0, rfl, h⟩
     ·replace h := h.2 hc2
      refine wpE_seq (rg (q0 (vb (aA == 1)) (q0 (vb (aA == 1)) (wpL_nil (th_n ?_)))))
      refine wpE_cond (t := (aA == 1)) (by kernel_rfl) (fun hc4 => ?_) (fun hc4 => ?_)
      ·replace h := h.1 hc4
       refine wpE_seq (rg (q0 (vp p1) (q0 (vp (some (p2.add 1))) (q2 (vi aB) (xl (Try.isAgg3 _) (hb.c 2 1 (gS (gS gZ)))) (q0 (.agg #[(vi 1), (vi aB), (vi 0), (vu 0), (vs ⟨#[]⟩), (vi 0), (vi 0)]) ?_)))))
       refine st_call (want0 rfl) (xc Try.call146) (h.mono ?_)
       rintro e w38 ⟨r2, r3, rfl, hk, h⟩
       refine ⟨_, rfl, ?_⟩
       obtain ⟨hs, hb⟩ := hk.hh hs hb
       refine q0 (vi r2) (q0 (vi r3) (q0 (vi r2) (q0 (vi r3) (wpL_nil (th_n (wpE_ret (bl_r (th_r (res2 (.inl rfl) Try.results105 (v := (vi r2)) (by kernel_rfl) (v' := (vi r3)) (by kernel_rfl) ?_)))))))))
       exact ⟨r2, r3, rfl, h⟩
      ·replace h := h.2 hc4
       refine wpE_seq (rg (q0 (vb (aA == 2)) (q0 (vb (aA == 2)) (wpL_nil (th_n ?_)))))
       refine wpE_cond (t := (aA == 2)) (by kernel_rfl) (fun hc5 => ?_) (fun hc5 => ?_)
       ·replace h := h.1 hc5
        refine wpE_seq (rg (q0 (vp p1) (q0 (vp (some (p2.add 3))) (q2 (vu aE) (xl (Try.isAgg38 _) (hb.c 2 3 (gS (gS gZ)))) (q0 (.agg #[(vi 2), (vi 0), (vi 0), (vu aE), (vs ⟨#[]⟩), (vi 0), (vi 0)]) ?_)))))
        refine st_call (want0 rfl) (xc Try.call146) (h.mono ?_)
        rintro e w39 ⟨r4, r5, rfl, hk, h⟩
        refine ⟨_, rfl, ?_⟩
        obtain ⟨hs, hb⟩ := hk.hh hs hb
        refine q0 (vi r4) (q0 (vi r5) (q0 (vi r4) (q0 (vi r5) (wpL_nil (th_n (wpE_ret (bl_r (th_r (res2 (.inl rfl) Try.results105 (v := (vi r4)) (by kernel_rfl) (v' := (vi r5)) (by kernel_rfl) ?_)))))))))
        exact ⟨r4, r5, rfl, h⟩
       ·replace h := h.2 hc5
        refine wpE_seq (rg (q0 (vb (aA == 3)) (q0 (vb (aA == 3)) (wpL_nil (th_n ?_)))))
        refine wpE_cond (t := (aA == 3)) (by kernel_rfl) (fun hc6 => ?_) (fun hc6 => ?_)
        ·replace h := h.1 hc6
         refine wpE_seq (rg (q0 (vp p1) (q0 (vp (some (p2.add 4))) (q2 (vs aF) (xl (Try.isAgg9 _) (hb.c 2 4 (gS (gS gZ)))) (q0 (.agg #[(vi 3), (vi 0), (vi 0), (vu 0), (vs aF), (vi 0), (vi 0)]) ?_)))))
         refine st_call (want0 rfl) (xc Try.call146) (h.mono ?_)
         rintro e w40 ⟨r6, r7, rfl, hk, h⟩
         refine ⟨_, rfl, ?_⟩
         obtain ⟨hs, hb⟩ := hk.hh hs hb
         refine q0 (vi r6) (q0 (vi r7) (q0 (vi r6) (q0 (vi r7) (wpL_nil (th_n (wpE_ret (bl_r (th_r (res2 (.inl rfl) Try.results105 (v := (vi r6)) (by kernel_rfl) (v' := (vi r7)) (by kernel_rfl) ?_)))))))))
         exact ⟨r6, r7, rfl, h⟩
        ·replace h := h.2 hc6
         refine wpE_seq (rg (q0 (vb (aA == 4)) (q0 (vb (aA == 4)) (wpL_nil (th_n ?_)))))
         refine wpE_cond (t := (aA == 4)) (by kernel_rfl) (fun hc7 => ?_) (fun hc7 => ?_)
         ·replace h := h.1 hc7
          refine wpE_seq (rg (q0 (vp p1) (q0 (vi a1) (q0 made1.v (q0 (vp (some (p2.add 2))) (q2 (vi aC) (xl (Try.isAgg3 _) (hb.c 2 2 (gS (gS gZ)))) ?_))))))
          obtain ⟨a3, hv4, h⟩ := h
          refine q2 (vp (some a3)) (x_indexAddr (s := made1) (k := .i64) (i := aC) (by kernel_rfl) (by kernel_rfl) (Try.runUnderlying26 _) (Try.sizeOf41 _) hv4) ?_
          obtain ⟨v2, hv3, h⟩ := h
          refine q2 (vi v2) (xl (Try.isAgg41 _) hv3) (q0 (.agg #[(vi 4), (vi 0), (vi 0), (vu 0), (vs ⟨#[]⟩), (vi a1), (vi v2)]) ?_)
          refine st_call (want0 rfl) (xc Try.call146) (h.mono ?_)
          rintro e w41 ⟨r8, r9, rfl, hk, h⟩
          refine ⟨_, rfl, ?_⟩
          obtain ⟨hs, hb⟩ := hk.hh hs hb
          refine q0 (vi r8) (q0 (vi r9) (q0 (vi r8) (q0 (vi r9) (wpL_nil (th_n (wpE_ret (bl_r (th_r (res2 (.inl rfl) Try.results105 (v := (vi r8)) (by kernel_rfl) (v' := (vi r9)) (by kernel_rfl) ?_)))))))))
          exact ⟨r8, r9, rfl, h⟩
         ·replace h := h.2 hc7
          refine wpE_seq (rg (q0 (vb (aA == 5)) (q0 (vb (aA == 5)) (wpL_nil (th_n ?_)))))
          refine wpE_cond (t := (aA == 5)) (by kernel_rfl) (fun hc8 => ?_) (fun hc8 => ?_)
          ·replace h := h.1 hc8
           refine wpE_seq (rg (q0 (vp p1) (q0 (vi a1) (q0 (.agg #[(vi 5), (vi 0), (vi 0), (vu 0), (vs ⟨#[]⟩), (vi a1), (vi 0)]) ?_))))
           refine st_call (want0 rfl) (xc Try.call146) (h.mono ?_)
           rintro e w42 ⟨r10, r11, rfl, hk, h⟩
           refine ⟨_, rfl, ?_⟩
           obtain ⟨hs, hb⟩ := hk.hh hs hb
           refine q0 (vi r10) (q0 (vi r11) (q0 (vi r10) (q0 (vi r11) (wpL_nil (th_n (wpE_ret (bl_r (th_r (res2 (.inl rfl) Try.results105 (v := (vi r10)) (by kernel_rfl) (v' := (vi r11)) (by kernel_rfl) ?_)))))))))
           exact ⟨r10, r11, rfl, h⟩
          ·replace h := h.2 hc8
           refine wpE_seq (wpE_seq (rg (q0 (vb (aA == 6)) (q0 (vb (aA == 6)) (wpL_nil (th_n ?_))))))
           refine wpE_via (fun ρ wJ => ∃ b25'0 : Bool, ∃ HJ : Nat → Prop, ((aA == 6) = b25'0) ∧ Hst w0 H w HJ wJ ∧ HB HJ wJ [(p4, [(vi keyKind1), (vi keyFrom1), (vi keyTo1), (vu keyNum1), (vs keyText1), (vi keyA1), (vi keyB1)], 93), (p3, [(vi aD), (vi aI), (vi aJ), (vu aK), (vs aL), (vi aG), (vi aH)], 93), (p2, [(vi aA), (vi aB), (vi aC), (vu aE), (vs aF)], 175)] ∧ Has ρ [(0, (vp p1)), (7, (vp (some p2))), (10, (vi a1)), (11, (vp (some p3))), (13, (vp (some p4))), (88, (vi aA)), (154, (vb (cond b25'0 (aA == 6) (aA == 7))))]) ?_ ?_
           ·skip
            refine wpE_cond (t := (aA == 6)) (by kernel_rfl) (fun hc10 => ?_) (fun hc10 => ?_)
            ·skip
             refine wpE_skip (th_n ?_)
             exact ⟨true, _, hc10, hs, hb, Has.mk (by kernel_rfl)⟩
            ·skip
             refine rg (q0 (vb (aA == 7)) (q0 (vb (aA == 7)) (wpL_nil (th_n ?_))))
             exact ⟨false, _, hc10, hs, hb, Has.mk (by kernel_rfl)⟩
           ·clear hs hb
            rintro ρ w43 ⟨b25'0, H28, he0, hs, hb, hH⟩
            subst he0
            refine norm_has hH ?_
            clear hH
            refine th_n ?_
            refine wpE_cond (t := (cond (aA == 6) (aA == 6) (aA == 7))) (by kernel_rfl) (fun hc11 => ?_) (fun hc11 => ?_)
            ·replace h := h.1 hc11
             refine wpE_seq (wpE_seq (rg (q0 (vp (some p3)) (q2 (vi aD) (xl (Try.isAgg3 _) (hb.c0 1 (gS gZ))) (q0 (vb (aD != 4)) (wpL_nil (th_n ?_)))))))
             refine wpE_cond (t := (aD != 4)) (by kernel_rfl) (fun hc12 => ?_) (fun hc12 => ?_)
             ·replace h := h.1 hc12
              refine wpE_seq (rg (q0 (vi 0) (q0 (vi 90) (wpL_nil (th_n (wpE_ret (th_r (bl_r (th_r ?_)))))))))
              replace h := h H28 w43 hs
              replace hs := hs.here
              refine res2 (.inl rfl) Try.results105 (v := (vi 0)) (by kernel_rfl) (v' := (vi 90)) (by kernel_rfl) ?_
              exact ⟨0, 90, rfl, h⟩
             ·replace h := h.2 hc12
              refine wpE_skip (th_n (wpE_seq (wpE_seq (rg (q0 (vp (some p2)) (q2 (vi aA) (xl (Try.isAgg3 _) (hb.c0 2 (gS (gS gZ)))) (q0 (vb (aA == 6)) (wpL_nil (th_n ?_)))))))))
              refine wpE_cond (t := (aA == 6)) (by kernel_rfl) (fun hc13 => ?_) (fun hc13 => ?_)
              ·replace h := h.1 hc13
               refine wpE_seq (rg (q0 (vp (some (p3.add 5))) (q2 (vi aG) (xl (Try.isAgg41 _) (hb.c 1 5 (gS gZ))) (q0 (vi aG) (q0 (vi 0) (wpL_nil (th_n (wpE_ret (th_r (bl_r (th_r ?_)))))))))))
               replace h := h H28 w43 hs
               replace hs := hs.here
               refine res2 (.inl rfl) Try.results105 (v := (vi aG)) (by kernel_rfl) (v' := (vi 0)) (by kernel_rfl) ?_
               exact ⟨aG, 0, rfl, h⟩
              ·replace h := h.2 hc13
               refine wpE_skip (th_n (wpE_seq (rg (q0 (vp (some (p3.add 6))) (q2 (vi aH) (xl (Try.isAgg41 _) (hb.c 1 6 (gS gZ))) (q0 (vi aH) (q0 (vi 0) (wpL_nil (th_n (wpE_ret (bl_r ?_)))))))))))
               refine th_r ?_
               replace h := h H28 w43 hs
               replace hs := hs.here
               refine res2 (.inl rfl) Try.results105 (v := (vi aH)) (by kernel_rfl) (v' := (vi 0)) (by kernel_rfl) ?_
               exact ⟨aH, 0, rfl, h⟩
            ·replace h := h.2 hc11
             refine wpE_seq (rg (q0 (vb (aA == 8)) (q0 (vb (aA == 8)) (wpL_nil (th_n ?_)))))
             refine wpE_cond (t := (aA == 8)) (by kernel_rfl) (fun hc14 => ?_) (fun hc14 => ?_)
             ·replace h := h.1 hc14
              refine wpE_seq (wpE_seq ?_)
              refine wpE_via (fun ρ wJ => ∃ b27'0 : Bool, ∃ HJ : Nat → Prop, (((aD != 7) && (aD != 8)) = b27'0) ∧ Hst w0 H w HJ wJ ∧ HB HJ wJ [(p4, [(vi keyKind1), (vi keyFrom1), (vi keyTo1), (vu keyNum1), (vs keyText1), (vi keyA1), (vi keyB1)], 93), (p3, [(vi aD), (vi aI), (vi aJ), (vu aK), (vs aL), (vi aG), (vi aH)], 93), (p2, [(vi aA), (vi aB), (vi aC), (vu aE), (vs aF)], 175)] ∧ Has ρ [(11, (vp (some p3))), (181, (vb (b27'0 && (aD != 9))))]) ?_ ?_
              ·skip
               refine rg (q0 (vp (some p3)) (q2 (vi aD) (xl (Try.isAgg3 _) (hb.c0 1 (gS gZ))) (q0 (vb (aD != 7)) (q0 (vb (aD != 7)) ?_))))
               refine wpL_join 4 (fun ρ wJ => ∃ b28'0 : Bool, ∃ HJ : Nat → Prop, ((aD != 7) = b28'0) ∧ Hst w0 H w HJ wJ ∧ HB HJ wJ [(p4, [(vi keyKind1), (vi keyFrom1), (vi keyTo1), (vu keyNum1), (vs keyText1), (vi keyA1), (vi keyB1)], 93), (p3, [(vi aD), (vi aI), (vi aJ), (vu aK), (vs aL), (vi aG), (vi aH)], 93), (p2, [(vi aA), (vi aB), (vi aC), (vu aE), (vs aF)], 175)] ∧ Has ρ [(11, (vp (some p3))), (176, (vb (b28'0 && (aD != 8))))]) ?_ ?_
               ·clear hs hb
                rintro ρ w46 ⟨b28'0, H31, he0, hs, hb, hH⟩
                subst he0
                refine wpL_has hH ?_
                clear hH
                refine q0 (vb ((aD != 7) && (aD != 8))) ?_
                rcases Bool.eq_false_or_eq_true ((aD != 7) && (aD != 8)) with hg54 | hg54
                ·skip
                 refine q1 (vp (some p3)) (want1 rfl (yD 177 hg54)) (stp (v := (vi aD)) (want1 rfl (yD 177 hg54)) (xl (Try.isAgg3 _) (hb.c0 1 (gS gZ))) (q1 (vb (aD != 9)) (want1 rfl (yD 177 hg54)) (q2 (vb (aD != 9)) (xT hg54) (wpL_nil (th_n ?_)))))
                 exact ⟨true, _, hg54, hs, hb, Has.mk (by kernel_rfl)⟩
                ·skip
                 refine sk (yD 177 hg54) (sk (yD 177 hg54) (sk (yD 177 hg54) (q2 (vb false) (xF hg54) (wpL_nil (th_n ?_)))))
                 exact ⟨false, _, hg54, hs, hb, Has.mk (by kernel_rfl)⟩
               ·skip
                rcases Bool.eq_false_or_eq_true (aD != 7) with hg53 | hg53
                ·skip
                 refine q1 (vp (some p3)) (want1 rfl (yD 172 hg53)) (stp (v := (vi aD)) (want1 rfl (yD 172 hg53)) (xl (Try.isAgg3 _) (hb.c0 1 (gS gZ))) (q1 (vb (aD != 8)) (want1 rfl (yD 172 hg53)) (q2 (vb (aD != 8)) (xT hg53) (wpL_nil ?_))))
                 exact ⟨true, _, hg53, hs, hb, Has.mk (by kernel_rfl)⟩
                ·skip
                 refine sk (yD 172 hg53) (sk (yD 172 hg53) (sk (yD 172 hg53) (q2 (vb false) (xF hg53) (wpL_nil ?_))))
                 exact ⟨false, _, hg53, hs, hb, Has.mk (by kernel_rfl)⟩
              ·clear hs hb
               rintro ρ w45 ⟨b27'0, H30, he0, hs, hb, hH⟩
               subst he0
               refine norm_has hH ?_
               clear hH
               refine th_n ?_
               refine wpE_cond (t := (((aD != 7) && (aD != 8)) && (aD != 9))) (by kernel_rfl) (fun hc15 => ?_) (fun hc15 => ?_)
               ·replace h := h.1 hc15
                refine wpE_seq (rg (q0 (vi 0) (q0 (vi 90) (wpL_nil (th_n (wpE_ret (th_r (bl_r (th_r ?_)))))))))
                replace h := h H30 w45 hs
                replace hs := hs.here
                refine res2 (.inl rfl) Try.results105 (v := (vi 0)) (by kernel_rfl) (v' := (vi 90)) (by kernel_rfl) ?_
                exact ⟨0, 90, rfl, h⟩
               ·replace h := h.2 hc15
                refine wpE_skip (th_n (wpE_seq (rg (q0 (vp (some (p3.add 5))) (q2 (vi aG) (xl (Try.isAgg41 _) (hb.c 1 5 (gS gZ))) (q0 (vi aG) (q0 (vi 0) (wpL_nil (th_n (wpE_ret (bl_r ?_)))))))))))
                refine th_r ?_
                replace h := h H30 w45 hs
                replace hs := hs.here
                refine res2 (.inl rfl) Try.results105 (v := (vi aG)) (by kernel_rfl) (v' := (vi 0)) (by kernel_rfl) ?_
                exact ⟨aG, 0, rfl, h⟩
             ·replace h := h.2 hc14
              refine wpE_seq (rg (q0 (vb (aA == 9)) (q0 (vb (aA == 9)) (wpL_nil (th_n ?_)))))
              refine wpE_cond (t := (aA == 9)) (by kernel_rfl) (fun hc16 => ?_) (fun hc16 => ?_)
              ·replace h := h.1 hc16
               refine wpE_seq (rg (q0 (vp p1) (q0 (vp (some (p4.add 1))) (q2 (vi keyFrom1) (xl (Try.isAgg3 _) (hb.c 0 1 gZ)) (q0 (vi a1) (q0 (.agg #[(vi 7), (vi keyFrom1), (vi 0), (vu 0), (vs ⟨#[]⟩), (vi a1), (vi 0)]) ?_))))))
               replace h := h H28 w43 hs
               replace hs := hs.here
               refine st_call (want0 rfl) (xc Try.call146) (h.mono ?_)
               rintro e w47 ⟨r12, r13, rfl, hk, h⟩
               refine ⟨_, rfl, ?_⟩
               obtain ⟨hs, hb⟩ := hk.hh hs hb
               refine q0 (vi r12) (q0 (vi r13) (q0 (vi r12) (q0 (vi r13) (wpL_nil (th_n (wpE_ret (bl_r (th_r (res2 (.inl rfl) Try.results105 (v := (vi r12)) (by kernel_rfl) (v' := (vi r13)) (by kernel_rfl) ?_)))))))))
               exact ⟨r12, r13, rfl, h⟩
              ·replace h := h.2 hc16
               refine wpE_seq (rg (q0 (vb (aA == 10)) (q0 (vb (aA == 10)) (wpL_nil (th_n ?_)))))
               refine wpE_cond (t := (aA == 10)) (by kernel_rfl) (fun hc17 => ?_) (fun hc17 => ?_)
               ·replace h := h.1 hc17
                refine wpE_seq ?_
                replace h := h H28 w43 hs
                replace hs := hs.here
                obtain ⟨C1, hC, h⟩ := h
                refine wpE_drawnC (fun x => C1 x ∧ HB H28 x [(p4, [(vi keyKind1), (vi keyFrom1), (vi keyTo1), (vu keyNum1), (vs keyText1), (vi keyA1), (vi keyB1)], 93), (p3, [(vi aD), (vi aI), (vi aJ), (vu aK), (vs aL), (vi aG), (vi aH)], 93), (p2, [(vi aA), (vi aB), (vi aC), (vu aE), (vs aF)], 175)]) [5, 8] [] (by kernel_rfl) (by kernel_rfl) (by kernel_rfl) (by kernel_rfl) ⟨hC, hb.drew⟩ ?_
                clear hC
                intro w48 hw48
                replace h := h w48 hw48
                replace hs : Hst w0 H28 w43 H28 w48 := by rw [hw48]; exact hs.drew
                replace hb : HB H28 w48 [(p4, [(vi keyKind1), (vi keyFrom1), (vi keyTo1), (vu keyNum1), (vs keyText1), (vi keyA1), (vi keyB1)], 93), (p3, [(vi aD), (vi aI), (vi aJ), (vu aK), (vs aL), (vi aG), (vi aH)], 93), (p2, [(vi aA), (vi aB), (vi aC), (vu aE), (vs aF)], 175)] := by rw [hw48]; exact hb.drew
                replace hs := hs.here
                refine qx 0 (vp p1) Kp0 (qx 1 (vp (some (p4.add 1))) Kp1 (qz 2 (vi keyFrom1) Kp2 (fun w' hw' => (xl (Try.isAgg3 _) (hw'.2.cell 0 1 gZ (by kernel_rfl)))) (qx 3 (vp (some (p2.add 3))) Kp3 (qz 4 (vu aE) Kp4 (fun w' hw' => (xl (Try.isAgg38 _) (hw'.2.cell 2 3 (gS (gS gZ)) (by kernel_rfl)))) (qx 6 (vi a1) Kp6 (lgo (k := 5) (by kernel_rfl) ?_))))))
                refine sl_call Kp5 (want0 rfl) (by kernel_rfl) (xc Try.call147) (h.mono ?_)
                rintro e w49 ⟨r14, rfl, hC, hk, h⟩
                refine ⟨_, rfl, .inr ⟨hC, hb.kept hk⟩, ?_⟩
                obtain ⟨hs, hb⟩ := hk.hh hs hb
                refine qx 7 (.agg #[(vi 8), (vi keyFrom1), (vi r14), (vu 0), (vs ⟨#[]⟩), (vi a1), (vi 0)]) Kp7 (lgo (k := 8) (by kernel_rfl) ?_)
                refine sl_call Kp8 (want0 rfl) (by kernel_rfl) (xc Try.call146) (h.mono ?_)
                rintro e w50 ⟨r15, r16, rfl, hC, hk, h⟩
                refine ⟨_, rfl, .inr ⟨hC, hb.kept hk⟩, ?_⟩
                obtain ⟨hs, hb⟩ := hk.hh hs hb
                refine qx 9 (vi r15) Kp9 (qx 10 (vi r16) (pickA (S8 (pickS (pickS pickZ)))) (qx 11 (vi r15) (pickA (S8 (pickS (pickS (pickS pickZ))))) (qx 12 (vi r16) (pickA (S8 (S4 pickZ))) (wpX_nil (by kernel_rfl) (th_n (wpE_ret (bl_r (th_r (res2 (.inl rfl) Try.results105 (v := (vi r15)) (by kernel_rfl) (v' := (vi r16)) (by kernel_rfl) ?_)))))))))
                exact ⟨r15, r16, rfl, h⟩
               ·replace h := h.2 hc17
                refine wpE_skip (bl_n (th_n (wpE_seq ?_)))
                replace h := h H28 w43 hs
                replace hs := hs.here
                obtain ⟨C2, hC, h⟩ := h
                refine wpE_drawnC (fun x => C2 x ∧ HB H28 x [(p4, [(vi keyKind1), (vi keyFrom1), (vi keyTo1), (vu keyNum1), (vs keyText1), (vi keyA1), (vi keyB1)], 93), (p3, [(vi aD), (vi aI), (vi aJ), (vu aK), (vs aL), (vi aG), (vi aH)], 93), (p2, [(vi aA), (vi aB), (vi aC), (vu aE), (vs aF)], 175)]) [3, 8] [] (by kernel_rfl) (by kernel_rfl) (by kernel_rfl) (by kernel_rfl) ⟨hC, hb.drew⟩ ?_
                clear hC
                intro w51 hw51
                replace h := h w51 hw51
                replace hs : Hst w0 H28 w43 H28 w51 := by rw [hw51]; exact hs.drew
                replace hb : HB H28 w51 [(p4, [(vi keyKind1), (vi keyFrom1), (vi keyTo1), (vu keyNum1), (vs keyText1), (vi keyA1), (vi keyB1)], 93), (p3, [(vi aD), (vi aI), (vi aJ), (vu aK), (vs aL), (vi aG), (vi aH)], 93), (p2, [(vi aA), (vi aB), (vi aC), (vu aE), (vs aF)], 175)] := by rw [hw51]; exact hb.drew
                replace hs := hs.here
                refine qx 0 (vp p1) Kp0 (qx 1 (vp (some (p2.add 3))) Kp1 (qz 2 (vu aE) Kp2 (fun w' hw' => (xl (Try.isAgg38 _) (hw'.2.cell 2 3 (gS (gS gZ)) (by kernel_rfl)))) (qx 4 (vp (some (p4.add 1))) Kp4 (qz 5 (vi keyFrom1) Kp5 (fun w' hw' => (xl (Try.isAgg3 _) (hw'.2.cell 0 1 gZ (by kernel_rfl)))) (qx 6 (vi a1) Kp6 (lgo (k := 3) (by kernel_rfl) ?_))))))
                refine sl_call Kp3 (want0 rfl) (by kernel_rfl) (xc Try.call147) (h.mono ?_)
                rintro e w52 ⟨r17, rfl, hC, hk, h⟩
                refine ⟨_, rfl, .inr ⟨hC, hb.kept hk⟩, ?_⟩
                obtain ⟨hs, hb⟩ := hk.hh hs hb
                refine qx 7 (.agg #[(vi 9), (vi r17), (vi keyFrom1), (vu 0), (vs ⟨#[]⟩), (vi a1), (vi 0)]) Kp7 (lgo (k := 8) (by kernel_rfl) ?_)
                refine sl_call Kp8 (want0 rfl) (by kernel_rfl) (xc Try.call146) (h.mono ?_)
                rintro e w53 ⟨r18, r19, rfl, hC, hk, h⟩
                refine ⟨_, rfl, .inr ⟨hC, hb.kept hk⟩, ?_⟩
                obtain ⟨hs, hb⟩ := hk.hh hs hb
                refine qx 9 (vi r18) Kp9 (qx 10 (vi r19) (pickA (S8 (pickS (pickS pickZ)))) (qx 11 (vi r18) (pickA (S8 (pickS (pickS (pickS pickZ))))) (qx 12 (vi r19) (pickA (S8 (S4 pickZ))) (wpX_nil (by kernel_rfl) (th_n (wpE_ret (res2 (.inl rfl) Try.results105 (v := (vi r18)) (by kernel_rfl) (v' := (vi r19)) (by kernel_rfl) ?_)))))))
                exact ⟨r18, r19, rfl, h⟩
    ·skip
     refine wpE_cond (t := (decide (aA ≥ 9))) (by kernel_rfl) (fun hc18 => ?_) (fun hc18 => ?_)
     ·replace h := h.1 hc18
      refine wpE_seq (rg (q0 (vp p1) (q0 made1.v (q0 (vp (some (p2.add 2))) (q2 (vi aC) (xl (Try.isAgg3 _) (hb.c 2 2 (gS (gS gZ)))) ?_)))))
      obtain ⟨a4, hv6, h⟩ := h
      refine q2 (vp (some a4)) (x_indexAddr (s := made1) (k := .i64) (i := aC) (by kernel_rfl) (by kernel_rfl) (Try.runUnderlying26 _) (Try.sizeOf41 _) hv6) ?_
      replace h := h H26 w36 hs
      replace hs := hs.here
      obtain ⟨v3, hv5, h⟩ := h
      refine q2 (vi v3) (xl (Try.isAgg41 _) hv5) ?_
      refine st_call (want0 rfl) (xc Try.call47) (h.mono ?_)
      rintro e w54 ⟨aR, aS, aT, aU, aV, aW, aX, r20, rfl, hk, h⟩
      refine ⟨_, rfl, ?_⟩
      obtain ⟨hs, hb⟩ := hk.hh hs hb
      refine q0 (.tuple #[(.agg #[(vi aR), (vi aS), (vi aT), (vu aU), (vs aV), (vi aW), (vi aX)]), (vb r20)]) (q0 (.agg #[(vi aR), (vi aS), (vi aT), (vu aU), (vs aV), (vi aW), (vi aX)]) (q0 (vb r20) (st_set (want0 rfl) (x_storeA (a := p4) (vs := [(vi aR), (vi aS), (vi aT), (vu aU), (vs aV), (vi aW), (vi aX)]) (by kernel_rfl) (by kernel_rfl) rfl (Try.sizeOf93 _) rfl (hb.canWs0 0 7 gZ (by kernel_rfl))) ?_)))
      intro w55 hn6
      have hsb : Hst w0 H26 w54 H26 w55 ∧ HB H26 w55 [(p4, [(vi aR), (vi aS), (vi aT), (vu aU), (vs aV), (vi aW), (vi aX)], 93), (p3, [(vi aD), (vi aI), (vi aJ), (vu aK), (vs aL), (vi aG), (vi aH)], 93), (p2, [(vi aA), (vi aB), (vi aC), (vu aE), (vs aF)], 175)] := by
       rw [hn6]
       exact hb.store0 (i := 0) (vs := [(vi aR), (vi aS), (vi aT), (vu aU), (vs aV), (vi aW), (vi aX)]) hs gZ (by kernel_rfl) (by kernel_rfl)
      clear hs hb hn6
      obtain ⟨hs, hb⟩ := hsb
      refine wpL_nil (th_n (wpE_seq (rg (q0 (vp (some p4)) (q2 (vi aR) (xl (Try.isAgg3 _) (hb.c0 0 gZ)) (q0 (vb (aR != 6)) (wpL_nil (th_n ?_))))))))
      refine wpE_cond (t := (aR != 6)) (by kernel_rfl) (fun hc19 => ?_) (fun hc19 => ?_)
      ·replace h := h.1 hc19
       refine wpE_seq (rg (q0 (vi 0) (q0 (vi 90) (wpL_nil (th_n (wpE_ret (th_r ?_)))))))
       replace h := h w55 hs
       replace hs := hs.here
       refine res2 (.inl rfl) Try.results105 (v := (vi 0)) (by kernel_rfl) (v' := (vi 90)) (by kernel_rfl) ?_
       exact ⟨0, 90, rfl, h⟩
      ·replace h := h.2 hc19
       refine wpE_skip ?_
       replace h := h w55 hs
       replace hs := hs.here
       refine th_n ?_
       exact ⟨aR, aS, aT, aU, aV, aW, aX, H26, Has.mk (by kernel_rfl), hs, hb, h⟩
     ·replace h := h.2 hc18
      refine wpE_skip ?_
      replace h := h H26 w36 hs
      replace hs := hs.here
      refine th_n ?_
      exact ⟨0, 0, 0, 0, ⟨#[]⟩, 0, 0, H26, Has.mk (by kernel_rfl), hs, hb, h⟩
   ·skip
    refine wpE_cond (t := ((decide (aA ≥ 4)) && (decide (aA ≤ 11)))) (by kernel_rfl) (fun hc20 => ?_) (fun hc20 => ?_)
    ·replace h := h.1 hc20
     refine rg (q0 made1.v (q0 (vp (some (p2.add 1))) (q2 (vi aB) (xl (Try.isAgg3 _) (hb.c 0 1 gZ)) ?_)))
     obtain ⟨a5, hv8, h⟩ := h
     refine q2 (vp (some a5)) (x_indexAddr (s := made1) (k := .i64) (i := aB) (by kernel_rfl) (by kernel_rfl) (Try.runUnderlying26 _) (Try.sizeOf41 _) hv8) ?_
     replace h := h H13 w31 hs
     replace hs := hs.here
     obtain ⟨v4, hv7, h⟩ := h
     refine q2 (vi v4) (xl (Try.isAgg41 _) hv7) (q0 (vi v4) (wpL_nil (th_n ?_)))
     exact ⟨v4, H13, Has.mk (by kernel_rfl), hs, hb, h⟩
    ·replace h := h.2 hc20
     refine wpE_skip ?_
     replace h := h H13 w31 hs
     replace hs := hs.here
     refine th_n ?_
     exact ⟨0, H13, Has.mk (by kernel_rfl), hs, hb, h⟩
def m_ref09_Run_l1 (p1 : Option Addr) (given1 l1 made1 : Sl) (i1 : Int) (wl1 : World) (Kc1 : Sl → Int → World → Prop) (K : Sl → Int → World → Prop) : Prop :=
 Br (decide (i1 < (l1.len : Int)))
  (∃ a1 : Addr, At l1 i1 5 a1 ∧
  ∃ aM aN : Int, ∃ aO aP : Int, ∃ aQ : ByteArray, Row wl1 a1 [(vi aM), (vi aN), (vi aO), (vu aP), (vs aQ)] ∧
  Calls Try.prog 105 #[(vp p1), given1.v, made1.v, (.agg #[(vi aM), (vi aN), (vi aO), (vu aP), (vs aQ)])] wl1 (fun e w1 => ∃ r1 r2 : Int, e = .returned (.tuple #[(vi r1), (vi r2)]) ∧ 
   Br (r2 != 0)
    (K made1 r2 w1)
    (∀ (p2 : Addr) (w2 : World), New w1 (.cells #[(vi r1)] 41) p2 w2 →
    ∃ s1 : Sl, ∃ w3 : World, (Builtin.append_ #[26, 26] 26 #[made1.v, (Sl.mk (some p2) 1 1).v]).run Try.prog w2 = .ok s1.v w3 ∧
    Kc1 s1 (IntKind.i64.wrap (i1 + 1)) w3)))
  (K made1 0 wl1)
def m_ref09_Run (p1 : Option Addr) (given1 l1 : Sl) (w0 : World) (K : Sl → Int → World → Prop) : Prop :=
 ∃ (I1 : Sl → Int → World → Prop) (mu1 : Sl → Int → World → Nat), I1 Sl.nil 0 w0 ∧
  ∀ (made1 : Sl) (i1 : Int) (wl1 : World), I1 made1 i1 wl1 → m_ref09_Run_l1 p1 given1 l1 made1 i1 wl1 (fun y'0 y'1 w' => I1 y'0 y'1 w' ∧ mu1 y'0 y'1 w' < mu1 made1 i1 wl1) K
theorem w_ref09_Run (p1 : Option Addr) (given1 l1 : Sl) (w0 : World) (K : Sl → Int → World → Prop) (h : m_ref09_Run p1 given1 l1 w0 K) :
  Calls Try.prog 57 #[(vp p1), given1.v, l1.v] w0 (fun e w' => ∃ r3 : Sl, ∃ r4 : Int, e = .returned (.tuple #[r3.v, (vi r4)]) ∧ K r3 r4 w') := by
 unfold m_ref09_Run at h
 refine calls_of_wpE (args := [(vp p1), given1.v, l1.v]) Try.func57 rfl Try.ntmps57 (Nat.le_of_ble_eq_true rfl) (wpE_seq (rg (q0 Sl.nil.v (q0 (vi 0) (wpL_nil (th_n (wpE_seq (rg (q0 Sl.nil.v (wpL_nil (th_n ?_)))))))))))
 refine wpE_seq (wpE_seq (rg (q0 (vi 0) (wpL_nil (th_n (wpE_block ?_))))))
 obtain ⟨I1, mu1, h0, hr⟩ := h
 refine wpE_loop (σ := Sl × Int × World) (fun s ρ w => w = s.2.2 ∧ Has ρ [(0, (vp p1)), (1, given1.v), (2, l1.v), (8, s.1.v), (9, (vi s.2.1))] ∧ I1 s.1 s.2.1 s.2.2) (fun s => mu1 s.1 s.2.1 s.2.2) (Sl.nil, 0, w0) ⟨rfl, Has.mk (by kernel_rfl), h0⟩ ?_
 rintro ⟨made1, i1, wl1⟩ ρ w ⟨hw, hH, hI⟩
 obtain rfl : wl1 = w := (show w = wl1 from hw).symm
 replace hH : Has ρ [(0, (vp p1)), (1, given1.v), (2, l1.v), (8, made1.v), (9, (vi i1))] := hH
 have h := hr made1 i1 wl1 hI
 clear hr h0
 unfold m_ref09_Run_l1 at h
 refine wpE_has hH ?_
 clear hH hI
 refine wpE_seq (wpE_seq (rg (q0 (vi i1) (q0 l1.v (q0 (vi (l1.len : Int)) (q0 (vb (decide (i1 < (l1.len : Int)))) (wpL_nil (th_n ?_))))))))
 refine wpE_cond (t := (decide (i1 < (l1.len : Int)))) (by kernel_rfl) (fun hc1 => ?_) (fun hc1 => ?_)
 ·replace h := h.1 hc1
  refine wpE_skip (th_n (wpE_seq (wpE_block (wpE_seq (rg (q0 (vp p1) (q0 given1.v (q0 made1.v (q0 l1.v (q0 (vi i1) ?_))))))))))
  obtain ⟨a1, hv3, h⟩ := h
  refine q2 (vp (some a1)) (x_indexAddr (s := l1) (k := .i64) (i := i1) (by kernel_rfl) (by kernel_rfl) (Try.runUnderlying98 _) (Try.sizeOf175 _) hv3) ?_
  obtain ⟨aM, aN, aO, aP, aQ, hv2, h⟩ := h
  refine q2 (.agg #[(vi aM), (vi aN), (vi aO), (vu aP), (vs aQ)]) (x_loadA (a := a1) (vs := [(vi aM), (vi aN), (vi aO), (vu aP), (vs aQ)]) (by kernel_rfl) (Try.isAgg175 _) (Try.sizeOf175 _) rfl hv2) ?_
  refine st_call (want0 rfl) (xc Try.call105) (h.mono ?_)
  rintro e w1 ⟨r1, r2, rfl, h⟩
  refine ⟨_, rfl, ?_⟩
  refine q0 (.tuple #[(vi r1), (vi r2)]) (q0 (vi r1) (q0 (vi r2) (q0 (vi r1) (q0 (vi r2) (wpL_nil (th_n (wpE_seq (wpE_seq (rg (q0 (vi r2) (q0 (vb (r2 != 0)) ?_)))))))))))
  refine wpL_nil (th_n ?_)
  refine wpE_cond (t := (r2 != 0)) (by kernel_rfl) (fun hc2 => ?_) (fun hc2 => ?_)
  ·replace h := h.1 hc2
   refine wpE_seq (rg (q0 made1.v (q0 (vi r2) (q0 made1.v (q0 (vi r2) (wpL_nil (th_n (wpE_ret (th_r (bl_r (th_r ?_)))))))))))
   refine th_r (bl_r (th_r (res2 (.inl rfl) Try.results57 (v := made1.v) (by kernel_rfl) (v' := (vi r2)) (by kernel_rfl) ?_)))
   exact ⟨made1, r2, rfl, h⟩
  ·replace h := h.2 hc2
   refine wpE_skip (th_n (rg (q0 made1.v (q0 (vi r1) (st_new (O := (.cells #[(vi r1)] 41)) (fun p => (Sl.mk (some p) 1 1).v) (want0 rfl) (x_buildSlice (vs := #[(0, (vi r1))]) (by kernel_rfl) (by kernel_rfl)) ?_)))))
   intro p2 w2 hn1
   replace h := h p2 w2 hn1
   obtain ⟨s1, w3, hv1, h⟩ := h
   refine st (v := s1.v) (want0 rfl) (x_builtin (args := #[made1.v, (Sl.mk (some p2) 1 1).v]) (by kernel_rfl) (fun _ => rfl) hv1) (q0 s1.v (wpL_nil (bl_n (th_n (rg (q0 (vi i1) (q0 (vi (IntKind.i64.wrap (i1 + 1))) (q0 (vi (IntKind.i64.wrap (i1 + 1))) (wpL_nil (th_n ?_))))))))))
   exact ⟨(s1, (IntKind.i64.wrap (i1 + 1)), w3), ⟨rfl, Has.mk (by kernel_rfl), h.1⟩, h.2⟩
 ·replace h := h.2 hc1
  refine wpE_exit (th_x (th_x (bl_eq (th_n (wpE_seq (rg (q0 made1.v (q0 made1.v (q0 (vi 0) (wpL_nil (th_n ?_)))))))))))
  refine wpE_ret (res2 (.inl rfl) Try.results57 (v := made1.v) (by kernel_rfl) (v' := (vi 0)) (by kernel_rfl) ?_)
  exact ⟨made1, 0, rfl, h⟩
def m_ref09_Eval (p1 : Option Addr) (given1 l1 : Sl) (w0 : World) (K : Int → Int → Int → World → Prop) : Prop :=
 Br (decide ((l1.len : Int) > 256))
  (K 0 6 0 w0)
  (Br (((l1.len : Int) : Int) == 0)
   (K 0 3 0 w0)
   (Calls Try.prog 57 #[(vp p1), given1.v, l1.v] w0 (fun e w1 => ∃ r1 : Sl, ∃ r2 : Int, e = .returned (.tuple #[r1.v, (vi r2)]) ∧ 
    Br (r2 != 0)
     (K 0 r2 (r1.len : Int) w1)
     (∃ a1 : Addr, At r1 (IntKind.i64.wrap ((r1.len : Int) - 1)) 1 a1 ∧
     ∃ v1 : Int, w1.cell? a1 = some (vi v1) ∧
     K v1 0 0 w1))))
theorem w_ref09_Eval (p1 : Option Addr) (given1 l1 : Sl) (w0 : World) (K : Int → Int → Int → World → Prop) (h : m_ref09_Eval p1 given1 l1 w0 K) :
  Calls Try.prog 55 #[(vp p1), given1.v, l1.v] w0 (fun e w' => ∃ r3 r4 r5 : Int, e = .returned (.tuple #[(vi r3), (vi r4), (vi r5)]) ∧ K r3 r4 r5 w') := by
 unfold m_ref09_Eval at h
 refine calls_of_wpE (args := [(vp p1), given1.v, l1.v]) Try.func55 rfl Try.ntmps55 (Nat.le_of_ble_eq_true rfl) (wpE_seq (rg (q0 (vi 0) (q0 (vi 0) (q0 (vi 0) (wpL_nil (th_n (wpE_seq (wpE_seq (rg (q0 l1.v ?_)))))))))))
 refine q0 (vi (l1.len : Int)) (q0 (vb (decide ((l1.len : Int) > 256))) (wpL_nil (th_n ?_)))
 refine wpE_cond (t := (decide ((l1.len : Int) > 256))) (by kernel_rfl) (fun hc1 => ?_) (fun hc1 => ?_)
 ·replace h := h.1 hc1
  refine wpE_seq (rg (q0 (vi 0) (q0 (vi 6) (q0 (vi 0) (wpL_nil (th_n (wpE_ret (th_r (res3 (.inl rfl) Try.results55 (v := (vi 0)) (by kernel_rfl) (v' := (vi 6)) (by kernel_rfl) (v'' := (vi 0)) (by kernel_rfl) ?_)))))))))
  exact ⟨0, 6, 0, rfl, h⟩
 ·replace h := h.2 hc1
  refine wpE_skip (th_n (wpE_seq (wpE_seq (rg (q0 l1.v (q0 (vi (l1.len : Int)) (q0 (vb (((l1.len : Int) : Int) == 0)) (wpL_nil (th_n ?_)))))))))
  refine wpE_cond (t := (((l1.len : Int) : Int) == 0)) (by kernel_rfl) (fun hc2 => ?_) (fun hc2 => ?_)
  ·replace h := h.1 hc2
   refine wpE_seq (rg (q0 (vi 0) (q0 (vi 3) (q0 (vi 0) (wpL_nil (th_n (wpE_ret (th_r (res3 (.inl rfl) Try.results55 (v := (vi 0)) (by kernel_rfl) (v' := (vi 3)) (by kernel_rfl) (v'' := (vi 0)) (by kernel_rfl) ?_)))))))))
   exact ⟨0, 3, 0, rfl, h⟩
  ·replace h := h.2 hc2
   refine wpE_skip (th_n (wpE_seq (rg (q0 (vp p1) (q0 given1.v (q0 l1.v ?_))))))
   refine st_call (want0 rfl) (xc Try.call57) (h.mono ?_)
   rintro e w1 ⟨r1, r2, rfl, h⟩
   refine ⟨_, rfl, ?_⟩
   refine q0 (.tuple #[r1.v, (vi r2)]) (q0 r1.v (q0 (vi r2) (q0 r1.v (q0 (vi r2) (wpL_nil (th_n (wpE_seq (wpE_seq (rg (q0 (vi r2) (q0 (vb (r2 != 0)) ?_)))))))))))
   refine wpL_nil (th_n ?_)
   refine wpE_cond (t := (r2 != 0)) (by kernel_rfl) (fun hc3 => ?_) (fun hc3 => ?_)
   ·replace h := h.1 hc3
    refine wpE_seq (rg (q0 (vi r2) (q0 r1.v (q0 (vi (r1.len : Int)) (q0 (vi 0) (q0 (vi r2) (q0 (vi (r1.len : Int)) (wpL_nil (th_n (wpE_ret (th_r ?_)))))))))))
    refine res3 (.inl rfl) Try.results55 (v := (vi 0)) (by kernel_rfl) (v' := (vi r2)) (by kernel_rfl) (v'' := (vi (r1.len : Int))) (by kernel_rfl) ?_
    exact ⟨0, r2, (r1.len : Int), rfl, h⟩
   ·replace h := h.2 hc3
    refine wpE_skip (th_n (wpE_seq (rg (q0 r1.v (q0 r1.v (q0 (vi (r1.len : Int)) (q0 (vi (IntKind.i64.wrap ((r1.len : Int) - 1))) ?_)))))))
    obtain ⟨a1, hv2, h⟩ := h
    refine q2 (vp (some a1)) (x_indexAddr (s := r1) (k := .i64) (i := (IntKind.i64.wrap ((r1.len : Int) - 1))) (by kernel_rfl) (by kernel_rfl) (Try.runUnderlying26 _) (Try.sizeOf41 _) hv2) ?_
    obtain ⟨v1, hv1, h⟩ := h
    refine q2 (vi v1) (xl (Try.isAgg41 _) hv1) (q0 (vi v1) (q0 (vi 0) (q0 (vi 0) (wpL_nil (th_n (wpE_ret (res3 (.inl rfl) Try.results55 (v := (vi v1)) (by kernel_rfl) (v' := (vi 0)) (by kernel_rfl) (v'' := (vi 0)) (by kernel_rfl) ?_)))))))
    exact ⟨v1, 0, 0, rfl, h⟩
theorem eqt_ref09_Same_neq_175 (a0 a1 : Int) (a2 a3 : Int) (a4 : ByteArray) (b0 b1 : Int) (b2 b3 : Int) (b4 : ByteArray) (w : World) : (Go.binOp .neq 175 (.agg #[(.int .i64 a0), (.int .i64 a1), (.int .i64 a2), (.int .u64 a3), (.string a4)]) (.agg #[(.int .i64 b0), (.int .i64 b1), (.int .i64 b2), (.int .u64 b3), (.string b4)])).run Try.prog w = .ok (.bool (!((a0 == b0) && ((a1 == b1) && ((a2 == b2) && ((a3 == b3) && (decide (a4 = b4)))))))) w := by
 simp [Go.binOp, Op.equal, Op.maxDepth, go_sem, streq, bne]
 repeat' split
 all_goals simp_all
def m_ref09_Same_l1 (a1 b1 : Sl) (i1 : Int) (w0 : World) (Hl1 : Nat → Prop) (wl1 : World) (Kc1 : Int → (Nat → Prop) → World → Prop) (K : Bool → World → Prop) : Prop :=
 Br (decide (i1 < (a1.len : Int)))
  (∃ a2 : Addr, At a1 i1 5 a2 ∧
  ∀ (w1 : World), Hst w0 Hl1 wl1 Hl1 w1 →
  ∃ aM aN : Int, ∃ aO aP : Int, ∃ aQ : ByteArray, Row w1 a2 [(vi aM), (vi aN), (vi aO), (vu aP), (vs aQ)] ∧
  ∃ a3 : Addr, At b1 i1 5 a3 ∧
  ∃ aY aZ : Int, ∃ bA bB : Int, ∃ bC : ByteArray, Row w1 a3 [(vi aY), (vi aZ), (vi bA), (vu bB), (vs bC)] ∧
  Br (!((aM == aY) && ((aN == aZ) && ((aO == bA) && ((aP == bB) && (decide (aQ = bC)))))))
   (K false w1)
   (Kc1 (IntKind.i64.wrap (i1 + 1)) Hl1 w1))
  (K true wl1)
def m_ref09_Same (a1 b1 : Sl) (w0 : World) (K : Bool → World → Prop) : Prop :=
 Br (((a1.len : Int) : Int) != (b1.len : Int))
  (K false w0)
  (∃ (I1 : Int → (Nat → Prop) → World → Prop) (mu1 : Int → World → Nat), I1 0 None w0 ∧
   ∀ (i1 : Int) (Hl1 : Nat → Prop) (wl1 : World), Hst w0 Hl1 wl1 Hl1 wl1 → I1 i1 Hl1 wl1 → m_ref09_Same_l1 a1 b1 i1 w0 Hl1 wl1 (fun y'0 H' w' => I1 y'0 H' w' ∧ mu1 y'0 w' < mu1 i1 wl1) K)
theorem w_ref09_Same (a1 b1 : Sl) (w0 : World) (K : Bool → World → Prop) (h : m_ref09_Same a1 b1 w0 K) :
  Calls Try.prog 60 #[a1.v, b1.v] w0 (fun e w' => ∃ r1 : Bool, e = .returned (vb r1) ∧ K r1 w') := by
 unfold m_ref09_Same at h
 refine calls_of_wpE (args := [a1.v, b1.v]) Try.func60 rfl Try.ntmps60 (Nat.le_of_ble_eq_true rfl) ?_
 have hs := Hst.start w0
 have hb := HB.nil None w0
 refine wpE_seq (rg (q0 (vb false) (wpL_nil (th_n (wpE_seq (wpE_seq (rg (q0 a1.v (q0 (vi (a1.len : Int)) (q0 b1.v (q0 (vi (b1.len : Int)) ?_)))))))))))
 refine q0 (vb (((a1.len : Int) : Int) != (b1.len : Int))) (wpL_nil (th_n ?_))
 refine wpE_cond (t := (((a1.len : Int) : Int) != (b1.len : Int))) (by kernel_rfl) (fun hc1 => ?_) (fun hc1 => ?_)
 ·replace h := h.1 hc1
  refine wpE_seq (rg (q0 (vb false) (wpL_nil (th_n (wpE_ret (th_r (res1 (.inl rfl) Try.results60 (v := (vb false)) (by kernel_rfl) ?_)))))))
  exact ⟨false, rfl, h⟩
 ·replace h := h.2 hc1
  refine wpE_skip (th_n (wpE_seq (wpE_seq (rg (q0 (vi 0) (wpL_nil (th_n (wpE_block ?_))))))))
  obtain ⟨I1, mu1, h0, hr⟩ := h
  refine wpE_loop (σ := Int × (Nat → Prop) × World) (fun s ρ w => w = s.2.2 ∧ Has ρ [(0, a1.v), (1, b1.v), (5, (vi s.1))] ∧ Hst w0 s.2.1 w s.2.1 w ∧ HB s.2.1 w [] ∧ I1 s.1 s.2.1 s.2.2) (fun s => mu1 s.1 s.2.2) (0, None, w0) ⟨rfl, Has.mk (by kernel_rfl), hs, hb, h0⟩ ?_
  clear hs hb
  rintro ⟨i1, Hl1, wl1⟩ ρ w ⟨hw, hH, hs, hb, hI⟩
  obtain rfl : wl1 = w := (show w = wl1 from hw).symm
  replace hH : Has ρ [(0, a1.v), (1, b1.v), (5, (vi i1))] := hH
  replace hs : Hst w0 Hl1 wl1 Hl1 wl1 := hs
  replace hb : HB Hl1 wl1 [] := hb
  have h := hr i1 Hl1 wl1 hs hI
  clear hr h0
  unfold m_ref09_Same_l1 at h
  refine wpE_has hH ?_
  clear hH hI
  refine wpE_seq (wpE_seq (rg (q0 (vi i1) (q0 a1.v (q0 (vi (a1.len : Int)) (q0 (vb (decide (i1 < (a1.len : Int)))) (wpL_nil (th_n ?_))))))))
  refine wpE_cond (t := (decide (i1 < (a1.len : Int)))) (by kernel_rfl) (fun hc2 => ?_) (fun hc2 => ?_)
  ·replace h := h.1 hc2
   refine wpE_skip (th_n (wpE_seq (wpE_block (wpE_seq (wpE_drawnQ (by kernel_rfl) (by kernel_rfl) (by kernel_rfl) (by kernel_rfl) ?_)))))
   intro w1 hw1
   replace hs : Hst w0 Hl1 wl1 Hl1 w1 := by rw [hw1]; exact hs.drew
   replace hb : HB Hl1 w1 [] := by rw [hw1]; exact hb.drew
   clear hw1
   refine qq 0 a1.v Kp0 (qq 1 (vi i1) Kp1 (qgo (k := 2) (by kernel_rfl) ?_))
   obtain ⟨a2, hv4, h⟩ := h
   refine sxQ (v := (vp (some a2))) Kp2 (want0 rfl) rfl (x_indexAddr (s := a1) (k := .i64) (i := i1) (by kernel_rfl) (by kernel_rfl) (Try.runUnderlying98 _) (Try.sizeOf175 _) hv4) (qgo (k := 3) (by kernel_rfl) ?_)
   replace h := h w1 hs
   replace hs := hs.here
   obtain ⟨aM, aN, aO, aP, aQ, hv3, h⟩ := h
   refine sxQ (v := (.agg #[(vi aM), (vi aN), (vi aO), (vu aP), (vs aQ)])) Kp3 (want0 rfl) rfl (x_loadA (a := a2) (vs := [(vi aM), (vi aN), (vi aO), (vu aP), (vs aQ)]) (by kernel_rfl) (Try.isAgg175 _) (Try.sizeOf175 _) rfl hv3) (qq 4 b1.v Kp4 (qq 5 (vi i1) Kp5 (qgo (k := 6) (by kernel_rfl) ?_)))
   obtain ⟨a3, hv2, h⟩ := h
   refine sxQ (v := (vp (some a3))) Kp6 (want0 rfl) rfl (x_indexAddr (s := b1) (k := .i64) (i := i1) (by kernel_rfl) (by kernel_rfl) (Try.runUnderlying98 _) (Try.sizeOf175 _) hv2) (qgo (k := 7) (by kernel_rfl) ?_)
   obtain ⟨aY, aZ, bA, bB, bC, hv1, h⟩ := h
   refine sxQ (v := (.agg #[(vi aY), (vi aZ), (vi bA), (vu bB), (vs bC)])) Kp7 (want0 rfl) rfl (x_loadA (a := a3) (vs := [(vi aY), (vi aZ), (vi bA), (vu bB), (vs bC)]) (by kernel_rfl) (Try.isAgg175 _) (Try.sizeOf175 _) rfl hv1) (qr 8 (vb (!((aM == aY) && ((aN == aZ) && ((aO == bA) && ((aP == bB) && (decide (aQ = bC)))))))) Kp8 (x_aggeq (by kernel_rfl) (by kernel_rfl) (by kernel_rfl) (eqt_ref09_Same_neq_175 aM aN aO aP aQ aY aZ bA bB bC _)) (wpX_nil (by kernel_rfl) (th_n ?_)))
   refine wpE_cond (t := (!((aM == aY) && ((aN == aZ) && ((aO == bA) && ((aP == bB) && (decide (aQ = bC)))))))) (by kernel_rfl) (fun hc3 => ?_) (fun hc3 => ?_)
   ·replace h := h.1 hc3
    refine wpE_seq (rg (q0 (vb false) (wpL_nil (th_n (wpE_ret (bl_r (th_r (th_r (bl_r (th_r (res1 (.inl rfl) Try.results60 (v := (vb false)) (by kernel_rfl) ?_)))))))))))
    exact ⟨false, rfl, h⟩
   ·replace h := h.2 hc3
    refine wpE_skip (bl_n (th_n (rg (q0 (vi i1) (q0 (vi (IntKind.i64.wrap (i1 + 1))) (q0 (vi (IntKind.i64.wrap (i1 + 1))) (wpL_nil (th_n ?_))))))))
    exact ⟨((IntKind.i64.wrap (i1 + 1)), Hl1, w1), ⟨rfl, Has.mk (by kernel_rfl), hs, hb, h.1⟩, h.2⟩
  ·replace h := h.2 hc2
   refine wpE_exit (th_x (th_x (bl_eq (th_n (wpE_seq (rg (q0 (vb true) (wpL_nil (th_n (wpE_ret (res1 (.inl rfl) Try.results60 (v := (vb true)) (by kernel_rfl) ?_)))))))))))
   exact ⟨true, rfl, h⟩
end Go.Proofs
end
section
open Go Go.SE
namespace Go.Proofs
set_option maxRecDepth 100000
set_option maxHeartbeats 4000000
attribute [local irreducible] wpL wpX opE wpE Calls
def m_law09_large (l1 : Sl) (w0 : World) (K : Bool → World → Prop) : Prop :=
 Br (decide ((l1.len : Int) > 300))
  (K true w0)
  (Calls Try.prog 71 #[(.agg #[(vi 0), (vi 0), (vi 0), (vu 0), (vs ⟨#[]⟩), l1.v]), (vi 6000)] w0 (fun e w1 => ∃ r1 : Int, e = .returned (vi r1) ∧ 
   K (decide (r1 > 6000)) w1))
theorem w_law09_large (l1 : Sl) (w0 : World) (K : Bool → World → Prop) (h : m_law09_large l1 w0 K) :
  Calls Try.prog 50 #[l1.v] w0 (fun e w' => ∃ r2 : Bool, e = .returned (vb r2) ∧ K r2 w') := by
 unfold m_law09_large at h
 refine calls_of_wpE (args := [l1.v]) Try.func50 rfl Try.ntmps50 (Nat.le_of_ble_eq_true rfl) (wpE_seq (rg (q0 (vb false) (wpL_nil (th_n (wpE_seq (rg (q0 l1.v (q0 (vi (l1.len : Int)) (q0 (vb (decide ((l1.len : Int) > 300))) (q0 (vb (decide ((l1.len : Int) > 300))) ?_)))))))))))
 rcases Bool.eq_false_or_eq_true (decide ((l1.len : Int) > 300)) with hg1 | hg1
 ·replace h := h.1 hg1
  refine sk (yD 6 hg1) (sk (yD 6 hg1) (sk (yD 6 hg1) (sk (yD 6 hg1) (q2 (vb true) (xT hg1) (q0 (vb true) (wpL_nil (th_n (wpE_ret (res1 (.inl rfl) Try.results50 (v := (vb true)) (by kernel_rfl) ?_)))))))))
  exact ⟨true, rfl, h⟩
 ·replace h := h.2 hg1
  refine q1 l1.v (want1 rfl (yD 6 hg1)) (q1 (.agg #[(vi 0), (vi 0), (vi 0), (vu 0), (vs ⟨#[]⟩), l1.v]) (want1 rfl (yD 6 hg1)) ?_)
  refine st_call (want1 rfl (yD 6 hg1)) (xc Try.call71) (h.mono ?_)
  rintro e w1 ⟨r1, rfl, h⟩
  refine ⟨_, rfl, ?_⟩
  refine q1 (vb (decide (r1 > 6000))) (want1 rfl (yD 6 hg1)) (q2 (vb (decide (r1 > 6000))) (xF hg1) (q0 (vb (decide (r1 > 6000))) (wpL_nil (th_n (wpE_ret (res1 (.inl rfl) Try.results50 (v := (vb (decide (r1 > 6000)))) (by kernel_rfl) ?_))))))
  exact ⟨(decide (r1 > 6000)), rfl, h⟩
def m_law09_long_l1 (l1 : Sl) (n1 i1 : Int) (wl1 : World) (Kc1 : Int → Int → World → Prop) (K : Bool → World → Prop) : Prop :=
 Br ((decide (i1 < (l1.len : Int))) && (decide (i1 ≤ 300)))
  (∃ a1 : Addr, At l1 i1 5 a1 ∧
  ∃ v1 : ByteArray, wl1.cell? (a1.add 4) = some (vs v1) ∧
  Kc1 (IntKind.i64.wrap (n1 + (v1.size : Int))) (IntKind.i64.wrap (i1 + 1)) wl1)
  (K ((decide ((l1.len : Int) > 300)) || (decide (n1 > 20000))) wl1)
def m_law09_long (l1 : Sl) (w0 : World) (K : Bool → World → Prop) : Prop :=
 ∃ (I1 : Int → Int → World → Prop) (mu1 : Int → Int → World → Nat), I1 0 0 w0 ∧
  ∀ (n1 i1 : Int) (wl1 : World), I1 n1 i1 wl1 → m_law09_long_l1 l1 n1 i1 wl1 (fun y'0 y'1 w' => I1 y'0 y'1 w' ∧ mu1 y'0 y'1 w' < mu1 n1 i1 wl1) K
theorem w_law09_long (l1 : Sl) (w0 : World) (K : Bool → World → Prop) (h : m_law09_long l1 w0 K) :
  Calls Try.prog 51 #[l1.v] w0 (fun e w' => ∃ r1 : Bool, e = .returned (vb r1) ∧ K r1 w') := by
 unfold m_law09_long at h
 refine calls_of_wpE (args := [l1.v]) Try.func51 rfl Try.ntmps51 (Nat.le_of_ble_eq_true rfl) (wpE_seq (rg (q0 (vb false) (wpL_nil (th_n (wpE_seq (rg (q0 (vi 0) (wpL_nil (th_n (wpE_seq ?_)))))))))))
 refine wpE_seq (rg (q0 (vi 0) (wpL_nil (th_n (wpE_block ?_)))))
 obtain ⟨I1, mu1, h0, hr⟩ := h
 refine wpE_loop (σ := Int × Int × World) (fun s ρ w => w = s.2.2 ∧ Has ρ [(0, l1.v), (3, (vi s.1)), (4, (vi s.2.1))] ∧ I1 s.1 s.2.1 s.2.2) (fun s => mu1 s.1 s.2.1 s.2.2) (0, 0, w0) ⟨rfl, Has.mk (by kernel_rfl), h0⟩ ?_
 rintro ⟨n1, i1, wl1⟩ ρ w ⟨hw, hH, hI⟩
 obtain rfl : wl1 = w := (show w = wl1 from hw).symm
 replace hH : Has ρ [(0, l1.v), (3, (vi n1)), (4, (vi i1))] := hH
 have h := hr n1 i1 wl1 hI
 clear hr h0
 unfold m_law09_long_l1 at h
 refine wpE_has hH ?_
 clear hH hI
 refine wpE_seq (wpE_seq ?_)
 refine wpE_via (fun ρ wJ => ∃ b1'0 : Bool, ((decide (i1 < (l1.len : Int))) = b1'0) ∧ wl1 = wJ ∧ Has ρ [(0, l1.v), (3, (vi n1)), (4, (vi i1)), (12, (vb (b1'0 && (decide (i1 ≤ 300)))))]) ?_ ?_
 ·skip
  refine rg (q0 (vi i1) (q0 l1.v (q0 (vi (l1.len : Int)) (q0 (vb (decide (i1 < (l1.len : Int)))) (q0 (vb (decide (i1 < (l1.len : Int)))) ?_)))))
  rcases Bool.eq_false_or_eq_true (decide (i1 < (l1.len : Int))) with hg2 | hg2
  ·skip
   refine q1 (vi i1) (want1 rfl (yD 9 hg2)) (q1 (vb (decide (i1 ≤ 300))) (want1 rfl (yD 9 hg2)) (q2 (vb (decide (i1 ≤ 300))) (xT hg2) (wpL_nil (th_n ?_))))
   exact ⟨true, hg2, rfl, Has.mk (by kernel_rfl)⟩
  ·skip
   refine sk (yD 9 hg2) (sk (yD 9 hg2) (q2 (vb false) (xF hg2) (wpL_nil (th_n ?_))))
   exact ⟨false, hg2, rfl, Has.mk (by kernel_rfl)⟩
 ·rintro ρ w1 ⟨b1'0, he0, hw, hH⟩
  subst he0
  subst hw
  refine norm_has hH ?_
  clear hH
  refine th_n ?_
  refine wpE_cond (t := ((decide (i1 < (l1.len : Int))) && (decide (i1 ≤ 300)))) (by kernel_rfl) (fun hc1 => ?_) (fun hc1 => ?_)
  ·replace h := h.1 hc1
   refine wpE_skip (th_n (wpE_seq (wpE_block (rg (q0 (vi n1) (q0 l1.v (q0 (vi i1) ?_)))))))
   obtain ⟨a1, hv2, h⟩ := h
   refine q2 (vp (some a1)) (x_indexAddr (s := l1) (k := .i64) (i := i1) (by kernel_rfl) (by kernel_rfl) (Try.runUnderlying98 _) (Try.sizeOf175 _) hv2) (q0 (vp (some (a1.add 4))) ?_)
   obtain ⟨v1, hv1, h⟩ := h
   refine q2 (vs v1) (xl (Try.isAgg9 _) hv1) (q0 (vi (v1.size : Int)) (q0 (vi (IntKind.i64.wrap (n1 + (v1.size : Int)))) (q0 (vi (IntKind.i64.wrap (n1 + (v1.size : Int)))) (wpL_nil (bl_n (th_n (rg (q0 (vi i1) (q0 (vi (IntKind.i64.wrap (i1 + 1))) (q0 (vi (IntKind.i64.wrap (i1 + 1))) (wpL_nil ?_)))))))))))
   refine th_n ?_
   exact ⟨((IntKind.i64.wrap (n1 + (v1.size : Int))), (IntKind.i64.wrap (i1 + 1)), wl1), ⟨rfl, Has.mk (by kernel_rfl), h.1⟩, h.2⟩
  ·replace h := h.2 hc1
   refine wpE_exit (th_x (th_x (bl_eq (th_n (wpE_seq ?_)))))
   refine wpE_via (fun ρ wJ => wl1 = wJ ∧ Has ρ [(2, (vb ((decide ((l1.len : Int) > 300)) || (decide (n1 > 20000)))))]) ?_ ?_
   ·skip
    refine rg (q0 l1.v (q0 (vi (l1.len : Int)) (q0 (vb (decide ((l1.len : Int) > 300))) (q0 (vb (decide ((l1.len : Int) > 300))) ?_))))
    refine wpL_join 3 (fun ρ wJ => ∃ b4'0 : Bool, ((decide ((l1.len : Int) > 300)) = b4'0) ∧ wl1 = wJ ∧ Has ρ [(29, (vb (b4'0 || (decide (n1 > 20000)))))]) ?_ ?_
    ·rintro ρ w4 ⟨b4'0, he0, hw, hH⟩
     subst he0
     subst hw
     refine wpL_has hH ?_
     clear hH
     refine q0 (vb ((decide ((l1.len : Int) > 300)) || (decide (n1 > 20000)))) (wpL_nil (th_n ?_))
     exact ⟨rfl, Has.mk (by kernel_rfl)⟩
    ·skip
     rcases Bool.eq_false_or_eq_true (decide ((l1.len : Int) > 300)) with hg6 | hg6
     ·skip
      refine sk (yD 26 hg6) (sk (yD 26 hg6) (q2 (vb true) (xT hg6) (wpL_nil ?_)))
      exact ⟨true, hg6, rfl, Has.mk (by kernel_rfl)⟩
     ·skip
      refine q1 (vi n1) (want1 rfl (yD 26 hg6)) (q1 (vb (decide (n1 > 20000))) (want1 rfl (yD 26 hg6)) (q2 (vb (decide (n1 > 20000))) (xF hg6) (wpL_nil ?_)))
      exact ⟨false, hg6, rfl, Has.mk (by kernel_rfl)⟩
   ·rintro ρ w3 ⟨hw, hH⟩
    subst hw
    refine norm_has hH ?_
    clear hH
    refine th_n (wpE_ret (res1 (.inl rfl) Try.results51 (v := (vb ((decide ((l1.len : Int) > 300)) || (decide (n1 > 20000))))) (by kernel_rfl) ?_))
    exact ⟨((decide ((l1.len : Int) > 300)) || (decide (n1 > 20000))), rfl, h⟩
def s_law09_num (e1 : Int) : Int :=
 e1
theorem pw_law09_num (e1 : Int) (w0 : World) :
  Calls Try.prog 58 #[(vi e1)] w0 (fun e w' => (e = .returned (vi e1)) ∧ Pure w0 w') := by
 refine calls_of_wpE (args := [(vi e1)]) Try.func58 rfl Try.ntmps58 (Nat.le_of_ble_eq_true rfl) (wpE_seq (rg (q0 (vi 0) (wpL_nil (th_n (wpE_seq (rg (q0 (vi e1) (q0 (vi e1) (wpL_nil (th_n ?_)))))))))))
 refine wpE_ret (res1 (.inl rfl) Try.results58 (v := (vi e1)) (by kernel_rfl) ?_)
 exact ⟨by kernel_rfl, Ext.refl _⟩
theorem p_law09_num (e1 : Int) (w0 : World) : Calls Try.prog 58 #[(.int .i64 e1)] w0 (fun e w' => e = .returned (.int .i64 (s_law09_num e1)) ∧ Pure w0 w') := pw_law09_num e1 w0
def m_law09_given_j4 (k1 : Int) (there2 : Bool) (H : Nat → Prop) (w : World) (Kc3 : Bool → Int → (Nat → Prop) → World → Prop) (_K : (Option Addr) → Bool → World → Prop) : Prop :=
 Kc3 there2 (IntKind.i64.wrap (k1 + 1)) H w
def m_law09_given_l3 (p1 : Addr) (i1 r4 r6 : Int) (there1 : Bool) (k1 : Int) (Hl2 : Nat → Prop) (wl2 : World) (Kc2 : Int → (Nat → Prop) → World → Prop) (Kc3 : Bool → Int → (Nat → Prop) → World → Prop) (K : (Option Addr) → Bool → World → Prop) : Prop :=
 ∃ v4 : Sl, wl2.cell? (p1.add 3) = some v4.v ∧
 Br (decide (k1 < (v4.len : Int)))
  (Br there1
   (m_law09_given_j4 k1 true Hl2 wl2 Kc3 K)
   (∃ v5 : Sl, wl2.cell? (p1.add 3) = some v5.v ∧
   ∃ a3 : Addr, At v5 k1 1 a3 ∧
   ∃ v6 : Int, wl2.cell? a3 = some (vi v6) ∧
   m_law09_given_j4 k1 (v6 == r6) Hl2 wl2 Kc3 K))
  (Br (!there1)
   (∃ v7 : Sl, wl2.cell? (p1.add 3) = some v7.v ∧
   ∀ (p2 : Addr) (w14 : World), New wl2 (.cells #[(vi r6)] 41) p2 w14 →
   ∃ s1 : Sl, ∃ w15 : World, (Builtin.append_ #[26, 26] 26 #[v7.v, (Sl.mk (some p2) 1 1).v]).run Try.prog w14 = .ok s1.v w15 ∧
   Kept Hl2 w14 w15 ∧
   CanW w15 (p1.add 3) ∧ ¬ Hl2 (p1.add 3).block ∧ ∀ w16 : World, w16 = w15.setCell (p1.add 3) s1.v →
   ∃ v8 : Option Addr, w16.cell? (p1.add 1) = some (vp v8) ∧
   Calls Try.prog 37 #[(vp v8), (vi r4)] w16 (fun e w17 => ∃ r8 : Int, e = .returned (vi r8) ∧ 
    Kept Hl2 w16 w17 ∧
    Kc2 (IntKind.i64.wrap (i1 + 1)) Hl2 w17))
   (∃ v9 : Option Addr, wl2.cell? (p1.add 1) = some (vp v9) ∧
   Calls Try.prog 37 #[(vp v9), (vi r4)] wl2 (fun e w18 => ∃ r9 : Int, e = .returned (vi r9) ∧ 
    Kept Hl2 wl2 w18 ∧
    Kc2 (IntKind.i64.wrap (i1 + 1)) Hl2 w18)))
def m_law09_given_l2 (l1 : Sl) (p1 : Addr) (i1 : Int) (w0 : World) (Hl1 : Nat → Prop) (wl1 : World) (Kc2 : Int → (Nat → Prop) → World → Prop) (K : (Option Addr) → Bool → World → Prop) : Prop :=
 Br (decide (i1 < (l1.len : Int)))
  (∃ C1 : World → Prop, C1 wl1.drew ∧ ∀ w6, w6 = wl1.drew →
  ∃ v2 : Option Addr, (∀ w', C1 w' → w'.cell? p1 = some (vp v2)) ∧
  ∃ a1 : Addr, At l1 i1 6 a1 ∧
  ∃ aI aJ : Int, ∃ aK aL : Int, ∃ aM : ByteArray, ∃ aN : Sl, (∀ w', C1 w' → Row w' a1 [(vi aI), (vi aJ), (vi aK), (vu aL), (vs aM), aN.v]) ∧
  Calls Try.prog 76 #[(.agg #[(vi aI), (vi aJ), (vi aK), (vu aL), (vs aM), aN.v])] w6 (fun e w7 => ∃ aA aB : Int, ∃ aC aD : Int, ∃ aE : ByteArray, ∃ aH : Sl, e = .returned (.agg #[(vi aA), (vi aB), (vi aC), (vu aD), (vs aE), aH.v]) ∧ C1 w7 ∧ 
   Kept Hl1 w6 w7 ∧
   Calls Try.prog 73 #[(vp v2), (.agg #[(vi aA), (vi aB), (vi aC), (vu aD), (vs aE), aH.v])] w7 (fun e w8 => ∃ r4 r5 : Int, e = .returned (.tuple #[(vi r4), (vi r5)]) ∧ C1 w8 ∧ 
    Kept Hl1 w7 w8 ∧
    ∃ C2 : World → Prop, C2 w8.drew ∧ ∀ w9, w9 = w8.drew →
    ∃ v3 : Option Addr, (∀ w', C2 w' → w'.cell? (p1.add 2) = some (vp v3)) ∧
    ∃ a2 : Addr, At l1 i1 6 a2 ∧
    ∃ aO aP : Int, ∃ aQ aR : Int, ∃ aS : ByteArray, ∃ aT : Sl, (∀ w', C2 w' → Row w' a2 [(vi aO), (vi aP), (vi aQ), (vu aR), (vs aS), aT.v]) ∧
    Calls Try.prog 77 #[(vp v3), (.agg #[(vi aO), (vi aP), (vi aQ), (vu aR), (vs aS), aT.v])] w9 (fun e w10 => ∃ r6 r7 : Int, e = .returned (.tuple #[(vi r6), (vi r7)]) ∧ C2 w10 ∧ 
     Kept Hl1 w9 w10 ∧
     Br ((r4 != r6) || (r5 != r7))
      (∀ (H1 : Nat → Prop) (w12 : World), Hst w0 Hl1 w10 H1 w12 →
      K none false w12)
      (Br (r7 != 0)
       (∀ (H1 : Nat → Prop) (w12 : World), Hst w0 Hl1 w10 H1 w12 →
       Kc2 (IntKind.i64.wrap (i1 + 1)) H1 w12)
       (∀ (H1 : Nat → Prop) (w12 : World), Hst w0 Hl1 w10 H1 w12 →
       ∃ (I2 : Bool → Int → (Nat → Prop) → World → Prop) (mu2 : Bool → Int → World → Nat), I2 false 0 H1 w12 ∧
        ∀ (there1 : Bool) (k1 : Int) (Hl2 : Nat → Prop) (wl2 : World), Hst w0 Hl2 wl2 Hl2 wl2 → I2 there1 k1 Hl2 wl2 → m_law09_given_l3 p1 i1 r4 r6 there1 k1 Hl2 wl2 Kc2 (fun y'0 y'1 H' w' => I2 y'0 y'1 H' w' ∧ mu2 y'0 y'1 w' < mu2 there1 k1 wl2) K))))))
  (K (some p1) true wl1)
def m_law09_given_j1 (l1 : Sl) (p1 : Addr) (x1 : Bool) (w0 : World) (H : Nat → Prop) (w : World) (K : (Option Addr) → Bool → World → Prop) : Prop :=
 Br x1
  (K none false w)
  (∃ (I1 : Int → (Nat → Prop) → World → Prop) (mu1 : Int → World → Nat), I1 0 H w ∧
   ∀ (i1 : Int) (Hl1 : Nat → Prop) (wl1 : World), Hst w0 Hl1 wl1 Hl1 wl1 → I1 i1 Hl1 wl1 → m_law09_given_l2 l1 p1 i1 w0 Hl1 wl1 (fun y'0 H' w' => I1 y'0 H' w' ∧ mu1 y'0 w' < mu1 i1 wl1) K)
def m_law09_given (l1 : Sl) (w0 : World) (K : (Option Addr) → Bool → World → Prop) : Prop :=
 Calls Try.prog 72 #[] w0 (fun e w1 => ∃ r1 : Option Addr, e = .returned (vp r1) ∧ 
  Kept None w0 w1 ∧
  Calls Try.prog 75 #[] w1 (fun e w2 => ∃ r2 : Option Addr, e = .returned (vp r2) ∧ 
   Kept None w1 w2 ∧
   ∀ (p1 : Addr) (w3 : World), New w2 (.cells #[(vp r1), (vp none), (vp r2), Sl.nil.v] 106) p1 w3 →
   ∃ v1 : Option Addr, w3.cell? p1 = some (vp v1) ∧
   Calls Try.prog 36 #[(vp v1)] w3 (fun e w4 => ∃ r3 : Option Addr, e = .returned (vp r3) ∧ 
    Kept None w3 w4 ∧
    CanW w4 (p1.add 1) ∧ ¬ None (p1.add 1).block ∧ ∀ w5 : World, w5 = w4.setCell (p1.add 1) (vp r3) →
    ∃ v10 : Option Addr, w5.cell? p1 = some (vp v10) ∧
    Br (Option.isNone v10)
     (m_law09_given_j1 l1 p1 true w0 None w5 K)
     (∃ v11 : Option Addr, w5.cell? (p1.add 1) = some (vp v11) ∧
     m_law09_given_j1 l1 p1 (Option.isNone v11) w0 None w5 K))))
theorem w_law09_given (l1 : Sl) (w0 : World) (K : (Option Addr) → Bool → World → Prop) (h : m_law09_given l1 w0 K) :
  Calls Try.prog 53 #[l1.v] w0 (fun e w' => ∃ r10 : Option Addr, ∃ r11 : Bool, e = .returned (.tuple #[(vp r10), (vb r11)]) ∧ K r10 r11 w') := by
 unfold m_law09_given at h
 refine calls_of_wpE (args := [l1.v]) Try.func53 rfl Try.ntmps53 (Nat.le_of_ble_eq_true rfl) ?_
 have hs := Hst.start w0
 have hb := HB.nil None w0
 refine wpE_seq (rg (q0 (vp none) (q0 (vb false) (wpL_nil (th_n (wpE_seq (rg ?_)))))))
 refine st_call (want0 rfl) (xc Try.call72) (h.mono ?_)
 rintro e w1 ⟨r1, rfl, hk, h⟩
 refine ⟨_, rfl, ?_⟩
 obtain ⟨hs, hb⟩ := hk.hh hs hb
 refine st_call (want0 rfl) (xc Try.call75) (h.mono ?_)
 rintro e w2 ⟨r2, rfl, hk, h⟩
 refine ⟨_, rfl, ?_⟩
 obtain ⟨hs, hb⟩ := hk.hh hs hb
 refine q0 (.agg #[(vp r1), (vp none), (vp r2), Sl.nil.v]) (sn (O := (.cells #[(vp r1), (vp none), (vp r2), Sl.nil.v] 106)) xb ?_)
 intro p1 w3 hn4
 replace h := h p1 w3 hn4
 replace hs := hs.again (Ext.new (F := None) hn4).keptP
 replace hb := hb.kept (Ext.new (F := None) hn4).keptP
 refine q0 (vp (some p1)) (wpL_nil (th_n (wpE_seq (rg (q0 (vp (some p1)) (q0 (vp (some p1)) (q0 (vp (some p1)) (q0 (vp (some p1)) ?_))))))))
 obtain ⟨v1, hv17, h⟩ := h
 refine q2 (vp v1) (xl (Try.isAgg25 _) hv17) ?_
 refine st_call (want0 rfl) (xc Try.call36) (h.mono ?_)
 rintro e w4 ⟨r3, rfl, hk, h⟩
 refine ⟨_, rfl, ?_⟩
 obtain ⟨hs, hb⟩ := hk.hh hs hb
 refine q0 (vp (some p1)) (q0 (vp (some (p1.add 1))) ?_)
 obtain ⟨hp1, hnh, h⟩ := h
 refine st_set (want0 rfl) (x_store (a := (p1.add 1)) (v := (vp r3)) (by kernel_rfl) (by kernel_rfl) rfl (Try.sizeOf62 _) hp1) ?_
 intro w5 hn1
 replace h := h w5 hn1
 have hk : Kept None w4 w5 := by rw [hn1]; exact Kept.setCell hnh
 replace hs := hs.again hk
 replace hb := hb.kept hk
 clear hk hnh
 refine wpL_nil (th_n (wpE_seq (wpE_seq ?_)))
 refine wpE_joinT (fun ρ w => ∃ x1 : Bool, ∃ H : Nat → Prop, Has ρ [(0, l1.v), (4, (vp (some p1))), (35, (vb x1))] ∧ Hst w0 H w H w ∧ HB H w [] ∧ m_law09_given_j1 l1 p1 x1 w0 H w K) ?_ ?_
 ·clear h hs hb
  rintro ρ w ⟨x1, H, hH, hs, hb, h⟩
  unfold m_law09_given_j1 at h
  refine wpE_has hH ?_
  clear hH
  refine wpE_cond (t := x1) (by kernel_rfl) (fun hc1 => ?_) (fun hc1 => ?_)
  ·replace h := h.1 hc1
   refine wpE_seq (rg (q0 (vp none) (q0 (vb false) (wpL_nil (th_n (wpE_ret (th_r (res2 (.inl rfl) Try.results53 (v := (vp none)) (by kernel_rfl) (v' := (vb false)) (by kernel_rfl) ?_))))))))
   exact ⟨none, false, rfl, h⟩
  ·replace h := h.2 hc1
   refine wpE_skip (th_n (wpE_seq (wpE_seq (rg (q0 (vi 0) (wpL_nil (th_n (wpE_block ?_))))))))
   obtain ⟨I1, mu1, h0, hr⟩ := h
   refine wpE_loop (σ := Int × (Nat → Prop) × World) (fun s ρ w => w = s.2.2 ∧ Has ρ [(0, l1.v), (4, (vp (some p1))), (5, (vi s.1))] ∧ Hst w0 s.2.1 w s.2.1 w ∧ HB s.2.1 w [] ∧ I1 s.1 s.2.1 s.2.2) (fun s => mu1 s.1 s.2.2) (0, H, w) ⟨rfl, Has.mk (by kernel_rfl), hs, hb, h0⟩ ?_
   clear hs hb
   rintro ⟨i1, Hl1, wl1⟩ ρ w ⟨hw, hH, hs, hb, hI⟩
   obtain rfl : wl1 = w := (show w = wl1 from hw).symm
   replace hH : Has ρ [(0, l1.v), (4, (vp (some p1))), (5, (vi i1))] := hH
   replace hs : Hst w0 Hl1 wl1 Hl1 wl1 := hs
   replace hb : HB Hl1 wl1 [] := hb
   have h := hr i1 Hl1 wl1 hs hI
   clear hr h0
   unfold m_law09_given_l2 at h
   refine wpE_has hH ?_
   clear hH hI
   refine wpE_seq (wpE_seq (rg (q0 (vi i1) (q0 l1.v (q0 (vi (l1.len : Int)) (q0 (vb (decide (i1 < (l1.len : Int)))) (wpL_nil (th_n ?_))))))))
   refine wpE_cond (t := (decide (i1 < (l1.len : Int)))) (by kernel_rfl) (fun hc2 => ?_) (fun hc2 => ?_)
   ·replace h := h.1 hc2
    refine wpE_skip (th_n (wpE_seq (wpE_block (wpE_seq ?_))))
    obtain ⟨C1, hC, h⟩ := h
    refine wpE_drawnC C1 [8, 9] [] (by kernel_rfl) (by kernel_rfl) (by kernel_rfl) (by kernel_rfl) hC ?_
    clear hC
    intro w6 hw6
    replace h := h w6 hw6
    replace hs : Hst w0 Hl1 wl1 Hl1 w6 := by rw [hw6]; exact hs.drew
    replace hb : HB Hl1 w6 [] := by rw [hw6]; exact hb.drew
    replace hs := hs.here
    refine qx 0 (vp (some p1)) Kp0 (qx 1 (vp (some p1)) Kp1 (qx 2 (vp (some p1)) Kp2 (qgo (k := 3) (by kernel_rfl) ?_)))
    obtain ⟨v2, hv14, h⟩ := h
    refine sx (v := (vp v2)) Kp3 (want0 rfl) (by kernel_rfl) (fun w' hw' => (xl (Try.isAgg25 _) (hv14 w' hw'))) (qx 4 l1.v Kp4 (qx 5 (vi i1) Kp5 (qgo (k := 6) (by kernel_rfl) ?_)))
    obtain ⟨a1, hv13, h⟩ := h
    refine sx (v := (vp (some a1))) Kp6 (want0 rfl) (by kernel_rfl) (fun w' hw' => (x_indexAddr (s := l1) (k := .i64) (i := i1) (by kernel_rfl) (by kernel_rfl) (Try.runUnderlying22 _) (Try.sizeOf116 _) hv13)) (qgo (k := 7) (by kernel_rfl) ?_)
    obtain ⟨aI, aJ, aK, aL, aM, aN, hv12, h⟩ := h
    refine sx (v := (.agg #[(vi aI), (vi aJ), (vi aK), (vu aL), (vs aM), aN.v])) Kp7 (want0 rfl) (by kernel_rfl) (fun w' hw' => (x_loadA (a := a1) (vs := [(vi aI), (vi aJ), (vi aK), (vu aL), (vs aM), aN.v]) (by kernel_rfl) (Try.isAgg116 _) (Try.sizeOf116 _) rfl (hv12 w' hw'))) (lgo (k := 8) (by kernel_rfl) ?_)
    refine sl_call Kp8 (want0 rfl) (by kernel_rfl) (xc Try.call76) (h.mono ?_)
    rintro e w7 ⟨aA, aB, aC, aD, aE, aH, rfl, hC, hk, h⟩
    refine ⟨_, rfl, .inr hC, ?_⟩
    obtain ⟨hs, hb⟩ := hk.hh hs hb
    refine lgo (k := 9) (by kernel_rfl) ?_
    refine sl_call Kp9 (want0 rfl) (by kernel_rfl) (xc Try.call73) (h.mono ?_)
    rintro e w8 ⟨r4, r5, rfl, hC, hk, h⟩
    refine ⟨_, rfl, .inr hC, ?_⟩
    obtain ⟨hs, hb⟩ := hk.hh hs hb
    refine qx 10 (.tuple #[(vi r4), (vi r5)]) (pickA (S8 (pickS (pickS pickZ)))) (qx 11 (vi r4) (pickA (S8 (pickS (pickS (pickS pickZ))))) (qx 12 (vi r5) (pickA (S8 (S4 pickZ))) (qx 13 (vi r4) (pickA (S8 (S4 (pickS pickZ)))) (qx 14 (vi r5) (pickA (S8 (S4 (pickS (pickS pickZ))))) (wpX_nil (by kernel_rfl) (th_n (wpE_seq ?_)))))))
    obtain ⟨C2, hC, h⟩ := h
    refine wpE_drawnC C2 [8] [] (by kernel_rfl) (by kernel_rfl) (by kernel_rfl) (by kernel_rfl) hC ?_
    clear hC
    intro w9 hw9
    replace h := h w9 hw9
    replace hs : Hst w0 Hl1 w8 Hl1 w9 := by rw [hw9]; exact hs.drew
    replace hb : HB Hl1 w9 [] := by rw [hw9]; exact hb.drew
    replace hs := hs.here
    refine qx 0 (vp (some p1)) Kp0 (qx 1 (vp (some p1)) Kp1 (qx 2 (vp (some (p1.add 2))) Kp2 (qgo (k := 3) (by kernel_rfl) ?_)))
    obtain ⟨v3, hv11, h⟩ := h
    refine sx (v := (vp v3)) Kp3 (want0 rfl) (by kernel_rfl) (fun w' hw' => (xl (Try.isAgg59 _) (hv11 w' hw'))) (qx 4 l1.v Kp4 (qx 5 (vi i1) Kp5 (qgo (k := 6) (by kernel_rfl) ?_)))
    obtain ⟨a2, hv10, h⟩ := h
    refine sx (v := (vp (some a2))) Kp6 (want0 rfl) (by kernel_rfl) (fun w' hw' => (x_indexAddr (s := l1) (k := .i64) (i := i1) (by kernel_rfl) (by kernel_rfl) (Try.runUnderlying22 _) (Try.sizeOf116 _) hv10)) (qgo (k := 7) (by kernel_rfl) ?_)
    obtain ⟨aO, aP, aQ, aR, aS, aT, hv9, h⟩ := h
    refine sx (v := (.agg #[(vi aO), (vi aP), (vi aQ), (vu aR), (vs aS), aT.v])) Kp7 (want0 rfl) (by kernel_rfl) (fun w' hw' => (x_loadA (a := a2) (vs := [(vi aO), (vi aP), (vi aQ), (vu aR), (vs aS), aT.v]) (by kernel_rfl) (Try.isAgg116 _) (Try.sizeOf116 _) rfl (hv9 w' hw'))) (lgo (k := 8) (by kernel_rfl) ?_)
    refine sl_call Kp8 (want0 rfl) (by kernel_rfl) (xc Try.call77) (h.mono ?_)
    rintro e w10 ⟨r6, r7, rfl, hC, hk, h⟩
    refine ⟨_, rfl, .inr hC, ?_⟩
    obtain ⟨hs, hb⟩ := hk.hh hs hb
    refine qx 9 (.tuple #[(vi r6), (vi r7)]) Kp9 (qx 10 (vi r6) (pickA (S8 (pickS (pickS pickZ)))) (qx 11 (vi r7) (pickA (S8 (pickS (pickS (pickS pickZ))))) (qx 12 (vi r6) (pickA (S8 (S4 pickZ))) (qx 13 (vi r7) (pickA (S8 (S4 (pickS pickZ)))) (wpX_nil (by kernel_rfl) (th_n (wpE_seq (wpE_seq ?_))))))))
    refine wpE_via (fun ρ wJ => ∃ b1'0 : Bool, ∃ HJ : Nat → Prop, ((r4 != r6) = b1'0) ∧ Hst w0 Hl1 w10 HJ wJ ∧ HB HJ wJ [] ∧ Has ρ [(0, l1.v), (4, (vp (some p1))), (5, (vi i1)), (6, (vi r4)), (8, (vi r6)), (9, (vi r7)), (75, (vb (b1'0 || (r5 != r7))))]) ?_ ?_
    ·skip
     refine rg (q0 (vi r4) (q0 (vi r6) (q0 (vb (r4 != r6)) (q0 (vb (r4 != r6)) ?_))))
     rcases Bool.eq_false_or_eq_true (r4 != r6) with hg2 | hg2
     ·skip
      refine sk (yD 70 hg2) (sk (yD 70 hg2) (sk (yD 70 hg2) (sk (yD 70 hg2) (q2 (vb true) (xT hg2) (wpL_nil (th_n ?_))))))
      exact ⟨true, _, hg2, hs, hb, Has.mk (by kernel_rfl)⟩
     ·skip
      refine q1 (vi r5) (want1 rfl (yD 70 hg2)) ?_
      refine st_call (want1 rfl (yD 70 hg2)) (xc Try.call58) ((p_law09_num r5 w10).mono ?_)
      rintro e w13 ⟨he, hE⟩
      refine ⟨(vi r5), he.trans (by kernel_rfl), ?_⟩
      replace hs := hs.pure hE
      replace hb := hb.pure hE
      clear hE he
      refine q1 (vi r7) (want1 rfl (yD 70 hg2)) (q1 (vb (r5 != r7)) (want1 rfl (yD 70 hg2)) (q2 (vb (r5 != r7)) (xF hg2) (wpL_nil (th_n ?_))))
      exact ⟨false, _, hg2, hs, hb, Has.mk (by kernel_rfl)⟩
    ·clear hs hb
     rintro ρ w12 ⟨b1'0, H1, he0, hs, hb, hH⟩
     subst he0
     refine norm_has hH ?_
     clear hH
     refine th_n ?_
     refine wpE_cond (t := ((r4 != r6) || (r5 != r7))) (by kernel_rfl) (fun hc3 => ?_) (fun hc3 => ?_)
     ·replace h := h.1 hc3
      refine wpE_seq (rg (q0 (vp none) (q0 (vb false) (wpL_nil (th_n (wpE_ret (th_r (bl_r (th_r (th_r (bl_r ?_)))))))))))
      refine th_r ?_
      replace h := h H1 w12 hs
      replace hs := hs.here
      refine res2 (.inl rfl) Try.results53 (v := (vp none)) (by kernel_rfl) (v' := (vb false)) (by kernel_rfl) ?_
      exact ⟨none, false, rfl, h⟩
     ·replace h := h.2 hc3
      refine wpE_skip (th_n (wpE_seq (wpE_seq (rg (q0 (vi r7) (q0 (vb (r7 != 0)) (wpL_nil (th_n ?_))))))))
      refine wpE_cond (t := (r7 != 0)) (by kernel_rfl) (fun hc4 => ?_) (fun hc4 => ?_)
      ·replace h := h.1 hc4
       refine wpE_exit (th_x (bl_eq (th_n (rg (q0 (vi i1) (q0 (vi (IntKind.i64.wrap (i1 + 1))) (q0 (vi (IntKind.i64.wrap (i1 + 1))) (wpL_nil ?_))))))))
       replace h := h H1 w12 hs
       replace hs := hs.here
       refine th_n ?_
       exact ⟨((IntKind.i64.wrap (i1 + 1)), H1, w12), ⟨rfl, Has.mk (by kernel_rfl), hs, hb, h.1⟩, h.2⟩
      ·replace h := h.2 hc4
       refine wpE_skip (th_n (wpE_seq (rg (q0 (vb false) (wpL_nil (th_n (wpE_seq (wpE_seq (rg (q0 (vi 0) (wpL_nil ?_)))))))))))
       refine th_n (wpE_block ?_)
       replace h := h H1 w12 hs
       replace hs := hs.here
       obtain ⟨I2, mu2, h0, hr⟩ := h
       refine wpE_loop (σ := Bool × Int × (Nat → Prop) × World) (fun s ρ w => w = s.2.2.2 ∧ Has ρ [(0, l1.v), (4, (vp (some p1))), (5, (vi i1)), (6, (vi r4)), (8, (vi r6)), (10, (vb s.1)), (11, (vi s.2.1))] ∧ Hst w0 s.2.2.1 w s.2.2.1 w ∧ HB s.2.2.1 w [] ∧ I2 s.1 s.2.1 s.2.2.1 s.2.2.2) (fun s => mu2 s.1 s.2.1 s.2.2.2) (false, 0, H1, w12) ⟨rfl, Has.mk (by kernel_rfl), hs, hb, h0⟩ ?_
       clear hs hb
       rintro ⟨there1, k1, Hl2, wl2⟩ ρ w ⟨hw, hH, hs, hb, hI⟩
       obtain rfl : wl2 = w := (show w = wl2 from hw).symm
       replace hH : Has ρ [(0, l1.v), (4, (vp (some p1))), (5, (vi i1)), (6, (vi r4)), (8, (vi r6)), (10, (vb there1)), (11, (vi k1))] := hH
       replace hs : Hst w0 Hl2 wl2 Hl2 wl2 := hs
       replace hb : HB Hl2 wl2 [] := hb
       have h := hr there1 k1 Hl2 wl2 hs hI
       clear hr h0
       unfold m_law09_given_l3 at h
       refine wpE_has hH ?_
       clear hH hI
       refine wpE_seq (wpE_seq (rg (q0 (vi k1) (q0 (vp (some p1)) (q0 (vp (some p1)) (q0 (vp (some (p1.add 3))) ?_))))))
       obtain ⟨v4, hv8, h⟩ := h
       refine q2 v4.v (xl (Try.isAgg26 _) hv8) (q0 (vi (v4.len : Int)) (q0 (vb (decide (k1 < (v4.len : Int)))) (wpL_nil (th_n ?_))))
       refine wpE_cond (t := (decide (k1 < (v4.len : Int)))) (by kernel_rfl) (fun hc5 => ?_) (fun hc5 => ?_)
       ·replace h := h.1 hc5
        refine wpE_skip (th_n (wpE_seq ?_))
        refine wpE_joinT (fun ρ w => ∃ there2 : Bool, ∃ H : Nat → Prop, Has ρ [(0, l1.v), (4, (vp (some p1))), (5, (vi i1)), (6, (vi r4)), (8, (vi r6)), (10, (vb there2)), (11, (vi k1))] ∧ Hst w0 H w H w ∧ HB H w [] ∧ m_law09_given_j4 k1 there2 H w (fun y'0 y'1 H' w' => I2 y'0 y'1 H' w' ∧ mu2 y'0 y'1 w' < mu2 there1 k1 wl2) K) ?_ ?_
        ·clear h hs hb
         rintro ρ w ⟨there2, H, hH, hs, hb, h⟩
         unfold m_law09_given_j4 at h
         refine wpE_has hH ?_
         clear hH
         refine rg (q0 (vi k1) (q0 (vi (IntKind.i64.wrap (k1 + 1))) (q0 (vi (IntKind.i64.wrap (k1 + 1))) (wpL_nil (th_n ?_)))))
         exact ⟨(there2, (IntKind.i64.wrap (k1 + 1)), H, w), ⟨rfl, Has.mk (by kernel_rfl), hs, hb, h.1⟩, h.2⟩
        ·skip
         refine wpE_block (rg (q0 (vb there1) (q0 (vb there1) ?_)))
         rcases Bool.eq_false_or_eq_true there1 with hg3 | hg3
         ·replace h := h.1 hg3
          refine sk (yD 88 hg3) (sk (yD 88 hg3) (sk (yD 88 hg3) (sk (yD 88 hg3) (sk (yD 88 hg3) (sk (yD 88 hg3) (sk (yD 88 hg3) (sk (yD 88 hg3) (sk (yD 88 hg3) (q2 (vb true) (xT hg3) (q0 (vb true) (wpL_nil ?_)))))))))))
          refine bl_n (th_n ?_)
          exact ⟨true, Hl2, Has.mk (by kernel_rfl), hs, hb, h⟩
         ·replace h := h.2 hg3
          refine q1 (vp (some p1)) (want1 rfl (yD 88 hg3)) (q1 (vp (some p1)) (want1 rfl (yD 88 hg3)) (q1 (vp (some (p1.add 3))) (want1 rfl (yD 88 hg3)) ?_))
          obtain ⟨v5, hv3, h⟩ := h
          refine stp (v := v5.v) (want1 rfl (yD 88 hg3)) (xl (Try.isAgg26 _) hv3) (q1 (vi k1) (want1 rfl (yD 88 hg3)) ?_)
          obtain ⟨a3, hv2, h⟩ := h
          refine stp (v := (vp (some a3))) (want1 rfl (yD 88 hg3)) (x_indexAddr (s := v5) (k := .i64) (i := k1) (by kernel_rfl) (by kernel_rfl) (Try.runUnderlying26 _) (Try.sizeOf41 _) hv2) ?_
          obtain ⟨v6, hv1, h⟩ := h
          refine stp (v := (vi v6)) (want1 rfl (yD 88 hg3)) (xl (Try.isAgg41 _) hv1) (q1 (vi r6) (want1 rfl (yD 88 hg3)) (q1 (vb (v6 == r6)) (want1 rfl (yD 88 hg3)) (q2 (vb (v6 == r6)) (xF hg3) (q0 (vb (v6 == r6)) (wpL_nil (bl_n (th_n ?_)))))))
          exact ⟨(v6 == r6), Hl2, Has.mk (by kernel_rfl), hs, hb, h⟩
       ·replace h := h.2 hc5
        refine wpE_exit (th_x (th_x (bl_eq (th_n (wpE_seq (wpE_seq (rg (q0 (vb there1) (q0 (vb (!there1)) (wpL_nil (th_n ?_)))))))))))
        refine wpE_cond (t := (!there1)) (by kernel_rfl) (fun hc6 => ?_) (fun hc6 => ?_)
        ·replace h := h.1 hc6
         refine rg (q0 (vp (some p1)) (q0 (vp (some p1)) (q0 (vp (some p1)) (q0 (vp (some (p1.add 3))) ?_))))
         obtain ⟨v7, hv6, h⟩ := h
         refine q2 v7.v (xl (Try.isAgg26 _) hv6) (q0 (vi r6) (st_new (O := (.cells #[(vi r6)] 41)) (fun p => (Sl.mk (some p) 1 1).v) (want0 rfl) (x_buildSlice (vs := #[(0, (vi r6))]) (by kernel_rfl) (by kernel_rfl)) ?_))
         intro p2 w14 hn3
         replace h := h p2 w14 hn3
         replace hs := hs.again (Ext.new (F := None) hn3).keptP
         replace hb := hb.kept (Ext.new (F := None) hn3).keptP
         obtain ⟨s1, w15, hv5, hk, h⟩ := h
         refine st (v := s1.v) (want0 rfl) (x_builtin (args := #[v7.v, (Sl.mk (some p2) 1 1).v]) (by kernel_rfl) (fun _ => rfl) hv5) ?_
         obtain ⟨hs, hb⟩ := hk.hh hs hb
         refine q0 (vp (some p1)) (q0 (vp (some (p1.add 3))) ?_)
         obtain ⟨hp2, hnh, h⟩ := h
         refine st_set (want0 rfl) (x_store (a := (p1.add 3)) (v := s1.v) (by kernel_rfl) (by kernel_rfl) rfl (Try.sizeOf26 _) hp2) ?_
         intro w16 hn2
         replace h := h w16 hn2
         have hk : Kept Hl2 w15 w16 := by rw [hn2]; exact Kept.setCell hnh
         replace hs := hs.again hk
         replace hb := hb.kept hk
         clear hk hnh
         refine wpL_nil (th_n (rg (q0 (vp (some p1)) (q0 (vp (some p1)) (q0 (vp (some (p1.add 1))) ?_)))))
         obtain ⟨v8, hv4, h⟩ := h
         refine q2 (vp v8) (xl (Try.isAgg62 _) hv4) (q0 (vi r4) ?_)
         refine st_call (want0 rfl) (xc Try.call37) (h.mono ?_)
         rintro e w17 ⟨r8, rfl, hk, h⟩
         refine ⟨_, rfl, ?_⟩
         obtain ⟨hs, hb⟩ := hk.hh hs hb
         refine wpL_nil (bl_n (th_n (rg (q0 (vi i1) (q0 (vi (IntKind.i64.wrap (i1 + 1))) (q0 (vi (IntKind.i64.wrap (i1 + 1))) (wpL_nil (th_n ?_))))))))
         exact ⟨((IntKind.i64.wrap (i1 + 1)), Hl2, w17), ⟨rfl, Has.mk (by kernel_rfl), hs, hb, h.1⟩, h.2⟩
        ·replace h := h.2 hc6
         refine wpE_skip (th_n (rg (q0 (vp (some p1)) (q0 (vp (some p1)) (q0 (vp (some (p1.add 1))) ?_)))))
         obtain ⟨v9, hv7, h⟩ := h
         refine q2 (vp v9) (xl (Try.isAgg62 _) hv7) (q0 (vi r4) ?_)
         refine st_call (want0 rfl) (xc Try.call37) (h.mono ?_)
         rintro e w18 ⟨r9, rfl, hk, h⟩
         refine ⟨_, rfl, ?_⟩
         obtain ⟨hs, hb⟩ := hk.hh hs hb
         refine wpL_nil (bl_n (th_n (rg (q0 (vi i1) (q0 (vi (IntKind.i64.wrap (i1 + 1))) (q0 (vi (IntKind.i64.wrap (i1 + 1))) (wpL_nil (th_n ?_))))))))
         exact ⟨((IntKind.i64.wrap (i1 + 1)), Hl2, w18), ⟨rfl, Has.mk (by kernel_rfl), hs, hb, h.1⟩, h.2⟩
   ·replace h := h.2 hc2
    refine wpE_exit (th_x (th_x (bl_eq (th_n (wpE_seq (rg (q0 (vp (some p1)) (q0 (vp (some p1)) (q0 (vb true) (wpL_nil (th_n ?_)))))))))))
    refine wpE_ret (res2 (.inl rfl) Try.results53 (v := (vp (some p1))) (by kernel_rfl) (v' := (vb true)) (by kernel_rfl) ?_)
    exact ⟨(some p1), true, rfl, h⟩
 ·skip
  refine rg (q0 (vp (some p1)) (q0 (vp (some p1)) (q0 (vp (some p1)) ?_)))
  obtain ⟨v10, hv16, h⟩ := h
  refine q2 (vp v10) (xl (Try.isAgg25 _) hv16) (q2 (vb (Option.isNone v10)) (x_ptreq (by kernel_rfl) rfl Try.underlying25) (q0 (vb (Option.isNone v10)) ?_))
  rcases Bool.eq_false_or_eq_true (Option.isNone v10) with hg4 | hg4
  ·replace h := h.1 hg4
   refine sk (yD 29 hg4) (sk (yD 29 hg4) (sk (yD 29 hg4) (sk (yD 29 hg4) (sk (yD 29 hg4) (q2 (vb true) (xT hg4) (wpL_nil (th_n ?_)))))))
   exact ⟨true, None, Has.mk (by kernel_rfl), hs, hb, h⟩
  ·replace h := h.2 hg4
   refine q1 (vp (some p1)) (want1 rfl (yD 29 hg4)) (q1 (vp (some p1)) (want1 rfl (yD 29 hg4)) (q1 (vp (some (p1.add 1))) (want1 rfl (yD 29 hg4)) ?_))
   obtain ⟨v11, hv15, h⟩ := h
   refine stp (v := (vp v11)) (want1 rfl (yD 29 hg4)) (xl (Try.isAgg62 _) hv15) (stp (v := (vb (Option.isNone v11))) (want1 rfl (yD 29 hg4)) (x_ptreq (by kernel_rfl) rfl Try.underlying62) (q2 (vb (Option.isNone v11)) (xF hg4) (wpL_nil (th_n ?_))))
   exact ⟨(Option.isNone v11), None, Has.mk (by kernel_rfl), hs, hb, h⟩
def m_law09_live  (w0 : World) (K : Bool → World → Prop) : Prop :=
 ∀ (p1 : Addr) (w1 : World), New w0 (.cells #[(vi 2), (vi 0), (vi 0), (vu 1), (vs ⟨#[]⟩), Sl.nil.v] 116) p1 w1 →
 ∀ (p2 : Addr) (w2 : World), New w1 (.cells #[(vi 7), (vi 0), (vi 0), (vu 0), (vs ⟨#[]⟩), (Sl.mk (some p1) 1 1).v, (vi 6), (vi 0), (vi 0), (vu 0), (vs ⟨#[]⟩), Sl.nil.v] 116) p2 w2 →
 Calls Try.prog 53 #[(Sl.mk (some p2) 2 2).v] w2 (fun e w3 => ∃ r1 : Option Addr, ∃ r2 : Bool, e = .returned (.tuple #[(vp r1), (vb r2)]) ∧ 
  Kept None w2 w3 ∧
  Br (!r2)
   (K false w3)
   (∃ C1 : World → Prop, C1 w3.drew ∧ ∀ w4, w4 = w3.drew →
   ∃ a1 : Addr, r1 = some a1 ∧
   ∃ v1 : Option Addr, (∀ w', C1 w' → w'.cell? a1 = some (vp v1)) ∧
   ∃ a2 : Addr, r1 = some a2 ∧
   ∃ v2 : Option Addr, (∀ w', C1 w' → w'.cell? (a2.add 1) = some (vp v2)) ∧
   ∀ (p3 : Addr) (w5 : World), New w4 (.cells #[(vi 0), (vi 0), (vi 0), (vu 0), (vs ⟨#[]⟩), (vi 8), (vi 0), (vi 0), (vu 0), (vs ⟨#[]⟩), (vi 5), (vi 1), (vi 0), (vu 0), (vs ⟨#[]⟩), (vi 0), (vi 1), (vi 0), (vu 0), (vs ⟨#[]⟩), (vi 9), (vi 2), (vi 3), (vu 0), (vs ⟨#[]⟩)] 175) p3 w5 → C1 w5 ∧
   Calls Try.prog 54 #[(vp v1), (vp v2), (Sl.mk (some p3) 5 5).v] w5 (fun e w6 => ∃ r3 r4 r5 : Int, e = .returned (.tuple #[(vi r3), (vi r4), (vi r5)]) ∧ C1 w6 ∧ 
    Kept None w5 w6 ∧
    ∃ C2 : World → Prop, C2 w6.drew ∧ ∀ w7, w7 = w6.drew →
    ∃ a3 : Addr, r1 = some a3 ∧
    ∃ v3 : Option Addr, (∀ w', C2 w' → w'.cell? a3 = some (vp v3)) ∧
    ∃ a4 : Addr, r1 = some a4 ∧
    ∃ v4 : Option Addr, (∀ w', C2 w' → w'.cell? (a4.add 1) = some (vp v4)) ∧
    ∀ (p4 : Addr) (w8 : World), New w7 (.cells #[(vi 0), (vi 0), (vi 0), (vu 0), (vs ⟨#[]⟩), (vi 6), (vi 0), (vi 0), (vu 0), (vs ⟨#[]⟩)] 175) p4 w8 → C2 w8 ∧
    Calls Try.prog 54 #[(vp v3), (vp v4), (Sl.mk (some p4) 2 2).v] w8 (fun e w9 => ∃ r6 r7 r8 : Int, e = .returned (.tuple #[(vi r6), (vi r7), (vi r8)]) ∧ C2 w9 ∧ 
     Kept None w8 w9 ∧
     ∃ a5 : Addr, r1 = some a5 ∧
     ∃ v5 : Option Addr, w9.cell? a5 = some (vp v5) ∧
     Calls Try.prog 91 #[(vp v5), (vi r3)] w9 (fun e w10 => ∃ aA aB : Int, ∃ aC aD : Int, ∃ aE : ByteArray, ∃ aF aG : Int, ∃ r9 : Bool, e = .returned (.tuple #[(.agg #[(vi aA), (vi aB), (vi aC), (vu aD), (vs aE), (vi aF), (vi aG)]), (vb r9)]) ∧ 
      Kept None w9 w10 ∧
      ∀ (H6 : Nat → Prop) (w20 : World), Hst w0 None w10 H6 w20 →
      K (((((r4 == 0) && (aA == 7)) && (aB == 0)) && (r7 == 90)) && (r8 == 1)) w20)))))
theorem w_law09_live  (w0 : World) (K : Bool → World → Prop) (h : m_law09_live  w0 K) :
  Calls Try.prog 52 #[] w0 (fun e w' => ∃ r10 : Bool, e = .returned (vb r10) ∧ K r10 w') := by
 unfold m_law09_live at h
 refine calls_of_wpE (args := []) Try.func52 rfl Try.ntmps52 (Nat.le_of_ble_eq_true rfl) ?_
 have hs := Hst.start w0
 have hb := HB.nil None w0
 refine wpE_seq (rg (q0 (vb false) (wpL_nil (th_n (wpE_seq (rg (q0 (.agg #[(vi 2), (vi 0), (vi 0), (vu 1), (vs ⟨#[]⟩), Sl.nil.v]) (st_new (O := (.cells #[(vi 2), (vi 0), (vi 0), (vu 1), (vs ⟨#[]⟩), Sl.nil.v] 116)) (fun p => (Sl.mk (some p) 1 1).v) (want0 rfl) (x_buildSlice (vs := #[(0, (.agg #[(vi 2), (vi 0), (vi 0), (vu 1), (vs ⟨#[]⟩), Sl.nil.v]))]) (by kernel_rfl) (by kernel_rfl)) ?_))))))))
 intro p1 w1 hn6
 replace h := h p1 w1 hn6
 replace hs := hs.again (Ext.new (F := None) hn6).keptP
 replace hb := hb.kept (Ext.new (F := None) hn6).keptP
 refine q0 (.agg #[(vi 7), (vi 0), (vi 0), (vu 0), (vs ⟨#[]⟩), (Sl.mk (some p1) 1 1).v]) (q0 (.agg #[(vi 6), (vi 0), (vi 0), (vu 0), (vs ⟨#[]⟩), Sl.nil.v]) (st_new (O := (.cells #[(vi 7), (vi 0), (vi 0), (vu 0), (vs ⟨#[]⟩), (Sl.mk (some p1) 1 1).v, (vi 6), (vi 0), (vi 0), (vu 0), (vs ⟨#[]⟩), Sl.nil.v] 116)) (fun p => (Sl.mk (some p) 2 2).v) (want0 rfl) (x_buildSlice (vs := #[(0, (.agg #[(vi 7), (vi 0), (vi 0), (vu 0), (vs ⟨#[]⟩), (Sl.mk (some p1) 1 1).v])), (1, (.agg #[(vi 6), (vi 0), (vi 0), (vu 0), (vs ⟨#[]⟩), Sl.nil.v]))]) (by kernel_rfl) (by kernel_rfl)) ?_))
 intro p2 w2 hn5
 replace h := h p2 w2 hn5
 replace hs := hs.again (Ext.new (F := None) hn5).keptP
 replace hb := hb.kept (Ext.new (F := None) hn5).keptP
 refine st_call (want0 rfl) (xc Try.call53) (h.mono ?_)
 rintro e w3 ⟨r1, r2, rfl, hk, h⟩
 refine ⟨_, rfl, ?_⟩
 obtain ⟨hs, hb⟩ := hk.hh hs hb
 refine q0 (.tuple #[(vp r1), (vb r2)]) (q0 (vp r1) (q0 (vb r2) (q0 (vp r1) (q0 (vb r2) (wpL_nil (th_n (wpE_seq (wpE_seq (rg (q0 (vb r2) (q0 (vb (!r2)) ?_)))))))))))
 refine wpL_nil (th_n ?_)
 refine wpE_cond (t := (!r2)) (by kernel_rfl) (fun hc1 => ?_) (fun hc1 => ?_)
 ·replace h := h.1 hc1
  refine wpE_seq (rg (q0 (vb false) (wpL_nil (th_n (wpE_ret (th_r (res1 (.inl rfl) Try.results52 (v := (vb false)) (by kernel_rfl) ?_)))))))
  exact ⟨false, rfl, h⟩
 ·replace h := h.2 hc1
  refine wpE_skip (th_n (wpE_seq ?_))
  obtain ⟨C1, hC, h⟩ := h
  refine wpE_drawnC C1 [13, 14] [] (by kernel_rfl) (by kernel_rfl) (by kernel_rfl) (by kernel_rfl) hC ?_
  clear hC
  intro w4 hw4
  replace h := h w4 hw4
  replace hs : Hst w0 None w3 None w4 := by rw [hw4]; exact hs.drew
  replace hb : HB None w4 [] := by rw [hw4]; exact hb.drew
  replace hs := hs.here
  refine qx 0 (vp r1) Kp0 (qgo (k := 1) (by kernel_rfl) ?_)
  obtain ⟨a1, hp1, h⟩ := h
  refine sx (v := (vp (some a1))) Kp1 (want0 rfl) (by kernel_rfl) (fun w' hw' => (x_nilCheck (p := r1) (by kernel_rfl) hp1)) (qx 2 (vp (some a1)) Kp2 (qgo (k := 3) (by kernel_rfl) ?_))
  obtain ⟨v1, hv5, h⟩ := h
  refine sx (v := (vp v1)) Kp3 (want0 rfl) (by kernel_rfl) (fun w' hw' => (xl (Try.isAgg25 _) (hv5 w' hw'))) (qx 4 (vp r1) Kp4 (qgo (k := 5) (by kernel_rfl) ?_))
  obtain ⟨a2, hp2, h⟩ := h
  refine sx (v := (vp (some a2))) Kp5 (want0 rfl) (by kernel_rfl) (fun w' hw' => (x_nilCheck (p := r1) (by kernel_rfl) hp2)) (qx 6 (vp (some (a2.add 1))) Kp6 (qgo (k := 7) (by kernel_rfl) ?_))
  obtain ⟨v2, hv4, h⟩ := h
  refine sx (v := (vp v2)) Kp7 (want0 rfl) (by kernel_rfl) (fun w' hw' => (xl (Try.isAgg62 _) (hv4 w' hw'))) (qx 8 (.agg #[(vi 0), (vi 0), (vi 0), (vu 0), (vs ⟨#[]⟩)]) Kp8 (qx 9 (.agg #[(vi 8), (vi 0), (vi 0), (vu 0), (vs ⟨#[]⟩)]) Kp9 (qx 10 (.agg #[(vi 5), (vi 1), (vi 0), (vu 0), (vs ⟨#[]⟩)]) (pickA (S8 (pickS (pickS pickZ)))) (qx 11 (.agg #[(vi 0), (vi 1), (vi 0), (vu 0), (vs ⟨#[]⟩)]) (pickA (S8 (pickS (pickS (pickS pickZ))))) (qx 12 (.agg #[(vi 9), (vi 2), (vi 3), (vu 0), (vs ⟨#[]⟩)]) (pickA (S8 (S4 pickZ))) (lgo (k := 13) (by kernel_rfl) (sl_new (O := (.cells #[(vi 0), (vi 0), (vi 0), (vu 0), (vs ⟨#[]⟩), (vi 8), (vi 0), (vi 0), (vu 0), (vs ⟨#[]⟩), (vi 5), (vi 1), (vi 0), (vu 0), (vs ⟨#[]⟩), (vi 0), (vi 1), (vi 0), (vu 0), (vs ⟨#[]⟩), (vi 9), (vi 2), (vi 3), (vu 0), (vs ⟨#[]⟩)] 175)) (fun p => (Sl.mk (some p) 5 5).v) (pickA (S8 (S4 (pickS pickZ)))) (want0 rfl) (by kernel_rfl) (x_buildSlice (vs := #[(0, (.agg #[(vi 0), (vi 0), (vi 0), (vu 0), (vs ⟨#[]⟩)])), (1, (.agg #[(vi 8), (vi 0), (vi 0), (vu 0), (vs ⟨#[]⟩)])), (2, (.agg #[(vi 5), (vi 1), (vi 0), (vu 0), (vs ⟨#[]⟩)])), (3, (.agg #[(vi 0), (vi 1), (vi 0), (vu 0), (vs ⟨#[]⟩)])), (4, (.agg #[(vi 9), (vi 2), (vi 3), (vu 0), (vs ⟨#[]⟩)]))]) (by kernel_rfl) (by kernel_rfl)) ?_)))))))
  intro p3 w5 hn4
  replace h := h p3 w5 hn4
  refine ⟨.inr h.1, ?_⟩
  replace h := h.2
  replace hs := hs.again (Ext.new (F := None) hn4).keptP
  replace hb := hb.kept (Ext.new (F := None) hn4).keptP
  refine lgo (k := 14) (by kernel_rfl) ?_
  refine sl_call (pickA (S8 (S4 (pickS (pickS pickZ))))) (want0 rfl) (by kernel_rfl) (xc Try.call54) (h.mono ?_)
  rintro e w6 ⟨r3, r4, r5, rfl, hC, hk, h⟩
  refine ⟨_, rfl, .inr hC, ?_⟩
  obtain ⟨hs, hb⟩ := hk.hh hs hb
  refine qx 15 (.tuple #[(vi r3), (vi r4), (vi r5)]) (pickA (S8 (S4 (pickS (pickS (pickS pickZ)))))) (qx 16 (vi r3) (pickA (S8 (S8 pickZ))) (qx 17 (vi r4) (pickA (S8 (S8 (pickS pickZ)))) (qx 18 (vi r5) (pickA (S8 (S8 (pickS (pickS pickZ))))) (qx 19 (vi r3) (pickA (S8 (S8 (pickS (pickS (pickS pickZ)))))) (qx 20 (vi r4) (pickA (S8 (S8 (S4 pickZ)))) (qx 21 (vi r5) (pickA (S8 (S8 (S4 (pickS pickZ))))) (wpX_nil (by kernel_rfl) (th_n (wpE_seq ?_)))))))))
  obtain ⟨C2, hC, h⟩ := h
  refine wpE_drawnC C2 [10, 11] [] (by kernel_rfl) (by kernel_rfl) (by kernel_rfl) (by kernel_rfl) hC ?_
  clear hC
  intro w7 hw7
  replace h := h w7 hw7
  replace hs : Hst w0 None w6 None w7 := by rw [hw7]; exact hs.drew
  replace hb : HB None w7 [] := by rw [hw7]; exact hb.drew
  replace hs := hs.here
  refine qx 0 (vp r1) Kp0 (qgo (k := 1) (by kernel_rfl) ?_)
  obtain ⟨a3, hp3, h⟩ := h
  refine sx (v := (vp (some a3))) Kp1 (want0 rfl) (by kernel_rfl) (fun w' hw' => (x_nilCheck (p := r1) (by kernel_rfl) hp3)) (qx 2 (vp (some a3)) Kp2 (qgo (k := 3) (by kernel_rfl) ?_))
  obtain ⟨v3, hv3, h⟩ := h
  refine sx (v := (vp v3)) Kp3 (want0 rfl) (by kernel_rfl) (fun w' hw' => (xl (Try.isAgg25 _) (hv3 w' hw'))) (qx 4 (vp r1) Kp4 (qgo (k := 5) (by kernel_rfl) ?_))
  obtain ⟨a4, hp4, h⟩ := h
  refine sx (v := (vp (some a4))) Kp5 (want0 rfl) (by kernel_rfl) (fun w' hw' => (x_nilCheck (p := r1) (by kernel_rfl) hp4)) (qx 6 (vp (some (a4.add 1))) Kp6 (qgo (k := 7) (by kernel_rfl) ?_))
  obtain ⟨v4, hv2, h⟩ := h
  refine sx (v := (vp v4)) Kp7 (want0 rfl) (by kernel_rfl) (fun w' hw' => (xl (Try.isAgg62 _) (hv2 w' hw'))) (qx 8 (.agg #[(vi 0), (vi 0), (vi 0), (vu 0), (vs ⟨#[]⟩)]) Kp8 (qx 9 (.agg #[(vi 6), (vi 0), (vi 0), (vu 0), (vs ⟨#[]⟩)]) Kp9 (lgo (k := 10) (by kernel_rfl) (sl_new (O := (.cells #[(vi 0), (vi 0), (vi 0), (vu 0), (vs ⟨#[]⟩), (vi 6), (vi 0), (vi 0), (vu 0), (vs ⟨#[]⟩)] 175)) (fun p => (Sl.mk (some p) 2 2).v) (pickA (S8 (pickS (pickS pickZ)))) (want0 rfl) (by kernel_rfl) (x_buildSlice (vs := #[(0, (.agg #[(vi 0), (vi 0), (vi 0), (vu 0), (vs ⟨#[]⟩)])), (1, (.agg #[(vi 6), (vi 0), (vi 0), (vu 0), (vs ⟨#[]⟩)]))]) (by kernel_rfl) (by kernel_rfl)) ?_))))
  intro p4 w8 hn3
  replace h := h p4 w8 hn3
  refine ⟨.inr h.1, ?_⟩
  replace h := h.2
  replace hs := hs.again (Ext.new (F := None) hn3).keptP
  replace hb := hb.kept (Ext.new (F := None) hn3).keptP
  refine lgo (k := 11) (by kernel_rfl) ?_
  refine sl_call (pickA (S8 (pickS (pickS (pickS pickZ))))) (want0 rfl) (by kernel_rfl) (xc Try.call54) (h.mono ?_)
  rintro e w9 ⟨r6, r7, r8, rfl, hC, hk, h⟩
  refine ⟨_, rfl, .inr hC, ?_⟩
  obtain ⟨hs, hb⟩ := hk.hh hs hb
  refine qx 12 (.tuple #[(vi r6), (vi r7), (vi r8)]) (pickA (S8 (S4 pickZ))) (qx 13 (vi r6) (pickA (S8 (S4 (pickS pickZ)))) (qx 14 (vi r7) (pickA (S8 (S4 (pickS (pickS pickZ))))) (qx 15 (vi r8) (pickA (S8 (S4 (pickS (pickS (pickS pickZ)))))) (qx 16 (vi r6) (pickA (S8 (S8 pickZ))) (qx 17 (vi r7) (pickA (S8 (S8 (pickS pickZ)))) (qx 18 (vi r8) (pickA (S8 (S8 (pickS (pickS pickZ))))) (wpX_nil (by kernel_rfl) (th_n (wpE_seq (rg (q0 (vp r1) ?_)))))))))))
  obtain ⟨a5, hp5, h⟩ := h
  refine q2 (vp (some a5)) (x_nilCheck (p := r1) (by kernel_rfl) hp5) (q0 (vp (some a5)) ?_)
  obtain ⟨v5, hv1, h⟩ := h
  refine q2 (vp v5) (xl (Try.isAgg25 _) hv1) (q0 (vi r3) ?_)
  refine st_call (want0 rfl) (xc Try.call91) (h.mono ?_)
  rintro e w10 ⟨aA, aB, aC, aD, aE, aF, aG, r9, rfl, hk, h⟩
  refine ⟨_, rfl, ?_⟩
  obtain ⟨hs, hb⟩ := hk.hh hs hb
  refine q0 (.tuple #[(.agg #[(vi aA), (vi aB), (vi aC), (vu aD), (vs aE), (vi aF), (vi aG)]), (vb r9)]) (q0 (.agg #[(vi aA), (vi aB), (vi aC), (vu aD), (vs aE), (vi aF), (vi aG)]) (q0 (vb r9) (sn (O := (.cells #[(vi 0), (vi 0), (vi 0), (vu 0), (vs ⟨#[]⟩), (vi 0), (vi 0)] 93)) (x_alloc (Try.zeroValue93 _) rfl) ?_)))
  intro p5 w11 hn1
  obtain ⟨H1, hs, hb⟩ := hs.alloc hb hn1
  refine st_set (want0 rfl) (x_storeA (a := p5) (vs := [(vi aA), (vi aB), (vi aC), (vu aD), (vs aE), (vi aF), (vi aG)]) (by kernel_rfl) (by kernel_rfl) rfl (Try.sizeOf93 _) rfl (hb.canWs0 0 7 gZ (by kernel_rfl))) ?_
  intro w12 hn2
  have hsb : Hst w0 None w10 H1 w12 ∧ HB H1 w12 [(p5, [(vi aA), (vi aB), (vi aC), (vu aD), (vs aE), (vi aF), (vi aG)], 93)] := by
   rw [hn2]
   exact hb.store0 (i := 0) (vs := [(vi aA), (vi aB), (vi aC), (vu aD), (vs aE), (vi aF), (vi aG)]) hs gZ (by kernel_rfl) (by kernel_rfl)
  clear hs hb hn2
  obtain ⟨hs, hb⟩ := hsb
  refine q0 (vb r9) (wpL_nil (th_n (wpE_seq ?_)))
  refine wpE_via (fun ρ wJ => ∃ HJ : Nat → Prop, Hst w0 None w10 HJ wJ ∧ HB HJ wJ [(p5, [(vi aA), (vi aB), (vi aC), (vu aD), (vs aE), (vi aF), (vi aG)], 93)] ∧ Has ρ [(0, (vb (((((r4 == 0) && (aA == 7)) && (aB == 0)) && (r7 == 90)) && (r8 == 1))))]) ?_ ?_
  ·skip
   refine rg (q0 (vi r4) ?_)
   refine st_call (want0 rfl) (xc Try.call58) ((p_law09_num r4 w12).mono ?_)
   rintro e w21 ⟨he, hE⟩
   refine ⟨(vi r4), he.trans (by kernel_rfl), ?_⟩
   replace hs := hs.pure hE
   replace hb := hb.pure hE
   clear hE he
   refine q0 (vb (r4 == 0)) (q0 (vb (r4 == 0)) ?_)
   refine wpL_join 4 (fun ρ wJ => ∃ b6'0 : Bool, ∃ HJ : Nat → Prop, ((r4 == 0) = b6'0) ∧ Hst w0 None w10 HJ wJ ∧ HB HJ wJ [(p5, [(vi aA), (vi aB), (vi aC), (vu aD), (vs aE), (vi aF), (vi aG)], 93)] ∧ Has ρ [(7, (vi r7)), (8, (vi r8)), (9, (vp (some p5))), (73, (vb (b6'0 && (aA == 7))))]) ?_ ?_
   ·clear hs hb
    rintro ρ w22 ⟨b6'0, H7, he0, hs, hb, hH⟩
    subst he0
    refine wpL_has hH ?_
    clear hH
    refine q0 (vb ((r4 == 0) && (aA == 7))) ?_
    refine wpL_join 4 (fun ρ wJ => ∃ b7'0 : Bool, ∃ HJ : Nat → Prop, (((r4 == 0) && (aA == 7)) = b7'0) ∧ Hst w0 None w10 HJ wJ ∧ HB HJ wJ [(p5, [(vi aA), (vi aB), (vi aC), (vu aD), (vs aE), (vi aF), (vi aG)], 93)] ∧ Has ρ [(7, (vi r7)), (8, (vi r8)), (78, (vb (b7'0 && (aB == 0))))]) ?_ ?_
    ·clear hs hb
     rintro ρ w23 ⟨b7'0, H8, he0, hs, hb, hH⟩
     subst he0
     refine wpL_has hH ?_
     clear hH
     refine q0 (vb (((r4 == 0) && (aA == 7)) && (aB == 0))) ?_
     refine wpL_join 4 (fun ρ wJ => ∃ b8'0 : Bool, ∃ HJ : Nat → Prop, ((((r4 == 0) && (aA == 7)) && (aB == 0)) = b8'0) ∧ Hst w0 None w10 HJ wJ ∧ HB HJ wJ [(p5, [(vi aA), (vi aB), (vi aC), (vu aD), (vs aE), (vi aF), (vi aG)], 93)] ∧ Has ρ [(8, (vi r8)), (83, (vb (b8'0 && (r7 == 90))))]) ?_ ?_
     ·clear hs hb
      rintro ρ w25 ⟨b8'0, H9, he0, hs, hb, hH⟩
      subst he0
      refine wpL_has hH ?_
      clear hH
      refine q0 (vb ((((r4 == 0) && (aA == 7)) && (aB == 0)) && (r7 == 90))) ?_
      refine wpL_join 3 (fun ρ wJ => ∃ b9'0 : Bool, ∃ HJ : Nat → Prop, (((((r4 == 0) && (aA == 7)) && (aB == 0)) && (r7 == 90)) = b9'0) ∧ Hst w0 None w10 HJ wJ ∧ HB HJ wJ [(p5, [(vi aA), (vi aB), (vi aC), (vu aD), (vs aE), (vi aF), (vi aG)], 93)] ∧ Has ρ [(87, (vb (b9'0 && (r8 == 1))))]) ?_ ?_
      ·clear hs hb
       rintro ρ w27 ⟨b9'0, H10, he0, hs, hb, hH⟩
       subst he0
       refine wpL_has hH ?_
       clear hH
       refine q0 (vb (((((r4 == 0) && (aA == 7)) && (aB == 0)) && (r7 == 90)) && (r8 == 1))) (wpL_nil (th_n ?_))
       exact ⟨_, hs, hb, Has.mk (by kernel_rfl)⟩
      ·skip
       rcases Bool.eq_false_or_eq_true ((((r4 == 0) && (aA == 7)) && (aB == 0)) && (r7 == 90)) with hg16 | hg16
       ·skip
        refine q1 (vi r8) (want1 rfl (yD 84 hg16)) (q1 (vb (r8 == 1)) (want1 rfl (yD 84 hg16)) (q2 (vb (r8 == 1)) (xT hg16) (wpL_nil ?_)))
        exact ⟨true, _, hg16, hs, hb, Has.mk (by kernel_rfl)⟩
       ·skip
        refine sk (yD 84 hg16) (sk (yD 84 hg16) (q2 (vb false) (xF hg16) (wpL_nil ?_)))
        exact ⟨false, _, hg16, hs, hb, Has.mk (by kernel_rfl)⟩
     ·skip
      rcases Bool.eq_false_or_eq_true (((r4 == 0) && (aA == 7)) && (aB == 0)) with hg14 | hg14
      ·skip
       refine q1 (vi r7) (want1 rfl (yD 79 hg14)) ?_
       refine st_call (want1 rfl (yD 79 hg14)) (xc Try.call58) ((p_law09_num r7 w23).mono ?_)
       rintro e w26 ⟨he, hE⟩
       refine ⟨(vi r7), he.trans (by kernel_rfl), ?_⟩
       replace hs := hs.pure hE
       replace hb := hb.pure hE
       clear hE he
       refine q1 (vb (r7 == 90)) (want1 rfl (yD 79 hg14)) (q2 (vb (r7 == 90)) (xT hg14) (wpL_nil ?_))
       exact ⟨true, _, hg14, hs, hb, Has.mk (by kernel_rfl)⟩
      ·skip
       refine sk (yD 79 hg14) (sk (yD 79 hg14) (sk (yD 79 hg14) (q2 (vb false) (xF hg14) (wpL_nil ?_))))
       exact ⟨false, _, hg14, hs, hb, Has.mk (by kernel_rfl)⟩
    ·skip
     rcases Bool.eq_false_or_eq_true ((r4 == 0) && (aA == 7)) with hg12 | hg12
     ·skip
      refine q1 (vp (some (p5.add 1))) (want1 rfl (yD 74 hg12)) (stp (v := (vi aB)) (want1 rfl (yD 74 hg12)) (xl (Try.isAgg3 _) (hb.c 0 1 gZ)) (q1 (vb (aB == 0)) (want1 rfl (yD 74 hg12)) (q2 (vb (aB == 0)) (xT hg12) (wpL_nil ?_))))
      exact ⟨true, _, hg12, hs, hb, Has.mk (by kernel_rfl)⟩
     ·skip
      refine sk (yD 74 hg12) (sk (yD 74 hg12) (sk (yD 74 hg12) (q2 (vb false) (xF hg12) (wpL_nil ?_))))
      exact ⟨false, _, hg12, hs, hb, Has.mk (by kernel_rfl)⟩
   ·skip
    rcases Bool.eq_false_or_eq_true (r4 == 0) with hg10 | hg10
    ·skip
     refine q1 (vp (some p5)) (want1 rfl (yD 69 hg10)) (stp (v := (vi aA)) (want1 rfl (yD 69 hg10)) (xl (Try.isAgg3 _) (hb.c0 0 gZ)) (q1 (vb (aA == 7)) (want1 rfl (yD 69 hg10)) (q2 (vb (aA == 7)) (xT hg10) (wpL_nil ?_))))
     exact ⟨true, _, hg10, hs, hb, Has.mk (by kernel_rfl)⟩
    ·skip
     refine sk (yD 69 hg10) (sk (yD 69 hg10) (sk (yD 69 hg10) (q2 (vb false) (xF hg10) (wpL_nil ?_))))
     exact ⟨false, _, hg10, hs, hb, Has.mk (by kernel_rfl)⟩
  ·clear hs hb
   rintro ρ w20 ⟨H6, hs, hb, hH⟩
   refine norm_has hH ?_
   clear hH
   refine th_n (wpE_ret ?_)
   replace h := h H6 w20 hs
   replace hs := hs.here
   refine res1 (.inl rfl) Try.results52 (v := (vb (((((r4 == 0) && (aA == 7)) && (aB == 0)) && (r7 == 90)) && (r8 == 1)))) (by kernel_rfl) ?_
   exact ⟨(((((r4 == 0) && (aA == 7)) && (aB == 0)) && (r7 == 90)) && (r8 == 1)), rfl, h⟩
def m_law09_RecipeEvals_l4 (r2 : Option Addr) (r4 r7 : Int) (r10 w12 : Sl) (i1 : Int) (w0 : World) (Hl1 : Nat → Prop) (wl1 : World) (Kc4 : Int → (Nat → Prop) → World → Prop) (K : Bool → World → Prop) : Prop :=
 Br (decide (i1 < (r10.len : Int)))
  (∃ a7 : Addr, At r10 i1 1 a7 ∧
  ∀ (w13 : World), Hst w0 Hl1 wl1 Hl1 w13 →
  ∃ v7 : Int, w13.cell? a7 = some (vi v7) ∧
  ∃ a8 : Addr, At w12 i1 1 a8 ∧
  ∃ v8 : Int, w13.cell? a8 = some (vi v8) ∧
  Br (v7 != v8)
   (K false w13)
   (Kc4 (IntKind.i64.wrap (i1 + 1)) Hl1 w13))
  (∃ C4 : World → Prop, C4 wl1.drew ∧ ∀ w14, w14 = wl1.drew →
  ∃ a9 : Addr, r2 = some a9 ∧
  ∃ v9 : Option Addr, (∀ w', C4 w' → w'.cell? a9 = some (vp v9)) ∧
  ∃ a10 : Addr, r2 = some a10 ∧
  ∃ v10 : Option Addr, (∀ w', C4 w' → w'.cell? (a10.add 2) = some (vp v10)) ∧
  Calls Try.prog 62 #[(vp v9), (vi r4)] w14 (fun e w15 => ∃ aA aB : Int, ∃ aC aD : Int, ∃ aE : ByteArray, ∃ aH : Sl, e = .returned (.agg #[(vi aA), (vi aB), (vi aC), (vu aD), (vs aE), aH.v]) ∧ C4 w15 ∧ 
   Kept Hl1 w14 w15 ∧
   Calls Try.prog 63 #[(vp v10), (vi r7)] w15 (fun e w16 => ∃ aU aV : Int, ∃ aW aX : Int, ∃ aY : ByteArray, ∃ aZ : Sl, e = .returned (.agg #[(vi aU), (vi aV), (vi aW), (vu aX), (vs aY), aZ.v]) ∧ C4 w16 ∧ 
    Kept Hl1 w15 w16 ∧
    Calls Try.prog 61 #[(.agg #[(vi aA), (vi aB), (vi aC), (vu aD), (vs aE), aH.v]), (.agg #[(vi aU), (vi aV), (vi aW), (vu aX), (vs aY), aZ.v])] w16 (fun e w17 => ∃ r11 : Bool, e = .returned (vb r11) ∧ C4 w17 ∧ 
     Kept Hl1 w16 w17 ∧
     Br r11
      (Calls Try.prog 52 #[] w17 (fun e w18 => ∃ r12 : Bool, e = .returned (vb r12) ∧ C4 w18 ∧ 
       Kept Hl1 w17 w18 ∧
       K r12 w18))
      (K false w17)))))
def m_law09_RecipeEvals_j3 (r2 : Option Addr) (r4 r7 : Int) (r10 w12 : Sl) (x2 : Bool) (w0 : World) (H : Nat → Prop) (w : World) (K : Bool → World → Prop) : Prop :=
 Br x2
  (K false w)
  (∃ (I1 : Int → (Nat → Prop) → World → Prop) (mu1 : Int → World → Nat), I1 0 H w ∧
   ∀ (i1 : Int) (Hl1 : Nat → Prop) (wl1 : World), Hst w0 Hl1 wl1 Hl1 wl1 → I1 i1 Hl1 wl1 → m_law09_RecipeEvals_l4 r2 r4 r7 r10 w12 i1 w0 Hl1 wl1 (fun y'0 H' w' => I1 y'0 H' w' ∧ mu1 y'0 w' < mu1 i1 wl1) K)
def m_law09_RecipeEvals_j2 (ops1 : Sl) (r2 : Option Addr) (s1 : Sl) (r4 r5 : Int) (r6 r7 : Int) (r8 r9 : Int) (r10 w12 : Sl) (w0 : World) (H : Nat → Prop) (w : World) (K : Bool → World → Prop) : Prop :=
 ∃ C5 : World → Prop, C5 w.drew ∧ ∀ w19, w19 = w.drew →
 Br (r4 != r7)
  (m_law09_RecipeEvals_j3 r2 r4 r7 r10 w12 true w0 H w19 K)
  (Calls Try.prog 58 #[(vi r5)] w19 (fun e w20 => ∃ r13 : Int, e = .returned (vi r13) ∧ C5 w20 ∧ 
   Kept H w19 w20 ∧
   Br (r13 != r8)
    (m_law09_RecipeEvals_j3 r2 r4 r7 r10 w12 true w0 H w20 K)
    (Br (r6 != r9)
     (m_law09_RecipeEvals_j3 r2 r4 r7 r10 w12 true w0 H w20 K)
     (Br (((r10.len : Int) : Int) != (w12.len : Int))
      (m_law09_RecipeEvals_j3 r2 r4 r7 r10 w12 true w0 H w20 K)
      (∃ a11 : Addr, r2 = some a11 ∧
      ∃ v11 : Option Addr, (∀ w', C5 w' → w'.cell? a11 = some (vp v11)) ∧
      ∃ a12 : Addr, r2 = some a12 ∧
      ∃ v12 : Option Addr, (∀ w', C5 w' → w'.cell? (a12.add 2) = some (vp v12)) ∧
      ∃ a13 : Addr, v12 = some a13 ∧
      ∃ v13 : Sl, (∀ w', C5 w' → w'.cell? a13 = some v13.v) ∧
      Calls Try.prog 59 #[(vp v11)] w20 (fun e w21 => ∃ r14 : Int, e = .returned (vi r14) ∧ C5 w21 ∧ 
       Kept H w20 w21 ∧
       Br (r14 != (v13.len : Int))
        (m_law09_RecipeEvals_j3 r2 r4 r7 r10 w12 true w0 H w21 K)
        (Calls Try.prog 60 #[s1.v, ops1.v] w21 (fun e w22 => ∃ r15 : Bool, e = .returned (vb r15) ∧ C5 w22 ∧ 
         Kept H w21 w22 ∧
         m_law09_RecipeEvals_j3 r2 r4 r7 r10 w12 (!r15) w0 H w22 K))))))))
def m_law09_RecipeEvals_j1 (l1 ops1 : Sl) (x1 : Bool) (w0 : World) (H : Nat → Prop) (w : World) (K : Bool → World → Prop) : Prop :=
 Br x1
  (Calls Try.prog 52 #[] w (fun e w1 => ∃ r1 : Bool, e = .returned (vb r1) ∧ 
   Kept H w w1 ∧
   K r1 w1))
  (Calls Try.prog 53 #[l1.v] w (fun e w2 => ∃ r2 : Option Addr, ∃ r3 : Bool, e = .returned (.tuple #[(vp r2), (vb r3)]) ∧ 
   Kept H w w2 ∧
   Br (!r3)
    (K false w2)
    (∀ (p1 : Addr) (w3 : World), New w2 (.cells #[] 175) p1 w3 →
    ∃ s1 : Sl, ∃ w4 : World, (Builtin.append_ #[98, 98] 98 #[(Sl.mk (some p1) 0 0).v, ops1.v]).run Try.prog w3 = .ok s1.v w4 ∧
    Kept H w3 w4 ∧
    ∃ C1 : World → Prop, C1 w4.drew ∧ ∀ w5, w5 = w4.drew →
    ∃ a1 : Addr, r2 = some a1 ∧
    ∃ v1 : Option Addr, (∀ w', C1 w' → w'.cell? a1 = some (vp v1)) ∧
    ∃ a2 : Addr, r2 = some a2 ∧
    ∃ v2 : Option Addr, (∀ w', C1 w' → w'.cell? (a2.add 1) = some (vp v2)) ∧
    Calls Try.prog 54 #[(vp v1), (vp v2), s1.v] w5 (fun e w6 => ∃ r4 r5 r6 : Int, e = .returned (.tuple #[(vi r4), (vi r5), (vi r6)]) ∧ C1 w6 ∧ 
     Kept H w5 w6 ∧
     ∃ C2 : World → Prop, C2 w6.drew ∧ ∀ w7, w7 = w6.drew →
     ∃ a3 : Addr, r2 = some a3 ∧
     ∃ v3 : Option Addr, (∀ w', C2 w' → w'.cell? (a3.add 2) = some (vp v3)) ∧
     ∃ a4 : Addr, r2 = some a4 ∧
     ∃ v4 : Sl, (∀ w', C2 w' → w'.cell? (a4.add 3) = some v4.v) ∧
     Calls Try.prog 55 #[(vp v3), v4.v, ops1.v] w7 (fun e w8 => ∃ r7 r8 r9 : Int, e = .returned (.tuple #[(vi r7), (vi r8), (vi r9)]) ∧ C2 w8 ∧ 
      Kept H w7 w8 ∧
      ∃ C3 : World → Prop, C3 w8.drew ∧ ∀ w9, w9 = w8.drew →
      ∃ a5 : Addr, r2 = some a5 ∧
      ∃ v5 : Option Addr, (∀ w', C3 w' → w'.cell? a5 = some (vp v5)) ∧
      ∃ a6 : Addr, r2 = some a6 ∧
      ∃ v6 : Option Addr, (∀ w', C3 w' → w'.cell? (a6.add 1) = some (vp v6)) ∧
      Calls Try.prog 56 #[(vp v5), (vp v6), s1.v] w9 (fun e w10 => ∃ r10 : Sl, e = .returned r10.v ∧ C3 w10 ∧ 
       Kept H w9 w10 ∧
       Br ((r8 != 6) && (r8 != 3))
        (∀ (H1 : Nat → Prop) (w11 : World), Hst w0 H w10 H1 w11 →
        ∃ C6 : World → Prop, C6 w11.drew ∧ ∀ w23, w23 = w11.drew →
        ∃ a14 : Addr, r2 = some a14 ∧
        ∃ v14 : Option Addr, (∀ w', C6 w' → w'.cell? (a14.add 2) = some (vp v14)) ∧
        ∃ a15 : Addr, r2 = some a15 ∧
        ∃ v15 : Sl, (∀ w', C6 w' → w'.cell? (a15.add 3) = some v15.v) ∧
        Calls Try.prog 57 #[(vp v14), v15.v, ops1.v] w23 (fun e w24 => ∃ r16 : Sl, ∃ r17 : Int, e = .returned (.tuple #[r16.v, (vi r17)]) ∧ C6 w24 ∧ 
         Kept H1 w23 w24 ∧
         m_law09_RecipeEvals_j2 ops1 r2 s1 r4 r5 r6 r7 r8 r9 r10 r16 w0 H1 w24 K))
        (∀ (H1 : Nat → Prop) (w11 : World), Hst w0 H w10 H1 w11 →
        m_law09_RecipeEvals_j2 ops1 r2 s1 r4 r5 r6 r7 r8 r9 r10 Sl.nil w0 H1 w11 K)))))))
def m_law09_RecipeEvals (l1 ops1 : Sl) (w0 : World) (K : Bool → World → Prop) : Prop :=
 Calls Try.prog 50 #[l1.v] w0 (fun e w25 => ∃ r18 : Bool, e = .returned (vb r18) ∧ 
  Kept None w0 w25 ∧
  Br r18
   (m_law09_RecipeEvals_j1 l1 ops1 true w0 None w25 K)
   (Calls Try.prog 51 #[ops1.v] w25 (fun e w26 => ∃ r19 : Bool, e = .returned (vb r19) ∧ 
    Kept None w25 w26 ∧
    m_law09_RecipeEvals_j1 l1 ops1 r19 w0 None w26 K)))
theorem w_law09_RecipeEvals (l1 ops1 : Sl) (w0 : World) (K : Bool → World → Prop) (h : m_law09_RecipeEvals l1 ops1 w0 K) :
  Calls Try.prog 12 #[l1.v, ops1.v] w0 (fun e w' => ∃ r20 : Bool, e = .returned (vb r20) ∧ K r20 w') := by
 unfold m_law09_RecipeEvals at h
 refine calls_of_wpE (args := [l1.v, ops1.v]) Try.func12 rfl Try.ntmps12 (Nat.le_of_ble_eq_true rfl) ?_
 have hs := Hst.start w0
 have hb := HB.nil None w0
 refine wpE_seq (rg (q0 (vb false) (wpL_nil (th_n (wpE_seq (wpE_seq ?_))))))
 refine wpE_joinT (fun ρ w => ∃ x1 : Bool, ∃ H : Nat → Prop, Has ρ [(0, l1.v), (1, ops1.v), (22, (vb x1))] ∧ Hst w0 H w H w ∧ HB H w [] ∧ m_law09_RecipeEvals_j1 l1 ops1 x1 w0 H w K) ?_ ?_
 ·clear h hs hb
  rintro ρ w ⟨x1, H, hH, hs, hb, h⟩
  unfold m_law09_RecipeEvals_j1 at h
  refine wpE_has hH ?_
  clear hH
  refine wpE_cond (t := x1) (by kernel_rfl) (fun hc1 => ?_) (fun hc1 => ?_)
  ·replace h := h.1 hc1
   refine wpE_seq (rg ?_)
   refine st_call (want0 rfl) (xc Try.call52) (h.mono ?_)
   rintro e w1 ⟨r1, rfl, hk, h⟩
   refine ⟨_, rfl, ?_⟩
   obtain ⟨hs, hb⟩ := hk.hh hs hb
   refine q0 (vb r1) (wpL_nil (th_n (wpE_ret (th_r (res1 (.inl rfl) Try.results12 (v := (vb r1)) (by kernel_rfl) ?_)))))
   exact ⟨r1, rfl, h⟩
  ·replace h := h.2 hc1
   refine wpE_skip (th_n (wpE_seq (rg (q0 l1.v ?_))))
   refine st_call (want0 rfl) (xc Try.call53) (h.mono ?_)
   rintro e w2 ⟨r2, r3, rfl, hk, h⟩
   refine ⟨_, rfl, ?_⟩
   obtain ⟨hs, hb⟩ := hk.hh hs hb
   refine q0 (.tuple #[(vp r2), (vb r3)]) (q0 (vp r2) (q0 (vb r3) (q0 (vp r2) (q0 (vb r3) (wpL_nil (th_n (wpE_seq (wpE_seq (rg (q0 (vb r3) (q0 (vb (!r3)) ?_)))))))))))
   refine wpL_nil (th_n ?_)
   refine wpE_cond (t := (!r3)) (by kernel_rfl) (fun hc2 => ?_) (fun hc2 => ?_)
   ·replace h := h.1 hc2
    refine wpE_seq (rg (q0 (vb false) (wpL_nil (th_n (wpE_ret (th_r (res1 (.inl rfl) Try.results12 (v := (vb false)) (by kernel_rfl) ?_)))))))
    exact ⟨false, rfl, h⟩
   ·replace h := h.2 hc2
    refine wpE_skip (th_n (wpE_seq (rg (st_new (O := (.cells #[] 175)) (fun p => (Sl.mk (some p) 0 0).v) (want0 rfl) (x_buildSlice (vs := #[]) (by kernel_rfl) (by kernel_rfl)) ?_))))
    intro p1 w3 hn1
    replace h := h p1 w3 hn1
    replace hs := hs.again (Ext.new (F := None) hn1).keptP
    replace hb := hb.kept (Ext.new (F := None) hn1).keptP
    refine q0 ops1.v ?_
    obtain ⟨s1, w4, hv18, hk, h⟩ := h
    refine st (v := s1.v) (want0 rfl) (x_builtin (args := #[(Sl.mk (some p1) 0 0).v, ops1.v]) (by kernel_rfl) (fun _ => rfl) hv18) ?_
    obtain ⟨hs, hb⟩ := hk.hh hs hb
    refine q0 s1.v (wpL_nil (th_n (wpE_seq ?_)))
    obtain ⟨C1, hC, h⟩ := h
    refine wpE_drawnC C1 [9] [] (by kernel_rfl) (by kernel_rfl) (by kernel_rfl) (by kernel_rfl) hC ?_
    clear hC
    intro w5 hw5
    replace h := h w5 hw5
    replace hs : Hst w0 H w4 H w5 := by rw [hw5]; exact hs.drew
    replace hb : HB H w5 [] := by rw [hw5]; exact hb.drew
    replace hs := hs.here
    refine qx 0 (vp r2) Kp0 (qgo (k := 1) (by kernel_rfl) ?_)
    obtain ⟨a1, hp1, h⟩ := h
    refine sx (v := (vp (some a1))) Kp1 (want0 rfl) (by kernel_rfl) (fun w' hw' => (x_nilCheck (p := r2) (by kernel_rfl) hp1)) (qx 2 (vp (some a1)) Kp2 (qgo (k := 3) (by kernel_rfl) ?_))
    obtain ⟨v1, hv17, h⟩ := h
    refine sx (v := (vp v1)) Kp3 (want0 rfl) (by kernel_rfl) (fun w' hw' => (xl (Try.isAgg25 _) (hv17 w' hw'))) (qx 4 (vp r2) Kp4 (qgo (k := 5) (by kernel_rfl) ?_))
    obtain ⟨a2, hp2, h⟩ := h
    refine sx (v := (vp (some a2))) Kp5 (want0 rfl) (by kernel_rfl) (fun w' hw' => (x_nilCheck (p := r2) (by kernel_rfl) hp2)) (qx 6 (vp (some (a2.add 1))) Kp6 (qgo (k := 7) (by kernel_rfl) ?_))
    obtain ⟨v2, hv16, h⟩ := h
    refine sx (v := (vp v2)) Kp7 (want0 rfl) (by kernel_rfl) (fun w' hw' => (xl (Try.isAgg62 _) (hv16 w' hw'))) (qx 8 s1.v Kp8 (lgo (k := 9) (by kernel_rfl) ?_))
    refine sl_call Kp9 (want0 rfl) (by kernel_rfl) (xc Try.call54) (h.mono ?_)
    rintro e w6 ⟨r4, r5, r6, rfl, hC, hk, h⟩
    refine ⟨_, rfl, .inr hC, ?_⟩
    obtain ⟨hs, hb⟩ := hk.hh hs hb
    refine qx 10 (.tuple #[(vi r4), (vi r5), (vi r6)]) (pickA (S8 (pickS (pickS pickZ)))) (qx 11 (vi r4) (pickA (S8 (pickS (pickS (pickS pickZ))))) (qx 12 (vi r5) (pickA (S8 (S4 pickZ))) (qx 13 (vi r6) (pickA (S8 (S4 (pickS pickZ)))) (qx 14 (vi r4) (pickA (S8 (S4 (pickS (pickS pickZ))))) (qx 15 (vi r5) (pickA (S8 (S4 (pickS (pickS (pickS pickZ)))))) (qx 16 (vi r6) (pickA (S8 (S8 pickZ))) (wpX_nil (by kernel_rfl) (th_n (wpE_seq ?_)))))))))
    obtain ⟨C2, hC, h⟩ := h
    refine wpE_drawnC C2 [9] [] (by kernel_rfl) (by kernel_rfl) (by kernel_rfl) (by kernel_rfl) hC ?_
    clear hC
    intro w7 hw7
    replace h := h w7 hw7
    replace hs : Hst w0 H w6 H w7 := by rw [hw7]; exact hs.drew
    replace hb : HB H w7 [] := by rw [hw7]; exact hb.drew
    replace hs := hs.here
    refine qx 0 (vp r2) Kp0 (qgo (k := 1) (by kernel_rfl) ?_)
    obtain ⟨a3, hp3, h⟩ := h
    refine sx (v := (vp (some a3))) Kp1 (want0 rfl) (by kernel_rfl) (fun w' hw' => (x_nilCheck (p := r2) (by kernel_rfl) hp3)) (qx 2 (vp (some (a3.add 2))) Kp2 (qgo (k := 3) (by kernel_rfl) ?_))
    obtain ⟨v3, hv15, h⟩ := h
    refine sx (v := (vp v3)) Kp3 (want0 rfl) (by kernel_rfl) (fun w' hw' => (xl (Try.isAgg59 _) (hv15 w' hw'))) (qx 4 (vp r2) Kp4 (qgo (k := 5) (by kernel_rfl) ?_))
    obtain ⟨a4, hp4, h⟩ := h
    refine sx (v := (vp (some a4))) Kp5 (want0 rfl) (by kernel_rfl) (fun w' hw' => (x_nilCheck (p := r2) (by kernel_rfl) hp4)) (qx 6 (vp (some (a4.add 3))) Kp6 (qgo (k := 7) (by kernel_rfl) ?_))
    obtain ⟨v4, hv14, h⟩ := h
    refine sx (v := v4.v) Kp7 (want0 rfl) (by kernel_rfl) (fun w' hw' => (xl (Try.isAgg26 _) (hv14 w' hw'))) (qx 8 ops1.v Kp8 (lgo (k := 9) (by kernel_rfl) ?_))
    refine sl_call Kp9 (want0 rfl) (by kernel_rfl) (xc Try.call55) (h.mono ?_)
    rintro e w8 ⟨r7, r8, r9, rfl, hC, hk, h⟩
    refine ⟨_, rfl, .inr hC, ?_⟩
    obtain ⟨hs, hb⟩ := hk.hh hs hb
    refine qx 10 (.tuple #[(vi r7), (vi r8), (vi r9)]) (pickA (S8 (pickS (pickS pickZ)))) (qx 11 (vi r7) (pickA (S8 (pickS (pickS (pickS pickZ))))) (qx 12 (vi r8) (pickA (S8 (S4 pickZ))) (qx 13 (vi r9) (pickA (S8 (S4 (pickS pickZ)))) (qx 14 (vi r7) (pickA (S8 (S4 (pickS (pickS pickZ))))) (qx 15 (vi r8) (pickA (S8 (S4 (pickS (pickS (pickS pickZ)))))) (qx 16 (vi r9) (pickA (S8 (S8 pickZ))) (wpX_nil (by kernel_rfl) (th_n (wpE_seq ?_)))))))))
    obtain ⟨C3, hC, h⟩ := h
    refine wpE_drawnC C3 [9] [] (by kernel_rfl) (by kernel_rfl) (by kernel_rfl) (by kernel_rfl) hC ?_
    clear hC
    intro w9 hw9
    replace h := h w9 hw9
    replace hs : Hst w0 H w8 H w9 := by rw [hw9]; exact hs.drew
    replace hb : HB H w9 [] := by rw [hw9]; exact hb.drew
    replace hs := hs.here
    refine qx 0 (vp r2) Kp0 (qgo (k := 1) (by kernel_rfl) ?_)
    obtain ⟨a5, hp5, h⟩ := h
    refine sx (v := (vp (some a5))) Kp1 (want0 rfl) (by kernel_rfl) (fun w' hw' => (x_nilCheck (p := r2) (by kernel_rfl) hp5)) (qx 2 (vp (some a5)) Kp2 (qgo (k := 3) (by kernel_rfl) ?_))
    obtain ⟨v5, hv13, h⟩ := h
    refine sx (v := (vp v5)) Kp3 (want0 rfl) (by kernel_rfl) (fun w' hw' => (xl (Try.isAgg25 _) (hv13 w' hw'))) (qx 4 (vp r2) Kp4 (qgo (k := 5) (by kernel_rfl) ?_))
    obtain ⟨a6, hp6, h⟩ := h
    refine sx (v := (vp (some a6))) Kp5 (want0 rfl) (by kernel_rfl) (fun w' hw' => (x_nilCheck (p := r2) (by kernel_rfl) hp6)) (qx 6 (vp (some (a6.add 1))) Kp6 (qgo (k := 7) (by kernel_rfl) ?_))
    obtain ⟨v6, hv12, h⟩ := h
    refine sx (v := (vp v6)) Kp7 (want0 rfl) (by kernel_rfl) (fun w' hw' => (xl (Try.isAgg62 _) (hv12 w' hw'))) (qx 8 s1.v Kp8 (lgo (k := 9) (by kernel_rfl) ?_))
    refine sl_call Kp9 (want0 rfl) (by kernel_rfl) (xc Try.call56) (h.mono ?_)
    rintro e w10 ⟨r10, rfl, hC, hk, h⟩
    refine ⟨_, rfl, .inr hC, ?_⟩
    obtain ⟨hs, hb⟩ := hk.hh hs hb
    refine qx 10 r10.v (pickA (S8 (pickS (pickS pickZ)))) (wpX_nil (by kernel_rfl) (th_n (wpE_seq (rg (q0 Sl.nil.v (wpL_nil (th_n (wpE_seq (wpE_seq ?_)))))))))
    refine wpE_via (fun ρ wJ => ∃ b1'0 : Bool, ∃ HJ : Nat → Prop, ((r8 != 6) = b1'0) ∧ Hst w0 H w10 HJ wJ ∧ HB HJ wJ [] ∧ Has ρ [(1, ops1.v), (5, (vp r2)), (7, s1.v), (8, (vi r4)), (9, (vi r5)), (10, (vi r6)), (11, (vi r7)), (12, (vi r8)), (13, (vi r9)), (14, r10.v), (15, Sl.nil.v), (77, (vb (b1'0 && (r8 != 3))))]) ?_ ?_
    ·skip
     refine rg (q0 (vi r8) (q0 (vb (r8 != 6)) (q0 (vb (r8 != 6)) ?_)))
     rcases Bool.eq_false_or_eq_true (r8 != 6) with hg2 | hg2
     ·skip
      refine q1 (vi r8) (want1 rfl (yD 74 hg2)) (q1 (vb (r8 != 3)) (want1 rfl (yD 74 hg2)) (q2 (vb (r8 != 3)) (xT hg2) (wpL_nil (th_n ?_))))
      exact ⟨true, _, hg2, hs, hb, Has.mk (by kernel_rfl)⟩
     ·skip
      refine sk (yD 74 hg2) (sk (yD 74 hg2) (q2 (vb false) (xF hg2) (wpL_nil (th_n ?_))))
      exact ⟨false, _, hg2, hs, hb, Has.mk (by kernel_rfl)⟩
    ·clear hs hb
     rintro ρ w11 ⟨b1'0, H1, he0, hs, hb, hH⟩
     subst he0
     refine norm_has hH ?_
     clear hH
     refine th_n ?_
     refine wpE_joinT (fun ρ w => ∃ w12 : Sl, ∃ H : Nat → Prop, Has ρ [(1, ops1.v), (5, (vp r2)), (7, s1.v), (8, (vi r4)), (9, (vi r5)), (10, (vi r6)), (11, (vi r7)), (12, (vi r8)), (13, (vi r9)), (14, r10.v), (15, w12.v)] ∧ Hst w0 H w H w ∧ HB H w [] ∧ m_law09_RecipeEvals_j2 ops1 r2 s1 r4 r5 r6 r7 r8 r9 r10 w12 w0 H w K) ?_ ?_
     ·clear h hs hb
      rintro ρ w ⟨w12, H, hH, hs, hb, h⟩
      unfold m_law09_RecipeEvals_j2 at h
      refine wpE_has hH ?_
      clear hH
      refine wpE_seq (wpE_seq ?_)
      refine wpE_joinT (fun ρ w => ∃ x2 : Bool, ∃ H : Nat → Prop, Has ρ [(5, (vp r2)), (8, (vi r4)), (11, (vi r7)), (14, r10.v), (15, w12.v), (133, (vb x2))] ∧ Hst w0 H w H w ∧ HB H w [] ∧ m_law09_RecipeEvals_j3 r2 r4 r7 r10 w12 x2 w0 H w K) ?_ ?_
      ·clear h hs hb
       rintro ρ w ⟨x2, H, hH, hs, hb, h⟩
       unfold m_law09_RecipeEvals_j3 at h
       refine wpE_has hH ?_
       clear hH
       refine wpE_cond (t := x2) (by kernel_rfl) (fun hc3 => ?_) (fun hc3 => ?_)
       ·replace h := h.1 hc3
        refine wpE_seq (rg (q0 (vb false) (wpL_nil (th_n (wpE_ret (th_r (res1 (.inl rfl) Try.results12 (v := (vb false)) (by kernel_rfl) ?_)))))))
        exact ⟨false, rfl, h⟩
       ·replace h := h.2 hc3
        refine wpE_skip (th_n (wpE_seq (wpE_seq (rg (q0 (vi 0) (wpL_nil (th_n (wpE_block ?_))))))))
        obtain ⟨I1, mu1, h0, hr⟩ := h
        refine wpE_loop (σ := Int × (Nat → Prop) × World) (fun s ρ w => w = s.2.2 ∧ Has ρ [(5, (vp r2)), (8, (vi r4)), (11, (vi r7)), (14, r10.v), (15, w12.v), (16, (vi s.1))] ∧ Hst w0 s.2.1 w s.2.1 w ∧ HB s.2.1 w [] ∧ I1 s.1 s.2.1 s.2.2) (fun s => mu1 s.1 s.2.2) (0, H, w) ⟨rfl, Has.mk (by kernel_rfl), hs, hb, h0⟩ ?_
        clear hs hb
        rintro ⟨i1, Hl1, wl1⟩ ρ w ⟨hw, hH, hs, hb, hI⟩
        obtain rfl : wl1 = w := (show w = wl1 from hw).symm
        replace hH : Has ρ [(5, (vp r2)), (8, (vi r4)), (11, (vi r7)), (14, r10.v), (15, w12.v), (16, (vi i1))] := hH
        replace hs : Hst w0 Hl1 wl1 Hl1 wl1 := hs
        replace hb : HB Hl1 wl1 [] := hb
        have h := hr i1 Hl1 wl1 hs hI
        clear hr h0
        unfold m_law09_RecipeEvals_l4 at h
        refine wpE_has hH ?_
        clear hH hI
        refine wpE_seq (wpE_seq (rg (q0 (vi i1) (q0 r10.v (q0 (vi (r10.len : Int)) (q0 (vb (decide (i1 < (r10.len : Int)))) (wpL_nil (th_n ?_))))))))
        refine wpE_cond (t := (decide (i1 < (r10.len : Int)))) (by kernel_rfl) (fun hc4 => ?_) (fun hc4 => ?_)
        ·replace h := h.1 hc4
         refine wpE_skip (th_n (wpE_seq (wpE_block (wpE_seq (wpE_drawnQ (by kernel_rfl) (by kernel_rfl) (by kernel_rfl) (by kernel_rfl) ?_)))))
         intro w13 hw13
         replace hs : Hst w0 Hl1 wl1 Hl1 w13 := by rw [hw13]; exact hs.drew
         replace hb : HB Hl1 w13 [] := by rw [hw13]; exact hb.drew
         clear hw13
         refine qq 0 r10.v Kp0 (qq 1 (vi i1) Kp1 (qgo (k := 2) (by kernel_rfl) ?_))
         obtain ⟨a7, hv4, h⟩ := h
         refine sxQ (v := (vp (some a7))) Kp2 (want0 rfl) rfl (x_indexAddr (s := r10) (k := .i64) (i := i1) (by kernel_rfl) (by kernel_rfl) (Try.runUnderlying26 _) (Try.sizeOf41 _) hv4) (qgo (k := 3) (by kernel_rfl) ?_)
         replace h := h w13 hs
         replace hs := hs.here
         obtain ⟨v7, hv3, h⟩ := h
         refine sxQ (v := (vi v7)) Kp3 (want0 rfl) rfl (xl (Try.isAgg41 _) hv3) (qq 4 w12.v Kp4 (qq 5 (vi i1) Kp5 (qgo (k := 6) (by kernel_rfl) ?_)))
         obtain ⟨a8, hv2, h⟩ := h
         refine sxQ (v := (vp (some a8))) Kp6 (want0 rfl) rfl (x_indexAddr (s := w12) (k := .i64) (i := i1) (by kernel_rfl) (by kernel_rfl) (Try.runUnderlying26 _) (Try.sizeOf41 _) hv2) (qgo (k := 7) (by kernel_rfl) ?_)
         obtain ⟨v8, hv1, h⟩ := h
         refine sxQ (v := (vi v8)) Kp7 (want0 rfl) rfl (xl (Try.isAgg41 _) hv1) (qq 8 (vb (v7 != v8)) Kp8 (wpX_nil (by kernel_rfl) (th_n ?_)))
         refine wpE_cond (t := (v7 != v8)) (by kernel_rfl) (fun hc5 => ?_) (fun hc5 => ?_)
         ·replace h := h.1 hc5
          refine wpE_seq (rg (q0 (vb false) (wpL_nil (th_n (wpE_ret (bl_r (th_r (th_r (bl_r (th_r (res1 (.inl rfl) Try.results12 (v := (vb false)) (by kernel_rfl) ?_)))))))))))
          exact ⟨false, rfl, h⟩
         ·replace h := h.2 hc5
          refine wpE_skip (bl_n (th_n (rg (q0 (vi i1) (q0 (vi (IntKind.i64.wrap (i1 + 1))) (q0 (vi (IntKind.i64.wrap (i1 + 1))) (wpL_nil (th_n ?_))))))))
          exact ⟨((IntKind.i64.wrap (i1 + 1)), Hl1, w13), ⟨rfl, Has.mk (by kernel_rfl), hs, hb, h.1⟩, h.2⟩
        ·replace h := h.2 hc4
         refine wpE_exit (th_x (th_x (bl_eq (th_n (wpE_seq ?_)))))
         obtain ⟨C4, hC, h⟩ := h
         refine wpE_drawnC C4 [5, 11, 12, 14] [] (by kernel_rfl) (by kernel_rfl) (by kernel_rfl) (by kernel_rfl) hC ?_
         clear hC
         intro w14 hw14
         replace h := h w14 hw14
         replace hs : Hst w0 Hl1 wl1 Hl1 w14 := by rw [hw14]; exact hs.drew
         replace hb : HB Hl1 w14 [] := by rw [hw14]; exact hb.drew
         replace hs := hs.here
         refine qx 0 (vp r2) Kp0 (qgo (k := 1) (by kernel_rfl) ?_)
         obtain ⟨a9, hp7, h⟩ := h
         refine sx (v := (vp (some a9))) Kp1 (want0 rfl) (by kernel_rfl) (fun w' hw' => (x_nilCheck (p := r2) (by kernel_rfl) hp7)) (qx 2 (vp (some a9)) Kp2 (qgo (k := 3) (by kernel_rfl) ?_))
         obtain ⟨v9, hv6, h⟩ := h
         refine sx (v := (vp v9)) Kp3 (want0 rfl) (by kernel_rfl) (fun w' hw' => (xl (Try.isAgg25 _) (hv6 w' hw'))) (qx 4 (vi r4) Kp4 (qx 6 (vp r2) Kp6 (qgo (k := 7) (by kernel_rfl) ?_)))
         obtain ⟨a10, hp8, h⟩ := h
         refine sx (v := (vp (some a10))) Kp7 (want0 rfl) (by kernel_rfl) (fun w' hw' => (x_nilCheck (p := r2) (by kernel_rfl) hp8)) (qx 8 (vp (some (a10.add 2))) Kp8 (qgo (k := 9) (by kernel_rfl) ?_))
         obtain ⟨v10, hv5, h⟩ := h
         refine sx (v := (vp v10)) Kp9 (want0 rfl) (by kernel_rfl) (fun w' hw' => (xl (Try.isAgg59 _) (hv5 w' hw'))) (qx 10 (vi r7) (pickA (S8 (pickS (pickS pickZ)))) (lgo (k := 5) (by kernel_rfl) ?_))
         refine sl_call Kp5 (want0 rfl) (by kernel_rfl) (xc Try.call62) (h.mono ?_)
         rintro e w15 ⟨aA, aB, aC, aD, aE, aH, rfl, hC, hk, h⟩
         refine ⟨_, rfl, .inr hC, ?_⟩
         obtain ⟨hs, hb⟩ := hk.hh hs hb
         refine lgo (k := 11) (by kernel_rfl) ?_
         refine sl_call (pickA (S8 (pickS (pickS (pickS pickZ))))) (want0 rfl) (by kernel_rfl) (xc Try.call63) (h.mono ?_)
         rintro e w16 ⟨aU, aV, aW, aX, aY, aZ, rfl, hC, hk, h⟩
         refine ⟨_, rfl, .inr hC, ?_⟩
         obtain ⟨hs, hb⟩ := hk.hh hs hb
         refine lgo (k := 12) (by kernel_rfl) ?_
         refine sl_call (pickA (S8 (S4 pickZ))) (want0 rfl) (by kernel_rfl) (xc Try.call61) (h.mono ?_)
         rintro e w17 ⟨r11, rfl, hC, hk, h⟩
         refine ⟨_, rfl, .inr hC, ?_⟩
         obtain ⟨hs, hb⟩ := hk.hh hs hb
         refine qx 13 (vb r11) (pickA (S8 (S4 (pickS pickZ)))) (lgo (k := 14) (by kernel_rfl) ?_)
         rcases Bool.eq_false_or_eq_true r11 with hg3 | hg3
         ·replace h := h.1 hg3
          refine sl_call (pickA (S8 (S4 (pickS (pickS pickZ))))) (want1 rfl (yD 162 hg3)) (by kernel_rfl) (xc Try.call52) (h.mono ?_)
          rintro e w18 ⟨r12, rfl, hC, hk, h⟩
          refine ⟨_, rfl, .inr hC, ?_⟩
          obtain ⟨hs, hb⟩ := hk.hh hs hb
          refine qz 15 (vb r12) (pickA (S8 (S4 (pickS (pickS (pickS pickZ)))))) (fun w' hw' => (xT hg3)) (qx 16 (vb r12) (pickA (S8 (S8 pickZ))) (wpX_nil (by kernel_rfl) (th_n (wpE_ret (res1 (.inl rfl) Try.results12 (v := (vb r12)) (by kernel_rfl) ?_)))))
          exact ⟨r12, rfl, h⟩
         ·replace h := h.2 hg3
          refine sx_not (pickA (S8 (S4 (pickS (pickS pickZ))))) (unwant rfl (yD 162 hg3) rfl) (qz 15 (vb false) (pickA (S8 (S4 (pickS (pickS (pickS pickZ)))))) (fun w' hw' => (xF hg3)) (qx 16 (vb false) (pickA (S8 (S8 pickZ))) (wpX_nil (by kernel_rfl) (th_n (wpE_ret (res1 (.inl rfl) Try.results12 (v := (vb false)) (by kernel_rfl) ?_))))))
          exact ⟨false, rfl, h⟩
      ·skip
       obtain ⟨C5, hC, h⟩ := h
       refine wpE_drawnC C5 [5, 26, 40] [] (by kernel_rfl) (by kernel_rfl) (by kernel_rfl) (by kernel_rfl) hC ?_
       clear hC
       intro w19 hw19
       replace h := h w19 hw19
       replace hs : Hst w0 H w H w19 := by rw [hw19]; exact hs.drew
       replace hb : HB H w19 [] := by rw [hw19]; exact hb.drew
       replace hs := hs.here
       refine qx 0 (vi r4) Kp0 (qx 1 (vi r7) Kp1 (qx 2 (vb (r4 != r7)) Kp2 (qx 3 (vb (r4 != r7)) Kp3 (qgo (k := 4) (by kernel_rfl) ?_))))
       rcases Bool.eq_false_or_eq_true (r4 != r7) with hg4 | hg4
       ·replace h := h.1 hg4
        refine sx_not Kp4 (unwant rfl (yD 94 hg4) rfl) (qn 6 Kp6 (unwant rfl (yD 94 hg4) rfl) (lgo (k := 5) (by kernel_rfl) (sx_not Kp5 (unwant rfl (yD 94 hg4) rfl) (qn 7 Kp7 (unwant rfl (yD 94 hg4) rfl) (qz 8 (vb true) Kp8 (fun w' hw' => (xT hg4)) (qx 9 (vb true) Kp9 (qn 10 (pickA (S8 (pickS (pickS pickZ)))) (unwant rfl (yD (c := true) 100 rfl) rfl) (qn 11 (pickA (S8 (pickS (pickS (pickS pickZ))))) (unwant rfl (yD (c := true) 100 rfl) rfl) (qn 12 (pickA (S8 (S4 pickZ))) (unwant rfl (yD (c := true) 100 rfl) rfl) (qx 13 (vb true) (pickA (S8 (S4 (pickS pickZ)))) (qx 14 (vb true) (pickA (S8 (S4 (pickS (pickS pickZ))))) ?_)))))))))))
        refine qn 15 (pickA (S8 (S4 (pickS (pickS (pickS pickZ)))))) (unwant rfl (yD (c := true) 105 rfl) rfl) (qn 16 (pickA (S8 (S8 pickZ))) (unwant rfl (yD (c := true) 105 rfl) rfl) (qn 17 (pickA (S8 (S8 (pickS pickZ)))) (unwant rfl (yD (c := true) 105 rfl) rfl) (qn 18 (pickA (S8 (S8 (pickS (pickS pickZ))))) (unwant rfl (yD (c := true) 105 rfl) rfl) (qn 19 (pickA (S8 (S8 (pickS (pickS (pickS pickZ)))))) (unwant rfl (yD (c := true) 105 rfl) rfl) (qx 20 (vb true) (pickA (S8 (S8 (S4 pickZ)))) (qx 21 (vb true) (pickA (S8 (S8 (S4 (pickS pickZ))))) (qn 22 (pickA (S8 (S8 (S4 (pickS (pickS pickZ)))))) (unwant rfl (yD (c := true) 112 rfl) rfl) (qn 23 (pickA (S8 (S8 (S4 (pickS (pickS (pickS pickZ))))))) (unwant rfl (yD (c := true) 112 rfl) rfl) (qn 24 (pickA (S8 (S8 (S8 pickZ)))) (unwant rfl (yD (c := true) 112 rfl) rfl) (qn 25 (pickA (S8 (S8 (S8 (pickS pickZ))))) (unwant rfl (yD (c := true) 112 rfl) rfl) (qn 27 (pickA (S8 (S8 (S8 (pickS (pickS (pickS pickZ))))))) (unwant rfl (yD (c := true) 112 rfl) rfl) ?_)))))))))))
        refine qn 28 (pickA (S8 (S8 (S8 (S4 pickZ))))) (unwant rfl (yD (c := true) 112 rfl) rfl) (qn 29 (pickA (S8 (S8 (S8 (S4 (pickS pickZ)))))) (unwant rfl (yD (c := true) 112 rfl) rfl) (qn 30 (pickA (S8 (S8 (S8 (S4 (pickS (pickS pickZ))))))) (unwant rfl (yD (c := true) 112 rfl) rfl) (qn 31 (pickA (S8 (S8 (S8 (S4 (pickS (pickS (pickS pickZ)))))))) (unwant rfl (yD (c := true) 112 rfl) rfl) (qn 32 (pickA (S8 (S8 (S8 (S8 pickZ))))) (unwant rfl (yD (c := true) 112 rfl) rfl) (qn 33 (pickA (S8 (S8 (S8 (S8 (pickS pickZ)))))) (unwant rfl (yD (c := true) 112 rfl) rfl) (qn 34 (pickA (S8 (S8 (S8 (S8 (pickS (pickS pickZ))))))) (unwant rfl (yD (c := true) 112 rfl) rfl) (lgo (k := 26) (by kernel_rfl) (sx_not (pickA (S8 (S8 (S8 (pickS (pickS pickZ)))))) (unwant rfl (yD (c := true) 112 rfl) rfl) (qn 35 (pickA (S8 (S8 (S8 (S8 (pickS (pickS (pickS pickZ)))))))) (unwant rfl (yD (c := true) 112 rfl) rfl) (qx 36 (vb true) (pickA (S8 (S8 (S8 (S8 (S4 pickZ)))))) (qx 37 (vb true) (pickA (S8 (S8 (S8 (S8 (S4 (pickS pickZ))))))) ?_)))))))))))
        refine qn 38 (pickA (S8 (S8 (S8 (S8 (S4 (pickS (pickS pickZ)))))))) (unwant rfl (yD (c := true) 128 rfl) rfl) (qn 39 (pickA (S8 (S8 (S8 (S8 (S4 (pickS (pickS (pickS pickZ))))))))) (unwant rfl (yD (c := true) 128 rfl) rfl) (lgo (k := 40) (by kernel_rfl) (sx_not (pickA (S8 (S8 (S8 (S8 (S8 pickZ)))))) (unwant rfl (yD (c := true) 128 rfl) rfl) (qn 41 (pickA (S8 (S8 (S8 (S8 (S8 (pickS pickZ))))))) (unwant rfl (yD (c := true) 128 rfl) rfl) (qx 42 (vb true) (pickA (S8 (S8 (S8 (S8 (S8 (pickS (pickS pickZ)))))))) (wpX_nil (by kernel_rfl) (th_n ?_)))))))
        exact ⟨true, H, Has.mk (by kernel_rfl), hs, hb, h⟩
       ·replace h := h.2 hg4
        refine sx (v := (vi r5)) Kp4 (want1 rfl (yD 94 hg4)) (by kernel_rfl) (fun w' hw' => (by kernel_rfl)) (qw 6 (vi r8) Kp6 (want1 rfl (yD 94 hg4)) (lgo (k := 5) (by kernel_rfl) ?_))
        refine sl_call Kp5 (want1 rfl (yD 94 hg4)) (by kernel_rfl) (xc Try.call58) (h.mono ?_)
        rintro e w20 ⟨r13, rfl, hC, hk, h⟩
        refine ⟨_, rfl, .inr hC, ?_⟩
        obtain ⟨hs, hb⟩ := hk.hh hs hb
        refine qw 7 (vb (r13 != r8)) Kp7 (want1 rfl (yD 94 hg4)) (qz 8 (vb (r13 != r8)) Kp8 (fun w' hw' => (xF hg4)) (qx 9 (vb (r13 != r8)) Kp9 (qgo (k := 10) (by kernel_rfl) ?_)))
        rcases Bool.eq_false_or_eq_true (r13 != r8) with hg5 | hg5
        ·replace h := h.1 hg5
         refine sx_not (pickA (S8 (pickS (pickS pickZ)))) (unwant rfl (yD 100 hg5) rfl) (qn 11 (pickA (S8 (pickS (pickS (pickS pickZ))))) (unwant rfl (yD 100 hg5) rfl) (qn 12 (pickA (S8 (S4 pickZ))) (unwant rfl (yD 100 hg5) rfl) (qz 13 (vb true) (pickA (S8 (S4 (pickS pickZ)))) (fun w' hw' => (xT hg5)) (qx 14 (vb true) (pickA (S8 (S4 (pickS (pickS pickZ))))) (qn 15 (pickA (S8 (S4 (pickS (pickS (pickS pickZ)))))) (unwant rfl (yD (c := true) 105 rfl) rfl) (qn 16 (pickA (S8 (S8 pickZ))) (unwant rfl (yD (c := true) 105 rfl) rfl) (qn 17 (pickA (S8 (S8 (pickS pickZ)))) (unwant rfl (yD (c := true) 105 rfl) rfl) (qn 18 (pickA (S8 (S8 (pickS (pickS pickZ))))) (unwant rfl (yD (c := true) 105 rfl) rfl) (qn 19 (pickA (S8 (S8 (pickS (pickS (pickS pickZ)))))) (unwant rfl (yD (c := true) 105 rfl) rfl) (qx 20 (vb true) (pickA (S8 (S8 (S4 pickZ)))) (qx 21 (vb true) (pickA (S8 (S8 (S4 (pickS pickZ))))) ?_)))))))))))
         refine qn 22 (pickA (S8 (S8 (S4 (pickS (pickS pickZ)))))) (unwant rfl (yD (c := true) 112 rfl) rfl) (qn 23 (pickA (S8 (S8 (S4 (pickS (pickS (pickS pickZ))))))) (unwant rfl (yD (c := true) 112 rfl) rfl) (qn 24 (pickA (S8 (S8 (S8 pickZ)))) (unwant rfl (yD (c := true) 112 rfl) rfl) (qn 25 (pickA (S8 (S8 (S8 (pickS pickZ))))) (unwant rfl (yD (c := true) 112 rfl) rfl) (qn 27 (pickA (S8 (S8 (S8 (pickS (pickS (pickS pickZ))))))) (unwant rfl (yD (c := true) 112 rfl) rfl) (qn 28 (pickA (S8 (S8 (S8 (S4 pickZ))))) (unwant rfl (yD (c := true) 112 rfl) rfl) (qn 29 (pickA (S8 (S8 (S8 (S4 (pickS pickZ)))))) (unwant rfl (yD (c := true) 112 rfl) rfl) (qn 30 (pickA (S8 (S8 (S8 (S4 (pickS (pickS pickZ))))))) (unwant rfl (yD (c := true) 112 rfl) rfl) (qn 31 (pickA (S8 (S8 (S8 (S4 (pickS (pickS (pickS pickZ)))))))) (unwant rfl (yD (c := true) 112 rfl) rfl) (qn 32 (pickA (S8 (S8 (S8 (S8 pickZ))))) (unwant rfl (yD (c := true) 112 rfl) rfl) (qn 33 (pickA (S8 (S8 (S8 (S8 (pickS pickZ)))))) (unwant rfl (yD (c := true) 112 rfl) rfl) (qn 34 (pickA (S8 (S8 (S8 (S8 (pickS (pickS pickZ))))))) (unwant rfl (yD (c := true) 112 rfl) rfl) ?_)))))))))))
         refine lgo (k := 26) (by kernel_rfl) (sx_not (pickA (S8 (S8 (S8 (pickS (pickS pickZ)))))) (unwant rfl (yD (c := true) 112 rfl) rfl) (qn 35 (pickA (S8 (S8 (S8 (S8 (pickS (pickS (pickS pickZ)))))))) (unwant rfl (yD (c := true) 112 rfl) rfl) (qx 36 (vb true) (pickA (S8 (S8 (S8 (S8 (S4 pickZ)))))) (qx 37 (vb true) (pickA (S8 (S8 (S8 (S8 (S4 (pickS pickZ))))))) (qn 38 (pickA (S8 (S8 (S8 (S8 (S4 (pickS (pickS pickZ)))))))) (unwant rfl (yD (c := true) 128 rfl) rfl) (qn 39 (pickA (S8 (S8 (S8 (S8 (S4 (pickS (pickS (pickS pickZ))))))))) (unwant rfl (yD (c := true) 128 rfl) rfl) (lgo (k := 40) (by kernel_rfl) (sx_not (pickA (S8 (S8 (S8 (S8 (S8 pickZ)))))) (unwant rfl (yD (c := true) 128 rfl) rfl) (qn 41 (pickA (S8 (S8 (S8 (S8 (S8 (pickS pickZ))))))) (unwant rfl (yD (c := true) 128 rfl) rfl) (qx 42 (vb true) (pickA (S8 (S8 (S8 (S8 (S8 (pickS (pickS pickZ)))))))) (wpX_nil (by kernel_rfl) ?_)))))))))))
         refine th_n ?_
         exact ⟨true, H, Has.mk (by kernel_rfl), hs, hb, h⟩
        ·replace h := h.2 hg5
         refine sx (v := (vi r6)) (pickA (S8 (pickS (pickS pickZ)))) (want1 rfl (yD 100 hg5)) (by kernel_rfl) (fun w' hw' => (by kernel_rfl)) (qw 11 (vi r9) (pickA (S8 (pickS (pickS (pickS pickZ))))) (want1 rfl (yD 100 hg5)) (qw 12 (vb (r6 != r9)) (pickA (S8 (S4 pickZ))) (want1 rfl (yD 100 hg5)) (qz 13 (vb (r6 != r9)) (pickA (S8 (S4 (pickS pickZ)))) (fun w' hw' => (xF hg5)) (qx 14 (vb (r6 != r9)) (pickA (S8 (S4 (pickS (pickS pickZ))))) (qgo (k := 15) (by kernel_rfl) ?_)))))
         rcases Bool.eq_false_or_eq_true (r6 != r9) with hg6 | hg6
         ·replace h := h.1 hg6
          refine sx_not (pickA (S8 (S4 (pickS (pickS (pickS pickZ)))))) (unwant rfl (yD 105 hg6) rfl) (qn 16 (pickA (S8 (S8 pickZ))) (unwant rfl (yD 105 hg6) rfl) (qn 17 (pickA (S8 (S8 (pickS pickZ)))) (unwant rfl (yD 105 hg6) rfl) (qn 18 (pickA (S8 (S8 (pickS (pickS pickZ))))) (unwant rfl (yD 105 hg6) rfl) (qn 19 (pickA (S8 (S8 (pickS (pickS (pickS pickZ)))))) (unwant rfl (yD 105 hg6) rfl) (qz 20 (vb true) (pickA (S8 (S8 (S4 pickZ)))) (fun w' hw' => (xT hg6)) (qx 21 (vb true) (pickA (S8 (S8 (S4 (pickS pickZ))))) (qn 22 (pickA (S8 (S8 (S4 (pickS (pickS pickZ)))))) (unwant rfl (yD (c := true) 112 rfl) rfl) (qn 23 (pickA (S8 (S8 (S4 (pickS (pickS (pickS pickZ))))))) (unwant rfl (yD (c := true) 112 rfl) rfl) (qn 24 (pickA (S8 (S8 (S8 pickZ)))) (unwant rfl (yD (c := true) 112 rfl) rfl) (qn 25 (pickA (S8 (S8 (S8 (pickS pickZ))))) (unwant rfl (yD (c := true) 112 rfl) rfl) (qn 27 (pickA (S8 (S8 (S8 (pickS (pickS (pickS pickZ))))))) (unwant rfl (yD (c := true) 112 rfl) rfl) ?_)))))))))))
          refine qn 28 (pickA (S8 (S8 (S8 (S4 pickZ))))) (unwant rfl (yD (c := true) 112 rfl) rfl) (qn 29 (pickA (S8 (S8 (S8 (S4 (pickS pickZ)))))) (unwant rfl (yD (c := true) 112 rfl) rfl) (qn 30 (pickA (S8 (S8 (S8 (S4 (pickS (pickS pickZ))))))) (unwant rfl (yD (c := true) 112 rfl) rfl) (qn 31 (pickA (S8 (S8 (S8 (S4 (pickS (pickS (pickS pickZ)))))))) (unwant rfl (yD (c := true) 112 rfl) rfl) (qn 32 (pickA (S8 (S8 (S8 (S8 pickZ))))) (unwant rfl (yD (c := true) 112 rfl) rfl) (qn 33 (pickA (S8 (S8 (S8 (S8 (pickS pickZ)))))) (unwant rfl (yD (c := true) 112 rfl) rfl) (qn 34 (pickA (S8 (S8 (S8 (S8 (pickS (pickS pickZ))))))) (unwant rfl (yD (c := true) 112 rfl) rfl) (lgo (k := 26) (by kernel_rfl) (sx_not (pickA (S8 (S8 (S8 (pickS (pickS pickZ)))))) (unwant rfl (yD (c := true) 112 rfl) rfl) (qn 35 (pickA (S8 (S8 (S8 (S8 (pickS (pickS (pickS pickZ)))))))) (unwant rfl (yD (c := true) 112 rfl) rfl) (qx 36 (vb true) (pickA (S8 (S8 (S8 (S8 (S4 pickZ)))))) (qx 37 (vb true) (pickA (S8 (S8 (S8 (S8 (S4 (pickS pickZ))))))) ?_)))))))))))
          refine qn 38 (pickA (S8 (S8 (S8 (S8 (S4 (pickS (pickS pickZ)))))))) (unwant rfl (yD (c := true) 128 rfl) rfl) (qn 39 (pickA (S8 (S8 (S8 (S8 (S4 (pickS (pickS (pickS pickZ))))))))) (unwant rfl (yD (c := true) 128 rfl) rfl) (lgo (k := 40) (by kernel_rfl) (sx_not (pickA (S8 (S8 (S8 (S8 (S8 pickZ)))))) (unwant rfl (yD (c := true) 128 rfl) rfl) (qn 41 (pickA (S8 (S8 (S8 (S8 (S8 (pickS pickZ))))))) (unwant rfl (yD (c := true) 128 rfl) rfl) (qx 42 (vb true) (pickA (S8 (S8 (S8 (S8 (S8 (pickS (pickS pickZ)))))))) (wpX_nil (by kernel_rfl) (th_n ?_)))))))
          exact ⟨true, H, Has.mk (by kernel_rfl), hs, hb, h⟩
         ·replace h := h.2 hg6
          refine sx (v := r10.v) (pickA (S8 (S4 (pickS (pickS (pickS pickZ)))))) (want1 rfl (yD 105 hg6)) (by kernel_rfl) (fun w' hw' => (by kernel_rfl)) (qw 16 (vi (r10.len : Int)) (pickA (S8 (S8 pickZ))) (want1 rfl (yD 105 hg6)) (qw 17 w12.v (pickA (S8 (S8 (pickS pickZ)))) (want1 rfl (yD 105 hg6)) (qw 18 (vi (w12.len : Int)) (pickA (S8 (S8 (pickS (pickS pickZ))))) (want1 rfl (yD 105 hg6)) (qw 19 (vb (((r10.len : Int) : Int) != (w12.len : Int))) (pickA (S8 (S8 (pickS (pickS (pickS pickZ)))))) (want1 rfl (yD 105 hg6)) (qz 20 (vb (((r10.len : Int) : Int) != (w12.len : Int))) (pickA (S8 (S8 (S4 pickZ)))) (fun w' hw' => (xF hg6)) (qx 21 (vb (((r10.len : Int) : Int) != (w12.len : Int))) (pickA (S8 (S8 (S4 (pickS pickZ))))) (qgo (k := 22) (by kernel_rfl) ?_)))))))
          rcases Bool.eq_false_or_eq_true (((r10.len : Int) : Int) != (w12.len : Int)) with hg7 | hg7
          ·replace h := h.1 hg7
           refine sx_not (pickA (S8 (S8 (S4 (pickS (pickS pickZ)))))) (unwant rfl (yD 112 hg7) rfl) (qn 23 (pickA (S8 (S8 (S4 (pickS (pickS (pickS pickZ))))))) (unwant rfl (yD 112 hg7) rfl) (qn 24 (pickA (S8 (S8 (S8 pickZ)))) (unwant rfl (yD 112 hg7) rfl) (qn 25 (pickA (S8 (S8 (S8 (pickS pickZ))))) (unwant rfl (yD 112 hg7) rfl) (qn 27 (pickA (S8 (S8 (S8 (pickS (pickS (pickS pickZ))))))) (unwant rfl (yD 112 hg7) rfl) (qn 28 (pickA (S8 (S8 (S8 (S4 pickZ))))) (unwant rfl (yD 112 hg7) rfl) (qn 29 (pickA (S8 (S8 (S8 (S4 (pickS pickZ)))))) (unwant rfl (yD 112 hg7) rfl) (qn 30 (pickA (S8 (S8 (S8 (S4 (pickS (pickS pickZ))))))) (unwant rfl (yD 112 hg7) rfl) (qn 31 (pickA (S8 (S8 (S8 (S4 (pickS (pickS (pickS pickZ)))))))) (unwant rfl (yD 112 hg7) rfl) (qn 32 (pickA (S8 (S8 (S8 (S8 pickZ))))) (unwant rfl (yD 112 hg7) rfl) (qn 33 (pickA (S8 (S8 (S8 (S8 (pickS pickZ)))))) (unwant rfl (yD 112 hg7) rfl) (qn 34 (pickA (S8 (S8 (S8 (S8 (pickS (pickS pickZ))))))) (unwant rfl (yD 112 hg7) rfl) ?_)))))))))))
           refine lgo (k := 26) (by kernel_rfl) (sx_not (pickA (S8 (S8 (S8 (pickS (pickS pickZ)))))) (unwant rfl (yD 112 hg7) rfl) (qn 35 (pickA (S8 (S8 (S8 (S8 (pickS (pickS (pickS pickZ)))))))) (unwant rfl (yD 112 hg7) rfl) (qz 36 (vb true) (pickA (S8 (S8 (S8 (S8 (S4 pickZ)))))) (fun w' hw' => (xT hg7)) (qx 37 (vb true) (pickA (S8 (S8 (S8 (S8 (S4 (pickS pickZ))))))) (qn 38 (pickA (S8 (S8 (S8 (S8 (S4 (pickS (pickS pickZ)))))))) (unwant rfl (yD (c := true) 128 rfl) rfl) (qn 39 (pickA (S8 (S8 (S8 (S8 (S4 (pickS (pickS (pickS pickZ))))))))) (unwant rfl (yD (c := true) 128 rfl) rfl) (lgo (k := 40) (by kernel_rfl) (sx_not (pickA (S8 (S8 (S8 (S8 (S8 pickZ)))))) (unwant rfl (yD (c := true) 128 rfl) rfl) (qn 41 (pickA (S8 (S8 (S8 (S8 (S8 (pickS pickZ))))))) (unwant rfl (yD (c := true) 128 rfl) rfl) (qx 42 (vb true) (pickA (S8 (S8 (S8 (S8 (S8 (pickS (pickS pickZ)))))))) (wpX_nil (by kernel_rfl) ?_)))))))))))
           refine th_n ?_
           exact ⟨true, H, Has.mk (by kernel_rfl), hs, hb, h⟩
          ·replace h := h.2 hg7
           refine sx (v := (vp r2)) (pickA (S8 (S8 (S4 (pickS (pickS pickZ)))))) (want1 rfl (yD 112 hg7)) (by kernel_rfl) (fun w' hw' => (by kernel_rfl)) (qgo (k := 23) (by kernel_rfl) ?_)
           obtain ⟨a11, hp9, h⟩ := h
           refine sx (v := (vp (some a11))) (pickA (S8 (S8 (S4 (pickS (pickS (pickS pickZ))))))) (want1 rfl (yD 112 hg7)) (by kernel_rfl) (fun w' hw' => (x_nilCheck (p := r2) (by kernel_rfl) hp9)) (qw 24 (vp (some a11)) (pickA (S8 (S8 (S8 pickZ)))) (want1 rfl (yD 112 hg7)) (qgo (k := 25) (by kernel_rfl) ?_))
           obtain ⟨v11, hv9, h⟩ := h
           refine sx (v := (vp v11)) (pickA (S8 (S8 (S8 (pickS pickZ))))) (want1 rfl (yD 112 hg7)) (by kernel_rfl) (fun w' hw' => (xl (Try.isAgg25 _) (hv9 w' hw'))) (qw 27 (vp r2) (pickA (S8 (S8 (S8 (pickS (pickS (pickS pickZ))))))) (want1 rfl (yD 112 hg7)) (qgo (k := 28) (by kernel_rfl) ?_))
           obtain ⟨a12, hp10, h⟩ := h
           refine sx (v := (vp (some a12))) (pickA (S8 (S8 (S8 (S4 pickZ))))) (want1 rfl (yD 112 hg7)) (by kernel_rfl) (fun w' hw' => (x_nilCheck (p := r2) (by kernel_rfl) hp10)) (qw 29 (vp (some (a12.add 2))) (pickA (S8 (S8 (S8 (S4 (pickS pickZ)))))) (want1 rfl (yD 112 hg7)) (qgo (k := 30) (by kernel_rfl) ?_))
           obtain ⟨v12, hv8, h⟩ := h
           refine sx (v := (vp v12)) (pickA (S8 (S8 (S8 (S4 (pickS (pickS pickZ))))))) (want1 rfl (yD 112 hg7)) (by kernel_rfl) (fun w' hw' => (xl (Try.isAgg59 _) (hv8 w' hw'))) (qgo (k := 31) (by kernel_rfl) ?_)
           obtain ⟨a13, hp11, h⟩ := h
           refine sx (v := (vp (some a13))) (pickA (S8 (S8 (S8 (S4 (pickS (pickS (pickS pickZ)))))))) (want1 rfl (yD 112 hg7)) (by kernel_rfl) (fun w' hw' => (x_nilCheck (p := v12) (by kernel_rfl) hp11)) (qw 32 (vp (some a13)) (pickA (S8 (S8 (S8 (S8 pickZ))))) (want1 rfl (yD 112 hg7)) (qgo (k := 33) (by kernel_rfl) ?_))
           obtain ⟨v13, hv7, h⟩ := h
           refine sx (v := v13.v) (pickA (S8 (S8 (S8 (S8 (pickS pickZ)))))) (want1 rfl (yD 112 hg7)) (by kernel_rfl) (fun w' hw' => (xl (Try.isAgg72 _) (hv7 w' hw'))) (qw 34 (vi (v13.len : Int)) (pickA (S8 (S8 (S8 (S8 (pickS (pickS pickZ))))))) (want1 rfl (yD 112 hg7)) (lgo (k := 26) (by kernel_rfl) ?_))
           refine sl_call (pickA (S8 (S8 (S8 (pickS (pickS pickZ)))))) (want1 rfl (yD 112 hg7)) (by kernel_rfl) (xc Try.call59) (h.mono ?_)
           rintro e w21 ⟨r14, rfl, hC, hk, h⟩
           refine ⟨_, rfl, .inr hC, ?_⟩
           obtain ⟨hs, hb⟩ := hk.hh hs hb
           refine qw 35 (vb (r14 != (v13.len : Int))) (pickA (S8 (S8 (S8 (S8 (pickS (pickS (pickS pickZ)))))))) (want1 rfl (yD 112 hg7)) (qz 36 (vb (r14 != (v13.len : Int))) (pickA (S8 (S8 (S8 (S8 (S4 pickZ)))))) (fun w' hw' => (xF hg7)) (qx 37 (vb (r14 != (v13.len : Int))) (pickA (S8 (S8 (S8 (S8 (S4 (pickS pickZ))))))) (qgo (k := 38) (by kernel_rfl) ?_)))
           rcases Bool.eq_false_or_eq_true (r14 != (v13.len : Int)) with hg8 | hg8
           ·replace h := h.1 hg8
            refine sx_not (pickA (S8 (S8 (S8 (S8 (S4 (pickS (pickS pickZ)))))))) (unwant rfl (yD 128 hg8) rfl) (qn 39 (pickA (S8 (S8 (S8 (S8 (S4 (pickS (pickS (pickS pickZ))))))))) (unwant rfl (yD 128 hg8) rfl) (lgo (k := 40) (by kernel_rfl) (sx_not (pickA (S8 (S8 (S8 (S8 (S8 pickZ)))))) (unwant rfl (yD 128 hg8) rfl) (qn 41 (pickA (S8 (S8 (S8 (S8 (S8 (pickS pickZ))))))) (unwant rfl (yD 128 hg8) rfl) (qz 42 (vb true) (pickA (S8 (S8 (S8 (S8 (S8 (pickS (pickS pickZ)))))))) (fun w' hw' => (xT hg8)) (wpX_nil (by kernel_rfl) (th_n ?_)))))))
            exact ⟨true, H, Has.mk (by kernel_rfl), hs, hb, h⟩
           ·replace h := h.2 hg8
            refine sx (v := s1.v) (pickA (S8 (S8 (S8 (S8 (S4 (pickS (pickS pickZ)))))))) (want1 rfl (yD 128 hg8)) (by kernel_rfl) (fun w' hw' => (by kernel_rfl)) (qw 39 ops1.v (pickA (S8 (S8 (S8 (S8 (S4 (pickS (pickS (pickS pickZ))))))))) (want1 rfl (yD 128 hg8)) (lgo (k := 40) (by kernel_rfl) ?_))
            refine sl_call (pickA (S8 (S8 (S8 (S8 (S8 pickZ)))))) (want1 rfl (yD 128 hg8)) (by kernel_rfl) (xc Try.call60) (h.mono ?_)
            rintro e w22 ⟨r15, rfl, hC, hk, h⟩
            refine ⟨_, rfl, .inr hC, ?_⟩
            obtain ⟨hs, hb⟩ := hk.hh hs hb
            refine qw 41 (vb (!r15)) (pickA (S8 (S8 (S8 (S8 (S8 (pickS pickZ))))))) (want1 rfl (yD 128 hg8)) (qz 42 (vb (!r15)) (pickA (S8 (S8 (S8 (S8 (S8 (pickS (pickS pickZ)))))))) (fun w' hw' => (xF hg8)) (wpX_nil (by kernel_rfl) (th_n ?_)))
            exact ⟨(!r15), H, Has.mk (by kernel_rfl), hs, hb, h⟩
     ·skip
      refine wpE_cond (t := ((r8 != 6) && (r8 != 3))) (by kernel_rfl) (fun hc6 => ?_) (fun hc6 => ?_)
      ·replace h := h.1 hc6
       replace h := h H1 w11 hs
       replace hs := hs.here
       obtain ⟨C6, hC, h⟩ := h
       refine wpE_drawnC C6 [9] [] (by kernel_rfl) (by kernel_rfl) (by kernel_rfl) (by kernel_rfl) hC ?_
       clear hC
       intro w23 hw23
       replace h := h w23 hw23
       replace hs : Hst w0 H1 w11 H1 w23 := by rw [hw23]; exact hs.drew
       replace hb : HB H1 w23 [] := by rw [hw23]; exact hb.drew
       replace hs := hs.here
       refine qx 0 (vp r2) Kp0 (qgo (k := 1) (by kernel_rfl) ?_)
       obtain ⟨a14, hp12, h⟩ := h
       refine sx (v := (vp (some a14))) Kp1 (want0 rfl) (by kernel_rfl) (fun w' hw' => (x_nilCheck (p := r2) (by kernel_rfl) hp12)) (qx 2 (vp (some (a14.add 2))) Kp2 (qgo (k := 3) (by kernel_rfl) ?_))
       obtain ⟨v14, hv11, h⟩ := h
       refine sx (v := (vp v14)) Kp3 (want0 rfl) (by kernel_rfl) (fun w' hw' => (xl (Try.isAgg59 _) (hv11 w' hw'))) (qx 4 (vp r2) Kp4 (qgo (k := 5) (by kernel_rfl) ?_))
       obtain ⟨a15, hp13, h⟩ := h
       refine sx (v := (vp (some a15))) Kp5 (want0 rfl) (by kernel_rfl) (fun w' hw' => (x_nilCheck (p := r2) (by kernel_rfl) hp13)) (qx 6 (vp (some (a15.add 3))) Kp6 (qgo (k := 7) (by kernel_rfl) ?_))
       obtain ⟨v15, hv10, h⟩ := h
       refine sx (v := v15.v) Kp7 (want0 rfl) (by kernel_rfl) (fun w' hw' => (xl (Try.isAgg26 _) (hv10 w' hw'))) (qx 8 ops1.v Kp8 (lgo (k := 9) (by kernel_rfl) ?_))
       refine sl_call Kp9 (want0 rfl) (by kernel_rfl) (xc Try.call57) (h.mono ?_)
       rintro e w24 ⟨r16, r17, rfl, hC, hk, h⟩
       refine ⟨_, rfl, .inr hC, ?_⟩
       obtain ⟨hs, hb⟩ := hk.hh hs hb
       refine qx 10 (.tuple #[r16.v, (vi r17)]) (pickA (S8 (pickS (pickS pickZ)))) (qx 11 r16.v (pickA (S8 (pickS (pickS (pickS pickZ))))) (qx 12 (vi r17) (pickA (S8 (S4 pickZ))) (qx 13 r16.v (pickA (S8 (S4 (pickS pickZ)))) (wpX_nil (by kernel_rfl) (th_n ?_)))))
       exact ⟨r16, H1, Has.mk (by kernel_rfl), hs, hb, h⟩
      ·replace h := h.2 hc6
       refine wpE_skip ?_
       replace h := h H1 w11 hs
       replace hs := hs.here
       refine th_n ?_
       exact ⟨Sl.nil, H1, Has.mk (by kernel_rfl), hs, hb, h⟩
 ·skip
  refine rg (q0 l1.v ?_)
  refine st_call (want0 rfl) (xc Try.call50) (h.mono ?_)
  rintro e w25 ⟨r18, rfl, hk, h⟩
  refine ⟨_, rfl, ?_⟩
  obtain ⟨hs, hb⟩ := hk.hh hs hb
  refine q0 (vb r18) ?_
  rcases Bool.eq_false_or_eq_true r18 with hg9 | hg9
  ·replace h := h.1 hg9
   refine sk (yD 19 hg9) (sk (yD 19 hg9) (q2 (vb true) (xT hg9) (wpL_nil (th_n ?_))))
   exact ⟨true, None, Has.mk (by kernel_rfl), hs, hb, h⟩
  ·replace h := h.2 hg9
   refine q1 ops1.v (want1 rfl (yD 19 hg9)) ?_
   refine st_call (want1 rfl (yD 19 hg9)) (xc Try.call51) (h.mono ?_)
   rintro e w26 ⟨r19, rfl, hk, h⟩
   refine ⟨_, rfl, ?_⟩
   obtain ⟨hs, hb⟩ := hk.hh hs hb
   refine q2 (vb r19) (xF hg9) (wpL_nil (th_n ?_))
   exact ⟨r19, None, Has.mk (by kernel_rfl), hs, hb, h⟩
end Go.Proofs
end
section
open Go Go.SE
namespace Go.Sp
theorem KnowOk.nil (L : Pool) : KnowOk L [] [] := ⟨⟨by simp [wkeys], by simp [wkeys], fun i hi => by simp at hi⟩, by simp [wkeys], by simp, by simp⟩
end Go.Sp
end
section
open Go Go.SE
namespace Go.Proofs
attribute [local irreducible] Calls
theorem c_law09_large {S : Nat → Prop} (ts : List Sp.Tree) (s : Sl) (w0 : World) (hT : TreeAt S w0 s (.mk 0 0 0 0 ⟨#[]⟩ ts)) (hS : ∀ b, S b → b < w0.heap.size) :
  Calls Try.prog 50 #[s.v] w0 (fun e w' => ∃ r : Bool, e = .returned (.bool r) ∧ ((r = false → ts.length ≤ 300 ∧ Sp.cntAll ts ≤ 6000) ∧ Pure w0 w')) := by
 refine w_law09_large _ w0 (fun r w' => (r = false → ts.length ≤ 300 ∧ Sp.cntAll ts ≤ 6000) ∧ Pure w0 w') ?_
 unfold m_law09_large
 have hlen : s.len = ts.length := by cases hT; assumption
 refine ⟨fun h => ⟨fun h => (by cases h), Ext.refl _⟩, fun h => ?_⟩
 have hle : ts.length ≤ 300 := by have := of_decide_eq_false h; omega
 refine (c_ref05_Parts (.mk 0 0 0 0 ⟨#[]⟩ ts) s 6000 w0 (by omega) (by omega) hT hS).mono ?_
 rintro _ w1 ⟨r, rfl, hr, E⟩
 refine ⟨_, rfl, fun h => ⟨hle, ?_⟩, E⟩
 have h := of_decide_eq_false h
 have hp := (Sp.parts_facts (.mk 0 0 0 0 ⟨#[]⟩ ts) 6000 (by omega)).2.2 (by omega)
 rw [Sp.cnt] at hp
 omega
theorem c_law09_long {S : Nat → Prop} (l : List Sp.Op) (s : Sl) (w0 : World) (hl : Lst S w0 5 s (l.map oprow)) :
  Calls Try.prog 51 #[s.v] w0 (fun e w' => ∃ r : Bool, e = .returned (.bool r) ∧ ((r = false → l.length ≤ 300) ∧ Pure w0 w')) := by
 refine w_law09_long _ w0 (fun r w' => (r = false → l.length ≤ 300) ∧ Pure w0 w') ?_
 unfold m_law09_long
 have hll : s.len = l.length := by rw [hl.len]; simp
 refine ⟨fun _ i w => (∃ j : Nat, i = j ∧ j ≤ 301) ∧ w = w0, fun _ i _ => ((301 : Int) - i).toNat, ⟨⟨0, rfl, by omega⟩, rfl⟩, ?_⟩
 rintro n _ _ ⟨⟨j, rfl, hj⟩, rfl⟩
 unfold m_law09_long_l1
 refine ⟨fun h => ?_, fun h => ⟨fun h => ?_, Ext.refl _⟩⟩
 ·rw [Bool.and_eq_true] at h
  have hlt := lt_of_dec hll h.1
  have h3 := of_decide_eq_true h.2
  obtain ⟨a, hat, _, hrow⟩ := hl.nth hlt
  refine ⟨a, hat, l[j].text, by simpa [oprow] using hrow 4 (by simp [oprow]), ⟨⟨j + 1, ?_, by omega⟩, rfl⟩, ?_⟩
  ·rw [IntWalk.i64_in _ (by omega)]; omega
  ·show (301 - IntKind.i64.wrap ((j : Int) + 1)).toNat < (301 - (j : Int)).toNat
   rw [IntWalk.i64_in _ (by omega)]; omega
 ·rw [Bool.or_eq_false_iff] at h
  have := of_decide_eq_false h.1
  omega
structure SideAt (w0 : World) (H : Nat → Prop) (w : World) (s p k q : Addr) (sg : Sl) (L1 L2 : Sp.Pool) (GK G : List Int) (S : List Sp.Way) (FP FK FR : Nat → Prop) : Prop where
 box : Box w s [.pointer (some p), .pointer (some k), .pointer (some q), sg.v] 106
 pool : PoolAt w p L1 FP
 know : KnowAt w k p GK S FK
 ref : PoolR w q L2 FR
 giv : Rws w 41 1 sg (tmr G)
 pure : Pure w0 w
 hs : Hst w0 H w H w
 oP : ∀ b, FP b → w0.heap.size ≤ b ∧ ¬ H b ∧ b ≠ s.block ∧ ¬ FK b ∧ ¬ FR b ∧ ¬ sg.blk b
 oK : ∀ b, FK b → w0.heap.size ≤ b ∧ ¬ H b ∧ b ≠ s.block ∧ ¬ FR b ∧ ¬ sg.blk b
 oR : ∀ b, FR b → w0.heap.size ≤ b ∧ ¬ H b ∧ b ≠ s.block ∧ ¬ sg.blk b
 oG : ∀ b, sg.blk b → w0.heap.size ≤ b ∧ ¬ H b ∧ b ≠ s.block
 oS : w0.heap.size ≤ s.block ∧ ¬ H s.block
section
variable {w0 w w' : World} {H H' : Nat → Prop} {s p k q : Addr} {sg : Sl} {L1 L2 L' : Sp.Pool} {GK G G' : List Int} {S S' : List Sp.Way} {FP FK FR F' : Nat → Prop}
theorem SideAt.pureE (h : SideAt w0 H w s p k q sg L1 L2 GK G S FP FK FR) (E : Pure w w') : SideAt w0 H w' s p k q sg L1 L2 GK G S FP FK FR :=
 ⟨h.box.pure E, h.pool.pure E, h.know.pure E, h.ref.pure E, h.giv.pure E, h.pure.trans E, h.hs.again E.keptP, h.oP, h.oK, h.oR, h.oG, h.oS⟩
theorem SideAt.hst (h : SideAt w0 H w s p k q sg L1 L2 GK G S FP FK FR) (hs : Hst w0 H w H' w') : SideAt w0 H' w' s p k q sg L1 L2 GK G S FP FK FR := by
 have xP := hs.disj (G := FP) (fun b hb => ⟨h.pool.lt hb, (h.oP b hb).2.1⟩)
 have xK := hs.disj (G := FK) (fun b hb => ⟨h.know.lt hb, (h.oK b hb).2.1⟩)
 have xR := hs.disj (G := FR) (fun b hb => ⟨h.ref.lt hb, (h.oR b hb).2.1⟩)
 have xG := hs.disj (G := sg.blk) (fun b hb => ⟨h.giv.lt hb, (h.oG b hb).2.1⟩)
 have xS := hs.disj (G := (· = s.block)) (fun b hb => by subst hb; exact ⟨h.box.lt, h.oS.2⟩) _ rfl
 exact ⟨h.box.ext hs.ext xS, h.pool.ext hs.ext xP, h.know.ext hs.ext xK, h.ref.ext hs.ext xR, h.giv.ext hs.ext xG, h.pure.hst hs, hs.here, fun b hb => ⟨(h.oP b hb).1, xP b hb, (h.oP b hb).2.2⟩, fun b hb => ⟨(h.oK b hb).1, xK b hb, (h.oK b hb).2.2⟩, fun b hb => ⟨(h.oR b hb).1, xR b hb, (h.oR b hb).2.2⟩, fun b hb => ⟨(h.oG b hb).1, xG b hb, (h.oG b hb).2.2⟩, ⟨h.oS.1, xS⟩⟩
theorem SideAt.prog (h : SideAt w0 H w s p k q sg L1 L2 GK G S FP FK FR) (hP : PoolAt w' p L' F') (E : Ext FP w w') (hF : ∀ b, F' b → FP b ∨ w.heap.size ≤ b) : Kept H w w' ∧ SideAt w0 H w' s p k q sg L' L2 GK G S F' FK FR := by
 have hk : Kept H w w' := E.kept (fun b hb hf => (h.oP b hf).2.1 hb)
 have z := h.pure.size
 have zb := h.box.lt
 refine ⟨hk, h.box.ext E (fun hf => (h.oP _ hf).2.2.1 rfl), hP, h.know.ext E (fun b hb hf => (h.oP b hf).2.2.2.1 hb), h.ref.ext E (fun b hb hf => (h.oP b hf).2.2.2.2.1 hb), h.giv.ext E (fun b hb hf => (h.oP b hf).2.2.2.2.2 hb), h.pure.trans' E (fun i hi hb => by have := (h.oP i hb).1; omega), h.hs.again hk, fun b hb => ?_, h.oK, h.oR, h.oG, h.oS⟩
 rcases hF b hb with h1 | h1
 ·exact h.oP b h1
 ·exact ⟨by omega, fun hh => by have := h.hs.lt b hh; omega, by omega, fun hh => by have := h.know.lt hh; omega, fun hh => by have := h.ref.lt hh; omega, fun hh => by have := h.giv.lt hh; omega⟩
theorem SideAt.doc (h : SideAt w0 H w s p k q sg L1 L2 GK G S FP FK FR) (hP : PoolR w' q L' F') (E : Ext FR w w') (hF : ∀ b, F' b → FR b ∨ w.heap.size ≤ b) : Kept H w w' ∧ SideAt w0 H w' s p k q sg L1 L' GK G S FP FK F' := by
 have hk : Kept H w w' := E.kept (fun b hb hf => (h.oR b hf).2.1 hb)
 have z := h.pure.size
 have zb := h.box.lt
 have nf : ∀ b, b < w.heap.size → ¬ FR b → ¬ F' b := fun b hb h1 h2 => (hF b h2).elim h1 (fun h3 => by omega)
 refine ⟨hk, h.box.ext E (fun hf => (h.oR _ hf).2.2.1 rfl), h.pool.ext E (fun b hb => (h.oP b hb).2.2.2.2.1), h.know.ext E (fun b hb => (h.oK b hb).2.2.2.1), hP, h.giv.ext E (fun b hb hf => (h.oR b hf).2.2.2 hb), h.pure.trans' E (fun i hi hb => by have := (h.oR i hb).1; omega), h.hs.again hk, fun b hb => ⟨(h.oP b hb).1, (h.oP b hb).2.1, (h.oP b hb).2.2.1, (h.oP b hb).2.2.2.1, nf b (h.pool.lt hb) (h.oP b hb).2.2.2.2.1, (h.oP b hb).2.2.2.2.2⟩, fun b hb => ⟨(h.oK b hb).1, (h.oK b hb).2.1, (h.oK b hb).2.2.1, nf b (h.know.lt hb) (h.oK b hb).2.2.2.1, (h.oK b hb).2.2.2.2⟩, fun b hb => ?_, h.oG, h.oS⟩
 rcases hF b hb with h1 | h1
 ·exact h.oR b h1
 ·exact ⟨by omega, fun hh => by have := h.hs.lt b hh; omega, by omega, fun hh => by have := h.giv.lt hh; omega⟩
theorem SideAt.add (h : SideAt w0 H w s p k q sg L1 L2 GK G S FP FK FR) (hK : KnowAt w' k p G' S' F') (E : Ext FK w w') (hF : ∀ b, F' b → FK b ∨ w.heap.size ≤ b) : Kept H w w' ∧ SideAt w0 H w' s p k q sg L1 L2 G' G S' FP F' FR := by
 have hk : Kept H w w' := E.kept (fun b hb hf => (h.oK b hf).2.1 hb)
 have z := h.pure.size
 have zb := h.box.lt
 refine ⟨hk, h.box.ext E (fun hf => (h.oK _ hf).2.2.1 rfl), h.pool.ext E (fun b hb => (h.oP b hb).2.2.2.1), hK, h.ref.ext E (fun b hb hf => (h.oK b hf).2.2.2.1 hb), h.giv.ext E (fun b hb hf => (h.oK b hf).2.2.2.2 hb), h.pure.trans' E (fun i hi hb => by have := (h.oK i hb).1; omega), h.hs.again hk, fun b hb => ⟨(h.oP b hb).1, (h.oP b hb).2.1, (h.oP b hb).2.2.1, fun hf => (hF b hf).elim (h.oP b hb).2.2.2.1 (fun hh => by have := h.pool.lt hb; omega), (h.oP b hb).2.2.2.2⟩, fun b hb => ?_, h.oR, h.oG, h.oS⟩
 rcases hF b hb with h1 | h1
 ·exact h.oK b h1
 ·exact ⟨by omega, fun hh => by have := h.hs.lt b hh; omega, by omega, fun hh => by have := h.ref.lt hh; omega, fun hh => by have := h.giv.lt hh; omega⟩
theorem SideAt.app (h : SideAt w0 H w s p k q sg L1 L2 GK G S FP FK FR) {t : Int} {a : Addr} {w1 : World} (hq : New w (.cells #[.int .i64 t] 41) a w1) (hn : G.length ≤ 1000000) : ∃ s1 w2, (Builtin.append_ #[26, 26] 26 #[sg.v, (Sl.mk (some a) 1 1).v]).run Try.prog w1 = .ok s1.v w2 ∧ Kept H w1 w2 ∧ CanW w2 (s.add 3) ∧
  SideAt w0 H (w2.setCell (s.add 3) s1.v) s p k q s1 L1 L2 GK (G ++ [t]) S FP FK FR := by
 have E1 : Pure w w1 := Ext.new hq
 obtain ⟨s1, w2, hr, hR, hE, hb⟩ := (h.giv.pure E1).append (P := Try.prog) (ty := 26) (c := 1) slT_tm (r := [.int .i64 t]) (Box.of_new hq).row rfl rfl (by rw [tmr_len]; omega) (by rw [tmr_len]; simp [maxLen]; omega)
 have hk : Kept H w1 w2 := hE.kept (fun b hb hs => (h.oG b hs).2.1 hb)
 have hbx := (h.box.pure E1).ext hE (fun hs => (h.oG _ hs).2.2 rfl)
 have z1 := E1.size
 have z2 := hE.size
 have z := h.pure.size
 have zb := h.box.lt
 have E3 := Ext.setCell (w := w2) (s.add 3) s1.v
 rw [add_block] at E3
 have hb' : ∀ b, s1.blk b → sg.blk b ∨ w.heap.size ≤ b := fun b h => (hb b h).imp_right (fun h => by omega)
 have nb : ∀ b, w.heap.size ≤ b → ¬ H b := fun b hb hh => by have := h.hs.lt b hh; omega
 refine ⟨s1, w2, hr, hk, hbx.canW (by simp), hbx.set 3 s1.v, ((h.pool.pure E1).ext hE (fun b hb => (h.oP b hb).2.2.2.2.2)).ext E3 (fun b hb => (h.oP b hb).2.2.1), ((h.know.pure E1).ext hE (fun b hb => (h.oK b hb).2.2.2.2)).ext E3 (fun b hb => (h.oK b hb).2.2.1), ((h.ref.pure E1).ext hE (fun b hb => (h.oR b hb).2.2.2)).ext E3 (fun b hb => (h.oR b hb).2.2.1), ?_, ?_, ((h.hs.again E1.keptP).again hk).again (E3.kept (fun b hb e => h.oS.2 (e ▸ hb))),
  fun b hb => ⟨(h.oP b hb).1, (h.oP b hb).2.1, (h.oP b hb).2.2.1, (h.oP b hb).2.2.2.1, (h.oP b hb).2.2.2.2.1, fun hh => (hb' b hh).elim (h.oP b hb).2.2.2.2.2 (fun h3 => by have := h.pool.lt hb; omega)⟩, fun b hb => ⟨(h.oK b hb).1, (h.oK b hb).2.1, (h.oK b hb).2.2.1, (h.oK b hb).2.2.2.1, fun hh => (hb' b hh).elim (h.oK b hb).2.2.2.2 (fun h3 => by have := h.know.lt hb; omega)⟩, fun b hb => ⟨(h.oR b hb).1, (h.oR b hb).2.1, (h.oR b hb).2.2.1, fun hh => (hb' b hh).elim (h.oR b hb).2.2.2 (fun h3 => by have := h.ref.lt hb; omega)⟩, fun b hb => ?_, h.oS⟩
 ·rw [show tmr (G ++ [t]) = tmr G ++ [[.int .i64 t]] by simp [tmr]]
  refine hR.ext E3 (fun b hb' e => ?_)
  rcases hb b hb' with h1 | h1
  ·exact (h.oG b h1).2.2 e
  ·omega
 ·exact ((h.pure.trans E1).trans' hE (fun i hi hs => by have := (h.oG i hs).1; omega)).trans' E3 (fun i hi e => by have := h.oS.1; omega)
 ·rcases hb' b hb with h1 | h1
  ·exact h.oG b h1
  ·exact ⟨by omega, nb b (by omega), by omega⟩
end
theorem c_law09_given {ST : Nat → Prop} (ts : List Sp.Tree) (sT : Sl) (w0 : World) (hT : TreeAt ST w0 sT (.mk 0 0 0 0 ⟨#[]⟩ ts)) (hS : ∀ b, ST b → b < w0.heap.size) (hn : ts.length ≤ 1000) (hc : Sp.cntAll ts ≤ 900000) :
  Calls Try.prog 53 #[sT.v] w0 (fun e w' => ∃ r1 : Option Addr, ∃ r2 : Bool, e = .returned (.tuple #[.pointer r1, .bool r2]) ∧ ∃ s p k q sg S FP FK FR, r1 = some s ∧ r2 = true ∧ SideAt w0 None w' s p k q sg (Sp.sideAll ts).1 (Sp.sideAll ts).1 (Sp.sideAll ts).2 (Sp.sideAll ts).2 S FP FK FR ∧ Sp.KnowOk (Sp.sideAll ts).1 (Sp.sideAll ts).2 S) := by
 suffices key : ∀ K : Option Addr → Bool → World → Prop, (∀ s p k q sg S FP FK FR H w', SideAt w0 H w' s p k q sg (Sp.sideAll ts).1 (Sp.sideAll ts).1 (Sp.sideAll ts).2 (Sp.sideAll ts).2 S FP FK FR → Sp.KnowOk (Sp.sideAll ts).1 (Sp.sideAll ts).2 S → K (some s) true w') → m_law09_given sT w0 K by
  refine (w_law09_given _ w0 (fun r1 r2 w' => ∃ s p k q sg S FP FK FR H, r1 = some s ∧ r2 = true ∧ SideAt w0 H w' s p k q sg (Sp.sideAll ts).1 (Sp.sideAll ts).1 (Sp.sideAll ts).2 (Sp.sideAll ts).2 S FP FK FR ∧ Sp.KnowOk (Sp.sideAll ts).1 (Sp.sideAll ts).2 S) (key _ (fun s p k q sg S FP FK FR H w' h hk => ⟨s, p, k, q, sg, S, FP, FK, FR, H, rfl, rfl, h, hk⟩))).mono ?_
  rintro _ w' ⟨r1, r2, rfl, s, p, k, q, sg, S, FP, FK, FR, H, rfl, rfl, h, hk⟩
  exact ⟨_, _, rfl, s, p, k, q, sg, S, FP, FK, FR, rfl, rfl, ⟨h.box, h.pool, h.know, h.ref, h.giv, h.pure, (Hst.start w0).again (h.pure.keptP), fun b hb => ⟨(h.oP b hb).1, id, (h.oP b hb).2.2⟩, fun b hb => ⟨(h.oK b hb).1, id, (h.oK b hb).2.2⟩, fun b hb => ⟨(h.oR b hb).1, id, (h.oR b hb).2.2⟩, fun b hb => ⟨(h.oG b hb).1, id, (h.oG b hb).2.2⟩, ⟨h.oS.1, id⟩⟩, hk⟩
 intro K hK
 have hnil : ∀ b, ¬ Sl.nil.blk b := fun b hb => by obtain ⟨a, h, _⟩ := hb; cases h
 cases hT with
 | mk _ _ _ _ _ _ _ rs len fit row kid =>
 unfold m_law09_given
 refine (c_New w0).mono ?_
 rintro _ w1 ⟨_, rfl, p, rfl, E1, FP, hP1, hFP⟩
 refine ⟨_, rfl, E1.keptP, ?_⟩
 refine (c_ref05_New w1).mono ?_
 rintro _ w2 ⟨_, rfl, q, FR, rfl, hR2, E2, hFR⟩
 refine ⟨_, rfl, E2.keptP, ?_⟩
 intro s w3 n3
 have E3 : Pure w2 w3 := Ext.new n3
 have B3 := Box.of_new n3
 refine ⟨some p, B3.cell0, ?_⟩
 refine (c_ded_New p w3).mono ?_
 rintro _ w4 ⟨_, rfl, k, FK, rfl, hK4, E4, hFK⟩
 have B4 := B3.pure E4
 refine ⟨_, rfl, E4.keptP, B4.canW (by simp), id, ?_⟩
 intro w5 hw5
 have X5 : Ext (· = s.block) w4 w5 := by rw [hw5, ← add_block s 1]; exact Ext.setCell (s.add 1) _
 have B5 : Box w5 s [.pointer (some p), .pointer (some k), .pointer (some q), Sl.nil.v] 106 := by rw [hw5]; exact B4.set 1 (.pointer (some k))
 clear hw5
 have z1 := E1.size
 have z2 := E2.size
 have z3 := E3.size
 have z4 := E4.size
 have zs := n3.at_size
 have zl := B3.lt
 have lP := fun b (hb : FP b) => hP1.lt hb
 have lR := fun b (hb : FR b) => hR2.lt hb
 have E04 : Pure w0 w4 := ((E1.trans E2).trans E3).trans E4
 have E05 : Pure w0 w5 := E04.own (by omega) X5
 have S0 : SideAt w0 None w5 s p k q Sl.nil [] [] [] [] [] FP FK FR :=
  ⟨B5, ((hP1.pure ((E2.trans E3).trans E4)).ext X5 (fun b hb e => by have := lP b hb; omega)), hK4.ext X5 (fun b hb e => by have := hFK b hb; omega), ((hR2.pure (E3.trans E4)).ext X5 (fun b hb e => by have := lR b hb; omega)), Rws.nil _ _ _, E05, (Hst.start w0).again E05.keptP,
   fun b hb => ⟨hFP b hb, id, by have := lP b hb; omega, fun h => by have := lP b hb; have := hFK b h; omega, fun h => by have := lP b hb; have := hFR b h; omega, hnil b⟩, fun b hb => ⟨by have := hFK b hb; omega, id, by have := hFK b hb; omega, fun h => by have := hFK b hb; have := lR b h; omega, hnil b⟩, fun b hb => ⟨by have := hFR b hb; omega, id, by have := lR b hb; omega, hnil b⟩, fun b hb => (hnil b hb).elim, ⟨by omega, id⟩⟩
 refine ⟨some p, B5.cell0, Br.f rfl ⟨some k, B5.cell rfl, ?_⟩⟩
 unfold m_law09_given_j1
 refine Br.f rfl ?_
 refine ⟨fun i H w => ∃ (j : Nat) (sg : Sl) (S : List Sp.Way) (FP FK FR : Nat → Prop), i = j ∧ j ≤ ts.length ∧ SideAt w0 H w s p k q sg (Sp.sideAll (ts.take j)).1 (Sp.sideAll (ts.take j)).1 (Sp.sideAll (ts.take j)).2 (Sp.sideAll (ts.take j)).2 S FP FK FR ∧ Sp.KnowOk (Sp.sideAll (ts.take j)).1 (Sp.sideAll (ts.take j)).2 S, fun i _ => ((ts.length : Int) - i).toNat, ⟨0, Sl.nil, [], FP, FK, FR, rfl, Nat.zero_le _, S0, Sp.KnowOk.nil _⟩, ?_⟩
 clear S0 B5 E05 E04 lP lR X5 B4 B3 hK4 hR2 hP1 hFK hFR hFP FP FK FR
 rintro _ H wl hl ⟨j, sg, S, FP, FK, FR, rfl, hj, hA, hk⟩
 unfold m_law09_given_l2
 refine ⟨fun h => ?_, fun h => ?_⟩
 ·have hlt := lt_of_dec len h
  have htk : ts.take (j + 1) = ts.take j ++ [ts[j]] := List.take_succ_eq_append_getElem hlt
  have hstep : Sp.sideAll (ts.take (j + 1)) = Sp.sideStep (Sp.sideAll (ts.take j)) ts[j] := by rw [htk, Sp.sideAll_snoc]
  have hW := Sp.sideAll_wf (ts.take j)
  have hgl := Sp.sideAll_len (ts.take j)
  rw [List.length_take, Nat.min_eq_left (by omega)] at hgl
  have hcx : Sp.cnt ts[j] ≤ 900000 := by
   have h1 : ∀ (ts : List Sp.Tree) (i : Nat) (hi : i < ts.length), Sp.cnt ts[i] ≤ Sp.cntAll ts := by
    intro ts
    induction ts with
    | nil => intro i hi; simp at hi
    | cons t ts ih =>
     intro i hi
     rw [Sp.cntAll]
     cases i with
     | zero => simp
     | succ i => have := ih i (by simpa using hi); simp; omega
   have := h1 ts j hlt; omega
  generalize Sp.sideAll (ts.take j) = Q at *
  obtain ⟨L, G⟩ := Q
  simp only at hA hk hW hgl
  obtain ⟨a, hat, hSa, hrow⟩ := row j hlt
  have hkid := kid j hlt
  generalize ts[j] = x at *
  generalize rs j = sx at *
  have hrowT : ∀ {w}, Pure w0 w → Row w a (trow x sx) := fun E => E.row hrow (fun h => h)
  obtain ⟨xk, xf, xt, xu, xx, xks⟩ := x
  have hAd := hA.pureE (Ext.drew wl)
  refine ⟨fun w => Box w s [.pointer (some p), .pointer (some k), .pointer (some q), sg.v] 106 ∧ Row w a (trow (.mk xk xf xt xu xx xks) sx), ⟨hAd.box, hrowT hAd.pure⟩, ?_⟩
  rintro _ rfl
  refine ⟨some p, fun _ h => h.1.cell0, a, hat, _, _, _, _, _, sx, fun _ h => h.2, ?_⟩
  refine (c_ref05_Lent (.mk xk xf xt xu xx xks) sx wl.drew (by omega) (hkid.pure hAd.pure) (fun b hb => by have := hS b hb; have := hAd.pure.size; omega)).mono ?_
  rintro _ w7 ⟨s', rfl, hT7, E7⟩
  have A7 := hAd.pureE E7
  refine ⟨_, _, _, _, _, s', rfl, ⟨A7.box, hrowT A7.pure⟩, E7.keptP, ?_⟩
  refine (c_Of (S := fun b => wl.drew.heap.size ≤ b ∧ b < w7.heap.size) p (.mk xk xf xt xu xx xks) s' w7 hT7.lt A7.pool hW.ok (fun b hb hh => by have := hAd.pool.lt hb; omega) (fun b hb => hb.2)).mono ?_
  rintro _ w8 ⟨r4, r5, rfl, h45, FP', hP8, X8, hF8⟩
  obtain ⟨k8, A8⟩ := A7.prog hP8 X8 hF8
  refine ⟨_, _, rfl, ⟨A8.box, hrowT A8.pure⟩, k8, ?_⟩
  have A9 := A8.pureE (Ext.drew w8)
  refine ⟨fun w => Box w s [.pointer (some p), .pointer (some k), .pointer (some q), sg.v] 106 ∧ Row w a (trow (.mk xk xf xt xu xx xks) sx), ⟨A9.box, hrowT A9.pure⟩, ?_⟩
  rintro _ rfl
  refine ⟨some q, fun _ h => h.1.cell rfl, a, hat, _, _, _, _, _, sx, fun _ h => h.2, ?_⟩
  refine (c_ref05_Of (S := ST) q (.mk xk xf xt xu xx xks) sx w8.drew (hkid.pure A9.pure) A9.ref hW.ok (fun b hb hh => by have := (A9.oR b hb).1; have := hS b hh; omega) (fun b hb => by have := hS b hb; have := A9.pure.size; omega)).mono ?_
  rintro _ w10 ⟨r6, r7, rfl, h67, FR', hR10, X10, hF10⟩
  obtain ⟨k10, A10⟩ := A9.doc hR10 X10 hF10
  refine ⟨_, _, rfl, ⟨A10.box, hrowT A10.pure⟩, k10, ?_⟩
  obtain ⟨M, hM⟩ := Sp.of_grows hW.ok (.mk xk xf xt xu xx xks)
  have hWx := Sp.of_wf hW (.mk xk xf xt xu xx xks)
  have htr := Sp.of_tree hW (x := .mk xk xf xt xu xx xks)
  rw [Sp.sideStep] at hstep
  simp only at hstep
  have hkM : Sp.KnowOk (Sp.of L (.mk xk xf xt xu xx xks)).2.2 G S := by rw [hM]; exact hk.app
  generalize Sp.of L (.mk xk xf xt xu xx xks) = R at *
  obtain ⟨t, er, L'⟩ := R
  simp only at h45 h67 hM hWx htr hstep hkM A10
  cases h45
  cases h67
  refine Br.f (by simp) ⟨fun h => ?_, fun h => ?_⟩
  ·intro H1 w12 hs12
   rw [if_pos (by simpa using h)] at hstep
   rw [wrap_succ hlt (by omega)]
   refine ⟨⟨j + 1, sg, S, FP', FK, FR', rfl, hlt, ?_, ?_⟩, lt_dec hlt⟩
   ·rw [hstep]; exact A10.hst hs12
   ·rw [hstep]; exact hkM
  ·intro H1 w12 hs12
   have her : r5 = 0 := by simpa using h
   rw [if_neg (by simpa using her)] at hstep
   have A12 := A10.hst hs12
   have hin := (htr her).1
   have hgT := Sp.giveT_in (G := G) hin
   refine ⟨fun there i H w => ∃ n : Nat, i = n ∧ n ≤ G.length ∧ there = decide (r4 ∈ G.take n) ∧ SideAt w0 H w s p k q sg L' L' G G S FP' FK FR', fun _ i _ => ((G.length : Int) - i).toNat, ⟨0, rfl, Nat.zero_le _, by simp, A12⟩, ?_⟩
   rintro there _ H2 w2 hs2 ⟨n, rfl, hnG, hth, B⟩
   unfold m_law09_given_l3
   have hsl : sg.len = G.length := by rw [B.giv.len, tmr_len]
   refine ⟨sg, B.box.cell rfl, fun h => ?_, fun h => ?_⟩
   ·have hltn := lt_of_dec hsl h
    have htk : G.take (n + 1) = G.take n ++ [G[n]] := List.take_succ_eq_append_getElem hltn
    refine ⟨fun h => ?_, fun h => ?_⟩
    ·unfold m_law09_given_j4
     rw [wrap_succ hltn (by omega)]
     refine ⟨⟨n + 1, rfl, hltn, ?_, B⟩, lt_dec hltn⟩
     rw [h] at hth
     rw [htk, eq_comm, decide_eq_true_eq]
     exact List.mem_append_left _ (by simpa using hth.symm)
    ·obtain ⟨ad, had, _, hcell⟩ := tm_nth B.giv.lst hltn
     refine ⟨sg, B.box.cell rfl, ad, had, _, hcell, ?_⟩
     unfold m_law09_given_j4
     rw [wrap_succ hltn (by omega)]
     refine ⟨⟨n + 1, rfl, hltn, ?_, B⟩, lt_dec hltn⟩
     rw [h] at hth
     have hnot : r4 ∉ G.take n := by simpa using hth.symm
     rw [htk, Bool.eq_iff_iff]
     simp only [beq_iff_eq, decide_eq_true_eq, List.mem_append, List.mem_singleton]
     exact ⟨fun e => .inr e.symm, fun e => e.elim (fun h => absurd h hnot) (fun h => h.symm)⟩
   ·have hge := eq_of_dec hsl hnG h
    subst hge
    rw [List.take_length] at hth
    have fin : ∀ {sg' : Sl} {w : World} {G' : List Int}, Sp.addT G r4 = G' → SideAt w0 H2 w s p k q sg' L' L' G G' S FP' FK FR' → ∃ v : Option Addr, w.cell? (s.add 1) = some (.pointer v) ∧ Calls Try.prog 37 #[.pointer v, .int .i64 r4] w (fun e w' => ∃ r : Int, e = .returned (.int .i64 r) ∧ Kept H2 w w' ∧ ((∃ (j' : Nat) (sg : Sl) (S : List Sp.Way) (FP FK FR : Nat → Prop), IntKind.i64.wrap ((j : Int) + 1) = j' ∧ j' ≤ ts.length ∧ SideAt w0 H2 w' s p k q sg (Sp.sideAll (ts.take j')).1 (Sp.sideAll (ts.take j')).1 (Sp.sideAll (ts.take j')).2 (Sp.sideAll (ts.take j')).2 S FP FK FR ∧ Sp.KnowOk (Sp.sideAll (ts.take j')).1 (Sp.sideAll (ts.take j')).2 S) ∧ ((ts.length : Int) - IntKind.i64.wrap ((j : Int) + 1)).toNat < ((ts.length : Int) - j).toNat)) := by
     intro sg' w G' hG C
     refine ⟨some k, C.box.cell rfl, ?_⟩
     refine (c_ded_Add k p r4 w C.know C.pool hWx (fun b hb hf => (C.oP b hf).2.2.2.1 hb) hkM).mono ?_
     rintro _ w' ⟨r, rfl, _, S', F', hK', ok', X', hF'⟩
     obtain ⟨kk, D⟩ := C.add hK' X' hF'
     rw [wrap_succ hlt (by omega)]
     rw [hgT] at D ok'
     refine ⟨r, rfl, kk, ⟨j + 1, sg', S', FP', F', FR', rfl, hlt, ?_, ?_⟩, lt_dec hlt⟩
     ·rw [hstep]; subst hG; exact D
     ·rw [hstep]; exact ok'
    refine ⟨fun h => ?_, fun h => ?_⟩
    ·have hnot : r4 ∉ G := by rw [hth] at h; simpa using h
     refine ⟨sg, B.box.cell rfl, ?_⟩
     intro p2 w14 n14
     obtain ⟨s1, w15, hr15, k15, cw, C⟩ := B.app n14 (by omega)
     refine ⟨s1, w15, hr15, k15, cw, by rw [add_block]; exact B.oS.2, ?_⟩
     rintro _ rfl
     exact fin (by unfold Sp.addT; rw [if_neg hnot]) C
    ·have hyes : r4 ∈ G := by rw [hth] at h; simpa using h
     exact fin (by unfold Sp.addT; rw [if_pos hyes]) B
 ·have hge := eq_of_dec len hj h
  subst hge
  rw [List.take_length] at hA hk
  exact hK _ _ _ _ _ _ _ _ _ _ _ hA hk
end Go.Proofs
end
section
open Go Go.SE
namespace Go.Proofs
attribute [local irreducible] Calls
def dishes (c c1 c2 : Addr) : List (Int × Value) :=
 [(0, .func (.func 170) #[] #[.pointer (some c1)]), (1, .func (.func 171) #[] #[.pointer (some c2)]), (2, .func (.func 172) #[] #[.pointer (some c2)]),
  (3, .func (.func 173) #[] #[.pointer (some c2)]), (4, .func (.func 175) #[] #[.pointer (some c1), .pointer (some c2)]), (5, .func (.func 177) #[] #[.pointer (some c1), .pointer (some c2)]),
  (6, .func (.func 178) #[] #[.pointer (some c1)]), (7, .func (.func 180) #[] #[.pointer (some c1)]), (8, .func (.func 181) #[.pointer (some c)] #[]),
  (9, .func (.func 182) #[] #[.pointer (some c1), .pointer (some c2)]), (10, .func (.func 184) #[] #[.pointer (some c1), .pointer (some c2)]), (11, .func (.func 188) #[] #[.pointer (some c1), .pointer (some c2)])]
section
variable {w0 : World} {c p c1 c2 : Addr} {sg sm : Sl} {G M : List Int} (hC : CookS w0 c p sg sm G M)
variable (h1 : w0.cell? c1 = some (.pointer (some c))) (h2 : w0.cell? c2 = some (.pointer (some p)))
variable {L : Sp.Pool} {F : Nat → Prop} (hP : PoolAt w0 p L F) (hok : Sp.Ok L)
abbrev DoK (p : Addr) (F : Nat → Prop) (w : World) (R : Sp.Res) (r1 r2 : Int) (w' : World) : Prop := (r1, r2) = (R.1, R.2.1) ∧ ∃ F', PoolAt w' p R.2.2 F' ∧ Ext F w w' ∧ ∀ b, F' b → F b ∨ w.heap.size ≤ b
theorem DoK.pre {p : Addr} {F : Nat → Prop} {w w1 w' : World} {R : Sp.Res} {r1 r2 : Int} (E : Pure w w1) (h : DoK p F w1 R r1 r2 w') : DoK p F w R r1 r2 w' := by
 obtain ⟨h1, F', h2, h3, h4⟩ := h
 exact ⟨h1, F', h2, E.pure.trans h3, fun b hb => (h4 b hb).imp_right (fun h => by have := E.size; omega)⟩
include hC h1 hP in
theorem c_dish0 (o : Sp.Op) : Calls Try.prog 170 #[opv o, .pointer (some c1)] w0 (DoPost p F w0 (Sp.knownOp L G o)) := by
 obtain ⟨co, oa, ob, on, ox⟩ := o
 refine w_recipe_cook_kitchen_1 co oa ob on ox _ w0 (DoK p F w0 (Sp.knownOp L G ⟨co, oa, ob, on, ox⟩)) ?_
 unfold m_recipe_cook_kitchen_1
 have hl : sg.len = G.length := by rw [hC.giv.len, tmr_len]
 have no : ∀ H w, Hst w0 None w0 H w → Sp.atM G oa = none → DoK p F w0 (Sp.knownOp L G ⟨co, oa, ob, on, ox⟩) 0 90 w := fun H w hs hn => by
  have e : Sp.knownOp L G ⟨co, oa, ob, on, ox⟩ = Sp.noOp L := by unfold Sp.knownOp; simp only; rw [hn]
  rw [e]
  exact ⟨rfl, F, hP.pure hs.first, hs.first.pure, fun b hb => .inl hb⟩
 refine ⟨fun h => fun H w hs => ?_, fun h => fun H w hs => ?_⟩
 ·unfold m_recipe_cook_kitchen_1_j1
  exact Br.t rfl (no H w hs (Sp.atM_out (.inl (of_decide_eq_true h))))
 ·have h := of_decide_eq_false h
  have C := hC.pure hs.first
  refine ⟨some c, (hs.first).cell h1 (fun h => h), c, rfl, sg, C.box.cell rfl, ?_⟩
  unfold m_recipe_cook_kitchen_1_j1
  refine ⟨fun h3 => no H w hs (Sp.atM_out (.inr (by have := of_decide_eq_true h3; omega))), fun h3 => ?_⟩
  have h3 := of_decide_eq_false h3
  intro w2 hs2
  have E2 := hs.first.hst hs2
  have C2 := hC.pure E2
  have e : Sp.atM G oa = some (G[oa.toNat]'(by omega)) := Sp.atM_in (by omega) (by omega)
  obtain ⟨a, ha, hc⟩ := tms_nth C2.giv e
  refine ⟨some c, E2.cell h1 (fun h => h), c, rfl, sg, C2.box.cell rfl, a, ha, _, hc, ?_⟩
  have e2 : Sp.knownOp L G ⟨co, oa, ob, on, ox⟩ = (G[oa.toNat]'(by omega), 0, L) := by unfold Sp.knownOp; simp only; rw [e]
  rw [e2]
  exact ⟨rfl, F, hP.pure E2, E2.pure, fun b hb => .inl hb⟩
include h2 hP hok in
theorem c_dish1 (o : Sp.Op) : Calls Try.prog 171 #[opv o, .pointer (some c2)] w0 (DoPost p F w0 (Sp.make L ⟨1, o.a, 0, 0, ⟨#[]⟩, 0, 0⟩)) := by
 obtain ⟨co, oa, ob, on, ox⟩ := o
 refine w_recipe_cook_kitchen_2 _ _ _ _ _ _ w0 (DoK p F w0 (Sp.make L ⟨1, oa, 0, 0, ⟨#[]⟩, 0, 0⟩)) ?_
 unfold m_recipe_cook_kitchen_2
 intro H1 w1 hs1
 refine ⟨some p, hs1.first.cell h2 (fun h => h), ?_⟩
 refine (c_Name p w1 (hP.pure hs1.first) hok oa).mono ?_
 rintro _ w2 ⟨r1, r2, rfl, h⟩
 exact ⟨r1, r2, rfl, h.2.elim (fun F' h => h.2.1.kept (fun b hb hx => by have := hs1.old b hb; have := hP.lt hx; omega)), DoK.pre hs1.first h⟩
include h2 hP hok in
theorem c_dish2 (o : Sp.Op) : Calls Try.prog 172 #[opv o, .pointer (some c2)] w0 (DoPost p F w0 (Sp.make L ⟨2, 0, 0, o.num, ⟨#[]⟩, 0, 0⟩)) := by
 obtain ⟨co, oa, ob, on, ox⟩ := o
 refine w_recipe_cook_kitchen_3 _ _ _ _ _ _ w0 (DoK p F w0 (Sp.make L ⟨2, 0, 0, on, ⟨#[]⟩, 0, 0⟩)) ?_
 unfold m_recipe_cook_kitchen_3
 intro H1 w1 hs1
 refine ⟨some p, hs1.first.cell h2 (fun h => h), ?_⟩
 refine (c_Num p w1 (hP.pure hs1.first) hok on).mono ?_
 rintro _ w2 ⟨r1, r2, rfl, h⟩
 exact ⟨r1, r2, rfl, h.2.elim (fun F' h => h.2.1.kept (fun b hb hx => by have := hs1.old b hb; have := hP.lt hx; omega)), DoK.pre hs1.first h⟩
include h2 hP hok in
theorem c_dish3 (o : Sp.Op) : Calls Try.prog 173 #[opv o, .pointer (some c2)] w0 (DoPost p F w0 (Sp.make L ⟨3, 0, 0, 0, o.text, 0, 0⟩)) := by
 obtain ⟨co, oa, ob, on, ox⟩ := o
 refine w_recipe_cook_kitchen_4 _ _ _ _ _ _ w0 (DoK p F w0 (Sp.make L ⟨3, 0, 0, 0, ox, 0, 0⟩)) ?_
 unfold m_recipe_cook_kitchen_4
 intro H1 w1 hs1
 refine ⟨some p, hs1.first.cell h2 (fun h => h), ?_⟩
 refine (c_Data p w1 (hP.pure hs1.first) hok ox).mono ?_
 rintro _ w2 ⟨r1, r2, rfl, h⟩
 exact ⟨r1, r2, rfl, h.2.elim (fun F' h => h.2.1.kept (fun b hb hx => by have := hs1.old b hb; have := hP.lt hx; omega)), DoK.pre hs1.first h⟩
include hC h1 h2 hP hok in
theorem c_dish4 (o : Sp.Op) : Calls Try.prog 175 #[opv o, .pointer (some c1), .pointer (some c2)] w0 (DoPost p F w0 (Sp.pairOp L M o)) := by
 obtain ⟨co, oa, ob, on, ox⟩ := o
 refine w_recipe_cook_kitchen_5 _ _ _ _ _ _ _ w0 (DoK p F w0 (Sp.pairOp L M ⟨co, oa, ob, on, ox⟩)) ?_
 unfold m_recipe_cook_kitchen_5
 intro H1 w1 hs1
 have E1 := hs1.first
 refine ⟨some c, E1.cell h1 (fun h => h), ?_⟩
 refine (c_cook_at (hC.pure E1) oa).mono ?_
 rintro _ w1 ⟨ra, oka, rfl, hra, rfl⟩
 refine ⟨_, _, rfl, Kept.refl _, some c, E1.cell h1 (fun h => h), ?_⟩
 refine (c_cook_at (hC.pure E1) ob).mono ?_
 rintro _ w1 ⟨rb, okb, rfl, hrb, rfl⟩
 refine ⟨_, _, rfl, Kept.refl _, ?_⟩
 unfold Sp.pairOp
 simp only
 have no : ∀ H w, Hst w0 H1 w1 H w → DoK p F w0 (Sp.noOp L) 0 90 w := fun H w hs => ⟨rfl, F, hP.pure (E1.hst hs), (E1.hst hs).pure, fun b hb => .inl hb⟩
 cases hta : Sp.atM M oa with
 | none =>
  rw [hta] at hra; obtain ⟨rfl, rfl⟩ := hra
  exact Br.t (by simp) (fun H w hs => no H w hs)
 | some a =>
  rw [hta] at hra; obtain ⟨rfl, rfl⟩ := hra
  simp only
  cases htb : Sp.atM M ob with
  | none =>
   rw [htb] at hrb; obtain ⟨rfl, rfl⟩ := hrb
   exact Br.t (by simp) (fun H w hs => no H w hs)
  | some b =>
   rw [htb] at hrb; obtain ⟨rfl, rfl⟩ := hrb
   simp only
   refine Br.f rfl (fun H w hs => ⟨some p, (E1.hst hs).cell h2 (fun h => h), ?_⟩)
   refine (c_Pair p w (hP.pure (E1.hst hs)) hok ra rb).mono ?_
   rintro _ w2 ⟨r1, r2, rfl, h⟩
   exact ⟨r1, r2, rfl, h.2.elim (fun F' h => h.2.1.kept (fun b hb hx => by have := hs.old b hb; have := hP.lt hx; omega)), DoK.pre (E1.hst hs) h⟩
include hC h1 h2 hP hok in
theorem c_dish5 (o : Sp.Op) : Calls Try.prog 177 #[opv o, .pointer (some c1), .pointer (some c2)] w0 (DoPost p F w0 (Sp.hashOp L M o)) := by
 obtain ⟨co, oa, ob, on, ox⟩ := o
 refine w_recipe_cook_kitchen_6 _ _ _ _ _ _ _ w0 (DoK p F w0 (Sp.hashOp L M ⟨co, oa, ob, on, ox⟩)) ?_
 unfold m_recipe_cook_kitchen_6
 intro H1 w1 hs1
 have E1 := hs1.first
 refine ⟨some c, E1.cell h1 (fun h => h), ?_⟩
 refine (c_cook_at (hC.pure E1) oa).mono ?_
 rintro _ w1 ⟨ra, oka, rfl, hra, rfl⟩
 refine ⟨_, _, rfl, Kept.refl _, ?_⟩
 unfold Sp.hashOp
 simp only
 cases hta : Sp.atM M oa with
 | none =>
  rw [hta] at hra; obtain ⟨rfl, rfl⟩ := hra
  exact Br.t rfl ⟨rfl, F, hP.pure E1, E1.pure, fun b hb => .inl hb⟩
 | some a =>
  rw [hta] at hra; obtain ⟨rfl, rfl⟩ := hra
  simp only
  refine Br.f rfl ⟨some p, E1.cell h2 (fun h => h), ?_⟩
  refine (c_Hash p _ (hP.pure E1) hok ra).mono ?_
  rintro _ w2 ⟨r1, r2, rfl, h⟩
  exact ⟨r1, r2, rfl, h.2.elim (fun F' h => h.2.1.kept (fun b hb hx => by have := hs1.old b hb; have := hP.lt hx; omega)), DoK.pre E1 h⟩
include hC h1 hP hok in
theorem c_dish6 (o : Sp.Op) : Calls Try.prog 178 #[opv o, .pointer (some c1)] w0 (DoPost p F w0 (Sp.partOp L M o false)) := by
 obtain ⟨co, oa, ob, on, ox⟩ := o
 refine w_recipe_cook_kitchen_7 _ _ _ _ _ _ w0 (DoK p F w0 (Sp.partOp L M ⟨co, oa, ob, on, ox⟩ false)) ?_
 unfold m_recipe_cook_kitchen_7
 intro H1 w1 hs1
 have E1 := hs1.first
 refine ⟨some c, E1.cell h1 (fun h => h), ?_⟩
 refine (c_cook_part (hC.pure E1) (hP.pure E1) hok ⟨co, oa, ob, on, ox⟩ false).mono ?_
 rintro _ w2 ⟨r1, r2, rfl, h⟩
 exact ⟨r1, r2, rfl, h.2.elim (fun F' h => h.2.1.kept (fun b hb hx => by have := hs1.old b hb; have := hP.lt hx; omega)), DoK.pre E1 h⟩
include hC h1 hP hok in
theorem c_dish7 (o : Sp.Op) : Calls Try.prog 180 #[opv o, .pointer (some c1)] w0 (DoPost p F w0 (Sp.partOp L M o true)) := by
 obtain ⟨co, oa, ob, on, ox⟩ := o
 refine w_recipe_cook_kitchen_8 _ _ _ _ _ _ w0 (DoK p F w0 (Sp.partOp L M ⟨co, oa, ob, on, ox⟩ true)) ?_
 unfold m_recipe_cook_kitchen_8
 intro H1 w1 hs1
 have E1 := hs1.first
 refine ⟨some c, E1.cell h1 (fun h => h), ?_⟩
 refine (c_cook_part (hC.pure E1) (hP.pure E1) hok ⟨co, oa, ob, on, ox⟩ true).mono ?_
 rintro _ w2 ⟨r1, r2, rfl, h⟩
 exact ⟨r1, r2, rfl, h.2.elim (fun F' h => h.2.1.kept (fun b hb hx => by have := hs1.old b hb; have := hP.lt hx; omega)), DoK.pre E1 h⟩
include hC h1 h2 hP hok in
theorem c_dish9 (o : Sp.Op) : Calls Try.prog 182 #[opv o, .pointer (some c1), .pointer (some c2)] w0 (DoPost p F w0 (Sp.keyedOp L M o (fun k a => ⟨7, k, 0, 0, ⟨#[]⟩, a, 0⟩))) := by
 obtain ⟨co, oa, ob, on, ox⟩ := o
 refine w_recipe_cook_kitchen_9 _ _ _ _ _ _ _ w0 (DoK p F w0 (Sp.keyedOp L M ⟨co, oa, ob, on, ox⟩ (fun k a => ⟨7, k, 0, 0, ⟨#[]⟩, a, 0⟩))) ?_
 unfold m_recipe_cook_kitchen_9
 intro H1 w1 hs1
 have E1 := hs1.first
 refine ⟨some c, E1.cell h1 (fun h => h), some p, E1.cell h2 (fun h => h), ?_⟩
 refine (c_cook_keyed (hC.pure E1) (hP.pure E1) hok ⟨co, oa, ob, on, ox⟩ 87 #[.pointer (some p)] #[] (fun k a => ⟨7, k, 0, 0, ⟨#[]⟩, a, 0⟩) Try.call87 (fun k a w' E' => ?_)).mono ?_
 ·exact c_Sign p w' ((hP.pure E1).pure E') hok k a
 rintro _ w2 ⟨r1, r2, rfl, h⟩
 exact ⟨r1, r2, rfl, h.2.elim (fun F' h => h.2.1.kept (fun b hb hx => by have := hs1.old b hb; have := hP.lt hx; omega)), DoK.pre E1 h⟩
variable (hd : ¬ F c2.block)
include hC h1 h2 hP hok hd in
theorem c_dish10 (o : Sp.Op) : Calls Try.prog 184 #[opv o, .pointer (some c1), .pointer (some c2)] w0 (DoPost p F w0 (Sp.keyedOp L M o (fun k a => ⟨8, k, Sp.nameOf o.num, 0, ⟨#[]⟩, a, 0⟩))) := by
 obtain ⟨co, oa, ob, on, ox⟩ := o
 refine w_recipe_cook_kitchen_10 co oa ob on ox _ _ w0 (DoK p F w0 (Sp.keyedOp L M ⟨co, oa, ob, on, ox⟩ (fun k a => ⟨8, k, Sp.nameOf on, 0, ⟨#[]⟩, a, 0⟩))) ?_
 unfold m_recipe_cook_kitchen_10
 intro p1 w1 hn1
 have E1 : Pure w0 w1 := Ext.new hn1
 have B1 := Box.of_new hn1
 refine ⟨some c, E1.cell h1 (fun h => h), _, _, _, _, _, B1.row, ?_⟩
 refine (c_cook_keyed (hC.pure E1) (hP.pure E1) hok ⟨co, oa, ob, on, ox⟩ 185 #[] #[.pointer (some c2), .pointer (some p1)] (fun k a => ⟨8, k, Sp.nameOf on, 0, ⟨#[]⟩, a, 0⟩) Try.call185 (fun k a w' E' => ?_)).mono ?_
 ·refine w_recipe_cook_kitchen_10_1 k a _ _ w' (DoK p F w' (Sp.make L ⟨8, k, Sp.nameOf on, 0, ⟨#[]⟩, a, 0⟩)) ?_
  unfold m_recipe_cook_kitchen_10_1
  have hcc : w'.cell? c2 = some (.pointer (some p)) := (E1.trans E').cell h2 (fun h => h)
  have hcp : w'.cell? (p1.add 3) = some (.int .u64 on) := (B1.pure E').cell rfl
  have hpf : ¬ F (p1.add 3).block := fun h => by rw [add_block] at h; have := hP.lt h; have := hn1.at_size; omega
  have Ed : Pure w' w'.drew := Ext.drew w'
  have keep : ∀ {X : Nat → Prop} {a b : World}, (a.cell? c2 = some (.pointer (some p)) ∧ a.cell? (p1.add 3) = some (.int .u64 on)) → Ext X a b → (∀ b, X b → F b) → b.cell? c2 = some (.pointer (some p)) ∧ b.cell? (p1.add 3) = some (.int .u64 on) := fun h E hx => ⟨E.cell h.1 (fun hh => hd (hx _ hh)), E.cell h.2 (fun hh => hpf (hx _ hh))⟩
  have C1 := keep ⟨hcc, hcp⟩ Ed (fun _ h => h.elim)
  refine ⟨fun w => w.cell? c2 = some (.pointer (some p)) ∧ w.cell? (p1.add 3) = some (.int .u64 on), C1, ?_⟩
  rintro _ rfl
  refine ⟨some p, fun _ h => h.1, on, fun _ h => h.2, ?_⟩
  refine (p_recipe_name on _).mono ?_
  rintro _ w2 ⟨rfl, E2⟩
  have C2 := keep C1 E2 (fun _ h => h.elim)
  refine ⟨_, rfl, C2, E2.keptP, ?_⟩
  refine (c_Prom p w2 (hP.pure (((E1.trans E').trans Ed).trans E2)) hok k (s_recipe_name on) a).mono ?_
  rintro _ w3 ⟨r1, r2, rfl, h⟩
  exact ⟨r1, r2, rfl, h.2.elim (fun F' h => keep C2 h.2.1 (fun _ h => h)), h.2.elim (fun F' h => h.2.1.kept (fun b hb hx => hb.elim)), DoK.pre (Ed.trans E2) h⟩
 rintro _ w2 ⟨r1, r2, rfl, h⟩
 exact ⟨r1, r2, rfl, DoK.pre E1 h⟩
include hC h1 h2 hP hok hd in
theorem c_dish11 (o : Sp.Op) : Calls Try.prog 188 #[opv o, .pointer (some c1), .pointer (some c2)] w0 (DoPost p F w0 (Sp.keyedOp L M o (fun k a => ⟨9, Sp.nameOf o.num, k, 0, ⟨#[]⟩, a, 0⟩))) := by
 obtain ⟨co, oa, ob, on, ox⟩ := o
 refine w_recipe_cook_kitchen_11 co oa ob on ox _ _ w0 (DoK p F w0 (Sp.keyedOp L M ⟨co, oa, ob, on, ox⟩ (fun k a => ⟨9, Sp.nameOf on, k, 0, ⟨#[]⟩, a, 0⟩))) ?_
 unfold m_recipe_cook_kitchen_11
 intro p1 w1 hn1
 have E1 : Pure w0 w1 := Ext.new hn1
 have B1 := Box.of_new hn1
 refine ⟨some c, E1.cell h1 (fun h => h), _, _, _, _, _, B1.row, ?_⟩
 refine (c_cook_keyed (hC.pure E1) (hP.pure E1) hok ⟨co, oa, ob, on, ox⟩ 189 #[] #[.pointer (some c2), .pointer (some p1)] (fun k a => ⟨9, Sp.nameOf on, k, 0, ⟨#[]⟩, a, 0⟩) Try.call189 (fun k a w' E' => ?_)).mono ?_
 ·refine w_recipe_cook_kitchen_11_1 k a _ _ w' (DoK p F w' (Sp.make L ⟨9, Sp.nameOf on, k, 0, ⟨#[]⟩, a, 0⟩)) ?_
  unfold m_recipe_cook_kitchen_11_1
  have hcc : w'.cell? c2 = some (.pointer (some p)) := (E1.trans E').cell h2 (fun h => h)
  have hcp : w'.cell? (p1.add 3) = some (.int .u64 on) := (B1.pure E').cell rfl
  have hpf : ¬ F (p1.add 3).block := fun h => by rw [add_block] at h; have := hP.lt h; have := hn1.at_size; omega
  have Ed : Pure w' w'.drew := Ext.drew w'
  have keep : ∀ {X : Nat → Prop} {a b : World}, (a.cell? c2 = some (.pointer (some p)) ∧ a.cell? (p1.add 3) = some (.int .u64 on)) → Ext X a b → (∀ b, X b → F b) → b.cell? c2 = some (.pointer (some p)) ∧ b.cell? (p1.add 3) = some (.int .u64 on) := fun h E hx => ⟨E.cell h.1 (fun hh => hd (hx _ hh)), E.cell h.2 (fun hh => hpf (hx _ hh))⟩
  have C1 := keep ⟨hcc, hcp⟩ Ed (fun _ h => h.elim)
  refine ⟨fun w => w.cell? c2 = some (.pointer (some p)) ∧ w.cell? (p1.add 3) = some (.int .u64 on), C1, ?_⟩
  rintro _ rfl
  refine ⟨some p, fun _ h => h.1, on, fun _ h => h.2, ?_⟩
  refine (p_recipe_name on _).mono ?_
  rintro _ w2 ⟨rfl, E2⟩
  have C2 := keep C1 E2 (fun _ h => h.elim)
  refine ⟨_, rfl, C2, E2.keptP, ?_⟩
  refine (c_Fake p w2 (hP.pure (((E1.trans E').trans Ed).trans E2)) hok (s_recipe_name on) k a).mono ?_
  rintro _ w3 ⟨r1, r2, rfl, h⟩
  exact ⟨r1, r2, rfl, h.2.elim (fun F' h => keep C2 h.2.1 (fun _ h => h)), h.2.elim (fun F' h => h.2.1.kept (fun b hb hx => hb.elim)), DoK.pre (Ed.trans E2) h⟩
 rintro _ w2 ⟨r1, r2, rfl, h⟩
 exact ⟨r1, r2, rfl, DoK.pre E1 h⟩
include hC h1 h2 hP hok hd in
theorem c_dish (o : Sp.Op) : (SE.look (dishes c c1 c2) o.code = none → Sp.doOp L G M o = Sp.noOp L) ∧
  ∀ v, SE.look (dishes c c1 c2) o.code = some v → ∃ (f : FuncId) (fs cs : Array Value), v = .func (.func f) fs cs ∧ (∀ args w, (callFunc f args).run Try.prog w = .ok (.enter f args) w) ∧ Calls Try.prog f (fs ++ #[opv o] ++ cs) w0 (DoPost p F w0 (Sp.doOp L G M o)) := by
 have d0 := c_dish0 hC h1 hP o
 have d1 := c_dish1 h2 hP hok o
 have d2 := c_dish2 h2 hP hok o
 have d3 := c_dish3 h2 hP hok o
 have d4 := c_dish4 hC h1 h2 hP hok o
 have d5 := c_dish5 hC h1 h2 hP hok o
 have d6 := c_dish6 hC h1 hP hok o
 have d7 := c_dish7 hC h1 hP hok o
 have d8 := c_cook_shown hC hP hok o
 have d9 := c_dish9 hC h1 h2 hP hok o
 have d10 := c_dish10 hC h1 h2 hP hok hd o
 have d11 := c_dish11 hC h1 h2 hP hok hd o
 generalize hk : o.code = k
 unfold Sp.doOp dishes
 rw [hk]
 have step : ∀ (n : Int) (u : Value) (M' : List (Int × Value)) (R R' : Sp.Res), (∃ (f : FuncId) (fs cs : Array Value), u = .func (.func f) fs cs ∧ (∀ args w, (callFunc f args).run Try.prog w = .ok (.enter f args) w) ∧ Calls Try.prog f (fs ++ #[opv o] ++ cs) w0 (DoPost p F w0 R)) →
   ((SE.look M' k = none → R' = Sp.noOp L) ∧ ∀ v, SE.look M' k = some v → ∃ (f : FuncId) (fs cs : Array Value), v = .func (.func f) fs cs ∧ (∀ args w, (callFunc f args).run Try.prog w = .ok (.enter f args) w) ∧ Calls Try.prog f (fs ++ #[opv o] ++ cs) w0 (DoPost p F w0 R')) →
   ((SE.look ((n, u) :: M') k = none → (if k = n then R else R') = Sp.noOp L) ∧ ∀ v, SE.look ((n, u) :: M') k = some v → ∃ (f : FuncId) (fs cs : Array Value), v = .func (.func f) fs cs ∧ (∀ args w, (callFunc f args).run Try.prog w = .ok (.enter f args) w) ∧ Calls Try.prog f (fs ++ #[opv o] ++ cs) w0 (DoPost p F w0 (if k = n then R else R'))) := by
  intro n u M' R R' h h'
  rw [SE.look]
  by_cases e : k = n
  ·rw [if_pos e.symm, if_pos e]
   exact ⟨fun h => (by cases h), fun v hv => by cases hv; exact h⟩
  ·rw [if_neg (fun e' => e e'.symm), if_neg e]
   exact h'
 refine step 0 _ _ _ _ ⟨_, _, _, rfl, Try.call170, d0⟩ ?_
 refine step 1 _ _ _ _ ⟨_, _, _, rfl, Try.call171, d1⟩ ?_
 refine step 2 _ _ _ _ ⟨_, _, _, rfl, Try.call172, d2⟩ ?_
 refine step 3 _ _ _ _ ⟨_, _, _, rfl, Try.call173, d3⟩ ?_
 refine step 4 _ _ _ _ ⟨_, _, _, rfl, Try.call175, d4⟩ ?_
 refine step 5 _ _ _ _ ⟨_, _, _, rfl, Try.call177, d5⟩ ?_
 refine step 6 _ _ _ _ ⟨_, _, _, rfl, Try.call178, d6⟩ ?_
 refine step 7 _ _ _ _ ⟨_, _, _, rfl, Try.call180, d7⟩ ?_
 refine step 8 _ _ _ _ ⟨_, _, _, rfl, Try.call181, d8⟩ ?_
 refine step 9 _ _ _ _ ⟨_, _, _, rfl, Try.call182, d9⟩ ?_
 refine step 10 _ _ _ _ ⟨_, _, _, rfl, Try.call184, d10⟩ ?_
 refine step 11 _ _ _ _ ⟨_, _, _, rfl, Try.call188, d11⟩ ?_
 exact ⟨fun _ => rfl, fun v hv => by cases hv⟩
end
theorem c_cook_kitchen {w0 : World} {c p : Addr} {sg sm : Sl} {G M : List Int} (hC : CookS w0 c p sg sm G M) : Calls Try.prog 145 #[.pointer (some c)] w0
  (fun e w' => ∃ r : Option Nat, e = .returned (.map r) ∧ ∃ m c1 c2, r = some m ∧ IMap id w' m (dishes c c1 c2) ∧ Box w' c1 [.pointer (some c)] 223 ∧ Box w' c2 [.pointer (some p)] 25 ∧ m ≠ c1.block ∧ m ≠ c2.block ∧ w0.heap.size ≤ m ∧ w0.heap.size ≤ c1.block ∧ w0.heap.size ≤ c2.block ∧ Pure w0 w') := by
 refine w_recipe_cook_kitchen _ w0 (fun r w' => ∃ m c1 c2, r = some m ∧ IMap id w' m (dishes c c1 c2) ∧ Box w' c1 [.pointer (some c)] 223 ∧ Box w' c2 [.pointer (some p)] 25 ∧ m ≠ c1.block ∧ m ≠ c2.block ∧ w0.heap.size ≤ m ∧ w0.heap.size ≤ c1.block ∧ w0.heap.size ≤ c2.block ∧ Pure w0 w') ?_
 unfold m_recipe_cook_kitchen
 intro p1 w1 n1
 have E1 : Pure w0 w1 := Ext.new n1
 have B1 := Box.of_new n1
 refine ⟨some c, B1.cell0, c, rfl, some p, (hC.pure E1).box.cell0, ?_⟩
 intro p2 w2 n2
 have E2 : Pure w1 w2 := Ext.new n2
 have B2 := Box.of_new n2
 refine ⟨B2.canW0 (by simp), ?_⟩
 intro w3 hw3
 have E3 : Ext (· = p2.block) w2 w3 := by rw [hw3]; exact Ext.setCell p2 _
 have B2' : Box w3 p2 [.pointer (some p)] 25 := by rw [hw3]; exact B2.set0
 clear hw3
 have z1 := n1.at_size
 have z2 := n2.at_size
 have s1 := E1.size
 have s2 := E2.size
 have s3 := E3.size
 have l1 := B1.lt
 have l2 := B2.lt
 have B1' := (B1.pure E2).ext E3 (show ¬ p1.block = p2.block by omega)
 have E03 : Pure w0 w3 := (E1.trans E2).own (by omega) E3
 intro p3 w4 n4
 have E4 : Pure w3 w4 := Ext.new n4
 have z4 := n4.at_size
 have M0 : IMap id w4 p3.block [] := IMap.of_new n4
 have put : ∀ {w : World} {M : List (Int × Value)} (k : Int) (v : Value), IMap id w p3.block M → SE.look M k = none → ∃ w', (Instr.mapUpdate 226 (.map (some p3.block)) (.int .i64 k) v).run Try.prog w = .ok () w' ∧ IMap id w' p3.block (M ++ [(k, v)]) ∧ Ext (· = p3.block) w w' := fun k v h hn => h.put (P := Try.prog) (T := 226) (K := 3) Try.underlying226 Try.underlying3 hn v
 obtain ⟨w5, r5, M5, X5⟩ := put 0 (.func (.func 170) #[] #[.pointer (some p1)]) M0 rfl
 refine ⟨w5, r5, ?_⟩
 obtain ⟨w6, r6, M6, X6⟩ := put 1 (.func (.func 171) #[] #[.pointer (some p2)]) M5 rfl
 refine ⟨w6, r6, ?_⟩
 obtain ⟨w7, r7, M7, X7⟩ := put 2 (.func (.func 172) #[] #[.pointer (some p2)]) M6 rfl
 refine ⟨w7, r7, ?_⟩
 obtain ⟨w8, r8, M8, X8⟩ := put 3 (.func (.func 173) #[] #[.pointer (some p2)]) M7 rfl
 refine ⟨w8, r8, ?_⟩
 obtain ⟨w9, r9, M9, X9⟩ := put 4 (.func (.func 175) #[] #[.pointer (some p1), .pointer (some p2)]) M8 rfl
 refine ⟨w9, r9, ?_⟩
 obtain ⟨w10, r10, M10, X10⟩ := put 5 (.func (.func 177) #[] #[.pointer (some p1), .pointer (some p2)]) M9 rfl
 refine ⟨w10, r10, ?_⟩
 obtain ⟨w11, r11, M11, X11⟩ := put 6 (.func (.func 178) #[] #[.pointer (some p1)]) M10 rfl
 refine ⟨w11, r11, ?_⟩
 obtain ⟨w12, r12, M12, X12⟩ := put 7 (.func (.func 180) #[] #[.pointer (some p1)]) M11 rfl
 have X4 : Ext (· = p3.block) w4 w12 := ((((((X5.trans X6).trans X7).trans X8).trans X9).trans X10).trans X11).trans X12
 have B12 := (B1'.pure E4).ext X4 (show ¬ p1.block = p3.block by omega)
 refine ⟨w12, r12, some c, B12.cell0, ?_⟩
 obtain ⟨w13, r13, M13, X13⟩ := put 8 (.func (.func 181) #[.pointer (some c)] #[]) M12 rfl
 refine ⟨w13, r13, ?_⟩
 obtain ⟨w14, r14, M14, X14⟩ := put 9 (.func (.func 182) #[] #[.pointer (some p1), .pointer (some p2)]) M13 rfl
 refine ⟨w14, r14, ?_⟩
 obtain ⟨w15, r15, M15, X15⟩ := put 10 (.func (.func 184) #[] #[.pointer (some p1), .pointer (some p2)]) M14 rfl
 refine ⟨w15, r15, ?_⟩
 obtain ⟨w16, r16, M16, X16⟩ := put 11 (.func (.func 188) #[] #[.pointer (some p1), .pointer (some p2)]) M15 rfl
 have X := ((X4.trans X13).trans X14).trans (X15.trans X16)
 refine ⟨w16, r16, p3.block, p1, p2, rfl, M16, (B1'.pure E4).ext X (show ¬ p1.block = p3.block by omega), (B2'.pure E4).ext X (show ¬ p2.block = p3.block by omega), by omega, by omega, by omega, by omega, by omega, (E03.trans E4).own (by omega) X⟩
end Go.Proofs
end
section
open Go Go.SE
namespace Go.Proofs
attribute [local irreducible] Calls
structure RunS (w0 : World) (H : Nat → Prop) (w : World) (c p c1 c2 : Addr) (m : Nat) (sg sm : Sl) (G M : List Int) (L : Sp.Pool) (F F1 : Nat → Prop) : Prop where
 ck : CookS w c p sg sm G M
 mp : IMap id w m (dishes c c1 c2)
 b1 : Box w c1 [.pointer (some c)] 223
 b2 : Box w c2 [.pointer (some p)] 25
 pool : PoolAt w p L F1
 fr : Ext F w0 w
 hs : Hst w0 H w H w
 oP : ∀ b, F1 b → (F b ∨ w0.heap.size ≤ b) ∧ ¬ H b
 oc : w0.heap.size ≤ c.block ∧ ¬ H c.block ∧ ¬ F1 c.block
 o1 : w0.heap.size ≤ c1.block ∧ ¬ H c1.block ∧ ¬ F1 c1.block ∧ c1.block ≠ c.block
 o2 : w0.heap.size ≤ c2.block ∧ ¬ H c2.block ∧ ¬ F1 c2.block ∧ c2.block ≠ c.block
 om : w0.heap.size ≤ m ∧ ¬ H m ∧ ¬ F1 m ∧ m ≠ c.block
 og : ∀ b, sg.blk b → w0.heap.size ≤ b ∧ ¬ H b ∧ ¬ F1 b ∧ b ≠ c.block
 os : ∀ b, sm.blk b → w0.heap.size ≤ b ∧ ¬ H b ∧ ¬ F1 b ∧ b ≠ c.block ∧ b ≠ c1.block ∧ b ≠ c2.block ∧ b ≠ m ∧ ¬ sg.blk b
section
variable {w0 w w' : World} {H H' : Nat → Prop} {c p c1 c2 : Addr} {m : Nat} {sg sm : Sl} {G M : List Int} {L L' : Sp.Pool} {F F1 F2 : Nat → Prop}
theorem RunS.hst (h : RunS w0 H w c p c1 c2 m sg sm G M L F F1) (hs : Hst w0 H w H' w') : RunS w0 H' w' c p c1 c2 m sg sm G M L F F1 := by
 have xc := hs.disj (G := fun b => CookF c sg sm b) (fun b hb => ⟨h.ck.lt hb, by rcases hb with rfl | hb | hb; exact h.oc.2.1; exact (h.og b hb).2.1; exact (h.os b hb).2.1⟩)
 have xP := hs.disj (G := F1) (fun b hb => ⟨h.pool.lt hb, (h.oP b hb).2⟩)
 have x1 := hs.disj (G := (· = c1.block)) (fun b hb => by subst hb; exact ⟨h.b1.lt, h.o1.2.1⟩) _ rfl
 have x2 := hs.disj (G := (· = c2.block)) (fun b hb => by subst hb; exact ⟨h.b2.lt, h.o2.2.1⟩) _ rfl
 have xm := hs.disj (G := (· = m)) (fun b hb => by subst hb; exact ⟨h.mp.lt, h.om.2.1⟩) _ rfl
 exact ⟨h.ck.ext hs.ext xc, h.mp.ext hs.ext xm, h.b1.ext hs.ext x1, h.b2.ext hs.ext x2, h.pool.ext hs.ext xP, h.fr.hst hs, hs.here, fun b hb => ⟨(h.oP b hb).1, xP b hb⟩, ⟨h.oc.1, xc _ (.inl rfl), h.oc.2.2⟩, ⟨h.o1.1, x1, h.o1.2.2⟩, ⟨h.o2.1, x2, h.o2.2.2⟩, ⟨h.om.1, xm, h.om.2.2⟩,
  fun b hb => ⟨(h.og b hb).1, xc b (.inr (.inl hb)), (h.og b hb).2.2⟩, fun b hb => ⟨(h.os b hb).1, xc b (.inr (.inr hb)), (h.os b hb).2.2⟩⟩
theorem RunS.make (h : RunS w0 H w c p c1 c2 m sg sm G M L F F1) (hP : PoolAt w' p L' F2) (E : Ext F1 w w') (hF : ∀ b, F2 b → F1 b ∨ w.heap.size ≤ b) : Kept H w w' ∧ RunS w0 H w' c p c1 c2 m sg sm G M L' F F2 := by
 have hk : Kept H w w' := E.kept (fun b hb hf => (h.oP b hf).2 hb)
 have z : w0.heap.size ≤ w.heap.size := h.fr.size
 have nf : ∀ b, b < w.heap.size → ¬ F1 b → ¬ F2 b := fun b hb h1 h2 => (hF b h2).elim h1 (fun h3 => by omega)
 refine ⟨hk, h.ck.ext E (fun b hb => by rcases hb with rfl | hb | hb; exact h.oc.2.2; exact (h.og b hb).2.2.1; exact (h.os b hb).2.2.1), h.mp.ext E h.om.2.2.1, h.b1.ext E h.o1.2.2.1, h.b2.ext E h.o2.2.2.1, hP, ?_, h.hs.again hk, fun b hb => ?_, ⟨h.oc.1, h.oc.2.1, nf _ h.ck.box.lt h.oc.2.2⟩, ⟨h.o1.1, h.o1.2.1, nf _ h.b1.lt h.o1.2.2.1, h.o1.2.2.2⟩, ⟨h.o2.1, h.o2.2.1, nf _ h.b2.lt h.o2.2.2.1, h.o2.2.2.2⟩, ⟨h.om.1, h.om.2.1, nf _ h.mp.lt h.om.2.2.1, h.om.2.2.2⟩,
  fun b hb => ⟨(h.og b hb).1, (h.og b hb).2.1, nf _ (h.ck.giv.lt hb) (h.og b hb).2.2.1, (h.og b hb).2.2.2⟩, fun b hb => ⟨(h.os b hb).1, (h.os b hb).2.1, nf _ (h.ck.made.lt hb) (h.os b hb).2.2.1, (h.os b hb).2.2.2⟩⟩
 ·exact h.fr.trans' E (fun i hi hb => (h.oP i hb).1.elim id (fun h => by omega))
 ·rcases hF b hb with h1 | h1
  ·exact h.oP b h1
  ·exact ⟨.inr (by omega), fun hh => by have := h.hs.lt b hh; omega⟩
theorem RunS.app (h : RunS w0 H w c p c1 c2 m sg sm G M L F F1) {t : Int} {q : Addr} {w1 : World} (hq : New w (.cells #[.int .i64 t] 41) q w1) (hn : M.length ≤ 1000000) : ∃ s1 w2, (Builtin.append_ #[26, 26] 26 #[sm.v, (Sl.mk (some q) 1 1).v]).run Try.prog w1 = .ok s1.v w2 ∧ Kept H w1 w2 ∧ CanW w2 (c.add 2) ∧
  RunS w0 H (w2.setCell (c.add 2) s1.v) c p c1 c2 m sg s1 G (M ++ [t]) L F F1 := by
 have E1 : Pure w w1 := Ext.new hq
 obtain ⟨s1, w2, hr, hR, hE, hb⟩ := (h.ck.made.pure E1).append (P := Try.prog) (ty := 26) (c := 1) slT_tm (r := [.int .i64 t]) (Box.of_new hq).row rfl rfl (by rw [tmr_len]; omega) (by rw [tmr_len]; simp [maxLen]; omega)
 have hk : Kept H w1 w2 := hE.kept (fun b hb hs => (h.os b hs).2.1 hb)
 have hbx := (h.ck.box.pure E1).ext hE (fun hs => (h.os _ hs).2.2.2.1 rfl)
 have z1 := E1.size
 have z2 := hE.size
 have z : w0.heap.size ≤ w.heap.size := h.fr.size
 have E3 := Ext.setCell (w := w2) (c.add 2) s1.v
 rw [add_block] at E3
 have hs1 : ∀ b, s1.blk b → w0.heap.size ≤ b ∧ ¬ H b ∧ ¬ F1 b ∧ b ≠ c.block ∧ b ≠ c1.block ∧ b ≠ c2.block ∧ b ≠ m ∧ ¬ sg.blk b := fun b hb' => by
  rcases hb b hb' with h1 | h1
  ·exact h.os b h1
  ·have a0 := h.ck.box.lt; have a1 := h.b1.lt; have a2 := h.b2.lt; have a3 := h.mp.lt
   exact ⟨by omega, fun hh => by have := h.hs.lt b hh; omega, fun hh => by have := h.pool.lt hh; omega, by omega, by omega, by omega, by omega, fun hh => by have := h.ck.giv.lt hh; omega⟩
 refine ⟨s1, w2, hr, hk, hbx.canW (by simp), ⟨hbx.set 2 s1.v, ((h.ck.giv.pure E1).ext hE (fun b hb hs => (h.os b hs).2.2.2.2.2.2.2 hb)).ext E3 (fun b hb e => (h.og b hb).2.2.2 e), ?_⟩, ((h.mp.pure E1).ext hE (fun hs => (h.os _ hs).2.2.2.2.2.2.1 rfl)).ext E3 h.om.2.2.2, ((h.b1.pure E1).ext hE (fun hs => (h.os _ hs).2.2.2.2.1 rfl)).ext E3 h.o1.2.2.2, ((h.b2.pure E1).ext hE (fun hs => (h.os _ hs).2.2.2.2.2.1 rfl)).ext E3 h.o2.2.2.2,
  ((h.pool.pure E1).ext hE (fun b hb hs => (h.os b hs).2.2.1 hb)).ext E3 (fun b hb e => h.oc.2.2 (e ▸ hb)), ?_, (h.hs.again (E1.keptP)).again hk |>.again (E3.kept (fun b hb e => h.oc.2.1 (e ▸ hb))), h.oP, h.oc, h.o1, h.o2, h.om, h.og, hs1⟩
 ·rw [show tmr (M ++ [t]) = tmr M ++ [[.int .i64 t]] by simp [tmr]]
  exact hR.ext E3 (fun b hb e => (hs1 b hb).2.2.2.1 e)
 ·exact ((h.fr.thenPure E1).trans' hE (fun i hi hs => by have := (h.os i hs).1; omega)).trans' E3 (fun i hi e => by have := h.oc.1; omega)
end
structure RanK (w0 : World) (p : Addr) (F : Nat → Prop) (R : List Int × Int × Sp.Pool) (s : Sl) (r2 : Int) (w' : World) : Prop where
 err : r2 = R.2.1
 pool : ∃ F', PoolAt w' p R.2.2 F' ∧ (∀ b, F' b → F b ∨ w0.heap.size ≤ b) ∧ ∀ b, s.blk b → ¬ F' b
 rows : Rws w' 41 1 s (tmr R.1)
 own : ∀ b, s.blk b → w0.heap.size ≤ b
 fr : Ext F w0 w'
theorem RunS.done {w0 w : World} {H : Nat → Prop} {c p c1 c2 : Addr} {m : Nat} {sg sm : Sl} {G M : List Int} {L : Sp.Pool} {F F1 : Nat → Prop} (h : RunS w0 H w c p c1 c2 m sg sm G M L F F1) {R : List Int × Int × Sp.Pool} {e : Int} (hR : R = (M, e, L)) : RanK w0 p F R sm e w := by
 subst hR
 exact ⟨rfl, ⟨F1, h.pool, fun b hb => (h.oP b hb).1, fun b hb => (h.os b hb).2.2.1⟩, h.ck.made, fun b hb => (h.os b hb).1, h.fr⟩
theorem c_recipe_run {Sl0 : Nat → Prop} (p k : Addr) (sl : Sl) (l : List Sp.Op) (w0 : World) {L : Sp.Pool} {G : List Int} {S : List Sp.Way} {F FK : Nat → Prop} (hW : Sp.Wf L) (hP : PoolAt w0 p L F) (hK : KnowAt w0 k p G S FK) (hl : Lst Sl0 w0 5 sl (l.map oprow)) (hS0 : ∀ b, Sl0 b → b < w0.heap.size ∧ ¬ F b) (hG : G.length ≤ 1000000) (hn : l.length ≤ 1000) :
  Calls Try.prog 104 #[.pointer (some p), .pointer (some k), sl.v] w0 (fun e w' => ∃ s : Sl, ∃ r2 : Int, e = .returned (.tuple #[s.v, .int .i64 r2]) ∧ RanK w0 p F (Sp.runOps L G [] l) s r2 w') := by
 refine w_recipe_run _ _ _ w0 (fun s r2 w' => RanK w0 p F (Sp.runOps L G [] l) s r2 w') ?_
 unfold m_recipe_run
 refine (c_ded_Given k p w0 hK hG).mono ?_
 rintro _ w1 ⟨sg, rfl, hg⟩
 refine ⟨sg, rfl, hg.kept, ?_⟩
 intro c w2 n2
 have E2 : Pure w1 w2 := Ext.new n2
 have B2 := Box.of_new n2
 have hnil : ∀ b, ¬ Sl.nil.blk b := fun b hb => by obtain ⟨a, h, _⟩ := hb; cases h
 have C2 : CookS w2 c p sg Sl.nil G [] := ⟨B2, hg.rows.pure E2, Rws.nil _ _ _⟩
 refine (c_cook_kitchen C2).mono ?_
 rintro _ w3 ⟨_, rfl, m, c1, c2, rfl, hM, hb1, hb2, hm1, hm2, z1, z2, z3, E3⟩
 refine ⟨_, rfl, E3.keptP, ?_⟩
 have E03 : Pure w0 w3 := (hg.pure.trans E2).trans E3
 have q0 := hg.pure.size
 have q1 := n2.at_size
 have q2 := E2.size
 have q3 := E3.size
 have q4 := B2.lt
 have R3 : RunS w0 None w3 c p c1 c2 m sg Sl.nil G [] L F F := by
  refine ⟨C2.pure E3, hM, hb1, hb2, hP.pure E03, E03.pure, (Hst.start w0).again E03.keptP, fun b hb => ⟨.inl hb, fun h => h⟩, ⟨by omega, fun h => h, fun h => by have := hP.lt h; omega⟩, ⟨by omega, fun h => h, fun h => by have := hP.lt h; omega, by omega⟩, ⟨by omega, fun h => h, fun h => by have := hP.lt h; omega, by omega⟩, ⟨by omega, fun h => h, fun h => by have := hP.lt h; omega, by omega⟩, fun b hb => ⟨hg.own b hb, fun h => h, fun h => by have := hP.lt h; have := hg.own b hb; omega, ?_⟩, fun b hb => (hnil b hb).elim⟩
  have := hg.rows.lt hb; omega
 refine ⟨fun x H w => ∃ (j : Nat) (M : List Int) (L1 : Sp.Pool) (sm : Sl) (F1 : Nat → Prop), x = j ∧ j ≤ l.length ∧ M.length = j ∧ Sp.Wf L1 ∧ Sp.runOps L G [] l = Sp.runOps L1 G M (l.drop j) ∧ RunS w0 H w c p c1 c2 m sg sm G M L1 F F1, fun x _ => ((l.length : Int) - x).toNat, ⟨0, [], L, Sl.nil, F, rfl, Nat.zero_le _, rfl, hW, rfl, R3⟩, ?_⟩
 rintro _ H w _ ⟨j, M, L1, sm, F1, rfl, hj, hMj, hW1, hrun, R⟩
 unfold m_recipe_run_l1
 have hll : sl.len = l.length := by rw [hl.len]; simp
 refine ⟨fun h => ?_, fun h => ?_⟩
 ·have hlt := lt_of_dec hll h
  obtain ⟨a, hat, hSa, hrow⟩ := hl.nth hlt
  have hrow' : Row w a (oprow l[j]) := R.fr.row hrow (hS0 _ hSa).2
  refine ⟨a, hat, l[j].code, l[j].a, l[j].b, l[j].num, l[j].text, hrow', ?_⟩
  intro H1 w5 hs5
  have R5 := R.hst hs5
  rw [Sp.runOps_step hlt] at hrun
  have hok1 := hW1.ok
  have dish := c_dish R5.ck R5.b1.cell0 R5.b2.cell0 R5.pool hok1 R5.o2.2.2.1 l[j]
  generalize l[j] = o at *
  rcases R5.mp.get (P := Try.prog) (T := 226) Try.underlying226 Try.underlying3 (Try.zeroValue229 _) o.code true with ⟨g1, g2⟩ | ⟨v, g1, g2⟩
  ·refine ⟨_, _, g2, Br.t rfl ⟨sm, R5.ck.box.cell rfl, ?_⟩⟩
   rw [dish.1 g1] at hrun
   exact R5.done hrun
  ·obtain ⟨f1, fs, cs, rfl, hf, hc⟩ := dish.2 v g1
   refine ⟨_, _, g2, Br.f rfl ⟨f1, fs, cs, rfl, hf, ?_⟩⟩
   refine hc.mono ?_
   rintro _ w6 ⟨r3, r4, rfl, hr, F2, hP2, X2, hF2⟩
   obtain ⟨k6, R6⟩ := R5.make hP2 X2 hF2
   have hW2 := Sp.doOp_wf hW1 G M o
   generalize Sp.doOp L1 G M o = D at *
   obtain ⟨d1, d2, L2⟩ := D
   simp only [Prod.mk.injEq] at hr
   obtain ⟨rfl, rfl⟩ := hr
   simp only at hrun R6 hW2
   refine ⟨_, _, rfl, k6, fun h => ?_, fun h => ?_⟩
   ·rw [if_pos (by simpa using h)] at hrun
    exact ⟨sm, R6.ck.box.cell rfl, R6.done hrun⟩
   ·rw [if_neg (by simpa using h)] at hrun
    refine ⟨sm, R6.ck.box.cell rfl, ?_⟩
    intro q w7 n7
    obtain ⟨s1, w8, hr8, k8, cw, R9⟩ := R6.app n7 (by omega)
    refine ⟨s1, w8, hr8, k8, cw, by rw [add_block]; exact R6.oc.2.1, ?_⟩
    rintro _ rfl
    rw [wrap_succ hlt (by omega)]
    exact ⟨⟨j + 1, M ++ [_], L2, s1, F2, rfl, hlt, by simp [hMj], hW2, hrun, R9⟩, lt_dec hlt⟩
 ·have hge := eq_of_dec hll hj h
  subst hge
  refine ⟨sm, R.ck.box.cell rfl, R.done ?_⟩
  rw [hrun, List.drop_length]; rfl
theorem refuses_eq {p k : Addr} {sl : Sl} {n : Nat} (h : sl.len = n) : s_recipe_refuses (some p) (some k) sl = (if n > 256 then 6 else if n = 0 then 3 else 0) := by
 unfold s_recipe_refuses
 rw [h]
 simp only [Option.isNone_some, Bool.or_self, cond_false]
 by_cases h1 : n > 256
 ·rw [if_pos h1, decide_eq_true (by omega)]; rfl
 ·rw [if_neg h1, decide_eq_false (by omega)]
  by_cases h2 : n = 0
  ·subst h2; rfl
  ·rw [if_neg h2, show (((n : Int) == 0) = false) from by simpa using h2]; rfl
abbrev EvalK (w0 : World) (p : Addr) (F : Nat → Prop) (R : Int × Int × Int × Sp.Pool) (r1 r2 r3 : Int) (w' : World) : Prop := (r1, r2, r3) = (R.1, R.2.1, R.2.2.1) ∧ ∃ F', PoolAt w' p R.2.2.2 F' ∧ Ext F w0 w' ∧ ∀ b, F' b → F b ∨ w0.heap.size ≤ b
section
variable {Sl0 : Nat → Prop} (p k : Addr) (sl : Sl) (l : List Sp.Op) (w0 : World) {L : Sp.Pool} {G : List Int} {S : List Sp.Way} {F FK : Nat → Prop} (hW : Sp.Wf L) (hP : PoolAt w0 p L F) (hK : KnowAt w0 k p G S FK) (hl : Lst Sl0 w0 5 sl (l.map oprow)) (hS0 : ∀ b, Sl0 b → b < w0.heap.size ∧ ¬ F b) (hG : G.length ≤ 1000000) (hn : l.length ≤ 1000)
include hW hP hK hl hS0 hG hn
theorem c_recipe_Eval : Calls Try.prog 54 #[.pointer (some p), .pointer (some k), sl.v] w0 (fun e w' => ∃ r1 : Int, ∃ r2 : Int, ∃ r3 : Int, e = .returned (.tuple #[.int .i64 r1, .int .i64 r2, .int .i64 r3]) ∧ EvalK w0 p F (Sp.evalOps L G l) r1 r2 r3 w') := by
 refine w_recipe_Eval _ _ _ w0 (EvalK w0 p F (Sp.evalOps L G l)) ?_
 unfold m_recipe_Eval
 have hll : sl.len = l.length := by rw [hl.len]; simp
 rw [refuses_eq hll]
 unfold Sp.evalOps
 by_cases h1 : l.length > 256
 ·rw [if_pos h1, if_pos h1]
  exact Br.t rfl (fun w1 hs1 => ⟨rfl, F, hP.pure hs1.first, hs1.first.pure, fun b hb => .inl hb⟩)
 rw [if_neg h1, if_neg h1]
 by_cases h2 : l.length = 0
 ·rw [if_pos h2, if_pos h2]
  exact Br.t rfl (fun w1 hs1 => ⟨rfl, F, hP.pure hs1.first, hs1.first.pure, fun b hb => .inl hb⟩)
 rw [if_neg h2, if_neg h2]
 refine Br.f rfl (fun w1 hs1 => ?_)
 have E1 := hs1.first
 refine (c_recipe_run p k sl l w1 hW (hP.pure E1) (hK.pure E1) (hl.pure E1) (fun b hb => ⟨by have := (hS0 b hb).1; have := E1.size; omega, (hS0 b hb).2⟩) hG hn).mono ?_
 rintro _ w2 ⟨s, r2, rfl, hR⟩
 obtain ⟨he, ⟨F', hP', hF', hdj⟩, hrows, hown, X⟩ := hR
 refine ⟨s, r2, rfl, X.kept (fun b hb => hb.elim), ?_⟩
 have hlen := Sp.runOps_len G l L []
 have fin : ∃ F', PoolAt w2 p (Sp.runOps L G [] l).2.2 F' ∧ Ext F w0 w2 ∧ ∀ b, F' b → F b ∨ w0.heap.size ≤ b := ⟨F', hP', E1.pure.trans X, fun b hb => (hF' b hb).imp_right (fun h => by have := E1.size; omega)⟩
 generalize Sp.runOps L G [] l = R at *
 obtain ⟨M, e, L2⟩ := R
 simp only at he hrows hlen fin hP'
 subst he
 simp only [List.length_nil, Nat.zero_add] at hlen
 have hsl : s.len = M.length := by rw [hrows.len, tmr_len]
 refine ⟨fun h => ?_, fun h => ?_⟩
 ·rw [if_pos (by simpa using h)]
  exact ⟨by rw [hsl], fin⟩
 ·have h0 : r2 = 0 := by simpa using h
  rw [if_neg (by simpa using h0)]
  have hM := hlen.2 h0
  have hne : M ≠ [] := fun e => by rw [e] at hM; simp at hM; omega
  rw [show IntKind.i64.wrap ((s.len : Int) - 1) = (((l.length - 1 : Nat)) : Int) by rw [hsl, hM, IntWalk.i64_in _ (by omega)]; omega]
  have hat : Sp.atM M ((l.length - 1 : Nat) : Int) = some (M.getLast hne) := by
   rw [Sp.atM_in (by omega) (by omega)]
   simp [List.getLast_eq_getElem, hM]
  obtain ⟨a, ha, hc⟩ := tms_nth hrows hat
  refine ⟨a, ha, _, hc, ?_, fin⟩
  rw [List.getLast?_eq_some_getLast hne]; rfl
theorem c_recipe_Trace : Calls Try.prog 56 #[.pointer (some p), .pointer (some k), sl.v] w0 (fun e w' => ∃ s : Sl, e = .returned s.v ∧ RanK w0 p F ((Sp.traceOps L G l).1, 0, (Sp.traceOps L G l).2) s 0 w') := by
 refine w_recipe_Trace _ _ _ w0 (fun s w' => RanK w0 p F ((Sp.traceOps L G l).1, 0, (Sp.traceOps L G l).2) s 0 w') ?_
 unfold m_recipe_Trace
 have hll : sl.len = l.length := by rw [hl.len]; simp
 have hnil : ∀ b, ¬ Sl.nil.blk b := fun b hb => by obtain ⟨a, h, _⟩ := hb; cases h
 have no : ∀ w1, Hst w0 None w0 None w1 → RanK w0 p F ([], 0, L) Sl.nil 0 w1 := fun w1 hs1 => ⟨rfl, ⟨F, hP.pure hs1.first, fun b hb => .inl hb, fun b hb => (hnil b hb).elim⟩, Rws.nil _ _ _, fun b hb => (hnil b hb).elim, hs1.first.pure⟩
 rw [refuses_eq hll]
 unfold Sp.traceOps
 by_cases h1 : l.length > 256
 ·rw [if_pos h1, if_pos h1]
  exact Br.t rfl no
 rw [if_neg h1, if_neg h1]
 by_cases h2 : l.length = 0
 ·rw [if_pos h2, if_pos h2]
  exact Br.t rfl no
 rw [if_neg h2, if_neg h2]
 refine Br.f rfl (fun w1 hs1 => ?_)
 have E1 := hs1.first
 refine (c_recipe_run p k sl l w1 hW (hP.pure E1) (hK.pure E1) (hl.pure E1) (fun b hb => ⟨by have := (hS0 b hb).1; have := E1.size; omega, (hS0 b hb).2⟩) hG hn).mono ?_
 rintro _ w2 ⟨s, r2, rfl, hR⟩
 obtain ⟨he, ⟨F', hP', hF', hdj⟩, hrows, hown, X⟩ := hR
 have z := E1.size
 exact ⟨s, r2, rfl, X.kept (fun b hb => hb.elim), rfl, ⟨F', hP', fun b hb => (hF' b hb).imp_right (fun h => by omega), hdj⟩, hrows, fun b hb => by have := hown b hb; omega, E1.pure.trans X⟩
end
end Go.Proofs
end
section
namespace Go.Sp
theorem make_few8 (L : Pool) (n : Node) : (make L n).2.2.length ≤ L.length + 1 := by
 rcases make_pool L n with e | ⟨_, e⟩ <;> rw [e] <;> simp
theorem grow_few8 (t : Tree) : ∀ L, (grow L t).2.2.length ≤ L.length + cnt t := by
 induction t using Tree.ind with
 | h k f t u x ks ih =>
  have : ∀ (ks : List Tree), (∀ i (hi : i < ks.length), ∀ L, (grow L ks[i]).2.2.length ≤ L.length + cnt ks[i]) → ∀ n i L, (growAll n i L ks).2.2.length ≤ L.length + 1 + cntAll ks := by
   intro ks
   induction ks with
   | nil => intro _ n i L; unfold growAll; have := make_few8 L n; simp only [cntAll]; omega
   | cons t ts iht =>
    intro hh n i L
    have h0 := hh 0 (by simp) L
    simp only [List.getElem_cons_zero] at h0
    unfold growAll
    simp only [cntAll]
    split
    ·simp only; omega
    ·have := iht (fun i hi => hh (i + 1) (by simpa using hi)) (if i = 0 then { n with a := (grow L t).1 } else { n with b := (grow L t).1 }) (i + 1) (grow L t).2.2
     omega
  intro L
  have := this ks ih ⟨k, f, t, u, x, 0, 0⟩ 0 L
  unfold grow
  rw [cnt]; omega
theorem of_few8 (L : Pool) (t : Tree) : (of L t).2.2.length ≤ L.length + cnt t := by
 have := grow_few8 t L
 unfold of
 split
 ·simp only; omega
 ·split
  ·simp only; omega
  ·exact this
end Go.Sp
end
