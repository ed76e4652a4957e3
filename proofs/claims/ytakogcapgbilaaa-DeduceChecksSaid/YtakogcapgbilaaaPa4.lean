import Derived.Test.YtakogcapgbilaaaPa3
import Derived.Test.YtakogcapgbilaaaPa2
import Derived.Test.YtakogcapgbilaaaProg
import Derived.KernelRfl
import Derived.Test.YtakogcapgbilaaaPa0
import Derived.ProofKit
import Derived.Carry
import Derived.OpenShut
import Derived.Stop.Joined
section
open Go Go.SE
namespace Go.Proofs
attribute [local irreducible] Calls
theorem fieldsErr_ne (s : Sp.Shape) (n : Sp.Node) : Sp.fieldsErr s n ≠ 53 := by
 unfold Sp.fieldsErr
 split
 ·omega
 ·split <;> omega
theorem ownErr_eq (k f t u : Int) (x : ByteArray) (len : Nat) : Sp.ownErr ⟨k, f, t, u, x, 0, 0⟩ len = (if (Sp.nodeErr ⟨k, f, t, u, x, 0, 0⟩ ≠ 53 ∧ (len : Int) ≠ (Sp.shapeOf k).kids) then 53 else Sp.nodeErr ⟨k, f, t, u, x, 0, 0⟩) := by
 unfold Sp.ownErr Sp.nodeErr
 simp only
 rcases plainErr_val ⟨k, f, t, u, x, 0, 0⟩ with h | h
 ·rw [h]; simp
 ·rw [h]
  have := fieldsErr_ne (Sp.shapeOf k) ⟨k, f, t, u, x, 0, 0⟩
  by_cases h2 : (len : Int) = (Sp.shapeOf k).kids <;> simp [h2, this]
theorem c_ref05_looked {S : Nat → Prop} (q : Addr) (hq : ¬ S q.block) (T : TypeId) (t : Sp.Tree) : ∀ (s : Sl) (inside seen : Int) (w0 : World), 0 ≤ inside → 0 ≤ seen → TreeAt S w0 s t → (∀ b, S b → b < w0.heap.size) → Box w0 q [.int .i64 seen] T →
  Calls Try.prog 159 #[.agg (trow t s).toArray, .int .i64 inside, .pointer (some q)] w0
   (fun e w' => ∃ r : Int, e = .returned (.int .i64 r) ∧ (r = (Sp.looks inside seen t).1 ∧ Box w' q [.int .i64 (Sp.looks inside seen t).2] T ∧ Ext (· = q.block) w0 w')) := by
 induction t using Sp.Tree.ind with
 | h k f t u x ks ih =>
 intro s inside seen w0 hi0 hn0 hT hSw hB
 suffices key : ∀ K : Int → World → Prop, (∀ r w', (r = (Sp.looks inside seen (.mk k f t u x ks)).1 ∧ Box w' q [.int .i64 (Sp.looks inside seen (.mk k f t u x ks)).2] T ∧ Ext (· = q.block) w0 w') → K r w') → m_ref05_looked k f t u x s inside (some q) w0 K from
  w_ref05_looked _ _ _ _ _ _ _ _ w0 _ (key _ (fun _ _ h => h))
 intro K hK
 have hql := hB.lt
 unfold m_ref05_looked
 refine ⟨q, rfl, ?_⟩
 intro H1 w1 hs1
 have hB1 := hB.pure hs1.first
 refine ⟨seen, hB1.cell0, ?_⟩
 intro H5 w13 hs5
 have E13 := hs1.first.hst hs5
 have hB13 := hB.pure E13
 have hq0 : ∀ {H w' H' w''}, Hst w0 H w' H' w'' → ¬ H' q.block := fun h hh => by have := h.old _ hh; omega
 unfold m_ref05_looked_j1
 refine ⟨fun h => ?_, fun h => ?_⟩
 ·have : Sp.looks inside seen (.mk k f t u x ks) = (52, seen) := by
   rw [Sp.looks]
   simp only [Bool.or_eq_true, decide_eq_true_eq] at h
   by_cases h1 : 4096 ≤ seen
   ·rw [if_pos h1]
   ·rw [if_neg h1, if_pos (by omega)]
  rw [this] at hK; exact hK _ _ ⟨rfl, hB13, E13.pure⟩
 ·have h1 : ¬ 4096 ≤ seen ∧ ¬ 64 ≤ inside := by
   simp only [Bool.or_eq_false_iff, decide_eq_false_iff_not] at h; omega
  have hsp : Sp.looks inside seen (.mk k f t u x ks) = Sp.looksAll (inside + 1) (Sp.ownErr ⟨k, f, t, u, x, 0, 0⟩ ks.length) (seen + 1) ks := by rw [Sp.looks, if_neg h1.1, if_neg h1.2]
  rw [hsp] at hK
  have hlen : s.len = ks.length := by cases hT; assumption
  have hfit : ks.length ≤ 9223372036854775807 := by cases hT; assumption
  refine ⟨q, rfl, seen, hB13.cell0, q, rfl, hB13.canW0 (by simp), hq0 hs5, ?_⟩
  rw [i64 (n := seen + 1) (by omega) (by omega)]
  rintro w2 hw2
  have hB2 : Box w2 q [.int .i64 (seen + 1)] T := by rw [hw2]; exact hB13.set0
  have E2 : Ext (· = q.block) w0 w2 := by rw [hw2]; exact E13.pure.trans (Ext.setCell q _)
  clear hw2
  rintro y1 rfl
  have hsh := ref05_shape ⟨k, f, t, u, x, 0, 0⟩
  simp only at hsh
  rw [hsh, ref05_kids, hlen]
  have hown : cond ((Sp.nodeErr ⟨k, f, t, u, x, 0, 0⟩ != 53) && ((ks.length : Int) != (Sp.shapeOf k).kids)) 53 (Sp.nodeErr ⟨k, f, t, u, x, 0, 0⟩) = Sp.ownErr ⟨k, f, t, u, x, 0, 0⟩ ks.length := by
   rw [ownErr_eq]
   by_cases h2 : Sp.nodeErr ⟨k, f, t, u, x, 0, 0⟩ = 53
   ·simp [h2]
   ·by_cases h3 : (ks.length : Int) = (Sp.shapeOf k).kids
    ·simp [h3]
    ·have e1 : (Sp.nodeErr ⟨k, f, t, u, x, 0, 0⟩ != 53) = true := by simpa using h2
     have e2 : ((ks.length : Int) != (Sp.shapeOf k).kids) = true := by simpa using h3
     rw [e1, e2, if_pos ⟨h2, h3⟩]; rfl
  rw [hown]
  intro H3 w10 hs3
  have E10 : Ext (· = q.block) w0 w10 := E2.hst hs3
  have hB10 := hB2.ext hs3.ext (hq0 hs3)
  refine ⟨fun e i H w' => ∃ j : Nat, i = j ∧ j ≤ ks.length ∧ ∃ n : Int, 0 ≤ n ∧ Ext (· = q.block) w0 w' ∧ Box w' q [.int .i64 n] T ∧ Sp.looksAll (inside + 1) e n (ks.drop j) = Sp.looksAll (inside + 1) (Sp.ownErr ⟨k, f, t, u, x, 0, 0⟩ ks.length) (seen + 1) ks, fun _ i _ => ((ks.length : Int) - i).toNat, ⟨0, rfl, Nat.zero_le _, seen + 1, by omega, E10, hB10, rfl⟩, ?_⟩
  rintro e1 _ Hl wl hl ⟨j, rfl, hj, n, hn, El, hBl, heq⟩
  unfold m_ref05_looked_l2
  have hTl := hT.ext El (fun b hb e => hq (e ▸ hb))
  refine ⟨fun hc => ?_, fun hc => ?_⟩
  ·simp only [Bool.and_eq_true, beq_iff_eq] at hc
   obtain ⟨he, hlt⟩ := hc
   have hlt := lt_of_dec hlen hlt
   subst he
   cases hTl with
   | mk _ _ _ _ _ _ _ rs len fit row kid =>
   obtain ⟨a, hat, ha, hr⟩ := row j hlt
   refine ⟨a, hat, ?_⟩
   intro H4 w11 hs4
   have E11 := El.hst hs4
   have hT11 := hT.ext E11 (fun b hb e => hq (e ▸ hb))
   have hr11 : Row w11 a (trow ks[j] (rs j)) := hs4.ext.row hr (fun hh => by have := hs4.old _ hh; have := hSw _ ha; omega)
   have hk11 : TreeAt S w11 (rs j) ks[j] := (kid j hlt).ext hs4.ext (fun b hb hh => by have := hs4.old _ hh; have := hSw _ hb; omega)
   have hB11 := hBl.ext hs4.ext (hq0 hs4)
   refine ⟨_, _, _, _, _, rs j, hr11, ?_⟩
   rw [i64 (n := inside + 1) (by omega) (by omega)]
   refine (ih j hlt (rs j) (inside + 1) n w11 (by omega) hn hk11 (fun b hb => by have := hSw b hb; have := E11.size; omega) hB11).mono ?_
   rintro _ w12 ⟨r, rfl, rfl, hB12, E12⟩
   refine ⟨_, rfl, E12.kept (fun b hb e => hq0 hs4 (e ▸ hb)), ?_⟩
   rw [wrap_succ hlt (by omega)]
   refine ⟨⟨j + 1, rfl, hlt, _, looks_mono ks[j] (inside + 1) n hn, E11.trans E12, hB12, ?_⟩, lt_dec hlt⟩
   rw [← heq]; exact (looksAll_drop hlt (inside + 1) n).symm
  ·intro H4 w11 hs4
   have hfin : Sp.looksAll (inside + 1) e1 n (ks.drop j) = (e1, n) := by
    by_cases he : e1 = 0
    ·have hge : j = ks.length := by
      rw [he] at hc
      have hc : decide ((j : Int) < (s.len : Int)) = false := by simpa using hc
      exact eq_of_dec hlen hj hc
     rw [hge, List.drop_length]; rfl
    ·exact looksAll_bad he _ _
   rw [hfin] at heq
   refine hK _ _ ⟨by rw [← heq], ?_, El.hst hs4⟩
   rw [← heq]; exact hBl.ext hs4.ext (hq0 hs4)
theorem c_ref05_Looks {S : Nat → Prop} (t : Sp.Tree) (s : Sl) (w0 : World) (hT : TreeAt S w0 s t) (hSw : ∀ b, S b → b < w0.heap.size) :
  Calls Try.prog 125 #[.agg (trow t s).toArray] w0 (fun e w' => ∃ r : Int, e = .returned (.int .i64 r) ∧ (r = (Sp.looks 0 0 t).1 ∧ Pure w0 w')) := by
 obtain ⟨k, f, to, u, x, ks⟩ := t
 refine w_ref05_Looks _ _ _ _ _ _ w0 (fun r w' => r = (Sp.looks 0 0 (.mk k f to u x ks)).1 ∧ Pure w0 w') ?_
 unfold m_ref05_Looks
 intro H1 w1 hs1 p w2 h2
 have b2 := Box.of_new h2
 have E2 : Pure w0 w2 := hs1.first.trans (Ext.new h2)
 have o2 := New.own hs1.first h2
 have hpH : ¬ H1 p.block := fun hh => by have := hs1.lt _ hh; have := h2.at_size; omega
 refine ⟨b2.canW0 (by simp), hpH, ?_⟩
 rintro w3 hw3
 have b3 : Box w3 p [.int .i64 0] 3 := by rw [hw3]; exact b2.set0
 have E3 : Pure w0 w3 := by rw [hw3]; exact E2.own o2 (Ext.setCell p _)
 clear hw3
 refine (c_ref05_looked p (fun h => by have := hSw _ h; omega) _ _ s 0 0 w3 (Int.le_refl _) (Int.le_refl _) (hT.pure E3) (fun b hb => by have := hSw b hb; have := E3.size; omega) b3).mono ?_
 rintro _ w4 ⟨r, rfl, rfl, _, E4⟩
 exact ⟨_, rfl, E4.kept (fun b hb e => hpH (e ▸ hb)), rfl, E3.own o2 E4⟩
end Go.Proofs
end
section
open Go Go.SE
namespace Go.Proofs
attribute [local irreducible] Calls
theorem c_ref05_cut (p : Addr) (n : Nat) (w0 : World) {L : Sp.Pool} {F : Nat → Prop} (hP : PoolR w0 p L F) (hn : n ≤ L.length) :
  Calls Try.prog 127 #[.pointer (some p), .int .i64 n] w0 (fun e w' => e = .returned (.tuple #[]) ∧ PoolR w' p (L.take n) F ∧ Ext F w0 w') := by
 suffices key : ∀ K : World → Prop, (∀ w', PoolR w' p (L.take n) F ∧ Ext F w0 w' → K w') → m_ref05_Pool_cut (some p) n w0 K from
  w_ref05_Pool_cut _ _ w0 _ (key _ (fun _ h => h))
 intro K hK
 unfold m_ref05_Pool_cut
 obtain ⟨s1, s2, s3, hS, hF⟩ := hP
 obtain ⟨t1, hr1, R1, hb1⟩ := Rws.hi (P := Try.prog) slT_node hS.r1 (k := .i64) (n := n) (by omega) (by simpa using hn)
 refine ⟨p, rfl, s1, hS.box.cell0, t1, hr1, p, rfl, hS.box.canW0 (by simp), ?_⟩
 rintro w1 hw1
 have B1 : Box w1 p [t1.v, s2.v, s3.v] 75 := by rw [hw1]; exact hS.box.set0
 have X1 : Ext (· = p.block) w0 w1 := by rw [hw1]; exact Ext.setCell p _
 clear hw1
 obtain ⟨t2, hr2, R2, hb2⟩ := Rws.hi (P := Try.prog) slT_int (hS.r2.ext X1 (fun b hb e => hS.n2 (e ▸ hb))) (k := .i64) (n := n) (by omega) (by simpa using hn)
 refine ⟨p, rfl, s2, B1.cell rfl, t2, hr2, p, rfl, B1.canW (by simp), ?_⟩
 rintro w2 hw2
 have B2 : Box w2 p [t1.v, t2.v, s3.v] 75 := by rw [hw2]; exact B1.set 1 _
 have X2 : Ext (· = p.block) w1 w2 := by rw [hw2]; have := Ext.setCell (w := w1) (p.add 1) t2.v; rw [add_block] at this; exact this
 clear hw2
 obtain ⟨t3, hr3, R3, hb3⟩ := Rws.hi (P := Try.prog) slT_int (hS.r3.ext (X1.trans X2) (fun b hb e => hS.n3 (e ▸ hb))) (k := .i64) (n := n) (by omega) (by simpa using hn)
 refine ⟨p, rfl, s3, B2.cell rfl, t3, hr3, p, rfl, B2.canW (by simp), ?_⟩
 rintro w3 hw3
 have B3 : Box w3 p [t1.v, t2.v, t3.v] 75 := by rw [hw3]; exact B2.set 2 _
 have X3 : Ext (· = p.block) w2 w3 := by rw [hw3]; have := Ext.setCell (w := w2) (p.add 2) t3.v; rw [add_block] at this; exact this
 clear hw3
 have E := (X1.trans X2).trans X3
 refine hK _ ⟨⟨t1, t2, t3, ⟨B3, ?_, ?_, ?_, fun h => hS.n1 ((hb1 _).1 h), fun h => hS.n2 ((hb2 _).1 h), fun h => hS.n3 ((hb3 _).1 h), fun b h1 h2 => hS.d12 b ((hb1 b).1 h1) ((hb2 b).1 h2), fun b h1 h2 => hS.d13 b ((hb1 b).1 h1) ((hb3 b).1 h2), fun b h1 h2 => hS.d23 b ((hb2 b).1 h1) ((hb3 b).1 h2)⟩, fun b => by rw [hF b, hb1 b, hb2 b, hb3 b]⟩, E.mono (fun i _ h => (hF i).2 (.inl h))⟩
 ·have := R1.ext E (fun b hb e => hS.n1 ((hb1 _).1 (e ▸ hb)))
  rw [List.map_take]; simpa using this
 ·have := R2.ext (X2.trans X3) (fun b hb e => hS.n2 ((hb2 _).1 (e ▸ hb)))
  rw [List.map_take]; simpa using this
 ·have := R3.ext X3 (fun b hb e => hS.n3 ((hb3 _).1 (e ▸ hb)))
  rw [List.map_take]; simpa using this
theorem c_ref05_made {S : Nat → Prop} (p : Addr) (t : Sp.Tree) : ∀ (s : Sl) (w0 : World) (L : Sp.Pool) (F : Nat → Prop), Sp.Tree.two t → TreeAt S w0 s t → PoolR w0 p L F → Sp.Ok L → (∀ b, F b → ¬ S b) → (∀ b, S b → b < w0.heap.size) →
  Calls Try.prog 126 #[.pointer (some p), .agg (trow t s).toArray] w0
   (fun e w' => ∃ r1 : Int, ∃ r2 : Int, e = .returned (.tuple #[.int .i64 r1, .int .i64 r2]) ∧ ((r1, r2) = ((Sp.grow L t).1, (Sp.grow L t).2.1) ∧ ∃ F', PoolR w' p (Sp.grow L t).2.2 F' ∧ Ext F w0 w' ∧ ∀ b, F' b → F b ∨ w0.heap.size ≤ b)) := by
 induction t using Sp.Tree.ind with
 | h k f t u x ks ih =>
 intro s w0 L F h2 hT hP hok hFS hSw
 suffices key : ∀ K : Int → Int → World → Prop, (∀ r1 r2 w', ((r1, r2) = ((Sp.grow L (.mk k f t u x ks)).1, (Sp.grow L (.mk k f t u x ks)).2.1) ∧ ∃ F', PoolR w' p (Sp.grow L (.mk k f t u x ks)).2.2 F' ∧ Ext F w0 w' ∧ ∀ b, F' b → F b ∨ w0.heap.size ≤ b) → K r1 r2 w') → m_ref05_Pool_made (some p) k f t u x s w0 K from
  w_ref05_Pool_made _ _ _ _ _ _ _ w0 _ (key _ (fun _ _ _ h => h))
 intro K hK
 obtain ⟨hk2, hall⟩ := two_mk.1 h2
 have hsp : Sp.grow L (.mk k f t u x ks) = Sp.growAll ⟨k, f, t, u, x, 0, 0⟩ 0 L ks := by rw [Sp.grow]
 rw [hsp] at hK
 have hlen : s.len = ks.length := by cases hT; assumption
 unfold m_ref05_Pool_made
 intro H2 w4 hs4
 refine ⟨fun i a1 a2 a3 a4 a5 a6 a7 H w' => ∃ j : Nat, i = j ∧ j ≤ ks.length ∧ ∃ (L' : Sp.Pool) (F' : Nat → Prop), Sp.growAll ⟨k, f, t, u, x, 0, 0⟩ 0 L ks = Sp.growAll ⟨a1, a2, a3, a4, a5, a6, a7⟩ j L' (ks.drop j) ∧ Sp.Ok L' ∧ PoolR w' p L' F' ∧ (∀ b, F' b → F b ∨ w0.heap.size ≤ b) ∧ (∀ b, F' b → ¬ H b) ∧ Ext F w0 w', fun i _ _ _ _ _ _ _ _ => ((ks.length : Int) - i).toNat,
  ⟨0, rfl, Nat.zero_le _, L, F, by simp, hok, hP.pure hs4.first, fun b h => .inl h, hs4.disj0 (fun b hb => hP.lt hb), hs4.first.pure⟩, ?_⟩
 rintro _ a1 a2 a3 a4 a5 a6 a7 Hl wl hl ⟨j, rfl, hj, L', F', heq, hok', hPl, hF', hv, El⟩
 unfold m_ref05_Pool_made_l1
 refine ⟨fun h => ?_, fun h => ?_⟩
 ·have hlt := lt_of_dec hlen h
  have hTl : TreeAt S wl s (.mk k f t u x ks) := hT.ext El (fun b hs hf => hFS b hf hs)
  have hkid : ∃ a r, At s j 6 a ∧ Row wl a (trow ks[j] r) ∧ TreeAt S wl r ks[j] := by
   cases hTl with
   | mk _ _ _ _ _ _ _ rs len fit row kid => exact let ⟨a, h1, _, h3⟩ := row j hlt; ⟨a, rs j, h1, h3, kid j hlt⟩
  obtain ⟨a, r, hat, hrow, hTk⟩ := hkid
  refine ⟨a, hat, _, _, _, _, _, r, hrow, ?_⟩
  have hsz : w0.heap.size ≤ wl.heap.size := El.size
  refine (ih j hlt r wl L' F' (twoAll_get hall hlt) hTk hPl hok' (fun b hb hs => (hF' b hb).elim (fun h => hFS b h hs) (fun h => by have := hSw b hs; omega)) (fun b hs => by have := hSw b hs; omega)).mono ?_
  rintro _ w8 ⟨r1, r2, rfl, hr, F8, hP8, E8, hF8⟩
  have e1 : r1 = (Sp.grow L' ks[j]).1 := congrArg Prod.fst hr
  have e2 : r2 = (Sp.grow L' ks[j]).2.1 := congrArg Prod.snd hr
  rw [List.drop_eq_getElem_cons hlt] at heq
  have hF8' : ∀ b, F8 b → F b ∨ w0.heap.size ≤ b := fun b hb => (hF8 b hb).elim (hF' b) (fun h => by right; omega)
  have Ew8 : Ext F w0 w8 := El.trans' E8 (fun i hi h => (hF' i h).elim id (fun h => by omega))
  refine ⟨_, _, rfl, E8.kept (fun b hH hF => hv b hF hH), fun h => ?_, fun h => ?_⟩
  ·have h : (Sp.grow L' ks[j]).2.1 ≠ 0 := by rw [← e2]; simpa using h
   rw [growAll_bad h] at heq
   refine hK _ _ _ ?_
   rw [heq]; exact ⟨by rw [e2], F8, hP8, Ew8, hF8'⟩
  ·have h : (Sp.grow L' ks[j]).2.1 = 0 := by rw [← e2]; simpa using h
   rw [growAll_good h] at heq
   intro H3 w9 hs9
   have hv8 : ∀ b, F8 b → ¬ Hl b := fun b hb hH => (hF8 b hb).elim (fun h => hv b h hH) (fun h => by have := hl.lt b hH; omega)
   have hv9 : ∀ b, F8 b → ¬ H3 b := hs9.disj (fun b hb => ⟨hP8.lt hb, hv8 b hb⟩)
   rw [wrap_succ hlt (by omega)]
   refine ⟨⟨j + 1, rfl, hlt, _, F8, ?_, (Sp.grow_facts ks[j] L' hok').1, hP8.ext hs9.ext hv9, hF8', hv9, Ew8.hst hs9⟩, lt_dec hlt⟩
   rw [heq, e1]
   have hj0 : (((j : Int)) == 0) = decide (j = 0) := by rw [Bool.eq_iff_iff]; simp
   rw [hj0]
   by_cases hj0' : j = 0
   ·subst hj0'; rfl
   ·simp [hj0']
 ·have hge := eq_of_dec hlen hj h
  rw [hge, List.drop_length, Sp.growAll] at heq
  refine (c_ref05_Make p ⟨a1, a2, a3, a4, a5, a6, a7⟩ wl hPl hok').mono ?_
  rintro _ w9 ⟨r1, r2, rfl, hr, F9, hP9, E9, hF9⟩
  have hsz : w0.heap.size ≤ wl.heap.size := El.size
  refine ⟨_, _, rfl, E9.kept (fun b hH hF => hv b hF hH), hK _ _ _ ?_⟩
  rw [heq]
  exact ⟨hr, F9, hP9, El.trans' E9 (fun i hi h => (hF' i h).elim id (fun h => by omega)), fun b hb => (hF9 b hb).elim (hF' b) (fun h => by right; omega)⟩
theorem grow_bad_term (t : Sp.Tree) : ∀ L, (Sp.grow L t).2.1 ≠ 0 → (Sp.grow L t).1 = 0 := by
 induction t using Sp.Tree.ind with
 | h k f t u x ks ih =>
  have hmk : ∀ L n, (Sp.make L n).2.1 ≠ 0 → (Sp.make L n).1 = 0 := by
   intro L n h
   unfold Sp.make at h ⊢
   simp only at h ⊢
   split at h
   ·rename_i h1; rw [if_pos h1]
   ·rename_i h1
    rw [if_neg h1]
    split at h
    ·rename_i hf; exact absurd rfl h
    ·split at h
     ·rename_i h2; simp [h2]
     ·exact absurd rfl h
  have : ∀ (ks : List Sp.Tree), (∀ i (hi : i < ks.length), ∀ L, (Sp.grow L ks[i]).2.1 ≠ 0 → (Sp.grow L ks[i]).1 = 0) → ∀ n i L, (Sp.growAll n i L ks).2.1 ≠ 0 → (Sp.growAll n i L ks).1 = 0 := by
   intro ks
   induction ks with
   | nil => intro _ n i L h; unfold Sp.growAll at h ⊢; exact hmk L n h
   | cons t ts iht =>
    intro hh n i L h
    unfold Sp.growAll at h ⊢
    split at h
    ·rename_i h1; rw [if_pos h1]
    ·rename_i h1; rw [if_neg h1]; exact iht (fun i hi => hh (i + 1) (by simpa using hi)) _ _ _ h
  intro L h
  unfold Sp.grow at h ⊢
  exact this ks ih _ _ L h
theorem c_ref05_Of {S : Nat → Prop} (p : Addr) (t : Sp.Tree) (s : Sl) (w0 : World) {L : Sp.Pool} {F : Nat → Prop} (hT : TreeAt S w0 s t) (hP : PoolR w0 p L F) (hok : Sp.Ok L) (hFS : ∀ b, F b → ¬ S b) (hSw : ∀ b, S b → b < w0.heap.size) :
  Calls Try.prog 77 #[.pointer (some p), .agg (trow t s).toArray] w0
   (fun e w' => ∃ r1 : Int, ∃ r2 : Int, e = .returned (.tuple #[.int .i64 r1, .int .i64 r2]) ∧ ((r1, r2) = ((Sp.of L t).1, (Sp.of L t).2.1) ∧ ∃ F', PoolR w' p (Sp.of L t).2.2 F' ∧ Ext F w0 w' ∧ ∀ b, F' b → F b ∨ w0.heap.size ≤ b)) := by
 obtain ⟨k, f, to, u, x, ks⟩ := t
 suffices key : ∀ K : Int → Int → World → Prop, (∀ r1 r2 w', ((r1, r2) = ((Sp.of L (.mk k f to u x ks)).1, (Sp.of L (.mk k f to u x ks)).2.1) ∧ ∃ F', PoolR w' p (Sp.of L (.mk k f to u x ks)).2.2 F' ∧ Ext F w0 w' ∧ ∀ b, F' b → F b ∨ w0.heap.size ≤ b) → K r1 r2 w') → m_ref05_Pool_Of (some p) k f to u x s w0 K from
  w_ref05_Pool_Of _ _ _ _ _ _ _ w0 _ (key _ (fun _ _ _ h => h))
 intro K hK
 unfold m_ref05_Pool_Of
 intro H1 w1 hs1
 have E1 := hs1.first
 generalize ht : Sp.Tree.mk k f to u x ks = t at *
 have htr : (Value.agg #[.int .i64 k, .int .i64 f, .int .i64 to, .int .u64 u, .string x, s.v]) = .agg (trow t s).toArray := by rw [← ht]; rfl
 rw [htr]
 refine (c_ref05_Looks t s w1 (hT.pure E1) (fun b hb => by have := hSw b hb; have := E1.size; omega)).mono ?_
 rintro _ w2 ⟨r1, rfl, rfl, E2⟩
 have E12 := E1.trans E2
 refine ⟨_, rfl, E2.keptP, fun h => ?_, fun h => ?_⟩
 ·have h : (Sp.looks 0 0 t).1 ≠ 0 := by simpa using h
  have : Sp.of L t = (0, (Sp.looks 0 0 t).1, L) := by rw [Sp.of, if_pos h]
  refine hK _ _ _ ?_
  rw [this]; exact ⟨rfl, F, hP.pure E12, E12.pure, fun _ h => .inl h⟩
 ·have h : (Sp.looks 0 0 t).1 = 0 := by simpa using h
  have hP2 := hP.pure E12
  have hv : ∀ b, F b → ¬ H1 b := hs1.disj0 (fun b hb => hP.lt hb)
  obtain ⟨s1, s2, s3, hS, hF0⟩ := id hP2
  have hl0 : s1.len = L.length := by rw [hS.r1.len]; simp
  refine ⟨p, rfl, s1, hS.box.cell0, ?_⟩
  refine (c_ref05_made p t s w2 L F (looks_two t _ _ h) (hT.pure E12) hP2 hok hFS (fun b hb => by have := hSw b hb; have := E12.size; omega)).mono ?_
  rintro _ w5 ⟨r1, r2, rfl, hr, F5, hP5, E5, hF5⟩
  have e1 : r1 = (Sp.grow L t).1 := congrArg Prod.fst hr
  have e2 : r2 = (Sp.grow L t).2.1 := congrArg Prod.snd hr
  have hs4 : w0.heap.size ≤ w2.heap.size := E12.size
  have E05 : Ext F w0 w5 := E12.pure.trans E5
  have hF5' : ∀ b, F5 b → F b ∨ w0.heap.size ≤ b := fun b hb => (hF5 b hb).elim .inl (fun h => .inr (by omega))
  have hs2 := hs1.again E2.keptP
  have hv5 : ∀ b, F5 b → ¬ H1 b := fun b hb hH => (hF5 b hb).elim (fun h => hv b h hH) (fun h => by have := hs2.lt b hH; omega)
  refine ⟨_, _, rfl, E5.kept (fun b hH hF => hv b hF hH), fun h' => ?_, fun h' => ?_⟩
  ·have h' : (Sp.grow L t).2.1 ≠ 0 := by rw [← e2]; simpa using h'
   obtain ⟨hok5, M, hM⟩ := Sp.grow_facts t L hok
   rw [hl0]
   refine (c_ref05_cut p L.length w5 hP5 (by rw [hM]; simp)).mono ?_
   rintro _ w6 ⟨rfl, hP6, E6⟩
   have : Sp.of L t = (0, (Sp.grow L t).2.1, L) := by rw [Sp.of, if_neg (by simp [h]), if_pos h']
   refine ⟨rfl, E6.kept (fun b hH hF => hv5 b hF hH), hK _ _ _ ?_⟩
   rw [this]
   rw [hM, List.take_left] at hP6
   exact ⟨by rw [e1, e2, grow_bad_term t L h'], F5, hP6, E05.trans' E6 (fun i hi h => (hF5' i h).elim id (fun h => by omega)), hF5'⟩
  ·have h' : (Sp.grow L t).2.1 = 0 := by rw [← e2]; simpa using h'
   have : Sp.of L t = ((Sp.grow L t).1, 0, (Sp.grow L t).2.2) := by rw [Sp.of, if_neg (by simp [h]), if_neg (by simp [h'])]
   refine hK _ _ _ ?_
   rw [this]
   exact ⟨by rw [e1, e2, h'], F5, hP5, E05, hF5'⟩
end Go.Proofs
end
section
namespace Go.Sp
inductive Good : Tree → Prop
 | mk (k f t u : Int) (x : ByteArray) (ks : List Tree) (own : ownErr ⟨k, f, t, u, x, 0, 0⟩ ks.length = 0) (kids : ∀ i (hi : i < ks.length), Good ks[i]) : Good (.mk k f t u x ks)
theorem Good.inv {k f t u : Int} {x : ByteArray} {ks : List Tree} (h : Good (.mk k f t u x ks)) : plainErr ⟨k, f, t, u, x, 0, 0⟩ = 0 ∧ (ks.length : Int) = (shapeOf k).kids ∧ fieldsErr (shapeOf k) ⟨k, f, t, u, x, 0, 0⟩ = 0 ∧ ∀ i (hi : i < ks.length), Good ks[i] := by
 cases h with
 | mk _ _ _ _ _ _ own kids =>
  unfold ownErr at own
  simp only at own
  by_cases hp : plainErr ⟨k, f, t, u, x, 0, 0⟩ = 0
  ·rw [if_pos hp] at own
   by_cases hl : (ks.length : Int) ≠ (shapeOf k).kids
   ·rw [if_pos hl] at own; simp at own
   ·rw [if_neg hl] at own
    simp at own
    exact ⟨hp, by simpa using hl, own, kids⟩
  ·rw [if_neg hp, if_neg hp] at own; exact absurd own hp
end Go.Sp
end
section
namespace Go.Sp
mutual
def cnt : Tree → Nat
 | .mk _ _ _ _ _ ks => 1 + cntAll ks
def cntAll : List Tree → Nat
 | [] => 0
 | t :: ts => cnt t + cntAll ts
end
mutual
def parts (most : Int) : Tree → Int
 | .mk _ _ _ _ _ ks => partsAll most 1 ks
def partsAll (most n : Int) : List Tree → Int
 | [] => n
 | t :: ts => if n ≤ most then partsAll most (n + parts (most - n) t) ts else n
end
theorem parts_facts (t : Tree) : ∀ most : Int, 0 ≤ most → 1 ≤ parts most t ∧ parts most t ≤ most + 1 ∧ (parts most t ≤ most → (cnt t : Int) = parts most t) := by
 induction t using Tree.ind with
 | h k f tt u x ks ih =>
  have hA : ∀ (ks : List Tree), (∀ i (hi : i < ks.length), ∀ most : Int, 0 ≤ most → 1 ≤ parts most ks[i] ∧ parts most ks[i] ≤ most + 1 ∧ (parts most ks[i] ≤ most → (cnt ks[i] : Int) = parts most ks[i])) →
    ∀ most n : Int, 1 ≤ n → n ≤ most + 1 → n ≤ partsAll most n ks ∧ partsAll most n ks ≤ most + 1 ∧ (partsAll most n ks ≤ most → n + (cntAll ks : Int) = partsAll most n ks) := by
   intro ks
   induction ks with
   | nil => intro _ most n h1 h2; simp [partsAll, cntAll, h2]
   | cons t ts iht =>
    intro hh most n h1 h2
    unfold partsAll
    by_cases hn : n ≤ most
    ·rw [if_pos hn]
     have h0 := hh 0 (by simp) (most - n) (by omega)
     simp only [List.getElem_cons_zero] at h0
     have h3 := iht (fun i hi => hh (i + 1) (by simpa using hi)) most (n + parts (most - n) t) (by omega) (by omega)
     refine ⟨by omega, h3.2.1, fun h => ?_⟩
     have h4 := h3.2.2 h
     have h5 := h0.2.2 (by omega)
     simp only [cntAll]; omega
    ·rw [if_neg hn]; exact ⟨Int.le_refl _, h2, fun h => absurd h hn⟩
  intro most hm
  have := hA ks ih most 1 (by omega) (by omega)
  simp only [parts, cnt]
  refine ⟨this.1, this.2.1, fun h => ?_⟩
  have := this.2.2 h
  omega
mutual
def same : Tree → Tree → Bool
 | .mk k f t u x ks, .mk k' f' t' u' x' ks' => decide (k = k') && decide (f = f') && decide (t = t') && decide (u = u') && decide (x = x') && sameAll ks ks'
def sameAll : List Tree → List Tree → Bool
 | [], [] => true
 | t :: ts, t' :: ts' => same t t' && sameAll ts ts'
 | _, _ => false
end
end Go.Sp
end
section
open Go Go.SE
namespace Go.Proofs
attribute [local irreducible] Calls
theorem TreeAt.hst {S : Nat → Prop} {w0 w w' : World} {H H' : Nat → Prop} {s : Sl} {t : Sp.Tree} (h : TreeAt S w s t) (hs : Hst w0 H w H' w') (hd : ∀ b, S b → b < w.heap.size ∧ ¬ H b) : TreeAt S w' s t :=
 h.ext hs.ext (fun b hb hh => hs.disj (G := S) hd b hb hh)
theorem c_ref05_Parts {S : Nat → Prop} (t : Sp.Tree) : ∀ (s : Sl) (most : Int) (w0 : World), 0 ≤ most → most ≤ 1000000000 → TreeAt S w0 s t → (∀ b, S b → b < w0.heap.size) →
  Calls Try.prog 71 #[.agg (trow t s).toArray, .int .i64 most] w0 (fun e w' => ∃ r : Int, e = .returned (.int .i64 r) ∧ (r = Sp.parts most t ∧ Pure w0 w')) := by
 induction t using Sp.Tree.ind with
 | h k f t u x ks ih =>
 intro s most w0 hm0 hm hT hSw
 suffices key : ∀ K : Int → World → Prop, (∀ r w', (r = Sp.parts most (.mk k f t u x ks) ∧ Pure w0 w') → K r w') → m_ref05_Parts k f t u x s most w0 K from
  w_ref05_Parts _ _ _ _ _ _ _ w0 _ (key _ (fun _ _ h => h))
 intro K hK
 have hlen : s.len = ks.length := by cases hT; assumption
 have hfit : ks.length ≤ 9223372036854775807 := by cases hT; assumption
 unfold m_ref05_Parts
 intro H1 w1 hs1
 refine ⟨fun n i H w' => ∃ j : Nat, i = j ∧ j ≤ ks.length ∧ 1 ≤ n ∧ n ≤ most + 1 ∧ Pure w0 w' ∧ Sp.partsAll most 1 ks = Sp.partsAll most n (ks.drop j), fun _ i _ => ((ks.length : Int) - i).toNat, ⟨0, rfl, Nat.zero_le _, Int.le_refl _, by omega, hs1.first, rfl⟩, ?_⟩
 rintro n _ Hl wl hl ⟨j, rfl, hj, hn1, hn2, El, heq⟩
 unfold m_ref05_Parts_l1
 refine ⟨fun hc => ?_, fun hc => ?_⟩
 ·simp only [Bool.and_eq_true, decide_eq_true_eq] at hc
  have hlt : j < ks.length := by omega
  rw [List.drop_eq_getElem_cons hlt, Sp.partsAll, if_pos hc.2] at heq
  have hT1 := hT.pure El
  cases hT1 with
  | mk _ _ _ _ _ _ _ rs len fit row kid =>
  obtain ⟨a, hat, ha, hr⟩ := row j hlt
  refine ⟨a, hat, ?_⟩
  intro H2 w2 hs2
  have hd : ∀ b, S b → ¬ H2 b := fun b hb hh => by have := hs2.old _ hh; have := hSw b hb; omega
  refine ⟨_, _, _, _, _, rs j, hs2.ext.row hr (hd _ ha), ?_⟩
  rw [i64 (n := most - n) (by omega) (by omega)]
  refine (ih j hlt (rs j) (most - n) w2 (by omega) (by omega) ((kid j hlt).ext hs2.ext hd) (fun b hb => by have := hSw b hb; have := (El.hst hs2).size; omega)).mono ?_
  rintro _ w3 ⟨r, rfl, rfl, E3⟩
  have hpf := Sp.parts_facts ks[j] (most - n) (by omega)
  refine ⟨_, rfl, E3.keptP, ?_⟩
  rw [wrap_succ hlt (by omega), i64 (n := n + Sp.parts (most - n) ks[j]) (by omega) (by omega)]
  exact ⟨⟨j + 1, rfl, hlt, by omega, by omega, (El.hst hs2).trans E3, heq⟩, lt_dec hlt⟩
 ·intro H2 w2 hs2
  refine hK _ _ ⟨?_, El.hst hs2⟩
  rw [Sp.parts, heq]
  by_cases hj2 : j = ks.length
  ·rw [hj2, List.drop_length]; rfl
  ·have hlt : j < ks.length := by omega
   rw [List.drop_eq_getElem_cons hlt, Sp.partsAll, if_neg]
   intro h
   have : decide (n ≤ most) = true := decide_eq_true h
   have h2 : decide ((j : Int) < (s.len : Int)) = true := decide_eq_true (by omega)
   rw [this, h2] at hc; cases hc
end Go.Proofs
end
section
open Go Go.SE
namespace Go.Proofs
set_option maxRecDepth 100000
set_option maxHeartbeats 4000000
attribute [local irreducible] wpL wpX opE wpE Calls
def m_ref08_Has_l1 (l1 : Sl) (t1 i1 : Int) (wl1 : World) (Kc1 : Int → World → Prop) (K : Bool → World → Prop) : Prop :=
 Br (decide (i1 < (l1.len : Int)))
  (∃ a1 : Addr, At l1 i1 1 a1 ∧
  ∃ v1 : Int, wl1.cell? a1 = some (vi v1) ∧
  Br (v1 == t1)
   (K true wl1)
   (Kc1 (IntKind.i64.wrap (i1 + 1)) wl1))
  (K false wl1)
def m_ref08_Has (l1 : Sl) (t1 : Int) (w0 : World) (K : Bool → World → Prop) : Prop :=
 ∃ (I1 : Int → World → Prop) (mu1 : Int → World → Nat), I1 0 w0 ∧
  ∀ (i1 : Int) (wl1 : World), I1 i1 wl1 → m_ref08_Has_l1 l1 t1 i1 wl1 (fun y'0 w' => I1 y'0 w' ∧ mu1 y'0 w' < mu1 i1 wl1) K
theorem w_ref08_Has (l1 : Sl) (t1 : Int) (w0 : World) (K : Bool → World → Prop) (h : m_ref08_Has l1 t1 w0 K) :
  Calls Try.prog 95 #[l1.v, (vi t1)] w0 (fun e w' => ∃ r1 : Bool, e = .returned (vb r1) ∧ K r1 w') := by
 unfold m_ref08_Has at h
 refine calls_of_wpE (args := [l1.v, (vi t1)]) Try.func95 rfl Try.ntmps95 (Nat.le_of_ble_eq_true rfl) (wpE_seq (rg (q0 (vb false) (wpL_nil (th_n (wpE_seq (wpE_seq (rg (q0 (vi 0) (wpL_nil (th_n ?_)))))))))))
 refine wpE_block ?_
 obtain ⟨I1, mu1, h0, hr⟩ := h
 refine wpE_loop (σ := Int × World) (fun s ρ w => w = s.2 ∧ Has ρ [(0, l1.v), (1, (vi t1)), (5, (vi s.1))] ∧ I1 s.1 s.2) (fun s => mu1 s.1 s.2) (0, w0) ⟨rfl, Has.mk (by kernel_rfl), h0⟩ ?_
 rintro ⟨i1, wl1⟩ ρ w ⟨hw, hH, hI⟩
 obtain rfl : wl1 = w := (show w = wl1 from hw).symm
 replace hH : Has ρ [(0, l1.v), (1, (vi t1)), (5, (vi i1))] := hH
 have h := hr i1 wl1 hI
 clear hr h0
 unfold m_ref08_Has_l1 at h
 refine wpE_has hH ?_
 clear hH hI
 refine wpE_seq (wpE_seq (rg (q0 (vi i1) (q0 l1.v (q0 (vi (l1.len : Int)) (q0 (vb (decide (i1 < (l1.len : Int)))) (wpL_nil (th_n ?_))))))))
 refine wpE_cond (t := (decide (i1 < (l1.len : Int)))) (by kernel_rfl) (fun hc1 => ?_) (fun hc1 => ?_)
 ·replace h := h.1 hc1
  refine wpE_skip (th_n (wpE_seq (wpE_block (wpE_seq (rg (q0 l1.v (q0 (vi i1) ?_)))))))
  obtain ⟨a1, hv2, h⟩ := h
  refine q2 (vp (some a1)) (x_indexAddr (s := l1) (k := .i64) (i := i1) (by kernel_rfl) (by kernel_rfl) (Try.runUnderlying26 _) (Try.sizeOf41 _) hv2) ?_
  obtain ⟨v1, hv1, h⟩ := h
  refine q2 (vi v1) (xl (Try.isAgg41 _) hv1) (q0 (vi t1) (q0 (vb (v1 == t1)) (wpL_nil (th_n ?_))))
  refine wpE_cond (t := (v1 == t1)) (by kernel_rfl) (fun hc2 => ?_) (fun hc2 => ?_)
  ·replace h := h.1 hc2
   refine wpE_seq (rg (q0 (vb true) (wpL_nil (th_n (wpE_ret (bl_r (th_r (th_r (bl_r (th_r (res1 (.inl rfl) Try.results95 (v := (vb true)) (by kernel_rfl) ?_)))))))))))
   exact ⟨true, rfl, h⟩
  ·replace h := h.2 hc2
   refine wpE_skip (bl_n (th_n (rg (q0 (vi i1) (q0 (vi (IntKind.i64.wrap (i1 + 1))) (q0 (vi (IntKind.i64.wrap (i1 + 1))) (wpL_nil (th_n ?_))))))))
   exact ⟨((IntKind.i64.wrap (i1 + 1)), wl1), ⟨rfl, Has.mk (by kernel_rfl), h.1⟩, h.2⟩
 ·replace h := h.2 hc1
  refine wpE_exit (th_x (th_x (bl_eq (th_n (wpE_seq (rg (q0 (vb false) (wpL_nil (th_n (wpE_ret (res1 (.inl rfl) Try.results95 (v := (vb false)) (by kernel_rfl) ?_)))))))))))
  exact ⟨false, rfl, h⟩
def s_ref08_shows (kind1 : Int) : Bool :=
 (((kind1 == 7) || (kind1 == 8)) || (kind1 == 9))
theorem pw_ref08_shows (kind1 : Int) (w0 : World) :
  Calls Try.prog 139 #[(vi kind1)] w0 (fun e w' => (e = .returned (vb (((kind1 == 7) || (kind1 == 8)) || (kind1 == 9)))) ∧ Pure w0 w') := by
 refine calls_of_wpE (args := [(vi kind1)]) Try.func139 rfl Try.ntmps139 (Nat.le_of_ble_eq_true rfl) (wpE_seq (rg (q0 (vb false) (wpL_nil (th_n (wpE_seq ?_))))))
 refine wpE_via (fun ρ wJ => w0 = wJ ∧ Has ρ [(2, (vb (((kind1 == 7) || (kind1 == 8)) || (kind1 == 9))))]) ?_ ?_
 ·skip
  refine rg (q0 (vi kind1) (q0 (vb (kind1 == 7)) (q0 (vb (kind1 == 7)) ?_)))
  refine wpL_join 3 (fun ρ wJ => ∃ b4'0 : Bool, ((kind1 == 7) = b4'0) ∧ w0 = wJ ∧ Has ρ [(0, (vi kind1)), (8, (vb (b4'0 || (kind1 == 8))))]) ?_ ?_
  ·rintro ρ w4 ⟨b4'0, he0, hw, hH⟩
   subst he0
   subst hw
   refine wpL_has hH ?_
   clear hH
   refine q0 (vb ((kind1 == 7) || (kind1 == 8))) ?_
   refine wpL_join 3 (fun ρ wJ => ∃ b5'0 : Bool, (((kind1 == 7) || (kind1 == 8)) = b5'0) ∧ w0 = wJ ∧ Has ρ [(12, (vb (b5'0 || (kind1 == 9))))]) ?_ ?_
   ·rintro ρ w5 ⟨b5'0, he0, hw, hH⟩
    subst he0
    subst hw
    refine wpL_has hH ?_
    clear hH
    refine q0 (vb (((kind1 == 7) || (kind1 == 8)) || (kind1 == 9))) (wpL_nil (th_n ?_))
    exact ⟨rfl, Has.mk (by kernel_rfl)⟩
   ·skip
    rcases Bool.eq_false_or_eq_true ((kind1 == 7) || (kind1 == 8)) with hg8 | hg8
    ·skip
     refine sk (yD 9 hg8) (sk (yD 9 hg8) (q2 (vb true) (xT hg8) (wpL_nil ?_)))
     exact ⟨true, hg8, rfl, Has.mk (by kernel_rfl)⟩
    ·skip
     refine q1 (vi kind1) (want1 rfl (yD 9 hg8)) (q1 (vb (kind1 == 9)) (want1 rfl (yD 9 hg8)) (q2 (vb (kind1 == 9)) (xF hg8) (wpL_nil ?_)))
     exact ⟨false, hg8, rfl, Has.mk (by kernel_rfl)⟩
  ·skip
   rcases Bool.eq_false_or_eq_true (kind1 == 7) with hg6 | hg6
   ·skip
    refine sk (yD 5 hg6) (sk (yD 5 hg6) (q2 (vb true) (xT hg6) (wpL_nil ?_)))
    exact ⟨true, hg6, rfl, Has.mk (by kernel_rfl)⟩
   ·skip
    refine q1 (vi kind1) (want1 rfl (yD 5 hg6)) (q1 (vb (kind1 == 8)) (want1 rfl (yD 5 hg6)) (q2 (vb (kind1 == 8)) (xF hg6) (wpL_nil ?_)))
    exact ⟨false, hg6, rfl, Has.mk (by kernel_rfl)⟩
 ·rintro ρ w3 ⟨hw, hH⟩
  subst hw
  refine norm_has hH ?_
  clear hH
  refine th_n (wpE_ret (res1 (.inl rfl) Try.results139 (v := (vb (((kind1 == 7) || (kind1 == 8)) || (kind1 == 9)))) (by kernel_rfl) ?_))
  exact ⟨by kernel_rfl, Ext.refl _⟩
theorem p_ref08_shows (kind1 : Int) (w0 : World) : Calls Try.prog 139 #[(.int .i64 kind1)] w0 (fun e w' => e = .returned (.bool (s_ref08_shows kind1)) ∧ Pure w0 w') := pw_ref08_shows kind1 w0
def m_ref08_ahead (l1 : Sl) (i1 : Int) (a1 b1 : Bool) (w0 : World) (K : Bool → World → Prop) : Prop :=
 ∃ a2 : Addr, At l1 i1 4 a2 ∧
 ∀ (w1 : World), Hst w0 None w0 None w1 →
 ∃ v1 : Int, w1.cell? (a2.add 1) = some (vi v1) ∧
 ∃ a3 : Addr, At l1 i1 4 a3 ∧
 ∃ v2 : Int, w1.cell? (a3.add 2) = some (vi v2) ∧
 Br ((a1 && ((decide (v1 < 0)) || (decide (v1 ≥ i1)))) || ((!a1) && (v1 != 0)))
  (∀ (H5 : Nat → Prop) (w6 : World), Hst w0 None w1 H5 w6 →
  K false w6)
  (∀ (H16 : Nat → Prop) (w17 : World), Hst w0 None w1 H16 w17 →
  K (!((b1 && ((decide (v2 < 0)) || (decide (v2 ≥ i1)))) || ((!b1) && (v2 != 0)))) w17)
theorem w_ref08_ahead (l1 : Sl) (i1 : Int) (a1 b1 : Bool) (w0 : World) (K : Bool → World → Prop) (h : m_ref08_ahead l1 i1 a1 b1 w0 K) :
  Calls Try.prog 142 #[l1.v, (vi i1), (vb a1), (vb b1)] w0 (fun e w' => ∃ r1 : Bool, e = .returned (vb r1) ∧ K r1 w') := by
 unfold m_ref08_ahead at h
 refine calls_of_wpE (args := [l1.v, (vi i1), (vb a1), (vb b1)]) Try.func142 rfl Try.ntmps142 (Nat.le_of_ble_eq_true rfl) ?_
 have hs := Hst.start w0
 have hb := HB.nil None w0
 refine wpE_seq (rg (q0 (vb false) (wpL_nil (th_n (wpE_seq (wpE_drawnQ (by kernel_rfl) (by kernel_rfl) (by kernel_rfl) (by kernel_rfl) ?_))))))
 intro w1 hw1
 replace hs : Hst w0 None w0 None w1 := by rw [hw1]; exact hs.drew
 replace hb : HB None w1 [] := by rw [hw1]; exact hb.drew
 clear hw1
 refine qq 0 l1.v Kp0 (qq 1 (vi i1) Kp1 (qgo (k := 2) (by kernel_rfl) ?_))
 obtain ⟨a2, hv4, h⟩ := h
 refine sxQ (v := (vp (some a2))) Kp2 (want0 rfl) rfl (x_indexAddr (s := l1) (k := .i64) (i := i1) (by kernel_rfl) (by kernel_rfl) (Try.runUnderlying76 _) (Try.sizeOf167 _) hv4) (qq 3 (vp (some (a2.add 1))) Kp3 (qgo (k := 4) (by kernel_rfl) ?_))
 replace h := h w1 hs
 replace hs := hs.here
 obtain ⟨v1, hv3, h⟩ := h
 refine sxQ (v := (vi v1)) Kp4 (want0 rfl) rfl (xl (Try.isAgg3 _) hv3) (qq 5 l1.v Kp5 (qq 6 (vi i1) Kp6 (qgo (k := 7) (by kernel_rfl) ?_)))
 obtain ⟨a3, hv2, h⟩ := h
 refine sxQ (v := (vp (some a3))) Kp7 (want0 rfl) rfl (x_indexAddr (s := l1) (k := .i64) (i := i1) (by kernel_rfl) (by kernel_rfl) (Try.runUnderlying76 _) (Try.sizeOf167 _) hv2) (qq 8 (vp (some (a3.add 2))) Kp8 (qgo (k := 9) (by kernel_rfl) ?_))
 obtain ⟨v2, hv1, h⟩ := h
 refine sxQ (v := (vi v2)) Kp9 (want0 rfl) rfl (xl (Try.isAgg3 _) hv1) (qq 10 (vi v1) (pickA (S8 (pickS (pickS pickZ)))) (qq 11 (vi v2) (pickA (S8 (pickS (pickS (pickS pickZ))))) (wpX_nil (by kernel_rfl) (th_n (wpE_seq (wpE_seq ?_))))))
 refine wpE_via (fun ρ wJ => ∃ b6'0 : Bool, ∃ HJ : Nat → Prop, ((a1 && ((decide (v1 < 0)) || (decide (v1 ≥ i1)))) = b6'0) ∧ Hst w0 None w1 HJ wJ ∧ HB HJ wJ [] ∧ Has ρ [(1, (vi i1)), (3, (vb b1)), (10, (vi v2)), (38, (vb (b6'0 || ((!a1) && (v1 != 0)))))]) ?_ ?_
 ·skip
  refine rg (q0 (vb a1) (q0 (vb a1) ?_))
  refine wpL_join 8 (fun ρ wJ => ∃ b8'0 : Bool, ∃ HJ : Nat → Prop, (a1 = b8'0) ∧ Hst w0 None w1 HJ wJ ∧ HB HJ wJ [] ∧ Has ρ [(1, (vi i1)), (2, (vb a1)), (3, (vb b1)), (9, (vi v1)), (10, (vi v2)), (30, (vb (b8'0 && ((decide (v1 < 0)) || (decide (v1 ≥ i1))))))]) ?_ ?_
  ·clear hs hb
   rintro ρ w8 ⟨b8'0, H7, he0, hs, hb, hH⟩
   subst he0
   refine wpL_has hH ?_
   clear hH
   refine q0 (vb (a1 && ((decide (v1 < 0)) || (decide (v1 ≥ i1))))) ?_
   rcases Bool.eq_false_or_eq_true (a1 && ((decide (v1 < 0)) || (decide (v1 ≥ i1)))) with hg16 | hg16
   ·skip
    refine sk (yD 31 hg16) (sk (yD 31 hg16) (sk (yD 31 hg16) (st_not (by kernel_rfl) (st_not (by kernel_rfl) (sk (yD 31 hg16) (q2 (vb true) (xT hg16) (wpL_nil (th_n ?_))))))))
    exact ⟨true, _, hg16, hs, hb, Has.mk (by kernel_rfl)⟩
   ·skip
    refine q1 (vb a1) (want1 rfl (yD 31 hg16)) (q1 (vb (!a1)) (want1 rfl (yD 31 hg16)) (q1 (vb (!a1)) (want1 rfl (yD 31 hg16)) ?_))
    refine wpL_join 3 (fun ρ wJ => ∃ b10'0 : Bool, ∃ HJ : Nat → Prop, ((!a1) = b10'0) ∧ Hst w0 None w1 HJ wJ ∧ HB HJ wJ [] ∧ Has ρ [(1, (vi i1)), (3, (vb b1)), (10, (vi v2)), (31, (vb (a1 && ((decide (v1 < 0)) || (decide (v1 ≥ i1)))))), (37, (vb (b10'0 && (v1 != 0))))]) ?_ ?_
    ·clear hs hb
     rintro ρ w10 ⟨b10'0, H9, he0, hs, hb, hH⟩
     subst he0
     refine wpL_has hH ?_
     clear hH
     refine q2 (vb ((!a1) && (v1 != 0))) (xF hg16) (wpL_nil (th_n ?_))
     exact ⟨false, _, hg16, hs, hb, Has.mk (by kernel_rfl)⟩
    ·skip
     rcases Bool.eq_false_or_eq_true (!a1) with hg18 | hg18
     ·skip
      refine q1 (vi v1) (want1 rfl (yD 34 hg18)) (q1 (vb (v1 != 0)) (want1 rfl (yD 34 hg18)) (stp (v := (vb (v1 != 0))) (want1 rfl (yD 31 hg16)) (xT hg18) (wpL_nil ?_)))
      exact ⟨true, _, hg18, hs, hb, Has.mk (by kernel_rfl)⟩
     ·skip
      refine sk (yD 34 hg18) (sk (yD 34 hg18) (stp (v := (vb false)) (want1 rfl (yD 31 hg16)) (xF hg18) (wpL_nil ?_)))
      exact ⟨false, _, hg18, hs, hb, Has.mk (by kernel_rfl)⟩
  ·skip
   rcases Bool.eq_false_or_eq_true a1 with hg13 | hg13
   ·skip
    refine q1 (vi v1) (want1 rfl (yD 22 hg13)) (q1 (vb (decide (v1 < 0))) (want1 rfl (yD 22 hg13)) (q1 (vb (decide (v1 < 0))) (want1 rfl (yD 22 hg13)) ?_))
    refine wpL_join 4 (fun ρ wJ => ∃ b9'0 : Bool, ∃ HJ : Nat → Prop, ((decide (v1 < 0)) = b9'0) ∧ Hst w0 None w1 HJ wJ ∧ HB HJ wJ [] ∧ Has ρ [(1, (vi i1)), (2, (vb a1)), (3, (vb b1)), (9, (vi v1)), (10, (vi v2)), (22, (vb a1)), (29, (vb (b9'0 || (decide (v1 ≥ i1)))))]) ?_ ?_
    ·clear hs hb
     rintro ρ w9 ⟨b9'0, H8, he0, hs, hb, hH⟩
     subst he0
     refine wpL_has hH ?_
     clear hH
     refine q2 (vb ((decide (v1 < 0)) || (decide (v1 ≥ i1)))) (xT hg13) (wpL_nil ?_)
     exact ⟨true, _, hg13, hs, hb, Has.mk (by kernel_rfl)⟩
    ·skip
     rcases Bool.eq_false_or_eq_true (decide (v1 < 0)) with hg15 | hg15
     ·skip
      refine sk (yD 25 hg15) (sk (yD 25 hg15) (sk (yD 25 hg15) (stp (v := (vb true)) (want1 rfl (yD 22 hg13)) (xT hg15) (wpL_nil ?_))))
      exact ⟨true, _, hg15, hs, hb, Has.mk (by kernel_rfl)⟩
     ·skip
      refine q1 (vi v1) (want1 rfl (yD 25 hg15)) (q1 (vi i1) (want1 rfl (yD 25 hg15)) (q1 (vb (decide (v1 ≥ i1))) (want1 rfl (yD 25 hg15)) (stp (v := (vb (decide (v1 ≥ i1)))) (want1 rfl (yD 22 hg13)) (xF hg15) (wpL_nil ?_))))
      exact ⟨false, _, hg15, hs, hb, Has.mk (by kernel_rfl)⟩
   ·skip
    refine sk (yD 22 hg13) (sk (yD 22 hg13) (sk (yD 22 hg13) (st_not (by kernel_rfl) (st_not (by kernel_rfl) (st_not (by kernel_rfl) (sk (yD 22 hg13) (q2 (vb false) (xF hg13) (wpL_nil ?_))))))))
    exact ⟨false, _, hg13, hs, hb, Has.mk (by kernel_rfl)⟩
 ·clear hs hb
  rintro ρ w6 ⟨b6'0, H5, he0, hs, hb, hH⟩
  subst he0
  refine norm_has hH ?_
  clear hH
  refine th_n ?_
  refine wpE_cond (t := ((a1 && ((decide (v1 < 0)) || (decide (v1 ≥ i1)))) || ((!a1) && (v1 != 0)))) (by kernel_rfl) (fun hc1 => ?_) (fun hc1 => ?_)
  ·replace h := h.1 hc1
   refine wpE_seq (rg (q0 (vb false) (wpL_nil (th_n (wpE_ret (th_r ?_))))))
   replace h := h H5 w6 hs
   replace hs := hs.here
   refine res1 (.inl rfl) Try.results142 (v := (vb false)) (by kernel_rfl) ?_
   exact ⟨false, rfl, h⟩
  ·replace h := h.2 hc1
   refine wpE_skip (th_n (wpE_seq ?_))
   refine wpE_via (fun ρ wJ => ∃ HJ : Nat → Prop, Hst w0 None w1 HJ wJ ∧ HB HJ wJ [] ∧ Has ρ [(8, (vb (!((b1 && ((decide (v2 < 0)) || (decide (v2 ≥ i1)))) || ((!b1) && (v2 != 0))))))]) ?_ ?_
   ·skip
    refine rg (q0 (vb b1) (q0 (vb b1) ?_))
    refine wpL_join 8 (fun ρ wJ => ∃ b19'0 : Bool, ∃ HJ : Nat → Prop, (b1 = b19'0) ∧ Hst w0 None w1 HJ wJ ∧ HB HJ wJ [] ∧ Has ρ [(3, (vb b1)), (10, (vi v2)), (48, (vb (b19'0 && ((decide (v2 < 0)) || (decide (v2 ≥ i1))))))]) ?_ ?_
    ·clear hs hb
     rintro ρ w19 ⟨b19'0, H18, he0, hs, hb, hH⟩
     subst he0
     refine wpL_has hH ?_
     clear hH
     refine q0 (vb (b1 && ((decide (v2 < 0)) || (decide (v2 ≥ i1))))) ?_
     refine wpL_join 7 (fun ρ wJ => ∃ b22'0 : Bool, ∃ HJ : Nat → Prop, ((b1 && ((decide (v2 < 0)) || (decide (v2 ≥ i1)))) = b22'0) ∧ Hst w0 None w1 HJ wJ ∧ HB HJ wJ [] ∧ Has ρ [(56, (vb (b22'0 || ((!b1) && (v2 != 0)))))]) ?_ ?_
     ·clear hs hb
      rintro ρ w22 ⟨b22'0, H21, he0, hs, hb, hH⟩
      subst he0
      refine wpL_has hH ?_
      clear hH
      refine q0 (vb (!((b1 && ((decide (v2 < 0)) || (decide (v2 ≥ i1)))) || ((!b1) && (v2 != 0))))) (q0 (vb (!((b1 && ((decide (v2 < 0)) || (decide (v2 ≥ i1)))) || ((!b1) && (v2 != 0))))) (wpL_nil (th_n ?_)))
      exact ⟨_, hs, hb, Has.mk (by kernel_rfl)⟩
     ·skip
      rcases Bool.eq_false_or_eq_true (b1 && ((decide (v2 < 0)) || (decide (v2 ≥ i1)))) with hg40 | hg40
      ·skip
       refine sk (yD 49 hg40) (sk (yD 49 hg40) (sk (yD 49 hg40) (st_not (by kernel_rfl) (st_not (by kernel_rfl) (sk (yD 49 hg40) (q2 (vb true) (xT hg40) (wpL_nil ?_)))))))
       exact ⟨true, _, hg40, hs, hb, Has.mk (by kernel_rfl)⟩
      ·skip
       refine q1 (vb b1) (want1 rfl (yD 49 hg40)) (q1 (vb (!b1)) (want1 rfl (yD 49 hg40)) (q1 (vb (!b1)) (want1 rfl (yD 49 hg40)) ?_))
       refine wpL_join 3 (fun ρ wJ => ∃ b23'0 : Bool, ∃ HJ : Nat → Prop, ((!b1) = b23'0) ∧ Hst w0 None w1 HJ wJ ∧ HB HJ wJ [] ∧ Has ρ [(49, (vb (b1 && ((decide (v2 < 0)) || (decide (v2 ≥ i1)))))), (55, (vb (b23'0 && (v2 != 0))))]) ?_ ?_
       ·clear hs hb
        rintro ρ w23 ⟨b23'0, H22, he0, hs, hb, hH⟩
        subst he0
        refine wpL_has hH ?_
        clear hH
        refine q2 (vb ((!b1) && (v2 != 0))) (xF hg40) (wpL_nil ?_)
        exact ⟨false, _, hg40, hs, hb, Has.mk (by kernel_rfl)⟩
       ·skip
        rcases Bool.eq_false_or_eq_true (!b1) with hg42 | hg42
        ·skip
         refine q1 (vi v2) (want1 rfl (yD 52 hg42)) (q1 (vb (v2 != 0)) (want1 rfl (yD 52 hg42)) (stp (v := (vb (v2 != 0))) (want1 rfl (yD 49 hg40)) (xT hg42) (wpL_nil ?_)))
         exact ⟨true, _, hg42, hs, hb, Has.mk (by kernel_rfl)⟩
        ·skip
         refine sk (yD 52 hg42) (sk (yD 52 hg42) (stp (v := (vb false)) (want1 rfl (yD 49 hg40)) (xF hg42) (wpL_nil ?_)))
         exact ⟨false, _, hg42, hs, hb, Has.mk (by kernel_rfl)⟩
    ·skip
     rcases Bool.eq_false_or_eq_true b1 with hg34 | hg34
     ·skip
      refine q1 (vi v2) (want1 rfl (yD 40 hg34)) (q1 (vb (decide (v2 < 0))) (want1 rfl (yD 40 hg34)) (q1 (vb (decide (v2 < 0))) (want1 rfl (yD 40 hg34)) ?_))
      refine wpL_join 4 (fun ρ wJ => ∃ b20'0 : Bool, ∃ HJ : Nat → Prop, ((decide (v2 < 0)) = b20'0) ∧ Hst w0 None w1 HJ wJ ∧ HB HJ wJ [] ∧ Has ρ [(3, (vb b1)), (10, (vi v2)), (40, (vb b1)), (47, (vb (b20'0 || (decide (v2 ≥ i1)))))]) ?_ ?_
      ·clear hs hb
       rintro ρ w20 ⟨b20'0, H19, he0, hs, hb, hH⟩
       subst he0
       refine wpL_has hH ?_
       clear hH
       refine q2 (vb ((decide (v2 < 0)) || (decide (v2 ≥ i1)))) (xT hg34) (wpL_nil ?_)
       exact ⟨true, _, hg34, hs, hb, Has.mk (by kernel_rfl)⟩
      ·skip
       rcases Bool.eq_false_or_eq_true (decide (v2 < 0)) with hg36 | hg36
       ·skip
        refine sk (yD 43 hg36) (sk (yD 43 hg36) (sk (yD 43 hg36) (stp (v := (vb true)) (want1 rfl (yD 40 hg34)) (xT hg36) (wpL_nil ?_))))
        exact ⟨true, _, hg36, hs, hb, Has.mk (by kernel_rfl)⟩
       ·skip
        refine q1 (vi v2) (want1 rfl (yD 43 hg36)) (q1 (vi i1) (want1 rfl (yD 43 hg36)) (q1 (vb (decide (v2 ≥ i1))) (want1 rfl (yD 43 hg36)) (stp (v := (vb (decide (v2 ≥ i1)))) (want1 rfl (yD 40 hg34)) (xF hg36) (wpL_nil ?_))))
        exact ⟨false, _, hg36, hs, hb, Has.mk (by kernel_rfl)⟩
     ·skip
      refine sk (yD 40 hg34) (sk (yD 40 hg34) (sk (yD 40 hg34) (st_not (by kernel_rfl) (st_not (by kernel_rfl) (st_not (by kernel_rfl) (sk (yD 40 hg34) (q2 (vb false) (xF hg34) (wpL_nil ?_))))))))
      exact ⟨false, _, hg34, hs, hb, Has.mk (by kernel_rfl)⟩
   ·clear hs hb
    rintro ρ w17 ⟨H16, hs, hb, hH⟩
    refine norm_has hH ?_
    clear hH
    refine th_n (wpE_ret ?_)
    replace h := h H16 w17 hs
    replace hs := hs.here
    refine res1 (.inl rfl) Try.results142 (v := (vb (!((b1 && ((decide (v2 < 0)) || (decide (v2 ≥ i1)))) || ((!b1) && (v2 != 0)))))) (by kernel_rfl) ?_
    exact ⟨(!((b1 && ((decide (v2 < 0)) || (decide (v2 ≥ i1)))) || ((!b1) && (v2 != 0)))), rfl, h⟩
def m_ref08_makes_j1 (p1 : Option Addr) (l1 : Sl) (i1 aA : Int) (aE aF : Int) (x1 : Bool) (w0 : World) (H : Nat → Prop) (w : World) (K : Bool → World → Prop) : Prop :=
 Br x1
  (K false w)
  (∃ a8 : Addr, At l1 i1 4 a8 ∧
  ∃ v8 : Int, w.cell? (a8.add 2) = some (vi v8) ∧
  ∃ a9 : Addr, At l1 v8 4 a9 ∧
  ∃ v9 : Int, w.cell? (a9.add 3) = some (vi v9) ∧
  Calls Try.prog 47 #[(vp p1), (vi v9)] w (fun e w9 => ∃ aB aL : Int, ∃ aN aO : Int, ∃ aP : ByteArray, ∃ aI aM : Int, ∃ r4 : Bool, e = .returned (.tuple #[(.agg #[(vi aB), (vi aL), (vi aN), (vu aO), (vs aP), (vi aI), (vi aM)]), (vb r4)]) ∧ 
   Kept H w w9 ∧
   ∀ (H6 : Nat → Prop) (w14 : World), Hst w0 H w9 H6 w14 →
   K ((aB == 6) && (aL == (cond (aA == 9) aF aE))) w14))
def m_ref08_makes (p1 : Option Addr) (l1 : Sl) (i1 : Int) (w0 : World) (K : Bool → World → Prop) : Prop :=
 ∃ a1 : Addr, At l1 i1 4 a1 ∧
 ∃ v1 : Int, w0.cell? (a1.add 3) = some (vi v1) ∧
 Calls Try.prog 47 #[(vp p1), (vi v1)] w0 (fun e w1 => ∃ aA aE : Int, ∃ aF aJ : Int, ∃ aK : ByteArray, ∃ aD aH : Int, ∃ r1 : Bool, e = .returned (.tuple #[(.agg #[(vi aA), (vi aE), (vi aF), (vu aJ), (vs aK), (vi aD), (vi aH)]), (vb r1)]) ∧ 
  Kept None w0 w1 ∧
  Br (aA == 4)
   (∀ (H1 : Nat → Prop) (w3 : World), Hst w0 None w1 H1 w3 →
   ∃ C1 : World → Prop, C1 w3.drew ∧ ∀ w4, w4 = w3.drew →
   Calls Try.prog 142 #[l1.v, (vi i1), (vb true), (vb true)] w4 (fun e w5 => ∃ r2 : Bool, e = .returned (vb r2) ∧ C1 w5 ∧ 
    Kept H1 w4 w5 ∧
    Br r2
     (∃ a2 : Addr, At l1 i1 4 a2 ∧
     ∃ v2 : Int, (∀ w', C1 w' → w'.cell? (a2.add 1) = some (vi v2)) ∧
     ∃ a3 : Addr, At l1 v2 4 a3 ∧
     ∃ v3 : Int, (∀ w', C1 w' → w'.cell? (a3.add 3) = some (vi v3)) ∧
     Br (v3 == aD)
      (∃ a4 : Addr, At l1 i1 4 a4 ∧
      ∃ v4 : Int, (∀ w', C1 w' → w'.cell? (a4.add 2) = some (vi v4)) ∧
      ∃ a5 : Addr, At l1 v4 4 a5 ∧
      ∃ v5 : Int, (∀ w', C1 w' → w'.cell? (a5.add 3) = some (vi v5)) ∧
      K (v5 == aH) w5)
      (K false w5))
     (K false w5)))
   (Br (aA == 5)
    (∀ (H1 : Nat → Prop) (w3 : World), Hst w0 None w1 H1 w3 →
    ∃ C2 : World → Prop, C2 w3.drew ∧ ∀ w6, w6 = w3.drew →
    Calls Try.prog 142 #[l1.v, (vi i1), (vb true), (vb false)] w6 (fun e w7 => ∃ r3 : Bool, e = .returned (vb r3) ∧ C2 w7 ∧ 
     Kept H1 w6 w7 ∧
     Br r3
      (∃ a6 : Addr, At l1 i1 4 a6 ∧
      ∃ v6 : Int, (∀ w', C2 w' → w'.cell? (a6.add 1) = some (vi v6)) ∧
      ∃ a7 : Addr, At l1 v6 4 a7 ∧
      ∃ v7 : Int, (∀ w', C2 w' → w'.cell? (a7.add 3) = some (vi v7)) ∧
      K (v7 == aD) w7)
      (K false w7)))
    (∀ y1 : Bool, y1 = (cond (aA == 7) (aA == 7) (cond (aA == 8) (aA == 8) (aA == 9))) →
    Br y1
     (∀ (H2 : Nat → Prop) (w8 : World), Hst w0 None w1 H2 w8 →
     ∃ C3 : World → Prop, C3 w8.drew ∧ ∀ w16, w16 = w8.drew →
     Calls Try.prog 142 #[l1.v, (vi i1), (vb true), (vb true)] w16 (fun e w17 => ∃ r5 : Bool, e = .returned (vb r5) ∧ C3 w17 ∧ 
      Kept H2 w16 w17 ∧
      Br (!r5)
       (m_ref08_makes_j1 p1 l1 i1 aA aE aF true w0 H2 w17 K)
       (∃ a10 : Addr, At l1 i1 4 a10 ∧
       ∃ v10 : Int, (∀ w', C3 w' → w'.cell? (a10.add 1) = some (vi v10)) ∧
       ∃ a11 : Addr, At l1 v10 4 a11 ∧
       ∃ v11 : Int, (∀ w', C3 w' → w'.cell? (a11.add 3) = some (vi v11)) ∧
       m_ref08_makes_j1 p1 l1 i1 aA aE aF (v11 != aD) w0 H2 w17 K)))
     (∀ (H2 : Nat → Prop) (w8 : World), Hst w0 None w1 H2 w8 →
     K false w8))))
theorem w_ref08_makes (p1 : Option Addr) (l1 : Sl) (i1 : Int) (w0 : World) (K : Bool → World → Prop) (h : m_ref08_makes p1 l1 i1 w0 K) :
  Calls Try.prog 143 #[(vp p1), l1.v, (vi i1)] w0 (fun e w' => ∃ r6 : Bool, e = .returned (vb r6) ∧ K r6 w') := by
 unfold m_ref08_makes at h
 refine calls_of_wpE (args := [(vp p1), l1.v, (vi i1)]) Try.func143 rfl Try.ntmps143 (Nat.le_of_ble_eq_true rfl) ?_
 have hs := Hst.start w0
 have hb := HB.nil None w0
 refine wpE_seq (rg (q0 (vb false) (wpL_nil (th_n (wpE_seq (rg (q0 (vp p1) (q0 l1.v (q0 (vi i1) ?_)))))))))
 obtain ⟨a1, hv22, h⟩ := h
 refine q2 (vp (some a1)) (x_indexAddr (s := l1) (k := .i64) (i := i1) (by kernel_rfl) (by kernel_rfl) (Try.runUnderlying76 _) (Try.sizeOf167 _) hv22) (q0 (vp (some (a1.add 3))) ?_)
 obtain ⟨v1, hv21, h⟩ := h
 refine q2 (vi v1) (xl (Try.isAgg41 _) hv21) ?_
 refine st_call (want0 rfl) (xc Try.call47) (h.mono ?_)
 rintro e w1 ⟨aA, aE, aF, aJ, aK, aD, aH, r1, rfl, hk, h⟩
 refine ⟨_, rfl, ?_⟩
 obtain ⟨hs, hb⟩ := hk.hh hs hb
 refine q0 (.tuple #[(.agg #[(vi aA), (vi aE), (vi aF), (vu aJ), (vs aK), (vi aD), (vi aH)]), (vb r1)]) (q0 (.agg #[(vi aA), (vi aE), (vi aF), (vu aJ), (vs aK), (vi aD), (vi aH)]) (q0 (vb r1) (sn (O := (.cells #[(vi 0), (vi 0), (vi 0), (vu 0), (vs ⟨#[]⟩), (vi 0), (vi 0)] 93)) (x_alloc (Try.zeroValue93 _) rfl) ?_)))
 intro p2 w2 hn1
 obtain ⟨H1, hs, hb⟩ := hs.alloc hb hn1
 refine st_set (want0 rfl) (x_storeA (a := p2) (vs := [(vi aA), (vi aE), (vi aF), (vu aJ), (vs aK), (vi aD), (vi aH)]) (by kernel_rfl) (by kernel_rfl) rfl (Try.sizeOf93 _) rfl (hb.canWs0 0 7 gZ (by kernel_rfl))) ?_
 intro w3 hn2
 have hsb : Hst w0 None w1 H1 w3 ∧ HB H1 w3 [(p2, [(vi aA), (vi aE), (vi aF), (vu aJ), (vs aK), (vi aD), (vi aH)], 93)] := by
  rw [hn2]
  exact hb.store0 (i := 0) (vs := [(vi aA), (vi aE), (vi aF), (vu aJ), (vs aK), (vi aD), (vi aH)]) hs gZ (by kernel_rfl) (by kernel_rfl)
 clear hs hb hn2
 obtain ⟨hs, hb⟩ := hsb
 refine q0 (vb r1) (wpL_nil (th_n (wpE_seq (wpE_seq (rg (q0 (vp (some p2)) (q2 (vi aA) (xl (Try.isAgg3 _) (hb.c0 0 gZ)) (wpL_nil (th_n (wpE_block (wpE_seq ?_)))))))))))
 refine rg (q0 (vb (aA == 4)) (q0 (vb (aA == 4)) (wpL_nil (th_n ?_))))
 refine wpE_cond (t := (aA == 4)) (by kernel_rfl) (fun hc1 => ?_) (fun hc1 => ?_)
 ·replace h := h.1 hc1
  refine wpE_seq ?_
  replace h := h H1 w3 hs
  replace hs := hs.here
  obtain ⟨C1, hC, h⟩ := h
  refine wpE_drawnC (fun x => C1 x ∧ HB H1 x [(p2, [(vi aA), (vi aE), (vi aF), (vu aJ), (vs aK), (vi aD), (vi aH)], 93)]) [2] [] (by kernel_rfl) (by kernel_rfl) (by kernel_rfl) (by kernel_rfl) ⟨hC, hb.drew⟩ ?_
  clear hC
  intro w4 hw4
  replace h := h w4 hw4
  replace hs : Hst w0 H1 w3 H1 w4 := by rw [hw4]; exact hs.drew
  replace hb : HB H1 w4 [(p2, [(vi aA), (vi aE), (vi aF), (vu aJ), (vs aK), (vi aD), (vi aH)], 93)] := by rw [hw4]; exact hb.drew
  replace hs := hs.here
  refine qx 0 l1.v Kp0 (qx 1 (vi i1) Kp1 (lgo (k := 2) (by kernel_rfl) ?_))
  refine sl_call Kp2 (want0 rfl) (by kernel_rfl) (xc Try.call142) (h.mono ?_)
  rintro e w5 ⟨r2, rfl, hC, hk, h⟩
  refine ⟨_, rfl, .inr ⟨hC, hb.kept hk⟩, ?_⟩
  obtain ⟨hs, hb⟩ := hk.hh hs hb
  refine qx 3 (vb r2) Kp3 (qgo (k := 4) (by kernel_rfl) ?_)
  rcases Bool.eq_false_or_eq_true r2 with hg1 | hg1
  ·replace h := h.1 hg1
   refine sx (v := l1.v) Kp4 (want1 rfl (yD 29 hg1)) (by kernel_rfl) (fun w' hw' => (by kernel_rfl)) (qw 5 l1.v Kp5 (want1 rfl (yD 29 hg1)) (qw 6 (vi i1) Kp6 (want1 rfl (yD 29 hg1)) (qgo (k := 7) (by kernel_rfl) ?_)))
   obtain ⟨a2, hv8, h⟩ := h
   refine sx (v := (vp (some a2))) Kp7 (want1 rfl (yD 29 hg1)) (by kernel_rfl) (fun w' hw' => (x_indexAddr (s := l1) (k := .i64) (i := i1) (by kernel_rfl) (by kernel_rfl) (Try.runUnderlying76 _) (Try.sizeOf167 _) hv8)) (qw 8 (vp (some (a2.add 1))) Kp8 (want1 rfl (yD 29 hg1)) (qgo (k := 9) (by kernel_rfl) ?_))
   obtain ⟨v2, hv7, h⟩ := h
   refine sx (v := (vi v2)) Kp9 (want1 rfl (yD 29 hg1)) (by kernel_rfl) (fun w' hw' => (xl (Try.isAgg3 _) (hv7 w' hw'.1))) (qgo (k := 10) (by kernel_rfl) ?_)
   obtain ⟨a3, hv6, h⟩ := h
   refine sx (v := (vp (some a3))) (pickA (S8 (pickS (pickS pickZ)))) (want1 rfl (yD 29 hg1)) (by kernel_rfl) (fun w' hw' => (x_indexAddr (s := l1) (k := .i64) (i := v2) (by kernel_rfl) (by kernel_rfl) (Try.runUnderlying76 _) (Try.sizeOf167 _) hv6)) (qw 11 (vp (some (a3.add 3))) (pickA (S8 (pickS (pickS (pickS pickZ))))) (want1 rfl (yD 29 hg1)) (qgo (k := 12) (by kernel_rfl) ?_))
   obtain ⟨v3, hv5, h⟩ := h
   refine sx (v := (vi v3)) (pickA (S8 (S4 pickZ))) (want1 rfl (yD 29 hg1)) (by kernel_rfl) (fun w' hw' => (xl (Try.isAgg41 _) (hv5 w' hw'.1))) (qw 13 (vp (some (p2.add 5))) (pickA (S8 (S4 (pickS pickZ)))) (want1 rfl (yD 29 hg1)) (qgo (k := 14) (by kernel_rfl) (sx (v := (vi aD)) (pickA (S8 (S4 (pickS (pickS pickZ))))) (want1 rfl (yD 29 hg1)) (by kernel_rfl) (fun w' hw' => (xl (Try.isAgg41 _) (hw'.2.cell 0 5 gZ (by kernel_rfl)))) (qw 15 (vb (v3 == aD)) (pickA (S8 (S4 (pickS (pickS (pickS pickZ)))))) (want1 rfl (yD 29 hg1)) (qz 16 (vb (v3 == aD)) (pickA (S8 (S8 pickZ))) (fun w' hw' => (xT hg1)) (qx 17 (vb (v3 == aD)) (pickA (S8 (S8 (pickS pickZ)))) (qgo (k := 18) (by kernel_rfl) ?_)))))))
   rcases Bool.eq_false_or_eq_true (v3 == aD) with hg2 | hg2
   ·replace h := h.1 hg2
    refine sx (v := l1.v) (pickA (S8 (S8 (pickS (pickS pickZ))))) (want1 rfl (yD 43 hg2)) (by kernel_rfl) (fun w' hw' => (by kernel_rfl)) (qw 19 l1.v (pickA (S8 (S8 (pickS (pickS (pickS pickZ)))))) (want1 rfl (yD 43 hg2)) (qw 20 (vi i1) (pickA (S8 (S8 (S4 pickZ)))) (want1 rfl (yD 43 hg2)) (qgo (k := 21) (by kernel_rfl) ?_)))
    obtain ⟨a4, hv4, h⟩ := h
    refine sx (v := (vp (some a4))) (pickA (S8 (S8 (S4 (pickS pickZ))))) (want1 rfl (yD 43 hg2)) (by kernel_rfl) (fun w' hw' => (x_indexAddr (s := l1) (k := .i64) (i := i1) (by kernel_rfl) (by kernel_rfl) (Try.runUnderlying76 _) (Try.sizeOf167 _) hv4)) (qw 22 (vp (some (a4.add 2))) (pickA (S8 (S8 (S4 (pickS (pickS pickZ)))))) (want1 rfl (yD 43 hg2)) (qgo (k := 23) (by kernel_rfl) ?_))
    obtain ⟨v4, hv3, h⟩ := h
    refine sx (v := (vi v4)) (pickA (S8 (S8 (S4 (pickS (pickS (pickS pickZ))))))) (want1 rfl (yD 43 hg2)) (by kernel_rfl) (fun w' hw' => (xl (Try.isAgg3 _) (hv3 w' hw'.1))) (qgo (k := 24) (by kernel_rfl) ?_)
    obtain ⟨a5, hv2, h⟩ := h
    refine sx (v := (vp (some a5))) (pickA (S8 (S8 (S8 pickZ)))) (want1 rfl (yD 43 hg2)) (by kernel_rfl) (fun w' hw' => (x_indexAddr (s := l1) (k := .i64) (i := v4) (by kernel_rfl) (by kernel_rfl) (Try.runUnderlying76 _) (Try.sizeOf167 _) hv2)) (qw 25 (vp (some (a5.add 3))) (pickA (S8 (S8 (S8 (pickS pickZ))))) (want1 rfl (yD 43 hg2)) (qgo (k := 26) (by kernel_rfl) ?_))
    obtain ⟨v5, hv1, h⟩ := h
    refine sx (v := (vi v5)) (pickA (S8 (S8 (S8 (pickS (pickS pickZ)))))) (want1 rfl (yD 43 hg2)) (by kernel_rfl) (fun w' hw' => (xl (Try.isAgg41 _) (hv1 w' hw'.1))) (qw 27 (vp (some (p2.add 6))) (pickA (S8 (S8 (S8 (pickS (pickS (pickS pickZ))))))) (want1 rfl (yD 43 hg2)) (qgo (k := 28) (by kernel_rfl) (sx (v := (vi aH)) (pickA (S8 (S8 (S8 (S4 pickZ))))) (want1 rfl (yD 43 hg2)) (by kernel_rfl) (fun w' hw' => (xl (Try.isAgg41 _) (hw'.2.cell 0 6 gZ (by kernel_rfl)))) (qw 29 (vb (v5 == aH)) (pickA (S8 (S8 (S8 (S4 (pickS pickZ)))))) (want1 rfl (yD 43 hg2)) (qz 30 (vb (v5 == aH)) (pickA (S8 (S8 (S8 (S4 (pickS (pickS pickZ))))))) (fun w' hw' => (xT hg2)) (qx 31 (vb (v5 == aH)) (pickA (S8 (S8 (S8 (S4 (pickS (pickS (pickS pickZ)))))))) (wpX_nil (by kernel_rfl) (th_n (wpE_ret (bl_r (th_r ?_)))))))))))
    refine res1 (.inl rfl) Try.results143 (v := (vb (v5 == aH))) (by kernel_rfl) ?_
    exact ⟨(v5 == aH), rfl, h⟩
   ·replace h := h.2 hg2
    refine sx_not (pickA (S8 (S8 (pickS (pickS pickZ))))) (unwant rfl (yD 43 hg2) rfl) (qn 19 (pickA (S8 (S8 (pickS (pickS (pickS pickZ)))))) (unwant rfl (yD 43 hg2) rfl) (qn 20 (pickA (S8 (S8 (S4 pickZ)))) (unwant rfl (yD 43 hg2) rfl) (qn 21 (pickA (S8 (S8 (S4 (pickS pickZ))))) (unwant rfl (yD 43 hg2) rfl) (qn 22 (pickA (S8 (S8 (S4 (pickS (pickS pickZ)))))) (unwant rfl (yD 43 hg2) rfl) (qn 23 (pickA (S8 (S8 (S4 (pickS (pickS (pickS pickZ))))))) (unwant rfl (yD 43 hg2) rfl) (qn 24 (pickA (S8 (S8 (S8 pickZ)))) (unwant rfl (yD 43 hg2) rfl) (qn 25 (pickA (S8 (S8 (S8 (pickS pickZ))))) (unwant rfl (yD 43 hg2) rfl) (qn 26 (pickA (S8 (S8 (S8 (pickS (pickS pickZ)))))) (unwant rfl (yD 43 hg2) rfl) (qn 27 (pickA (S8 (S8 (S8 (pickS (pickS (pickS pickZ))))))) (unwant rfl (yD 43 hg2) rfl) (qn 28 (pickA (S8 (S8 (S8 (S4 pickZ))))) (unwant rfl (yD 43 hg2) rfl) (qn 29 (pickA (S8 (S8 (S8 (S4 (pickS pickZ)))))) (unwant rfl (yD 43 hg2) rfl) ?_)))))))))))
    refine qz 30 (vb false) (pickA (S8 (S8 (S8 (S4 (pickS (pickS pickZ))))))) (fun w' hw' => (xF hg2)) (qx 31 (vb false) (pickA (S8 (S8 (S8 (S4 (pickS (pickS (pickS pickZ)))))))) (wpX_nil (by kernel_rfl) (th_n (wpE_ret (bl_r (th_r (res1 (.inl rfl) Try.results143 (v := (vb false)) (by kernel_rfl) ?_)))))))
    exact ⟨false, rfl, h⟩
  ·replace h := h.2 hg1
   refine sx_not Kp4 (unwant rfl (yD 29 hg1) rfl) (qn 5 Kp5 (unwant rfl (yD 29 hg1) rfl) (qn 6 Kp6 (unwant rfl (yD 29 hg1) rfl) (qn 7 Kp7 (unwant rfl (yD 29 hg1) rfl) (qn 8 Kp8 (unwant rfl (yD 29 hg1) rfl) (qn 9 Kp9 (unwant rfl (yD 29 hg1) rfl) (qn 10 (pickA (S8 (pickS (pickS pickZ)))) (unwant rfl (yD 29 hg1) rfl) (qn 11 (pickA (S8 (pickS (pickS (pickS pickZ))))) (unwant rfl (yD 29 hg1) rfl) (qn 12 (pickA (S8 (S4 pickZ))) (unwant rfl (yD 29 hg1) rfl) (qn 13 (pickA (S8 (S4 (pickS pickZ)))) (unwant rfl (yD 29 hg1) rfl) (qn 14 (pickA (S8 (S4 (pickS (pickS pickZ))))) (unwant rfl (yD 29 hg1) rfl) (qn 15 (pickA (S8 (S4 (pickS (pickS (pickS pickZ)))))) (unwant rfl (yD 29 hg1) rfl) ?_)))))))))))
   refine qz 16 (vb false) (pickA (S8 (S8 pickZ))) (fun w' hw' => (xF hg1)) (qx 17 (vb false) (pickA (S8 (S8 (pickS pickZ)))) (qn 18 (pickA (S8 (S8 (pickS (pickS pickZ))))) (unwant rfl (yD (c := false) 43 rfl) rfl) (qn 19 (pickA (S8 (S8 (pickS (pickS (pickS pickZ)))))) (unwant rfl (yD (c := false) 43 rfl) rfl) (qn 20 (pickA (S8 (S8 (S4 pickZ)))) (unwant rfl (yD (c := false) 43 rfl) rfl) (qn 21 (pickA (S8 (S8 (S4 (pickS pickZ))))) (unwant rfl (yD (c := false) 43 rfl) rfl) (qn 22 (pickA (S8 (S8 (S4 (pickS (pickS pickZ)))))) (unwant rfl (yD (c := false) 43 rfl) rfl) (qn 23 (pickA (S8 (S8 (S4 (pickS (pickS (pickS pickZ))))))) (unwant rfl (yD (c := false) 43 rfl) rfl) (qn 24 (pickA (S8 (S8 (S8 pickZ)))) (unwant rfl (yD (c := false) 43 rfl) rfl) (qn 25 (pickA (S8 (S8 (S8 (pickS pickZ))))) (unwant rfl (yD (c := false) 43 rfl) rfl) (qn 26 (pickA (S8 (S8 (S8 (pickS (pickS pickZ)))))) (unwant rfl (yD (c := false) 43 rfl) rfl) (qn 27 (pickA (S8 (S8 (S8 (pickS (pickS (pickS pickZ))))))) (unwant rfl (yD (c := false) 43 rfl) rfl) ?_)))))))))))
   refine qn 28 (pickA (S8 (S8 (S8 (S4 pickZ))))) (unwant rfl (yD (c := false) 43 rfl) rfl) (qn 29 (pickA (S8 (S8 (S8 (S4 (pickS pickZ)))))) (unwant rfl (yD (c := false) 43 rfl) rfl) (qx 30 (vb false) (pickA (S8 (S8 (S8 (S4 (pickS (pickS pickZ))))))) (qx 31 (vb false) (pickA (S8 (S8 (S8 (S4 (pickS (pickS (pickS pickZ)))))))) (wpX_nil (by kernel_rfl) (th_n (wpE_ret (bl_r (th_r (res1 (.inl rfl) Try.results143 (v := (vb false)) (by kernel_rfl) ?_)))))))))
   exact ⟨false, rfl, h⟩
 ·replace h := h.2 hc1
  refine wpE_seq (rg (q0 (vb (aA == 5)) (q0 (vb (aA == 5)) (wpL_nil (th_n ?_)))))
  refine wpE_cond (t := (aA == 5)) (by kernel_rfl) (fun hc2 => ?_) (fun hc2 => ?_)
  ·replace h := h.1 hc2
   refine wpE_seq ?_
   replace h := h H1 w3 hs
   replace hs := hs.here
   obtain ⟨C2, hC, h⟩ := h
   refine wpE_drawnC (fun x => C2 x ∧ HB H1 x [(p2, [(vi aA), (vi aE), (vi aF), (vu aJ), (vs aK), (vi aD), (vi aH)], 93)]) [2] [] (by kernel_rfl) (by kernel_rfl) (by kernel_rfl) (by kernel_rfl) ⟨hC, hb.drew⟩ ?_
   clear hC
   intro w6 hw6
   replace h := h w6 hw6
   replace hs : Hst w0 H1 w3 H1 w6 := by rw [hw6]; exact hs.drew
   replace hb : HB H1 w6 [(p2, [(vi aA), (vi aE), (vi aF), (vu aJ), (vs aK), (vi aD), (vi aH)], 93)] := by rw [hw6]; exact hb.drew
   replace hs := hs.here
   refine qx 0 l1.v Kp0 (qx 1 (vi i1) Kp1 (lgo (k := 2) (by kernel_rfl) ?_))
   refine sl_call Kp2 (want0 rfl) (by kernel_rfl) (xc Try.call142) (h.mono ?_)
   rintro e w7 ⟨r3, rfl, hC, hk, h⟩
   refine ⟨_, rfl, .inr ⟨hC, hb.kept hk⟩, ?_⟩
   obtain ⟨hs, hb⟩ := hk.hh hs hb
   refine qx 3 (vb r3) Kp3 (qgo (k := 4) (by kernel_rfl) ?_)
   rcases Bool.eq_false_or_eq_true r3 with hg3 | hg3
   ·replace h := h.1 hg3
    refine sx (v := l1.v) Kp4 (want1 rfl (yD 62 hg3)) (by kernel_rfl) (fun w' hw' => (by kernel_rfl)) (qw 5 l1.v Kp5 (want1 rfl (yD 62 hg3)) (qw 6 (vi i1) Kp6 (want1 rfl (yD 62 hg3)) (qgo (k := 7) (by kernel_rfl) ?_)))
    obtain ⟨a6, hv12, h⟩ := h
    refine sx (v := (vp (some a6))) Kp7 (want1 rfl (yD 62 hg3)) (by kernel_rfl) (fun w' hw' => (x_indexAddr (s := l1) (k := .i64) (i := i1) (by kernel_rfl) (by kernel_rfl) (Try.runUnderlying76 _) (Try.sizeOf167 _) hv12)) (qw 8 (vp (some (a6.add 1))) Kp8 (want1 rfl (yD 62 hg3)) (qgo (k := 9) (by kernel_rfl) ?_))
    obtain ⟨v6, hv11, h⟩ := h
    refine sx (v := (vi v6)) Kp9 (want1 rfl (yD 62 hg3)) (by kernel_rfl) (fun w' hw' => (xl (Try.isAgg3 _) (hv11 w' hw'.1))) (qgo (k := 10) (by kernel_rfl) ?_)
    obtain ⟨a7, hv10, h⟩ := h
    refine sx (v := (vp (some a7))) (pickA (S8 (pickS (pickS pickZ)))) (want1 rfl (yD 62 hg3)) (by kernel_rfl) (fun w' hw' => (x_indexAddr (s := l1) (k := .i64) (i := v6) (by kernel_rfl) (by kernel_rfl) (Try.runUnderlying76 _) (Try.sizeOf167 _) hv10)) (qw 11 (vp (some (a7.add 3))) (pickA (S8 (pickS (pickS (pickS pickZ))))) (want1 rfl (yD 62 hg3)) (qgo (k := 12) (by kernel_rfl) ?_))
    obtain ⟨v7, hv9, h⟩ := h
    refine sx (v := (vi v7)) (pickA (S8 (S4 pickZ))) (want1 rfl (yD 62 hg3)) (by kernel_rfl) (fun w' hw' => (xl (Try.isAgg41 _) (hv9 w' hw'.1))) (qw 13 (vp (some (p2.add 5))) (pickA (S8 (S4 (pickS pickZ)))) (want1 rfl (yD 62 hg3)) (qgo (k := 14) (by kernel_rfl) (sx (v := (vi aD)) (pickA (S8 (S4 (pickS (pickS pickZ))))) (want1 rfl (yD 62 hg3)) (by kernel_rfl) (fun w' hw' => (xl (Try.isAgg41 _) (hw'.2.cell 0 5 gZ (by kernel_rfl)))) (qw 15 (vb (v7 == aD)) (pickA (S8 (S4 (pickS (pickS (pickS pickZ)))))) (want1 rfl (yD 62 hg3)) (qz 16 (vb (v7 == aD)) (pickA (S8 (S8 pickZ))) (fun w' hw' => (xT hg3)) (qx 17 (vb (v7 == aD)) (pickA (S8 (S8 (pickS pickZ)))) (wpX_nil (by kernel_rfl) (th_n (wpE_ret (bl_r (th_r ?_)))))))))))
    refine res1 (.inl rfl) Try.results143 (v := (vb (v7 == aD))) (by kernel_rfl) ?_
    exact ⟨(v7 == aD), rfl, h⟩
   ·replace h := h.2 hg3
    refine sx_not Kp4 (unwant rfl (yD 62 hg3) rfl) (qn 5 Kp5 (unwant rfl (yD 62 hg3) rfl) (qn 6 Kp6 (unwant rfl (yD 62 hg3) rfl) (qn 7 Kp7 (unwant rfl (yD 62 hg3) rfl) (qn 8 Kp8 (unwant rfl (yD 62 hg3) rfl) (qn 9 Kp9 (unwant rfl (yD 62 hg3) rfl) (qn 10 (pickA (S8 (pickS (pickS pickZ)))) (unwant rfl (yD 62 hg3) rfl) (qn 11 (pickA (S8 (pickS (pickS (pickS pickZ))))) (unwant rfl (yD 62 hg3) rfl) (qn 12 (pickA (S8 (S4 pickZ))) (unwant rfl (yD 62 hg3) rfl) (qn 13 (pickA (S8 (S4 (pickS pickZ)))) (unwant rfl (yD 62 hg3) rfl) (qn 14 (pickA (S8 (S4 (pickS (pickS pickZ))))) (unwant rfl (yD 62 hg3) rfl) (qn 15 (pickA (S8 (S4 (pickS (pickS (pickS pickZ)))))) (unwant rfl (yD 62 hg3) rfl) ?_)))))))))))
    refine qz 16 (vb false) (pickA (S8 (S8 pickZ))) (fun w' hw' => (xF hg3)) (qx 17 (vb false) (pickA (S8 (S8 (pickS pickZ)))) (wpX_nil (by kernel_rfl) (th_n (wpE_ret (bl_r (th_r (res1 (.inl rfl) Try.results143 (v := (vb false)) (by kernel_rfl) ?_)))))))
    exact ⟨false, rfl, h⟩
  ·replace h := h.2 hc2
   refine wpE_seq (wpE_seq (rg (q0 (vb (aA == 7)) (q0 (vb (aA == 7)) (wpL_nil (th_n ?_))))))
   refine wpE_via (fun ρ wJ => ∃ b1'0 b1'1 y1 : Bool, ∃ HJ : Nat → Prop, ((aA == 7) = b1'0) ∧ ((aA == 8) = b1'1) ∧ (y1 = (cond b1'0 (aA == 7) (cond b1'1 (aA == 8) (aA == 9)))) ∧ Hst w0 None w1 HJ wJ ∧ HB HJ wJ [(p2, [(vi aA), (vi aE), (vi aF), (vu aJ), (vs aK), (vi aD), (vi aH)], 93)] ∧ Has ρ [(0, (vp p1)), (1, l1.v), (2, (vi i1)), (7, (vp (some p2))), (76, (vb y1))]) ?_ ?_
   ·skip
    refine wpE_cond (t := (aA == 7)) (by kernel_rfl) (fun hc5 => ?_) (fun hc5 => ?_)
    ·skip
     refine wpE_skip (th_n ?_)
     exact ⟨true, _, _, _, hc5, rfl, rfl, hs, hb, Has.mk (by kernel_rfl)⟩
    ·skip
     refine wpE_seq (rg (q0 (vb (aA == 8)) (q0 (vb (aA == 8)) (wpL_nil (th_n ?_)))))
     refine wpE_cond (t := (aA == 8)) (by kernel_rfl) (fun hc6 => ?_) (fun hc6 => ?_)
     ·skip
      refine wpE_skip (th_n ?_)
      exact ⟨false, true, _, _, hc5, hc6, rfl, hs, hb, Has.mk (by kernel_rfl)⟩
     ·skip
      refine rg (q0 (vb (aA == 9)) (q0 (vb (aA == 9)) (wpL_nil (th_n ?_))))
      exact ⟨false, false, _, _, hc5, hc6, rfl, hs, hb, Has.mk (by kernel_rfl)⟩
   ·clear hs hb
    rintro ρ w8 ⟨b1'0, b1'1, y1, H2, he0, he1, hy1, hs, hb, hH⟩
    subst he0
    subst he1
    replace h := h y1 hy1
    refine norm_has hH ?_
    clear hH
    refine th_n ?_
    refine wpE_cond (t := y1) (by kernel_rfl) (fun hc7 => ?_) (fun hc7 => ?_)
    ·replace h := h.1 hc7
     refine wpE_seq (wpE_seq ?_)
     refine wpE_joinT (fun ρ w => ∃ x1 : Bool, ∃ H : Nat → Prop, Has ρ [(0, (vp p1)), (1, l1.v), (2, (vi i1)), (7, (vp (some p2))), (97, (vb x1))] ∧ Hst w0 H w H w ∧ HB H w [(p2, [(vi aA), (vi aE), (vi aF), (vu aJ), (vs aK), (vi aD), (vi aH)], 93)] ∧ m_ref08_makes_j1 p1 l1 i1 aA aE aF x1 w0 H w K) ?_ ?_
     ·clear h hs hb
      rintro ρ w ⟨x1, H, hH, hs, hb, h⟩
      unfold m_ref08_makes_j1 at h
      refine wpE_has hH ?_
      clear hH
      refine wpE_cond (t := x1) (by kernel_rfl) (fun hc8 => ?_) (fun hc8 => ?_)
      ·replace h := h.1 hc8
       refine wpE_seq (rg (q0 (vb false) (wpL_nil (th_n (wpE_ret (th_r (bl_r (th_r (res1 (.inl rfl) Try.results143 (v := (vb false)) (by kernel_rfl) ?_)))))))))
       exact ⟨false, rfl, h⟩
      ·replace h := h.2 hc8
       refine wpE_skip (th_n (wpE_seq (rg (q0 (vp p1) (q0 l1.v (q0 l1.v (q0 (vi i1) ?_)))))))
       obtain ⟨a8, hv16, h⟩ := h
       refine q2 (vp (some a8)) (x_indexAddr (s := l1) (k := .i64) (i := i1) (by kernel_rfl) (by kernel_rfl) (Try.runUnderlying76 _) (Try.sizeOf167 _) hv16) (q0 (vp (some (a8.add 2))) ?_)
       obtain ⟨v8, hv15, h⟩ := h
       refine q2 (vi v8) (xl (Try.isAgg3 _) hv15) ?_
       obtain ⟨a9, hv14, h⟩ := h
       refine q2 (vp (some a9)) (x_indexAddr (s := l1) (k := .i64) (i := v8) (by kernel_rfl) (by kernel_rfl) (Try.runUnderlying76 _) (Try.sizeOf167 _) hv14) (q0 (vp (some (a9.add 3))) ?_)
       obtain ⟨v9, hv13, h⟩ := h
       refine q2 (vi v9) (xl (Try.isAgg41 _) hv13) ?_
       refine st_call (want0 rfl) (xc Try.call47) (h.mono ?_)
       rintro e w9 ⟨aB, aL, aN, aO, aP, aI, aM, r4, rfl, hk, h⟩
       refine ⟨_, rfl, ?_⟩
       obtain ⟨hs, hb⟩ := hk.hh hs hb
       refine q0 (.tuple #[(.agg #[(vi aB), (vi aL), (vi aN), (vu aO), (vs aP), (vi aI), (vi aM)]), (vb r4)]) (q0 (.agg #[(vi aB), (vi aL), (vi aN), (vu aO), (vs aP), (vi aI), (vi aM)]) (q0 (vb r4) (sn (O := (.cells #[(vi 0), (vi 0), (vi 0), (vu 0), (vs ⟨#[]⟩), (vi 0), (vi 0)] 93)) (x_alloc (Try.zeroValue93 _) rfl) ?_)))
       intro p3 w10 hn3
       obtain ⟨H3, hs, hb⟩ := hs.alloc hb hn3
       refine st_set (want0 rfl) (x_storeA (a := p3) (vs := [(vi aB), (vi aL), (vi aN), (vu aO), (vs aP), (vi aI), (vi aM)]) (by kernel_rfl) (by kernel_rfl) rfl (Try.sizeOf93 _) rfl (hb.canWs0 0 7 gZ (by kernel_rfl))) ?_
       intro w11 hn4
       have hsb : Hst w0 H w9 H3 w11 ∧ HB H3 w11 [(p3, [(vi aB), (vi aL), (vi aN), (vu aO), (vs aP), (vi aI), (vi aM)], 93), (p2, [(vi aA), (vi aE), (vi aF), (vu aJ), (vs aK), (vi aD), (vi aH)], 93)] := by
        rw [hn4]
        exact hb.store0 (i := 0) (vs := [(vi aB), (vi aL), (vi aN), (vu aO), (vs aP), (vi aI), (vi aM)]) hs gZ (by kernel_rfl) (by kernel_rfl)
       clear hs hb hn4
       obtain ⟨hs, hb⟩ := hsb
       refine q0 (vb r4) (wpL_nil (th_n (wpE_seq (rg (q0 (vp (some (p2.add 1))) (q2 (vi aE) (xl (Try.isAgg3 _) (hb.c 1 1 (gS gZ))) (q0 (vi aE) (wpL_nil (th_n (wpE_seq (wpE_seq ?_)))))))))))
       refine rg (q0 (vp (some p2)) (q2 (vi aA) (xl (Try.isAgg3 _) (hb.c0 1 (gS gZ))) (q0 (vb (aA == 9)) (wpL_nil (th_n ?_)))))
       refine wpE_via (fun ρ wJ => ∃ b2'0 : Bool, ∃ HJ : Nat → Prop, ((aA == 9) = b2'0) ∧ Hst w0 H w9 HJ wJ ∧ HB HJ wJ [(p3, [(vi aB), (vi aL), (vi aN), (vu aO), (vs aP), (vi aI), (vi aM)], 93), (p2, [(vi aA), (vi aE), (vi aF), (vu aJ), (vs aK), (vi aD), (vi aH)], 93)] ∧ Has ρ [(9, (vp (some p3))), (11, (vi (cond b2'0 aF aE)))]) ?_ ?_
       ·skip
        refine wpE_cond (t := (aA == 9)) (by kernel_rfl) (fun hc10 => ?_) (fun hc10 => ?_)
        ·skip
         refine rg (q0 (vp (some (p2.add 2))) (q2 (vi aF) (xl (Try.isAgg3 _) (hb.c 1 2 (gS gZ))) (q0 (vi aF) (wpL_nil (th_n ?_)))))
         exact ⟨true, _, hc10, hs, hb, Has.mk (by kernel_rfl)⟩
        ·skip
         refine wpE_skip (th_n ?_)
         exact ⟨false, _, hc10, hs, hb, Has.mk (by kernel_rfl)⟩
       ·clear hs hb
        rintro ρ w12 ⟨b2'0, H4, he0, hs, hb, hH⟩
        subst he0
        refine norm_has hH ?_
        clear hH
        refine th_n (wpE_seq ?_)
        refine wpE_via (fun ρ wJ => ∃ HJ : Nat → Prop, Hst w0 H w9 HJ wJ ∧ HB HJ wJ [(p3, [(vi aB), (vi aL), (vi aN), (vu aO), (vs aP), (vi aI), (vi aM)], 93), (p2, [(vi aA), (vi aE), (vi aF), (vu aJ), (vs aK), (vi aD), (vi aH)], 93)] ∧ Has ρ [(6, (vb ((aB == 6) && (aL == (cond (aA == 9) aF aE)))))]) ?_ ?_
        ·skip
         refine rg (q0 (vp (some p3)) (q2 (vi aB) (xl (Try.isAgg3 _) (hb.c0 0 gZ)) (q0 (vb (aB == 6)) (q0 (vb (aB == 6)) ?_))))
         refine wpL_join 5 (fun ρ wJ => ∃ b5'0 : Bool, ∃ HJ : Nat → Prop, ((aB == 6) = b5'0) ∧ Hst w0 H w9 HJ wJ ∧ HB HJ wJ [(p3, [(vi aB), (vi aL), (vi aN), (vu aO), (vs aP), (vi aI), (vi aM)], 93), (p2, [(vi aA), (vi aE), (vi aF), (vu aJ), (vs aK), (vi aD), (vi aH)], 93)] ∧ Has ρ [(127, (vb (b5'0 && (aL == (cond (aA == 9) aF aE)))))]) ?_ ?_
         ·clear hs hb
          rintro ρ w15 ⟨b5'0, H7, he0, hs, hb, hH⟩
          subst he0
          refine wpL_has hH ?_
          clear hH
          refine q0 (vb ((aB == 6) && (aL == (cond (aA == 9) aF aE)))) (wpL_nil (th_n ?_))
          exact ⟨_, hs, hb, Has.mk (by kernel_rfl)⟩
         ·skip
          rcases Bool.eq_false_or_eq_true (aB == 6) with hg7 | hg7
          ·skip
           refine q1 (vp (some (p3.add 1))) (want1 rfl (yD 122 hg7)) (stp (v := (vi aL)) (want1 rfl (yD 122 hg7)) (xl (Try.isAgg3 _) (hb.c 0 1 gZ)) (q1 (vi (cond (aA == 9) aF aE)) (want1 rfl (yD 122 hg7)) (q1 (vb (aL == (cond (aA == 9) aF aE))) (want1 rfl (yD 122 hg7)) (q2 (vb (aL == (cond (aA == 9) aF aE))) (xT hg7) (wpL_nil ?_)))))
           exact ⟨true, _, hg7, hs, hb, Has.mk (by kernel_rfl)⟩
          ·skip
           refine sk (yD 122 hg7) (sk (yD 122 hg7) (sk (yD 122 hg7) (sk (yD 122 hg7) (q2 (vb false) (xF hg7) (wpL_nil ?_)))))
           exact ⟨false, _, hg7, hs, hb, Has.mk (by kernel_rfl)⟩
        ·clear hs hb
         rintro ρ w14 ⟨H6, hs, hb, hH⟩
         refine norm_has hH ?_
         clear hH
         refine th_n (wpE_ret (bl_r (th_r ?_)))
         replace h := h H6 w14 hs
         replace hs := hs.here
         refine res1 (.inl rfl) Try.results143 (v := (vb ((aB == 6) && (aL == (cond (aA == 9) aF aE))))) (by kernel_rfl) ?_
         exact ⟨((aB == 6) && (aL == (cond (aA == 9) aF aE))), rfl, h⟩
     ·skip
      replace h := h H2 w8 hs
      replace hs := hs.here
      obtain ⟨C3, hC, h⟩ := h
      refine wpE_drawnC (fun x => C3 x ∧ HB H2 x [(p2, [(vi aA), (vi aE), (vi aF), (vu aJ), (vs aK), (vi aD), (vi aH)], 93)]) [2] [] (by kernel_rfl) (by kernel_rfl) (by kernel_rfl) (by kernel_rfl) ⟨hC, hb.drew⟩ ?_
      clear hC
      intro w16 hw16
      replace h := h w16 hw16
      replace hs : Hst w0 H2 w8 H2 w16 := by rw [hw16]; exact hs.drew
      replace hb : HB H2 w16 [(p2, [(vi aA), (vi aE), (vi aF), (vu aJ), (vs aK), (vi aD), (vi aH)], 93)] := by rw [hw16]; exact hb.drew
      replace hs := hs.here
      refine qx 0 l1.v Kp0 (qx 1 (vi i1) Kp1 (lgo (k := 2) (by kernel_rfl) ?_))
      refine sl_call Kp2 (want0 rfl) (by kernel_rfl) (xc Try.call142) (h.mono ?_)
      rintro e w17 ⟨r5, rfl, hC, hk, h⟩
      refine ⟨_, rfl, .inr ⟨hC, hb.kept hk⟩, ?_⟩
      obtain ⟨hs, hb⟩ := hk.hh hs hb
      refine qx 3 (vb (!r5)) Kp3 (qx 4 (vb (!r5)) Kp4 (qgo (k := 5) (by kernel_rfl) ?_))
      rcases Bool.eq_false_or_eq_true (!r5) with hg8 | hg8
      ·replace h := h.1 hg8
       refine sx_not Kp5 (unwant rfl (yD 84 hg8) rfl) (qn 6 Kp6 (unwant rfl (yD 84 hg8) rfl) (qn 7 Kp7 (unwant rfl (yD 84 hg8) rfl) (qn 8 Kp8 (unwant rfl (yD 84 hg8) rfl) (qn 9 Kp9 (unwant rfl (yD 84 hg8) rfl) (qn 10 (pickA (S8 (pickS (pickS pickZ)))) (unwant rfl (yD 84 hg8) rfl) (qn 11 (pickA (S8 (pickS (pickS (pickS pickZ))))) (unwant rfl (yD 84 hg8) rfl) (qn 12 (pickA (S8 (S4 pickZ))) (unwant rfl (yD 84 hg8) rfl) (qn 13 (pickA (S8 (S4 (pickS pickZ)))) (unwant rfl (yD 84 hg8) rfl) (qn 14 (pickA (S8 (S4 (pickS (pickS pickZ))))) (unwant rfl (yD 84 hg8) rfl) (qn 15 (pickA (S8 (S4 (pickS (pickS (pickS pickZ)))))) (unwant rfl (yD 84 hg8) rfl) (qn 16 (pickA (S8 (S8 pickZ))) (unwant rfl (yD 84 hg8) rfl) ?_)))))))))))
       refine qz 17 (vb true) (pickA (S8 (S8 (pickS pickZ)))) (fun w' hw' => (xT hg8)) (wpX_nil (by kernel_rfl) (th_n ?_))
       exact ⟨true, H2, Has.mk (by kernel_rfl), hs, hb, h⟩
      ·replace h := h.2 hg8
       refine sx (v := l1.v) Kp5 (want1 rfl (yD 84 hg8)) (by kernel_rfl) (fun w' hw' => (by kernel_rfl)) (qw 6 l1.v Kp6 (want1 rfl (yD 84 hg8)) (qw 7 (vi i1) Kp7 (want1 rfl (yD 84 hg8)) (qgo (k := 8) (by kernel_rfl) ?_)))
       obtain ⟨a10, hv20, h⟩ := h
       refine sx (v := (vp (some a10))) Kp8 (want1 rfl (yD 84 hg8)) (by kernel_rfl) (fun w' hw' => (x_indexAddr (s := l1) (k := .i64) (i := i1) (by kernel_rfl) (by kernel_rfl) (Try.runUnderlying76 _) (Try.sizeOf167 _) hv20)) (qw 9 (vp (some (a10.add 1))) Kp9 (want1 rfl (yD 84 hg8)) (qgo (k := 10) (by kernel_rfl) ?_))
       obtain ⟨v10, hv19, h⟩ := h
       refine sx (v := (vi v10)) (pickA (S8 (pickS (pickS pickZ)))) (want1 rfl (yD 84 hg8)) (by kernel_rfl) (fun w' hw' => (xl (Try.isAgg3 _) (hv19 w' hw'.1))) (qgo (k := 11) (by kernel_rfl) ?_)
       obtain ⟨a11, hv18, h⟩ := h
       refine sx (v := (vp (some a11))) (pickA (S8 (pickS (pickS (pickS pickZ))))) (want1 rfl (yD 84 hg8)) (by kernel_rfl) (fun w' hw' => (x_indexAddr (s := l1) (k := .i64) (i := v10) (by kernel_rfl) (by kernel_rfl) (Try.runUnderlying76 _) (Try.sizeOf167 _) hv18)) (qw 12 (vp (some (a11.add 3))) (pickA (S8 (S4 pickZ))) (want1 rfl (yD 84 hg8)) (qgo (k := 13) (by kernel_rfl) ?_))
       obtain ⟨v11, hv17, h⟩ := h
       refine sx (v := (vi v11)) (pickA (S8 (S4 (pickS pickZ)))) (want1 rfl (yD 84 hg8)) (by kernel_rfl) (fun w' hw' => (xl (Try.isAgg41 _) (hv17 w' hw'.1))) (qw 14 (vp (some (p2.add 5))) (pickA (S8 (S4 (pickS (pickS pickZ))))) (want1 rfl (yD 84 hg8)) (qgo (k := 15) (by kernel_rfl) (sx (v := (vi aD)) (pickA (S8 (S4 (pickS (pickS (pickS pickZ)))))) (want1 rfl (yD 84 hg8)) (by kernel_rfl) (fun w' hw' => (xl (Try.isAgg41 _) (hw'.2.cell 0 5 gZ (by kernel_rfl)))) (qw 16 (vb (v11 != aD)) (pickA (S8 (S8 pickZ))) (want1 rfl (yD 84 hg8)) (qz 17 (vb (v11 != aD)) (pickA (S8 (S8 (pickS pickZ)))) (fun w' hw' => (xF hg8)) (wpX_nil (by kernel_rfl) (th_n ?_)))))))
       exact ⟨(v11 != aD), H2, Has.mk (by kernel_rfl), hs, hb, h⟩
    ·replace h := h.2 hc7
     refine wpE_skip (bl_n (th_n (wpE_seq (rg (q0 (vb false) (wpL_nil (th_n (wpE_ret ?_))))))))
     replace h := h H2 w8 hs
     replace hs := hs.here
     refine res1 (.inl rfl) Try.results143 (v := (vb false)) (by kernel_rfl) ?_
     exact ⟨false, rfl, h⟩
def m_ref08_follows (p1 : Option Addr) (given1 l1 : Sl) (i1 : Int) (w0 : World) (K : Bool → World → Prop) : Prop :=
 ∃ a1 : Addr, At l1 i1 4 a1 ∧
 ∃ aC aQ : Int, ∃ aR aG : Int, Row w0 a1 [(vi aC), (vi aQ), (vi aR), (vi aG)] ∧
 ∀ (H1 : Nat → Prop) (w2 : World), Hst w0 None w0 H1 w2 →
 Calls Try.prog 94 #[(vp p1), (vi aG)] w2 (fun e w3 => ∃ r1 : Bool, e = .returned (vb r1) ∧ 
  Kept H1 w2 w3 ∧
  Br (!r1)
   (K false w3)
   (Calls Try.prog 47 #[(vp p1), (vi aG)] w3 (fun e w4 => ∃ aA aE : Int, ∃ aF aJ : Int, ∃ aK : ByteArray, ∃ aD aH : Int, ∃ r2 : Bool, e = .returned (.tuple #[(.agg #[(vi aA), (vi aE), (vi aF), (vu aJ), (vs aK), (vi aD), (vi aH)]), (vb r2)]) ∧ 
    Kept H1 w3 w4 ∧
    Br (aC == 0)
     (∀ (H2 : Nat → Prop) (w6 : World), Hst w0 H1 w4 H2 w6 →
     Calls Try.prog 142 #[l1.v, (vi i1), (vb false), (vb false)] w6 (fun e w7 => ∃ r3 : Bool, e = .returned (vb r3) ∧ 
      Kept H2 w6 w7 ∧
      Br r3
       (Calls Try.prog 95 #[given1.v, (vi aG)] w7 (fun e w8 => ∃ r4 : Bool, e = .returned (vb r4) ∧ 
        Kept H2 w7 w8 ∧
        K r4 w8))
       (K false w7)))
     (∀ y1 : Bool, y1 = (cond (aC == 1) (aC == 1) (cond (aC == 2) (aC == 2) (aC == 3))) →
     Br y1
      (∀ (H3 : Nat → Prop) (w9 : World), Hst w0 H1 w4 H3 w9 →
      Calls Try.prog 142 #[l1.v, (vi i1), (vb true), (vb false)] w9 (fun e w10 => ∃ r5 : Bool, e = .returned (vb r5) ∧ 
       Kept H3 w9 w10 ∧
       Br (!r5)
        (K false w10)
        (∃ a2 : Addr, At l1 aQ 4 a2 ∧
        ∃ v1 : Int, w10.cell? (a2.add 3) = some (vi v1) ∧
        Calls Try.prog 47 #[(vp p1), (vi v1)] w10 (fun e w11 => ∃ aB aL : Int, ∃ aN aO : Int, ∃ aP : ByteArray, ∃ aI aM : Int, ∃ r6 : Bool, e = .returned (.tuple #[(.agg #[(vi aB), (vi aL), (vi aN), (vu aO), (vs aP), (vi aI), (vi aM)]), (vb r6)]) ∧ 
         Kept H3 w10 w11 ∧
         Br (aC == 1)
          (∀ (H6 : Nat → Prop) (w15 : World), Hst w0 H3 w11 H6 w15 →
          K ((aB == 4) && (aI == aG)) w15)
          (Br (aC == 2)
           (∀ (H9 : Nat → Prop) (w18 : World), Hst w0 H3 w11 H9 w18 →
           K ((aB == 4) && (aM == aG)) w18)
           (∀ (H12 : Nat → Prop) (w22 : World), Hst w0 H3 w11 H12 w22 →
           K ((s_ref08_shows aB) && (aI == aG)) w22))))))
      (Br (aC == 4)
       (∀ (H3 : Nat → Prop) (w9 : World), Hst w0 H1 w4 H3 w9 →
       Calls Try.prog 142 #[l1.v, (vi i1), (vb false), (vb false)] w9 (fun e w25 => ∃ r7 : Bool, e = .returned (vb r7) ∧ 
        Kept H3 w9 w25 ∧
        ∀ (H16 : Nat → Prop) (w28 : World), Hst w0 H3 w25 H16 w28 →
        K (r7 && (((aA == 1) || (aA == 2)) || (aA == 3))) w28))
       (Br (aC == 5)
        (∀ (H3 : Nat → Prop) (w9 : World), Hst w0 H1 w4 H3 w9 →
        Calls Try.prog 143 #[(vp p1), l1.v, (vi i1)] w9 (fun e w31 => ∃ r8 : Bool, e = .returned (vb r8) ∧ 
         Kept H3 w9 w31 ∧
         K r8 w31))
        (∀ (H3 : Nat → Prop) (w9 : World), Hst w0 H1 w4 H3 w9 →
        K false w9)))))))
theorem w_ref08_follows (p1 : Option Addr) (given1 l1 : Sl) (i1 : Int) (w0 : World) (K : Bool → World → Prop) (h : m_ref08_follows p1 given1 l1 i1 w0 K) :
  Calls Try.prog 101 #[(vp p1), given1.v, l1.v, (vi i1)] w0 (fun e w' => ∃ r9 : Bool, e = .returned (vb r9) ∧ K r9 w') := by
 unfold m_ref08_follows at h
 refine calls_of_wpE (args := [(vp p1), given1.v, l1.v, (vi i1)]) Try.func101 rfl Try.ntmps101 (Nat.le_of_ble_eq_true rfl) ?_
 have hs := Hst.start w0
 have hb := HB.nil None w0
 refine wpE_seq (rg (q0 (vb false) (wpL_nil (th_n (wpE_seq (rg (q0 l1.v (q0 (vi i1) ?_))))))))
 obtain ⟨a1, hv4, h⟩ := h
 refine q2 (vp (some a1)) (x_indexAddr (s := l1) (k := .i64) (i := i1) (by kernel_rfl) (by kernel_rfl) (Try.runUnderlying76 _) (Try.sizeOf167 _) hv4) ?_
 obtain ⟨aC, aQ, aR, aG, hv3, h⟩ := h
 refine q2 (.agg #[(vi aC), (vi aQ), (vi aR), (vi aG)]) (x_loadA (a := a1) (vs := [(vi aC), (vi aQ), (vi aR), (vi aG)]) (by kernel_rfl) (Try.isAgg167 _) (Try.sizeOf167 _) rfl hv3) (sn (O := (.cells #[(vi 0), (vi 0), (vi 0), (vi 0)] 167)) (x_alloc (Try.zeroValue167 _) rfl) ?_)
 intro p2 w1 hn1
 obtain ⟨H1, hs, hb⟩ := hs.alloc hb hn1
 refine st_set (want0 rfl) (x_storeA (a := p2) (vs := [(vi aC), (vi aQ), (vi aR), (vi aG)]) (by kernel_rfl) (by kernel_rfl) rfl (Try.sizeOf167 _) rfl (hb.canWs0 0 4 gZ (by kernel_rfl))) ?_
 intro w2 hn2
 have hsb : Hst w0 None w0 H1 w2 ∧ HB H1 w2 [(p2, [(vi aC), (vi aQ), (vi aR), (vi aG)], 167)] := by
  rw [hn2]
  exact hb.store0 (i := 0) (vs := [(vi aC), (vi aQ), (vi aR), (vi aG)]) hs gZ (by kernel_rfl) (by kernel_rfl)
 clear hs hb hn2
 obtain ⟨hs, hb⟩ := hsb
 refine wpL_nil (th_n (wpE_seq (wpE_seq (rg (q0 (vp p1) (q0 (vp (some (p2.add 3))) (q2 (vi aG) (xl (Try.isAgg41 _) (hb.c 0 3 gZ)) ?_)))))))
 replace h := h H1 w2 hs
 replace hs := hs.here
 refine st_call (want0 rfl) (xc Try.call94) (h.mono ?_)
 rintro e w3 ⟨r1, rfl, hk, h⟩
 refine ⟨_, rfl, ?_⟩
 obtain ⟨hs, hb⟩ := hk.hh hs hb
 refine q0 (vb (!r1)) (wpL_nil (th_n ?_))
 refine wpE_cond (t := (!r1)) (by kernel_rfl) (fun hc1 => ?_) (fun hc1 => ?_)
 ·replace h := h.1 hc1
  refine wpE_seq (rg (q0 (vb false) (wpL_nil (th_n (wpE_ret (th_r (res1 (.inl rfl) Try.results101 (v := (vb false)) (by kernel_rfl) ?_)))))))
  exact ⟨false, rfl, h⟩
 ·replace h := h.2 hc1
  refine wpE_skip (th_n (wpE_seq (rg (q0 (vp p1) (q0 (vp (some (p2.add 3))) (q2 (vi aG) (xl (Try.isAgg41 _) (hb.c 0 3 gZ)) ?_))))))
  refine st_call (want0 rfl) (xc Try.call47) (h.mono ?_)
  rintro e w4 ⟨aA, aE, aF, aJ, aK, aD, aH, r2, rfl, hk, h⟩
  refine ⟨_, rfl, ?_⟩
  obtain ⟨hs, hb⟩ := hk.hh hs hb
  refine q0 (.tuple #[(.agg #[(vi aA), (vi aE), (vi aF), (vu aJ), (vs aK), (vi aD), (vi aH)]), (vb r2)]) (q0 (.agg #[(vi aA), (vi aE), (vi aF), (vu aJ), (vs aK), (vi aD), (vi aH)]) (q0 (vb r2) (sn (O := (.cells #[(vi 0), (vi 0), (vi 0), (vu 0), (vs ⟨#[]⟩), (vi 0), (vi 0)] 93)) (x_alloc (Try.zeroValue93 _) rfl) ?_)))
  intro p3 w5 hn3
  obtain ⟨H2, hs, hb⟩ := hs.alloc hb hn3
  refine st_set (want0 rfl) (x_storeA (a := p3) (vs := [(vi aA), (vi aE), (vi aF), (vu aJ), (vs aK), (vi aD), (vi aH)]) (by kernel_rfl) (by kernel_rfl) rfl (Try.sizeOf93 _) rfl (hb.canWs0 0 7 gZ (by kernel_rfl))) ?_
  intro w6 hn4
  have hsb : Hst w0 H1 w4 H2 w6 ∧ HB H2 w6 [(p3, [(vi aA), (vi aE), (vi aF), (vu aJ), (vs aK), (vi aD), (vi aH)], 93), (p2, [(vi aC), (vi aQ), (vi aR), (vi aG)], 167)] := by
   rw [hn4]
   exact hb.store0 (i := 0) (vs := [(vi aA), (vi aE), (vi aF), (vu aJ), (vs aK), (vi aD), (vi aH)]) hs gZ (by kernel_rfl) (by kernel_rfl)
  clear hs hb hn4
  obtain ⟨hs, hb⟩ := hsb
  refine q0 (vb r2) (wpL_nil (th_n (wpE_seq (wpE_seq (rg (q0 (vp (some p2)) (q2 (vi aC) (xl (Try.isAgg3 _) (hb.c0 1 (gS gZ))) (wpL_nil (th_n (wpE_block (wpE_seq ?_)))))))))))
  refine rg (q0 (vb (aC == 0)) (q0 (vb (aC == 0)) (wpL_nil (th_n ?_))))
  refine wpE_cond (t := (aC == 0)) (by kernel_rfl) (fun hc2 => ?_) (fun hc2 => ?_)
  ·replace h := h.1 hc2
   refine wpE_seq (rg (q0 l1.v (q0 (vi i1) ?_)))
   replace h := h H2 w6 hs
   replace hs := hs.here
   refine st_call (want0 rfl) (xc Try.call142) (h.mono ?_)
   rintro e w7 ⟨r3, rfl, hk, h⟩
   refine ⟨_, rfl, ?_⟩
   obtain ⟨hs, hb⟩ := hk.hh hs hb
   refine q0 (vb r3) ?_
   rcases Bool.eq_false_or_eq_true r3 with hg1 | hg1
   ·replace h := h.1 hg1
    refine q1 given1.v (want1 rfl (yD 37 hg1)) (q1 (vp (some (p2.add 3))) (want1 rfl (yD 37 hg1)) (stp (v := (vi aG)) (want1 rfl (yD 37 hg1)) (xl (Try.isAgg41 _) (hb.c 1 3 (gS gZ))) ?_))
    refine st_call (want1 rfl (yD 37 hg1)) (xc Try.call95) (h.mono ?_)
    rintro e w8 ⟨r4, rfl, hk, h⟩
    refine ⟨_, rfl, ?_⟩
    obtain ⟨hs, hb⟩ := hk.hh hs hb
    refine q2 (vb r4) (xT hg1) (q0 (vb r4) (wpL_nil (th_n (wpE_ret (bl_r (th_r (res1 (.inl rfl) Try.results101 (v := (vb r4)) (by kernel_rfl) ?_)))))))
    exact ⟨r4, rfl, h⟩
   ·replace h := h.2 hg1
    refine sk (yD 37 hg1) (sk (yD 37 hg1) (sk (yD 37 hg1) (sk (yD 37 hg1) (q2 (vb false) (xF hg1) (q0 (vb false) (wpL_nil (th_n (wpE_ret (bl_r (th_r (res1 (.inl rfl) Try.results101 (v := (vb false)) (by kernel_rfl) ?_)))))))))))
    exact ⟨false, rfl, h⟩
  ·replace h := h.2 hc2
   refine wpE_seq (wpE_seq (rg (q0 (vb (aC == 1)) (q0 (vb (aC == 1)) (wpL_nil (th_n ?_))))))
   refine wpE_via (fun ρ wJ => ∃ b1'0 b1'1 y1 : Bool, ∃ HJ : Nat → Prop, ((aC == 1) = b1'0) ∧ ((aC == 2) = b1'1) ∧ (y1 = (cond b1'0 (aC == 1) (cond b1'1 (aC == 2) (aC == 3)))) ∧ Hst w0 H1 w4 HJ wJ ∧ HB HJ wJ [(p3, [(vi aA), (vi aE), (vi aF), (vu aJ), (vs aK), (vi aD), (vi aH)], 93), (p2, [(vi aC), (vi aQ), (vi aR), (vi aG)], 167)] ∧ Has ρ [(0, (vp p1)), (2, l1.v), (3, (vi i1)), (9, (vp (some p2))), (10, (vp (some p3))), (31, (vi aC)), (43, (vb y1))]) ?_ ?_
   ·skip
    refine wpE_cond (t := (aC == 1)) (by kernel_rfl) (fun hc5 => ?_) (fun hc5 => ?_)
    ·skip
     refine wpE_skip (th_n ?_)
     exact ⟨true, _, _, _, hc5, rfl, rfl, hs, hb, Has.mk (by kernel_rfl)⟩
    ·skip
     refine wpE_seq (rg (q0 (vb (aC == 2)) (q0 (vb (aC == 2)) (wpL_nil (th_n ?_)))))
     refine wpE_cond (t := (aC == 2)) (by kernel_rfl) (fun hc6 => ?_) (fun hc6 => ?_)
     ·skip
      refine wpE_skip (th_n ?_)
      exact ⟨false, true, _, _, hc5, hc6, rfl, hs, hb, Has.mk (by kernel_rfl)⟩
     ·skip
      refine rg (q0 (vb (aC == 3)) (q0 (vb (aC == 3)) (wpL_nil (th_n ?_))))
      exact ⟨false, false, _, _, hc5, hc6, rfl, hs, hb, Has.mk (by kernel_rfl)⟩
   ·clear hs hb
    rintro ρ w9 ⟨b1'0, b1'1, y1, H3, he0, he1, hy1, hs, hb, hH⟩
    subst he0
    subst he1
    replace h := h y1 hy1
    refine norm_has hH ?_
    clear hH
    refine th_n ?_
    refine wpE_cond (t := y1) (by kernel_rfl) (fun hc7 => ?_) (fun hc7 => ?_)
    ·replace h := h.1 hc7
     refine wpE_seq (wpE_seq (rg (q0 l1.v (q0 (vi i1) ?_))))
     replace h := h H3 w9 hs
     replace hs := hs.here
     refine st_call (want0 rfl) (xc Try.call142) (h.mono ?_)
     rintro e w10 ⟨r5, rfl, hk, h⟩
     refine ⟨_, rfl, ?_⟩
     obtain ⟨hs, hb⟩ := hk.hh hs hb
     refine q0 (vb (!r5)) (wpL_nil (th_n ?_))
     refine wpE_cond (t := (!r5)) (by kernel_rfl) (fun hc8 => ?_) (fun hc8 => ?_)
     ·replace h := h.1 hc8
      refine wpE_seq (rg (q0 (vb false) (wpL_nil (th_n (wpE_ret (th_r (bl_r (th_r (res1 (.inl rfl) Try.results101 (v := (vb false)) (by kernel_rfl) ?_)))))))))
      exact ⟨false, rfl, h⟩
     ·replace h := h.2 hc8
      refine wpE_skip (th_n (wpE_seq (rg (q0 (vp p1) (q0 l1.v (q0 (vp (some (p2.add 1))) (q2 (vi aQ) (xl (Try.isAgg3 _) (hb.c 1 1 (gS gZ))) ?_)))))))
      obtain ⟨a2, hv2, h⟩ := h
      refine q2 (vp (some a2)) (x_indexAddr (s := l1) (k := .i64) (i := aQ) (by kernel_rfl) (by kernel_rfl) (Try.runUnderlying76 _) (Try.sizeOf167 _) hv2) (q0 (vp (some (a2.add 3))) ?_)
      obtain ⟨v1, hv1, h⟩ := h
      refine q2 (vi v1) (xl (Try.isAgg41 _) hv1) ?_
      refine st_call (want0 rfl) (xc Try.call47) (h.mono ?_)
      rintro e w11 ⟨aB, aL, aN, aO, aP, aI, aM, r6, rfl, hk, h⟩
      refine ⟨_, rfl, ?_⟩
      obtain ⟨hs, hb⟩ := hk.hh hs hb
      refine q0 (.tuple #[(.agg #[(vi aB), (vi aL), (vi aN), (vu aO), (vs aP), (vi aI), (vi aM)]), (vb r6)]) (q0 (.agg #[(vi aB), (vi aL), (vi aN), (vu aO), (vs aP), (vi aI), (vi aM)]) (q0 (vb r6) (sn (O := (.cells #[(vi 0), (vi 0), (vi 0), (vu 0), (vs ⟨#[]⟩), (vi 0), (vi 0)] 93)) (x_alloc (Try.zeroValue93 _) rfl) ?_)))
      intro p4 w12 hn5
      obtain ⟨H4, hs, hb⟩ := hs.alloc hb hn5
      refine st_set (want0 rfl) (x_storeA (a := p4) (vs := [(vi aB), (vi aL), (vi aN), (vu aO), (vs aP), (vi aI), (vi aM)]) (by kernel_rfl) (by kernel_rfl) rfl (Try.sizeOf93 _) rfl (hb.canWs0 0 7 gZ (by kernel_rfl))) ?_
      intro w13 hn6
      have hsb : Hst w0 H3 w11 H4 w13 ∧ HB H4 w13 [(p4, [(vi aB), (vi aL), (vi aN), (vu aO), (vs aP), (vi aI), (vi aM)], 93), (p3, [(vi aA), (vi aE), (vi aF), (vu aJ), (vs aK), (vi aD), (vi aH)], 93), (p2, [(vi aC), (vi aQ), (vi aR), (vi aG)], 167)] := by
       rw [hn6]
       exact hb.store0 (i := 0) (vs := [(vi aB), (vi aL), (vi aN), (vu aO), (vs aP), (vi aI), (vi aM)]) hs gZ (by kernel_rfl) (by kernel_rfl)
      clear hs hb hn6
      obtain ⟨hs, hb⟩ := hsb
      refine q0 (vb r6) (wpL_nil (th_n (wpE_seq (wpE_seq (rg (q0 (vp (some p2)) (q2 (vi aC) (xl (Try.isAgg3 _) (hb.c0 2 (gS (gS gZ)))) (wpL_nil (th_n (wpE_block (wpE_seq ?_)))))))))))
      refine rg (q0 (vb (aC == 1)) (q0 (vb (aC == 1)) (wpL_nil (th_n ?_))))
      refine wpE_cond (t := (aC == 1)) (by kernel_rfl) (fun hc9 => ?_) (fun hc9 => ?_)
      ·replace h := h.1 hc9
       refine wpE_seq ?_
       refine wpE_via (fun ρ wJ => ∃ HJ : Nat → Prop, Hst w0 H3 w11 HJ wJ ∧ HB HJ wJ [(p4, [(vi aB), (vi aL), (vi aN), (vu aO), (vs aP), (vi aI), (vi aM)], 93), (p3, [(vi aA), (vi aE), (vi aF), (vu aJ), (vs aK), (vi aD), (vi aH)], 93), (p2, [(vi aC), (vi aQ), (vi aR), (vi aG)], 167)] ∧ Has ρ [(8, (vb ((aB == 4) && (aI == aG))))]) ?_ ?_
       ·skip
        refine rg (q0 (vp (some p4)) (q2 (vi aB) (xl (Try.isAgg3 _) (hb.c0 0 gZ)) (q0 (vb (aB == 4)) (q0 (vb (aB == 4)) ?_))))
        refine wpL_join 6 (fun ρ wJ => ∃ b4'0 : Bool, ∃ HJ : Nat → Prop, ((aB == 4) = b4'0) ∧ Hst w0 H3 w11 HJ wJ ∧ HB HJ wJ [(p4, [(vi aB), (vi aL), (vi aN), (vu aO), (vs aP), (vi aI), (vi aM)], 93), (p3, [(vi aA), (vi aE), (vi aF), (vu aJ), (vs aK), (vi aD), (vi aH)], 93), (p2, [(vi aC), (vi aQ), (vi aR), (vi aG)], 167)] ∧ Has ρ [(75, (vb (b4'0 && (aI == aG))))]) ?_ ?_
        ·clear hs hb
         rintro ρ w16 ⟨b4'0, H7, he0, hs, hb, hH⟩
         subst he0
         refine wpL_has hH ?_
         clear hH
         refine q0 (vb ((aB == 4) && (aI == aG))) (wpL_nil (th_n ?_))
         exact ⟨_, hs, hb, Has.mk (by kernel_rfl)⟩
        ·skip
         rcases Bool.eq_false_or_eq_true (aB == 4) with hg5 | hg5
         ·skip
          refine q1 (vp (some (p4.add 5))) (want1 rfl (yD 69 hg5)) (stp (v := (vi aI)) (want1 rfl (yD 69 hg5)) (xl (Try.isAgg41 _) (hb.c 0 5 gZ)) (q1 (vp (some (p2.add 3))) (want1 rfl (yD 69 hg5)) (stp (v := (vi aG)) (want1 rfl (yD 69 hg5)) (xl (Try.isAgg41 _) (hb.c 2 3 (gS (gS gZ)))) (q1 (vb (aI == aG)) (want1 rfl (yD 69 hg5)) (q2 (vb (aI == aG)) (xT hg5) (wpL_nil ?_))))))
          exact ⟨true, _, hg5, hs, hb, Has.mk (by kernel_rfl)⟩
         ·skip
          refine sk (yD 69 hg5) (sk (yD 69 hg5) (sk (yD 69 hg5) (sk (yD 69 hg5) (sk (yD 69 hg5) (q2 (vb false) (xF hg5) (wpL_nil ?_))))))
          exact ⟨false, _, hg5, hs, hb, Has.mk (by kernel_rfl)⟩
       ·clear hs hb
        rintro ρ w15 ⟨H6, hs, hb, hH⟩
        refine norm_has hH ?_
        clear hH
        refine th_n (wpE_ret (bl_r (th_r (bl_r (th_r ?_)))))
        replace h := h H6 w15 hs
        replace hs := hs.here
        refine res1 (.inl rfl) Try.results101 (v := (vb ((aB == 4) && (aI == aG)))) (by kernel_rfl) ?_
        exact ⟨((aB == 4) && (aI == aG)), rfl, h⟩
      ·replace h := h.2 hc9
       refine wpE_seq (rg (q0 (vb (aC == 2)) (q0 (vb (aC == 2)) (wpL_nil (th_n ?_)))))
       refine wpE_cond (t := (aC == 2)) (by kernel_rfl) (fun hc10 => ?_) (fun hc10 => ?_)
       ·replace h := h.1 hc10
        refine wpE_seq ?_
        refine wpE_via (fun ρ wJ => ∃ HJ : Nat → Prop, Hst w0 H3 w11 HJ wJ ∧ HB HJ wJ [(p4, [(vi aB), (vi aL), (vi aN), (vu aO), (vs aP), (vi aI), (vi aM)], 93), (p3, [(vi aA), (vi aE), (vi aF), (vu aJ), (vs aK), (vi aD), (vi aH)], 93), (p2, [(vi aC), (vi aQ), (vi aR), (vi aG)], 167)] ∧ Has ρ [(8, (vb ((aB == 4) && (aM == aG))))]) ?_ ?_
        ·skip
         refine rg (q0 (vp (some p4)) (q2 (vi aB) (xl (Try.isAgg3 _) (hb.c0 0 gZ)) (q0 (vb (aB == 4)) (q0 (vb (aB == 4)) ?_))))
         refine wpL_join 6 (fun ρ wJ => ∃ b7'0 : Bool, ∃ HJ : Nat → Prop, ((aB == 4) = b7'0) ∧ Hst w0 H3 w11 HJ wJ ∧ HB HJ wJ [(p4, [(vi aB), (vi aL), (vi aN), (vu aO), (vs aP), (vi aI), (vi aM)], 93), (p3, [(vi aA), (vi aE), (vi aF), (vu aJ), (vs aK), (vi aD), (vi aH)], 93), (p2, [(vi aC), (vi aQ), (vi aR), (vi aG)], 167)] ∧ Has ρ [(87, (vb (b7'0 && (aM == aG))))]) ?_ ?_
         ·clear hs hb
          rintro ρ w19 ⟨b7'0, H10, he0, hs, hb, hH⟩
          subst he0
          refine wpL_has hH ?_
          clear hH
          refine q0 (vb ((aB == 4) && (aM == aG))) (wpL_nil (th_n ?_))
          exact ⟨_, hs, hb, Has.mk (by kernel_rfl)⟩
         ·skip
          rcases Bool.eq_false_or_eq_true (aB == 4) with hg9 | hg9
          ·skip
           refine q1 (vp (some (p4.add 6))) (want1 rfl (yD 81 hg9)) (stp (v := (vi aM)) (want1 rfl (yD 81 hg9)) (xl (Try.isAgg41 _) (hb.c 0 6 gZ)) (q1 (vp (some (p2.add 3))) (want1 rfl (yD 81 hg9)) (stp (v := (vi aG)) (want1 rfl (yD 81 hg9)) (xl (Try.isAgg41 _) (hb.c 2 3 (gS (gS gZ)))) (q1 (vb (aM == aG)) (want1 rfl (yD 81 hg9)) (q2 (vb (aM == aG)) (xT hg9) (wpL_nil ?_))))))
           exact ⟨true, _, hg9, hs, hb, Has.mk (by kernel_rfl)⟩
          ·skip
           refine sk (yD 81 hg9) (sk (yD 81 hg9) (sk (yD 81 hg9) (sk (yD 81 hg9) (sk (yD 81 hg9) (q2 (vb false) (xF hg9) (wpL_nil ?_))))))
           exact ⟨false, _, hg9, hs, hb, Has.mk (by kernel_rfl)⟩
        ·clear hs hb
         rintro ρ w18 ⟨H9, hs, hb, hH⟩
         refine norm_has hH ?_
         clear hH
         refine th_n (wpE_ret (bl_r (th_r (bl_r (th_r ?_)))))
         replace h := h H9 w18 hs
         replace hs := hs.here
         refine res1 (.inl rfl) Try.results101 (v := (vb ((aB == 4) && (aM == aG)))) (by kernel_rfl) ?_
         exact ⟨((aB == 4) && (aM == aG)), rfl, h⟩
       ·replace h := h.2 hc10
        refine wpE_skip (bl_n (th_n (wpE_seq ?_)))
        refine wpE_via (fun ρ wJ => ∃ HJ : Nat → Prop, Hst w0 H3 w11 HJ wJ ∧ HB HJ wJ [(p4, [(vi aB), (vi aL), (vi aN), (vu aO), (vs aP), (vi aI), (vi aM)], 93), (p3, [(vi aA), (vi aE), (vi aF), (vu aJ), (vs aK), (vi aD), (vi aH)], 93), (p2, [(vi aC), (vi aQ), (vi aR), (vi aG)], 167)] ∧ Has ρ [(8, (vb ((s_ref08_shows aB) && (aI == aG))))]) ?_ ?_
        ·skip
         refine rg (q0 (vp (some p4)) (q2 (vi aB) (xl (Try.isAgg3 _) (hb.c0 0 gZ)) ?_))
         refine st_call (want0 rfl) (xc Try.call139) ((p_ref08_shows aB w13).mono ?_)
         rintro e w23 ⟨he, hE⟩
         refine ⟨(vb (s_ref08_shows aB)), he.trans (by kernel_rfl), ?_⟩
         replace hs := hs.pure hE
         replace hb := hb.pure hE
         clear hE he
         refine q0 (vb (s_ref08_shows aB)) ?_
         refine wpL_join 6 (fun ρ wJ => ∃ b10'0 : Bool, ∃ HJ : Nat → Prop, ((s_ref08_shows aB) = b10'0) ∧ Hst w0 H3 w11 HJ wJ ∧ HB HJ wJ [(p4, [(vi aB), (vi aL), (vi aN), (vu aO), (vs aP), (vi aI), (vi aM)], 93), (p3, [(vi aA), (vi aE), (vi aF), (vu aJ), (vs aK), (vi aD), (vi aH)], 93), (p2, [(vi aC), (vi aQ), (vi aR), (vi aG)], 167)] ∧ Has ρ [(97, (vb (b10'0 && (aI == aG))))]) ?_ ?_
         ·clear hs hb
          rintro ρ w24 ⟨b10'0, H13, he0, hs, hb, hH⟩
          subst he0
          refine wpL_has hH ?_
          clear hH
          refine q0 (vb ((s_ref08_shows aB) && (aI == aG))) (wpL_nil (th_n ?_))
          exact ⟨_, hs, hb, Has.mk (by kernel_rfl)⟩
         ·skip
          rcases Bool.eq_false_or_eq_true (s_ref08_shows aB) with hg13 | hg13
          ·skip
           refine q1 (vp (some (p4.add 5))) (want1 rfl (yD 91 hg13)) (stp (v := (vi aI)) (want1 rfl (yD 91 hg13)) (xl (Try.isAgg41 _) (hb.c 0 5 gZ)) (q1 (vp (some (p2.add 3))) (want1 rfl (yD 91 hg13)) (stp (v := (vi aG)) (want1 rfl (yD 91 hg13)) (xl (Try.isAgg41 _) (hb.c 2 3 (gS (gS gZ)))) (q1 (vb (aI == aG)) (want1 rfl (yD 91 hg13)) (q2 (vb (aI == aG)) (xT hg13) (wpL_nil ?_))))))
           exact ⟨true, _, hg13, hs, hb, Has.mk (by kernel_rfl)⟩
          ·skip
           refine sk (yD 91 hg13) (sk (yD 91 hg13) (sk (yD 91 hg13) (sk (yD 91 hg13) (sk (yD 91 hg13) (q2 (vb false) (xF hg13) (wpL_nil ?_))))))
           exact ⟨false, _, hg13, hs, hb, Has.mk (by kernel_rfl)⟩
        ·clear hs hb
         rintro ρ w22 ⟨H12, hs, hb, hH⟩
         refine norm_has hH ?_
         clear hH
         refine th_n (wpE_ret (bl_r (th_r ?_)))
         replace h := h H12 w22 hs
         replace hs := hs.here
         refine res1 (.inl rfl) Try.results101 (v := (vb ((s_ref08_shows aB) && (aI == aG)))) (by kernel_rfl) ?_
         exact ⟨((s_ref08_shows aB) && (aI == aG)), rfl, h⟩
    ·replace h := h.2 hc7
     refine wpE_seq (rg (q0 (vb (aC == 4)) (q0 (vb (aC == 4)) (wpL_nil (th_n ?_)))))
     refine wpE_cond (t := (aC == 4)) (by kernel_rfl) (fun hc11 => ?_) (fun hc11 => ?_)
     ·replace h := h.1 hc11
      refine wpE_seq (rg (q0 l1.v (q0 (vi i1) ?_)))
      replace h := h H3 w9 hs
      replace hs := hs.here
      refine st_call (want0 rfl) (xc Try.call142) (h.mono ?_)
      rintro e w25 ⟨r7, rfl, hk, h⟩
      refine ⟨_, rfl, ?_⟩
      obtain ⟨hs, hb⟩ := hk.hh hs hb
      refine q0 (vb r7) ?_
      refine wpL_join 14 (fun ρ wJ => ∃ b13'0 : Bool, ∃ HJ : Nat → Prop, (r7 = b13'0) ∧ Hst w0 H3 w25 HJ wJ ∧ HB HJ wJ [(p3, [(vi aA), (vi aE), (vi aF), (vu aJ), (vs aK), (vi aD), (vi aH)], 93), (p2, [(vi aC), (vi aQ), (vi aR), (vi aG)], 167)] ∧ Has ρ [(117, (vb (b13'0 && (((aA == 1) || (aA == 2)) || (aA == 3)))))]) ?_ ?_
      ·clear hs hb
       rintro ρ w28 ⟨b13'0, H16, he0, hs, hb, hH⟩
       subst he0
       refine wpL_has hH ?_
       clear hH
       refine q0 (vb (r7 && (((aA == 1) || (aA == 2)) || (aA == 3)))) (wpL_nil (th_n (wpE_ret (bl_r (th_r ?_)))))
       replace h := h H16 w28 hs
       replace hs := hs.here
       refine res1 (.inl rfl) Try.results101 (v := (vb (r7 && (((aA == 1) || (aA == 2)) || (aA == 3))))) (by kernel_rfl) ?_
       exact ⟨(r7 && (((aA == 1) || (aA == 2)) || (aA == 3))), rfl, h⟩
      ·skip
       rcases Bool.eq_false_or_eq_true r7 with hg19 | hg19
       ·skip
        refine q1 (vp (some p3)) (want1 rfl (yD 103 hg19)) (stp (v := (vi aA)) (want1 rfl (yD 103 hg19)) (xl (Try.isAgg3 _) (hb.c0 0 gZ)) (q1 (vb (aA == 1)) (want1 rfl (yD 103 hg19)) (q1 (vb (aA == 1)) (want1 rfl (yD 103 hg19)) ?_)))
        refine wpL_join 4 (fun ρ wJ => ∃ b14'0 : Bool, ∃ HJ : Nat → Prop, ((aA == 1) = b14'0) ∧ Hst w0 H3 w25 HJ wJ ∧ HB HJ wJ [(p3, [(vi aA), (vi aE), (vi aF), (vu aJ), (vs aK), (vi aD), (vi aH)], 93), (p2, [(vi aC), (vi aQ), (vi aR), (vi aG)], 167)] ∧ Has ρ [(10, (vp (some p3))), (103, (vb r7)), (111, (vb (b14'0 || (aA == 2))))]) ?_ ?_
        ·clear hs hb
         rintro ρ w29 ⟨b14'0, H17, he0, hs, hb, hH⟩
         subst he0
         refine wpL_has hH ?_
         clear hH
         refine q1 (vb ((aA == 1) || (aA == 2))) (want1 rfl (yD 103 hg19)) ?_
         refine wpL_join 4 (fun ρ wJ => ∃ b15'0 : Bool, ∃ HJ : Nat → Prop, (((aA == 1) || (aA == 2)) = b15'0) ∧ Hst w0 H3 w25 HJ wJ ∧ HB HJ wJ [(p3, [(vi aA), (vi aE), (vi aF), (vu aJ), (vs aK), (vi aD), (vi aH)], 93), (p2, [(vi aC), (vi aQ), (vi aR), (vi aG)], 167)] ∧ Has ρ [(103, (vb r7)), (116, (vb (b15'0 || (aA == 3))))]) ?_ ?_
         ·clear hs hb
          rintro ρ w30 ⟨b15'0, H18, he0, hs, hb, hH⟩
          subst he0
          refine wpL_has hH ?_
          clear hH
          refine q2 (vb (((aA == 1) || (aA == 2)) || (aA == 3))) (xT hg19) (wpL_nil ?_)
          exact ⟨true, _, hg19, hs, hb, Has.mk (by kernel_rfl)⟩
         ·skip
          rcases Bool.eq_false_or_eq_true ((aA == 1) || (aA == 2)) with hg23 | hg23
          ·skip
           refine sk (yD 112 hg23) (sk (yD 112 hg23) (sk (yD 112 hg23) (stp (v := (vb true)) (want1 rfl (yD 103 hg19)) (xT hg23) (wpL_nil ?_))))
           exact ⟨true, _, hg23, hs, hb, Has.mk (by kernel_rfl)⟩
          ·skip
           refine q1 (vp (some p3)) (want1 rfl (yD 112 hg23)) (stp (v := (vi aA)) (want1 rfl (yD 112 hg23)) (xl (Try.isAgg3 _) (hb.c0 0 gZ)) (q1 (vb (aA == 3)) (want1 rfl (yD 112 hg23)) (stp (v := (vb (aA == 3))) (want1 rfl (yD 103 hg19)) (xF hg23) (wpL_nil ?_))))
           exact ⟨false, _, hg23, hs, hb, Has.mk (by kernel_rfl)⟩
        ·skip
         rcases Bool.eq_false_or_eq_true (aA == 1) with hg21 | hg21
         ·skip
          refine sk (yD 107 hg21) (sk (yD 107 hg21) (sk (yD 107 hg21) (stp (v := (vb true)) (want1 rfl (yD 103 hg19)) (xT hg21) (wpL_nil ?_))))
          exact ⟨true, _, hg21, hs, hb, Has.mk (by kernel_rfl)⟩
         ·skip
          refine q1 (vp (some p3)) (want1 rfl (yD 107 hg21)) (stp (v := (vi aA)) (want1 rfl (yD 107 hg21)) (xl (Try.isAgg3 _) (hb.c0 0 gZ)) (q1 (vb (aA == 2)) (want1 rfl (yD 107 hg21)) (stp (v := (vb (aA == 2))) (want1 rfl (yD 103 hg19)) (xF hg21) (wpL_nil ?_))))
          exact ⟨false, _, hg21, hs, hb, Has.mk (by kernel_rfl)⟩
       ·skip
        refine sk (yD 103 hg19) (sk (yD 103 hg19) (sk (yD 103 hg19) (sk (yD 103 hg19) (st_not (by kernel_rfl) (st_not (by kernel_rfl) (st_not (by kernel_rfl) (sk (yD 103 hg19) (sk (yD 103 hg19) (st_not (by kernel_rfl) (st_not (by kernel_rfl) (st_not (by kernel_rfl) ?_)))))))))))
        refine sk (yD 103 hg19) (q2 (vb false) (xF hg19) (wpL_nil ?_))
        exact ⟨false, _, hg19, hs, hb, Has.mk (by kernel_rfl)⟩
     ·replace h := h.2 hc11
      refine wpE_seq (rg (q0 (vb (aC == 5)) (q0 (vb (aC == 5)) (wpL_nil (th_n ?_)))))
      refine wpE_cond (t := (aC == 5)) (by kernel_rfl) (fun hc12 => ?_) (fun hc12 => ?_)
      ·replace h := h.1 hc12
       refine wpE_seq (rg (q0 (vp p1) (q0 l1.v (q0 (vi i1) ?_))))
       replace h := h H3 w9 hs
       replace hs := hs.here
       refine st_call (want0 rfl) (xc Try.call143) (h.mono ?_)
       rintro e w31 ⟨r8, rfl, hk, h⟩
       refine ⟨_, rfl, ?_⟩
       obtain ⟨hs, hb⟩ := hk.hh hs hb
       refine q0 (vb r8) (wpL_nil (th_n (wpE_ret (bl_r (th_r (res1 (.inl rfl) Try.results101 (v := (vb r8)) (by kernel_rfl) ?_))))))
       exact ⟨r8, rfl, h⟩
      ·replace h := h.2 hc12
       refine wpE_skip (bl_n (th_n (wpE_seq (rg (q0 (vb false) (wpL_nil (th_n (wpE_ret ?_))))))))
       replace h := h H3 w9 hs
       replace hs := hs.here
       refine res1 (.inl rfl) Try.results101 (v := (vb false)) (by kernel_rfl) ?_
       exact ⟨false, rfl, h⟩
def m_ref08_Check_l1 (p1 : Option Addr) (given1 l1 : Sl) (goal1 i1 : Int) (wl1 : World) (Kc1 : Int → World → Prop) (K : Int → Int → World → Prop) : Prop :=
 Br (decide (i1 < (l1.len : Int)))
  (Calls Try.prog 101 #[(vp p1), given1.v, l1.v, (vi i1)] wl1 (fun e w1 => ∃ r1 : Bool, e = .returned (vb r1) ∧ 
   Br (!r1)
    (K 80 i1 w1)
    (Kc1 (IntKind.i64.wrap (i1 + 1)) w1)))
  (Br (((l1.len : Int) : Int) == 0)
   (K 81 (l1.len : Int) wl1)
   (∃ a1 : Addr, At l1 (IntKind.i64.wrap ((l1.len : Int) - 1)) 4 a1 ∧
   ∃ v1 : Int, wl1.cell? (a1.add 3) = some (vi v1) ∧
   Br (v1 != goal1)
    (K 81 (l1.len : Int) wl1)
    (K 0 0 wl1)))
def m_ref08_Check (p1 : Option Addr) (given1 l1 : Sl) (goal1 : Int) (w0 : World) (K : Int → Int → World → Prop) : Prop :=
 ∃ (I1 : Int → World → Prop) (mu1 : Int → World → Nat), I1 0 w0 ∧
  ∀ (i1 : Int) (wl1 : World), I1 i1 wl1 → m_ref08_Check_l1 p1 given1 l1 goal1 i1 wl1 (fun y'0 w' => I1 y'0 w' ∧ mu1 y'0 w' < mu1 i1 wl1) K
theorem w_ref08_Check (p1 : Option Addr) (given1 l1 : Sl) (goal1 : Int) (w0 : World) (K : Int → Int → World → Prop) (h : m_ref08_Check p1 given1 l1 goal1 w0 K) :
  Calls Try.prog 42 #[(vp p1), given1.v, l1.v, (vi goal1)] w0 (fun e w' => ∃ r2 r3 : Int, e = .returned (.tuple #[(vi r2), (vi r3)]) ∧ K r2 r3 w') := by
 unfold m_ref08_Check at h
 refine calls_of_wpE (args := [(vp p1), given1.v, l1.v, (vi goal1)]) Try.func42 rfl Try.ntmps42 (Nat.le_of_ble_eq_true rfl) (wpE_seq (rg (q0 (vi 0) (q0 (vi 0) (wpL_nil (th_n (wpE_seq (wpE_seq (rg (q0 (vi 0) (wpL_nil ?_)))))))))))
 refine th_n (wpE_block ?_)
 obtain ⟨I1, mu1, h0, hr⟩ := h
 refine wpE_loop (σ := Int × World) (fun s ρ w => w = s.2 ∧ Has ρ [(0, (vp p1)), (1, given1.v), (2, l1.v), (3, (vi goal1)), (10, (vi s.1))] ∧ I1 s.1 s.2) (fun s => mu1 s.1 s.2) (0, w0) ⟨rfl, Has.mk (by kernel_rfl), h0⟩ ?_
 rintro ⟨i1, wl1⟩ ρ w ⟨hw, hH, hI⟩
 obtain rfl : wl1 = w := (show w = wl1 from hw).symm
 replace hH : Has ρ [(0, (vp p1)), (1, given1.v), (2, l1.v), (3, (vi goal1)), (10, (vi i1))] := hH
 have h := hr i1 wl1 hI
 clear hr h0
 unfold m_ref08_Check_l1 at h
 refine wpE_has hH ?_
 clear hH hI
 refine wpE_seq (wpE_seq (rg (q0 (vi i1) (q0 l1.v (q0 (vi (l1.len : Int)) (q0 (vb (decide (i1 < (l1.len : Int)))) (wpL_nil (th_n ?_))))))))
 refine wpE_cond (t := (decide (i1 < (l1.len : Int)))) (by kernel_rfl) (fun hc1 => ?_) (fun hc1 => ?_)
 ·replace h := h.1 hc1
  refine wpE_skip (th_n (wpE_seq (wpE_block (wpE_seq (rg (q0 (vp p1) (q0 given1.v (q0 l1.v (q0 (vi i1) ?_)))))))))
  refine st_call (want0 rfl) (xc Try.call101) (h.mono ?_)
  rintro e w1 ⟨r1, rfl, h⟩
  refine ⟨_, rfl, ?_⟩
  refine q0 (vb (!r1)) (wpL_nil (th_n ?_))
  refine wpE_cond (t := (!r1)) (by kernel_rfl) (fun hc2 => ?_) (fun hc2 => ?_)
  ·replace h := h.1 hc2
   refine wpE_seq (rg (q0 (vi i1) (q0 (vi 80) (q0 (vi i1) (wpL_nil (th_n (wpE_ret (bl_r (th_r (th_r (bl_r ?_)))))))))))
   refine th_r (res2 (.inl rfl) Try.results42 (v := (vi 80)) (by kernel_rfl) (v' := (vi i1)) (by kernel_rfl) ?_)
   exact ⟨80, i1, rfl, h⟩
  ·replace h := h.2 hc2
   refine wpE_skip (bl_n (th_n (rg (q0 (vi i1) (q0 (vi (IntKind.i64.wrap (i1 + 1))) (q0 (vi (IntKind.i64.wrap (i1 + 1))) (wpL_nil (th_n ?_))))))))
   exact ⟨((IntKind.i64.wrap (i1 + 1)), w1), ⟨rfl, Has.mk (by kernel_rfl), h.1⟩, h.2⟩
 ·replace h := h.2 hc1
  refine wpE_exit (th_x (th_x (bl_eq (th_n (wpE_seq (wpE_seq (rg (q0 l1.v (q0 (vi (l1.len : Int)) (q0 (vb (((l1.len : Int) : Int) == 0)) (q0 (vb (((l1.len : Int) : Int) == 0)) ?_)))))))))))
  rcases Bool.eq_false_or_eq_true (((l1.len : Int) : Int) == 0) with hg1 | hg1
  ·replace h := h.1 hg1
   refine sk (yD 27 hg1) (sk (yD 27 hg1) (sk (yD 27 hg1) (sk (yD 27 hg1) (sk (yD 27 hg1) (sk (yD 27 hg1) (sk (yD 27 hg1) (sk (yD 27 hg1) (sk (yD 27 hg1) (q2 (vb true) (xT hg1) (wpL_nil (th_n ?_)))))))))))
   refine wpE_condT (by kernel_rfl) (wpE_seq (rg (q0 l1.v (q0 (vi (l1.len : Int)) (q0 (vi 81) (q0 (vi (l1.len : Int)) (wpL_nil (th_n (wpE_ret (th_r (res2 (.inl rfl) Try.results42 (v := (vi 81)) (by kernel_rfl) (v' := (vi (l1.len : Int))) (by kernel_rfl) ?_)))))))))))
   exact ⟨81, (l1.len : Int), rfl, h⟩
  ·replace h := h.2 hg1
   refine q1 l1.v (want1 rfl (yD 27 hg1)) (q1 l1.v (want1 rfl (yD 27 hg1)) (q1 (vi (l1.len : Int)) (want1 rfl (yD 27 hg1)) (q1 (vi (IntKind.i64.wrap ((l1.len : Int) - 1))) (want1 rfl (yD 27 hg1)) ?_)))
   obtain ⟨a1, hv2, h⟩ := h
   refine stp (v := (vp (some a1))) (want1 rfl (yD 27 hg1)) (x_indexAddr (s := l1) (k := .i64) (i := (IntKind.i64.wrap ((l1.len : Int) - 1))) (by kernel_rfl) (by kernel_rfl) (Try.runUnderlying76 _) (Try.sizeOf167 _) hv2) (q1 (vp (some (a1.add 3))) (want1 rfl (yD 27 hg1)) ?_)
   obtain ⟨v1, hv1, h⟩ := h
   refine stp (v := (vi v1)) (want1 rfl (yD 27 hg1)) (xl (Try.isAgg41 _) hv1) (q1 (vi goal1) (want1 rfl (yD 27 hg1)) (q1 (vb (v1 != goal1)) (want1 rfl (yD 27 hg1)) (q2 (vb (v1 != goal1)) (xF hg1) (wpL_nil (th_n ?_)))))
   refine wpE_cond (t := (v1 != goal1)) (by kernel_rfl) (fun hc3 => ?_) (fun hc3 => ?_)
   ·replace h := h.1 hc3
    refine wpE_seq (rg (q0 l1.v (q0 (vi (l1.len : Int)) (q0 (vi 81) (q0 (vi (l1.len : Int)) (wpL_nil (th_n (wpE_ret (th_r (res2 (.inl rfl) Try.results42 (v := (vi 81)) (by kernel_rfl) (v' := (vi (l1.len : Int))) (by kernel_rfl) ?_))))))))))
    exact ⟨81, (l1.len : Int), rfl, h⟩
   ·replace h := h.2 hc3
    refine wpE_skip (th_n (wpE_seq (rg (q0 (vi 0) (q0 (vi 0) (wpL_nil (th_n (wpE_ret (res2 (.inl rfl) Try.results42 (v := (vi 0)) (by kernel_rfl) (v' := (vi 0)) (by kernel_rfl) ?_)))))))))
    exact ⟨0, 0, rfl, h⟩
end Go.Proofs
end
section
open Go Go.SE
namespace Go.Proofs
set_option maxRecDepth 100000
set_option maxHeartbeats 4000000
attribute [local irreducible] wpL wpX opE wpE Calls
def m_law08_wide_l1 (l1 : Sl) (n1 i1 : Int) (wl1 : World) (Kc1 : Int → Int → World → Prop) (K : Bool → World → Prop) : Prop :=
 Br ((decide (i1 < (l1.len : Int))) && (decide (i1 ≤ 12)))
  (∃ a1 : Addr, At l1 i1 6 a1 ∧
  ∃ aL aM : Int, ∃ aN aO : Int, ∃ aP : ByteArray, ∃ aQ : Sl, Row wl1 a1 [(vi aL), (vi aM), (vi aN), (vu aO), (vs aP), aQ.v] ∧
  Calls Try.prog 71 #[(.agg #[(vi aL), (vi aM), (vi aN), (vu aO), (vs aP), aQ.v]), (vi 400)] wl1 (fun e w2 => ∃ r1 : Int, e = .returned (vi r1) ∧ 
   Br (decide ((IntKind.i64.wrap (n1 + r1)) ≥ 400))
    (K true w2)
    (Kc1 (IntKind.i64.wrap (n1 + r1)) (IntKind.i64.wrap (i1 + 1)) w2)))
  (K (decide ((l1.len : Int) > 12)) wl1)
def m_law08_wide (l1 : Sl) (w0 : World) (K : Bool → World → Prop) : Prop :=
 ∃ (I1 : Int → Int → World → Prop) (mu1 : Int → Int → World → Nat), I1 0 0 w0 ∧
  ∀ (n1 i1 : Int) (wl1 : World), I1 n1 i1 wl1 → m_law08_wide_l1 l1 n1 i1 wl1 (fun y'0 y'1 w' => I1 y'0 y'1 w' ∧ mu1 y'0 y'1 w' < mu1 n1 i1 wl1) K
theorem w_law08_wide (l1 : Sl) (w0 : World) (K : Bool → World → Prop) (h : m_law08_wide l1 w0 K) :
  Calls Try.prog 33 #[l1.v] w0 (fun e w' => ∃ r2 : Bool, e = .returned (vb r2) ∧ K r2 w') := by
 unfold m_law08_wide at h
 refine calls_of_wpE (args := [l1.v]) Try.func33 rfl Try.ntmps33 (Nat.le_of_ble_eq_true rfl) (wpE_seq (rg (q0 (vb false) (wpL_nil (th_n (wpE_seq (rg (q0 (vi 0) (wpL_nil (th_n (wpE_seq ?_)))))))))))
 refine wpE_seq (rg (q0 (vi 0) (wpL_nil (th_n (wpE_block ?_)))))
 obtain ⟨I1, mu1, h0, hr⟩ := h
 refine wpE_loop (σ := Int × Int × World) (fun s ρ w => w = s.2.2 ∧ Has ρ [(0, l1.v), (3, (vi s.1)), (4, (vi s.2.1))] ∧ I1 s.1 s.2.1 s.2.2) (fun s => mu1 s.1 s.2.1 s.2.2) (0, 0, w0) ⟨rfl, Has.mk (by kernel_rfl), h0⟩ ?_
 rintro ⟨n1, i1, wl1⟩ ρ w ⟨hw, hH, hI⟩
 obtain rfl : wl1 = w := (show w = wl1 from hw).symm
 replace hH : Has ρ [(0, l1.v), (3, (vi n1)), (4, (vi i1))] := hH
 have h := hr n1 i1 wl1 hI
 clear hr h0
 unfold m_law08_wide_l1 at h
 refine wpE_has hH ?_
 clear hH hI
 refine wpE_seq (wpE_seq ?_)
 refine wpE_via (fun ρ wJ => ∃ b1'0 : Bool, ((decide (i1 < (l1.len : Int))) = b1'0) ∧ wl1 = wJ ∧ Has ρ [(0, l1.v), (3, (vi n1)), (4, (vi i1)), (12, (vb (b1'0 && (decide (i1 ≤ 12)))))]) ?_ ?_
 ·skip
  refine rg (q0 (vi i1) (q0 l1.v (q0 (vi (l1.len : Int)) (q0 (vb (decide (i1 < (l1.len : Int)))) (q0 (vb (decide (i1 < (l1.len : Int)))) ?_)))))
  rcases Bool.eq_false_or_eq_true (decide (i1 < (l1.len : Int))) with hg2 | hg2
  ·skip
   refine q1 (vi i1) (want1 rfl (yD 9 hg2)) (q1 (vb (decide (i1 ≤ 12))) (want1 rfl (yD 9 hg2)) (q2 (vb (decide (i1 ≤ 12))) (xT hg2) (wpL_nil (th_n ?_))))
   exact ⟨true, hg2, rfl, Has.mk (by kernel_rfl)⟩
  ·skip
   refine sk (yD 9 hg2) (sk (yD 9 hg2) (q2 (vb false) (xF hg2) (wpL_nil (th_n ?_))))
   exact ⟨false, hg2, rfl, Has.mk (by kernel_rfl)⟩
 ·rintro ρ w1 ⟨b1'0, he0, hw, hH⟩
  subst he0
  subst hw
  refine norm_has hH ?_
  clear hH
  refine th_n ?_
  refine wpE_cond (t := ((decide (i1 < (l1.len : Int))) && (decide (i1 ≤ 12)))) (by kernel_rfl) (fun hc1 => ?_) (fun hc1 => ?_)
  ·replace h := h.1 hc1
   refine wpE_skip (th_n (wpE_seq (wpE_block (wpE_seq (rg (q0 (vi n1) (q0 l1.v (q0 (vi i1) ?_))))))))
   obtain ⟨a1, hv2, h⟩ := h
   refine q2 (vp (some a1)) (x_indexAddr (s := l1) (k := .i64) (i := i1) (by kernel_rfl) (by kernel_rfl) (Try.runUnderlying22 _) (Try.sizeOf116 _) hv2) ?_
   obtain ⟨aL, aM, aN, aO, aP, aQ, hv1, h⟩ := h
   refine q2 (.agg #[(vi aL), (vi aM), (vi aN), (vu aO), (vs aP), aQ.v]) (x_loadA (a := a1) (vs := [(vi aL), (vi aM), (vi aN), (vu aO), (vs aP), aQ.v]) (by kernel_rfl) (Try.isAgg116 _) (Try.sizeOf116 _) rfl hv1) ?_
   refine st_call (want0 rfl) (xc Try.call71) (h.mono ?_)
   rintro e w2 ⟨r1, rfl, h⟩
   refine ⟨_, rfl, ?_⟩
   refine q0 (vi (IntKind.i64.wrap (n1 + r1))) (q0 (vi (IntKind.i64.wrap (n1 + r1))) (wpL_nil (th_n (wpE_seq (rg (q0 (vi (IntKind.i64.wrap (n1 + r1))) (q0 (vb (decide ((IntKind.i64.wrap (n1 + r1)) ≥ 400))) (wpL_nil (th_n ?_)))))))))
   refine wpE_cond (t := (decide ((IntKind.i64.wrap (n1 + r1)) ≥ 400))) (by kernel_rfl) (fun hc2 => ?_) (fun hc2 => ?_)
   ·replace h := h.1 hc2
    refine wpE_seq (rg (q0 (vb true) (wpL_nil (th_n (wpE_ret (bl_r (th_r (th_r (bl_r (th_r (res1 (.inl rfl) Try.results33 (v := (vb true)) (by kernel_rfl) ?_)))))))))))
    exact ⟨true, rfl, h⟩
   ·replace h := h.2 hc2
    refine wpE_skip (bl_n (th_n (rg (q0 (vi i1) (q0 (vi (IntKind.i64.wrap (i1 + 1))) (q0 (vi (IntKind.i64.wrap (i1 + 1))) (wpL_nil (th_n ?_))))))))
    exact ⟨((IntKind.i64.wrap (n1 + r1)), (IntKind.i64.wrap (i1 + 1)), w2), ⟨rfl, Has.mk (by kernel_rfl), h.1⟩, h.2⟩
  ·replace h := h.2 hc1
   refine wpE_exit (th_x (th_x (bl_eq (th_n (wpE_seq (rg (q0 l1.v (q0 (vi (l1.len : Int)) (q0 (vb (decide ((l1.len : Int) > 12))) (q0 (vb (decide ((l1.len : Int) > 12))) (wpL_nil ?_)))))))))))
   refine th_n (wpE_ret (res1 (.inl rfl) Try.results33 (v := (vb (decide ((l1.len : Int) > 12)))) (by kernel_rfl) ?_))
   exact ⟨(decide ((l1.len : Int) > 12)), rfl, h⟩
def s_law08_num (e1 : Int) : Int :=
 e1
theorem pw_law08_num (e1 : Int) (w0 : World) :
  Calls Try.prog 43 #[(vi e1)] w0 (fun e w' => (e = .returned (vi e1)) ∧ Pure w0 w') := by
 refine calls_of_wpE (args := [(vi e1)]) Try.func43 rfl Try.ntmps43 (Nat.le_of_ble_eq_true rfl) (wpE_seq (rg (q0 (vi 0) (wpL_nil (th_n (wpE_seq (rg (q0 (vi e1) (q0 (vi e1) (wpL_nil (th_n ?_)))))))))))
 refine wpE_ret (res1 (.inl rfl) Try.results43 (v := (vi e1)) (by kernel_rfl) ?_)
 exact ⟨by kernel_rfl, Ext.refl _⟩
theorem p_law08_num (e1 : Int) (w0 : World) : Calls Try.prog 43 #[(.int .i64 e1)] w0 (fun e w' => e = .returned (.int .i64 (s_law08_num e1)) ∧ Pure w0 w') := pw_law08_num e1 w0
def m_law08_live_j4 (r2 : Option Addr) (x4 : Bool) (w0 : World) (H : Nat → Prop) (w : World) (K : Bool → World → Prop) : Prop :=
 Br x4
  (Calls Try.prog 37 #[(vp r2), (vi 99)] w (fun e w29 => ∃ r26 : Int, e = .returned (vi r26) ∧ 
   Kept H w w29 ∧
   ∀ (w30 : World), Hst w0 H w29 H w30 →
   K (r26 == 51) w30))
  (K false w)
def m_law08_live_j3 (r2 : Option Addr) (r25 : Int) (x3 : Bool) (w0 : World) (H : Nat → Prop) (w : World) (K : Bool → World → Prop) : Prop :=
 Br (x3 && (r25 == 0))
  (∀ (H7 : Nat → Prop) (w28 : World), Hst w0 H w H7 w28 →
  Calls Try.prog 90 #[(vp r2)] w28 (fun e w31 => ∃ r27 : Sl, e = .returned r27.v ∧ 
   Kept H7 w28 w31 ∧
   m_law08_live_j4 r2 (((r27.len : Int) : Int) == 2) w0 H7 w31 K))
  (∀ (H7 : Nat → Prop) (w28 : World), Hst w0 H w H7 w28 →
  m_law08_live_j4 r2 false w0 H7 w28 K)
def m_law08_live_j2 (r2 : Option Addr) (r3 r25 : Int) (x2 : Bool) (w0 : World) (H : Nat → Prop) (w : World) (K : Bool → World → Prop) : Prop :=
 Br x2
  (Calls Try.prog 48 #[(vp r2), (vi r3)] w (fun e w32 => ∃ r28 : Bool, e = .returned (vb r28) ∧ 
   Kept H w w32 ∧
   m_law08_live_j3 r2 r25 r28 w0 H w32 K))
  (m_law08_live_j3 r2 r25 false w0 H w K)
def m_law08_live_j1 (r2 : Option Addr) (r3 r15 r25 : Int) (x1 : Bool) (w0 : World) (H : Nat → Prop) (w : World) (K : Bool → World → Prop) : Prop :=
 Br x1
  (Calls Try.prog 48 #[(vp r2), (vi r15)] w (fun e w33 => ∃ r29 : Bool, e = .returned (vb r29) ∧ 
   Kept H w w33 ∧
   m_law08_live_j2 r2 r3 r25 (!r29) w0 H w33 K))
  (m_law08_live_j2 r2 r3 r25 false w0 H w K)
def m_law08_live  (w0 : World) (K : Bool → World → Prop) : Prop :=
 Calls Try.prog 72 #[] w0 (fun e w1 => ∃ r1 : Option Addr, e = .returned (vp r1) ∧ 
  Kept None w0 w1 ∧
  Calls Try.prog 36 #[(vp r1)] w1 (fun e w2 => ∃ r2 : Option Addr, e = .returned (vp r2) ∧ 
   Kept None w1 w2 ∧
   Br ((Option.isNone r1) || (Option.isNone r2))
    (∀ (H1 : Nat → Prop) (w3 : World), Hst w0 None w2 H1 w3 →
    K false w3)
    (∀ (H1 : Nat → Prop) (w3 : World), Hst w0 None w2 H1 w3 →
    Calls Try.prog 84 #[(vp r1), (vu 1)] w3 (fun e w4 => ∃ r3 r4 : Int, e = .returned (.tuple #[(vi r3), (vi r4)]) ∧ 
     Kept H1 w3 w4 ∧
     Calls Try.prog 85 #[(vp r1), (vi 2)] w4 (fun e w5 => ∃ r5 r6 : Int, e = .returned (.tuple #[(vi r5), (vi r6)]) ∧ 
      Kept H1 w4 w5 ∧
      Calls Try.prog 86 #[(vp r1), (vi r3), (vi r5)] w5 (fun e w6 => ∃ r7 r8 : Int, e = .returned (.tuple #[(vi r7), (vi r8)]) ∧ 
       Kept H1 w5 w6 ∧
       Calls Try.prog 87 #[(vp r1), (vi 0), (vi r7)] w6 (fun e w7 => ∃ r9 r10 : Int, e = .returned (.tuple #[(vi r9), (vi r10)]) ∧ 
        Kept H1 w6 w7 ∧
        Calls Try.prog 88 #[(vp r1), (vi r3)] w7 (fun e w8 => ∃ r11 r12 : Int, e = .returned (.tuple #[(vi r11), (vi r12)]) ∧ 
         Kept H1 w7 w8 ∧
         Calls Try.prog 89 #[(vp r1), (vi 0)] w8 (fun e w9 => ∃ r13 r14 : Int, e = .returned (.tuple #[(vi r13), (vi r14)]) ∧ 
          Kept H1 w8 w9 ∧
          Calls Try.prog 87 #[(vp r1), (vi 0), (vi r3)] w9 (fun e w10 => ∃ r15 r16 : Int, e = .returned (.tuple #[(vi r15), (vi r16)]) ∧ 
           Kept H1 w9 w10 ∧
           Calls Try.prog 37 #[(vp r2), (vi r9)] w10 (fun e w11 => ∃ r17 : Int, e = .returned (vi r17) ∧ 
            Kept H1 w10 w11 ∧
            Calls Try.prog 40 #[(vp r2), (vi r11)] w11 (fun e w12 => ∃ r18 : Sl, ∃ r19 : Bool, e = .returned (.tuple #[r18.v, (vb r19)]) ∧ 
             Kept H1 w11 w12 ∧
             ∀ (p1 : Addr) (w13 : World), New w12 (.cells #[(vi r9)] 41) p1 w13 →
             Calls Try.prog 41 #[(vp r1), (Sl.mk (some p1) 1 1).v, r18.v, (vi r11)] w13 (fun e w14 => ∃ r20 r21 : Int, e = .returned (.tuple #[(vi r20), (vi r21)]) ∧ 
              Kept H1 w13 w14 ∧
              Calls Try.prog 46 #[(vp r2), (vi r15)] w14 (fun e w15 => ∃ r22 : Bool, e = .returned (vb r22) ∧ 
               Kept H1 w14 w15 ∧
               Calls Try.prog 37 #[(vp r2), (vi r13)] w15 (fun e w16 => ∃ r23 : Int, e = .returned (vi r23) ∧ 
                Kept H1 w15 w16 ∧
                Calls Try.prog 41 #[(vp r1), Sl.nil.v, Sl.nil.v, (vi r11)] w16 (fun e w17 => ∃ r24 r25 : Int, e = .returned (.tuple #[(vi r24), (vi r25)]) ∧ 
                 Kept H1 w16 w17 ∧
                 ∀ y1 : Bool, y1 = (((((r17 == 0) && (r23 == 0)) && (decide ((r18.len : Int) > 0))) && r19) && (r20 == 0)) →
                 Br (y1 && (!r22))
                  (∀ (H6 : Nat → Prop) (w27 : World), Hst w0 H1 w17 H6 w27 →
                  Calls Try.prog 46 #[(vp r2), (vi r15)] w27 (fun e w34 => ∃ r30 : Bool, e = .returned (vb r30) ∧ 
                   Kept H6 w27 w34 ∧
                   m_law08_live_j1 r2 r3 r15 r25 r30 w0 H6 w34 K))
                  (∀ (H6 : Nat → Prop) (w27 : World), Hst w0 H1 w17 H6 w27 →
                  m_law08_live_j1 r2 r3 r15 r25 false w0 H6 w27 K)))))))))))))))))
theorem w_law08_live  (w0 : World) (K : Bool → World → Prop) (h : m_law08_live  w0 K) :
  Calls Try.prog 34 #[] w0 (fun e w' => ∃ r31 : Bool, e = .returned (vb r31) ∧ K r31 w') := by
 unfold m_law08_live at h
 refine calls_of_wpE (args := []) Try.func34 rfl Try.ntmps34 (Nat.le_of_ble_eq_true rfl) ?_
 have hs := Hst.start w0
 have hb := HB.nil None w0
 refine wpE_seq (rg (q0 (vb false) (wpL_nil (th_n (wpE_seq (rg ?_))))))
 refine st_call (want0 rfl) (xc Try.call72) (h.mono ?_)
 rintro e w1 ⟨r1, rfl, hk, h⟩
 refine ⟨_, rfl, ?_⟩
 obtain ⟨hs, hb⟩ := hk.hh hs hb
 refine q0 (vp r1) (wpL_nil (th_n (wpE_seq (rg (q0 (vp r1) ?_)))))
 refine st_call (want0 rfl) (xc Try.call36) (h.mono ?_)
 rintro e w2 ⟨r2, rfl, hk, h⟩
 refine ⟨_, rfl, ?_⟩
 obtain ⟨hs, hb⟩ := hk.hh hs hb
 refine q0 (vp r2) (wpL_nil (th_n (wpE_seq (wpE_seq ?_))))
 refine wpE_via (fun ρ wJ => ∃ b1'0 : Bool, ∃ HJ : Nat → Prop, ((Option.isNone r1) = b1'0) ∧ Hst w0 None w2 HJ wJ ∧ HB HJ wJ [] ∧ Has ρ [(1, (vp r1)), (2, (vp r2)), (34, (vb (b1'0 || (Option.isNone r2))))]) ?_ ?_
 ·skip
  refine rg (q0 (vp r1) (q2 (vb (Option.isNone r1)) (x_ptreq (by kernel_rfl) rfl Try.underlying25) (q0 (vb (Option.isNone r1)) ?_)))
  rcases Bool.eq_false_or_eq_true (Option.isNone r1) with hg2 | hg2
  ·skip
   refine sk (yD 31 hg2) (sk (yD 31 hg2) (q2 (vb true) (xT hg2) (wpL_nil (th_n ?_))))
   exact ⟨true, _, hg2, hs, hb, Has.mk (by kernel_rfl)⟩
  ·skip
   refine q1 (vp r2) (want1 rfl (yD 31 hg2)) (stp (v := (vb (Option.isNone r2))) (want1 rfl (yD 31 hg2)) (x_ptreq (by kernel_rfl) rfl Try.underlying62) (q2 (vb (Option.isNone r2)) (xF hg2) (wpL_nil (th_n ?_))))
   exact ⟨false, _, hg2, hs, hb, Has.mk (by kernel_rfl)⟩
 ·clear hs hb
  rintro ρ w3 ⟨b1'0, H1, he0, hs, hb, hH⟩
  subst he0
  refine norm_has hH ?_
  clear hH
  refine th_n ?_
  refine wpE_cond (t := ((Option.isNone r1) || (Option.isNone r2))) (by kernel_rfl) (fun hc1 => ?_) (fun hc1 => ?_)
  ·replace h := h.1 hc1
   refine wpE_seq (rg (q0 (vb false) (wpL_nil (th_n (wpE_ret (th_r ?_))))))
   replace h := h H1 w3 hs
   replace hs := hs.here
   refine res1 (.inl rfl) Try.results34 (v := (vb false)) (by kernel_rfl) ?_
   exact ⟨false, rfl, h⟩
  ·replace h := h.2 hc1
   refine wpE_skip (th_n (wpE_seq (rg (q0 (vp r1) ?_))))
   replace h := h H1 w3 hs
   replace hs := hs.here
   refine st_call (want0 rfl) (xc Try.call84) (h.mono ?_)
   rintro e w4 ⟨r3, r4, rfl, hk, h⟩
   refine ⟨_, rfl, ?_⟩
   obtain ⟨hs, hb⟩ := hk.hh hs hb
   refine q0 (.tuple #[(vi r3), (vi r4)]) (q0 (vi r3) (q0 (vi r4) (q0 (vi r3) (q0 (vi r4) (wpL_nil (th_n (wpE_seq (rg (q0 (vp r1) ?_)))))))))
   refine st_call (want0 rfl) (xc Try.call85) (h.mono ?_)
   rintro e w5 ⟨r5, r6, rfl, hk, h⟩
   refine ⟨_, rfl, ?_⟩
   obtain ⟨hs, hb⟩ := hk.hh hs hb
   refine q0 (.tuple #[(vi r5), (vi r6)]) (q0 (vi r5) (q0 (vi r6) (q0 (vi r5) (q0 (vi r6) (wpL_nil (th_n (wpE_seq (rg (q0 (vp r1) (q0 (vi r3) (q0 (vi r5) ?_)))))))))))
   refine st_call (want0 rfl) (xc Try.call86) (h.mono ?_)
   rintro e w6 ⟨r7, r8, rfl, hk, h⟩
   refine ⟨_, rfl, ?_⟩
   obtain ⟨hs, hb⟩ := hk.hh hs hb
   refine q0 (.tuple #[(vi r7), (vi r8)]) (q0 (vi r7) (q0 (vi r8) (q0 (vi r7) (q0 (vi r8) (wpL_nil (th_n (wpE_seq (rg (q0 (vp r1) (q0 (vi r7) ?_))))))))))
   refine st_call (want0 rfl) (xc Try.call87) (h.mono ?_)
   rintro e w7 ⟨r9, r10, rfl, hk, h⟩
   refine ⟨_, rfl, ?_⟩
   obtain ⟨hs, hb⟩ := hk.hh hs hb
   refine q0 (.tuple #[(vi r9), (vi r10)]) (q0 (vi r9) (q0 (vi r10) (q0 (vi r9) (q0 (vi r10) (wpL_nil (th_n (wpE_seq (rg (q0 (vp r1) (q0 (vi r3) ?_))))))))))
   refine st_call (want0 rfl) (xc Try.call88) (h.mono ?_)
   rintro e w8 ⟨r11, r12, rfl, hk, h⟩
   refine ⟨_, rfl, ?_⟩
   obtain ⟨hs, hb⟩ := hk.hh hs hb
   refine q0 (.tuple #[(vi r11), (vi r12)]) (q0 (vi r11) (q0 (vi r12) (q0 (vi r11) (q0 (vi r12) (wpL_nil (th_n (wpE_seq (rg (q0 (vp r1) ?_)))))))))
   refine st_call (want0 rfl) (xc Try.call89) (h.mono ?_)
   rintro e w9 ⟨r13, r14, rfl, hk, h⟩
   refine ⟨_, rfl, ?_⟩
   obtain ⟨hs, hb⟩ := hk.hh hs hb
   refine q0 (.tuple #[(vi r13), (vi r14)]) (q0 (vi r13) (q0 (vi r14) (q0 (vi r13) (q0 (vi r14) (wpL_nil (th_n (wpE_seq (rg (q0 (vp r1) (q0 (vi r3) ?_))))))))))
   refine st_call (want0 rfl) (xc Try.call87) (h.mono ?_)
   rintro e w10 ⟨r15, r16, rfl, hk, h⟩
   refine ⟨_, rfl, ?_⟩
   obtain ⟨hs, hb⟩ := hk.hh hs hb
   refine q0 (.tuple #[(vi r15), (vi r16)]) (q0 (vi r15) (q0 (vi r16) (q0 (vi r15) (q0 (vi r16) (wpL_nil (th_n (wpE_seq (rg (q0 (vp r2) (q0 (vi r9) ?_))))))))))
   refine st_call (want0 rfl) (xc Try.call37) (h.mono ?_)
   rintro e w11 ⟨r17, rfl, hk, h⟩
   refine ⟨_, rfl, ?_⟩
   obtain ⟨hs, hb⟩ := hk.hh hs hb
   refine q0 (vi r17) (wpL_nil (th_n (wpE_seq (rg (q0 (vp r2) (q0 (vi r11) ?_))))))
   refine st_call (want0 rfl) (xc Try.call40) (h.mono ?_)
   rintro e w12 ⟨r18, r19, rfl, hk, h⟩
   refine ⟨_, rfl, ?_⟩
   obtain ⟨hs, hb⟩ := hk.hh hs hb
   refine q0 (.tuple #[r18.v, (vb r19)]) (q0 r18.v (q0 (vb r19) (q0 r18.v (q0 (vb r19) (wpL_nil (th_n (wpE_seq (rg (q0 (vp r1) (q0 (vi r9) (st_new (O := (.cells #[(vi r9)] 41)) (fun p => (Sl.mk (some p) 1 1).v) (want0 rfl) (x_buildSlice (vs := #[(0, (vi r9))]) (by kernel_rfl) (by kernel_rfl)) ?_)))))))))))
   intro p1 w13 hn1
   replace h := h p1 w13 hn1
   replace hs := hs.again (Ext.new (F := None) hn1).keptP
   replace hb := hb.kept (Ext.new (F := None) hn1).keptP
   refine q0 r18.v (q0 (vi r11) ?_)
   refine st_call (want0 rfl) (xc Try.call41) (h.mono ?_)
   rintro e w14 ⟨r20, r21, rfl, hk, h⟩
   refine ⟨_, rfl, ?_⟩
   obtain ⟨hs, hb⟩ := hk.hh hs hb
   refine q0 (.tuple #[(vi r20), (vi r21)]) (q0 (vi r20) (q0 (vi r21) (q0 (vi r20) (q0 (vi r21) (wpL_nil (th_n (wpE_seq (rg (q0 (vp r2) (q0 (vi r15) ?_))))))))))
   refine st_call (want0 rfl) (xc Try.call46) (h.mono ?_)
   rintro e w15 ⟨r22, rfl, hk, h⟩
   refine ⟨_, rfl, ?_⟩
   obtain ⟨hs, hb⟩ := hk.hh hs hb
   refine q0 (vb r22) (wpL_nil (th_n (wpE_seq (rg (q0 (vp r2) (q0 (vi r13) ?_))))))
   refine st_call (want0 rfl) (xc Try.call37) (h.mono ?_)
   rintro e w16 ⟨r23, rfl, hk, h⟩
   refine ⟨_, rfl, ?_⟩
   obtain ⟨hs, hb⟩ := hk.hh hs hb
   refine q0 (vi r23) (wpL_nil (th_n (wpE_seq (rg (q0 (vp r1) (q0 (vi r11) ?_))))))
   refine st_call (want0 rfl) (xc Try.call41) (h.mono ?_)
   rintro e w17 ⟨r24, r25, rfl, hk, h⟩
   refine ⟨_, rfl, ?_⟩
   obtain ⟨hs, hb⟩ := hk.hh hs hb
   refine q0 (.tuple #[(vi r24), (vi r25)]) (q0 (vi r24) (q0 (vi r25) (q0 (vi r24) (q0 (vi r25) (wpL_nil (th_n (wpE_seq (rg (q0 (vi r17) ?_)))))))))
   refine st_call (want0 rfl) (xc Try.call43) ((p_law08_num r17 w17).mono ?_)
   rintro e w18 ⟨he, hE⟩
   refine ⟨(vi r17), he.trans (by kernel_rfl), ?_⟩
   replace hs := hs.pure hE
   replace hb := hb.pure hE
   clear hE he
   refine q0 (vb (r17 == 0)) (q0 (vb (r17 == 0)) ?_)
   refine wpL_join 4 (fun ρ wJ => ∃ b2'0 : Bool, ∃ HJ : Nat → Prop, ((r17 == 0) = b2'0) ∧ Hst w0 H1 w17 HJ wJ ∧ HB HJ wJ [] ∧ Has ρ [(2, (vp r2)), (3, (vi r3)), (15, (vi r15)), (18, r18.v), (19, (vb r19)), (20, (vi r20)), (22, (vb r22)), (25, (vi r25)), (112, (vb (b2'0 && (r23 == 0))))]) ?_ ?_
   ·clear hs hb
    rintro ρ w20 ⟨b2'0, H2, he0, hs, hb, hH⟩
    subst he0
    refine wpL_has hH ?_
    clear hH
    refine q0 (vb ((r17 == 0) && (r23 == 0))) ?_
    refine wpL_join 4 (fun ρ wJ => ∃ b3'0 : Bool, ∃ HJ : Nat → Prop, (((r17 == 0) && (r23 == 0)) = b3'0) ∧ Hst w0 H1 w17 HJ wJ ∧ HB HJ wJ [] ∧ Has ρ [(2, (vp r2)), (3, (vi r3)), (15, (vi r15)), (19, (vb r19)), (20, (vi r20)), (22, (vb r22)), (25, (vi r25)), (117, (vb (b3'0 && (decide ((r18.len : Int) > 0)))))]) ?_ ?_
    ·clear hs hb
     rintro ρ w22 ⟨b3'0, H3, he0, hs, hb, hH⟩
     subst he0
     refine wpL_has hH ?_
     clear hH
     refine q0 (vb (((r17 == 0) && (r23 == 0)) && (decide ((r18.len : Int) > 0)))) ?_
     refine wpL_join 2 (fun ρ wJ => ∃ b4'0 : Bool, ∃ HJ : Nat → Prop, ((((r17 == 0) && (r23 == 0)) && (decide ((r18.len : Int) > 0))) = b4'0) ∧ Hst w0 H1 w17 HJ wJ ∧ HB HJ wJ [] ∧ Has ρ [(2, (vp r2)), (3, (vi r3)), (15, (vi r15)), (20, (vi r20)), (22, (vb r22)), (25, (vi r25)), (120, (vb (b4'0 && r19)))]) ?_ ?_
     ·clear hs hb
      rintro ρ w23 ⟨b4'0, H4, he0, hs, hb, hH⟩
      subst he0
      refine wpL_has hH ?_
      clear hH
      refine q0 (vb ((((r17 == 0) && (r23 == 0)) && (decide ((r18.len : Int) > 0))) && r19)) ?_
      refine wpL_join 4 (fun ρ wJ => ∃ b5'0 y1 : Bool, ∃ HJ : Nat → Prop, (((((r17 == 0) && (r23 == 0)) && (decide ((r18.len : Int) > 0))) && r19) = b5'0) ∧ (y1 = (b5'0 && (r20 == 0))) ∧ Hst w0 H1 w17 HJ wJ ∧ HB HJ wJ [] ∧ Has ρ [(2, (vp r2)), (3, (vi r3)), (15, (vi r15)), (22, (vb r22)), (25, (vi r25)), (125, (vb y1))]) ?_ ?_
      ·clear hs hb
       rintro ρ w25 ⟨b5'0, y1, H5, he0, hy1, hs, hb, hH⟩
       subst he0
       replace h := h y1 hy1
       refine wpL_has hH ?_
       clear hH
       refine q0 (vb y1) ?_
       refine wpL_join 3 (fun ρ wJ => ∃ b6'0 : Bool, ∃ HJ : Nat → Prop, (y1 = b6'0) ∧ Hst w0 H1 w17 HJ wJ ∧ HB HJ wJ [] ∧ Has ρ [(2, (vp r2)), (3, (vi r3)), (15, (vi r15)), (25, (vi r25)), (129, (vb (b6'0 && (!r22))))]) ?_ ?_
       ·clear hs hb
        rintro ρ w27 ⟨b6'0, H6, he0, hs, hb, hH⟩
        subst he0
        refine wpL_has hH ?_
        clear hH
        refine q0 (vb (y1 && (!r22))) ?_
        refine wpL_join 4 (fun ρ w => ∃ x1 : Bool, ∃ H : Nat → Prop, Has ρ [(2, (vp r2)), (3, (vi r3)), (15, (vi r15)), (25, (vi r25)), (134, (vb x1))] ∧ Hst w0 H w H w ∧ HB H w [] ∧ m_law08_live_j1 r2 r3 r15 r25 x1 w0 H w K) ?_ ?_
        ·clear h hs hb
         rintro ρ w ⟨x1, H, hH, hs, hb, h⟩
         unfold m_law08_live_j1 at h
         refine wpL_has hH ?_
         clear hH
         refine q0 (vb x1) ?_
         refine wpL_join 5 (fun ρ w => ∃ x2 : Bool, ∃ H : Nat → Prop, Has ρ [(2, (vp r2)), (3, (vi r3)), (25, (vi r25)), (140, (vb x2))] ∧ Hst w0 H w H w ∧ HB H w [] ∧ m_law08_live_j2 r2 r3 r25 x2 w0 H w K) ?_ ?_
         ·clear h hs hb
          rintro ρ w ⟨x2, H, hH, hs, hb, h⟩
          unfold m_law08_live_j2 at h
          refine wpL_has hH ?_
          clear hH
          refine q0 (vb x2) ?_
          refine wpL_join 4 (fun ρ w => ∃ x3 : Bool, ∃ H : Nat → Prop, Has ρ [(2, (vp r2)), (25, (vi r25)), (145, (vb x3))] ∧ Hst w0 H w H w ∧ HB H w [] ∧ m_law08_live_j3 r2 r25 x3 w0 H w K) ?_ ?_
          ·clear h hs hb
           rintro ρ w ⟨x3, H, hH, hs, hb, h⟩
           unfold m_law08_live_j3 at h
           refine wpL_has hH ?_
           clear hH
           refine q0 (vb x3) ?_
           refine wpL_join 3 (fun ρ wJ => ∃ b7'0 : Bool, ∃ HJ : Nat → Prop, (x3 = b7'0) ∧ Hst w0 H w HJ wJ ∧ HB HJ wJ [] ∧ Has ρ [(2, (vp r2)), (149, (vb (b7'0 && (r25 == 0))))]) ?_ ?_
           ·clear hs hb
            rintro ρ w28 ⟨b7'0, H7, he0, hs, hb, hH⟩
            subst he0
            refine wpL_has hH ?_
            clear hH
            refine q0 (vb (x3 && (r25 == 0))) ?_
            refine wpL_join 5 (fun ρ w => ∃ x4 : Bool, ∃ H : Nat → Prop, Has ρ [(2, (vp r2)), (155, (vb x4))] ∧ Hst w0 H w H w ∧ HB H w [] ∧ m_law08_live_j4 r2 x4 w0 H w K) ?_ ?_
            ·clear h hs hb
             rintro ρ w ⟨x4, H, hH, hs, hb, h⟩
             unfold m_law08_live_j4 at h
             refine wpL_has hH ?_
             clear hH
             refine q0 (vb x4) ?_
             rcases Bool.eq_false_or_eq_true x4 with hg15 | hg15
             ·replace h := h.1 hg15
              refine q1 (vp r2) (want1 rfl (yD 156 hg15)) ?_
              refine st_call (want1 rfl (yD 156 hg15)) (xc Try.call37) (h.mono ?_)
              rintro e w29 ⟨r26, rfl, hk, h⟩
              refine ⟨_, rfl, ?_⟩
              obtain ⟨hs, hb⟩ := hk.hh hs hb
              refine st_call (want1 rfl (yD 156 hg15)) (xc Try.call43) ((p_law08_num r26 w29).mono ?_)
              rintro e w30 ⟨he, hE⟩
              refine ⟨(vi r26), he.trans (by kernel_rfl), ?_⟩
              replace hs := hs.pure hE
              replace hb := hb.pure hE
              clear hE he
              refine q1 (vb (r26 == 51)) (want1 rfl (yD 156 hg15)) (q2 (vb (r26 == 51)) (xT hg15) (q0 (vb (r26 == 51)) (wpL_nil (th_n (wpE_ret ?_)))))
              replace h := h w30 hs
              replace hs := hs.here
              refine res1 (.inl rfl) Try.results34 (v := (vb (r26 == 51))) (by kernel_rfl) ?_
              exact ⟨(r26 == 51), rfl, h⟩
             ·replace h := h.2 hg15
              refine sk (yD 156 hg15) (sk (yD 156 hg15) (sk (yD 156 hg15) (sk (yD 156 hg15) (q2 (vb false) (xF hg15) (q0 (vb false) (wpL_nil (th_n (wpE_ret (res1 (.inl rfl) Try.results34 (v := (vb false)) (by kernel_rfl) ?_)))))))))
              exact ⟨false, rfl, h⟩
            ·skip
             rcases Bool.eq_false_or_eq_true (x3 && (r25 == 0)) with hg16 | hg16
             ·replace h := h.1 hg16
              refine q1 (vp r2) (want1 rfl (yD 150 hg16)) ?_
              replace h := h H7 w28 hs
              replace hs := hs.here
              refine st_call (want1 rfl (yD 150 hg16)) (xc Try.call90) (h.mono ?_)
              rintro e w31 ⟨r27, rfl, hk, h⟩
              refine ⟨_, rfl, ?_⟩
              obtain ⟨hs, hb⟩ := hk.hh hs hb
              refine q1 (vi (r27.len : Int)) (want1 rfl (yD 150 hg16)) (q1 (vb (((r27.len : Int) : Int) == 2)) (want1 rfl (yD 150 hg16)) (q2 (vb (((r27.len : Int) : Int) == 2)) (xT hg16) (wpL_nil ?_)))
              exact ⟨(((r27.len : Int) : Int) == 2), H7, Has.mk (by kernel_rfl), hs, hb, h⟩
             ·replace h := h.2 hg16
              refine sk (yD 150 hg16) (sk (yD 150 hg16) (sk (yD 150 hg16) (sk (yD 150 hg16) (q2 (vb false) (xF hg16) (wpL_nil ?_)))))
              replace h := h H7 w28 hs
              replace hs := hs.here
              exact ⟨false, H7, Has.mk (by kernel_rfl), hs, hb, h⟩
           ·skip
            rcases Bool.eq_false_or_eq_true x3 with hg14 | hg14
            ·skip
             refine q1 (vi r25) (want1 rfl (yD 146 hg14)) (q1 (vb (r25 == 0)) (want1 rfl (yD 146 hg14)) (q2 (vb (r25 == 0)) (xT hg14) (wpL_nil ?_)))
             exact ⟨true, _, hg14, hs, hb, Has.mk (by kernel_rfl)⟩
            ·skip
             refine sk (yD 146 hg14) (sk (yD 146 hg14) (q2 (vb false) (xF hg14) (wpL_nil ?_)))
             exact ⟨false, _, hg14, hs, hb, Has.mk (by kernel_rfl)⟩
          ·skip
           rcases Bool.eq_false_or_eq_true x2 with hg17 | hg17
           ·replace h := h.1 hg17
            refine q1 (vp r2) (want1 rfl (yD 141 hg17)) (q1 (vi r3) (want1 rfl (yD 141 hg17)) ?_)
            refine st_call (want1 rfl (yD 141 hg17)) (xc Try.call48) (h.mono ?_)
            rintro e w32 ⟨r28, rfl, hk, h⟩
            refine ⟨_, rfl, ?_⟩
            obtain ⟨hs, hb⟩ := hk.hh hs hb
            refine q2 (vb r28) (xT hg17) (wpL_nil ?_)
            exact ⟨r28, H, Has.mk (by kernel_rfl), hs, hb, h⟩
           ·replace h := h.2 hg17
            refine sk (yD 141 hg17) (sk (yD 141 hg17) (sk (yD 141 hg17) (q2 (vb false) (xF hg17) (wpL_nil ?_))))
            exact ⟨false, H, Has.mk (by kernel_rfl), hs, hb, h⟩
         ·skip
          rcases Bool.eq_false_or_eq_true x1 with hg18 | hg18
          ·replace h := h.1 hg18
           refine q1 (vp r2) (want1 rfl (yD 135 hg18)) (q1 (vi r15) (want1 rfl (yD 135 hg18)) ?_)
           refine st_call (want1 rfl (yD 135 hg18)) (xc Try.call48) (h.mono ?_)
           rintro e w33 ⟨r29, rfl, hk, h⟩
           refine ⟨_, rfl, ?_⟩
           obtain ⟨hs, hb⟩ := hk.hh hs hb
           refine q1 (vb (!r29)) (want1 rfl (yD 135 hg18)) (q2 (vb (!r29)) (xT hg18) (wpL_nil ?_))
           exact ⟨(!r29), H, Has.mk (by kernel_rfl), hs, hb, h⟩
          ·replace h := h.2 hg18
           refine sk (yD 135 hg18) (sk (yD 135 hg18) (sk (yD 135 hg18) (sk (yD 135 hg18) (q2 (vb false) (xF hg18) (wpL_nil ?_)))))
           exact ⟨false, H, Has.mk (by kernel_rfl), hs, hb, h⟩
        ·skip
         rcases Bool.eq_false_or_eq_true (y1 && (!r22)) with hg19 | hg19
         ·replace h := h.1 hg19
          refine q1 (vp r2) (want1 rfl (yD 130 hg19)) (q1 (vi r15) (want1 rfl (yD 130 hg19)) ?_)
          replace h := h H6 w27 hs
          replace hs := hs.here
          refine st_call (want1 rfl (yD 130 hg19)) (xc Try.call46) (h.mono ?_)
          rintro e w34 ⟨r30, rfl, hk, h⟩
          refine ⟨_, rfl, ?_⟩
          obtain ⟨hs, hb⟩ := hk.hh hs hb
          refine q2 (vb r30) (xT hg19) (wpL_nil ?_)
          exact ⟨r30, H6, Has.mk (by kernel_rfl), hs, hb, h⟩
         ·replace h := h.2 hg19
          refine sk (yD 130 hg19) (sk (yD 130 hg19) (sk (yD 130 hg19) (q2 (vb false) (xF hg19) (wpL_nil ?_))))
          replace h := h H6 w27 hs
          replace hs := hs.here
          exact ⟨false, H6, Has.mk (by kernel_rfl), hs, hb, h⟩
       ·skip
        rcases Bool.eq_false_or_eq_true y1 with hg12 | hg12
        ·skip
         refine q1 (vb r22) (want1 rfl (yD 126 hg12)) (q1 (vb (!r22)) (want1 rfl (yD 126 hg12)) (q2 (vb (!r22)) (xT hg12) (wpL_nil ?_)))
         exact ⟨true, _, hg12, hs, hb, Has.mk (by kernel_rfl)⟩
        ·skip
         refine sk (yD 126 hg12) (sk (yD 126 hg12) (q2 (vb false) (xF hg12) (wpL_nil ?_)))
         exact ⟨false, _, hg12, hs, hb, Has.mk (by kernel_rfl)⟩
      ·skip
       rcases Bool.eq_false_or_eq_true ((((r17 == 0) && (r23 == 0)) && (decide ((r18.len : Int) > 0))) && r19) with hg10 | hg10
       ·skip
        refine q1 (vi r20) (want1 rfl (yD 121 hg10)) ?_
        refine st_call (want1 rfl (yD 121 hg10)) (xc Try.call43) ((p_law08_num r20 w23).mono ?_)
        rintro e w26 ⟨he, hE⟩
        refine ⟨(vi r20), he.trans (by kernel_rfl), ?_⟩
        replace hs := hs.pure hE
        replace hb := hb.pure hE
        clear hE he
        refine q1 (vb (r20 == 0)) (want1 rfl (yD 121 hg10)) (q2 (vb (r20 == 0)) (xT hg10) (wpL_nil ?_))
        exact ⟨true, _, _, hg10, rfl, hs, hb, Has.mk (by kernel_rfl)⟩
       ·skip
        refine sk (yD 121 hg10) (sk (yD 121 hg10) (sk (yD 121 hg10) (q2 (vb false) (xF hg10) (wpL_nil ?_))))
        exact ⟨false, _, _, hg10, rfl, hs, hb, Has.mk (by kernel_rfl)⟩
     ·skip
      rcases Bool.eq_false_or_eq_true (((r17 == 0) && (r23 == 0)) && (decide ((r18.len : Int) > 0))) with hg8 | hg8
      ·skip
       refine q1 (vb r19) (want1 rfl (yD 118 hg8)) (q2 (vb r19) (xT hg8) (wpL_nil ?_))
       exact ⟨true, _, hg8, hs, hb, Has.mk (by kernel_rfl)⟩
      ·skip
       refine sk (yD 118 hg8) (q2 (vb false) (xF hg8) (wpL_nil ?_))
       exact ⟨false, _, hg8, hs, hb, Has.mk (by kernel_rfl)⟩
    ·skip
     rcases Bool.eq_false_or_eq_true ((r17 == 0) && (r23 == 0)) with hg6 | hg6
     ·skip
      refine q1 r18.v (want1 rfl (yD 113 hg6)) (q1 (vi (r18.len : Int)) (want1 rfl (yD 113 hg6)) (q1 (vb (decide ((r18.len : Int) > 0))) (want1 rfl (yD 113 hg6)) (q2 (vb (decide ((r18.len : Int) > 0))) (xT hg6) (wpL_nil ?_))))
      exact ⟨true, _, hg6, hs, hb, Has.mk (by kernel_rfl)⟩
     ·skip
      refine sk (yD 113 hg6) (sk (yD 113 hg6) (sk (yD 113 hg6) (q2 (vb false) (xF hg6) (wpL_nil ?_))))
      exact ⟨false, _, hg6, hs, hb, Has.mk (by kernel_rfl)⟩
   ·skip
    rcases Bool.eq_false_or_eq_true (r17 == 0) with hg4 | hg4
    ·skip
     refine q1 (vi r23) (want1 rfl (yD 108 hg4)) ?_
     refine st_call (want1 rfl (yD 108 hg4)) (xc Try.call43) ((p_law08_num r23 w18).mono ?_)
     rintro e w21 ⟨he, hE⟩
     refine ⟨(vi r23), he.trans (by kernel_rfl), ?_⟩
     replace hs := hs.pure hE
     replace hb := hb.pure hE
     clear hE he
     refine q1 (vb (r23 == 0)) (want1 rfl (yD 108 hg4)) (q2 (vb (r23 == 0)) (xT hg4) (wpL_nil ?_))
     exact ⟨true, _, hg4, hs, hb, Has.mk (by kernel_rfl)⟩
    ·skip
     refine sk (yD 108 hg4) (sk (yD 108 hg4) (sk (yD 108 hg4) (q2 (vb false) (xF hg4) (wpL_nil ?_))))
     exact ⟨false, _, hg4, hs, hb, Has.mk (by kernel_rfl)⟩
def m_law08_pools_l1 (l1 : Sl) (r1 : Option Addr) (r2 : Option Addr) (out1 : Sl) (i1 : Int) (w0 : World) (Hl1 : Nat → Prop) (wl1 : World) (Kc1 : Sl → Int → (Nat → Prop) → World → Prop) (K : (Option Addr) → (Option Addr) → Sl → Bool → World → Prop) : Prop :=
 Br (decide (i1 < (l1.len : Int)))
  (∃ a1 : Addr, At l1 i1 6 a1 ∧
  ∃ aL aM : Int, ∃ aN aO : Int, ∃ aP : ByteArray, ∃ aQ : Sl, Row wl1 a1 [(vi aL), (vi aM), (vi aN), (vu aO), (vs aP), aQ.v] ∧
  Calls Try.prog 73 #[(vp r1), (.agg #[(vi aL), (vi aM), (vi aN), (vu aO), (vs aP), aQ.v])] wl1 (fun e w3 => ∃ r3 r4 : Int, e = .returned (.tuple #[(vi r3), (vi r4)]) ∧ 
   Kept Hl1 wl1 w3 ∧
   ∃ a2 : Addr, At l1 i1 6 a2 ∧
   ∃ aR aS : Int, ∃ aT aU : Int, ∃ aV : ByteArray, ∃ aW : Sl, Row w3 a2 [(vi aR), (vi aS), (vi aT), (vu aU), (vs aV), aW.v] ∧
   Calls Try.prog 77 #[(vp r2), (.agg #[(vi aR), (vi aS), (vi aT), (vu aU), (vs aV), aW.v])] w3 (fun e w4 => ∃ r5 r6 : Int, e = .returned (.tuple #[(vi r5), (vi r6)]) ∧ 
    Kept Hl1 w3 w4 ∧
    Br ((r4 != r6) || (r3 != r5))
     (∀ (H1 : Nat → Prop) (w6 : World), Hst w0 Hl1 w4 H1 w6 →
     K none none Sl.nil false w6)
     (∀ (H1 : Nat → Prop) (w6 : World), Hst w0 Hl1 w4 H1 w6 →
     ∀ (p1 : Addr) (w8 : World), New w6 (.cells #[(vi r5)] 41) p1 w8 →
     ∃ s1 : Sl, ∃ w9 : World, (Builtin.append_ #[26, 26] 26 #[out1.v, (Sl.mk (some p1) 1 1).v]).run Try.prog w8 = .ok s1.v w9 ∧
     Kept H1 w8 w9 ∧
     Kc1 s1 (IntKind.i64.wrap (i1 + 1)) H1 w9))))
  (K r1 r2 out1 true wl1)
def m_law08_pools (l1 : Sl) (w0 : World) (K : (Option Addr) → (Option Addr) → Sl → Bool → World → Prop) : Prop :=
 Calls Try.prog 72 #[] w0 (fun e w1 => ∃ r1 : Option Addr, e = .returned (vp r1) ∧ 
  Kept None w0 w1 ∧
  Calls Try.prog 75 #[] w1 (fun e w2 => ∃ r2 : Option Addr, e = .returned (vp r2) ∧ 
   Kept None w1 w2 ∧
   Br (Option.isNone r1)
    (K none none Sl.nil false w2)
    (∃ (I1 : Sl → Int → (Nat → Prop) → World → Prop) (mu1 : Sl → Int → World → Nat), I1 Sl.nil 0 None w2 ∧
     ∀ (out1 : Sl) (i1 : Int) (Hl1 : Nat → Prop) (wl1 : World), Hst w0 Hl1 wl1 Hl1 wl1 → I1 out1 i1 Hl1 wl1 → m_law08_pools_l1 l1 r1 r2 out1 i1 w0 Hl1 wl1 (fun y'0 y'1 H' w' => I1 y'0 y'1 H' w' ∧ mu1 y'0 y'1 w' < mu1 out1 i1 wl1) K)))
theorem w_law08_pools (l1 : Sl) (w0 : World) (K : (Option Addr) → (Option Addr) → Sl → Bool → World → Prop) (h : m_law08_pools l1 w0 K) :
  Calls Try.prog 35 #[l1.v] w0 (fun e w' => ∃ r7 : Option Addr, ∃ r8 : Option Addr, ∃ r9 : Sl, ∃ r10 : Bool, e = .returned (.tuple #[(vp r7), (vp r8), r9.v, (vb r10)]) ∧ K r7 r8 r9 r10 w') := by
 unfold m_law08_pools at h
 refine calls_of_wpE (args := [l1.v]) Try.func35 rfl Try.ntmps35 (Nat.le_of_ble_eq_true rfl) ?_
 have hs := Hst.start w0
 have hb := HB.nil None w0
 refine wpE_seq (rg (q0 (vp none) (q0 (vp none) (q0 Sl.nil.v (q0 (vb false) (wpL_nil (th_n (wpE_seq (rg ?_)))))))))
 refine st_call (want0 rfl) (xc Try.call72) (h.mono ?_)
 rintro e w1 ⟨r1, rfl, hk, h⟩
 refine ⟨_, rfl, ?_⟩
 obtain ⟨hs, hb⟩ := hk.hh hs hb
 refine q0 (vp r1) (wpL_nil (th_n (wpE_seq (rg ?_))))
 refine st_call (want0 rfl) (xc Try.call75) (h.mono ?_)
 rintro e w2 ⟨r2, rfl, hk, h⟩
 refine ⟨_, rfl, ?_⟩
 obtain ⟨hs, hb⟩ := hk.hh hs hb
 refine q0 (vp r2) (wpL_nil (th_n (wpE_seq (wpE_seq (rg (q0 (vp r1) (q2 (vb (Option.isNone r1)) (x_ptreq (by kernel_rfl) rfl Try.underlying25) (wpL_nil (th_n ?_)))))))))
 refine wpE_cond (t := (Option.isNone r1)) (by kernel_rfl) (fun hc1 => ?_) (fun hc1 => ?_)
 ·replace h := h.1 hc1
  refine wpE_seq (rg (q0 (vp none) (q0 (vp none) (q0 Sl.nil.v (q0 (vb false) (wpL_nil (th_n (wpE_ret (th_r (res4 (.inl rfl) Try.results35 (v := (vp none)) (by kernel_rfl) (v' := (vp none)) (by kernel_rfl) (v'' := Sl.nil.v) (by kernel_rfl) (v3 := (vb false)) (by kernel_rfl) ?_))))))))))
  exact ⟨none, none, Sl.nil, false, rfl, h⟩
 ·replace h := h.2 hc1
  refine wpE_skip (th_n (wpE_seq (rg (q0 Sl.nil.v (wpL_nil (th_n (wpE_seq (wpE_seq (rg (q0 (vi 0) (wpL_nil ?_)))))))))))
  refine th_n (wpE_block ?_)
  obtain ⟨I1, mu1, h0, hr⟩ := h
  refine wpE_loop (σ := Sl × Int × (Nat → Prop) × World) (fun s ρ w => w = s.2.2.2 ∧ Has ρ [(0, l1.v), (6, (vp r1)), (7, (vp r2)), (8, s.1.v), (9, (vi s.2.1))] ∧ Hst w0 s.2.2.1 w s.2.2.1 w ∧ HB s.2.2.1 w [] ∧ I1 s.1 s.2.1 s.2.2.1 s.2.2.2) (fun s => mu1 s.1 s.2.1 s.2.2.2) (Sl.nil, 0, None, w2) ⟨rfl, Has.mk (by kernel_rfl), hs, hb, h0⟩ ?_
  clear hs hb
  rintro ⟨out1, i1, Hl1, wl1⟩ ρ w ⟨hw, hH, hs, hb, hI⟩
  obtain rfl : wl1 = w := (show w = wl1 from hw).symm
  replace hH : Has ρ [(0, l1.v), (6, (vp r1)), (7, (vp r2)), (8, out1.v), (9, (vi i1))] := hH
  replace hs : Hst w0 Hl1 wl1 Hl1 wl1 := hs
  replace hb : HB Hl1 wl1 [] := hb
  have h := hr out1 i1 Hl1 wl1 hs hI
  clear hr h0
  unfold m_law08_pools_l1 at h
  refine wpE_has hH ?_
  clear hH hI
  refine wpE_seq (wpE_seq (rg (q0 (vi i1) (q0 l1.v (q0 (vi (l1.len : Int)) (q0 (vb (decide (i1 < (l1.len : Int)))) (wpL_nil (th_n ?_))))))))
  refine wpE_cond (t := (decide (i1 < (l1.len : Int)))) (by kernel_rfl) (fun hc2 => ?_) (fun hc2 => ?_)
  ·replace h := h.1 hc2
   refine wpE_skip (th_n (wpE_seq (wpE_block (wpE_seq (rg (q0 (vp r1) (q0 l1.v (q0 (vi i1) ?_))))))))
   obtain ⟨a1, hv5, h⟩ := h
   refine q2 (vp (some a1)) (x_indexAddr (s := l1) (k := .i64) (i := i1) (by kernel_rfl) (by kernel_rfl) (Try.runUnderlying22 _) (Try.sizeOf116 _) hv5) ?_
   obtain ⟨aL, aM, aN, aO, aP, aQ, hv4, h⟩ := h
   refine q2 (.agg #[(vi aL), (vi aM), (vi aN), (vu aO), (vs aP), aQ.v]) (x_loadA (a := a1) (vs := [(vi aL), (vi aM), (vi aN), (vu aO), (vs aP), aQ.v]) (by kernel_rfl) (Try.isAgg116 _) (Try.sizeOf116 _) rfl hv4) ?_
   refine st_call (want0 rfl) (xc Try.call73) (h.mono ?_)
   rintro e w3 ⟨r3, r4, rfl, hk, h⟩
   refine ⟨_, rfl, ?_⟩
   obtain ⟨hs, hb⟩ := hk.hh hs hb
   refine q0 (.tuple #[(vi r3), (vi r4)]) (q0 (vi r3) (q0 (vi r4) (q0 (vi r3) (q0 (vi r4) (wpL_nil (th_n (wpE_seq (rg (q0 (vp r2) (q0 l1.v (q0 (vi i1) ?_)))))))))))
   obtain ⟨a2, hv3, h⟩ := h
   refine q2 (vp (some a2)) (x_indexAddr (s := l1) (k := .i64) (i := i1) (by kernel_rfl) (by kernel_rfl) (Try.runUnderlying22 _) (Try.sizeOf116 _) hv3) ?_
   obtain ⟨aR, aS, aT, aU, aV, aW, hv2, h⟩ := h
   refine q2 (.agg #[(vi aR), (vi aS), (vi aT), (vu aU), (vs aV), aW.v]) (x_loadA (a := a2) (vs := [(vi aR), (vi aS), (vi aT), (vu aU), (vs aV), aW.v]) (by kernel_rfl) (Try.isAgg116 _) (Try.sizeOf116 _) rfl hv2) ?_
   refine st_call (want0 rfl) (xc Try.call77) (h.mono ?_)
   rintro e w4 ⟨r5, r6, rfl, hk, h⟩
   refine ⟨_, rfl, ?_⟩
   obtain ⟨hs, hb⟩ := hk.hh hs hb
   refine q0 (.tuple #[(vi r5), (vi r6)]) (q0 (vi r5) (q0 (vi r6) (q0 (vi r5) (q0 (vi r6) (wpL_nil (th_n (wpE_seq (wpE_seq ?_))))))))
   refine wpE_via (fun ρ wJ => ∃ b1'0 : Bool, ∃ HJ : Nat → Prop, ((r4 != r6) = b1'0) ∧ Hst w0 Hl1 w4 HJ wJ ∧ HB HJ wJ [] ∧ Has ρ [(0, l1.v), (6, (vp r1)), (7, (vp r2)), (8, out1.v), (9, (vi i1)), (12, (vi r5)), (50, (vb (b1'0 || (r3 != r5))))]) ?_ ?_
   ·skip
    refine rg (q0 (vi r4) ?_)
    refine st_call (want0 rfl) (xc Try.call43) ((p_law08_num r4 w4).mono ?_)
    rintro e w7 ⟨he, hE⟩
    refine ⟨(vi r4), he.trans (by kernel_rfl), ?_⟩
    replace hs := hs.pure hE
    replace hb := hb.pure hE
    clear hE he
    refine q0 (vi r6) (q0 (vb (r4 != r6)) (q0 (vb (r4 != r6)) ?_))
    rcases Bool.eq_false_or_eq_true (r4 != r6) with hg2 | hg2
    ·skip
     refine sk (yD 46 hg2) (sk (yD 46 hg2) (sk (yD 46 hg2) (q2 (vb true) (xT hg2) (wpL_nil (th_n ?_)))))
     exact ⟨true, _, hg2, hs, hb, Has.mk (by kernel_rfl)⟩
    ·skip
     refine q1 (vi r3) (want1 rfl (yD 46 hg2)) (q1 (vi r5) (want1 rfl (yD 46 hg2)) (q1 (vb (r3 != r5)) (want1 rfl (yD 46 hg2)) (q2 (vb (r3 != r5)) (xF hg2) (wpL_nil (th_n ?_)))))
     exact ⟨false, _, hg2, hs, hb, Has.mk (by kernel_rfl)⟩
   ·clear hs hb
    rintro ρ w6 ⟨b1'0, H1, he0, hs, hb, hH⟩
    subst he0
    refine norm_has hH ?_
    clear hH
    refine th_n ?_
    refine wpE_cond (t := ((r4 != r6) || (r3 != r5))) (by kernel_rfl) (fun hc3 => ?_) (fun hc3 => ?_)
    ·replace h := h.1 hc3
     refine wpE_seq (rg (q0 (vp none) (q0 (vp none) (q0 Sl.nil.v (q0 (vb false) (wpL_nil (th_n (wpE_ret (th_r (bl_r (th_r ?_)))))))))))
     refine th_r (bl_r (th_r ?_))
     replace h := h H1 w6 hs
     replace hs := hs.here
     refine res4 (.inl rfl) Try.results35 (v := (vp none)) (by kernel_rfl) (v' := (vp none)) (by kernel_rfl) (v'' := Sl.nil.v) (by kernel_rfl) (v3 := (vb false)) (by kernel_rfl) ?_
     exact ⟨none, none, Sl.nil, false, rfl, h⟩
    ·replace h := h.2 hc3
     refine wpE_skip (th_n (rg (q0 out1.v (q0 (vi r5) ?_))))
     replace h := h H1 w6 hs
     replace hs := hs.here
     refine st_new (O := (.cells #[(vi r5)] 41)) (fun p => (Sl.mk (some p) 1 1).v) (want0 rfl) (x_buildSlice (vs := #[(0, (vi r5))]) (by kernel_rfl) (by kernel_rfl)) ?_
     intro p1 w8 hn1
     replace h := h p1 w8 hn1
     replace hs := hs.again (Ext.new (F := None) hn1).keptP
     replace hb := hb.kept (Ext.new (F := None) hn1).keptP
     obtain ⟨s1, w9, hv1, hk, h⟩ := h
     refine st (v := s1.v) (want0 rfl) (x_builtin (args := #[out1.v, (Sl.mk (some p1) 1 1).v]) (by kernel_rfl) (fun _ => rfl) hv1) ?_
     obtain ⟨hs, hb⟩ := hk.hh hs hb
     refine q0 s1.v (wpL_nil (bl_n (th_n (rg (q0 (vi i1) (q0 (vi (IntKind.i64.wrap (i1 + 1))) (q0 (vi (IntKind.i64.wrap (i1 + 1))) (wpL_nil (th_n ?_)))))))))
     exact ⟨(s1, (IntKind.i64.wrap (i1 + 1)), H1, w9), ⟨rfl, Has.mk (by kernel_rfl), hs, hb, h.1⟩, h.2⟩
  ·replace h := h.2 hc2
   refine wpE_exit (th_x (th_x (bl_eq (th_n (wpE_seq (rg (q0 (vp r1) (q0 (vp r2) (q0 out1.v (q0 (vp r1) (q0 (vp r2) ?_)))))))))))
   refine q0 out1.v (q0 (vb true) (wpL_nil (th_n (wpE_ret (res4 (.inl rfl) Try.results35 (v := (vp r1)) (by kernel_rfl) (v' := (vp r2)) (by kernel_rfl) (v'' := out1.v) (by kernel_rfl) (v3 := (vb true)) (by kernel_rfl) ?_)))))
   exact ⟨r1, r2, out1, true, rfl, h⟩
def m_law08_DeduceChecks_j1 (aD aB aC : Sl) (aE : Int) (x1 : Bool) (w0 : World) (H : Nat → Prop) (w : World) (K : Bool → World → Prop) : Prop :=
 Br x1
  (Calls Try.prog 34 #[] w (fun e w3 => ∃ r1 : Bool, e = .returned (vb r1) ∧ 
   Kept H w w3 ∧
   K r1 w3))
  (Calls Try.prog 35 #[aD.v] w (fun e w4 => ∃ r2 : Option Addr, ∃ r3 : Option Addr, ∃ r4 : Sl, ∃ r5 : Bool, e = .returned (.tuple #[(vp r2), (vp r3), r4.v, (vb r5)]) ∧ 
   Kept H w w4 ∧
   Br (!r5)
    (K false w4)
    (∀ (p2 : Addr) (w5 : World), New w4 (.cells #[] 41) p2 w5 →
    ∃ s1 : Sl, ∃ w6 : World, (Builtin.append_ #[26, 26] 26 #[(Sl.mk (some p2) 0 0).v, aB.v]).run Try.prog w5 = .ok s1.v w6 ∧
    Kept H w5 w6 ∧
    ∀ (p3 : Addr) (w7 : World), New w6 (.cells #[] 167) p3 w7 →
    ∃ s2 : Sl, ∃ w8 : World, (Builtin.append_ #[76, 76] 76 #[(Sl.mk (some p3) 0 0).v, aC.v]).run Try.prog w7 = .ok s2.v w8 ∧
    Kept H w7 w8 ∧
    Calls Try.prog 41 #[(vp r2), s1.v, s2.v, (vi aE)] w8 (fun e w9 => ∃ r6 r7 : Int, e = .returned (.tuple #[(vi r6), (vi r7)]) ∧ 
     Kept H w8 w9 ∧
     Calls Try.prog 42 #[(vp r3), aB.v, aC.v, (vi aE)] w9 (fun e w10 => ∃ r8 r9 : Int, e = .returned (.tuple #[(vi r8), (vi r9)]) ∧ 
      Kept H w9 w10 ∧
      Br ((r6 == r8) && (r7 == r9))
       (∀ (H2 : Nat → Prop) (w12 : World), Hst w0 H w10 H2 w12 →
       Calls Try.prog 34 #[] w12 (fun e w13 => ∃ r10 : Bool, e = .returned (vb r10) ∧ 
        Kept H2 w12 w13 ∧
        K r10 w13))
       (∀ (H2 : Nat → Prop) (w12 : World), Hst w0 H w10 H2 w12 →
       K false w12))))))
def m_law08_DeduceChecks (aD aB aC : Sl) (aE : Int) (w0 : World) (K : Bool → World → Prop) : Prop :=
 ∀ (H1 : Nat → Prop) (w2 : World), Hst w0 None w0 H1 w2 →
 Calls Try.prog 33 #[aD.v] w2 (fun e w14 => ∃ r11 : Bool, e = .returned (vb r11) ∧ 
  Kept H1 w2 w14 ∧
  ∀ (H4 : Nat → Prop) (w16 : World), Hst w0 H1 w14 H4 w16 →
  m_law08_DeduceChecks_j1 aD aB aC aE ((r11 || (decide ((aB.len : Int) > 20))) || (decide ((aC.len : Int) > 60))) w0 H4 w16 K)
theorem w_law08_DeduceChecks (aD aB aC : Sl) (aE : Int) (w0 : World) (K : Bool → World → Prop) (h : m_law08_DeduceChecks aD aB aC aE w0 K) :
  Calls Try.prog 8 #[(.agg #[aD.v, aB.v, aC.v, (vi aE)])] w0 (fun e w' => ∃ r12 : Bool, e = .returned (vb r12) ∧ K r12 w') := by
 unfold m_law08_DeduceChecks at h
 refine calls_of_wpE (args := [(.agg #[aD.v, aB.v, aC.v, (vi aE)])]) Try.func8 rfl Try.ntmps8 (Nat.le_of_ble_eq_true rfl) ?_
 have hs := Hst.start w0
 have hb := HB.nil None w0
 refine wpE_seq (rg (sn (O := (.cells #[aD.v, aB.v, aC.v, (vi aE)] 87)) xb ?_))
 intro p1 w1 hn1
 obtain ⟨H1, hs, hb⟩ := hs.alloc hb hn1
 refine q0 (vb false) (wpL_nil (th_n (wpE_seq (wpE_drawnQ (by kernel_rfl) (by kernel_rfl) (by kernel_rfl) (by kernel_rfl) ?_))))
 intro w2 hw2
 replace hs : Hst w0 None w0 H1 w2 := by rw [hw2]; exact hs.drew
 replace hb : HB H1 w2 [(p1, [aD.v, aB.v, aC.v, (vi aE)], 87)] := by rw [hw2]; exact hb.drew
 clear hw2
 refine qq 0 (vp (some p1)) Kp0 (qr 1 aD.v Kp1 (xl (Try.isAgg22 _) (hb.c0 0 gZ)) (qq 2 (vp (some (p1.add 1))) Kp2 (qr 3 aB.v Kp3 (xl (Try.isAgg26 _) (hb.c 0 1 gZ)) (qq 4 (vp (some (p1.add 2))) Kp4 (qr 5 aC.v Kp5 (xl (Try.isAgg76 _) (hb.c 0 2 gZ)) (qq 6 (vp (some (p1.add 3))) Kp6 (qr 7 (vi aE) Kp7 (xl (Try.isAgg41 _) (hb.c 0 3 gZ)) (qq 8 aD.v Kp8 (qq 9 aB.v Kp9 (qq 10 aC.v (pickA (S8 (pickS (pickS pickZ)))) (qq 11 (vi aE) (pickA (S8 (pickS (pickS (pickS pickZ))))) ?_)))))))))))
 refine wpX_nil (by kernel_rfl) (th_n (wpE_seq (wpE_seq ?_)))
 refine wpE_joinT (fun ρ w => ∃ x1 : Bool, ∃ H : Nat → Prop, Has ρ [(3, aD.v), (4, aB.v), (5, aC.v), (6, (vi aE)), (34, (vb x1))] ∧ Hst w0 H w H w ∧ HB H w [(p1, [aD.v, aB.v, aC.v, (vi aE)], 87)] ∧ m_law08_DeduceChecks_j1 aD aB aC aE x1 w0 H w K) ?_ ?_
 ·clear h hs hb
  rintro ρ w ⟨x1, H, hH, hs, hb, h⟩
  unfold m_law08_DeduceChecks_j1 at h
  refine wpE_has hH ?_
  clear hH
  refine wpE_cond (t := x1) (by kernel_rfl) (fun hc1 => ?_) (fun hc1 => ?_)
  ·replace h := h.1 hc1
   refine wpE_seq (rg ?_)
   refine st_call (want0 rfl) (xc Try.call34) (h.mono ?_)
   rintro e w3 ⟨r1, rfl, hk, h⟩
   refine ⟨_, rfl, ?_⟩
   obtain ⟨hs, hb⟩ := hk.hh hs hb
   refine q0 (vb r1) (wpL_nil (th_n (wpE_ret (th_r (res1 (.inl rfl) Try.results8 (v := (vb r1)) (by kernel_rfl) ?_)))))
   exact ⟨r1, rfl, h⟩
  ·replace h := h.2 hc1
   refine wpE_skip (th_n (wpE_seq (rg (q0 aD.v ?_))))
   refine st_call (want0 rfl) (xc Try.call35) (h.mono ?_)
   rintro e w4 ⟨r2, r3, r4, r5, rfl, hk, h⟩
   refine ⟨_, rfl, ?_⟩
   obtain ⟨hs, hb⟩ := hk.hh hs hb
   refine q0 (.tuple #[(vp r2), (vp r3), r4.v, (vb r5)]) (q0 (vp r2) (q0 (vp r3) (q0 r4.v (q0 (vb r5) (q0 (vp r2) (q0 (vp r3) (q0 r4.v (q0 (vb r5) (wpL_nil (th_n (wpE_seq ?_)))))))))))
   refine wpE_seq (rg (q0 (vb r5) (q0 (vb (!r5)) (wpL_nil (th_n ?_)))))
   refine wpE_cond (t := (!r5)) (by kernel_rfl) (fun hc2 => ?_) (fun hc2 => ?_)
   ·replace h := h.1 hc2
    refine wpE_seq (rg (q0 (vb false) (wpL_nil (th_n (wpE_ret (th_r (res1 (.inl rfl) Try.results8 (v := (vb false)) (by kernel_rfl) ?_)))))))
    exact ⟨false, rfl, h⟩
   ·replace h := h.2 hc2
    refine wpE_skip (th_n (wpE_seq (rg (q0 (vp r2) (st_new (O := (.cells #[] 41)) (fun p => (Sl.mk (some p) 0 0).v) (want0 rfl) (x_buildSlice (vs := #[]) (by kernel_rfl) (by kernel_rfl)) ?_)))))
    intro p2 w5 hn3
    replace h := h p2 w5 hn3
    replace hs := hs.again (Ext.new (F := None) hn3).keptP
    replace hb := hb.kept (Ext.new (F := None) hn3).keptP
    refine q0 aB.v ?_
    obtain ⟨s1, w6, hv2, hk, h⟩ := h
    refine st (v := s1.v) (want0 rfl) (x_builtin (args := #[(Sl.mk (some p2) 0 0).v, aB.v]) (by kernel_rfl) (fun _ => rfl) hv2) ?_
    obtain ⟨hs, hb⟩ := hk.hh hs hb
    refine st_new (O := (.cells #[] 167)) (fun p => (Sl.mk (some p) 0 0).v) (want0 rfl) (x_buildSlice (vs := #[]) (by kernel_rfl) (by kernel_rfl)) ?_
    intro p3 w7 hn2
    replace h := h p3 w7 hn2
    replace hs := hs.again (Ext.new (F := None) hn2).keptP
    replace hb := hb.kept (Ext.new (F := None) hn2).keptP
    refine q0 aC.v ?_
    obtain ⟨s2, w8, hv1, hk, h⟩ := h
    refine st (v := s2.v) (want0 rfl) (x_builtin (args := #[(Sl.mk (some p3) 0 0).v, aC.v]) (by kernel_rfl) (fun _ => rfl) hv1) ?_
    obtain ⟨hs, hb⟩ := hk.hh hs hb
    refine q0 (vi aE) ?_
    refine st_call (want0 rfl) (xc Try.call41) (h.mono ?_)
    rintro e w9 ⟨r6, r7, rfl, hk, h⟩
    refine ⟨_, rfl, ?_⟩
    obtain ⟨hs, hb⟩ := hk.hh hs hb
    refine q0 (.tuple #[(vi r6), (vi r7)]) (q0 (vi r6) (q0 (vi r7) (q0 (vi r6) (q0 (vi r7) (wpL_nil (th_n (wpE_seq (rg (q0 (vp r3) (q0 aB.v (q0 aC.v ?_)))))))))))
    refine q0 (vi aE) ?_
    refine st_call (want0 rfl) (xc Try.call42) (h.mono ?_)
    rintro e w10 ⟨r8, r9, rfl, hk, h⟩
    refine ⟨_, rfl, ?_⟩
    obtain ⟨hs, hb⟩ := hk.hh hs hb
    refine q0 (.tuple #[(vi r8), (vi r9)]) (q0 (vi r8) (q0 (vi r9) (q0 (vi r8) (q0 (vi r9) (wpL_nil (th_n (wpE_seq (rg (q0 (vi r6) ?_)))))))))
    refine st_call (want0 rfl) (xc Try.call43) ((p_law08_num r6 w10).mono ?_)
    rintro e w11 ⟨he, hE⟩
    refine ⟨(vi r6), he.trans (by kernel_rfl), ?_⟩
    replace hs := hs.pure hE
    replace hb := hb.pure hE
    clear hE he
    refine q0 (vi r8) (q0 (vb (r6 == r8)) (q0 (vb (r6 == r8)) ?_))
    refine wpL_join 4 (fun ρ wJ => ∃ b1'0 : Bool, ∃ HJ : Nat → Prop, ((r6 == r8) = b1'0) ∧ Hst w0 H w10 HJ wJ ∧ HB HJ wJ [(p1, [aD.v, aB.v, aC.v, (vi aE)], 87)] ∧ Has ρ [(73, (vb (b1'0 && (r7 == r9))))]) ?_ ?_
    ·clear hs hb
     rintro ρ w12 ⟨b1'0, H2, he0, hs, hb, hH⟩
     subst he0
     refine wpL_has hH ?_
     clear hH
     refine q0 (vb ((r6 == r8) && (r7 == r9))) ?_
     rcases Bool.eq_false_or_eq_true ((r6 == r8) && (r7 == r9)) with hg3 | hg3
     ·replace h := h.1 hg3
      replace h := h H2 w12 hs
      replace hs := hs.here
      refine st_call (want1 rfl (yD 74 hg3)) (xc Try.call34) (h.mono ?_)
      rintro e w13 ⟨r10, rfl, hk, h⟩
      refine ⟨_, rfl, ?_⟩
      obtain ⟨hs, hb⟩ := hk.hh hs hb
      refine q2 (vb r10) (xT hg3) (q0 (vb r10) (wpL_nil (th_n (wpE_ret (res1 (.inl rfl) Try.results8 (v := (vb r10)) (by kernel_rfl) ?_)))))
      exact ⟨r10, rfl, h⟩
     ·replace h := h.2 hg3
      refine sk (yD 74 hg3) (q2 (vb false) (xF hg3) (q0 (vb false) (wpL_nil (th_n (wpE_ret ?_)))))
      replace h := h H2 w12 hs
      replace hs := hs.here
      refine res1 (.inl rfl) Try.results8 (v := (vb false)) (by kernel_rfl) ?_
      exact ⟨false, rfl, h⟩
    ·skip
     rcases Bool.eq_false_or_eq_true (r6 == r8) with hg2 | hg2
     ·skip
      refine q1 (vi r7) (want1 rfl (yD 69 hg2)) (q1 (vi r9) (want1 rfl (yD 69 hg2)) (q1 (vb (r7 == r9)) (want1 rfl (yD 69 hg2)) (q2 (vb (r7 == r9)) (xT hg2) (wpL_nil ?_))))
      exact ⟨true, _, hg2, hs, hb, Has.mk (by kernel_rfl)⟩
     ·skip
      refine sk (yD 69 hg2) (sk (yD 69 hg2) (sk (yD 69 hg2) (q2 (vb false) (xF hg2) (wpL_nil ?_))))
      exact ⟨false, _, hg2, hs, hb, Has.mk (by kernel_rfl)⟩
 ·skip
  refine rg (q0 aD.v ?_)
  replace h := h H1 w2 hs
  replace hs := hs.here
  refine st_call (want0 rfl) (xc Try.call33) (h.mono ?_)
  rintro e w14 ⟨r11, rfl, hk, h⟩
  refine ⟨_, rfl, ?_⟩
  obtain ⟨hs, hb⟩ := hk.hh hs hb
  refine q0 (vb r11) ?_
  refine wpL_join 4 (fun ρ wJ => ∃ b2'0 : Bool, ∃ HJ : Nat → Prop, (r11 = b2'0) ∧ Hst w0 H1 w14 HJ wJ ∧ HB HJ wJ [(p1, [aD.v, aB.v, aC.v, (vi aE)], 87)] ∧ Has ρ [(3, aD.v), (4, aB.v), (5, aC.v), (6, (vi aE)), (29, (vb (b2'0 || (decide ((aB.len : Int) > 20)))))]) ?_ ?_
  ·clear hs hb
   rintro ρ w15 ⟨b2'0, H3, he0, hs, hb, hH⟩
   subst he0
   refine wpL_has hH ?_
   clear hH
   refine q0 (vb (r11 || (decide ((aB.len : Int) > 20)))) ?_
   refine wpL_join 4 (fun ρ wJ => ∃ b3'0 : Bool, ∃ HJ : Nat → Prop, ((r11 || (decide ((aB.len : Int) > 20))) = b3'0) ∧ Hst w0 H1 w14 HJ wJ ∧ HB HJ wJ [(p1, [aD.v, aB.v, aC.v, (vi aE)], 87)] ∧ Has ρ [(3, aD.v), (4, aB.v), (5, aC.v), (6, (vi aE)), (34, (vb (b3'0 || (decide ((aC.len : Int) > 60)))))]) ?_ ?_
   ·clear hs hb
    rintro ρ w16 ⟨b3'0, H4, he0, hs, hb, hH⟩
    subst he0
    refine wpL_has hH ?_
    clear hH
    refine wpL_nil ?_
    replace h := h H4 w16 hs
    replace hs := hs.here
    refine th_n ?_
    exact ⟨((r11 || (decide ((aB.len : Int) > 20))) || (decide ((aC.len : Int) > 60))), H4, Has.mk (by kernel_rfl), hs, hb, h⟩
   ·skip
    rcases Bool.eq_false_or_eq_true (r11 || (decide ((aB.len : Int) > 20))) with hg7 | hg7
    ·skip
     refine sk (yD 30 hg7) (sk (yD 30 hg7) (sk (yD 30 hg7) (q2 (vb true) (xT hg7) (wpL_nil ?_))))
     exact ⟨true, _, hg7, hs, hb, Has.mk (by kernel_rfl)⟩
    ·skip
     refine q1 aC.v (want1 rfl (yD 30 hg7)) (q1 (vi (aC.len : Int)) (want1 rfl (yD 30 hg7)) (q1 (vb (decide ((aC.len : Int) > 60))) (want1 rfl (yD 30 hg7)) (q2 (vb (decide ((aC.len : Int) > 60))) (xF hg7) (wpL_nil ?_))))
     exact ⟨false, _, hg7, hs, hb, Has.mk (by kernel_rfl)⟩
  ·skip
   rcases Bool.eq_false_or_eq_true r11 with hg5 | hg5
   ·skip
    refine sk (yD 25 hg5) (sk (yD 25 hg5) (sk (yD 25 hg5) (q2 (vb true) (xT hg5) (wpL_nil ?_))))
    exact ⟨true, _, hg5, hs, hb, Has.mk (by kernel_rfl)⟩
   ·skip
    refine q1 aB.v (want1 rfl (yD 25 hg5)) (q1 (vi (aB.len : Int)) (want1 rfl (yD 25 hg5)) (q1 (vb (decide ((aB.len : Int) > 20))) (want1 rfl (yD 25 hg5)) (q2 (vb (decide ((aB.len : Int) > 20))) (xF hg5) (wpL_nil ?_))))
    exact ⟨false, _, hg5, hs, hb, Has.mk (by kernel_rfl)⟩
end Go.Proofs
end
section
open Go Go.SE
namespace Go.Proofs
attribute [local irreducible] Calls
structure KnAt (w0 : World) (H : Nat → Prop) (w : World) (p k : Addr) (L : Sp.Pool) (G : List Int) (S : List Sp.Way) (FP F : Nat → Prop) : Prop where
 pool : PoolAt w p L FP
 know : KnowAt w k p G S F
 pure : Pure w0 w
 oP : ∀ b, FP b → w0.heap.size ≤ b ∧ ¬ H b
 oF : ∀ b, F b → w0.heap.size ≤ b ∧ ¬ H b ∧ ¬ FP b
 hs : Hst w0 H w H w
section
variable {w0 w w' : World} {H H' : Nat → Prop} {p k : Addr} {L L' : Sp.Pool} {G G' : List Int} {S S' : List Sp.Way} {FP FP' F F' : Nat → Prop}
theorem KnAt.pureE (h : KnAt w0 H w p k L G S FP F) (E : Pure w w') : KnAt w0 H w' p k L G S FP F := ⟨h.pool.pure E, h.know.pure E, h.pure.trans E, h.oP, h.oF, h.hs.again E.keptP⟩
theorem KnAt.hst (h : KnAt w0 H w p k L G S FP F) (hs : Hst w0 H w H' w') : KnAt w0 H' w' p k L G S FP F := by
 have x1 := hs.disj (G := FP) (fun b hb => ⟨h.pool.lt hb, (h.oP b hb).2⟩)
 have x2 := hs.disj (G := F) (fun b hb => ⟨h.know.lt hb, (h.oF b hb).2.1⟩)
 exact ⟨h.pool.ext hs.ext x1, h.know.ext hs.ext x2, h.pure.hst hs, fun b hb => ⟨(h.oP b hb).1, x1 b hb⟩, fun b hb => ⟨(h.oF b hb).1, x2 b hb, (h.oF b hb).2.2⟩, hs.here⟩
theorem KnAt.make (h : KnAt w0 H w p k L G S FP F) (hP : PoolAt w' p L' FP') (E : Ext FP w w') (hF : ∀ b, FP' b → FP b ∨ w.heap.size ≤ b) : Kept H w w' ∧ KnAt w0 H w' p k L' G S FP' F := by
 have hk : Kept H w w' := E.kept (fun b hb hf => (h.oP b hf).2 hb)
 refine ⟨hk, hP, h.know.ext E (fun b hb => (h.oF b hb).2.2), h.pure.trans' E (fun i hi hb => by have := (h.oP i hb).1; omega), fun b hb => ?_, fun b hb => ⟨(h.oF b hb).1, (h.oF b hb).2.1, fun hx => ?_⟩, h.hs.again hk⟩
 ·rcases hF b hb with h1 | h1
  ·exact h.oP b h1
  ·exact ⟨by have := h.pure.size; omega, fun hh => by have := h.hs.lt b hh; omega⟩
 ·rcases hF b hx with h1 | h1
  ·exact (h.oF b hb).2.2 h1
  ·have := h.know.lt hb; omega
theorem KnAt.add (h : KnAt w0 H w p k L G S FP F) (hK : KnowAt w' k p G' S' F') (E : Ext F w w') (hF : ∀ b, F' b → F b ∨ w.heap.size ≤ b) : Kept H w w' ∧ KnAt w0 H w' p k L G' S' FP F' := by
 have hk : Kept H w w' := E.kept (fun b hb hf => (h.oF b hf).2.1 hb)
 refine ⟨hk, h.pool.ext E (fun b hb hf => (h.oF b hf).2.2 hb), hK, h.pure.trans' E (fun i hi hb => by have := (h.oF i hb).1; omega), h.oP, fun b hb => ?_, h.hs.again hk⟩
 rcases hF b hb with h1 | h1
 ·exact h.oF b h1
 ·exact ⟨by have := h.pure.size; omega, fun hh => by have := h.hs.lt b hh; omega, fun hh => by have := h.pool.lt hh; omega⟩
end
theorem tm_box {w : World} {p : Addr} {T : TypeId} (t : Int) (h : Box w p [.int .i64 t] T) : Lst (· = p.block) w 1 ⟨some p, 1, 1⟩ (tmr [t]) := by
 refine ⟨by simp [tmr], fun i hi => ?_⟩
 have hi0 : i = 0 := by simpa [tmr] using hi
 subst hi0
 refine ⟨p, ⟨by omega, by simp, p, rfl, by simp [Addr.add]⟩, rfl, fun j hj => ?_⟩
 have hj0 : j = 0 := by simpa [tmr] using hj
 subst hj0
 have := h.cell0
 simpa [tmr, Addr.add] using this
theorem c_live8 (w0 : World) : Calls Try.prog 34 #[] w0 (fun e w' => ∃ r : Bool, e = .returned (.bool r) ∧ (r = true ∧ Pure w0 w')) := by
 refine w_law08_live w0 (fun r w' => r = true ∧ Pure w0 w') ?_
 unfold m_law08_live
 refine (c_New w0).mono ?_
 rintro _ w1 ⟨_, rfl, p, rfl, E1, FP1, hP1, hF1⟩
 refine ⟨_, rfl, E1.keptP, ?_⟩
 refine (c_ded_New p w1).mono ?_
 rintro _ w2 ⟨_, rfl, k, F, rfl, hk2, E2, hF2⟩
 refine ⟨_, rfl, E2.keptP, Br.f rfl ?_⟩
 have A2 : KnAt w0 None w2 p k [] [] [] FP1 F := ⟨hP1.pure E2, hk2, E1.trans E2, fun b hb => ⟨hF1 b hb, fun h => h⟩, fun b hb => ⟨by have := hF2 b hb; have := E1.size; omega, fun h => h, fun h => by have := hF2 b hb; have := hP1.lt h; omega⟩, (Hst.start w0).again (E1.trans E2).keptP⟩
 intro H1 w3 hs3
 have A3 := A2.hst hs3
 refine (c_Num p w3 A3.pool Sp.Wf.nil.ok 1).mono ?_
 rintro _ w4 ⟨r3, r4, rfl, hr, FP4, hP4, E4, hF4⟩
 rw [show (⟨2, 0, 0, 1, ⟨#[]⟩, 0, 0⟩ : Sp.Node) = Sp.l8a from rfl, Sp.l8m1] at hr hP4; cases hr
 obtain ⟨k4, A4⟩ := A3.make hP4 E4 hF4
 refine ⟨_, _, rfl, k4, ?_⟩
 refine (c_Name p w4 A4.pool Sp.l8w1.ok 2).mono ?_
 rintro _ w5 ⟨r5, r6, rfl, hr, FP5, hP5, E5, hF5⟩
 rw [show (⟨1, 2, 0, 0, ⟨#[]⟩, 0, 0⟩ : Sp.Node) = Sp.l8b from rfl, Sp.l8m2] at hr hP5; cases hr
 obtain ⟨k5, A5⟩ := A4.make hP5 E5 hF5
 refine ⟨_, _, rfl, k5, ?_⟩
 refine (c_Pair p w5 A5.pool Sp.l8w2.ok 1 2).mono ?_
 rintro _ w6 ⟨r7, r8, rfl, hr, FP6, hP6, E6, hF6⟩
 rw [show (⟨4, 0, 0, 0, ⟨#[]⟩, 1, 2⟩ : Sp.Node) = Sp.l8c from rfl, Sp.l8m3] at hr hP6; cases hr
 obtain ⟨k6, A6⟩ := A5.make hP6 E6 hF6
 refine ⟨_, _, rfl, k6, ?_⟩
 refine (c_Sign p w6 A6.pool Sp.l8w3.ok 0 3).mono ?_
 rintro _ w7 ⟨r9, r10, rfl, hr, FP7, hP7, E7, hF7⟩
 rw [show (⟨7, 0, 0, 0, ⟨#[]⟩, 3, 0⟩ : Sp.Node) = Sp.l8s from rfl, Sp.l8m4] at hr hP7; cases hr
 obtain ⟨k7, A7⟩ := A6.make hP7 E7 hF7
 refine ⟨_, _, rfl, k7, ?_⟩
 refine (c_Hash p w7 A7.pool Sp.l8w4.ok 1).mono ?_
 rintro _ w8 ⟨r11, r12, rfl, hr, FP8, hP8, E8, hF8⟩
 rw [show (⟨5, 0, 0, 0, ⟨#[]⟩, 1, 0⟩ : Sp.Node) = Sp.l8h from rfl, Sp.l8m5] at hr hP8; cases hr
 obtain ⟨k8, A8⟩ := A7.make hP8 E8 hF8
 refine ⟨_, _, rfl, k8, ?_⟩
 refine (c_Key p w8 A8.pool Sp.l8w5.ok 0).mono ?_
 rintro _ w9 ⟨r13, r14, rfl, hr, FP9, hP9, E9, hF9⟩
 rw [show (⟨6, 0, 0, 0, ⟨#[]⟩, 0, 0⟩ : Sp.Node) = Sp.l8k from rfl, Sp.l8m6] at hr hP9; cases hr
 obtain ⟨k9, A9⟩ := A8.make hP9 E9 hF9
 refine ⟨_, _, rfl, k9, ?_⟩
 refine (c_Sign p w9 A9.pool Sp.l8w6.ok 0 1).mono ?_
 rintro _ w10 ⟨r15, r16, rfl, hr, FP, hP10, E10, hF10⟩
 rw [show (⟨7, 0, 0, 0, ⟨#[]⟩, 1, 0⟩ : Sp.Node) = Sp.l8u from rfl, Sp.l8m7] at hr hP10; cases hr
 obtain ⟨k10, A10⟩ := A9.make hP10 E10 hF10
 refine ⟨_, _, rfl, k10, ?_⟩
 have hW := Sp.l8w7
 refine (c_ded_Add k p 4 w10 A10.know A10.pool hW (fun b hb => (A10.oF b hb).2.2) (Sp.KnowOk.nil _)).mono ?_
 rintro _ w11 ⟨_, rfl, rfl, S1, F1, hK1, ok1, X11, f11⟩
 rw [show Sp.giveT Sp.l87 [] 4 = [4] by unfold Sp.giveT; rw [if_pos Sp.l8in.1]; rfl] at hK1 ok1
 obtain ⟨k11, A11⟩ := A10.add hK1 X11 f11
 refine ⟨_, rfl, k11, ?_⟩
 have hs1 : ∀ t, t ∈ Sp.wkeys S1 ↔ Sp.Seen Sp.l87 [4] t := ok1.seen_iff
 refine (c_ded_Proof k p 5 w11 hW ok1 A11.know A11.pool).mono ?_
 rintro _ w12 ⟨r18, r19, rfl, l, hr18, hd19, _, hpf⟩
 have h19 := hd19.2 Sp.l8hash
 subst h19
 obtain ⟨hne, hfol, hnd, hlast, _⟩ := hpf rfl
 refine ⟨_, _, rfl, hr18.kept, ?_⟩
 have A12 := A11.pureE hr18.pure
 intro p1 w13 h13
 have E13 : Pure w12 w13 := Ext.new h13
 have A13 := A12.pureE E13
 have hfew : l.length ≤ 7 := by
  have := Sp.pool_few (L := Sp.l87) hnd (fun t ht => by
   obtain ⟨s, hs, rfl⟩ := List.mem_map.1 ht
   obtain ⟨i, hi, rfl⟩ := List.getElem_of_mem hs
   exact Sp.fol_in (hfol i hi))
  simpa [Sp.l87] using this
 refine (c_ded_Check p _ r18 [4] l 5 w13 A13.pool hW.ok (tm_box 4 (Box.of_new h13)) (hr18.rows.pure E13).lst (by simp) (by omega)).mono ?_
 rintro _ w14 ⟨r20, r21, rfl, hch, E14⟩
 have hc0 : Sp.check8 Sp.l87 [4] l 5 = (0, 0) := by
  unfold Sp.check8
  rw [Sp.badAt_none hfol]
  have : l.length ≠ 0 := fun h => hne (List.length_eq_zero_iff.1 h)
  simp [this, hlast]
 rw [hc0] at hch; cases hch
 have A14 := A13.pureE E14
 refine ⟨_, _, rfl, E14.keptP, ?_⟩
 refine (c_ded_Derives k p 7 w14 hW ok1 A14.know A14.pool).mono ?_
 rintro _ w15 ⟨r22, rfl, hd22, E15⟩
 have h22 : r22 = false := by
  cases r22 with
  | false => rfl
  | true =>
   refine absurd (hd22.1 rfl) (Sp.l8u_no (fun h => ?_) (fun h => ?_))
   ·have := Sp.l8see6 ((hs1 7).1 h); omega
   ·have := Sp.l8see6 ((hs1 6).1 h); omega
 subst h22
 have A15 := A14.pureE E15
 refine ⟨_, rfl, E15.keptP, ?_⟩
 refine (c_ded_Add k p 6 w15 A15.know A15.pool hW (fun b hb => (A15.oF b hb).2.2) ok1).mono ?_
 rintro _ w16 ⟨_, rfl, rfl, S2, F2, hK2, ok2, X16, f16⟩
 rw [show Sp.giveT Sp.l87 [4] 6 = [4, 6] by unfold Sp.giveT; rw [if_pos Sp.l8in.2.1]; rfl] at hK2 ok2
 obtain ⟨k16, A16⟩ := A15.add hK2 X16 f16
 refine ⟨_, rfl, k16, ?_⟩
 have hs2 : ∀ t, t ∈ Sp.wkeys S2 ↔ Sp.Seen Sp.l87 [4, 6] t := ok2.seen_iff
 have hnil : Lst (fun _ => False) w16 1 Sl.nil (tmr []) := ⟨rfl, fun i hi => by simp [tmr] at hi⟩
 have hnil4 : Lst (fun _ => False) w16 4 Sl.nil (([] : List Sp.Step).map strow) := ⟨rfl, fun i hi => by simp at hi⟩
 refine (c_ded_Check p Sl.nil Sl.nil [] [] 5 w16 A16.pool hW.ok hnil hnil4 (by simp) (by simp)).mono ?_
 rintro _ w17 ⟨r24, r25, rfl, hch, E17⟩
 have hc1 : Sp.check8 Sp.l87 [] [] 5 = (81, 0) := by kernel_rfl
 rw [hc1] at hch; cases hch
 have A17 := A16.pureE E17
 refine ⟨_, _, rfl, E17.keptP, ?_⟩
 have l18 : r18.len = l.length := by rw [hr18.rows.len]; simp
 rintro y1 rfl
 refine Br.t ?_ ?_
 ·have hpos : 0 < l.length := List.length_pos_iff.2 hne
  simp [Sp.l8in.1, Sp.l8in.2.1, l18, hpos]
 intro H6 w27 hs27
 have A27 := A17.hst hs27
 refine (c_ded_Derives k p 7 w27 hW ok2 A27.know A27.pool).mono ?_
 rintro _ w34 ⟨r30, rfl, hd30, E34⟩
 have h30 := hd30.2 (Sp.l8u_yes ((hs2 6).2 (.given (by simp))))
 subst h30
 have A34 := A27.pureE E34
 refine ⟨_, rfl, E34.keptP, ?_⟩
 unfold m_law08_live_j1
 refine Br.t rfl ?_
 refine (c_ded_Sees k p 7 w34 A34.know).mono ?_
 rintro _ w33 ⟨r29, rfl, rfl, E33⟩
 have A33 := A34.pureE E33
 refine ⟨_, rfl, E33.keptP, ?_⟩
 have n7 : 7 ∉ Sp.wkeys S2 := fun h => by have := Sp.l8see (fun t ht => by simp at ht; exact ht) ((hs2 7).1 h); omega
 rw [show (!decide ((7 : Int) ∈ Sp.wkeys S2)) = true by simp [n7]]
 unfold m_law08_live_j2
 refine Br.t rfl ?_
 refine (c_ded_Sees k p 1 w33 A33.know).mono ?_
 rintro _ w32 ⟨r28, rfl, rfl, E32⟩
 have A32 := A33.pureE E32
 refine ⟨_, rfl, E32.keptP, ?_⟩
 have y1 : (1 : Int) ∈ Sp.wkeys S2 := (hs2 1).2 (Sp.l8seen (by simp))
 rw [decide_eq_true y1]
 unfold m_law08_live_j3
 refine Br.t rfl ?_
 intro H7 w28 hs28
 have A28 := A32.hst hs28
 refine (c_ded_Given k p w28 A28.know (by simp)).mono ?_
 rintro _ w31 ⟨r27, rfl, hr27⟩
 have A31 := A28.pureE hr27.pure
 refine ⟨_, rfl, hr27.kept, ?_⟩
 have l27 : r27.len = 2 := by rw [hr27.rows.len]; rfl
 rw [l27]
 unfold m_law08_live_j4
 refine Br.t rfl ?_
 refine (c_ded_Add k p 99 w31 A31.know A31.pool hW (fun b hb => (A31.oF b hb).2.2) ok2).mono ?_
 rintro _ w29 ⟨_, rfl, rfl, S3, F3, hK3, ok3, X29, f29⟩
 obtain ⟨k29, A29⟩ := A31.add hK3 X29 f29
 refine ⟨_, rfl, k29, ?_⟩
 intro w30 hs30
 exact ⟨by simp [Sp.l8in.2.2], (A29.hst hs30).pure⟩
end Go.Proofs
end
section
open Go Go.SE
namespace Go.Sp
def poolStep (q : Pool × List Int) (t : Tree) : Pool × List Int := ((of q.1 t).2.2, q.2 ++ [(of q.1 t).1])
def poolAll (ts : List Tree) : Pool × List Int := ts.foldl poolStep ([], [])
theorem cntAll_snoc (ts : List Tree) (t : Tree) : cntAll (ts ++ [t]) = cntAll ts + cnt t := by
 induction ts with
 | nil => simp [cntAll]
 | cons a ts ih => rw [List.cons_append, cntAll, cntAll, ih]; omega
theorem make_few8 (L : Pool) (n : Node) : (make L n).2.2.length ≤ L.length + 1 := by
 rcases make_pool L n with e | ⟨_, e⟩ <;> rw [e] <;> simp
theorem grow_few8 (t : Tree) : ∀ L, (grow L t).2.2.length ≤ L.length + cnt t := by
 induction t using Tree.ind with
 | h k f t u x ks ih =>
  have : ∀ (ks : List Tree), (∀ i (hi : i < ks.length), ∀ L, (grow L ks[i]).2.2.length ≤ L.length + cnt ks[i]) → ∀ n i L, (growAll n i L ks).2.2.length ≤ L.length + 1 + cntAll ks := by
   intro ks
   induction ks with
   | nil => intro _ n i L; unfold growAll; have := make_few8 L n; simp only [cntAll]; omega
   | cons t ts iht =>
    intro hh n i L
    have h0 := hh 0 (by simp) L
    simp only [List.getElem_cons_zero] at h0
    unfold growAll
    simp only [cntAll]
    split
    ·simp only; omega
    ·have := iht (fun i hi => hh (i + 1) (by simpa using hi)) (if i = 0 then { n with a := (grow L t).1 } else { n with b := (grow L t).1 }) (i + 1) (grow L t).2.2
     omega
  intro L
  have := this ks ih ⟨k, f, t, u, x, 0, 0⟩ 0 L
  unfold grow
  rw [cnt]; omega
theorem of_few8 (L : Pool) (t : Tree) : (of L t).2.2.length ≤ L.length + cnt t := by
 have := grow_few8 t L
 unfold of
 split
 ·simp only; omega
 ·split
  ·simp only; omega
  ·exact this
theorem poolAll_ok (ts : List Tree) : Wf (poolAll ts).1 ∧ (poolAll ts).1.length ≤ cntAll ts ∧ (poolAll ts).2.length = ts.length := by
 have : ∀ (ts : List Tree) q, Wf q.1 → Wf (ts.foldl poolStep q).1 ∧ (ts.foldl poolStep q).1.length ≤ q.1.length + cntAll ts ∧ (ts.foldl poolStep q).2.length = q.2.length + ts.length := by
  intro ts
  induction ts with
  | nil => intro q h; exact ⟨h, by simp [cntAll], by simp⟩
  | cons t ts ih =>
   intro q h
   obtain ⟨h1, h2, h3⟩ := ih (poolStep q t) (of_wf h t)
   have := of_few8 q.1 t
   refine ⟨h1, ?_, ?_⟩
   ·rw [List.foldl_cons, cntAll]; unfold poolStep at h2 ⊢; simp only at h2; omega
   ·rw [List.foldl_cons, h3]; simp [poolStep]; omega
 obtain ⟨h1, h2, h3⟩ := this ts ([], []) Wf.nil
 exact ⟨h1, by unfold poolAll; simpa using h2, by unfold poolAll; simpa using h3⟩
end Go.Sp
namespace Go.Proofs
attribute [local irreducible] Calls
theorem c_law08_wide {S : Nat → Prop} (ts : List Sp.Tree) (s : Sl) (w0 : World) (hT : TreeAt S w0 s (.mk 0 0 0 0 ⟨#[]⟩ ts)) (hS : ∀ b, S b → b < w0.heap.size) :
  Calls Try.prog 33 #[s.v] w0 (fun e w' => ∃ r : Bool, e = .returned (.bool r) ∧ ((r = false → ts.length ≤ 12 ∧ Sp.cntAll ts ≤ 400) ∧ Pure w0 w')) := by
 refine w_law08_wide _ w0 (fun r w' => (r = false → ts.length ≤ 12 ∧ Sp.cntAll ts ≤ 400) ∧ Pure w0 w') ?_
 unfold m_law08_wide
 cases hT with
 | mk _ _ _ _ _ _ _ rs len fit row kid =>
 refine ⟨fun n i w' => ∃ j : Nat, i = j ∧ j ≤ ts.length ∧ j ≤ 13 ∧ n = (Sp.cntAll (ts.take j) : Nat) ∧ n < 400 ∧ Pure w0 w', fun _ i _ => (14 - i).toNat, ⟨0, rfl, Nat.zero_le _, by omega, by simp [Sp.cntAll], by omega, Ext.refl _⟩, ?_⟩
 rintro n _ wl ⟨j, rfl, hj, hj13, hn, hn4, E⟩
 unfold m_law08_wide_l1
 refine ⟨fun h => ?_, fun h => ⟨fun hr => ?_, E⟩⟩
 ·rw [Bool.and_eq_true] at h
  have hlt := lt_of_dec len h.1
  have h12 := of_decide_eq_true h.2
  obtain ⟨a, hat, hSa, hrow⟩ := row j hlt
  have hkid := kid j hlt
  have htk : ts.take (j + 1) = ts.take j ++ [ts[j]] := List.take_succ_eq_append_getElem hlt
  have hsn := Sp.cntAll_snoc (ts.take j) ts[j]
  rw [← htk] at hsn
  generalize ts[j] = x at *
  generalize rs j = sx at *
  obtain ⟨xk, xf, xt, xu, xx, xks⟩ := x
  have hrl : Row wl a (trow (.mk xk xf xt xu xx xks) sx) := E.row hrow (fun h => h)
  refine ⟨a, hat, _, _, _, _, _, sx, hrl, ?_⟩
  refine (c_ref05_Parts (.mk xk xf xt xu xx xks) sx 400 wl (by omega) (by omega) (hkid.pure E) (fun b hb => by have := hS b hb; have := E.size; omega)).mono ?_
  rintro _ w1 ⟨r, rfl, rfl, E1⟩
  obtain ⟨p1, p2, p3⟩ := Sp.parts_facts (.mk xk xf xt xu xx xks) 400 (by omega)
  generalize Sp.parts 400 (.mk xk xf xt xu xx xks) = r at *
  refine ⟨r, rfl, ?_⟩
  rw [IntWalk.i64_in _ (by omega), IntWalk.i64_in _ (by omega)]
  refine ⟨fun h => ⟨(fun h => by cases h), E.trans E1⟩, fun h => ?_⟩
  have h := of_decide_eq_false h
  have hc := p3 (by omega)
  refine ⟨⟨j + 1, by omega, hlt, by omega, ?_, by omega, E.trans E1⟩, by show (14 - ((j : Int) + 1)).toNat < (14 - (j : Int)).toNat; omega⟩
  rw [hsn]; omega
 ·have hr := of_decide_eq_false hr
  have hjl : j = ts.length := by
   rw [Bool.and_eq_false_iff] at h
   rcases h with h | h
   ·exact eq_of_dec len hj h
   ·have := of_decide_eq_false h; omega
  subst hjl
  rw [List.take_length] at hn
  exact ⟨by omega, by omega⟩
structure Pl3 (w0 : World) (H : Nat → Prop) (w : World) (p q : Addr) (L1 L2 : Sp.Pool) (t : Sl) (ids : List Int) (F1 F2 : Nat → Prop) : Prop where
 pure : Pure w0 w
 pool : PoolAt w p L1 F1
 ref : PoolR w q L2 F2
 ts : Rws w 41 1 t (tmr ids)
 o1 : ∀ b, F1 b → w0.heap.size ≤ b ∧ ¬ H b ∧ ¬ F2 b ∧ ¬ t.blk b
 o2 : ∀ b, F2 b → w0.heap.size ≤ b ∧ ¬ H b ∧ ¬ t.blk b
 o3 : ∀ b, t.blk b → w0.heap.size ≤ b ∧ ¬ H b
section
variable {w0 w w' : World} {H H' : Nat → Prop} {p q : Addr} {L1 L2 : Sp.Pool} {t : Sl} {ids : List Int} {F1 F2 : Nat → Prop}
theorem Pl3.pureE (h : Pl3 w0 H w p q L1 L2 t ids F1 F2) (E : Pure w w') : Pl3 w0 H w' p q L1 L2 t ids F1 F2 := ⟨h.pure.trans E, h.pool.pure E, h.ref.pure E, h.ts.pure E, h.o1, h.o2, h.o3⟩
theorem Pl3.hst (h : Pl3 w0 H w p q L1 L2 t ids F1 F2) (hs : Hst w0 H w H' w') : Pl3 w0 H' w' p q L1 L2 t ids F1 F2 := by
 have d : ∀ b, b < w.heap.size → ¬ H b → ¬ H' b := fun b h1 h2 => hs.disj (G := (· = b)) (fun c e => by subst e; exact ⟨h1, h2⟩) b rfl
 have d1 : ∀ b, F1 b → ¬ H' b := fun b hb => d b (h.pool.lt hb) (h.o1 b hb).2.1
 have d2 : ∀ b, F2 b → ¬ H' b := fun b hb => d b (h.ref.lt hb) (h.o2 b hb).2.1
 have d3 : ∀ b, t.blk b → ¬ H' b := fun b hb => d b (h.ts.lt hb) (h.o3 b hb).2
 exact ⟨h.pure.hst hs, h.pool.ext hs.ext d1, h.ref.ext hs.ext d2, h.ts.ext hs.ext d3, fun b hb => ⟨(h.o1 b hb).1, d1 b hb, (h.o1 b hb).2.2⟩, fun b hb => ⟨(h.o2 b hb).1, d2 b hb, (h.o2 b hb).2.2⟩, fun b hb => ⟨(h.o3 b hb).1, d3 b hb⟩⟩
theorem Pl3.of1 (h : Pl3 w0 H w p q L1 L2 t ids F1 F2) (hH : ∀ b, H b → b < w.heap.size) {L : Sp.Pool} {F : Nat → Prop} (hP : PoolAt w' p L F) (hE : Ext F1 w w') (hF : ∀ b, F b → F1 b ∨ w.heap.size ≤ b) : Pl3 w0 H w' p q L L2 t ids F F2 := by
 refine ⟨h.pure.trans' hE (fun i hi hb => by have := (h.o1 i hb).1; omega), hP, h.ref.ext hE (fun b hb h1 => (h.o1 b h1).2.2.1 hb), h.ts.ext hE (fun b hb h1 => (h.o1 b h1).2.2.2 hb), fun b hb => ?_, h.o2, h.o3⟩
 rcases hF b hb with h1 | h1
 ·exact h.o1 b h1
 ·exact ⟨by have := h.pure.size; omega, fun hh => by have := hH b hh; omega, fun hh => by have := h.ref.lt hh; omega, fun hh => by have := h.ts.lt hh; omega⟩
theorem Pl3.of2 (h : Pl3 w0 H w p q L1 L2 t ids F1 F2) (hH : ∀ b, H b → b < w.heap.size) {L : Sp.Pool} {F : Nat → Prop} (hP : PoolR w' q L F) (hE : Ext F2 w w') (hF : ∀ b, F b → F2 b ∨ w.heap.size ≤ b) : Pl3 w0 H w' p q L1 L t ids F1 F := by
 refine ⟨h.pure.trans' hE (fun i hi hb => by have := (h.o2 i hb).1; omega), h.pool.ext hE (fun b hb h1 => (h.o1 b hb).2.2.1 h1), hP, h.ts.ext hE (fun b hb h1 => (h.o2 b h1).2.2 hb), fun b hb => ?_, fun b hb => ?_, h.o3⟩
 ·refine ⟨(h.o1 b hb).1, (h.o1 b hb).2.1, fun hh => ?_, (h.o1 b hb).2.2.2⟩
  rcases hF b hh with h1 | h1
  ·exact (h.o1 b hb).2.2.1 h1
  ·have := h.pool.lt hb; omega
 ·rcases hF b hb with h1 | h1
  ·exact h.o2 b h1
  ·exact ⟨by have := h.pure.size; omega, fun hh => by have := hH b hh; omega, fun hh => by have := h.ts.lt hh; omega⟩
theorem Pl3.of3 (h : Pl3 w0 H w p q L1 L2 t ids F1 F2) (hH : ∀ b, H b → b < w.heap.size) {t' : Sl} {ids' : List Int} (hP : Rws w' 41 1 t' (tmr ids')) (hE : Ext t.blk w w') (hF : ∀ b, t'.blk b → t.blk b ∨ w.heap.size ≤ b) : Pl3 w0 H w' p q L1 L2 t' ids' F1 F2 := by
 refine ⟨h.pure.trans' hE (fun i hi hb => by have := (h.o3 i hb).1; omega), h.pool.ext hE (fun b hb h1 => (h.o1 b hb).2.2.2 h1), h.ref.ext hE (fun b hb h1 => (h.o2 b hb).2.2 h1), hP, fun b hb => ?_, fun b hb => ?_, fun b hb => ?_⟩
 ·refine ⟨(h.o1 b hb).1, (h.o1 b hb).2.1, (h.o1 b hb).2.2.1, fun hh => ?_⟩
  rcases hF b hh with h1 | h1
  ·exact (h.o1 b hb).2.2.2 h1
  ·have := h.pool.lt hb; omega
 ·refine ⟨(h.o2 b hb).1, (h.o2 b hb).2.1, fun hh => ?_⟩
  rcases hF b hh with h1 | h1
  ·exact (h.o2 b hb).2.2 h1
  ·have := h.ref.lt hb; omega
 ·rcases hF b hb with h1 | h1
  ·exact h.o3 b h1
  ·exact ⟨by have := h.pure.size; omega, fun hh => by have := hH b hh; omega⟩
end
theorem c_law08_pools {S : Nat → Prop} (ts : List Sp.Tree) (s : Sl) (w0 : World) (hT : TreeAt S w0 s (.mk 0 0 0 0 ⟨#[]⟩ ts)) (hS : ∀ b, S b → b < w0.heap.size) (hn : ts.length ≤ 12) :
  Calls Try.prog 35 #[s.v] w0 (fun e w' => ∃ r1 : Option Addr, ∃ r2 : Option Addr, ∃ r3 : Sl, ∃ r4 : Bool, e = .returned (.tuple #[.pointer r1, .pointer r2, r3.v, .bool r4]) ∧ ∃ p q F1 F2, r1 = some p ∧ r2 = some q ∧ r4 = true ∧ Pl3 w0 None w' p q (Sp.poolAll ts).1 (Sp.poolAll ts).1 r3 (Sp.poolAll ts).2 F1 F2) := by
 suffices key : ∀ K : Option Addr → Option Addr → Sl → Bool → World → Prop, (∀ p q F1 F2 H r3 w', Pl3 w0 H w' p q (Sp.poolAll ts).1 (Sp.poolAll ts).1 r3 (Sp.poolAll ts).2 F1 F2 → K (some p) (some q) r3 true w') → m_law08_pools s w0 K from
  w_law08_pools _ w0 _ (key _ (fun p q F1 F2 H r3 w' h => ⟨p, q, F1, F2, rfl, rfl, rfl, h.pure, h.pool, h.ref, h.ts, fun b hb => ⟨(h.o1 b hb).1, id, (h.o1 b hb).2.2⟩, fun b hb => ⟨(h.o2 b hb).1, id, (h.o2 b hb).2.2⟩, fun b hb => ⟨(h.o3 b hb).1, id⟩⟩))
 intro K hK
 have hnil : ∀ b, Sl.nil.blk b → False := fun b hb => by obtain ⟨a, h, _⟩ := hb; cases h
 cases hT with
 | mk _ _ _ _ _ _ _ rs len fit row kid =>
 unfold m_law08_pools
 refine (c_New w0).mono ?_
 rintro _ w1 ⟨_, rfl, p, rfl, E1, F1, hP1, hF1⟩
 refine ⟨_, rfl, E1.keptP, ?_⟩
 refine (c_ref05_New w1).mono ?_
 rintro _ w2 ⟨_, rfl, q, F2, rfl, hP2, E2, hF2⟩
 refine ⟨_, rfl, E2.keptP, Br.f rfl ?_⟩
 have S0 : Pl3 w0 None w2 p q [] [] Sl.nil [] F1 F2 := ⟨E1.trans E2, hP1.pure E2, hP2, Rws.nil _ _ _,
  fun b hb => ⟨hF1 b hb, id, fun h2 => by have := hF2 b h2; have := hP1.lt hb; omega, hnil b⟩, fun b hb => ⟨by have := hF2 b hb; have := E1.size; omega, id, hnil b⟩, fun b hb => (hnil b hb).elim⟩
 refine ⟨fun t i H w' => ∃ j : Nat, i = j ∧ j ≤ ts.length ∧ ∃ F1 F2, Pl3 w0 H w' p q (Sp.poolAll (ts.take j)).1 (Sp.poolAll (ts.take j)).1 t (Sp.poolAll (ts.take j)).2 F1 F2, fun _ i _ => ((ts.length : Int) - i).toNat, ⟨0, rfl, Nat.zero_le _, F1, F2, S0⟩, ?_⟩
 rintro t _ Hl wl hl ⟨j, rfl, hj, F1, F2, hq⟩
 unfold m_law08_pools_l1
 refine ⟨fun h => ?_, fun h => ?_⟩
 ·have hlt := lt_of_dec len h
  have htk : ts.take (j + 1) = ts.take j ++ [ts[j]] := List.take_succ_eq_append_getElem hlt
  obtain ⟨hW, _, hlens⟩ := Sp.poolAll_ok (ts.take j)
  rw [List.length_take, Nat.min_eq_left (by omega)] at hlens
  have hstep : Sp.poolAll (ts.take (j + 1)) = Sp.poolStep (Sp.poolAll (ts.take j)) ts[j] := by rw [htk]; unfold Sp.poolAll; rw [List.foldl_append]; rfl
  generalize Sp.poolAll (ts.take j) = Q at *
  obtain ⟨a, hat, hSa, hrow⟩ := row j hlt
  have hkid := kid j hlt
  generalize ts[j] = x at *
  generalize rs j = sx at *
  obtain ⟨xk, xf, xt, xu, xx, xks⟩ := x
  have hrl : Row wl a (trow (.mk xk xf xt xu xx xks) sx) := hq.pure.row hrow (fun h => h)
  refine ⟨a, hat, _, _, _, _, _, sx, hrl, ?_⟩
  refine (c_Of (S := S) p (.mk xk xf xt xu xx xks) sx wl (hkid.pure hq.pure) hq.pool hW.ok (fun b hb hh => by have := (hq.o1 b hb).1; have := hS b hh; omega) (fun b hb => by have := hS b hb; have := hq.pure.size; omega)).mono ?_
  rintro _ w3 ⟨r3, r4, rfl, h34, F1', hP3, E3, hF3⟩
  have k3 : Kept Hl wl w3 := E3.kept (fun b hb h1 => (hq.o1 b h1).2.1 hb)
  refine ⟨_, _, rfl, k3, ?_⟩
  have hq3 := hq.of1 (fun b hb => hl.lt b hb) hP3 E3 hF3
  have hl3 := hl.again k3
  have hr3 : Row w3 a (trow (.mk xk xf xt xu xx xks) sx) := hq3.pure.row hrow (fun h => h)
  refine ⟨a, hat, _, _, _, _, _, sx, hr3, ?_⟩
  refine (c_ref05_Of (S := S) q (.mk xk xf xt xu xx xks) sx w3 (hkid.pure hq3.pure) hq3.ref hW.ok (fun b hb hh => by have := (hq3.o2 b hb).1; have := hS b hh; omega) (fun b hb => by have := hS b hb; have := hq3.pure.size; omega)).mono ?_
  rintro _ w4 ⟨r5, r6, rfl, h56, F2', hP4, E4, hF4⟩
  have k4 : Kept Hl w3 w4 := E4.kept (fun b hb h1 => (hq3.o2 b h1).2.1 hb)
  refine ⟨_, _, rfl, k4, ?_⟩
  have hq4 := hq3.of2 (fun b hb => hl3.lt b hb) hP4 E4 hF4
  have hl4 := hl3.again k4
  injection h34 with e3 e4
  injection h56 with e5 e6
  refine Br.f (by rw [e4, e6, e3, e5]; simp) ?_
  intro H1 w6 hs6
  have hq6 := hq4.hst hs6
  intro pa w8 h8
  have E8 : Pure w6 w8 := Ext.new h8
  have hq8 := hq6.pureE E8
  have hs8 := hs6.here.again E8.keptP
  obtain ⟨s1, w9, hr9, hR9, E9, hb9⟩ := hq8.ts.append (P := Try.prog) (ty := 26) (c := 1) slT_tm (r := [.int .i64 r5]) (Box.of_new h8).row rfl rfl (by simp [tmr]; omega) (by simp [tmr, maxLen]; omega)
  have k9 : Kept H1 w8 w9 := E9.kept (fun b hb h1 => (hq8.o3 b h1).2 hb)
  refine ⟨s1, w9, hr9, k9, ?_⟩
  have hq9 := hq8.of3 (fun b hb => hs8.lt b hb) (ids' := Q.2 ++ [r5]) (by simpa [tmr] using hR9) E9 hb9
  rw [wrap_succ hlt (by omega)]
  refine ⟨⟨j + 1, rfl, hlt, F1', F2', ?_⟩, lt_dec hlt⟩
  rw [hstep]
  unfold Sp.poolStep
  rw [← e5]
  exact hq9
 ·have hge := eq_of_dec len hj h
  subst hge
  rw [List.take_length] at hq
  exact hK _ _ _ _ _ _ _ hq
end Go.Proofs
end
section
open Go Go.SE
namespace Go.Proofs
attribute [local irreducible] Calls
theorem c_r08_Has {S : Nat → Prop} (s : Sl) (ts : List Int) (v : Int) (w0 : World) (hs : Lst S w0 1 s (tmr ts)) (hn : ts.length ≤ 1000000) :
  Calls Try.prog 95 #[s.v, .int .i64 v] w0 (fun e w' => ∃ r : Bool, e = .returned (.bool r) ∧ (r = decide (v ∈ ts) ∧ w' = w0)) := by
 refine w_ref08_Has _ _ w0 (fun r w' => r = decide (v ∈ ts) ∧ w' = w0) ?_
 unfold m_ref08_Has
 have hl : s.len = ts.length := by rw [hs.len, tmr_len]
 refine ⟨fun i w' => w' = w0 ∧ ∃ j : Nat, i = j ∧ j ≤ ts.length ∧ v ∉ ts.take j, fun i _ => ((ts.length : Int) - i).toNat, ⟨rfl, 0, rfl, Nat.zero_le _, by simp⟩, ?_⟩
 rintro _ _ ⟨rfl, j, rfl, hj, hv⟩
 unfold m_ref08_Has_l1
 refine ⟨fun h => ?_, fun h => ?_⟩
 ·have hlt := lt_of_dec hl h
  obtain ⟨a, hat, _, hc⟩ := tm_nth hs hlt
  have htk : ts.take (j + 1) = ts.take j ++ [ts[j]] := List.take_succ_eq_append_getElem hlt
  refine ⟨a, hat, _, hc, fun h => ⟨?_, rfl⟩, fun h => ?_⟩
  ·have : ts[j] = v := by simpa using h
   rw [decide_eq_true]
   rw [← this]; exact List.getElem_mem hlt
  ·rw [wrap_succ hlt (by omega)]
   refine ⟨⟨rfl, j + 1, rfl, hlt, ?_⟩, lt_dec hlt⟩
   rw [htk, List.mem_append, List.mem_singleton]
   rintro (h' | h')
   ·exact hv h'
   ·simp [h'] at h
 ·have hge := eq_of_dec hl hj h
  subst hge
  rw [List.take_length] at hv
  exact ⟨by simp [hv], rfl⟩
def aheadS (i : Nat) (a b : Bool) (x y : Int) : Bool := (if a = true then Sp.ahead i x else x == 0) && (if b = true then Sp.ahead i y else y == 0)
theorem c_r08_ahead {Ss : Nat → Prop} (sl : Sl) (l : List Sp.Step) (i : Nat) (a b : Bool) (w0 : World) (hi : i < l.length) (hs : Lst Ss w0 4 sl (l.map strow)) :
  Calls Try.prog 142 #[sl.v, .int .i64 i, .bool a, .bool b] w0 (fun e w' => ∃ r : Bool, e = .returned (.bool r) ∧ (r = aheadS i a b l[i].a l[i].b ∧ Pure w0 w')) := by
 refine w_ref08_ahead _ _ _ _ w0 (fun r w' => r = aheadS i a b l[i].a l[i].b ∧ Pure w0 w') ?_
 unfold m_ref08_ahead
 obtain ⟨a1, at1, _, row1⟩ := st_nth hs (v := (i : Int)) (by omega) (by simpa using hi)
 have hti : ((i : Int).toNat) = i := by simp
 simp only [hti] at row1
 refine ⟨a1, at1, ?_⟩
 intro w1 hs1
 have E1 := hs1.first
 have r1 := E1.row row1 (fun h => h)
 refine ⟨_, r1 1 (by simp [strow]), a1, at1, _, r1 2 (by simp [strow]), fun h => ?_, fun h => ?_⟩
 ·intro H5 w6 hs6
  refine ⟨?_, E1.hst hs6⟩
  unfold aheadS Sp.ahead
  cases a with
  | true => simp at h; simp; omega
  | false => simp at h; simp [h]
 ·intro H16 w17 hs17
  refine ⟨?_, E1.hst hs17⟩
  unfold aheadS Sp.ahead
  cases a with
  | true =>
   simp at h
   have : (0 ≤ l[i].a ∧ l[i].a < i) := by omega
   cases b <;> simp [this] <;> (try omega)
   all_goals (rw [Bool.eq_iff_iff]; simp)
  | false =>
   simp at h
   cases b <;> simp [h]
   all_goals (rw [Bool.eq_iff_iff]; simp)
def makesS (L : Sp.Pool) (pre : List Sp.Step) (s : Sp.Step) : Bool :=
 if (Sp.nodeOf L s.t).kind = 4 then Sp.ahead pre.length s.a && Sp.ahead pre.length s.b && Sp.tAt pre s.a == (Sp.nodeOf L s.t).a && Sp.tAt pre s.b == (Sp.nodeOf L s.t).b
 else if (Sp.nodeOf L s.t).kind = 5 then Sp.ahead pre.length s.a && s.b == 0 && Sp.tAt pre s.a == (Sp.nodeOf L s.t).a
 else if Sp.showsK (Sp.nodeOf L s.t).kind = true then Sp.ahead pre.length s.a && Sp.ahead pre.length s.b && Sp.tAt pre s.a == (Sp.nodeOf L s.t).a && (Sp.nodeOf L (Sp.tAt pre s.b)).kind == 6 && (Sp.nodeOf L (Sp.tAt pre s.b)).frm == Sp.whoOf (Sp.nodeOf L s.t)
 else false
theorem c_r08_makes {Ss : Nat → Prop} (p : Addr) (sl : Sl) (l : List Sp.Step) (i : Nat) (w0 : World) {L : Sp.Pool} {FP : Nat → Prop} (hi : i < l.length) (hP : PoolR w0 p L FP) (hok : Sp.Ok L) (hs : Lst Ss w0 4 sl (l.map strow)) :
  Calls Try.prog 143 #[.pointer (some p), sl.v, .int .i64 i] w0 (fun e w' => ∃ r : Bool, e = .returned (.bool r) ∧ (r = makesS L (l.take i) l[i] ∧ Pure w0 w')) := by
 suffices key : ∀ K : Bool → World → Prop, (∀ w', Pure w0 w' → K (makesS L (l.take i) l[i]) w') → m_ref08_makes (some p) sl i w0 K from
  w_ref08_makes _ _ _ w0 _ (key _ (fun _ h => ⟨rfl, h⟩))
 intro K hK
 unfold m_ref08_makes
 obtain ⟨a1, at1, _, row1⟩ := st_nth hs (v := (i : Int)) (by omega) (by simpa using hi)
 have hti : ((i : Int).toNat) = i := by simp
 simp only [hti] at row1
 have hah : ∀ (a b : Bool) (w : World), Pure w0 w → Calls Try.prog 142 #[sl.v, .int .i64 i, .bool a, .bool b] w (fun e w' => ∃ r : Bool, e = .returned (.bool r) ∧ (r = aheadS i a b l[i].a l[i].b ∧ Pure w w')) := fun a b w E => c_r08_ahead sl l i a b w hi (hs.pure E)
 generalize hsi : l[i] = s at *
 obtain ⟨ru, va, vb, vt⟩ := s
 have cA : ∀ {w : World}, Pure w0 w → w.cell? (a1.add 1) = some (.int .i64 va) := fun E => (E.row row1 (fun h => h)) 1 (by simp [strow])
 have cB : ∀ {w : World}, Pure w0 w → w.cell? (a1.add 2) = some (.int .i64 vb) := fun E => (E.row row1 (fun h => h)) 2 (by simp [strow])
 have getS : ∀ (v : Int), 0 ≤ v → v < i → ∃ a, At sl v 4 a ∧ ∃ x, Sp.tAt (l.take i) v = x ∧ ∀ w, Pure w0 w → w.cell? (a.add 3) = some (.int .i64 x) := by
  intro v h0 hv
  obtain ⟨a, hat, _, hrow⟩ := st_nth hs h0 (by omega)
  refine ⟨a, hat, _, rfl, fun w E => ?_⟩
  have := (E.row hrow (fun h => h)) 3 (by simp [strow])
  rw [this, tAt_take h0 hv (by omega)]; rfl
 refine ⟨a1, at1, vt, row1 3 (by simp [strow]), ?_⟩
 refine (c_ref05_Node p vt w0 hP hok).mono ?_
 rintro _ w1 ⟨nk, nf, nt, nu, nx, na, nb, ok, rfl, ⟨hn, _⟩, E1⟩
 refine ⟨_, _, _, _, _, _, _, _, rfl, E1.keptP, ?_⟩
 have hk1 : (Sp.nodeOf L vt).kind = nk := by rw [← hn]
 have hfr : (Sp.nodeOf L vt).frm = nf := by rw [← hn]
 have hto : (Sp.nodeOf L vt).to = nt := by rw [← hn]
 have ha : (Sp.nodeOf L vt).a = na := by rw [← hn]
 have hb : (Sp.nodeOf L vt).b = nb := by rw [← hn]
 have hlen : (l.take i).length = i := by rw [List.length_take]; omega
 have hmk : makesS L (l.take i) ⟨ru, va, vb, vt⟩ = (if nk = 4 then Sp.ahead i va && Sp.ahead i vb && Sp.tAt (l.take i) va == na && Sp.tAt (l.take i) vb == nb
    else if nk = 5 then Sp.ahead i va && vb == 0 && Sp.tAt (l.take i) va == na
    else if Sp.showsK nk = true then Sp.ahead i va && Sp.ahead i vb && Sp.tAt (l.take i) va == na && (Sp.nodeOf L (Sp.tAt (l.take i) vb)).kind == 6 && (Sp.nodeOf L (Sp.tAt (l.take i) vb)).frm == Sp.whoOf (Sp.nodeOf L vt)
    else false) := by
  unfold makesS; simp only; rw [hlen, hk1, ha, hb]
 rw [hmk] at hK
 clear hmk
 refine ⟨fun k4 => ?_, fun k4 => ⟨fun k5 => ?_, fun k5 => ?_⟩⟩
 ·have k4 : nk = 4 := by simpa using k4
  rw [if_pos k4] at hK
  intro H1 w3 hs3
  have Ed : Pure w0 w3.drew := (E1.hst hs3).trans (Ext.drew w3)
  refine ⟨fun w' => Pure w0 w', Ed, ?_⟩
  rintro _ rfl
  refine (hah true true w3.drew Ed).mono ?_
  rintro _ w5 ⟨r2, rfl, rfl, E5⟩
  have E05 := Ed.trans E5
  simp only [aheadS, if_true]
  refine ⟨_, rfl, E05, E5.keptP, fun h => ?_, fun h => ?_⟩
  ·rw [Bool.and_eq_true] at h
   obtain ⟨h1, h2⟩ := h
   obtain ⟨a3, at3, x, hx, c3⟩ := getS va (ahead_iff.1 h1).1 (ahead_iff.1 h1).2
   obtain ⟨a5, at5, z, hz, c5⟩ := getS vb (ahead_iff.1 h2).1 (ahead_iff.1 h2).2
   rw [h1, h2, hx, hz] at hK
   refine ⟨a1, at1, va, fun w' E => cA E, a3, at3, x, fun w' E => c3 w' E, fun h => ⟨a1, at1, vb, fun w' E => cB E, a5, at5, z, fun w' E => c5 w' E, ?_⟩, fun h => ?_⟩
   ·have h : (x == na) = true := h
    simpa [h] using hK w5 E05
   ·have h : (x == na) = false := h
    simpa [h] using hK w5 E05
  ·have := hK w5 E05
   rw [h] at this; simpa using this
 ·have k4 : ¬ nk = 4 := by simpa using k4
  have k5 : nk = 5 := by simpa using k5
  rw [if_neg k4, if_pos k5] at hK
  intro H1 w3 hs3
  have Ed : Pure w0 w3.drew := (E1.hst hs3).trans (Ext.drew w3)
  refine ⟨fun w' => Pure w0 w', Ed, ?_⟩
  rintro _ rfl
  refine (hah true false w3.drew Ed).mono ?_
  rintro _ w5 ⟨r2, rfl, rfl, E5⟩
  have E05 := Ed.trans E5
  simp only [aheadS, if_true, Bool.false_eq_true, if_false]
  refine ⟨_, rfl, E05, E5.keptP, fun h => ?_, fun h => ?_⟩
  ·rw [Bool.and_eq_true] at h
   obtain ⟨h1, h2⟩ := h
   obtain ⟨a3, at3, x, hx, c3⟩ := getS va (ahead_iff.1 h1).1 (ahead_iff.1 h1).2
   rw [h1, h2, hx] at hK
   refine ⟨a1, at1, va, fun w' E => cA E, a3, at3, x, fun w' E => c3 w' E, ?_⟩
   simpa using hK w5 E05
  ·have := hK w5 E05
   rw [h] at this; simpa using this
 ·have k4 : ¬ nk = 4 := by simpa using k4
  have k5 : ¬ nk = 5 := by simpa using k5
  rw [if_neg k4, if_neg k5] at hK
  rintro y1 rfl
  have hy : (cond ((nk : Int) == 7) ((nk : Int) == 7) (cond ((nk : Int) == 8) ((nk : Int) == 8) ((nk : Int) == 9))) = Sp.showsK nk := by
   unfold Sp.showsK; cases (nk == 7) <;> cases (nk == 8) <;> simp
  rw [hy]
  refine ⟨fun k7 => ?_, fun k7 => ?_⟩
  ·rw [if_pos k7] at hK
   intro H2 w8 hs8
   have Ed : Pure w0 w8.drew := (E1.hst hs8).trans (Ext.drew w8)
   refine ⟨fun w' => Pure w0 w', Ed, ?_⟩
   rintro _ rfl
   refine (hah true true w8.drew Ed).mono ?_
   rintro _ w5 ⟨r2, rfl, rfl, E5⟩
   have E05 := Ed.trans E5
   simp only [aheadS, if_true]
   refine ⟨_, rfl, E05, E5.keptP, fun h => ?_, fun h => ?_⟩
   ·unfold m_ref08_makes_j1
    refine Br.t rfl ?_
    have h : (Sp.ahead i va && Sp.ahead i vb) = false := by rw [Bool.not_eq_true'] at h; exact h
    have := hK w5 E05
    rw [h] at this; simpa using this
   ·have h : (Sp.ahead i va && Sp.ahead i vb) = true := by simpa using h
    rw [Bool.and_eq_true] at h
    obtain ⟨h1, h2⟩ := h
    obtain ⟨a3, at3, x, hx, c3⟩ := getS va (ahead_iff.1 h1).1 (ahead_iff.1 h1).2
    obtain ⟨a5, at5, z, hz, c5⟩ := getS vb (ahead_iff.1 h2).1 (ahead_iff.1 h2).2
    rw [h1, h2, hx, hz] at hK
    refine ⟨a1, at1, va, fun w' E => cA E, a3, at3, x, fun w' E => c3 w' E, ?_⟩
    unfold m_ref08_makes_j1
    refine ⟨fun h => ?_, fun h => ?_⟩
    ·have h : (x == na) = false := by simpa using h
     simpa [h] using hK w5 E05
    ·have h : (x == na) = true := by simpa using h
     refine ⟨a1, at1, vb, cB E05, a5, at5, z, c5 w5 E05, ?_⟩
     have hPp : PoolR w5 p L FP := hP.pure E05
     refine (c_ref05_Node p z w5 hPp hok).mono ?_
     rintro _ w9 ⟨yk, yf, yt, yu, yx, ya, yb, _, rfl, ⟨hyn, _⟩, E9⟩
     refine ⟨_, _, _, _, _, _, _, _, rfl, E9.keptP, ?_⟩
     intro H6 w14 hs14
     have hwho : (cond ((nk : Int) == 9) nt nf) = Sp.whoOf (Sp.nodeOf L vt) := by
      unfold Sp.whoOf; rw [hk1, hfr, hto]
      by_cases h9 : nk = 9
      ·subst h9; simp
      ·rw [if_neg h9, show (nk == 9) = false from by simpa using h9]; rfl
     rw [hwho]
     have := hK w14 ((E05.trans E9).hst hs14)
     rw [← hyn] at this
     simpa [h] using this
  ·rw [if_neg (by simp [k7])] at hK
   intro H2 w8 hs8
   exact hK w8 (E1.hst hs8)
theorem c_r08_follows {Sg Ss : Nat → Prop} (p : Addr) (sg sl : Sl) (G : List Int) (l : List Sp.Step) (i : Nat) (w0 : World) {L : Sp.Pool} {FP : Nat → Prop} (hi : i < l.length) (hP : PoolR w0 p L FP) (hok : Sp.Ok L) (hg : Lst Sg w0 1 sg (tmr G)) (hs : Lst Ss w0 4 sl (l.map strow)) (hG : G.length ≤ 1000000) :
  Calls Try.prog 101 #[.pointer (some p), sg.v, sl.v, .int .i64 i] w0 (fun e w' => ∃ r : Bool, e = .returned (.bool r) ∧ (r = Sp.fol L G (l.take i) l[i] ∧ Pure w0 w')) := by
 suffices key : ∀ K : Bool → World → Prop, (∀ w', Pure w0 w' → K (Sp.fol L G (l.take i) l[i]) w') → m_ref08_follows (some p) sg sl i w0 K from
  w_ref08_follows _ _ _ _ w0 _ (key _ (fun _ h => ⟨rfl, h⟩))
 intro K hK
 unfold m_ref08_follows
 obtain ⟨a1, at1, _, row1⟩ := st_nth hs (v := (i : Int)) (by omega) (by simpa using hi)
 have hti : ((i : Int).toNat) = i := by simp
 simp only [hti] at row1
 have hah : ∀ (a b : Bool) (w : World), Pure w0 w → Calls Try.prog 142 #[sl.v, .int .i64 i, .bool a, .bool b] w (fun e w' => ∃ r : Bool, e = .returned (.bool r) ∧ (r = aheadS i a b l[i].a l[i].b ∧ Pure w w')) := fun a b w E => c_r08_ahead sl l i a b w hi (hs.pure E)
 have hmk : ∀ (w : World), Pure w0 w → Calls Try.prog 143 #[.pointer (some p), sl.v, .int .i64 i] w (fun e w' => ∃ r : Bool, e = .returned (.bool r) ∧ (r = makesS L (l.take i) l[i] ∧ Pure w w')) := fun w E => c_r08_makes p sl l i w hi (hP.pure E) hok (hs.pure E)
 generalize hsi : l[i] = s at *
 obtain ⟨ru, va, vb, vt⟩ := s
 refine ⟨a1, at1, ru, va, vb, vt, row1, ?_⟩
 intro H1 w2 hs2
 have E2 := hs2.first
 refine (c_ref05_In p vt w2 (hP.pure E2)).mono ?_
 rintro _ w2 ⟨r1, rfl, rfl, rfl⟩
 refine ⟨_, rfl, Kept.refl _, fun hc => ?_, fun hc => ?_⟩
 ·have hin : Sp.inP L vt = false := by simpa using hc
  have := hK w2 E2
  unfold Sp.fol at this; rw [if_pos hin] at this; exact this
 have hin : ¬ Sp.inP L vt = false := by simpa using hc
 refine (c_ref05_Node p vt w2 (hP.pure E2) hok).mono ?_
 rintro _ w4 ⟨nk, nf, nt, nu, nx, na, nb, ok, rfl, ⟨hn, _⟩, E4⟩
 have E04 := E2.trans E4
 refine ⟨_, _, _, _, _, _, _, _, rfl, E4.keptP, ?_⟩
 have hk1 : (Sp.nodeOf L vt).kind = nk := by rw [← hn]
 have hlen : (l.take i).length = i := by rw [List.length_take]; omega
 have hfol : Sp.fol L G (l.take i) ⟨ru, va, vb, vt⟩ = (if ru = 0 then va == 0 && vb == 0 && decide (vt ∈ G)
   else if ru = 1 ∨ ru = 2 ∨ ru = 3 then Sp.ahead i va && vb == 0 && Sp.arisesB L ru (Sp.tAt (l.take i) va) vt
   else if ru = 4 then va == 0 && vb == 0 && Sp.freeK nk
   else if ru = 5 then makesS L (l.take i) ⟨ru, va, vb, vt⟩
   else false) := by
  unfold Sp.fol makesS; simp only; rw [if_neg hin, hlen, hk1]
 rw [hfol] at hK
 clear hfol
 refine ⟨fun h0 => ?_, fun h0 => ?_⟩
 ·have h0 : ru = 0 := by simpa using h0
  rw [if_pos h0] at hK
  intro H2 w6 hs6
  have E6 := E04.hst hs6
  refine (hah false false w6 E6).mono ?_
  rintro _ w7 ⟨r3, rfl, rfl, E7⟩
  have E07 := E6.trans E7
  simp only [aheadS, Bool.false_eq_true, if_false]
  refine ⟨_, rfl, E7.keptP, fun h => ?_, fun h => ?_⟩
  ·refine (c_r08_Has sg G vt w7 (hg.pure E07) hG).mono ?_
   rintro _ w8 ⟨r4, rfl, rfl, rfl⟩
   rw [h] at hK
   exact ⟨_, rfl, Kept.refl _, by simpa using hK w8 E07⟩
  ·have := hK w7 E07
   rw [h] at this; simpa using this
 have h0 : ¬ ru = 0 := by simpa using h0
 rw [if_neg h0] at hK
 rintro y1 rfl
 have hy : (cond ((ru : Int) == 1) ((ru : Int) == 1) (cond ((ru : Int) == 2) ((ru : Int) == 2) ((ru : Int) == 3))) = decide (ru = 1 ∨ ru = 2 ∨ ru = 3) := by
  by_cases e1 : ru = 1
  ·subst e1; rfl
  ·by_cases e2 : ru = 2
   ·subst e2; rfl
   ·have : (ru == 1) = false := by simpa using e1
    have h2 : (ru == 2) = false := by simpa using e2
    rw [this, h2]; simp [e1, e2]; rfl
 rw [hy]
 refine ⟨fun hr => ?_, fun hr => ⟨fun h4 => ?_, fun h4 => ⟨fun h5 => ?_, fun h5 => ?_⟩⟩⟩
 ·have hr := of_decide_eq_true hr
  rw [if_pos hr] at hK
  intro H3 w9 hs9
  have E9 := E04.hst hs9
  refine (hah true false w9 E9).mono ?_
  rintro _ w10 ⟨r5, rfl, rfl, E10⟩
  have E010 := E9.trans E10
  simp only [aheadS, if_true, Bool.false_eq_true, if_false]
  refine ⟨_, rfl, E10.keptP, fun h => ?_, fun h => ?_⟩
  ·have h : (Sp.ahead i va && vb == 0) = false := by rw [Bool.not_eq_true'] at h; exact h
   have := hK w10 E010
   rw [h] at this; simpa using this
  ·have h : (Sp.ahead i va && vb == 0) = true := by simpa using h
   have h1 : Sp.ahead i va = true := by rw [Bool.and_eq_true] at h; exact h.1
   obtain ⟨a2, hat2, _, hrow2⟩ := st_nth hs (ahead_iff.1 h1).1 (by have := (ahead_iff.1 h1).2; omega)
   have hx := tAt_take (l := l) (ahead_iff.1 h1).1 (ahead_iff.1 h1).2 (by omega)
   have c2 : w10.cell? (a2.add 3) = some (.int .i64 (Sp.tAt (l.take i) va)) := by
    have := (E010.row hrow2 (fun h => h)) 3 (by simp [strow])
    rw [this, hx]; rfl
   rw [h] at hK
   generalize Sp.tAt (l.take i) va = x at *
   refine ⟨a2, hat2, x, c2, ?_⟩
   refine (c_ref05_Node p x w10 (hP.pure E010) hok).mono ?_
   rintro _ w11 ⟨xk, xf, xt, xu, xx, xa, xb, _, rfl, ⟨hxn, _⟩, E11⟩
   have E011 := E010.trans E11
   refine ⟨_, _, _, _, _, _, _, _, rfl, E11.keptP, ?_⟩
   have hxk : (Sp.nodeOf L x).kind = xk := by rw [← hxn]
   have hxa : (Sp.nodeOf L x).a = xa := by rw [← hxn]
   have hxb : (Sp.nodeOf L x).b = xb := by rw [← hxn]
   unfold Sp.arisesB at hK
   simp only [hxk, hxa, hxb] at hK
   refine ⟨fun h => ?_, fun h => ⟨fun h2 => ?_, fun h2 => ?_⟩⟩
   ·intro H6 w15 hs15
    have h : ru = 1 := by simpa using h
    subst h
    simpa using hK w15 (E011.hst hs15)
   ·intro H9 w18 hs18
    have h2 : ru = 2 := by simpa using h2
    subst h2
    simpa using hK w18 (E011.hst hs18)
   ·intro H12 w22 hs22
    have h : ¬ ru = 1 := by simpa using h
    have h2 : ¬ ru = 2 := by simpa using h2
    have h3 : ru = 3 := by omega
    subst h3
    have := hK w22 (E011.hst hs22)
    simpa [Sp.showsK, s_ref08_shows] using this
 ·have hr := of_decide_eq_false hr
  have h4 : ru = 4 := by simpa using h4
  rw [if_neg hr, if_pos h4] at hK
  intro H3 w9 hs9
  have E9 := E04.hst hs9
  refine (hah false false w9 E9).mono ?_
  rintro _ w25 ⟨r7, rfl, rfl, E25⟩
  refine ⟨_, rfl, E25.keptP, ?_⟩
  intro H16 w28 hs28
  simp only [aheadS, Bool.false_eq_true, if_false]
  exact hK w28 ((E9.trans E25).hst hs28)
 ·have hr := of_decide_eq_false hr
  have h4 : ¬ ru = 4 := by simpa using h4
  have h5 : ru = 5 := by simpa using h5
  rw [if_neg hr, if_neg h4, if_pos h5] at hK
  intro H3 w9 hs9
  have E9 := E04.hst hs9
  refine (hmk w9 E9).mono ?_
  rintro _ w31 ⟨r8, rfl, rfl, E31⟩
  exact ⟨_, rfl, E31.keptP, hK w31 (E9.trans E31)⟩
 ·have hr := of_decide_eq_false hr
  have h4 : ¬ ru = 4 := by simpa using h4
  have h5 : ¬ ru = 5 := by simpa using h5
  rw [if_neg hr, if_neg h4, if_neg h5] at hK
  intro H3 w9 hs9
  exact hK w9 (E04.hst hs9)
theorem c_r08_Check {Sg Ss : Nat → Prop} (p : Addr) (sg sl : Sl) (G : List Int) (l : List Sp.Step) (goal : Int) (w0 : World) {L : Sp.Pool} {FP : Nat → Prop} (hP : PoolR w0 p L FP) (hok : Sp.Ok L) (hg : Lst Sg w0 1 sg (tmr G)) (hs : Lst Ss w0 4 sl (l.map strow)) (hG : G.length ≤ 1000000) (hl : l.length ≤ 1000000) :
  Calls Try.prog 42 #[.pointer (some p), sg.v, sl.v, .int .i64 goal] w0 (fun e w' => ∃ r1 : Int, ∃ r2 : Int, e = .returned (.tuple #[.int .i64 r1, .int .i64 r2]) ∧ ((r1, r2) = Sp.check8 L G l goal ∧ Pure w0 w')) := by
 suffices key : ∀ K : Int → Int → World → Prop, (∀ r1 r2 w', (r1, r2) = Sp.check8 L G l goal → Pure w0 w' → K r1 r2 w') → m_ref08_Check (some p) sg sl goal w0 K from
  w_ref08_Check _ _ _ _ w0 _ (key _ (fun r1 r2 w' h E => ⟨h, E⟩))
 intro K hK
 unfold m_ref08_Check
 have hsl : sl.len = l.length := by rw [hs.len]; simp
 refine ⟨fun i w => ∃ j : Nat, i = j ∧ j ≤ l.length ∧ Pure w0 w ∧ Sp.badAt L G l l.length 0 = Sp.badAt L G l (l.length - j) j, fun i _ => ((l.length : Int) - i).toNat, ⟨0, rfl, Nat.zero_le _, Ext.refl _, by simp⟩, ?_⟩
 rintro _ wl ⟨j, rfl, hj, E, hb⟩
 unfold m_ref08_Check_l1
 refine ⟨fun h => ?_, fun h => ?_⟩
 ·have hlt := lt_of_dec hsl h
  refine (c_r08_follows p sg sl G l j wl hlt (hP.pure E) hok (hg.pure E) (hs.pure E) hG).mono ?_
  rintro _ w1 ⟨r, rfl, rfl, E1⟩
  have hn : l.length - j = (l.length - (j + 1)) + 1 := by omega
  rw [hn, bad_step hlt] at hb
  refine ⟨_, rfl, fun hc => ?_, fun hc => ?_⟩
  ·have hf : Sp.fol L G (l.take j) l[j] = false := by simpa using hc
   rw [if_neg (by simp [hf])] at hb
   exact hK _ _ _ (by unfold Sp.check8; rw [hb]) (E.trans E1)
  ·have hf : Sp.fol L G (l.take j) l[j] = true := by simpa using hc
   rw [if_pos hf] at hb
   rw [wrap_succ hlt (by omega)]
   exact ⟨⟨j + 1, rfl, hlt, E.trans E1, hb⟩, lt_dec hlt⟩
 ·have hge := eq_of_dec hsl hj h
  subst hge
  rw [bad_end (Nat.le_refl _)] at hb
  have hch : Sp.check8 L G l goal = if l.length = 0 ∨ Sp.tAt l ((l.length : Int) - 1) ≠ goal then (81, (l.length : Int)) else (0, 0) := by unfold Sp.check8; rw [hb]
  rw [hsl]
  refine ⟨fun h0 => ?_, fun h0 => ?_⟩
  ·have h0 : l.length = 0 := by simpa using h0
   exact hK _ _ _ (by rw [hch, if_pos (.inl h0)]) E
  ·have h0 : l.length ≠ 0 := by simpa using h0
   rw [IntWalk.i64_in _ (by omega)]
   obtain ⟨a, hat, _, hrow⟩ := st_nth hs (v := (l.length : Int) - 1) (by omega) (by omega)
   have e : ((l.length : Int) - 1) = ((l.length - 1 : Nat) : Int) := by omega
   have ht : Sp.tAt l ((l.length : Int) - 1) = (l[((l.length : Int) - 1).toNat]'(by omega)).t := by
    simp only [e, Int.toNat_natCast]
    exact Sp.tAt_of (by omega)
   refine ⟨a, hat, _, ((E.row hrow (fun h => h)) 3 (by simp [strow])).trans rfl, fun h => ?_, fun h => ?_⟩
   ·have h : Sp.tAt l ((l.length : Int) - 1) ≠ goal := by rw [ht]; simpa using h
    exact hK _ _ _ (by rw [hch, if_pos (.inr h)]) E
   ·have h : Sp.tAt l ((l.length : Int) - 1) = goal := by rw [ht]; simpa using h
    exact hK _ _ _ (by rw [hch, if_neg (by simp [h0, h])]) E
end Go.Proofs
end
section
open Go Go.SE
namespace Go.Proofs
attribute [local irreducible] Calls
theorem st_one (l : List Sp.Step) : ∀ q ∈ l.map strow, q.all oneCell = true := by intro q hq; obtain ⟨t, _, rfl⟩ := List.mem_map.1 hq; rfl
theorem st_sz (l : List Sp.Step) : ∀ q ∈ l.map strow, q.length = 4 := by intro q hq; obtain ⟨t, _, rfl⟩ := List.mem_map.1 hq; rfl
theorem copied {P : Program} {t e : TypeId} {sz bytes : Nat} (T : SlType P t e sz bytes) {w w1 : World} {ty : TypeId} {p : Addr} (hn : New w (.cells #[] e) p w1) {S : Nat → Prop} {x : Sl} {qs : List (List Value)} (hx : Lst S w sz x qs) (hl : ∀ q ∈ qs, q.length = sz) (h1 : ∀ q ∈ qs, q.all oneCell = true) (hb : qs.length * bytes ≤ 140737488355328) (hm : qs.length ≤ maxLen) {H : Nat → Prop} (hH : ∀ b, H b → b < w.heap.size) :
  ∃ s' w2, (Builtin.append_ #[t, t] ty #[(Sl.mk (some p) 0 0).v, x.v]).run P w1 = .ok s'.v w2 ∧ Rws w2 e sz s' qs ∧ Pure w w2 ∧ Kept H w1 w2 ∧ ∀ b, s'.blk b → w.heap.size ≤ b := by
 have E1 : Pure w w1 := Ext.new hn
 obtain ⟨s2, w2, hr, hR, hE, hb'⟩ := (Rws.empty (sz := sz) hn).appendL (P := P) (ty := ty) T (hx.pure E1) hl h1 (by simpa using hb) (by simpa using hm)
 have hp := hn.at_size
 have hp' : ∀ b, (Sl.mk (some p) 0 0).blk b → w.heap.size ≤ b := fun b hb => (by obtain ⟨a, ha, e⟩ := hb; cases ha; omega)
 exact ⟨s2, w2, hr, by simpa using hR, E1.trans' hE (fun i hi h => by have := hp' i h; omega), hE.kept (fun b hh hb => by have := hp' b hb; have := hH b hh; omega), fun b h => (hb' b h).elim (hp' b) (fun h => by have := E1.size; omega)⟩
theorem c_law08_DeduceChecks {S Sg Ss : Nat → Prop} (ts : List Sp.Tree) (given : List Int) (steps : List Sp.Step) (sT sg ss : Sl) (goal : Int) (w0 : World) (hT : TreeAt S w0 sT (.mk 0 0 0 0 ⟨#[]⟩ ts)) (hS : ∀ b, S b → b < w0.heap.size) (hg : Lst Sg w0 1 sg (tmr given)) (hs : Lst Ss w0 4 ss (steps.map strow)) :
  Calls Try.prog 8 #[.agg #[sT.v, sg.v, ss.v, .int .i64 goal]] w0 (fun e w' => ∃ r : Bool, e = .returned (.bool r) ∧ (r = true ∧ Pure w0 w')) := by
 refine w_law08_DeduceChecks _ _ _ _ w0 (fun r w' => r = true ∧ Pure w0 w') ?_
 unfold m_law08_DeduceChecks
 intro H1 w2 hs2
 have E2 := hs2.first
 refine (c_law08_wide ts sT w2 (hT.pure E2) (fun b hb => by have := hS b hb; have := E2.size; omega)).mono ?_
 rintro _ w14 ⟨r11, rfl, hwd, E14⟩
 refine ⟨_, rfl, E14.keptP, ?_⟩
 intro H4 w16 hs16
 have E16 := (E2.trans E14).hst hs16
 have lg : sg.len = given.length := by rw [hg.len, tmr_len]
 have ls : ss.len = steps.length := by rw [hs.len]; simp
 unfold m_law08_DeduceChecks_j1
 refine ⟨fun _ => ?_, fun h => ?_⟩
 ·refine (c_live8 w16).mono ?_
  rintro _ w3 ⟨r1, rfl, hr1, E3⟩
  exact ⟨_, rfl, E3.keptP, hr1, E16.trans E3⟩
 rw [Bool.or_eq_false_iff, Bool.or_eq_false_iff] at h
 obtain ⟨⟨h1, h2⟩, h3⟩ := h
 have h2 := of_decide_eq_false h2
 have h3 := of_decide_eq_false h3
 obtain ⟨hn, hc⟩ := hwd h1
 refine (c_law08_pools ts sT w16 (hT.pure E16) (fun b hb => by have := hS b hb; have := E16.size; omega) hn).mono ?_
 rintro _ w4 ⟨_, _, r4, _, rfl, p, q, F1, F2, rfl, rfl, rfl, hq⟩
 have E04 := E16.trans hq.pure
 have hs4 : Hst w0 H4 w4 H4 w4 := hs16.here.again hq.pure.keptP
 obtain ⟨hW, _, _⟩ := Sp.poolAll_ok ts
 generalize (Sp.poolAll ts).1 = L at *
 refine ⟨_, _, _, _, rfl, hq.pure.keptP, Br.f rfl ?_⟩
 intro p2 w5 h5
 obtain ⟨s1, w6, hr6, R6, X6, k6, _⟩ := copied (P := Try.prog) (ty := 26) slT_tm h5 (hg.pure E04) (tmr_sz _) (tmr_one _) (by rw [tmr_len]; omega) (by rw [tmr_len]; simp [maxLen]; omega) hs4.lt
 refine ⟨s1, w6, hr6, k6, ?_⟩
 have hs6 : Hst w0 H4 w6 H4 w6 := hs4.again X6.keptP
 intro p3 w7 h7
 obtain ⟨s2, w8, hr8, R8, X8, k8, _⟩ := copied (P := Try.prog) (ty := 76) slT_step h7 (hs.pure (E04.trans X6)) (st_sz _) (st_one _) (by simp; omega) (by simp [maxLen]; omega) hs6.lt
 refine ⟨s2, w8, hr8, k8, ?_⟩
 have E48 := X6.trans X8
 have E08 := E04.trans E48
 refine (c_ded_Check p s1 s2 given steps goal w8 (hq.pool.pure E48) hW.ok (R6.pure X8).lst R8.lst (by omega) (by omega)).mono ?_
 rintro _ w9 ⟨r6, r7, rfl, hc1, E9⟩
 refine ⟨_, _, rfl, E9.keptP, ?_⟩
 have E09 := E08.trans E9
 refine (c_r08_Check q sg ss given steps goal w9 (hq.ref.pure (E48.trans E9)) hW.ok (hg.pure E09) (hs.pure E09) (by omega) (by omega)).mono ?_
 rintro _ w10 ⟨r8, r9, rfl, hc2, E10⟩
 refine ⟨_, _, rfl, E10.keptP, ?_⟩
 have hcc := hc1.trans hc2.symm
 injection hcc with c1 c2
 refine Br.t (by rw [c1, c2]; simp) ?_
 intro H2 w12 hs12
 refine (c_live8 w12).mono ?_
 rintro _ w13 ⟨r10, rfl, hr10, E13⟩
 exact ⟨_, rfl, E13.keptP, hr10, ((E09.trans E10).hst hs12).trans E13⟩
structure KqAt (w0 : World) (H : Nat → Prop) (w : World) (p q k : Addr) (L : Sp.Pool) (G : List Int) (S : List Sp.Way) (FP FR F : Nat → Prop) : Prop where
 kn : KnAt w0 H w p k L G S FP F
 ref : PoolR w q L FR
 oR : ∀ b, FR b → ¬ H b
section
variable {w0 w w' : World} {H H' : Nat → Prop} {p q k : Addr} {L : Sp.Pool} {G : List Int} {S : List Sp.Way} {FP FR F : Nat → Prop}
theorem KqAt.pureE (h : KqAt w0 H w p q k L G S FP FR F) (E : Pure w w') : KqAt w0 H w' p q k L G S FP FR F := ⟨h.kn.pureE E, h.ref.pure E, h.oR⟩
theorem KqAt.hst (h : KqAt w0 H w p q k L G S FP FR F) (hs : Hst w0 H w H' w') : KqAt w0 H' w' p q k L G S FP FR F := by
 have x1 := hs.disj (G := FR) (fun b hb => ⟨h.ref.lt hb, h.oR b hb⟩)
 exact ⟨h.kn.hst hs, h.ref.ext hs.ext x1, x1⟩
theorem KqAt.start {w1 w2 w3 : World} {t : Sl} {ids : List Int} (hE : Pure w0 w1) (hs : Hst w0 H w1 H w1) (hq : Pl3 w1 None w2 p q L L t ids FP FR) (hk : KnowAt w3 k p G S F) (E : Pure w2 w3) (hF : ∀ b, F b → w2.heap.size ≤ b) : KqAt w0 H w3 p q k L G S FP FR F := by
 have z1 := hE.size; have z2 := hq.pure.size; have z3 := E.size
 refine ⟨⟨hq.pool.pure E, hk, (hE.trans hq.pure).trans E, fun b hb => ?_, fun b hb => ?_, (hs.again hq.pure.keptP).again E.keptP⟩, hq.ref.pure E, fun b hb hh => ?_⟩
 ·have := (hq.o1 b hb).1; exact ⟨by omega, fun hh => by have := hs.lt b hh; omega⟩
 ·have := hF b hb; exact ⟨by omega, fun hh => by have := hs.lt b hh; omega, fun hh => by have := hq.pool.lt hh; omega⟩
 ·have := (hq.o2 b hb).1; have := hs.lt b hh; omega
end
end Go.Proofs
end
section
namespace Go.SE
open Go.ChangeShapes Go.WideShapes Go.ChangeAt Go.RowKit
section
variable {H : Type} {enc : TypeId × Value → H} {P : Program}
theorem below_trodAll (hl : laidOutB P = true) {W W' : World} (hb : Below W.heap.size W W') : ∀ (ts : List TypeId) (vs : List Value) (ds : List (DataW H)) (ps : List MemPlace), (ts.all fun t => P.readableRec t && decide (t < P.types.size)) = true →
  DataW.TrodAll enc P W 0 (fun _ => true) true ts vs ds ps → (∀ x ∈ ps, x.block < W.heap.size) → DataW.TrodAll enc P W' 0 (fun b => decide (b < W.heap.size)) true ts vs ds ps
 | [], _, _, _, _, h, _ => by
  obtain ⟨rfl, rfl, rfl⟩ := trodAll_nil h
  exact h
 | t :: ts, _, _, _, hr, h, hlt => by
  obtain ⟨v, vs1, d, ds1, a, b, rfl, rfl, rfl, h1, h2⟩ := trodAll_cons h
  simp only [List.all_cons, Bool.and_eq_true, decide_eq_true_eq] at hr
  exact ⟨a, b, Below.trod hl hr.1.1 hr.1.2 h1 hb (fun x hx => hlt x (by simp [hx])), below_trodAll hl hb ts vs1 ds1 b (by simpa using hr.2) h2 (fun x hx => hlt x (by simp [hx])), rfl⟩
theorem law_post {f : Func} {s : ChangeSpec} {W W' : World} {args : Array Value} {ds gs : List (DataW H)} {before : List MemPlace} {t : TypeId} (hl : laidOutB P = true)
  (hv : s.vars = []) (hf : ∀ ds : List (DataW H), ds.length = f.params.size → s.fn H ds = { results := [.lit (.bool true)], args := ds }) (hrt : f.resultTypes = #[t]) (ht : P.underlying t = some .bool)
  (hr : (f.params.toList.all fun t => P.readableRec t && decide (t < P.types.size)) = true)
  (hW : DataW.Whole enc P f.params.toList s.vars false W args.toList ds gs before) (E : Pure W W') :
  s.post enc P f false true false false W args (.bool true) W' := by
 have hW' := hW
 obtain ⟨p, q, hA, hV, rfl, hfz, hnd⟩ := hW
 rw [hv] at hV
 obtain ⟨rfl, rfl⟩ := trodVars_none hV
 have hlen : ds.length = f.params.size := by
  have : ∀ (ts : List TypeId) (vs : List Value) (ds : List (DataW H)) (ps : List MemPlace), DataW.TrodAll enc P W 0 (fun _ => true) true ts vs ds ps → ds.length = ts.length := by
   intro ts
   induction ts with
   | nil => intro vs ds ps h; obtain ⟨_, rfl, _⟩ := trodAll_nil h; rfl
   | cons t ts ih =>
    intro vs ds ps h
    obtain ⟨v, vs1, d, ds1, a, b, _, rfl, _, _, h2⟩ := trodAll_cons h
    simp [ih _ _ _ h2]
  simpa using this _ _ _ _ hA
 have hfn := hf ds hlen
 have hfn' : s.fn H (ds ++ []) = { results := [.lit (.bool true)], args := ds } := by rw [List.append_nil]; exact hfn
 have hlt : ∀ x ∈ p, x.block < W.heap.size := fun x hx => by simpa using hW'.lt x (by simp [hx])
 have bel := E.below
 refine ⟨ds, [], p ++ [], [], p, [], hW', ?_, ?_, ?_, bel.frame _, fun h => by cases h⟩
 ·rw [hfn', hrt]; exact trodAll_mk1 (shut_bool ht _)
 ·rw [hfn']; exact below_trodAll hl bel _ _ _ _ hr hA hlt
 ·rw [hfn', hv]; exact hV
theorem law_lifted {C : Checked} {os : Os} {f : FuncId} {fn : Func} {s : ChangeSpec} {t : TypeId} (hl : laidOutB C.prog = true)
  (hv : s.vars = []) (hf : ∀ ds : List (DataW H), ds.length = fn.params.size → s.fn H ds = { results := [.lit (.bool true)], args := ds }) (hrt : fn.resultTypes = #[t]) (ht : C.prog.underlying t = some .bool)
  (hr : (fn.params.toList.all fun t => C.prog.readableRec t && decide (t < C.prog.types.size)) = true)
  (own : ownKnob C.prog.godebug = none) (started : os.Started) (noInit : C.prog.inits.idxOf? f = none) (hfn : C.prog.funcs[f]? = some fn)
  (witness : ∃ (w : World) (tape : Tape) (i : Input), w.os = os ∧ (w.forCall tape i).Shaped C.prog ∧ i.vars = [] ∧ Input.okWide C.prog (w.forCall tape i) .any w.heap.size f i ∧
   s.pre6 enc C.prog fn [] false (w.forCall tape i).memory i.args ∧ ({} : Assume).holds C.prog (lone (Frame.enter C.prog f i.args .normal) [] (w.forCall tape i)))
  (contract : ∀ (W : World) (base : Nat) (args : Array Value) (ds : List (DataW H)) (p : List MemPlace),
   (∀ (j : Nat) t v, fn.params[j]? = some t → args[j]? = some v → Value.okWide C.prog W .any base t v) →
   DataW.TrodAll enc C.prog W 0 (fun _ => true) true fn.params.toList args.toList ds p → (∀ x ∈ p, x.block < W.heap.size) →
   Calls C.prog f args W (fun e W' => ∃ r : Bool, e = .returned (.bool r) ∧ (r = true ∧ Pure W W'))) :
  ReturnsInHanded {} C os f .any (s.pre6 enc C.prog fn [] false) (s.post enc C.prog fn false true false false) := by
 refine returnsInHanded_of_change own started noInit hfn witness ?_
 intro W base args ds gs before hval hW _ _
 have hW' := hW
 obtain ⟨p, q, hA, hV, rfl, hfz, hnd⟩ := hW
 refine (contract W base args ds p hval hA (fun x hx => by simpa using hW'.lt x (by simp [hx]))).mono fun e W' ⟨r, he, h1, h2⟩ => ?_
 subst h1
 exact ⟨_, he, law_post hl hv hf hrt ht hr hW' h2⟩
end
end Go.SE
namespace Go.SE
open Go.ChangeShapes Go.WideShapes Go.ChangeAt Go.RowKit
section
variable {P : Program} {W : World} {r : Reach} {b0 : Nat} {t : TypeId} {v : Value}
theorem okWide_cells {fs : Array Field} {ts : List TypeId} (ht : P.underlying t = some (.struct fs)) (hc : P.cellTypes P.depth t = some ts) (hn : P.cellsOf t = ts.length) (h : Value.okWide P W r b0 t v) :
  ∃ cs : Array Value, v = .agg cs ∧ cs.size = ts.length ∧ ∀ (i : Nat) (u : TypeId) (c : Value), ts[i]? = some u → cs[i]? = some c → Cell.okWide P W r b0 u c := by
 unfold Value.okWide at h
 rw [ht] at h
 obtain ⟨cs, rfl, hs, ts', hts, _, hall⟩ := h
 rw [hc] at hts
 cases hts
 refine ⟨cs, rfl, hs.trans hn, fun i u c hu hcs => ?_⟩
 obtain ⟨u', hu', hok⟩ := hall i c hcs
 have hlt : i < ts.length := (List.getElem?_eq_some_iff.1 hu).1
 rw [Nat.mod_eq_of_lt hlt, hu] at hu'
 cases hu'
 exact hok
end
end Go.SE
end
section
open Go Go.SE
namespace Go.Proofs
theorem mapM_facts {α β : Type} {f : α → Option β} : ∀ {l : List α} {r : List β}, l.mapM f = some r → r.length = l.length ∧ ∀ (i : Nat) (a : α), l[i]? = some a → ∃ b, f a = some b ∧ r[i]? = some b
 | [], r, h => by
  have : r = [] := by simpa using h.symm
  subst this
  exact ⟨rfl, fun i a h => by simp at h⟩
 | x :: xs, r, h => by
  rw [List.mapM_cons] at h
  cases hx : f x with
  | none => simp [hx] at h
  | some y =>
   cases hxs : xs.mapM f with
   | none => simp [hx, hxs] at h
   | some ys =>
    have : r = y :: ys := by simpa [hx, hxs] using h.symm
    subst this
    obtain ⟨h1, h2⟩ := mapM_facts hxs
    refine ⟨by simp [h1], fun i a ha => ?_⟩
    cases i with
    | zero => cases ha; exact ⟨y, hx, rfl⟩
    | succ i => exact h2 i a (by simpa using ha)
theorem cells_row {w : World} {base : Nat} {a : Addr} {n : Nat} {cs : List Value} (h : w.cells? base a n = some cs) : cs.length = n ∧ Row w a cs := by
 obtain ⟨_, h1, h2⟩ := World.cells?_some h
 exact ⟨h1, fun j hj => h2 j (by omega)⟩
section
variable {H : Type} {enc : TypeId × Value → H} {P : Program} {W : World} {base : Nat} {sp : Nat → Bool} {held : Bool}
theorem trod_int1 {t : TypeId} {k : IntKind} (ht : P.underlying t = some (.int k)) {n : Nat} {c : Value} {x : DataW H × List MemPlace} (h : DataW.trod enc P W base sp held n t [c] = some x) : ∃ m, c = .int k m := by
 cases n with
 | zero => cases h
 | succ n =>
  rw [DataW.trod_step] at h
  unfold DataW.trodStep at h
  rw [ht] at h
  cases c <;> simp at h
  obtain ⟨⟨rfl, _⟩, _⟩ := h
  exact ⟨_, rfl⟩
theorem trod_str1 {t : TypeId} (ht : P.underlying t = some .string) {n : Nat} {c : Value} {x : DataW H × List MemPlace} (h : DataW.trod enc P W base sp held n t [c] = some x) : ∃ m, c = .string m := by
 cases n with
 | zero => cases h
 | succ n =>
  rw [DataW.trod_step] at h
  unfold DataW.trodStep at h
  rw [ht] at h
  cases c <;> simp at h
  exact ⟨_, rfl⟩
theorem trod_slice1 {t e : TypeId} (ht : P.underlying t = some (.slice e)) {n : Nat} {c : Value} {x : DataW H × List MemPlace} (h : DataW.trod enc P W base sp held (n + 1) t [c] = some x) :
  c = .slice none 0 0 ∨ ∃ a len cap, c = .slice (some a) len cap ∧ len ≤ cap ∧ cap ≤ maxLen ∧ ∀ i, i < len → ∃ cs y, W.cells? base (a.add (i * P.cellsOf e)) (P.cellsOf e) = some cs ∧ DataW.trod enc P W base sp held n e cs = some y := by
 rw [DataW.trod_step] at h
 unfold DataW.trodStep at h
 rw [ht] at h
 cases c with
 | slice a len cap =>
  cases a with
  | none =>
   cases len with
   | zero => cases cap with
    | zero => exact .inl rfl
    | succ c => simp at h
   | succ l => simp at h
  | some a =>
   right
   simp only at h
   split at h
   ·rename_i hc
    refine ⟨a, len, cap, rfl, hc.2.1, hc.2.2, fun i hi => ?_⟩
    cases hm : (List.range len).mapM fun i => (W.cells? base (a.add (i * P.cellsOf e)) (P.cellsOf e)).bind (DataW.trod enc P W base sp held n e) with
    | none => rw [hm] at h; cases h
    | some r =>
     obtain ⟨b, hb, _⟩ := (mapM_facts hm).2 i i (by simp [hi])
     obtain ⟨cs, h1, h2⟩ := Option.bind_eq_some_iff.1 hb
     exact ⟨cs, b, h1, h2⟩
   ·cases h
 | _ => simp at h
structure TreeTypes (P : Program) (tS tT : TypeId) : Prop where
 ex : ∃ ti tu ts : TypeId, ∃ f0 f1 f2 f3 f4 f5 : Field, P.underlying tS = some (.slice tT) ∧ P.underlying tT = some (.struct #[f0, f1, f2, f3, f4, f5]) ∧ P.cellsOf tT = 6 ∧
  (f0.type = ti ∧ f1.type = ti ∧ f2.type = ti ∧ f3.type = tu ∧ f4.type = ts ∧ f5.type = tS) ∧ (f0.offset = 0 ∧ f1.offset = 1 ∧ f2.offset = 2 ∧ f3.offset = 3 ∧ f4.offset = 4 ∧ f5.offset = 5) ∧
  P.underlying ti = some (.int .i64) ∧ P.underlying tu = some (.int .u64) ∧ P.underlying ts = some .string ∧ P.cellsOf ti = 1 ∧ P.cellsOf tu = 1 ∧ P.cellsOf ts = 1 ∧ P.cellsOf tS = 1
theorem trod_tree {tS tT : TypeId} (hTT : TreeTypes P tS tT) : ∀ n : Nat,
  (∀ (c : Value) (x : DataW H × List MemPlace), DataW.trod enc P W base sp held n tS [c] = some x → ∃ s : Sl, ∃ ts : List Sp.Tree, c = s.v ∧ ∀ (k f t u : Int) (tx : ByteArray), TreeAt (fun _ => True) W s (.mk k f t u tx ts)) ∧
  (∀ (cs : List Value) (x : DataW H × List MemPlace), DataW.trod enc P W base sp held n tT cs = some x → ∃ t s, cs = trow t s ∧ TreeAt (fun _ => True) W s t) := by
 obtain ⟨ti, tu, tx, f0, f1, f2, f3, f4, f5, hS, hT, hc6, ⟨e0, e1, e2, e3, e4, e5⟩, ⟨o0, o1, o2, o3, o4, o5⟩, ui, uu, us, ci, cu, cs1, cS⟩ := hTT.ex
 intro n
 induction n with
 | zero => exact ⟨fun c x h => (by cases h), fun cs x h => (by cases h)⟩
 | succ n ih =>
  refine ⟨fun c x h => ?_, fun cs x h => ?_⟩
  ·rcases trod_slice1 hS h with rfl | ⟨a, len, cap, rfl, hle, hcm, hel⟩
   ·exact ⟨Sl.nil, [], rfl, fun k f t u tx => .mk k f t u tx [] Sl.nil (fun _ => Sl.nil) rfl (by simp) (fun i h => by simp at h) (fun i h => by simp at h)⟩
   ·rw [hc6] at hel
    have hex : ∀ i, ∃ q : Sp.Tree × Sl, i < len → Row W (a.add (i * 6)) (trow q.1 q.2) ∧ TreeAt (fun _ => True) W q.2 q.1 := by
     intro i
     by_cases hi : i < len
     ·obtain ⟨cs, y, h1, h2⟩ := hel i hi
      obtain ⟨tr, s, e, hTr⟩ := ih.2 cs y h2
      exact ⟨(tr, s), fun _ => ⟨e ▸ (cells_row h1).2, hTr⟩⟩
     ·exact ⟨(Sp.Tree.mk 0 0 0 0 ⟨#[]⟩ [], Sl.nil), fun h => absurd h hi⟩
    obtain ⟨q, hq⟩ := Classical.axiomOfChoice hex
    refine ⟨⟨some a, len, cap⟩, (List.range len).map fun i => (q i).1, rfl, fun k f t u tx => .mk k f t u tx _ _ (fun i => (q i).2) (by simp) (by simp only [maxLen] at hcm; simp; omega) (fun i h => ?_) (fun i h => ?_)⟩
    ·have hi : i < len := by simpa using h
     refine ⟨a.add (i * 6), ⟨by omega, by simpa using hi, a, rfl, by simp⟩, trivial, ?_⟩
     simpa using (hq i hi).1
    ·have hi : i < len := by simpa using h
     simpa using (hq i hi).2
  ·rw [DataW.trod_step] at h
   unfold DataW.trodStep at h
   rw [hT] at h
   simp only at h
   split at h
   ·rename_i hl
    rw [hc6] at hl
    match cs, hl with
    | [c0, c1, c2, c3, c4, c5], _ =>
     cases hm : ([f0, f1, f2, f3, f4, f5] : List Field).mapM (fun f => DataW.trod enc P W base sp held n f.type ((([c0, c1, c2, c3, c4, c5] : List Value).drop f.offset).take (P.cellsOf f.type))) with
     | none => rw [hm] at h; cases h
     | some r =>
      have hf := (mapM_facts hm).2
      obtain ⟨_, h0, _⟩ := hf 0 f0 rfl
      obtain ⟨_, h1, _⟩ := hf 1 f1 rfl
      obtain ⟨_, h2, _⟩ := hf 2 f2 rfl
      obtain ⟨_, h3, _⟩ := hf 3 f3 rfl
      obtain ⟨_, h4, _⟩ := hf 4 f4 rfl
      obtain ⟨_, h5, _⟩ := hf 5 f5 rfl
      rw [e0, o0, ci] at h0; rw [e1, o1, ci] at h1; rw [e2, o2, ci] at h2; rw [e3, o3, cu] at h3; rw [e4, o4, cs1] at h4; rw [e5, o5, cS] at h5
      obtain ⟨m0, rfl⟩ := trod_int1 ui h0
      obtain ⟨m1, rfl⟩ := trod_int1 ui h1
      obtain ⟨m2, rfl⟩ := trod_int1 ui h2
      obtain ⟨m3, rfl⟩ := trod_int1 uu h3
      obtain ⟨m4, rfl⟩ := trod_str1 us h4
      obtain ⟨s, ts, rfl, hTr⟩ := ih.1 c5 _ h5
      exact ⟨.mk m0 m1 m2 m3 m4 ts, s, rfl, hTr m0 m1 m2 m3 m4⟩
   ·cases h
end
theorem treeTypes : TreeTypes Try.prog 22 116 :=
 ⟨3, 38, 9, _, _, _, _, _, _, Try.underlying22, Try.underlying116, by kernel_rfl, ⟨rfl, rfl, rfl, rfl, rfl, rfl⟩, ⟨rfl, rfl, rfl, rfl, rfl, rfl⟩, Try.underlying3, Try.underlying38, Try.underlying9, by kernel_rfl, by kernel_rfl, by kernel_rfl, by kernel_rfl⟩
end Go.Proofs
end
section
open Go Go.SE
namespace Go.Proofs
section
variable {H : Type} {enc : TypeId × Value → H} {P : Program} {W : World} {base : Nat} {sp : Nat → Bool} {held : Bool}
theorem row_lt {a : Addr} {v : Value} {vs : List Value} (h : Row W a (v :: vs)) : a.block < W.heap.size := by
 have := h 0 (by simp)
 have := World.block_lt_of_cell? W (a.add 0) this
 rwa [add_block] at this
theorem list_of_trod {α : Type} {tS e : TypeId} {sz : Nat} {f : α → List Value} (hS : P.underlying tS = some (.slice e)) (hc : P.cellsOf e = sz) (hf : ∀ a, ∃ v vs, f a = v :: vs) (x0 : α)
  (hel : ∀ (n : Nat) (cs : List Value) (x : DataW H × List MemPlace), DataW.trod enc P W base sp held n e cs = some x → ∃ a, cs = f a) {n : Nat} {c : Value} {x : DataW H × List MemPlace} (h : DataW.trod enc P W base sp held n tS [c] = some x) :
  ∃ s : Sl, ∃ xs : List α, c = s.v ∧ Lst (fun b => b < W.heap.size) W sz s (xs.map f) := by
 cases n with
 | zero => cases h
 | succ n =>
  rcases trod_slice1 hS h with rfl | ⟨a, len, cap, rfl, hle, hcm, hall⟩
  ·exact ⟨Sl.nil, [], rfl, ⟨rfl, fun i hi => by simp at hi⟩⟩
  ·rw [hc] at hall
   have hex : ∀ i, ∃ q : α, i < len → Row W (a.add (i * sz)) (f q) := by
    intro i
    by_cases hi : i < len
    ·obtain ⟨cs, y, h1, h2⟩ := hall i hi
     obtain ⟨q, rfl⟩ := hel n cs y h2
     exact ⟨q, fun _ => (cells_row h1).2⟩
    ·exact ⟨x0, fun h => absurd h hi⟩
   obtain ⟨q, hq⟩ := Classical.axiomOfChoice hex
   refine ⟨⟨some a, len, cap⟩, (List.range len).map q, rfl, ⟨by simp, fun i hi => ?_⟩⟩
   have hi : i < len := by simpa using hi
   have hr := hq i hi
   obtain ⟨v, vs, e⟩ := hf (q i)
   refine ⟨a.add (i * sz), ⟨by omega, by simpa using hi, a, rfl, by simp⟩, ?_, by simpa using hr⟩
   rw [e] at hr; exact row_lt hr
theorem terms_of_trod {tS e : TypeId} (hS : P.underlying tS = some (.slice e)) (he : P.underlying e = some (.int .i64)) (hc : P.cellsOf e = 1) {n : Nat} {c : Value} {x : DataW H × List MemPlace} (h : DataW.trod enc P W base sp held n tS [c] = some x) :
  ∃ s : Sl, ∃ ts : List Int, c = s.v ∧ Lst (fun b => b < W.heap.size) W 1 s (tmr ts) := by
 have := list_of_trod (f := fun t : Int => [Value.int .i64 t]) hS hc (fun a => ⟨_, _, rfl⟩) 0 (fun n cs x h => ?_) h
 ·exact this
 ·cases n with
  | zero => cases h
  | succ n =>
   rw [DataW.trod_step] at h
   unfold DataW.trodStep at h
   rw [he] at h
   cases cs with
   | nil => simp at h
   | cons c l =>
    cases l with
    | cons c2 l2 => cases c <;> simp at h
    | nil =>
     cases c <;> simp at h
     obtain ⟨⟨rfl, _⟩, _⟩ := h
     exact ⟨_, rfl⟩
theorem trod_fields {t : TypeId} {fs : Array Field} (ht : P.underlying t = some (.struct fs)) {n : Nat} {cs : List Value} {x : DataW H × List MemPlace} (h : DataW.trod enc P W base sp held n t cs = some x) :
  ∃ m, cs.length = P.cellsOf t ∧ ∀ (i : Nat) (f : Field), fs.toList[i]? = some f → ∃ y, DataW.trod enc P W base sp held m f.type ((cs.drop f.offset).take (P.cellsOf f.type)) = some y := by
 cases n with
 | zero => cases h
 | succ n =>
  rw [DataW.trod_step] at h
  unfold DataW.trodStep at h
  rw [ht] at h
  simp only at h
  split at h
  ·rename_i hl
   cases hm : fs.toList.mapM (fun f => DataW.trod enc P W base sp held n f.type ((cs.drop f.offset).take (P.cellsOf f.type))) with
   | none => rw [hm] at h; cases h
   | some r =>
    refine ⟨n, hl, fun i f hf => ?_⟩
    obtain ⟨b, hb, _⟩ := (mapM_facts hm).2 i f hf
    exact ⟨b, hb⟩
  ·cases h
end
set_option maxRecDepth 100000 in
theorem step_of_trod {H : Type} {enc : TypeId × Value → H} {W : World} {base : Nat} {sp : Nat → Bool} {held : Bool} {n : Nat} {cs : List Value} {x : DataW H × List MemPlace} (h : DataW.trod enc Try.prog W base sp held n 167 cs = some x) : ∃ s, cs = strow s := by
 obtain ⟨m, hl, hf⟩ := trod_fields Try.underlying167 h
 rw [show (Try.prog.cellsOf 167) = 4 by kernel_rfl] at hl
 match cs, hl with
 | [c0, c1, c2, c3], _ =>
  obtain ⟨_, h0⟩ := hf 0 _ rfl
  obtain ⟨_, h1⟩ := hf 1 _ rfl
  obtain ⟨_, h2⟩ := hf 2 _ rfl
  obtain ⟨_, h3⟩ := hf 3 _ rfl
  simp only [show (Try.prog.cellsOf 3) = 1 by kernel_rfl, show (Try.prog.cellsOf 41) = 1 by kernel_rfl] at h0 h1 h2 h3
  obtain ⟨m0, rfl⟩ := trod_int1 Try.underlying3 h0
  obtain ⟨m1, rfl⟩ := trod_int1 Try.underlying3 h1
  obtain ⟨m2, rfl⟩ := trod_int1 Try.underlying3 h2
  obtain ⟨m3, rfl⟩ := trod_int1 Try.underlying41 h3
  exact ⟨⟨m0, m1, m2, m3⟩, rfl⟩
section
variable {H : Type} {enc : TypeId × Value → H} {W : World} {base : Nat} {sp : Nat → Bool} {held : Bool}
theorem terms_in {n : Nat} {c : Value} {x : DataW H × List MemPlace} (h : DataW.trod enc Try.prog W base sp held n 26 [c] = some x) : ∃ s : Sl, ∃ ts : List Int, c = s.v ∧ Lst (fun b => b < W.heap.size) W 1 s (tmr ts) :=
 terms_of_trod Try.underlying26 Try.underlying41 (by kernel_rfl) h
set_option maxRecDepth 100000 in
theorem steps_in {n : Nat} {c : Value} {x : DataW H × List MemPlace} (h : DataW.trod enc Try.prog W base sp held n 76 [c] = some x) : ∃ s : Sl, ∃ l : List Sp.Step, c = s.v ∧ Lst (fun b => b < W.heap.size) W 4 s (l.map strow) :=
 list_of_trod (sz := 4) (f := strow) Try.underlying76 (by kernel_rfl) (fun a => ⟨_, _, rfl⟩) ⟨0, 0, 0, 0⟩ (fun _ _ _ h => step_of_trod h) h
end
end Go.Proofs
end
