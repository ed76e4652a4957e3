import Derived.Test.YtakogcapgbilaaaPa3
import Derived.Test.YtakogcapgbilaaaPa2
import Derived.Test.YtakogcapgbilaaaProg
import Derived.KernelRfl
import Derived.Test.YtakogcapgbilaaaPa0
import Derived.ProofKit
import Derived.Carry
import Derived.OpenShut
import Derived.Stop.Joined
section
open Go Go.SE
namespace Go.Proofs
attribute [local irreducible] Calls
theorem fieldsErr_ne (s : Sp.Shape) (n : Sp.Node) : Sp.fieldsErr s n ≠ 53 := by
 unfold Sp.fieldsErr
 split
 ·omega
 ·split <;> omega
theorem ownErr_eq (k f t u : Int) (x : ByteArray) (len : Nat) : Sp.ownErr ⟨k, f, t, u, x, 0, 0⟩ len = (if (Sp.nodeErr ⟨k, f, t, u, x, 0, 0⟩ ≠ 53 ∧ (len : Int) ≠ (Sp.shapeOf k).kids) then 53 else Sp.nodeErr ⟨k, f, t, u, x, 0, 0⟩) := by
 unfold Sp.ownErr Sp.nodeErr
 simp only
 rcases plainErr_val ⟨k, f, t, u, x, 0, 0⟩ with h | h
 ·rw [h]; simp
 ·rw [h]
  have := fieldsErr_ne (Sp.shapeOf k) ⟨k, f, t, u, x, 0, 0⟩
  by_cases h2 : (len : Int) = (Sp.shapeOf k).kids <;> simp [h2, this]
theorem c_ref05_looked {S : Nat → Prop} (q : Addr) (hq : ¬ S q.block) (T : TypeId) (t : Sp.Tree) : ∀ (s : Sl) (inside seen : Int) (w0 : World), 0 ≤ inside → 0 ≤ seen → TreeAt S w0 s t → (∀ b, S b → b < w0.heap.size) → Box w0 q [.int .i64 seen] T →
  Calls Try.prog 159 #[.agg (trow t s).toArray, .int .i64 inside, .pointer (some q)] w0
   (fun e w' => ∃ r : Int, e = .returned (.int .i64 r) ∧ (r = (Sp.looks inside seen t).1 ∧ Box w' q [.int .i64 (Sp.looks inside seen t).2] T ∧ Ext (· = q.block) w0 w')) := by
 induction t using Sp.Tree.ind with
 | h k f t u x ks ih =>
 intro s inside seen w0 hi0 hn0 hT hSw hB
 suffices key : ∀ K : Int → World → Prop, (∀ r w', (r = (Sp.looks inside seen (.mk k f t u x ks)).1 ∧ Box w' q [.int .i64 (Sp.looks inside seen (.mk k f t u x ks)).2] T ∧ Ext (· = q.block) w0 w') → K r w') → m_ref05_looked k f t u x s inside (some q) w0 K from
  w_ref05_looked _ _ _ _ _ _ _ _ w0 _ (key _ (fun _ _ h => h))
 intro K hK
 have hql := hB.lt
 unfold m_ref05_looked
 refine ⟨q, rfl, ?_⟩
 intro H1 w1 hs1
 have hB1 := hB.pure hs1.first
 refine ⟨seen, hB1.cell0, ?_⟩
 intro H5 w13 hs5
 have E13 := hs1.first.hst hs5
 have hB13 := hB.pure E13
 have hq0 : ∀ {H w' H' w''}, Hst w0 H w' H' w'' → ¬ H' q.block := fun h hh => by have := h.old _ hh; omega
 unfold m_ref05_looked_j1
 refine ⟨fun h => ?_, fun h => ?_⟩
 ·have : Sp.looks inside seen (.mk k f t u x ks) = (52, seen) := by
   rw [Sp.looks]
   simp only [Bool.or_eq_true, decide_eq_true_eq] at h
   by_cases h1 : 4096 ≤ seen
   ·rw [if_pos h1]
   ·rw [if_neg h1, if_pos (by omega)]
  rw [this] at hK; exact hK _ _ ⟨rfl, hB13, E13.pure⟩
 ·have h1 : ¬ 4096 ≤ seen ∧ ¬ 64 ≤ inside := by
   simp only [Bool.or_eq_false_iff, decide_eq_false_iff_not] at h; omega
  have hsp : Sp.looks inside seen (.mk k f t u x ks) = Sp.looksAll (inside + 1) (Sp.ownErr ⟨k, f, t, u, x, 0, 0⟩ ks.length) (seen + 1) ks := by rw [Sp.looks, if_neg h1.1, if_neg h1.2]
  rw [hsp] at hK
  have hlen : s.len = ks.length := by cases hT; assumption
  have hfit : ks.length ≤ 9223372036854775807 := by cases hT; assumption
  refine ⟨q, rfl, seen, hB13.cell0, q, rfl, hB13.canW0 (by simp), hq0 hs5, ?_⟩
  rw [i64 (n := seen + 1) (by omega) (by omega)]
  rintro w2 hw2
  have hB2 : Box w2 q [.int .i64 (seen + 1)] T := by rw [hw2]; exact hB13.set0
  have E2 : Ext (· = q.block) w0 w2 := by rw [hw2]; exact E13.pure.trans (Ext.setCell q _)
  clear hw2
  rintro y1 rfl
  have hsh := ref05_shape ⟨k, f, t, u, x, 0, 0⟩
  simp only at hsh
  rw [hsh, ref05_kids, hlen]
  have hown : cond ((Sp.nodeErr ⟨k, f, t, u, x, 0, 0⟩ != 53) && ((ks.length : Int) != (Sp.shapeOf k).kids)) 53 (Sp.nodeErr ⟨k, f, t, u, x, 0, 0⟩) = Sp.ownErr ⟨k, f, t, u, x, 0, 0⟩ ks.length := by
   rw [ownErr_eq]
   by_cases h2 : Sp.nodeErr ⟨k, f, t, u, x, 0, 0⟩ = 53
   ·simp [h2]
   ·by_cases h3 : (ks.length : Int) = (Sp.shapeOf k).kids
    ·simp [h3]
    ·have e1 : (Sp.nodeErr ⟨k, f, t, u, x, 0, 0⟩ != 53) = true := by simpa using h2
     have e2 : ((ks.length : Int) != (Sp.shapeOf k).kids) = true := by simpa using h3
     rw [e1, e2, if_pos ⟨h2, h3⟩]; rfl
  rw [hown]
  intro H3 w10 hs3
  have E10 : Ext (· = q.block) w0 w10 := E2.hst hs3
  have hB10 := hB2.ext hs3.ext (hq0 hs3)
  refine ⟨fun e i H w' => ∃ j : Nat, i = j ∧ j ≤ ks.length ∧ ∃ n : Int, 0 ≤ n ∧ Ext (· = q.block) w0 w' ∧ Box w' q [.int .i64 n] T ∧ Sp.looksAll (inside + 1) e n (ks.drop j) = Sp.looksAll (inside + 1) (Sp.ownErr ⟨k, f, t, u, x, 0, 0⟩ ks.length) (seen + 1) ks, fun _ i _ => ((ks.length : Int) - i).toNat, ⟨0, rfl, Nat.zero_le _, seen + 1, by omega, E10, hB10, rfl⟩, ?_⟩
  rintro e1 _ Hl wl hl ⟨j, rfl, hj, n, hn, El, hBl, heq⟩
  unfold m_ref05_looked_l2
  have hTl := hT.ext El (fun b hb e => hq (e ▸ hb))
  refine ⟨fun hc => ?_, fun hc => ?_⟩
  ·simp only [Bool.and_eq_true, beq_iff_eq] at hc
   obtain ⟨he, hlt⟩ := hc
   have hlt := lt_of_dec hlen hlt
   subst he
   cases hTl with
   | mk _ _ _ _ _ _ _ rs len fit row kid =>
   obtain ⟨a, hat, ha, hr⟩ := row j hlt
   refine ⟨a, hat, ?_⟩
   intro H4 w11 hs4
   have E11 := El.hst hs4
   have hT11 := hT.ext E11 (fun b hb e => hq (e ▸ hb))
   have hr11 : Row w11 a (trow ks[j] (rs j)) := hs4.ext.row hr (fun hh => by have := hs4.old _ hh; have := hSw _ ha; omega)
   have hk11 : TreeAt S w11 (rs j) ks[j] := (kid j hlt).ext hs4.ext (fun b hb hh => by have := hs4.old _ hh; have := hSw _ hb; omega)
   have hB11 := hBl.ext hs4.ext (hq0 hs4)
   refine ⟨_, _, _, _, _, rs j, hr11, ?_⟩
   rw [i64 (n := inside + 1) (by omega) (by omega)]
   refine (ih j hlt (rs j) (inside + 1) n w11 (by omega) hn hk11 (fun b hb => by have := hSw b hb; have := E11.size; omega) hB11).mono ?_
   rintro _ w12 ⟨r, rfl, rfl, hB12, E12⟩
   refine ⟨_, rfl, E12.kept (fun b hb e => hq0 hs4 (e ▸ hb)), ?_⟩
   rw [wrap_succ hlt (by omega)]
   refine ⟨⟨j + 1, rfl, hlt, _, looks_mono ks[j] (inside + 1) n hn, E11.trans E12, hB12, ?_⟩, lt_dec hlt⟩
   rw [← heq]; exact (looksAll_drop hlt (inside + 1) n).symm
  ·intro H4 w11 hs4
   have hfin : Sp.looksAll (inside + 1) e1 n (ks.drop j) = (e1, n) := by
    by_cases he : e1 = 0
    ·have hge : j = ks.length := by
      rw [he] at hc
      have hc : decide ((j : Int) < (s.len : Int)) = false := by simpa using hc
      exact eq_of_dec hlen hj hc
     rw [hge, List.drop_length]; rfl
    ·exact looksAll_bad he _ _
   rw [hfin] at heq
   refine hK _ _ ⟨by rw [← heq], ?_, El.hst hs4⟩
   rw [← heq]; exact hBl.ext hs4.ext (hq0 hs4)
theorem c_ref05_Looks {S : Nat → Prop} (t : Sp.Tree) (s : Sl) (w0 : World) (hT : TreeAt S w0 s t) (hSw : ∀ b, S b → b < w0.heap.size) :
  Calls Try.prog 125 #[.agg (trow t s).toArray] w0 (fun e w' => ∃ r : Int, e = .returned (.int .i64 r) ∧ (r = (Sp.looks 0 0 t).1 ∧ Pure w0 w')) := by
 obtain ⟨k, f, to, u, x, ks⟩ := t
 refine w_ref05_Looks _ _ _ _ _ _ w0 (fun r w' => r = (Sp.looks 0 0 (.mk k f to u x ks)).1 ∧ Pure w0 w') ?_
 unfold m_ref05_Looks
 intro H1 w1 hs1 p w2 h2
 have b2 := Box.of_new h2
 have E2 : Pure w0 w2 := hs1.first.trans (Ext.new h2)
 have o2 := New.own hs1.first h2
 have hpH : ¬ H1 p.block := fun hh => by have := hs1.lt _ hh; have := h2.at_size; omega
 refine ⟨b2.canW0 (by simp), hpH, ?_⟩
 rintro w3 hw3
 have b3 : Box w3 p [.int .i64 0] 3 := by rw [hw3]; exact b2.set0
 have E3 : Pure w0 w3 := by rw [hw3]; exact E2.own o2 (Ext.setCell p _)
 clear hw3
 refine (c_ref05_looked p (fun h => by have := hSw _ h; omega) _ _ s 0 0 w3 (Int.le_refl _) (Int.le_refl _) (hT.pure E3) (fun b hb => by have := hSw b hb; have := E3.size; omega) b3).mono ?_
 rintro _ w4 ⟨r, rfl, rfl, _, E4⟩
 exact ⟨_, rfl, E4.kept (fun b hb e => hpH (e ▸ hb)), rfl, E3.own o2 E4⟩
end Go.Proofs
end
section
open Go Go.SE
namespace Go.Proofs
attribute [local irreducible] Calls
theorem c_ref05_cut (p : Addr) (n : Nat) (w0 : World) {L : Sp.Pool} {F : Nat → Prop} (hP : PoolR w0 p L F) (hn : n ≤ L.length) :
  Calls Try.prog 127 #[.pointer (some p), .int .i64 n] w0 (fun e w' => e = .returned (.tuple #[]) ∧ PoolR w' p (L.take n) F ∧ Ext F w0 w') := by
 suffices key : ∀ K : World → Prop, (∀ w', PoolR w' p (L.take n) F ∧ Ext F w0 w' → K w') → m_ref05_Pool_cut (some p) n w0 K from
  w_ref05_Pool_cut _ _ w0 _ (key _ (fun _ h => h))
 intro K hK
 unfold m_ref05_Pool_cut
 obtain ⟨s1, s2, s3, hS, hF⟩ := hP
 obtain ⟨t1, hr1, R1, hb1⟩ := Rws.hi (P := Try.prog) slT_node hS.r1 (k := .i64) (n := n) (by omega) (by simpa using hn)
 refine ⟨p, rfl, s1, hS.box.cell0, t1, hr1, p, rfl, hS.box.canW0 (by simp), ?_⟩
 rintro w1 hw1
 have B1 : Box w1 p [t1.v, s2.v, s3.v] 75 := by rw [hw1]; exact hS.box.set0
 have X1 : Ext (· = p.block) w0 w1 := by rw [hw1]; exact Ext.setCell p _
 clear hw1
 obtain ⟨t2, hr2, R2, hb2⟩ := Rws.hi (P := Try.prog) slT_int (hS.r2.ext X1 (fun b hb e => hS.n2 (e ▸ hb))) (k := .i64) (n := n) (by omega) (by simpa using hn)
 refine ⟨p, rfl, s2, B1.cell rfl, t2, hr2, p, rfl, B1.canW (by simp), ?_⟩
 rintro w2 hw2
 have B2 : Box w2 p [t1.v, t2.v, s3.v] 75 := by rw [hw2]; exact B1.set 1 _
 have X2 : Ext (· = p.block) w1 w2 := by rw [hw2]; have := Ext.setCell (w := w1) (p.add 1) t2.v; rw [add_block] at this; exact this
 clear hw2
 obtain ⟨t3, hr3, R3, hb3⟩ := Rws.hi (P := Try.prog) slT_int (hS.r3.ext (X1.trans X2) (fun b hb e => hS.n3 (e ▸ hb))) (k := .i64) (n := n) (by omega) (by simpa using hn)
 refine ⟨p, rfl, s3, B2.cell rfl, t3, hr3, p, rfl, B2.canW (by simp), ?_⟩
 rintro w3 hw3
 have B3 : Box w3 p [t1.v, t2.v, t3.v] 75 := by rw [hw3]; exact B2.set 2 _
 have X3 : Ext (· = p.block) w2 w3 := by rw [hw3]; have := Ext.setCell (w := w2) (p.add 2) t3.v; rw [add_block] at this; exact this
 clear hw3
 have E := (X1.trans X2).trans X3
 refine hK _ ⟨⟨t1, t2, t3, ⟨B3, ?_, ?_, ?_, fun h => hS.n1 ((hb1 _).1 h), fun h => hS.n2 ((hb2 _).1 h), fun h => hS.n3 ((hb3 _).1 h), fun b h1 h2 => hS.d12 b ((hb1 b).1 h1) ((hb2 b).1 h2), fun b h1 h2 => hS.d13 b ((hb1 b).1 h1) ((hb3 b).1 h2), fun b h1 h2 => hS.d23 b ((hb2 b).1 h1) ((hb3 b).1 h2)⟩, fun b => by rw [hF b, hb1 b, hb2 b, hb3 b]⟩, E.mono (fun i _ h => (hF i).2 (.inl h))⟩
 ·have := R1.ext E (fun b hb e => hS.n1 ((hb1 _).1 (e ▸ hb)))
  rw [List.map_take]; simpa using this
 ·have := R2.ext (X2.trans X3) (fun b hb e => hS.n2 ((hb2 _).1 (e ▸ hb)))
  rw [List.map_take]; simpa using this
 ·have := R3.ext X3 (fun b hb e => hS.n3 ((hb3 _).1 (e ▸ hb)))
  rw [List.map_take]; simpa using this
theorem c_ref05_made {S : Nat → Prop} (p : Addr) (t : Sp.Tree) : ∀ (s : Sl) (w0 : World) (L : Sp.Pool) (F : Nat → Prop), Sp.Tree.two t → TreeAt S w0 s t → PoolR w0 p L F → Sp.Ok L → (∀ b, F b → ¬ S b) → (∀ b, S b → b < w0.heap.size) →
  Calls Try.prog 126 #[.pointer (some p), .agg (trow t s).toArray] w0
   (fun e w' => ∃ r1 : Int, ∃ r2 : Int, e = .returned (.tuple #[.int .i64 r1, .int .i64 r2]) ∧ ((r1, r2) = ((Sp.grow L t).1, (Sp.grow L t).2.1) ∧ ∃ F', PoolR w' p (Sp.grow L t).2.2 F' ∧ Ext F w0 w' ∧ ∀ b, F' b → F b ∨ w0.heap.size ≤ b)) := by
 induction t using Sp.Tree.ind with
 | h k f t u x ks ih =>
 intro s w0 L F h2 hT hP hok hFS hSw
 suffices key : ∀ K : Int → Int → World → Prop, (∀ r1 r2 w', ((r1, r2) = ((Sp.grow L (.mk k f t u x ks)).1, (Sp.grow L (.mk k f t u x ks)).2.1) ∧ ∃ F', PoolR w' p (Sp.grow L (.mk k f t u x ks)).2.2 F' ∧ Ext F w0 w' ∧ ∀ b, F' b → F b ∨ w0.heap.size ≤ b) → K r1 r2 w') → m_ref05_Pool_made (some p) k f t u x s w0 K from
  w_ref05_Pool_made _ _ _ _ _ _ _ w0 _ (key _ (fun _ _ _ h => h))
 intro K hK
 obtain ⟨hk2, hall⟩ := two_mk.1 h2
 have hsp : Sp.grow L (.mk k f t u x ks) = Sp.growAll ⟨k, f, t, u, x, 0, 0⟩ 0 L ks := by rw [Sp.grow]
 rw [hsp] at hK
 have hlen : s.len = ks.length := by cases hT; assumption
 unfold m_ref05_Pool_made
 intro H2 w4 hs4
 refine ⟨fun i a1 a2 a3 a4 a5 a6 a7 H w' => ∃ j : Nat, i = j ∧ j ≤ ks.length ∧ ∃ (L' : Sp.Pool) (F' : Nat → Prop), Sp.growAll ⟨k, f, t, u, x, 0, 0⟩ 0 L ks = Sp.growAll ⟨a1, a2, a3, a4, a5, a6, a7⟩ j L' (ks.drop j) ∧ Sp.Ok L' ∧ PoolR w' p L' F' ∧ (∀ b, F' b → F b ∨ w0.heap.size ≤ b) ∧ (∀ b, F' b → ¬ H b) ∧ Ext F w0 w', fun i _ _ _ _ _ _ _ _ => ((ks.length : Int) - i).toNat,
  ⟨0, rfl, Nat.zero_le _, L, F, by simp, hok, hP.pure hs4.first, fun b h => .inl h, hs4.disj0 (fun b hb => hP.lt hb), hs4.first.pure⟩, ?_⟩
 rintro _ a1 a2 a3 a4 a5 a6 a7 Hl wl hl ⟨j, rfl, hj, L', F', heq, hok', hPl, hF', hv, El⟩
 unfold m_ref05_Pool_made_l1
 refine ⟨fun h => ?_, fun h => ?_⟩
 ·have hlt := lt_of_dec hlen h
  have hTl : TreeAt S wl s (.mk k f t u x ks) := hT.ext El (fun b hs hf => hFS b hf hs)
  have hkid : ∃ a r, At s j 6 a ∧ Row wl a (trow ks[j] r) ∧ TreeAt S wl r ks[j] := by
   cases hTl with
   | mk _ _ _ _ _ _ _ rs len fit row kid => exact let ⟨a, h1, _, h3⟩ := row j hlt; ⟨a, rs j, h1, h3, kid j hlt⟩
  obtain ⟨a, r, hat, hrow, hTk⟩ := hkid
  refine ⟨a, hat, _, _, _, _, _, r, hrow, ?_⟩
  have hsz : w0.heap.size ≤ wl.heap.size := El.size
  refine (ih j hlt r wl L' F' (twoAll_get hall hlt) hTk hPl hok' (fun b hb hs => (hF' b hb).elim (fun h => hFS b h hs) (fun h => by have := hSw b hs; omega)) (fun b hs => by have := hSw b hs; omega)).mono ?_
  rintro _ w8 ⟨r1, r2, rfl, hr, F8, hP8, E8, hF8⟩
  have e1 : r1 = (Sp.grow L' ks[j]).1 := congrArg Prod.fst hr
  have e2 : r2 = (Sp.grow L' ks[j]).2.1 := congrArg Prod.snd hr
  rw [List.drop_eq_getElem_cons hlt] at heq
  have hF8' : ∀ b, F8 b → F b ∨ w0.heap.size ≤ b := fun b hb => (hF8 b hb).elim (hF' b) (fun h => by right; omega)
  have Ew8 : Ext F w0 w8 := El.trans' E8 (fun i hi h => (hF' i h).elim id (fun h => by omega))
  refine ⟨_, _, rfl, E8.kept (fun b hH hF => hv b hF hH), fun h => ?_, fun h => ?_⟩
  ·have h : (Sp.grow L' ks[j]).2.1 ≠ 0 := by rw [← e2]; simpa using h
   rw [growAll_bad h] at heq
   refine hK _ _ _ ?_
   rw [heq]; exact ⟨by rw [e2], F8, hP8, Ew8, hF8'⟩
  ·have h : (Sp.grow L' ks[j]).2.1 = 0 := by rw [← e2]; simpa using h
   rw [growAll_good h] at heq
   intro H3 w9 hs9
   have hv8 : ∀ b, F8 b → ¬ Hl b := fun b hb hH => (hF8 b hb).elim (fun h => hv b h hH) (fun h => by have := hl.lt b hH; omega)
   have hv9 : ∀ b, F8 b → ¬ H3 b := hs9.disj (fun b hb => ⟨hP8.lt hb, hv8 b hb⟩)
   rw [wrap_succ hlt (by omega)]
   refine ⟨⟨j + 1, rfl, hlt, _, F8, ?_, (Sp.grow_facts ks[j] L' hok').1, hP8.ext hs9.ext hv9, hF8', hv9, Ew8.hst hs9⟩, lt_dec hlt⟩
   rw [heq, e1]
   have hj0 : (((j : Int)) == 0) = decide (j = 0) := by rw [Bool.eq_iff_iff]; simp
   rw [hj0]
   by_cases hj0' : j = 0
   ·subst hj0'; rfl
   ·simp [hj0']
 ·have hge := eq_of_dec hlen hj h
  rw [hge, List.drop_length, Sp.growAll] at heq
  refine (c_ref05_Make p ⟨a1, a2, a3, a4, a5, a6, a7⟩ wl hPl hok').mono ?_
  rintro _ w9 ⟨r1, r2, rfl, hr, F9, hP9, E9, hF9⟩
  have hsz : w0.heap.size ≤ wl.heap.size := El.size
  refine ⟨_, _, rfl, E9.kept (fun b hH hF => hv b hF hH), hK _ _ _ ?_⟩
  rw [heq]
  exact ⟨hr, F9, hP9, El.trans' E9 (fun i hi h => (hF' i h).elim id (fun h => by omega)), fun b hb => (hF9 b hb).elim (hF' b) (fun h => by right; omega)⟩
theorem grow_bad_term (t : Sp.Tree) : ∀ L, (Sp.grow L t).2.1 ≠ 0 → (Sp.grow L t).1 = 0 := by
 induction t using Sp.Tree.ind with
 | h k f t u x ks ih =>
  have hmk : ∀ L n, (Sp.make L n).2.1 ≠ 0 → (Sp.make L n).1 = 0 := by
   intro L n h
   unfold Sp.make at h ⊢
   simp only at h ⊢
   split at h
   ·rename_i h1; rw [if_pos h1]
   ·rename_i h1
    rw [if_neg h1]
    split at h
    ·rename_i hf; exact absurd rfl h
    ·split at h
     ·rename_i h2; simp [h2]
     ·exact absurd rfl h
  have : ∀ (ks : List Sp.Tree), (∀ i (hi : i < ks.length), ∀ L, (Sp.grow L ks[i]).2.1 ≠ 0 → (Sp.grow L ks[i]).1 = 0) → ∀ n i L, (Sp.growAll n i L ks).2.1 ≠ 0 → (Sp.growAll n i L ks).1 = 0 := by
   intro ks
   induction ks with
   | nil => intro _ n i L h; unfold Sp.growAll at h ⊢; exact hmk L n h
   | cons t ts iht =>
    intro hh n i L h
    unfold Sp.growAll at h ⊢
    split at h
    ·rename_i h1; rw [if_pos h1]
    ·rename_i h1; rw [if_neg h1]; exact iht (fun i hi => hh (i + 1) (by simpa using hi)) _ _ _ h
  intro L h
  unfold Sp.grow at h ⊢
  exact this ks ih _ _ L h
theorem c_ref05_Of {S : Nat → Prop} (p : Addr) (t : Sp.Tree) (s : Sl) (w0 : World) {L : Sp.Pool} {F : Nat → Prop} (hT : TreeAt S w0 s t) (hP : PoolR w0 p L F) (hok : Sp.Ok L) (hFS : ∀ b, F b → ¬ S b) (hSw : ∀ b, S b → b < w0.heap.size) :
  Calls Try.prog 77 #[.pointer (some p), .agg (trow t s).toArray] w0
   (fun e w' => ∃ r1 : Int, ∃ r2 : Int, e = .returned (.tuple #[.int .i64 r1, .int .i64 r2]) ∧ ((r1, r2) = ((Sp.of L t).1, (Sp.of L t).2.1) ∧ ∃ F', PoolR w' p (Sp.of L t).2.2 F' ∧ Ext F w0 w' ∧ ∀ b, F' b → F b ∨ w0.heap.size ≤ b)) := by
 obtain ⟨k, f, to, u, x, ks⟩ := t
 suffices key : ∀ K : Int → Int → World → Prop, (∀ r1 r2 w', ((r1, r2) = ((Sp.of L (.mk k f to u x ks)).1, (Sp.of L (.mk k f to u x ks)).2.1) ∧ ∃ F', PoolR w' p (Sp.of L (.mk k f to u x ks)).2.2 F' ∧ Ext F w0 w' ∧ ∀ b, F' b → F b ∨ w0.heap.size ≤ b) → K r1 r2 w') → m_ref05_Pool_Of (some p) k f to u x s w0 K from
  w_ref05_Pool_Of _ _ _ _ _ _ _ w0 _ (key _ (fun _ _ _ h => h))
 intro K hK
 unfold m_ref05_Pool_Of
 intro H1 w1 hs1
 have E1 := hs1.first
 generalize ht : Sp.Tree.mk k f to u x ks = t at *
 have htr : (Value.agg #[.int .i64 k, .int .i64 f, .int .i64 to, .int .u64 u, .string x, s.v]) = .agg (trow t s).toArray := by rw [← ht]; rfl
 rw [htr]
 refine (c_ref05_Looks t s w1 (hT.pure E1) (fun b hb => by have := hSw b hb; have := E1.size; omega)).mono ?_
 rintro _ w2 ⟨r1, rfl, rfl, E2⟩
 have E12 := E1.trans E2
 refine ⟨_, rfl, E2.keptP, fun h => ?_, fun h => ?_⟩
 ·have h : (Sp.looks 0 0 t).1 ≠ 0 := by simpa using h
  have : Sp.of L t = (0, (Sp.looks 0 0 t).1, L) := by rw [Sp.of, if_pos h]
  refine hK _ _ _ ?_
  rw [this]; exact ⟨rfl, F, hP.pure E12, E12.pure, fun _ h => .inl h⟩
 ·have h : (Sp.looks 0 0 t).1 = 0 := by simpa using h
  have hP2 := hP.pure E12
  have hv : ∀ b, F b → ¬ H1 b := hs1.disj0 (fun b hb => hP.lt hb)
  obtain ⟨s1, s2, s3, hS, hF0⟩ := id hP2
  have hl0 : s1.len = L.length := by rw [hS.r1.len]; simp
  refine ⟨p, rfl, s1, hS.box.cell0, ?_⟩
  refine (c_ref05_made p t s w2 L F (looks_two t _ _ h) (hT.pure E12) hP2 hok hFS (fun b hb => by have := hSw b hb; have := E12.size; omega)).mono ?_
  rintro _ w5 ⟨r1, r2, rfl, hr, F5, hP5, E5, hF5⟩
  have e1 : r1 = (Sp.grow L t).1 := congrArg Prod.fst hr
  have e2 : r2 = (Sp.grow L t).2.1 := congrArg Prod.snd hr
  have hs4 : w0.heap.size ≤ w2.heap.size := E12.size
  have E05 : Ext F w0 w5 := E12.pure.trans E5
  have hF5' : ∀ b, F5 b → F b ∨ w0.heap.size ≤ b := fun b hb => (hF5 b hb).elim .inl (fun h => .inr (by omega))
  have hs2 := hs1.again E2.keptP
  have hv5 : ∀ b, F5 b → ¬ H1 b := fun b hb hH => (hF5 b hb).elim (fun h => hv b h hH) (fun h => by have := hs2.lt b hH; omega)
  refine ⟨_, _, rfl, E5.kept (fun b hH hF => hv b hF hH), fun h' => ?_, fun h' => ?_⟩
  ·have h' : (Sp.grow L t).2.1 ≠ 0 := by rw [← e2]; simpa using h'
   obtain ⟨hok5, M, hM⟩ := Sp.grow_facts t L hok
   rw [hl0]
   refine (c_ref05_cut p L.length w5 hP5 (by rw [hM]; simp)).mono ?_
   rintro _ w6 ⟨rfl, hP6, E6⟩
   have : Sp.of L t = (0, (Sp.grow L t).2.1, L) := by rw [Sp.of, if_neg (by simp [h]), if_pos h']
   refine ⟨rfl, E6.kept (fun b hH hF => hv5 b hF hH), hK _ _ _ ?_⟩
   rw [this]
   rw [hM, List.take_left] at hP6
   exact ⟨by rw [e1, e2, grow_bad_term t L h'], F5, hP6, E05.trans' E6 (fun i hi h => (hF5' i h).elim id (fun h => by omega)), hF5'⟩
  ·have h' : (Sp.grow L t).2.1 = 0 := by rw [← e2]; simpa using h'
   have : Sp.of L t = ((Sp.grow L t).1, 0, (Sp.grow L t).2.2) := by rw [Sp.of, if_neg (by simp [h]), if_neg (by simp [h'])]
   refine hK _ _ _ ?_
   rw [this]
   exact ⟨by rw [e1, e2, h'], F5, hP5, E05, hF5'⟩
end Go.Proofs
end
section
namespace Go.Sp
inductive Good : Tree → Prop
 | mk (k f t u : Int) (x : ByteArray) (ks : List Tree) (own : ownErr ⟨k, f, t, u, x, 0, 0⟩ ks.length = 0) (kids : ∀ i (hi : i < ks.length), Good ks[i]) : Good (.mk k f t u x ks)
theorem Good.inv {k f t u : Int} {x : ByteArray} {ks : List Tree} (h : Good (.mk k f t u x ks)) : plainErr ⟨k, f, t, u, x, 0, 0⟩ = 0 ∧ (ks.length : Int) = (shapeOf k).kids ∧ fieldsErr (shapeOf k) ⟨k, f, t, u, x, 0, 0⟩ = 0 ∧ ∀ i (hi : i < ks.length), Good ks[i] := by
 cases h with
 | mk _ _ _ _ _ _ own kids =>
  unfold ownErr at own
  simp only at own
  by_cases hp : plainErr ⟨k, f, t, u, x, 0, 0⟩ = 0
  ·rw [if_pos hp] at own
   by_cases hl : (ks.length : Int) ≠ (shapeOf k).kids
   ·rw [if_pos hl] at own; simp at own
   ·rw [if_neg hl] at own
    simp at own
    exact ⟨hp, by simpa using hl, own, kids⟩
  ·rw [if_neg hp, if_neg hp] at own; exact absurd own hp
end Go.Sp
end
section
namespace Go.Sp
mutual
def cnt : Tree → Nat
 | .mk _ _ _ _ _ ks => 1 + cntAll ks
def cntAll : List Tree → Nat
 | [] => 0
 | t :: ts => cnt t + cntAll ts
end
mutual
def parts (most : Int) : Tree → Int
 | .mk _ _ _ _ _ ks => partsAll most 1 ks
def partsAll (most n : Int) : List Tree → Int
 | [] => n
 | t :: ts => if n ≤ most then partsAll most (n + parts (most - n) t) ts else n
end
theorem parts_facts (t : Tree) : ∀ most : Int, 0 ≤ most → 1 ≤ parts most t ∧ parts most t ≤ most + 1 ∧ (parts most t ≤ most → (cnt t : Int) = parts most t) := by
 induction t using Tree.ind with
 | h k f tt u x ks ih =>
  have hA : ∀ (ks : List Tree), (∀ i (hi : i < ks.length), ∀ most : Int, 0 ≤ most → 1 ≤ parts most ks[i] ∧ parts most ks[i] ≤ most + 1 ∧ (parts most ks[i] ≤ most → (cnt ks[i] : Int) = parts most ks[i])) →
    ∀ most n : Int, 1 ≤ n → n ≤ most + 1 → n ≤ partsAll most n ks ∧ partsAll most n ks ≤ most + 1 ∧ (partsAll most n ks ≤ most → n + (cntAll ks : Int) = partsAll most n ks) := by
   intro ks
   induction ks with
   | nil => intro _ most n h1 h2; simp [partsAll, cntAll, h2]
   | cons t ts iht =>
    intro hh most n h1 h2
    unfold partsAll
    by_cases hn : n ≤ most
    ·rw [if_pos hn]
     have h0 := hh 0 (by simp) (most - n) (by omega)
     simp only [List.getElem_cons_zero] at h0
     have h3 := iht (fun i hi => hh (i + 1) (by simpa using hi)) most (n + parts (most - n) t) (by omega) (by omega)
     refine ⟨by omega, h3.2.1, fun h => ?_⟩
     have h4 := h3.2.2 h
     have h5 := h0.2.2 (by omega)
     simp only [cntAll]; omega
    ·rw [if_neg hn]; exact ⟨Int.le_refl _, h2, fun h => absurd h hn⟩
  intro most hm
  have := hA ks ih most 1 (by omega) (by omega)
  simp only [parts, cnt]
  refine ⟨this.1, this.2.1, fun h => ?_⟩
  have := this.2.2 h
  omega
mutual
def same : Tree → Tree → Bool
 | .mk k f t u x ks, .mk k' f' t' u' x' ks' => decide (k = k') && decide (f = f') && decide (t = t') && decide (u = u') && decide (x = x') && sameAll ks ks'
def sameAll : List Tree → List Tree → Bool
 | [], [] => true
 | t :: ts, t' :: ts' => same t t' && sameAll ts ts'
 | _, _ => false
end
end Go.Sp
end
section
open Go Go.SE
namespace Go.Proofs
attribute [local irreducible] Calls
theorem TreeAt.hst {S : Nat → Prop} {w0 w w' : World} {H H' : Nat → Prop} {s : Sl} {t : Sp.Tree} (h : TreeAt S w s t) (hs : Hst w0 H w H' w') (hd : ∀ b, S b → b < w.heap.size ∧ ¬ H b) : TreeAt S w' s t :=
 h.ext hs.ext (fun b hb hh => hs.disj (G := S) hd b hb hh)
theorem c_ref05_Parts {S : Nat → Prop} (t : Sp.Tree) : ∀ (s : Sl) (most : Int) (w0 : World), 0 ≤ most → most ≤ 1000000000 → TreeAt S w0 s t → (∀ b, S b → b < w0.heap.size) →
  Calls Try.prog 71 #[.agg (trow t s).toArray, .int .i64 most] w0 (fun e w' => ∃ r : Int, e = .returned (.int .i64 r) ∧ (r = Sp.parts most t ∧ Pure w0 w')) := by
 induction t using Sp.Tree.ind with
 | h k f t u x ks ih =>
 intro s most w0 hm0 hm hT hSw
 suffices key : ∀ K : Int → World → Prop, (∀ r w', (r = Sp.parts most (.mk k f t u x ks) ∧ Pure w0 w') → K r w') → m_ref05_Parts k f t u x s most w0 K from
  w_ref05_Parts _ _ _ _ _ _ _ w0 _ (key _ (fun _ _ h => h))
 intro K hK
 have hlen : s.len = ks.length := by cases hT; assumption
 have hfit : ks.length ≤ 9223372036854775807 := by cases hT; assumption
 unfold m_ref05_Parts
 intro H1 w1 hs1
 refine ⟨fun n i H w' => ∃ j : Nat, i = j ∧ j ≤ ks.length ∧ 1 ≤ n ∧ n ≤ most + 1 ∧ Pure w0 w' ∧ Sp.partsAll most 1 ks = Sp.partsAll most n (ks.drop j), fun _ i _ => ((ks.length : Int) - i).toNat, ⟨0, rfl, Nat.zero_le _, Int.le_refl _, by omega, hs1.first, rfl⟩, ?_⟩
 rintro n _ Hl wl hl ⟨j, rfl, hj, hn1, hn2, El, heq⟩
 unfold m_ref05_Parts_l1
 refine ⟨fun hc => ?_, fun hc => ?_⟩
 ·simp only [Bool.and_eq_true, decide_eq_true_eq] at hc
  have hlt : j < ks.length := by omega
  rw [List.drop_eq_getElem_cons hlt, Sp.partsAll, if_pos hc.2] at heq
  have hT1 := hT.pure El
  cases hT1 with
  | mk _ _ _ _ _ _ _ rs len fit row kid =>
  obtain ⟨a, hat, ha, hr⟩ := row j hlt
  refine ⟨a, hat, ?_⟩
  intro H2 w2 hs2
  have hd : ∀ b, S b → ¬ H2 b := fun b hb hh => by have := hs2.old _ hh; have := hSw b hb; omega
  refine ⟨_, _, _, _, _, rs j, hs2.ext.row hr (hd _ ha), ?_⟩
  rw [i64 (n := most - n) (by omega) (by omega)]
  refine (ih j hlt (rs j) (most - n) w2 (by omega) (by omega) ((kid j hlt).ext hs2.ext hd) (fun b hb => by have := hSw b hb; have := (El.hst hs2).size; omega)).mono ?_
  rintro _ w3 ⟨r, rfl, rfl, E3⟩
  have hpf := Sp.parts_facts ks[j] (most - n) (by omega)
  refine ⟨_, rfl, E3.keptP, ?_⟩
  rw [wrap_succ hlt (by omega), i64 (n := n + Sp.parts (most - n) ks[j]) (by omega) (by omega)]
  exact ⟨⟨j + 1, rfl, hlt, by omega, by omega, (El.hst hs2).trans E3, heq⟩, lt_dec hlt⟩
 ·intro H2 w2 hs2
  refine hK _ _ ⟨?_, El.hst hs2⟩
  rw [Sp.parts, heq]
  by_cases hj2 : j = ks.length
  ·rw [hj2, List.drop_length]; rfl
  ·have hlt : j < ks.length := by omega
   rw [List.drop_eq_getElem_cons hlt, Sp.partsAll, if_neg]
   intro h
   have : decide (n ≤ most) = true := decide_eq_true h
   have h2 : decide ((j : Int) < (s.len : Int)) = true := decide_eq_true (by omega)
   rw [this, h2] at hc; cases hc
end Go.Proofs
end
section
open Go Go.SE
namespace Go.Proofs
set_option maxRecDepth 100000
set_option maxHeartbeats 4000000
attribute [local irreducible] wpL wpX opE wpE Calls
end Go.Proofs
end
section
open Go Go.SE
namespace Go.Proofs
set_option maxRecDepth 100000
set_option maxHeartbeats 4000000
attribute [local irreducible] wpL wpX opE wpE Calls
def m_law08_wide_l1 (l1 : Sl) (n1 i1 : Int) (wl1 : World) (Kc1 : Int → Int → World → Prop) (K : Bool → World → Prop) : Prop :=
 Br ((decide (i1 < (l1.len : Int))) && (decide (i1 ≤ 12)))
  (∃ a1 : Addr, At l1 i1 6 a1 ∧
  ∃ aL aM : Int, ∃ aN aO : Int, ∃ aP : ByteArray, ∃ aQ : Sl, Row wl1 a1 [(vi aL), (vi aM), (vi aN), (vu aO), (vs aP), aQ.v] ∧
  Calls Try.prog 71 #[(.agg #[(vi aL), (vi aM), (vi aN), (vu aO), (vs aP), aQ.v]), (vi 400)] wl1 (fun e w2 => ∃ r1 : Int, e = .returned (vi r1) ∧ 
   Br (decide ((IntKind.i64.wrap (n1 + r1)) ≥ 400))
    (K true w2)
    (Kc1 (IntKind.i64.wrap (n1 + r1)) (IntKind.i64.wrap (i1 + 1)) w2)))
  (K (decide ((l1.len : Int) > 12)) wl1)
def m_law08_wide (l1 : Sl) (w0 : World) (K : Bool → World → Prop) : Prop :=
 ∃ (I1 : Int → Int → World → Prop) (mu1 : Int → Int → World → Nat), I1 0 0 w0 ∧
  ∀ (n1 i1 : Int) (wl1 : World), I1 n1 i1 wl1 → m_law08_wide_l1 l1 n1 i1 wl1 (fun y'0 y'1 w' => I1 y'0 y'1 w' ∧ mu1 y'0 y'1 w' < mu1 n1 i1 wl1) K
theorem w_law08_wide (l1 : Sl) (w0 : World) (K : Bool → World → Prop) (h : m_law08_wide l1 w0 K) :
  Calls Try.prog 33 #[l1.v] w0 (fun e w' => ∃ r2 : Bool, e = .returned (vb r2) ∧ K r2 w') := by
 unfold m_law08_wide at h
 refine calls_of_wpE (args := [l1.v]) Try.func33 rfl Try.ntmps33 (Nat.le_of_ble_eq_true rfl) (wpE_seq (rg (q0 (vb false) (wpL_nil (th_n (wpE_seq (rg (q0 (vi 0) (wpL_nil (th_n (wpE_seq ?_)))))))))))
 refine wpE_seq (rg (q0 (vi 0) (wpL_nil (th_n (wpE_block ?_)))))
 obtain ⟨I1, mu1, h0, hr⟩ := h
 refine wpE_loop (σ := Int × Int × World) (fun s ρ w => w = s.2.2 ∧ Has ρ [(0, l1.v), (3, (vi s.1)), (4, (vi s.2.1))] ∧ I1 s.1 s.2.1 s.2.2) (fun s => mu1 s.1 s.2.1 s.2.2) (0, 0, w0) ⟨rfl, Has.mk (by kernel_rfl), h0⟩ ?_
 rintro ⟨n1, i1, wl1⟩ ρ w ⟨hw, hH, hI⟩
 obtain rfl : wl1 = w := (show w = wl1 from hw).symm
 replace hH : Has ρ [(0, l1.v), (3, (vi n1)), (4, (vi i1))] := hH
 have h := hr n1 i1 wl1 hI
 clear hr h0
 unfold m_law08_wide_l1 at h
 refine wpE_has hH ?_
 clear hH hI
 refine wpE_seq (wpE_seq ?_)
 refine wpE_via (fun ρ wJ => ∃ b1'0 : Bool, ((decide (i1 < (l1.len : Int))) = b1'0) ∧ wl1 = wJ ∧ Has ρ [(0, l1.v), (3, (vi n1)), (4, (vi i1)), (12, (vb (b1'0 && (decide (i1 ≤ 12)))))]) ?_ ?_
 ·skip
  refine rg (q0 (vi i1) (q0 l1.v (q0 (vi (l1.len : Int)) (q0 (vb (decide (i1 < (l1.len : Int)))) (q0 (vb (decide (i1 < (l1.len : Int)))) ?_)))))
  rcases Bool.eq_false_or_eq_true (decide (i1 < (l1.len : Int))) with hg2 | hg2
  ·skip
   refine q1 (vi i1) (want1 rfl (yD 9 hg2)) (q1 (vb (decide (i1 ≤ 12))) (want1 rfl (yD 9 hg2)) (q2 (vb (decide (i1 ≤ 12))) (xT hg2) (wpL_nil (th_n ?_))))
   exact ⟨true, hg2, rfl, Has.mk (by kernel_rfl)⟩
  ·skip
   refine sk (yD 9 hg2) (sk (yD 9 hg2) (q2 (vb false) (xF hg2) (wpL_nil (th_n ?_))))
   exact ⟨false, hg2, rfl, Has.mk (by kernel_rfl)⟩
 ·rintro ρ w1 ⟨b1'0, he0, hw, hH⟩
  subst he0
  subst hw
  refine norm_has hH ?_
  clear hH
  refine th_n ?_
  refine wpE_cond (t := ((decide (i1 < (l1.len : Int))) && (decide (i1 ≤ 12)))) (by kernel_rfl) (fun hc1 => ?_) (fun hc1 => ?_)
  ·replace h := h.1 hc1
   refine wpE_skip (th_n (wpE_seq (wpE_block (wpE_seq (rg (q0 (vi n1) (q0 l1.v (q0 (vi i1) ?_))))))))
   obtain ⟨a1, hv2, h⟩ := h
   refine q2 (vp (some a1)) (x_indexAddr (s := l1) (k := .i64) (i := i1) (by kernel_rfl) (by kernel_rfl) (Try.runUnderlying22 _) (Try.sizeOf116 _) hv2) ?_
   obtain ⟨aL, aM, aN, aO, aP, aQ, hv1, h⟩ := h
   refine q2 (.agg #[(vi aL), (vi aM), (vi aN), (vu aO), (vs aP), aQ.v]) (x_loadA (a := a1) (vs := [(vi aL), (vi aM), (vi aN), (vu aO), (vs aP), aQ.v]) (by kernel_rfl) (Try.isAgg116 _) (Try.sizeOf116 _) rfl hv1) ?_
   refine st_call (want0 rfl) (xc Try.call71) (h.mono ?_)
   rintro e w2 ⟨r1, rfl, h⟩
   refine ⟨_, rfl, ?_⟩
   refine q0 (vi (IntKind.i64.wrap (n1 + r1))) (q0 (vi (IntKind.i64.wrap (n1 + r1))) (wpL_nil (th_n (wpE_seq (rg (q0 (vi (IntKind.i64.wrap (n1 + r1))) (q0 (vb (decide ((IntKind.i64.wrap (n1 + r1)) ≥ 400))) (wpL_nil (th_n ?_)))))))))
   refine wpE_cond (t := (decide ((IntKind.i64.wrap (n1 + r1)) ≥ 400))) (by kernel_rfl) (fun hc2 => ?_) (fun hc2 => ?_)
   ·replace h := h.1 hc2
    refine wpE_seq (rg (q0 (vb true) (wpL_nil (th_n (wpE_ret (bl_r (th_r (th_r (bl_r (th_r (res1 (.inl rfl) Try.results33 (v := (vb true)) (by kernel_rfl) ?_)))))))))))
    exact ⟨true, rfl, h⟩
   ·replace h := h.2 hc2
    refine wpE_skip (bl_n (th_n (rg (q0 (vi i1) (q0 (vi (IntKind.i64.wrap (i1 + 1))) (q0 (vi (IntKind.i64.wrap (i1 + 1))) (wpL_nil (th_n ?_))))))))
    exact ⟨((IntKind.i64.wrap (n1 + r1)), (IntKind.i64.wrap (i1 + 1)), w2), ⟨rfl, Has.mk (by kernel_rfl), h.1⟩, h.2⟩
  ·replace h := h.2 hc1
   refine wpE_exit (th_x (th_x (bl_eq (th_n (wpE_seq (rg (q0 l1.v (q0 (vi (l1.len : Int)) (q0 (vb (decide ((l1.len : Int) > 12))) (q0 (vb (decide ((l1.len : Int) > 12))) (wpL_nil ?_)))))))))))
   refine th_n (wpE_ret (res1 (.inl rfl) Try.results33 (v := (vb (decide ((l1.len : Int) > 12)))) (by kernel_rfl) ?_))
   exact ⟨(decide ((l1.len : Int) > 12)), rfl, h⟩
def s_law08_num (e1 : Int) : Int :=
 e1
theorem pw_law08_num (e1 : Int) (w0 : World) :
  Calls Try.prog 43 #[(vi e1)] w0 (fun e w' => (e = .returned (vi e1)) ∧ Pure w0 w') := by
 refine calls_of_wpE (args := [(vi e1)]) Try.func43 rfl Try.ntmps43 (Nat.le_of_ble_eq_true rfl) (wpE_seq (rg (q0 (vi 0) (wpL_nil (th_n (wpE_seq (rg (q0 (vi e1) (q0 (vi e1) (wpL_nil (th_n ?_)))))))))))
 refine wpE_ret (res1 (.inl rfl) Try.results43 (v := (vi e1)) (by kernel_rfl) ?_)
 exact ⟨by kernel_rfl, Ext.refl _⟩
theorem p_law08_num (e1 : Int) (w0 : World) : Calls Try.prog 43 #[(.int .i64 e1)] w0 (fun e w' => e = .returned (.int .i64 (s_law08_num e1)) ∧ Pure w0 w') := pw_law08_num e1 w0
def m_law08_live_j4 (r2 : Option Addr) (x4 : Bool) (w0 : World) (H : Nat → Prop) (w : World) (K : Bool → World → Prop) : Prop :=
 Br x4
  (Calls Try.prog 37 #[(vp r2), (vi 99)] w (fun e w29 => ∃ r26 : Int, e = .returned (vi r26) ∧ 
   Kept H w w29 ∧
   ∀ (w30 : World), Hst w0 H w29 H w30 →
   K (r26 == 51) w30))
  (K false w)
def m_law08_live_j3 (r2 : Option Addr) (r25 : Int) (x3 : Bool) (w0 : World) (H : Nat → Prop) (w : World) (K : Bool → World → Prop) : Prop :=
 Br (x3 && (r25 == 0))
  (∀ (H7 : Nat → Prop) (w28 : World), Hst w0 H w H7 w28 →
  Calls Try.prog 90 #[(vp r2)] w28 (fun e w31 => ∃ r27 : Sl, e = .returned r27.v ∧ 
   Kept H7 w28 w31 ∧
   m_law08_live_j4 r2 (((r27.len : Int) : Int) == 2) w0 H7 w31 K))
  (∀ (H7 : Nat → Prop) (w28 : World), Hst w0 H w H7 w28 →
  m_law08_live_j4 r2 false w0 H7 w28 K)
def m_law08_live_j2 (r2 : Option Addr) (r3 r25 : Int) (x2 : Bool) (w0 : World) (H : Nat → Prop) (w : World) (K : Bool → World → Prop) : Prop :=
 Br x2
  (Calls Try.prog 48 #[(vp r2), (vi r3)] w (fun e w32 => ∃ r28 : Bool, e = .returned (vb r28) ∧ 
   Kept H w w32 ∧
   m_law08_live_j3 r2 r25 r28 w0 H w32 K))
  (m_law08_live_j3 r2 r25 false w0 H w K)
def m_law08_live_j1 (r2 : Option Addr) (r3 r15 r25 : Int) (x1 : Bool) (w0 : World) (H : Nat → Prop) (w : World) (K : Bool → World → Prop) : Prop :=
 Br x1
  (Calls Try.prog 48 #[(vp r2), (vi r15)] w (fun e w33 => ∃ r29 : Bool, e = .returned (vb r29) ∧ 
   Kept H w w33 ∧
   m_law08_live_j2 r2 r3 r25 (!r29) w0 H w33 K))
  (m_law08_live_j2 r2 r3 r25 false w0 H w K)
def m_law08_live  (w0 : World) (K : Bool → World → Prop) : Prop :=
 Calls Try.prog 72 #[] w0 (fun e w1 => ∃ r1 : Option Addr, e = .returned (vp r1) ∧ 
  Kept None w0 w1 ∧
  Calls Try.prog 36 #[(vp r1)] w1 (fun e w2 => ∃ r2 : Option Addr, e = .returned (vp r2) ∧ 
   Kept None w1 w2 ∧
   Br ((Option.isNone r1) || (Option.isNone r2))
    (∀ (H1 : Nat → Prop) (w3 : World), Hst w0 None w2 H1 w3 →
    K false w3)
    (∀ (H1 : Nat → Prop) (w3 : World), Hst w0 None w2 H1 w3 →
    Calls Try.prog 84 #[(vp r1), (vu 1)] w3 (fun e w4 => ∃ r3 r4 : Int, e = .returned (.tuple #[(vi r3), (vi r4)]) ∧ 
     Kept H1 w3 w4 ∧
     Calls Try.prog 85 #[(vp r1), (vi 2)] w4 (fun e w5 => ∃ r5 r6 : Int, e = .returned (.tuple #[(vi r5), (vi r6)]) ∧ 
      Kept H1 w4 w5 ∧
      Calls Try.prog 86 #[(vp r1), (vi r3), (vi r5)] w5 (fun e w6 => ∃ r7 r8 : Int, e = .returned (.tuple #[(vi r7), (vi r8)]) ∧ 
       Kept H1 w5 w6 ∧
       Calls Try.prog 87 #[(vp r1), (vi 0), (vi r7)] w6 (fun e w7 => ∃ r9 r10 : Int, e = .returned (.tuple #[(vi r9), (vi r10)]) ∧ 
        Kept H1 w6 w7 ∧
        Calls Try.prog 88 #[(vp r1), (vi r3)] w7 (fun e w8 => ∃ r11 r12 : Int, e = .returned (.tuple #[(vi r11), (vi r12)]) ∧ 
         Kept H1 w7 w8 ∧
         Calls Try.prog 89 #[(vp r1), (vi 0)] w8 (fun e w9 => ∃ r13 r14 : Int, e = .returned (.tuple #[(vi r13), (vi r14)]) ∧ 
          Kept H1 w8 w9 ∧
          Calls Try.prog 87 #[(vp r1), (vi 0), (vi r3)] w9 (fun e w10 => ∃ r15 r16 : Int, e = .returned (.tuple #[(vi r15), (vi r16)]) ∧ 
           Kept H1 w9 w10 ∧
           Calls Try.prog 37 #[(vp r2), (vi r9)] w10 (fun e w11 => ∃ r17 : Int, e = .returned (vi r17) ∧ 
            Kept H1 w10 w11 ∧
            Calls Try.prog 40 #[(vp r2), (vi r11)] w11 (fun e w12 => ∃ r18 : Sl, ∃ r19 : Bool, e = .returned (.tuple #[r18.v, (vb r19)]) ∧ 
             Kept H1 w11 w12 ∧
             ∀ (p1 : Addr) (w13 : World), New w12 (.cells #[(vi r9)] 41) p1 w13 →
             Calls Try.prog 41 #[(vp r1), (Sl.mk (some p1) 1 1).v, r18.v, (vi r11)] w13 (fun e w14 => ∃ r20 r21 : Int, e = .returned (.tuple #[(vi r20), (vi r21)]) ∧ 
              Kept H1 w13 w14 ∧
              Calls Try.prog 46 #[(vp r2), (vi r15)] w14 (fun e w15 => ∃ r22 : Bool, e = .returned (vb r22) ∧ 
               Kept H1 w14 w15 ∧
               Calls Try.prog 37 #[(vp r2), (vi r13)] w15 (fun e w16 => ∃ r23 : Int, e = .returned (vi r23) ∧ 
                Kept H1 w15 w16 ∧
                Calls Try.prog 41 #[(vp r1), Sl.nil.v, Sl.nil.v, (vi r11)] w16 (fun e w17 => ∃ r24 r25 : Int, e = .returned (.tuple #[(vi r24), (vi r25)]) ∧ 
                 Kept H1 w16 w17 ∧
                 ∀ y1 : Bool, y1 = (((((r17 == 0) && (r23 == 0)) && (decide ((r18.len : Int) > 0))) && r19) && (r20 == 0)) →
                 Br (y1 && (!r22))
                  (∀ (H6 : Nat → Prop) (w27 : World), Hst w0 H1 w17 H6 w27 →
                  Calls Try.prog 46 #[(vp r2), (vi r15)] w27 (fun e w34 => ∃ r30 : Bool, e = .returned (vb r30) ∧ 
                   Kept H6 w27 w34 ∧
                   m_law08_live_j1 r2 r3 r15 r25 r30 w0 H6 w34 K))
                  (∀ (H6 : Nat → Prop) (w27 : World), Hst w0 H1 w17 H6 w27 →
                  m_law08_live_j1 r2 r3 r15 r25 false w0 H6 w27 K)))))))))))))))))
theorem w_law08_live  (w0 : World) (K : Bool → World → Prop) (h : m_law08_live  w0 K) :
  Calls Try.prog 34 #[] w0 (fun e w' => ∃ r31 : Bool, e = .returned (vb r31) ∧ K r31 w') := by
 unfold m_law08_live at h
 refine calls_of_wpE (args := []) Try.func34 rfl Try.ntmps34 (Nat.le_of_ble_eq_true rfl) ?_
 have hs := Hst.start w0
 have hb := HB.nil None w0
 refine wpE_seq (rg (q0 (vb false) (wpL_nil (th_n (wpE_seq (rg ?_))))))
 refine st_call (want0 rfl) (xc Try.call72) (h.mono ?_)
 rintro e w1 ⟨r1, rfl, hk, h⟩
 refine ⟨_, rfl, ?_⟩
 obtain ⟨hs, hb⟩ := hk.hh hs hb
 refine q0 (vp r1) (wpL_nil (th_n (wpE_seq (rg (q0 (vp r1) ?_)))))
 refine st_call (want0 rfl) (xc Try.call36) (h.mono ?_)
 rintro e w2 ⟨r2, rfl, hk, h⟩
 refine ⟨_, rfl, ?_⟩
 obtain ⟨hs, hb⟩ := hk.hh hs hb
 refine q0 (vp r2) (wpL_nil (th_n (wpE_seq (wpE_seq ?_))))
 refine wpE_via (fun ρ wJ => ∃ b1'0 : Bool, ∃ HJ : Nat → Prop, ((Option.isNone r1) = b1'0) ∧ Hst w0 None w2 HJ wJ ∧ HB HJ wJ [] ∧ Has ρ [(1, (vp r1)), (2, (vp r2)), (34, (vb (b1'0 || (Option.isNone r2))))]) ?_ ?_
 ·skip
  refine rg (q0 (vp r1) (q2 (vb (Option.isNone r1)) (x_ptreq (by kernel_rfl) rfl Try.underlying25) (q0 (vb (Option.isNone r1)) ?_)))
  rcases Bool.eq_false_or_eq_true (Option.isNone r1) with hg2 | hg2
  ·skip
   refine sk (yD 31 hg2) (sk (yD 31 hg2) (q2 (vb true) (xT hg2) (wpL_nil (th_n ?_))))
   exact ⟨true, _, hg2, hs, hb, Has.mk (by kernel_rfl)⟩
  ·skip
   refine q1 (vp r2) (want1 rfl (yD 31 hg2)) (stp (v := (vb (Option.isNone r2))) (want1 rfl (yD 31 hg2)) (x_ptreq (by kernel_rfl) rfl Try.underlying62) (q2 (vb (Option.isNone r2)) (xF hg2) (wpL_nil (th_n ?_))))
   exact ⟨false, _, hg2, hs, hb, Has.mk (by kernel_rfl)⟩
 ·clear hs hb
  rintro ρ w3 ⟨b1'0, H1, he0, hs, hb, hH⟩
  subst he0
  refine norm_has hH ?_
  clear hH
  refine th_n ?_
  refine wpE_cond (t := ((Option.isNone r1) || (Option.isNone r2))) (by kernel_rfl) (fun hc1 => ?_) (fun hc1 => ?_)
  ·replace h := h.1 hc1
   refine wpE_seq (rg (q0 (vb false) (wpL_nil (th_n (wpE_ret (th_r ?_))))))
   replace h := h H1 w3 hs
   replace hs := hs.here
   refine res1 (.inl rfl) Try.results34 (v := (vb false)) (by kernel_rfl) ?_
   exact ⟨false, rfl, h⟩
  ·replace h := h.2 hc1
   refine wpE_skip (th_n (wpE_seq (rg (q0 (vp r1) ?_))))
   replace h := h H1 w3 hs
   replace hs := hs.here
   refine st_call (want0 rfl) (xc Try.call84) (h.mono ?_)
   rintro e w4 ⟨r3, r4, rfl, hk, h⟩
   refine ⟨_, rfl, ?_⟩
   obtain ⟨hs, hb⟩ := hk.hh hs hb
   refine q0 (.tuple #[(vi r3), (vi r4)]) (q0 (vi r3) (q0 (vi r4) (q0 (vi r3) (q0 (vi r4) (wpL_nil (th_n (wpE_seq (rg (q0 (vp r1) ?_)))))))))
   refine st_call (want0 rfl) (xc Try.call85) (h.mono ?_)
   rintro e w5 ⟨r5, r6, rfl, hk, h⟩
   refine ⟨_, rfl, ?_⟩
   obtain ⟨hs, hb⟩ := hk.hh hs hb
   refine q0 (.tuple #[(vi r5), (vi r6)]) (q0 (vi r5) (q0 (vi r6) (q0 (vi r5) (q0 (vi r6) (wpL_nil (th_n (wpE_seq (rg (q0 (vp r1) (q0 (vi r3) (q0 (vi r5) ?_)))))))))))
   refine st_call (want0 rfl) (xc Try.call86) (h.mono ?_)
   rintro e w6 ⟨r7, r8, rfl, hk, h⟩
   refine ⟨_, rfl, ?_⟩
   obtain ⟨hs, hb⟩ := hk.hh hs hb
   refine q0 (.tuple #[(vi r7), (vi r8)]) (q0 (vi r7) (q0 (vi r8) (q0 (vi r7) (q0 (vi r8) (wpL_nil (th_n (wpE_seq (rg (q0 (vp r1) (q0 (vi r7) ?_))))))))))
   refine st_call (want0 rfl) (xc Try.call87) (h.mono ?_)
   rintro e w7 ⟨r9, r10, rfl, hk, h⟩
   refine ⟨_, rfl, ?_⟩
   obtain ⟨hs, hb⟩ := hk.hh hs hb
   refine q0 (.tuple #[(vi r9), (vi r10)]) (q0 (vi r9) (q0 (vi r10) (q0 (vi r9) (q0 (vi r10) (wpL_nil (th_n (wpE_seq (rg (q0 (vp r1) (q0 (vi r3) ?_))))))))))
   refine st_call (want0 rfl) (xc Try.call88) (h.mono ?_)
   rintro e w8 ⟨r11, r12, rfl, hk, h⟩
   refine ⟨_, rfl, ?_⟩
   obtain ⟨hs, hb⟩ := hk.hh hs hb
   refine q0 (.tuple #[(vi r11), (vi r12)]) (q0 (vi r11) (q0 (vi r12) (q0 (vi r11) (q0 (vi r12) (wpL_nil (th_n (wpE_seq (rg (q0 (vp r1) ?_)))))))))
   refine st_call (want0 rfl) (xc Try.call89) (h.mono ?_)
   rintro e w9 ⟨r13, r14, rfl, hk, h⟩
   refine ⟨_, rfl, ?_⟩
   obtain ⟨hs, hb⟩ := hk.hh hs hb
   refine q0 (.tuple #[(vi r13), (vi r14)]) (q0 (vi r13) (q0 (vi r14) (q0 (vi r13) (q0 (vi r14) (wpL_nil (th_n (wpE_seq (rg (q0 (vp r1) (q0 (vi r3) ?_))))))))))
   refine st_call (want0 rfl) (xc Try.call87) (h.mono ?_)
   rintro e w10 ⟨r15, r16, rfl, hk, h⟩
   refine ⟨_, rfl, ?_⟩
   obtain ⟨hs, hb⟩ := hk.hh hs hb
   refine q0 (.tuple #[(vi r15), (vi r16)]) (q0 (vi r15) (q0 (vi r16) (q0 (vi r15) (q0 (vi r16) (wpL_nil (th_n (wpE_seq (rg (q0 (vp r2) (q0 (vi r9) ?_))))))))))
   refine st_call (want0 rfl) (xc Try.call37) (h.mono ?_)
   rintro e w11 ⟨r17, rfl, hk, h⟩
   refine ⟨_, rfl, ?_⟩
   obtain ⟨hs, hb⟩ := hk.hh hs hb
   refine q0 (vi r17) (wpL_nil (th_n (wpE_seq (rg (q0 (vp r2) (q0 (vi r11) ?_))))))
   refine st_call (want0 rfl) (xc Try.call40) (h.mono ?_)
   rintro e w12 ⟨r18, r19, rfl, hk, h⟩
   refine ⟨_, rfl, ?_⟩
   obtain ⟨hs, hb⟩ := hk.hh hs hb
   refine q0 (.tuple #[r18.v, (vb r19)]) (q0 r18.v (q0 (vb r19) (q0 r18.v (q0 (vb r19) (wpL_nil (th_n (wpE_seq (rg (q0 (vp r1) (q0 (vi r9) (st_new (O := (.cells #[(vi r9)] 41)) (fun p => (Sl.mk (some p) 1 1).v) (want0 rfl) (x_buildSlice (vs := #[(0, (vi r9))]) (by kernel_rfl) (by kernel_rfl)) ?_)))))))))))
   intro p1 w13 hn1
   replace h := h p1 w13 hn1
   replace hs := hs.again (Ext.new (F := None) hn1).keptP
   replace hb := hb.kept (Ext.new (F := None) hn1).keptP
   refine q0 r18.v (q0 (vi r11) ?_)
   refine st_call (want0 rfl) (xc Try.call41) (h.mono ?_)
   rintro e w14 ⟨r20, r21, rfl, hk, h⟩
   refine ⟨_, rfl, ?_⟩
   obtain ⟨hs, hb⟩ := hk.hh hs hb
   refine q0 (.tuple #[(vi r20), (vi r21)]) (q0 (vi r20) (q0 (vi r21) (q0 (vi r20) (q0 (vi r21) (wpL_nil (th_n (wpE_seq (rg (q0 (vp r2) (q0 (vi r15) ?_))))))))))
   refine st_call (want0 rfl) (xc Try.call46) (h.mono ?_)
   rintro e w15 ⟨r22, rfl, hk, h⟩
   refine ⟨_, rfl, ?_⟩
   obtain ⟨hs, hb⟩ := hk.hh hs hb
   refine q0 (vb r22) (wpL_nil (th_n (wpE_seq (rg (q0 (vp r2) (q0 (vi r13) ?_))))))
   refine st_call (want0 rfl) (xc Try.call37) (h.mono ?_)
   rintro e w16 ⟨r23, rfl, hk, h⟩
   refine ⟨_, rfl, ?_⟩
   obtain ⟨hs, hb⟩ := hk.hh hs hb
   refine q0 (vi r23) (wpL_nil (th_n (wpE_seq (rg (q0 (vp r1) (q0 (vi r11) ?_))))))
   refine st_call (want0 rfl) (xc Try.call41) (h.mono ?_)
   rintro e w17 ⟨r24, r25, rfl, hk, h⟩
   refine ⟨_, rfl, ?_⟩
   obtain ⟨hs, hb⟩ := hk.hh hs hb
   refine q0 (.tuple #[(vi r24), (vi r25)]) (q0 (vi r24) (q0 (vi r25) (q0 (vi r24) (q0 (vi r25) (wpL_nil (th_n (wpE_seq (rg (q0 (vi r17) ?_)))))))))
   refine st_call (want0 rfl) (xc Try.call43) ((p_law08_num r17 w17).mono ?_)
   rintro e w18 ⟨he, hE⟩
   refine ⟨(vi r17), he.trans (by kernel_rfl), ?_⟩
   replace hs := hs.pure hE
   replace hb := hb.pure hE
   clear hE he
   refine q0 (vb (r17 == 0)) (q0 (vb (r17 == 0)) ?_)
   refine wpL_join 4 (fun ρ wJ => ∃ b2'0 : Bool, ∃ HJ : Nat → Prop, ((r17 == 0) = b2'0) ∧ Hst w0 H1 w17 HJ wJ ∧ HB HJ wJ [] ∧ Has ρ [(2, (vp r2)), (3, (vi r3)), (15, (vi r15)), (18, r18.v), (19, (vb r19)), (20, (vi r20)), (22, (vb r22)), (25, (vi r25)), (112, (vb (b2'0 && (r23 == 0))))]) ?_ ?_
   ·clear hs hb
    rintro ρ w20 ⟨b2'0, H2, he0, hs, hb, hH⟩
    subst he0
    refine wpL_has hH ?_
    clear hH
    refine q0 (vb ((r17 == 0) && (r23 == 0))) ?_
    refine wpL_join 4 (fun ρ wJ => ∃ b3'0 : Bool, ∃ HJ : Nat → Prop, (((r17 == 0) && (r23 == 0)) = b3'0) ∧ Hst w0 H1 w17 HJ wJ ∧ HB HJ wJ [] ∧ Has ρ [(2, (vp r2)), (3, (vi r3)), (15, (vi r15)), (19, (vb r19)), (20, (vi r20)), (22, (vb r22)), (25, (vi r25)), (117, (vb (b3'0 && (decide ((r18.len : Int) > 0)))))]) ?_ ?_
    ·clear hs hb
     rintro ρ w22 ⟨b3'0, H3, he0, hs, hb, hH⟩
     subst he0
     refine wpL_has hH ?_
     clear hH
     refine q0 (vb (((r17 == 0) && (r23 == 0)) && (decide ((r18.len : Int) > 0)))) ?_
     refine wpL_join 2 (fun ρ wJ => ∃ b4'0 : Bool, ∃ HJ : Nat → Prop, ((((r17 == 0) && (r23 == 0)) && (decide ((r18.len : Int) > 0))) = b4'0) ∧ Hst w0 H1 w17 HJ wJ ∧ HB HJ wJ [] ∧ Has ρ [(2, (vp r2)), (3, (vi r3)), (15, (vi r15)), (20, (vi r20)), (22, (vb r22)), (25, (vi r25)), (120, (vb (b4'0 && r19)))]) ?_ ?_
     ·clear hs hb
      rintro ρ w23 ⟨b4'0, H4, he0, hs, hb, hH⟩
      subst he0
      refine wpL_has hH ?_
      clear hH
      refine q0 (vb ((((r17 == 0) && (r23 == 0)) && (decide ((r18.len : Int) > 0))) && r19)) ?_
      refine wpL_join 4 (fun ρ wJ => ∃ b5'0 y1 : Bool, ∃ HJ : Nat → Prop, (((((r17 == 0) && (r23 == 0)) && (decide ((r18.len : Int) > 0))) && r19) = b5'0) ∧ (y1 = (b5'0 && (r20 == 0))) ∧ Hst w0 H1 w17 HJ wJ ∧ HB HJ wJ [] ∧ Has ρ [(2, (vp r2)), (3, (vi r3)), (15, (vi r15)), (22, (vb r22)), (25, (vi r25)), (125, (vb y1))]) ?_ ?_
      ·clear hs hb
       rintro ρ w25 ⟨b5'0, y1, H5, he0, hy1, hs, hb, hH⟩
       subst he0
       replace h := h y1 hy1
       refine wpL_has hH ?_
       clear hH
       refine q0 (vb y1) ?_
       refine wpL_join 3 (fun ρ wJ => ∃ b6'0 : Bool, ∃ HJ : Nat → Prop, (y1 = b6'0) ∧ Hst w0 H1 w17 HJ wJ ∧ HB HJ wJ [] ∧ Has ρ [(2, (vp r2)), (3, (vi r3)), (15, (vi r15)), (25, (vi r25)), (129, (vb (b6'0 && (!r22))))]) ?_ ?_
       ·clear hs hb
        rintro ρ w27 ⟨b6'0, H6, he0, hs, hb, hH⟩
        subst he0
        refine wpL_has hH ?_
        clear hH
        refine q0 (vb (y1 && (!r22))) ?_
        refine wpL_join 4 (fun ρ w => ∃ x1 : Bool, ∃ H : Nat → Prop, Has ρ [(2, (vp r2)), (3, (vi r3)), (15, (vi r15)), (25, (vi r25)), (134, (vb x1))] ∧ Hst w0 H w H w ∧ HB H w [] ∧ m_law08_live_j1 r2 r3 r15 r25 x1 w0 H w K) ?_ ?_
        ·clear h hs hb
         rintro ρ w ⟨x1, H, hH, hs, hb, h⟩
         unfold m_law08_live_j1 at h
         refine wpL_has hH ?_
         clear hH
         refine q0 (vb x1) ?_
         refine wpL_join 5 (fun ρ w => ∃ x2 : Bool, ∃ H : Nat → Prop, Has ρ [(2, (vp r2)), (3, (vi r3)), (25, (vi r25)), (140, (vb x2))] ∧ Hst w0 H w H w ∧ HB H w [] ∧ m_law08_live_j2 r2 r3 r25 x2 w0 H w K) ?_ ?_
         ·clear h hs hb
          rintro ρ w ⟨x2, H, hH, hs, hb, h⟩
          unfold m_law08_live_j2 at h
          refine wpL_has hH ?_
          clear hH
          refine q0 (vb x2) ?_
          refine wpL_join 4 (fun ρ w => ∃ x3 : Bool, ∃ H : Nat → Prop, Has ρ [(2, (vp r2)), (25, (vi r25)), (145, (vb x3))] ∧ Hst w0 H w H w ∧ HB H w [] ∧ m_law08_live_j3 r2 r25 x3 w0 H w K) ?_ ?_
          ·clear h hs hb
           rintro ρ w ⟨x3, H, hH, hs, hb, h⟩
           unfold m_law08_live_j3 at h
           refine wpL_has hH ?_
           clear hH
           refine q0 (vb x3) ?_
           refine wpL_join 3 (fun ρ wJ => ∃ b7'0 : Bool, ∃ HJ : Nat → Prop, (x3 = b7'0) ∧ Hst w0 H w HJ wJ ∧ HB HJ wJ [] ∧ Has ρ [(2, (vp r2)), (149, (vb (b7'0 && (r25 == 0))))]) ?_ ?_
           ·clear hs hb
            rintro ρ w28 ⟨b7'0, H7, he0, hs, hb, hH⟩
            subst he0
            refine wpL_has hH ?_
            clear hH
            refine q0 (vb (x3 && (r25 == 0))) ?_
            refine wpL_join 5 (fun ρ w => ∃ x4 : Bool, ∃ H : Nat → Prop, Has ρ [(2, (vp r2)), (155, (vb x4))] ∧ Hst w0 H w H w ∧ HB H w [] ∧ m_law08_live_j4 r2 x4 w0 H w K) ?_ ?_
            ·clear h hs hb
             rintro ρ w ⟨x4, H, hH, hs, hb, h⟩
             unfold m_law08_live_j4 at h
             refine wpL_has hH ?_
             clear hH
             refine q0 (vb x4) ?_
             rcases Bool.eq_false_or_eq_true x4 with hg15 | hg15
             ·replace h := h.1 hg15
              refine q1 (vp r2) (want1 rfl (yD 156 hg15)) ?_
              refine st_call (want1 rfl (yD 156 hg15)) (xc Try.call37) (h.mono ?_)
              rintro e w29 ⟨r26, rfl, hk, h⟩
              refine ⟨_, rfl, ?_⟩
              obtain ⟨hs, hb⟩ := hk.hh hs hb
              refine st_call (want1 rfl (yD 156 hg15)) (xc Try.call43) ((p_law08_num r26 w29).mono ?_)
              rintro e w30 ⟨he, hE⟩
              refine ⟨(vi r26), he.trans (by kernel_rfl), ?_⟩
              replace hs := hs.pure hE
              replace hb := hb.pure hE
              clear hE he
              refine q1 (vb (r26 == 51)) (want1 rfl (yD 156 hg15)) (q2 (vb (r26 == 51)) (xT hg15) (q0 (vb (r26 == 51)) (wpL_nil (th_n (wpE_ret ?_)))))
              replace h := h w30 hs
              replace hs := hs.here
              refine res1 (.inl rfl) Try.results34 (v := (vb (r26 == 51))) (by kernel_rfl) ?_
              exact ⟨(r26 == 51), rfl, h⟩
             ·replace h := h.2 hg15
              refine sk (yD 156 hg15) (sk (yD 156 hg15) (sk (yD 156 hg15) (sk (yD 156 hg15) (q2 (vb false) (xF hg15) (q0 (vb false) (wpL_nil (th_n (wpE_ret (res1 (.inl rfl) Try.results34 (v := (vb false)) (by kernel_rfl) ?_)))))))))
              exact ⟨false, rfl, h⟩
            ·skip
             rcases Bool.eq_false_or_eq_true (x3 && (r25 == 0)) with hg16 | hg16
             ·replace h := h.1 hg16
              refine q1 (vp r2) (want1 rfl (yD 150 hg16)) ?_
              replace h := h H7 w28 hs
              replace hs := hs.here
              refine st_call (want1 rfl (yD 150 hg16)) (xc Try.call90) (h.mono ?_)
              rintro e w31 ⟨r27, rfl, hk, h⟩
              refine ⟨_, rfl, ?_⟩
              obtain ⟨hs, hb⟩ := hk.hh hs hb
              refine q1 (vi (r27.len : Int)) (want1 rfl (yD 150 hg16)) (q1 (vb (((r27.len : Int) : Int) == 2)) (want1 rfl (yD 150 hg16)) (q2 (vb (((r27.len : Int) : Int) == 2)) (xT hg16) (wpL_nil ?_)))
              exact ⟨(((r27.len : Int) : Int) == 2), H7, Has.mk (by kernel_rfl), hs, hb, h⟩
             ·replace h := h.2 hg16
              refine sk (yD 150 hg16) (sk (yD 150 hg16) (sk (yD 150 hg16) (sk (yD 150 hg16) (q2 (vb false) (xF hg16) (wpL_nil ?_)))))
              replace h := h H7 w28 hs
              replace hs := hs.here
              exact ⟨false, H7, Has.mk (by kernel_rfl), hs, hb, h⟩
           ·skip
            rcases Bool.eq_false_or_eq_true x3 with hg14 | hg14
            ·skip
             refine q1 (vi r25) (want1 rfl (yD 146 hg14)) (q1 (vb (r25 == 0)) (want1 rfl (yD 146 hg14)) (q2 (vb (r25 == 0)) (xT hg14) (wpL_nil ?_)))
             exact ⟨true, _, hg14, hs, hb, Has.mk (by kernel_rfl)⟩
            ·skip
             refine sk (yD 146 hg14) (sk (yD 146 hg14) (q2 (vb false) (xF hg14) (wpL_nil ?_)))
             exact ⟨false, _, hg14, hs, hb, Has.mk (by kernel_rfl)⟩
          ·skip
           rcases Bool.eq_false_or_eq_true x2 with hg17 | hg17
           ·replace h := h.1 hg17
            refine q1 (vp r2) (want1 rfl (yD 141 hg17)) (q1 (vi r3) (want1 rfl (yD 141 hg17)) ?_)
            refine st_call (want1 rfl (yD 141 hg17)) (xc Try.call48) (h.mono ?_)
            rintro e w32 ⟨r28, rfl, hk, h⟩
            refine ⟨_, rfl, ?_⟩
            obtain ⟨hs, hb⟩ := hk.hh hs hb
            refine q2 (vb r28) (xT hg17) (wpL_nil ?_)
            exact ⟨r28, H, Has.mk (by kernel_rfl), hs, hb, h⟩
           ·replace h := h.2 hg17
            refine sk (yD 141 hg17) (sk (yD 141 hg17) (sk (yD 141 hg17) (q2 (vb false) (xF hg17) (wpL_nil ?_))))
            exact ⟨false, H, Has.mk (by kernel_rfl), hs, hb, h⟩
         ·skip
          rcases Bool.eq_false_or_eq_true x1 with hg18 | hg18
          ·replace h := h.1 hg18
           refine q1 (vp r2) (want1 rfl (yD 135 hg18)) (q1 (vi r15) (want1 rfl (yD 135 hg18)) ?_)
           refine st_call (want1 rfl (yD 135 hg18)) (xc Try.call48) (h.mono ?_)
           rintro e w33 ⟨r29, rfl, hk, h⟩
           refine ⟨_, rfl, ?_⟩
           obtain ⟨hs, hb⟩ := hk.hh hs hb
           refine q1 (vb (!r29)) (want1 rfl (yD 135 hg18)) (q2 (vb (!r29)) (xT hg18) (wpL_nil ?_))
           exact ⟨(!r29), H, Has.mk (by kernel_rfl), hs, hb, h⟩
          ·replace h := h.2 hg18
           refine sk (yD 135 hg18) (sk (yD 135 hg18) (sk (yD 135 hg18) (sk (yD 135 hg18) (q2 (vb false) (xF hg18) (wpL_nil ?_)))))
           exact ⟨false, H, Has.mk (by kernel_rfl), hs, hb, h⟩
        ·skip
         rcases Bool.eq_false_or_eq_true (y1 && (!r22)) with hg19 | hg19
         ·replace h := h.1 hg19
          refine q1 (vp r2) (want1 rfl (yD 130 hg19)) (q1 (vi r15) (want1 rfl (yD 130 hg19)) ?_)
          replace h := h H6 w27 hs
          replace hs := hs.here
          refine st_call (want1 rfl (yD 130 hg19)) (xc Try.call46) (h.mono ?_)
          rintro e w34 ⟨r30, rfl, hk, h⟩
          refine ⟨_, rfl, ?_⟩
          obtain ⟨hs, hb⟩ := hk.hh hs hb
          refine q2 (vb r30) (xT hg19) (wpL_nil ?_)
          exact ⟨r30, H6, Has.mk (by kernel_rfl), hs, hb, h⟩
         ·replace h := h.2 hg19
          refine sk (yD 130 hg19) (sk (yD 130 hg19) (sk (yD 130 hg19) (q2 (vb false) (xF hg19) (wpL_nil ?_))))
          replace h := h H6 w27 hs
          replace hs := hs.here
          exact ⟨false, H6, Has.mk (by kernel_rfl), hs, hb, h⟩
       ·skip
        rcases Bool.eq_false_or_eq_true y1 with hg12 | hg12
        ·skip
         refine q1 (vb r22) (want1 rfl (yD 126 hg12)) (q1 (vb (!r22)) (want1 rfl (yD 126 hg12)) (q2 (vb (!r22)) (xT hg12) (wpL_nil ?_)))
         exact ⟨true, _, hg12, hs, hb, Has.mk (by kernel_rfl)⟩
        ·skip
         refine sk (yD 126 hg12) (sk (yD 126 hg12) (q2 (vb false) (xF hg12) (wpL_nil ?_)))
         exact ⟨false, _, hg12, hs, hb, Has.mk (by kernel_rfl)⟩
      ·skip
       rcases Bool.eq_false_or_eq_true ((((r17 == 0) && (r23 == 0)) && (decide ((r18.len : Int) > 0))) && r19) with hg10 | hg10
       ·skip
        refine q1 (vi r20) (want1 rfl (yD 121 hg10)) ?_
        refine st_call (want1 rfl (yD 121 hg10)) (xc Try.call43) ((p_law08_num r20 w23).mono ?_)
        rintro e w26 ⟨he, hE⟩
        refine ⟨(vi r20), he.trans (by kernel_rfl), ?_⟩
        replace hs := hs.pure hE
        replace hb := hb.pure hE
        clear hE he
        refine q1 (vb (r20 == 0)) (want1 rfl (yD 121 hg10)) (q2 (vb (r20 == 0)) (xT hg10) (wpL_nil ?_))
        exact ⟨true, _, _, hg10, rfl, hs, hb, Has.mk (by kernel_rfl)⟩
       ·skip
        refine sk (yD 121 hg10) (sk (yD 121 hg10) (sk (yD 121 hg10) (q2 (vb false) (xF hg10) (wpL_nil ?_))))
        exact ⟨false, _, _, hg10, rfl, hs, hb, Has.mk (by kernel_rfl)⟩
     ·skip
      rcases Bool.eq_false_or_eq_true (((r17 == 0) && (r23 == 0)) && (decide ((r18.len : Int) > 0))) with hg8 | hg8
      ·skip
       refine q1 (vb r19) (want1 rfl (yD 118 hg8)) (q2 (vb r19) (xT hg8) (wpL_nil ?_))
       exact ⟨true, _, hg8, hs, hb, Has.mk (by kernel_rfl)⟩
      ·skip
       refine sk (yD 118 hg8) (q2 (vb false) (xF hg8) (wpL_nil ?_))
       exact ⟨false, _, hg8, hs, hb, Has.mk (by kernel_rfl)⟩
    ·skip
     rcases Bool.eq_false_or_eq_true ((r17 == 0) && (r23 == 0)) with hg6 | hg6
     ·skip
      refine q1 r18.v (want1 rfl (yD 113 hg6)) (q1 (vi (r18.len : Int)) (want1 rfl (yD 113 hg6)) (q1 (vb (decide ((r18.len : Int) > 0))) (want1 rfl (yD 113 hg6)) (q2 (vb (decide ((r18.len : Int) > 0))) (xT hg6) (wpL_nil ?_))))
      exact ⟨true, _, hg6, hs, hb, Has.mk (by kernel_rfl)⟩
     ·skip
      refine sk (yD 113 hg6) (sk (yD 113 hg6) (sk (yD 113 hg6) (q2 (vb false) (xF hg6) (wpL_nil ?_))))
      exact ⟨false, _, hg6, hs, hb, Has.mk (by kernel_rfl)⟩
   ·skip
    rcases Bool.eq_false_or_eq_true (r17 == 0) with hg4 | hg4
    ·skip
     refine q1 (vi r23) (want1 rfl (yD 108 hg4)) ?_
     refine st_call (want1 rfl (yD 108 hg4)) (xc Try.call43) ((p_law08_num r23 w18).mono ?_)
     rintro e w21 ⟨he, hE⟩
     refine ⟨(vi r23), he.trans (by kernel_rfl), ?_⟩
     replace hs := hs.pure hE
     replace hb := hb.pure hE
     clear hE he
     refine q1 (vb (r23 == 0)) (want1 rfl (yD 108 hg4)) (q2 (vb (r23 == 0)) (xT hg4) (wpL_nil ?_))
     exact ⟨true, _, hg4, hs, hb, Has.mk (by kernel_rfl)⟩
    ·skip
     refine sk (yD 108 hg4) (sk (yD 108 hg4) (sk (yD 108 hg4) (q2 (vb false) (xF hg4) (wpL_nil ?_))))
     exact ⟨false, _, hg4, hs, hb, Has.mk (by kernel_rfl)⟩
def m_law08_pools_l1 (l1 : Sl) (r1 : Option Addr) (r2 : Option Addr) (out1 : Sl) (i1 : Int) (w0 : World) (Hl1 : Nat → Prop) (wl1 : World) (Kc1 : Sl → Int → (Nat → Prop) → World → Prop) (K : (Option Addr) → (Option Addr) → Sl → Bool → World → Prop) : Prop :=
 Br (decide (i1 < (l1.len : Int)))
  (∃ a1 : Addr, At l1 i1 6 a1 ∧
  ∃ aL aM : Int, ∃ aN aO : Int, ∃ aP : ByteArray, ∃ aQ : Sl, Row wl1 a1 [(vi aL), (vi aM), (vi aN), (vu aO), (vs aP), aQ.v] ∧
  Calls Try.prog 73 #[(vp r1), (.agg #[(vi aL), (vi aM), (vi aN), (vu aO), (vs aP), aQ.v])] wl1 (fun e w3 => ∃ r3 r4 : Int, e = .returned (.tuple #[(vi r3), (vi r4)]) ∧ 
   Kept Hl1 wl1 w3 ∧
   ∃ a2 : Addr, At l1 i1 6 a2 ∧
   ∃ aR aS : Int, ∃ aT aU : Int, ∃ aV : ByteArray, ∃ aW : Sl, Row w3 a2 [(vi aR), (vi aS), (vi aT), (vu aU), (vs aV), aW.v] ∧
   Calls Try.prog 77 #[(vp r2), (.agg #[(vi aR), (vi aS), (vi aT), (vu aU), (vs aV), aW.v])] w3 (fun e w4 => ∃ r5 r6 : Int, e = .returned (.tuple #[(vi r5), (vi r6)]) ∧ 
    Kept Hl1 w3 w4 ∧
    Br ((r4 != r6) || (r3 != r5))
     (∀ (H1 : Nat → Prop) (w6 : World), Hst w0 Hl1 w4 H1 w6 →
     K none none Sl.nil false w6)
     (∀ (H1 : Nat → Prop) (w6 : World), Hst w0 Hl1 w4 H1 w6 →
     ∀ (p1 : Addr) (w8 : World), New w6 (.cells #[(vi r5)] 41) p1 w8 →
     ∃ s1 : Sl, ∃ w9 : World, (Builtin.append_ #[26, 26] 26 #[out1.v, (Sl.mk (some p1) 1 1).v]).run Try.prog w8 = .ok s1.v w9 ∧
     Kept H1 w8 w9 ∧
     Kc1 s1 (IntKind.i64.wrap (i1 + 1)) H1 w9))))
  (K r1 r2 out1 true wl1)
def m_law08_pools (l1 : Sl) (w0 : World) (K : (Option Addr) → (Option Addr) → Sl → Bool → World → Prop) : Prop :=
 Calls Try.prog 72 #[] w0 (fun e w1 => ∃ r1 : Option Addr, e = .returned (vp r1) ∧ 
  Kept None w0 w1 ∧
  Calls Try.prog 75 #[] w1 (fun e w2 => ∃ r2 : Option Addr, e = .returned (vp r2) ∧ 
   Kept None w1 w2 ∧
   Br (Option.isNone r1)
    (K none none Sl.nil false w2)
    (∃ (I1 : Sl → Int → (Nat → Prop) → World → Prop) (mu1 : Sl → Int → World → Nat), I1 Sl.nil 0 None w2 ∧
     ∀ (out1 : Sl) (i1 : Int) (Hl1 : Nat → Prop) (wl1 : World), Hst w0 Hl1 wl1 Hl1 wl1 → I1 out1 i1 Hl1 wl1 → m_law08_pools_l1 l1 r1 r2 out1 i1 w0 Hl1 wl1 (fun y'0 y'1 H' w' => I1 y'0 y'1 H' w' ∧ mu1 y'0 y'1 w' < mu1 out1 i1 wl1) K)))
theorem w_law08_pools (l1 : Sl) (w0 : World) (K : (Option Addr) → (Option Addr) → Sl → Bool → World → Prop) (h : m_law08_pools l1 w0 K) :
  Calls Try.prog 35 #[l1.v] w0 (fun e w' => ∃ r7 : Option Addr, ∃ r8 : Option Addr, ∃ r9 : Sl, ∃ r10 : Bool, e = .returned (.tuple #[(vp r7), (vp r8), r9.v, (vb r10)]) ∧ K r7 r8 r9 r10 w') := by
 unfold m_law08_pools at h
 refine calls_of_wpE (args := [l1.v]) Try.func35 rfl Try.ntmps35 (Nat.le_of_ble_eq_true rfl) ?_
 have hs := Hst.start w0
 have hb := HB.nil None w0
 refine wpE_seq (rg (q0 (vp none) (q0 (vp none) (q0 Sl.nil.v (q0 (vb false) (wpL_nil (th_n (wpE_seq (rg ?_)))))))))
 refine st_call (want0 rfl) (xc Try.call72) (h.mono ?_)
 rintro e w1 ⟨r1, rfl, hk, h⟩
 refine ⟨_, rfl, ?_⟩
 obtain ⟨hs, hb⟩ := hk.hh hs hb
 refine q0 (vp r1) (wpL_nil (th_n (wpE_seq (rg ?_))))
 refine st_call (want0 rfl) (xc Try.call75) (h.mono ?_)
 rintro e w2 ⟨r2, rfl, hk, h⟩
 refine ⟨_, rfl, ?_⟩
 obtain ⟨hs, hb⟩ := hk.hh hs hb
 refine q0 (vp r2) (wpL_nil (th_n (wpE_seq (wpE_seq (rg (q0 (vp r1) (q2 (vb (Option.isNone r1)) (x_ptreq (by kernel_rfl) rfl Try.underlying25) (wpL_nil (th_n ?_)))))))))
 refine wpE_cond (t := (Option.isNone r1)) (by kernel_rfl) (fun hc1 => ?_) (fun hc1 => ?_)
 ·replace h := h.1 hc1
  refine wpE_seq (rg (q0 (vp none) (q0 (vp none) (q0 Sl.nil.v (q0 (vb false) (wpL_nil (th_n (wpE_ret (th_r (res4 (.inl rfl) Try.results35 (v := (vp none)) (by kernel_rfl) (v' := (vp none)) (by kernel_rfl) (v'' := Sl.nil.v) (by kernel_rfl) (v3 := (vb false)) (by kernel_rfl) ?_))))))))))
  exact ⟨none, none, Sl.nil, false, rfl, h⟩
 ·replace h := h.2 hc1
  refine wpE_skip (th_n (wpE_seq (rg (q0 Sl.nil.v (wpL_nil (th_n (wpE_seq (wpE_seq (rg (q0 (vi 0) (wpL_nil ?_)))))))))))
  refine th_n (wpE_block ?_)
  obtain ⟨I1, mu1, h0, hr⟩ := h
  refine wpE_loop (σ := Sl × Int × (Nat → Prop) × World) (fun s ρ w => w = s.2.2.2 ∧ Has ρ [(0, l1.v), (6, (vp r1)), (7, (vp r2)), (8, s.1.v), (9, (vi s.2.1))] ∧ Hst w0 s.2.2.1 w s.2.2.1 w ∧ HB s.2.2.1 w [] ∧ I1 s.1 s.2.1 s.2.2.1 s.2.2.2) (fun s => mu1 s.1 s.2.1 s.2.2.2) (Sl.nil, 0, None, w2) ⟨rfl, Has.mk (by kernel_rfl), hs, hb, h0⟩ ?_
  clear hs hb
  rintro ⟨out1, i1, Hl1, wl1⟩ ρ w ⟨hw, hH, hs, hb, hI⟩
  obtain rfl : wl1 = w := (show w = wl1 from hw).symm
  replace hH : Has ρ [(0, l1.v), (6, (vp r1)), (7, (vp r2)), (8, out1.v), (9, (vi i1))] := hH
  replace hs : Hst w0 Hl1 wl1 Hl1 wl1 := hs
  replace hb : HB Hl1 wl1 [] := hb
  have h := hr out1 i1 Hl1 wl1 hs hI
  clear hr h0
  unfold m_law08_pools_l1 at h
  refine wpE_has hH ?_
  clear hH hI
  refine wpE_seq (wpE_seq (rg (q0 (vi i1) (q0 l1.v (q0 (vi (l1.len : Int)) (q0 (vb (decide (i1 < (l1.len : Int)))) (wpL_nil (th_n ?_))))))))
  refine wpE_cond (t := (decide (i1 < (l1.len : Int)))) (by kernel_rfl) (fun hc2 => ?_) (fun hc2 => ?_)
  ·replace h := h.1 hc2
   refine wpE_skip (th_n (wpE_seq (wpE_block (wpE_seq (rg (q0 (vp r1) (q0 l1.v (q0 (vi i1) ?_))))))))
   obtain ⟨a1, hv5, h⟩ := h
   refine q2 (vp (some a1)) (x_indexAddr (s := l1) (k := .i64) (i := i1) (by kernel_rfl) (by kernel_rfl) (Try.runUnderlying22 _) (Try.sizeOf116 _) hv5) ?_
   obtain ⟨aL, aM, aN, aO, aP, aQ, hv4, h⟩ := h
   refine q2 (.agg #[(vi aL), (vi aM), (vi aN), (vu aO), (vs aP), aQ.v]) (x_loadA (a := a1) (vs := [(vi aL), (vi aM), (vi aN), (vu aO), (vs aP), aQ.v]) (by kernel_rfl) (Try.isAgg116 _) (Try.sizeOf116 _) rfl hv4) ?_
   refine st_call (want0 rfl) (xc Try.call73) (h.mono ?_)
   rintro e w3 ⟨r3, r4, rfl, hk, h⟩
   refine ⟨_, rfl, ?_⟩
   obtain ⟨hs, hb⟩ := hk.hh hs hb
   refine q0 (.tuple #[(vi r3), (vi r4)]) (q0 (vi r3) (q0 (vi r4) (q0 (vi r3) (q0 (vi r4) (wpL_nil (th_n (wpE_seq (rg (q0 (vp r2) (q0 l1.v (q0 (vi i1) ?_)))))))))))
   obtain ⟨a2, hv3, h⟩ := h
   refine q2 (vp (some a2)) (x_indexAddr (s := l1) (k := .i64) (i := i1) (by kernel_rfl) (by kernel_rfl) (Try.runUnderlying22 _) (Try.sizeOf116 _) hv3) ?_
   obtain ⟨aR, aS, aT, aU, aV, aW, hv2, h⟩ := h
   refine q2 (.agg #[(vi aR), (vi aS), (vi aT), (vu aU), (vs aV), aW.v]) (x_loadA (a := a2) (vs := [(vi aR), (vi aS), (vi aT), (vu aU), (vs aV), aW.v]) (by kernel_rfl) (Try.isAgg116 _) (Try.sizeOf116 _) rfl hv2) ?_
   refine st_call (want0 rfl) (xc Try.call77) (h.mono ?_)
   rintro e w4 ⟨r5, r6, rfl, hk, h⟩
   refine ⟨_, rfl, ?_⟩
   obtain ⟨hs, hb⟩ := hk.hh hs hb
   refine q0 (.tuple #[(vi r5), (vi r6)]) (q0 (vi r5) (q0 (vi r6) (q0 (vi r5) (q0 (vi r6) (wpL_nil (th_n (wpE_seq (wpE_seq ?_))))))))
   refine wpE_via (fun ρ wJ => ∃ b1'0 : Bool, ∃ HJ : Nat → Prop, ((r4 != r6) = b1'0) ∧ Hst w0 Hl1 w4 HJ wJ ∧ HB HJ wJ [] ∧ Has ρ [(0, l1.v), (6, (vp r1)), (7, (vp r2)), (8, out1.v), (9, (vi i1)), (12, (vi r5)), (50, (vb (b1'0 || (r3 != r5))))]) ?_ ?_
   ·skip
    refine rg (q0 (vi r4) ?_)
    refine st_call (want0 rfl) (xc Try.call43) ((p_law08_num r4 w4).mono ?_)
    rintro e w7 ⟨he, hE⟩
    refine ⟨(vi r4), he.trans (by kernel_rfl), ?_⟩
    replace hs := hs.pure hE
    replace hb := hb.pure hE
    clear hE he
    refine q0 (vi r6) (q0 (vb (r4 != r6)) (q0 (vb (r4 != r6)) ?_))
    rcases Bool.eq_false_or_eq_true (r4 != r6) with hg2 | hg2
    ·skip
     refine sk (yD 46 hg2) (sk (yD 46 hg2) (sk (yD 46 hg2) (q2 (vb true) (xT hg2) (wpL_nil (th_n ?_)))))
     exact ⟨true, _, hg2, hs, hb, Has.mk (by kernel_rfl)⟩
    ·skip
     refine q1 (vi r3) (want1 rfl (yD 46 hg2)) (q1 (vi r5) (want1 rfl (yD 46 hg2)) (q1 (vb (r3 != r5)) (want1 rfl (yD 46 hg2)) (q2 (vb (r3 != r5)) (xF hg2) (wpL_nil (th_n ?_)))))
     exact ⟨false, _, hg2, hs, hb, Has.mk (by kernel_rfl)⟩
   ·clear hs hb
    rintro ρ w6 ⟨b1'0, H1, he0, hs, hb, hH⟩
    subst he0
    refine norm_has hH ?_
    clear hH
    refine th_n ?_
    refine wpE_cond (t := ((r4 != r6) || (r3 != r5))) (by kernel_rfl) (fun hc3 => ?_) (fun hc3 => ?_)
    ·replace h := h.1 hc3
     refine wpE_seq (rg (q0 (vp none) (q0 (vp none) (q0 Sl.nil.v (q0 (vb false) (wpL_nil (th_n (wpE_ret (th_r (bl_r (th_r ?_)))))))))))
     refine th_r (bl_r (th_r ?_))
     replace h := h H1 w6 hs
     replace hs := hs.here
     refine res4 (.inl rfl) Try.results35 (v := (vp none)) (by kernel_rfl) (v' := (vp none)) (by kernel_rfl) (v'' := Sl.nil.v) (by kernel_rfl) (v3 := (vb false)) (by kernel_rfl) ?_
     exact ⟨none, none, Sl.nil, false, rfl, h⟩
    ·replace h := h.2 hc3
     refine wpE_skip (th_n (rg (q0 out1.v (q0 (vi r5) ?_))))
     replace h := h H1 w6 hs
     replace hs := hs.here
     refine st_new (O := (.cells #[(vi r5)] 41)) (fun p => (Sl.mk (some p) 1 1).v) (want0 rfl) (x_buildSlice (vs := #[(0, (vi r5))]) (by kernel_rfl) (by kernel_rfl)) ?_
     intro p1 w8 hn1
     replace h := h p1 w8 hn1
     replace hs := hs.again (Ext.new (F := None) hn1).keptP
     replace hb := hb.kept (Ext.new (F := None) hn1).keptP
     obtain ⟨s1, w9, hv1, hk, h⟩ := h
     refine st (v := s1.v) (want0 rfl) (x_builtin (args := #[out1.v, (Sl.mk (some p1) 1 1).v]) (by kernel_rfl) (fun _ => rfl) hv1) ?_
     obtain ⟨hs, hb⟩ := hk.hh hs hb
     refine q0 s1.v (wpL_nil (bl_n (th_n (rg (q0 (vi i1) (q0 (vi (IntKind.i64.wrap (i1 + 1))) (q0 (vi (IntKind.i64.wrap (i1 + 1))) (wpL_nil (th_n ?_)))))))))
     exact ⟨(s1, (IntKind.i64.wrap (i1 + 1)), H1, w9), ⟨rfl, Has.mk (by kernel_rfl), hs, hb, h.1⟩, h.2⟩
  ·replace h := h.2 hc2
   refine wpE_exit (th_x (th_x (bl_eq (th_n (wpE_seq (rg (q0 (vp r1) (q0 (vp r2) (q0 out1.v (q0 (vp r1) (q0 (vp r2) ?_)))))))))))
   refine q0 out1.v (q0 (vb true) (wpL_nil (th_n (wpE_ret (res4 (.inl rfl) Try.results35 (v := (vp r1)) (by kernel_rfl) (v' := (vp r2)) (by kernel_rfl) (v'' := out1.v) (by kernel_rfl) (v3 := (vb true)) (by kernel_rfl) ?_)))))
   exact ⟨r1, r2, out1, true, rfl, h⟩
def m_law08_know_l1 (l1 : Sl) (r1 : Option Addr) (i1 : Int) (wl1 : World) (Kc1 : Int → World → Prop) (K : (Option Addr) → World → Prop) : Prop :=
 Br ((!(Option.isNone r1)) && (decide (i1 < (l1.len : Int))))
  (∃ a1 : Addr, At l1 i1 1 a1 ∧
  ∃ v1 : Int, wl1.cell? a1 = some (vi v1) ∧
  Calls Try.prog 37 #[(vp r1), (vi v1)] wl1 (fun e w3 => ∃ r2 : Int, e = .returned (vi r2) ∧ 
   Kc1 (IntKind.i64.wrap (i1 + 1)) w3))
  (K r1 wl1)
def m_law08_know (p1 : Option Addr) (l1 : Sl) (w0 : World) (K : (Option Addr) → World → Prop) : Prop :=
 Calls Try.prog 36 #[(vp p1)] w0 (fun e w1 => ∃ r1 : Option Addr, e = .returned (vp r1) ∧ 
  ∃ (I1 : Int → World → Prop) (mu1 : Int → World → Nat), I1 0 w1 ∧
   ∀ (i1 : Int) (wl1 : World), I1 i1 wl1 → m_law08_know_l1 l1 r1 i1 wl1 (fun y'0 w' => I1 y'0 w' ∧ mu1 y'0 w' < mu1 i1 wl1) K)
theorem w_law08_know (p1 : Option Addr) (l1 : Sl) (w0 : World) (K : (Option Addr) → World → Prop) (h : m_law08_know p1 l1 w0 K) :
  Calls Try.prog 45 #[(vp p1), l1.v] w0 (fun e w' => ∃ r3 : Option Addr, e = .returned (vp r3) ∧ K r3 w') := by
 unfold m_law08_know at h
 refine calls_of_wpE (args := [(vp p1), l1.v]) Try.func45 rfl Try.ntmps45 (Nat.le_of_ble_eq_true rfl) (wpE_seq (rg (q0 (vp none) (wpL_nil (th_n (wpE_seq (rg (q0 (vp p1) ?_))))))))
 refine st_call (want0 rfl) (xc Try.call36) (h.mono ?_)
 rintro e w1 ⟨r1, rfl, h⟩
 refine ⟨_, rfl, ?_⟩
 refine q0 (vp r1) (wpL_nil (th_n (wpE_seq (wpE_seq (rg (q0 (vi 0) (wpL_nil (th_n (wpE_block ?_)))))))))
 obtain ⟨I1, mu1, h0, hr⟩ := h
 refine wpE_loop (σ := Int × World) (fun s ρ w => w = s.2 ∧ Has ρ [(1, l1.v), (5, (vp r1)), (6, (vi s.1))] ∧ I1 s.1 s.2) (fun s => mu1 s.1 s.2) (0, w1) ⟨rfl, Has.mk (by kernel_rfl), h0⟩ ?_
 rintro ⟨i1, wl1⟩ ρ w ⟨hw, hH, hI⟩
 obtain rfl : wl1 = w := (show w = wl1 from hw).symm
 replace hH : Has ρ [(1, l1.v), (5, (vp r1)), (6, (vi i1))] := hH
 have h := hr i1 wl1 hI
 clear hr h0
 unfold m_law08_know_l1 at h
 refine wpE_has hH ?_
 clear hH hI
 refine wpE_seq (wpE_seq ?_)
 refine wpE_via (fun ρ wJ => ∃ b1'0 : Bool, ((!(Option.isNone r1)) = b1'0) ∧ wl1 = wJ ∧ Has ρ [(1, l1.v), (5, (vp r1)), (6, (vi i1)), (16, (vb (b1'0 && (decide (i1 < (l1.len : Int))))))]) ?_ ?_
 ·skip
  refine rg (q0 (vp r1) (q2 (vb (!(Option.isNone r1))) (x_ptrneq (by kernel_rfl) rfl Try.underlying62) (q0 (vb (!(Option.isNone r1))) ?_)))
  rcases Bool.eq_false_or_eq_true (!(Option.isNone r1)) with hg2 | hg2
  ·skip
   refine q1 (vi i1) (want1 rfl (yD 11 hg2)) (q1 l1.v (want1 rfl (yD 11 hg2)) (q1 (vi (l1.len : Int)) (want1 rfl (yD 11 hg2)) (q1 (vb (decide (i1 < (l1.len : Int)))) (want1 rfl (yD 11 hg2)) (q2 (vb (decide (i1 < (l1.len : Int)))) (xT hg2) (wpL_nil (th_n ?_))))))
   exact ⟨true, hg2, rfl, Has.mk (by kernel_rfl)⟩
  ·skip
   refine sk (yD 11 hg2) (sk (yD 11 hg2) (sk (yD 11 hg2) (sk (yD 11 hg2) (q2 (vb false) (xF hg2) (wpL_nil (th_n ?_))))))
   exact ⟨false, hg2, rfl, Has.mk (by kernel_rfl)⟩
 ·rintro ρ w2 ⟨b1'0, he0, hw, hH⟩
  subst he0
  subst hw
  refine norm_has hH ?_
  clear hH
  refine th_n ?_
  refine wpE_cond (t := ((!(Option.isNone r1)) && (decide (i1 < (l1.len : Int))))) (by kernel_rfl) (fun hc1 => ?_) (fun hc1 => ?_)
  ·replace h := h.1 hc1
   refine wpE_skip (th_n (wpE_seq (wpE_block (rg (q0 (vp r1) (q0 l1.v (q0 (vi i1) ?_)))))))
   obtain ⟨a1, hv2, h⟩ := h
   refine q2 (vp (some a1)) (x_indexAddr (s := l1) (k := .i64) (i := i1) (by kernel_rfl) (by kernel_rfl) (Try.runUnderlying26 _) (Try.sizeOf41 _) hv2) ?_
   obtain ⟨v1, hv1, h⟩ := h
   refine q2 (vi v1) (xl (Try.isAgg41 _) hv1) ?_
   refine st_call (want0 rfl) (xc Try.call37) (h.mono ?_)
   rintro e w3 ⟨r2, rfl, h⟩
   refine ⟨_, rfl, ?_⟩
   refine wpL_nil (bl_n (th_n (rg (q0 (vi i1) (q0 (vi (IntKind.i64.wrap (i1 + 1))) (q0 (vi (IntKind.i64.wrap (i1 + 1))) (wpL_nil (th_n ?_))))))))
   exact ⟨((IntKind.i64.wrap (i1 + 1)), w3), ⟨rfl, Has.mk (by kernel_rfl), h.1⟩, h.2⟩
  ·replace h := h.2 hc1
   refine wpE_exit (th_x (th_x (bl_eq (th_n (wpE_seq (rg (q0 (vp r1) (q0 (vp r1) (wpL_nil (th_n (wpE_ret ?_)))))))))))
   refine res1 (.inl rfl) Try.results45 (v := (vp r1)) (by kernel_rfl) ?_
   exact ⟨r1, rfl, h⟩
theorem eqt_law08_DeduceClosed_neq_4 (a0 b0 : Bool) (w : World) : (Go.binOp .neq 4 (.bool a0) (.bool b0)).run Try.prog w = .ok (.bool (!(a0 == b0))) w := by
 simp [Go.binOp, Op.equal, Op.maxDepth, go_sem, streq, bne]
def m_law08_DeduceClosed_j3 (r6 : Option Addr) (t1 aB aE : Int) (r8 made1 : Bool) (H : Nat → Prop) (w : World) (Kc2 : Int → (Nat → Prop) → World → Prop) (K : Bool → World → Prop) : Prop :=
 Br r8
  (Calls Try.prog 46 #[(vp r6), (vi aB)] w (fun e w12 => ∃ r12 : Bool, e = .returned (vb r12) ∧ 
   Kept H w w12 ∧
   Br (!r12)
    (K false w12)
    (Calls Try.prog 46 #[(vp r6), (vi aE)] w12 (fun e w13 => ∃ r13 : Bool, e = .returned (vb r13) ∧ 
     Kept H w12 w13 ∧
     Br (!r13)
      (K false w13)
      (Br (!(r8 == made1))
       (K false w13)
       (Kc2 (IntKind.i64.wrap (t1 + 1)) H w13))))))
  (Br (!(r8 == made1))
   (K false w)
   (Kc2 (IntKind.i64.wrap (t1 + 1)) H w))
def m_law08_DeduceClosed_j4 (r6 : Option Addr) (t1 aB : Int) (r8 made2 : Bool) (H : Nat → Prop) (w : World) (Kc2 : Int → (Nat → Prop) → World → Prop) (K : Bool → World → Prop) : Prop :=
 Br r8
  (Calls Try.prog 46 #[(vp r6), (vi aB)] w (fun e w18 => ∃ r17 : Bool, e = .returned (vb r17) ∧ 
   Kept H w w18 ∧
   Br (!r17)
    (K false w18)
    (Br (!(r8 == made2))
     (K false w18)
     (Kc2 (IntKind.i64.wrap (t1 + 1)) H w18))))
  (Br (!(r8 == made2))
   (K false w)
   (Kc2 (IntKind.i64.wrap (t1 + 1)) H w))
def m_law08_DeduceClosed_l2 (r3 : Option Addr) (r6 : Option Addr) (t1 : Int) (w0 : World) (Hl1 : Nat → Prop) (wl1 : World) (Kc2 : Int → (Nat → Prop) → World → Prop) (K : Bool → World → Prop) : Prop :=
 ∃ a1 : Addr, r3 = some a1 ∧
 ∃ v1 : Sl, wl1.cell? a1 = some v1.v ∧
 Br (decide (t1 ≤ (v1.len : Int)))
  (Calls Try.prog 47 #[(vp r3), (vi t1)] wl1 (fun e w4 => ∃ aA aC : Int, ∃ aD aH : Int, ∃ aI : ByteArray, ∃ aB aE : Int, ∃ r7 : Bool, e = .returned (.tuple #[(.agg #[(vi aA), (vi aC), (vi aD), (vu aH), (vs aI), (vi aB), (vi aE)]), (vb r7)]) ∧ 
   Kept Hl1 wl1 w4 ∧
   ∀ (H1 : Nat → Prop) (w6 : World), Hst w0 Hl1 w4 H1 w6 →
   Calls Try.prog 46 #[(vp r6), (vi t1)] w6 (fun e w7 => ∃ r8 : Bool, e = .returned (vb r8) ∧ 
    Kept H1 w6 w7 ∧
    Calls Try.prog 48 #[(vp r6), (vi t1)] w7 (fun e w8 => ∃ r9 : Bool, e = .returned (vb r9) ∧ 
     Kept H1 w7 w8 ∧
     ∀ (H2 : Nat → Prop) (w9 : World), Hst w0 H1 w8 H2 w9 →
     Calls Try.prog 49 #[(vp r3), (.agg #[(vi 6), (vi (cond (aA == 9) aD aC)), (vi 0), (vu 0), (vs ⟨#[]⟩), (vi 0), (vi 0)])] w9 (fun e w10 => ∃ r10 : Int, ∃ r11 : Bool, e = .returned (.tuple #[(vi r10), (vb r11)]) ∧ 
      Kept H2 w9 w10 ∧
      ∀ y1 : Bool, y1 = (cond (aA == 1) (aA == 1) (cond (aA == 2) (aA == 2) (aA == 3))) →
      Br y1
       (Br (!(r8 == true))
        (∀ (H3 : Nat → Prop) (w11 : World), Hst w0 H2 w10 H3 w11 →
        K false w11)
        (∀ (H3 : Nat → Prop) (w11 : World), Hst w0 H2 w10 H3 w11 →
        Kc2 (IntKind.i64.wrap (t1 + 1)) H3 w11))
       (Br (aA == 4)
        (Br r9
         (∀ (H3 : Nat → Prop) (w11 : World), Hst w0 H2 w10 H3 w11 →
         m_law08_DeduceClosed_j3 r6 t1 aB aE r8 true H3 w11 Kc2 K)
         (∀ (H3 : Nat → Prop) (w11 : World), Hst w0 H2 w10 H3 w11 →
         Calls Try.prog 46 #[(vp r6), (vi aB)] w11 (fun e w14 => ∃ r14 : Bool, e = .returned (vb r14) ∧ 
          Kept H3 w11 w14 ∧
          Br r14
           (Calls Try.prog 46 #[(vp r6), (vi aE)] w14 (fun e w15 => ∃ r15 : Bool, e = .returned (vb r15) ∧ 
            Kept H3 w14 w15 ∧
            m_law08_DeduceClosed_j3 r6 t1 aB aE r8 r15 H3 w15 Kc2 K))
           (m_law08_DeduceClosed_j3 r6 t1 aB aE r8 false H3 w14 Kc2 K))))
        (Br (aA == 5)
         (Br r9
          (Br (!(r8 == true))
           (∀ (H3 : Nat → Prop) (w11 : World), Hst w0 H2 w10 H3 w11 →
           K false w11)
           (∀ (H3 : Nat → Prop) (w11 : World), Hst w0 H2 w10 H3 w11 →
           Kc2 (IntKind.i64.wrap (t1 + 1)) H3 w11))
          (∀ (H3 : Nat → Prop) (w11 : World), Hst w0 H2 w10 H3 w11 →
          Calls Try.prog 46 #[(vp r6), (vi aB)] w11 (fun e w16 => ∃ r16 : Bool, e = .returned (vb r16) ∧ 
           Kept H3 w11 w16 ∧
           Br (!(r8 == r16))
            (K false w16)
            (Kc2 (IntKind.i64.wrap (t1 + 1)) H3 w16))))
         (∀ y2 : Bool, y2 = (cond (aA == 7) (aA == 7) (cond (aA == 8) (aA == 8) (aA == 9))) →
         Br y2
          (Br r9
           (∀ (H4 : Nat → Prop) (w17 : World), Hst w0 H2 w10 H4 w17 →
           m_law08_DeduceClosed_j4 r6 t1 aB r8 true H4 w17 Kc2 K)
           (∀ (H4 : Nat → Prop) (w17 : World), Hst w0 H2 w10 H4 w17 →
           Calls Try.prog 46 #[(vp r6), (vi aB)] w17 (fun e w19 => ∃ r18 : Bool, e = .returned (vb r18) ∧ 
            Kept H4 w17 w19 ∧
            Br (r18 && r11)
             (∀ (H5 : Nat → Prop) (w20 : World), Hst w0 H4 w19 H5 w20 →
             Calls Try.prog 46 #[(vp r6), (vi r10)] w20 (fun e w21 => ∃ r19 : Bool, e = .returned (vb r19) ∧ 
              Kept H5 w20 w21 ∧
              m_law08_DeduceClosed_j4 r6 t1 aB r8 r19 H5 w21 Kc2 K))
             (∀ (H5 : Nat → Prop) (w20 : World), Hst w0 H4 w19 H5 w20 →
             m_law08_DeduceClosed_j4 r6 t1 aB r8 false H5 w20 Kc2 K))))
          (Br (!(r8 == r9))
           (∀ (H4 : Nat → Prop) (w17 : World), Hst w0 H2 w10 H4 w17 →
           K false w17)
           (∀ (H4 : Nat → Prop) (w17 : World), Hst w0 H2 w10 H4 w17 →
           Kc2 (IntKind.i64.wrap (t1 + 1)) H4 w17))))))))))
  (Calls Try.prog 34 #[] wl1 (fun e w22 => ∃ r20 : Bool, e = .returned (vb r20) ∧ 
   Kept Hl1 wl1 w22 ∧
   K r20 w22))
def m_law08_DeduceClosed_j1 (l1 given1 : Sl) (x1 : Bool) (w0 : World) (H : Nat → Prop) (w : World) (K : Bool → World → Prop) : Prop :=
 Br x1
  (Calls Try.prog 34 #[] w (fun e w1 => ∃ r1 : Bool, e = .returned (vb r1) ∧ 
   Kept H w w1 ∧
   K r1 w1))
  (Calls Try.prog 35 #[l1.v] w (fun e w2 => ∃ r2 : Option Addr, ∃ r3 : Option Addr, ∃ r4 : Sl, ∃ r5 : Bool, e = .returned (.tuple #[(vp r2), (vp r3), r4.v, (vb r5)]) ∧ 
   Kept H w w2 ∧
   Br (!r5)
    (K false w2)
    (Calls Try.prog 45 #[(vp r2), given1.v] w2 (fun e w3 => ∃ r6 : Option Addr, e = .returned (vp r6) ∧ 
     Kept H w2 w3 ∧
     Br (Option.isNone r6)
      (K false w3)
      (∃ (I1 : Int → (Nat → Prop) → World → Prop) (mu1 : Int → World → Nat), I1 1 H w3 ∧
       ∀ (t1 : Int) (Hl1 : Nat → Prop) (wl1 : World), Hst w0 Hl1 wl1 Hl1 wl1 → I1 t1 Hl1 wl1 → m_law08_DeduceClosed_l2 r3 r6 t1 w0 Hl1 wl1 (fun y'0 H' w' => I1 y'0 H' w' ∧ mu1 y'0 w' < mu1 t1 wl1) K)))))
def m_law08_DeduceClosed (l1 given1 : Sl) (w0 : World) (K : Bool → World → Prop) : Prop :=
 Calls Try.prog 33 #[l1.v] w0 (fun e w23 => ∃ r21 : Bool, e = .returned (vb r21) ∧ 
  Kept None w0 w23 ∧
  ∀ (H6 : Nat → Prop) (w24 : World), Hst w0 None w23 H6 w24 →
  m_law08_DeduceClosed_j1 l1 given1 (r21 || (decide ((given1.len : Int) > 20))) w0 H6 w24 K)
theorem w_law08_DeduceClosed (l1 given1 : Sl) (w0 : World) (K : Bool → World → Prop) (h : m_law08_DeduceClosed l1 given1 w0 K) :
  Calls Try.prog 11 #[l1.v, given1.v] w0 (fun e w' => ∃ r22 : Bool, e = .returned (vb r22) ∧ K r22 w') := by
 unfold m_law08_DeduceClosed at h
 refine calls_of_wpE (args := [l1.v, given1.v]) Try.func11 rfl Try.ntmps11 (Nat.le_of_ble_eq_true rfl) ?_
 have hs := Hst.start w0
 have hb := HB.nil None w0
 refine wpE_seq (rg (q0 (vb false) (wpL_nil (th_n (wpE_seq (wpE_seq ?_))))))
 refine wpE_joinT (fun ρ w => ∃ x1 : Bool, ∃ H : Nat → Prop, Has ρ [(0, l1.v), (1, given1.v), (24, (vb x1))] ∧ Hst w0 H w H w ∧ HB H w [] ∧ m_law08_DeduceClosed_j1 l1 given1 x1 w0 H w K) ?_ ?_
 ·clear h hs hb
  rintro ρ w ⟨x1, H, hH, hs, hb, h⟩
  unfold m_law08_DeduceClosed_j1 at h
  refine wpE_has hH ?_
  clear hH
  refine wpE_cond (t := x1) (by kernel_rfl) (fun hc1 => ?_) (fun hc1 => ?_)
  ·replace h := h.1 hc1
   refine wpE_seq (rg ?_)
   refine st_call (want0 rfl) (xc Try.call34) (h.mono ?_)
   rintro e w1 ⟨r1, rfl, hk, h⟩
   refine ⟨_, rfl, ?_⟩
   obtain ⟨hs, hb⟩ := hk.hh hs hb
   refine q0 (vb r1) (wpL_nil (th_n (wpE_ret (th_r (res1 (.inl rfl) Try.results11 (v := (vb r1)) (by kernel_rfl) ?_)))))
   exact ⟨r1, rfl, h⟩
  ·replace h := h.2 hc1
   refine wpE_skip (th_n (wpE_seq (rg (q0 l1.v ?_))))
   refine st_call (want0 rfl) (xc Try.call35) (h.mono ?_)
   rintro e w2 ⟨r2, r3, r4, r5, rfl, hk, h⟩
   refine ⟨_, rfl, ?_⟩
   obtain ⟨hs, hb⟩ := hk.hh hs hb
   refine q0 (.tuple #[(vp r2), (vp r3), r4.v, (vb r5)]) (q0 (vp r2) (q0 (vp r3) (q0 r4.v (q0 (vb r5) (q0 (vp r2) (q0 (vp r3) (q0 r4.v (q0 (vb r5) (wpL_nil (th_n (wpE_seq ?_)))))))))))
   refine wpE_seq (rg (q0 (vb r5) (q0 (vb (!r5)) (wpL_nil (th_n ?_)))))
   refine wpE_cond (t := (!r5)) (by kernel_rfl) (fun hc2 => ?_) (fun hc2 => ?_)
   ·replace h := h.1 hc2
    refine wpE_seq (rg (q0 (vb false) (wpL_nil (th_n (wpE_ret (th_r (res1 (.inl rfl) Try.results11 (v := (vb false)) (by kernel_rfl) ?_)))))))
    exact ⟨false, rfl, h⟩
   ·replace h := h.2 hc2
    refine wpE_skip (th_n (wpE_seq (rg (q0 (vp r2) (q0 given1.v ?_)))))
    refine st_call (want0 rfl) (xc Try.call45) (h.mono ?_)
    rintro e w3 ⟨r6, rfl, hk, h⟩
    refine ⟨_, rfl, ?_⟩
    obtain ⟨hs, hb⟩ := hk.hh hs hb
    refine q0 (vp r6) (wpL_nil (th_n (wpE_seq (wpE_seq (rg (q0 (vp r6) (q2 (vb (Option.isNone r6)) (x_ptreq (by kernel_rfl) rfl Try.underlying62) (wpL_nil (th_n ?_)))))))))
    refine wpE_cond (t := (Option.isNone r6)) (by kernel_rfl) (fun hc3 => ?_) (fun hc3 => ?_)
    ·replace h := h.1 hc3
     refine wpE_seq (rg (q0 (vb false) (wpL_nil (th_n (wpE_ret (th_r (res1 (.inl rfl) Try.results11 (v := (vb false)) (by kernel_rfl) ?_)))))))
     exact ⟨false, rfl, h⟩
    ·replace h := h.2 hc3
     refine wpE_skip (th_n (wpE_seq (wpE_seq (rg (q0 (vi 1) (wpL_nil (th_n (wpE_block ?_))))))))
     obtain ⟨I1, mu1, h0, hr⟩ := h
     refine wpE_loop (σ := Int × (Nat → Prop) × World) (fun s ρ w => w = s.2.2 ∧ Has ρ [(6, (vp r3)), (9, (vp r6)), (10, (vi s.1))] ∧ Hst w0 s.2.1 w s.2.1 w ∧ HB s.2.1 w [] ∧ I1 s.1 s.2.1 s.2.2) (fun s => mu1 s.1 s.2.2) (1, H, w3) ⟨rfl, Has.mk (by kernel_rfl), hs, hb, h0⟩ ?_
     clear hs hb
     rintro ⟨t1, Hl1, wl1⟩ ρ w ⟨hw, hH, hs, hb, hI⟩
     obtain rfl : wl1 = w := (show w = wl1 from hw).symm
     replace hH : Has ρ [(6, (vp r3)), (9, (vp r6)), (10, (vi t1))] := hH
     replace hs : Hst w0 Hl1 wl1 Hl1 wl1 := hs
     replace hb : HB Hl1 wl1 [] := hb
     have h := hr t1 Hl1 wl1 hs hI
     clear hr h0
     unfold m_law08_DeduceClosed_l2 at h
     refine wpE_has hH ?_
     clear hH hI
     refine wpE_seq (wpE_seq (rg (q0 (vi t1) (q0 (vp r3) ?_))))
     obtain ⟨a1, hp1, h⟩ := h
     refine q2 (vp (some a1)) (x_nilCheck (p := r3) (by kernel_rfl) hp1) (q0 (vp (some a1)) ?_)
     obtain ⟨v1, hv1, h⟩ := h
     refine q2 v1.v (xl (Try.isAgg72 _) hv1) (q0 (vi (v1.len : Int)) (q0 (vb (decide (t1 ≤ (v1.len : Int)))) (wpL_nil (th_n ?_))))
     refine wpE_cond (t := (decide (t1 ≤ (v1.len : Int)))) (by kernel_rfl) (fun hc4 => ?_) (fun hc4 => ?_)
     ·replace h := h.1 hc4
      refine wpE_skip (th_n (wpE_seq (wpE_block (wpE_seq (rg (q0 (vp r3) (q0 (vi t1) ?_)))))))
      refine st_call (want0 rfl) (xc Try.call47) (h.mono ?_)
      rintro e w4 ⟨aA, aC, aD, aH, aI, aB, aE, r7, rfl, hk, h⟩
      refine ⟨_, rfl, ?_⟩
      obtain ⟨hs, hb⟩ := hk.hh hs hb
      refine q0 (.tuple #[(.agg #[(vi aA), (vi aC), (vi aD), (vu aH), (vs aI), (vi aB), (vi aE)]), (vb r7)]) (q0 (.agg #[(vi aA), (vi aC), (vi aD), (vu aH), (vs aI), (vi aB), (vi aE)]) (q0 (vb r7) (sn (O := (.cells #[(vi 0), (vi 0), (vi 0), (vu 0), (vs ⟨#[]⟩), (vi 0), (vi 0)] 93)) (x_alloc (Try.zeroValue93 _) rfl) ?_)))
      intro p1 w5 hn1
      obtain ⟨H1, hs, hb⟩ := hs.alloc hb hn1
      refine st_set (want0 rfl) (x_storeA (a := p1) (vs := [(vi aA), (vi aC), (vi aD), (vu aH), (vs aI), (vi aB), (vi aE)]) (by kernel_rfl) (by kernel_rfl) rfl (Try.sizeOf93 _) rfl (hb.canWs0 0 7 gZ (by kernel_rfl))) ?_
      intro w6 hn2
      have hsb : Hst w0 Hl1 w4 H1 w6 ∧ HB H1 w6 [(p1, [(vi aA), (vi aC), (vi aD), (vu aH), (vs aI), (vi aB), (vi aE)], 93)] := by
       rw [hn2]
       exact hb.store0 (i := 0) (vs := [(vi aA), (vi aC), (vi aD), (vu aH), (vs aI), (vi aB), (vi aE)]) hs gZ (by kernel_rfl) (by kernel_rfl)
      clear hs hb hn2
      obtain ⟨hs, hb⟩ := hsb
      refine q0 (vb r7) (wpL_nil (th_n (wpE_seq (rg (q0 (vp r6) (q0 (vi t1) ?_))))))
      replace h := h H1 w6 hs
      replace hs := hs.here
      refine st_call (want0 rfl) (xc Try.call46) (h.mono ?_)
      rintro e w7 ⟨r8, rfl, hk, h⟩
      refine ⟨_, rfl, ?_⟩
      obtain ⟨hs, hb⟩ := hk.hh hs hb
      refine q0 (vb r8) (wpL_nil (th_n (wpE_seq (rg (q0 (vp r6) (q0 (vi t1) ?_))))))
      refine st_call (want0 rfl) (xc Try.call48) (h.mono ?_)
      rintro e w8 ⟨r9, rfl, hk, h⟩
      refine ⟨_, rfl, ?_⟩
      obtain ⟨hs, hb⟩ := hk.hh hs hb
      refine q0 (vb r9) (wpL_nil (th_n (wpE_seq (rg (q0 (vp (some (p1.add 1))) (q2 (vi aC) (xl (Try.isAgg3 _) (hb.c 0 1 gZ)) (q0 (vi aC) (wpL_nil (th_n (wpE_seq (wpE_seq ?_)))))))))))
      refine rg (q0 (vp (some p1)) (q2 (vi aA) (xl (Try.isAgg3 _) (hb.c0 0 gZ)) (q0 (vb (aA == 9)) (wpL_nil (th_n ?_)))))
      refine wpE_via (fun ρ wJ => ∃ b1'0 : Bool, ∃ HJ : Nat → Prop, ((aA == 9) = b1'0) ∧ Hst w0 H1 w8 HJ wJ ∧ HB HJ wJ [(p1, [(vi aA), (vi aC), (vi aD), (vu aH), (vs aI), (vi aB), (vi aE)], 93)] ∧ Has ρ [(6, (vp r3)), (9, (vp r6)), (10, (vi t1)), (11, (vp (some p1))), (13, (vb r8)), (14, (vb r9)), (15, (vi (cond b1'0 aD aC)))]) ?_ ?_
      ·skip
       refine wpE_cond (t := (aA == 9)) (by kernel_rfl) (fun hc6 => ?_) (fun hc6 => ?_)
       ·skip
        refine rg (q0 (vp (some (p1.add 2))) (q2 (vi aD) (xl (Try.isAgg3 _) (hb.c 0 2 gZ)) (q0 (vi aD) (wpL_nil (th_n ?_)))))
        exact ⟨true, _, hc6, hs, hb, Has.mk (by kernel_rfl)⟩
       ·skip
        refine wpE_skip (th_n ?_)
        exact ⟨false, _, hc6, hs, hb, Has.mk (by kernel_rfl)⟩
      ·clear hs hb
       rintro ρ w9 ⟨b1'0, H2, he0, hs, hb, hH⟩
       subst he0
       refine norm_has hH ?_
       clear hH
       refine th_n (wpE_seq (rg (q0 (vp r3) (q0 (vi (cond (aA == 9) aD aC)) (q0 (.agg #[(vi 6), (vi (cond (aA == 9) aD aC)), (vi 0), (vu 0), (vs ⟨#[]⟩), (vi 0), (vi 0)]) ?_)))))
       replace h := h H2 w9 hs
       replace hs := hs.here
       refine st_call (want0 rfl) (xc Try.call49) (h.mono ?_)
       rintro e w10 ⟨r10, r11, rfl, hk, h⟩
       refine ⟨_, rfl, ?_⟩
       obtain ⟨hs, hb⟩ := hk.hh hs hb
       refine q0 (.tuple #[(vi r10), (vb r11)]) (q0 (vi r10) (q0 (vb r11) (q0 (vi r10) (q0 (vb r11) (wpL_nil (th_n (wpE_seq (wpE_seq (rg (q0 (vp (some p1)) (q2 (vi aA) (xl (Try.isAgg3 _) (hb.c0 0 gZ)) ?_)))))))))))
       refine wpL_nil (th_n (wpE_block (wpE_seq (wpE_seq (rg (q0 (vb (aA == 1)) (q0 (vb (aA == 1)) (wpL_nil (th_n ?_)))))))))
       refine wpE_via (fun ρ wJ => ∃ b2'0 b2'1 y1 : Bool, ∃ HJ : Nat → Prop, ((aA == 1) = b2'0) ∧ ((aA == 2) = b2'1) ∧ (y1 = (cond b2'0 (aA == 1) (cond b2'1 (aA == 2) (aA == 3)))) ∧ Hst w0 H2 w10 HJ wJ ∧ HB HJ wJ [(p1, [(vi aA), (vi aC), (vi aD), (vu aH), (vs aI), (vi aB), (vi aE)], 93)] ∧ Has ρ [(6, (vp r3)), (9, (vp r6)), (10, (vi t1)), (11, (vp (some p1))), (13, (vb r8)), (14, (vb r9)), (16, (vi r10)), (17, (vb r11)), (76, (vi aA)), (77, (vb y1))]) ?_ ?_
       ·skip
        refine wpE_cond (t := (aA == 1)) (by kernel_rfl) (fun hc9 => ?_) (fun hc9 => ?_)
        ·skip
         refine wpE_skip (th_n ?_)
         exact ⟨true, _, _, _, hc9, rfl, rfl, hs, hb, Has.mk (by kernel_rfl)⟩
        ·skip
         refine wpE_seq (rg (q0 (vb (aA == 2)) (q0 (vb (aA == 2)) (wpL_nil (th_n ?_)))))
         refine wpE_cond (t := (aA == 2)) (by kernel_rfl) (fun hc10 => ?_) (fun hc10 => ?_)
         ·skip
          refine wpE_skip (th_n ?_)
          exact ⟨false, true, _, _, hc9, hc10, rfl, hs, hb, Has.mk (by kernel_rfl)⟩
         ·skip
          refine rg (q0 (vb (aA == 3)) (q0 (vb (aA == 3)) (wpL_nil (th_n ?_))))
          exact ⟨false, false, _, _, hc9, hc10, rfl, hs, hb, Has.mk (by kernel_rfl)⟩
       ·clear hs hb
        rintro ρ w11 ⟨b2'0, b2'1, y1, H3, he0, he1, hy1, hs, hb, hH⟩
        subst he0
        subst he1
        replace h := h y1 hy1
        refine norm_has hH ?_
        clear hH
        refine th_n ?_
        refine wpE_cond (t := y1) (by kernel_rfl) (fun hc11 => ?_) (fun hc11 => ?_)
        ·replace h := h.1 hc11
         refine rg (q0 (vb true) (wpL_nil (bl_n (th_n (wpE_seq (rg (q0 (vb r8) (q0 (vb true) (q2 (vb (!(r8 == true))) (x_bin (by kernel_rfl) (by kernel_rfl) (by kernel_rfl) (eqt_law08_DeduceClosed_neq_4 r8 true _)) (wpL_nil (th_n ?_)))))))))))
         refine wpE_cond (t := (!(r8 == true))) (by kernel_rfl) (fun hc12 => ?_) (fun hc12 => ?_)
         ·replace h := h.1 hc12
          refine wpE_seq (rg (q0 (vb false) (wpL_nil (th_n (wpE_ret (bl_r (th_r (th_r (bl_r (th_r ?_))))))))))
          replace h := h H3 w11 hs
          replace hs := hs.here
          refine res1 (.inl rfl) Try.results11 (v := (vb false)) (by kernel_rfl) ?_
          exact ⟨false, rfl, h⟩
         ·replace h := h.2 hc12
          refine wpE_skip (bl_n (th_n (rg (q0 (vi t1) (q0 (vi (IntKind.i64.wrap (t1 + 1))) (q0 (vi (IntKind.i64.wrap (t1 + 1))) (wpL_nil ?_)))))))
          replace h := h H3 w11 hs
          replace hs := hs.here
          refine th_n ?_
          exact ⟨((IntKind.i64.wrap (t1 + 1)), H3, w11), ⟨rfl, Has.mk (by kernel_rfl), hs, hb.drop 1, h.1⟩, h.2⟩
        ·replace h := h.2 hc11
         refine wpE_seq (rg (q0 (vb (aA == 4)) (q0 (vb (aA == 4)) (wpL_nil (th_n ?_)))))
         refine wpE_cond (t := (aA == 4)) (by kernel_rfl) (fun hc13 => ?_) (fun hc13 => ?_)
         ·replace h := h.1 hc13
          refine wpE_seq ?_
          refine wpE_joinT (fun ρ w => ∃ made1 : Bool, ∃ H : Nat → Prop, Has ρ [(6, (vp r3)), (9, (vp r6)), (10, (vi t1)), (11, (vp (some p1))), (13, (vb r8)), (14, (vb made1))] ∧ Hst w0 H w H w ∧ HB H w [(p1, [(vi aA), (vi aC), (vi aD), (vu aH), (vs aI), (vi aB), (vi aE)], 93)] ∧ m_law08_DeduceClosed_j3 r6 t1 aB aE r8 made1 H w (fun y'0 H' w' => I1 y'0 H' w' ∧ mu1 y'0 w' < mu1 t1 wl1) K) ?_ ?_
          ·clear h hs hb
           rintro ρ w ⟨made1, H, hH, hs, hb, h⟩
           unfold m_law08_DeduceClosed_j3 at h
           refine wpE_has hH ?_
           clear hH
           refine wpE_seq (rg (q0 (vb r8) (q0 (vb r8) ?_)))
           rcases Bool.eq_false_or_eq_true r8 with hg1 | hg1
           ·replace h := h.1 hg1
            refine q1 (vp r6) (want1 rfl (yD 97 hg1)) (q1 (vp (some (p1.add 5))) (want1 rfl (yD 97 hg1)) (stp (v := (vi aB)) (want1 rfl (yD 97 hg1)) (xl (Try.isAgg41 _) (hb.c 0 5 gZ)) ?_))
            refine st_call (want1 rfl (yD 97 hg1)) (xc Try.call46) (h.mono ?_)
            rintro e w12 ⟨r12, rfl, hk, h⟩
            refine ⟨_, rfl, ?_⟩
            obtain ⟨hs, hb⟩ := hk.hh hs hb
            refine q1 (vb (!r12)) (want1 rfl (yD 97 hg1)) (q1 (vb (!r12)) (want1 rfl (yD 97 hg1)) ?_)
            rcases Bool.eq_false_or_eq_true (!r12) with hg2 | hg2
            ·replace h := h.1 hg2
             refine sk (yD 103 hg2) (sk (yD 103 hg2) (sk (yD 103 hg2) (sk (yD 103 hg2) (sk (yD 103 hg2) (stp (v := (vb true)) (want1 rfl (yD 97 hg1)) (xT hg2) (q2 (vb true) (xT hg1) (wpL_nil (th_n (wpE_condT (by kernel_rfl) (wpE_seq (rg ?_)))))))))))
             refine q0 (vb false) (wpL_nil (th_n (wpE_ret (bl_r (th_r (bl_r (th_r (th_r (bl_r (th_r (res1 (.inl rfl) Try.results11 (v := (vb false)) (by kernel_rfl) ?_)))))))))))
             exact ⟨false, rfl, h⟩
            ·replace h := h.2 hg2
             refine q1 (vp r6) (want1 rfl (yD 103 hg2)) (q1 (vp (some (p1.add 6))) (want1 rfl (yD 103 hg2)) (stp (v := (vi aE)) (want1 rfl (yD 103 hg2)) (xl (Try.isAgg41 _) (hb.c 0 6 gZ)) ?_))
             refine st_call (want1 rfl (yD 103 hg2)) (xc Try.call46) (h.mono ?_)
             rintro e w13 ⟨r13, rfl, hk, h⟩
             refine ⟨_, rfl, ?_⟩
             obtain ⟨hs, hb⟩ := hk.hh hs hb
             refine q1 (vb (!r13)) (want1 rfl (yD 103 hg2)) (stp (v := (vb (!r13))) (want1 rfl (yD 97 hg1)) (xF hg2) (q2 (vb (!r13)) (xT hg1) (wpL_nil (th_n ?_))))
             refine wpE_cond (t := (!r13)) (by kernel_rfl) (fun hc14 => ?_) (fun hc14 => ?_)
             ·replace h := h.1 hc14
              refine wpE_seq (rg (q0 (vb false) (wpL_nil (th_n (wpE_ret (bl_r (th_r (bl_r (th_r (th_r (bl_r ?_)))))))))))
              refine th_r (res1 (.inl rfl) Try.results11 (v := (vb false)) (by kernel_rfl) ?_)
              exact ⟨false, rfl, h⟩
             ·replace h := h.2 hc14
              refine wpE_skip (bl_n (th_n (wpE_seq (rg (q0 (vb r8) (q0 (vb made1) (q2 (vb (!(r8 == made1))) (x_bin (by kernel_rfl) (by kernel_rfl) (by kernel_rfl) (eqt_law08_DeduceClosed_neq_4 r8 made1 _)) (wpL_nil (th_n ?_)))))))))
              refine wpE_cond (t := (!(r8 == made1))) (by kernel_rfl) (fun hc15 => ?_) (fun hc15 => ?_)
              ·replace h := h.1 hc15
               refine wpE_seq (rg (q0 (vb false) (wpL_nil (th_n (wpE_ret (bl_r (th_r (th_r (bl_r (th_r (res1 (.inl rfl) Try.results11 (v := (vb false)) (by kernel_rfl) ?_)))))))))))
               exact ⟨false, rfl, h⟩
              ·replace h := h.2 hc15
               refine wpE_skip (bl_n (th_n (rg (q0 (vi t1) (q0 (vi (IntKind.i64.wrap (t1 + 1))) (q0 (vi (IntKind.i64.wrap (t1 + 1))) (wpL_nil (th_n ?_))))))))
               exact ⟨((IntKind.i64.wrap (t1 + 1)), H, w13), ⟨rfl, Has.mk (by kernel_rfl), hs, hb.drop 1, h.1⟩, h.2⟩
           ·replace h := h.2 hg1
            refine sk (yD 97 hg1) (sk (yD 97 hg1) (sk (yD 97 hg1) (sk (yD 97 hg1) (sk (yD 97 hg1) (sk (yD 97 hg1) (st_not (by kernel_rfl) (st_not (by kernel_rfl) (st_not (by kernel_rfl) (st_not (by kernel_rfl) (st_not (by kernel_rfl) (sk (yD 97 hg1) ?_)))))))))))
            refine q2 (vb false) (xF hg1) (wpL_nil (th_n (wpE_condF (by kernel_rfl) (wpE_skip (bl_n (th_n (wpE_seq (rg (q0 (vb r8) (q0 (vb made1) (q2 (vb (!(r8 == made1))) (x_bin (by kernel_rfl) (by kernel_rfl) (by kernel_rfl) (eqt_law08_DeduceClosed_neq_4 r8 made1 _)) ?_)))))))))))
            refine wpL_nil (th_n ?_)
            refine wpE_cond (t := (!(r8 == made1))) (by kernel_rfl) (fun hc16 => ?_) (fun hc16 => ?_)
            ·replace h := h.1 hc16
             refine wpE_seq (rg (q0 (vb false) (wpL_nil (th_n (wpE_ret (bl_r (th_r (th_r (bl_r (th_r (res1 (.inl rfl) Try.results11 (v := (vb false)) (by kernel_rfl) ?_)))))))))))
             exact ⟨false, rfl, h⟩
            ·replace h := h.2 hc16
             refine wpE_skip (bl_n (th_n (rg (q0 (vi t1) (q0 (vi (IntKind.i64.wrap (t1 + 1))) (q0 (vi (IntKind.i64.wrap (t1 + 1))) (wpL_nil (th_n ?_))))))))
             exact ⟨((IntKind.i64.wrap (t1 + 1)), H, w), ⟨rfl, Has.mk (by kernel_rfl), hs, hb.drop 1, h.1⟩, h.2⟩
          ·skip
           refine rg (q0 (vb r9) (q0 (vb r9) ?_))
           rcases Bool.eq_false_or_eq_true r9 with hg3 | hg3
           ·replace h := h.1 hg3
            refine sk (yD 84 hg3) (sk (yD 84 hg3) (sk (yD 84 hg3) (sk (yD 84 hg3) (sk (yD 84 hg3) (st_not (by kernel_rfl) (st_not (by kernel_rfl) (st_not (by kernel_rfl) (st_not (by kernel_rfl) (sk (yD 84 hg3) (q2 (vb true) (xT hg3) (q0 (vb true) ?_)))))))))))
            refine wpL_nil ?_
            replace h := h H3 w11 hs
            replace hs := hs.here
            refine th_n ?_
            exact ⟨true, H3, Has.mk (by kernel_rfl), hs, hb, h⟩
           ·replace h := h.2 hg3
            refine q1 (vp r6) (want1 rfl (yD 84 hg3)) (q1 (vp (some (p1.add 5))) (want1 rfl (yD 84 hg3)) (stp (v := (vi aB)) (want1 rfl (yD 84 hg3)) (xl (Try.isAgg41 _) (hb.c 0 5 gZ)) ?_))
            replace h := h H3 w11 hs
            replace hs := hs.here
            refine st_call (want1 rfl (yD 84 hg3)) (xc Try.call46) (h.mono ?_)
            rintro e w14 ⟨r14, rfl, hk, h⟩
            refine ⟨_, rfl, ?_⟩
            obtain ⟨hs, hb⟩ := hk.hh hs hb
            refine q1 (vb r14) (want1 rfl (yD 84 hg3)) ?_
            rcases Bool.eq_false_or_eq_true r14 with hg4 | hg4
            ·replace h := h.1 hg4
             refine q1 (vp r6) (want1 rfl (yD 89 hg4)) (q1 (vp (some (p1.add 6))) (want1 rfl (yD 89 hg4)) (stp (v := (vi aE)) (want1 rfl (yD 89 hg4)) (xl (Try.isAgg41 _) (hb.c 0 6 gZ)) ?_))
             refine st_call (want1 rfl (yD 89 hg4)) (xc Try.call46) (h.mono ?_)
             rintro e w15 ⟨r15, rfl, hk, h⟩
             refine ⟨_, rfl, ?_⟩
             obtain ⟨hs, hb⟩ := hk.hh hs hb
             refine stp (v := (vb r15)) (want1 rfl (yD 84 hg3)) (xT hg4) (q2 (vb r15) (xF hg3) (q0 (vb r15) (wpL_nil (th_n ?_))))
             exact ⟨r15, H3, Has.mk (by kernel_rfl), hs, hb, h⟩
            ·replace h := h.2 hg4
             refine sk (yD 89 hg4) (sk (yD 89 hg4) (sk (yD 89 hg4) (sk (yD 89 hg4) (stp (v := (vb false)) (want1 rfl (yD 84 hg3)) (xF hg4) (q2 (vb false) (xF hg3) (q0 (vb false) (wpL_nil (th_n ?_))))))))
             exact ⟨false, H3, Has.mk (by kernel_rfl), hs, hb, h⟩
         ·replace h := h.2 hc13
          refine wpE_seq (rg (q0 (vb (aA == 5)) (q0 (vb (aA == 5)) (wpL_nil (th_n ?_)))))
          refine wpE_cond (t := (aA == 5)) (by kernel_rfl) (fun hc17 => ?_) (fun hc17 => ?_)
          ·replace h := h.1 hc17
           refine rg (q0 (vb r9) (q0 (vb r9) ?_))
           rcases Bool.eq_false_or_eq_true r9 with hg5 | hg5
           ·replace h := h.1 hg5
            refine sk (yD 114 hg5) (sk (yD 114 hg5) (sk (yD 114 hg5) (sk (yD 114 hg5) (q2 (vb true) (xT hg5) (q0 (vb true) (wpL_nil (bl_n (th_n (wpE_seq (rg (q0 (vb r8) ?_)))))))))))
            refine q0 (vb true) (q2 (vb (!(r8 == true))) (x_bin (by kernel_rfl) (by kernel_rfl) (by kernel_rfl) (eqt_law08_DeduceClosed_neq_4 r8 true _)) (wpL_nil (th_n ?_)))
            refine wpE_cond (t := (!(r8 == true))) (by kernel_rfl) (fun hc18 => ?_) (fun hc18 => ?_)
            ·replace h := h.1 hc18
             refine wpE_seq (rg (q0 (vb false) (wpL_nil (th_n (wpE_ret (bl_r (th_r (th_r (bl_r (th_r ?_))))))))))
             replace h := h H3 w11 hs
             replace hs := hs.here
             refine res1 (.inl rfl) Try.results11 (v := (vb false)) (by kernel_rfl) ?_
             exact ⟨false, rfl, h⟩
            ·replace h := h.2 hc18
             refine wpE_skip (bl_n (th_n (rg (q0 (vi t1) (q0 (vi (IntKind.i64.wrap (t1 + 1))) (q0 (vi (IntKind.i64.wrap (t1 + 1))) (wpL_nil ?_)))))))
             replace h := h H3 w11 hs
             replace hs := hs.here
             refine th_n ?_
             exact ⟨((IntKind.i64.wrap (t1 + 1)), H3, w11), ⟨rfl, Has.mk (by kernel_rfl), hs, hb.drop 1, h.1⟩, h.2⟩
           ·replace h := h.2 hg5
            refine q1 (vp r6) (want1 rfl (yD 114 hg5)) (q1 (vp (some (p1.add 5))) (want1 rfl (yD 114 hg5)) (stp (v := (vi aB)) (want1 rfl (yD 114 hg5)) (xl (Try.isAgg41 _) (hb.c 0 5 gZ)) ?_))
            replace h := h H3 w11 hs
            replace hs := hs.here
            refine st_call (want1 rfl (yD 114 hg5)) (xc Try.call46) (h.mono ?_)
            rintro e w16 ⟨r16, rfl, hk, h⟩
            refine ⟨_, rfl, ?_⟩
            obtain ⟨hs, hb⟩ := hk.hh hs hb
            refine q2 (vb r16) (xF hg5) (q0 (vb r16) (wpL_nil (bl_n (th_n (wpE_seq (rg (q0 (vb r8) (q0 (vb r16) (q2 (vb (!(r8 == r16))) (x_bin (by kernel_rfl) (by kernel_rfl) (by kernel_rfl) (eqt_law08_DeduceClosed_neq_4 r8 r16 _)) (wpL_nil (th_n ?_)))))))))))
            refine wpE_cond (t := (!(r8 == r16))) (by kernel_rfl) (fun hc19 => ?_) (fun hc19 => ?_)
            ·replace h := h.1 hc19
             refine wpE_seq (rg (q0 (vb false) (wpL_nil (th_n (wpE_ret (bl_r (th_r (th_r (bl_r (th_r (res1 (.inl rfl) Try.results11 (v := (vb false)) (by kernel_rfl) ?_)))))))))))
             exact ⟨false, rfl, h⟩
            ·replace h := h.2 hc19
             refine wpE_skip (bl_n (th_n (rg (q0 (vi t1) (q0 (vi (IntKind.i64.wrap (t1 + 1))) (q0 (vi (IntKind.i64.wrap (t1 + 1))) (wpL_nil (th_n ?_))))))))
             exact ⟨((IntKind.i64.wrap (t1 + 1)), H3, w16), ⟨rfl, Has.mk (by kernel_rfl), hs, hb.drop 1, h.1⟩, h.2⟩
          ·replace h := h.2 hc17
           refine wpE_seq (wpE_seq (rg (q0 (vb (aA == 7)) (q0 (vb (aA == 7)) (wpL_nil (th_n ?_))))))
           refine wpE_via (fun ρ wJ => ∃ b3'0 b3'1 y2 : Bool, ∃ HJ : Nat → Prop, ((aA == 7) = b3'0) ∧ ((aA == 8) = b3'1) ∧ (y2 = (cond b3'0 (aA == 7) (cond b3'1 (aA == 8) (aA == 9)))) ∧ Hst w0 H2 w10 HJ wJ ∧ HB HJ wJ [(p1, [(vi aA), (vi aC), (vi aD), (vu aH), (vs aI), (vi aB), (vi aE)], 93)] ∧ Has ρ [(6, (vp r3)), (9, (vp r6)), (10, (vi t1)), (11, (vp (some p1))), (13, (vb r8)), (14, (vb r9)), (16, (vi r10)), (17, (vb r11)), (120, (vb y2))]) ?_ ?_
           ·skip
            refine wpE_cond (t := (aA == 7)) (by kernel_rfl) (fun hc22 => ?_) (fun hc22 => ?_)
            ·skip
             refine wpE_skip (th_n ?_)
             exact ⟨true, _, _, _, hc22, rfl, rfl, hs, hb, Has.mk (by kernel_rfl)⟩
            ·skip
             refine wpE_seq (rg (q0 (vb (aA == 8)) (q0 (vb (aA == 8)) (wpL_nil (th_n ?_)))))
             refine wpE_cond (t := (aA == 8)) (by kernel_rfl) (fun hc23 => ?_) (fun hc23 => ?_)
             ·skip
              refine wpE_skip (th_n ?_)
              exact ⟨false, true, _, _, hc22, hc23, rfl, hs, hb, Has.mk (by kernel_rfl)⟩
             ·skip
              refine rg (q0 (vb (aA == 9)) (q0 (vb (aA == 9)) (wpL_nil (th_n ?_))))
              exact ⟨false, false, _, _, hc22, hc23, rfl, hs, hb, Has.mk (by kernel_rfl)⟩
           ·clear hs hb
            rintro ρ w17 ⟨b3'0, b3'1, y2, H4, he0, he1, hy2, hs, hb, hH⟩
            subst he0
            subst he1
            replace h := h y2 hy2
            refine norm_has hH ?_
            clear hH
            refine th_n ?_
            refine wpE_cond (t := y2) (by kernel_rfl) (fun hc24 => ?_) (fun hc24 => ?_)
            ·replace h := h.1 hc24
             refine wpE_seq ?_
             refine wpE_joinT (fun ρ w => ∃ made2 : Bool, ∃ H : Nat → Prop, Has ρ [(6, (vp r3)), (9, (vp r6)), (10, (vi t1)), (11, (vp (some p1))), (13, (vb r8)), (14, (vb made2))] ∧ Hst w0 H w H w ∧ HB H w [(p1, [(vi aA), (vi aC), (vi aD), (vu aH), (vs aI), (vi aB), (vi aE)], 93)] ∧ m_law08_DeduceClosed_j4 r6 t1 aB r8 made2 H w (fun y'0 H' w' => I1 y'0 H' w' ∧ mu1 y'0 w' < mu1 t1 wl1) K) ?_ ?_
             ·clear h hs hb
              rintro ρ w ⟨made2, H, hH, hs, hb, h⟩
              unfold m_law08_DeduceClosed_j4 at h
              refine wpE_has hH ?_
              clear hH
              refine wpE_seq (rg (q0 (vb r8) (q0 (vb r8) ?_)))
              rcases Bool.eq_false_or_eq_true r8 with hg6 | hg6
              ·replace h := h.1 hg6
               refine q1 (vp r6) (want1 rfl (yD 140 hg6)) (q1 (vp (some (p1.add 5))) (want1 rfl (yD 140 hg6)) (stp (v := (vi aB)) (want1 rfl (yD 140 hg6)) (xl (Try.isAgg41 _) (hb.c 0 5 gZ)) ?_))
               refine st_call (want1 rfl (yD 140 hg6)) (xc Try.call46) (h.mono ?_)
               rintro e w18 ⟨r17, rfl, hk, h⟩
               refine ⟨_, rfl, ?_⟩
               obtain ⟨hs, hb⟩ := hk.hh hs hb
               refine q1 (vb (!r17)) (want1 rfl (yD 140 hg6)) (q2 (vb (!r17)) (xT hg6) (wpL_nil (th_n ?_)))
               refine wpE_cond (t := (!r17)) (by kernel_rfl) (fun hc25 => ?_) (fun hc25 => ?_)
               ·replace h := h.1 hc25
                refine wpE_seq (rg (q0 (vb false) (wpL_nil (th_n (wpE_ret (bl_r (th_r (bl_r (th_r (th_r (bl_r ?_)))))))))))
                refine th_r (res1 (.inl rfl) Try.results11 (v := (vb false)) (by kernel_rfl) ?_)
                exact ⟨false, rfl, h⟩
               ·replace h := h.2 hc25
                refine wpE_skip (bl_n (th_n (wpE_seq (rg (q0 (vb r8) (q0 (vb made2) (q2 (vb (!(r8 == made2))) (x_bin (by kernel_rfl) (by kernel_rfl) (by kernel_rfl) (eqt_law08_DeduceClosed_neq_4 r8 made2 _)) (wpL_nil (th_n ?_)))))))))
                refine wpE_cond (t := (!(r8 == made2))) (by kernel_rfl) (fun hc26 => ?_) (fun hc26 => ?_)
                ·replace h := h.1 hc26
                 refine wpE_seq (rg (q0 (vb false) (wpL_nil (th_n (wpE_ret (bl_r (th_r (th_r (bl_r (th_r (res1 (.inl rfl) Try.results11 (v := (vb false)) (by kernel_rfl) ?_)))))))))))
                 exact ⟨false, rfl, h⟩
                ·replace h := h.2 hc26
                 refine wpE_skip (bl_n (th_n (rg (q0 (vi t1) (q0 (vi (IntKind.i64.wrap (t1 + 1))) (q0 (vi (IntKind.i64.wrap (t1 + 1))) (wpL_nil (th_n ?_))))))))
                 exact ⟨((IntKind.i64.wrap (t1 + 1)), H, w18), ⟨rfl, Has.mk (by kernel_rfl), hs, hb.drop 1, h.1⟩, h.2⟩
              ·replace h := h.2 hg6
               refine sk (yD 140 hg6) (sk (yD 140 hg6) (sk (yD 140 hg6) (sk (yD 140 hg6) (sk (yD 140 hg6) (q2 (vb false) (xF hg6) (wpL_nil (th_n (wpE_condF (by kernel_rfl) (wpE_skip (bl_n (th_n ?_)))))))))))
               refine wpE_seq (rg (q0 (vb r8) (q0 (vb made2) (q2 (vb (!(r8 == made2))) (x_bin (by kernel_rfl) (by kernel_rfl) (by kernel_rfl) (eqt_law08_DeduceClosed_neq_4 r8 made2 _)) (wpL_nil (th_n ?_))))))
               refine wpE_cond (t := (!(r8 == made2))) (by kernel_rfl) (fun hc27 => ?_) (fun hc27 => ?_)
               ·replace h := h.1 hc27
                refine wpE_seq (rg (q0 (vb false) (wpL_nil (th_n (wpE_ret (bl_r (th_r (th_r (bl_r (th_r (res1 (.inl rfl) Try.results11 (v := (vb false)) (by kernel_rfl) ?_)))))))))))
                exact ⟨false, rfl, h⟩
               ·replace h := h.2 hc27
                refine wpE_skip (bl_n (th_n (rg (q0 (vi t1) (q0 (vi (IntKind.i64.wrap (t1 + 1))) (q0 (vi (IntKind.i64.wrap (t1 + 1))) (wpL_nil (th_n ?_))))))))
                exact ⟨((IntKind.i64.wrap (t1 + 1)), H, w), ⟨rfl, Has.mk (by kernel_rfl), hs, hb.drop 1, h.1⟩, h.2⟩
             ·skip
              refine rg (q0 (vb r9) (q0 (vb r9) ?_))
              rcases Bool.eq_false_or_eq_true r9 with hg7 | hg7
              ·replace h := h.1 hg7
               refine sk (yD 125 hg7) (sk (yD 125 hg7) (sk (yD 125 hg7) (sk (yD 125 hg7) (sk (yD 125 hg7) (st_not (by kernel_rfl) (sk (yD 125 hg7) (sk (yD 125 hg7) (st_not (by kernel_rfl) (st_not (by kernel_rfl) (st_not (by kernel_rfl) (sk (yD 125 hg7) ?_)))))))))))
               refine q2 (vb true) (xT hg7) (q0 (vb true) (wpL_nil ?_))
               replace h := h H4 w17 hs
               replace hs := hs.here
               refine th_n ?_
               exact ⟨true, H4, Has.mk (by kernel_rfl), hs, hb, h⟩
              ·replace h := h.2 hg7
               refine q1 (vp r6) (want1 rfl (yD 125 hg7)) (q1 (vp (some (p1.add 5))) (want1 rfl (yD 125 hg7)) (stp (v := (vi aB)) (want1 rfl (yD 125 hg7)) (xl (Try.isAgg41 _) (hb.c 0 5 gZ)) ?_))
               replace h := h H4 w17 hs
               replace hs := hs.here
               refine st_call (want1 rfl (yD 125 hg7)) (xc Try.call46) (h.mono ?_)
               rintro e w19 ⟨r18, rfl, hk, h⟩
               refine ⟨_, rfl, ?_⟩
               obtain ⟨hs, hb⟩ := hk.hh hs hb
               refine q1 (vb r18) (want1 rfl (yD 125 hg7)) ?_
               refine wpL_join 2 (fun ρ wJ => ∃ b4'0 : Bool, ∃ HJ : Nat → Prop, (r18 = b4'0) ∧ Hst w0 H4 w19 HJ wJ ∧ HB HJ wJ [(p1, [(vi aA), (vi aC), (vi aD), (vu aH), (vs aI), (vi aB), (vi aE)], 93)] ∧ Has ρ [(6, (vp r3)), (9, (vp r6)), (10, (vi t1)), (11, (vp (some p1))), (13, (vb r8)), (16, (vi r10)), (125, (vb r9)), (132, (vb (b4'0 && r11)))]) ?_ ?_
               ·clear hs hb
                rintro ρ w20 ⟨b4'0, H5, he0, hs, hb, hH⟩
                subst he0
                refine wpL_has hH ?_
                clear hH
                refine q1 (vb (r18 && r11)) (want1 rfl (yD 125 hg7)) ?_
                rcases Bool.eq_false_or_eq_true (r18 && r11) with hg10 | hg10
                ·replace h := h.1 hg10
                 refine q1 (vp r6) (want1 rfl (yD 133 hg10)) (q1 (vi r10) (want1 rfl (yD 133 hg10)) ?_)
                 replace h := h H5 w20 hs
                 replace hs := hs.here
                 refine st_call (want1 rfl (yD 133 hg10)) (xc Try.call46) (h.mono ?_)
                 rintro e w21 ⟨r19, rfl, hk, h⟩
                 refine ⟨_, rfl, ?_⟩
                 obtain ⟨hs, hb⟩ := hk.hh hs hb
                 refine stp (v := (vb r19)) (want1 rfl (yD 125 hg7)) (xT hg10) (q2 (vb r19) (xF hg7) (q0 (vb r19) (wpL_nil (th_n ?_))))
                 exact ⟨r19, H5, Has.mk (by kernel_rfl), hs, hb, h⟩
                ·replace h := h.2 hg10
                 refine sk (yD 133 hg10) (sk (yD 133 hg10) (sk (yD 133 hg10) (stp (v := (vb false)) (want1 rfl (yD 125 hg7)) (xF hg10) (q2 (vb false) (xF hg7) (q0 (vb false) (wpL_nil ?_))))))
                 replace h := h H5 w20 hs
                 replace hs := hs.here
                 refine th_n ?_
                 exact ⟨false, H5, Has.mk (by kernel_rfl), hs, hb, h⟩
               ·skip
                rcases Bool.eq_false_or_eq_true r18 with hg9 | hg9
                ·skip
                 refine q1 (vb r11) (want1 rfl (yD 130 hg9)) (stp (v := (vb r11)) (want1 rfl (yD 125 hg7)) (xT hg9) (wpL_nil ?_))
                 exact ⟨true, _, hg9, hs, hb, Has.mk (by kernel_rfl)⟩
                ·skip
                 refine sk (yD 130 hg9) (stp (v := (vb false)) (want1 rfl (yD 125 hg7)) (xF hg9) (wpL_nil ?_))
                 exact ⟨false, _, hg9, hs, hb, Has.mk (by kernel_rfl)⟩
            ·replace h := h.2 hc24
             refine wpE_skip (bl_n (th_n (wpE_seq (rg (q0 (vb r8) (q0 (vb r9) (q2 (vb (!(r8 == r9))) (x_bin (by kernel_rfl) (by kernel_rfl) (by kernel_rfl) (eqt_law08_DeduceClosed_neq_4 r8 r9 _)) (wpL_nil (th_n ?_)))))))))
             refine wpE_cond (t := (!(r8 == r9))) (by kernel_rfl) (fun hc28 => ?_) (fun hc28 => ?_)
             ·replace h := h.1 hc28
              refine wpE_seq (rg (q0 (vb false) (wpL_nil (th_n (wpE_ret (bl_r (th_r (th_r (bl_r (th_r ?_))))))))))
              replace h := h H4 w17 hs
              replace hs := hs.here
              refine res1 (.inl rfl) Try.results11 (v := (vb false)) (by kernel_rfl) ?_
              exact ⟨false, rfl, h⟩
             ·replace h := h.2 hc28
              refine wpE_skip (bl_n (th_n (rg (q0 (vi t1) (q0 (vi (IntKind.i64.wrap (t1 + 1))) (q0 (vi (IntKind.i64.wrap (t1 + 1))) (wpL_nil ?_)))))))
              replace h := h H4 w17 hs
              replace hs := hs.here
              refine th_n ?_
              exact ⟨((IntKind.i64.wrap (t1 + 1)), H4, w17), ⟨rfl, Has.mk (by kernel_rfl), hs, hb.drop 1, h.1⟩, h.2⟩
     ·replace h := h.2 hc4
      refine wpE_exit (th_x (th_x (bl_eq (th_n (wpE_seq (rg ?_))))))
      refine st_call (want0 rfl) (xc Try.call34) (h.mono ?_)
      rintro e w22 ⟨r20, rfl, hk, h⟩
      refine ⟨_, rfl, ?_⟩
      obtain ⟨hs, hb⟩ := hk.hh hs hb
      refine q0 (vb r20) (wpL_nil (th_n (wpE_ret (res1 (.inl rfl) Try.results11 (v := (vb r20)) (by kernel_rfl) ?_))))
      exact ⟨r20, rfl, h⟩
 ·skip
  refine rg (q0 l1.v ?_)
  refine st_call (want0 rfl) (xc Try.call33) (h.mono ?_)
  rintro e w23 ⟨r21, rfl, hk, h⟩
  refine ⟨_, rfl, ?_⟩
  obtain ⟨hs, hb⟩ := hk.hh hs hb
  refine q0 (vb r21) ?_
  refine wpL_join 4 (fun ρ wJ => ∃ b5'0 : Bool, ∃ HJ : Nat → Prop, (r21 = b5'0) ∧ Hst w0 None w23 HJ wJ ∧ HB HJ wJ [] ∧ Has ρ [(0, l1.v), (1, given1.v), (24, (vb (b5'0 || (decide ((given1.len : Int) > 20)))))]) ?_ ?_
  ·clear hs hb
   rintro ρ w24 ⟨b5'0, H6, he0, hs, hb, hH⟩
   subst he0
   refine wpL_has hH ?_
   clear hH
   refine wpL_nil ?_
   replace h := h H6 w24 hs
   replace hs := hs.here
   refine th_n ?_
   exact ⟨(r21 || (decide ((given1.len : Int) > 20))), H6, Has.mk (by kernel_rfl), hs, hb, h⟩
  ·skip
   rcases Bool.eq_false_or_eq_true r21 with hg12 | hg12
   ·skip
    refine sk (yD 20 hg12) (sk (yD 20 hg12) (sk (yD 20 hg12) (q2 (vb true) (xT hg12) (wpL_nil ?_))))
    exact ⟨true, _, hg12, hs, hb, Has.mk (by kernel_rfl)⟩
   ·skip
    refine q1 given1.v (want1 rfl (yD 20 hg12)) (q1 (vi (given1.len : Int)) (want1 rfl (yD 20 hg12)) (q1 (vb (decide ((given1.len : Int) > 20))) (want1 rfl (yD 20 hg12)) (q2 (vb (decide ((given1.len : Int) > 20))) (xF hg12) (wpL_nil ?_))))
    exact ⟨false, _, hg12, hs, hb, Has.mk (by kernel_rfl)⟩
end Go.Proofs
end
section
open Go Go.SE
namespace Go.Proofs
attribute [local irreducible] Calls
structure KnAt (w0 : World) (H : Nat → Prop) (w : World) (p k : Addr) (L : Sp.Pool) (G : List Int) (S : List Sp.Way) (FP F : Nat → Prop) : Prop where
 pool : PoolAt w p L FP
 know : KnowAt w k p G S F
 pure : Pure w0 w
 oP : ∀ b, FP b → w0.heap.size ≤ b ∧ ¬ H b
 oF : ∀ b, F b → w0.heap.size ≤ b ∧ ¬ H b ∧ ¬ FP b
 hs : Hst w0 H w H w
section
variable {w0 w w' : World} {H H' : Nat → Prop} {p k : Addr} {L L' : Sp.Pool} {G G' : List Int} {S S' : List Sp.Way} {FP FP' F F' : Nat → Prop}
theorem KnAt.pureE (h : KnAt w0 H w p k L G S FP F) (E : Pure w w') : KnAt w0 H w' p k L G S FP F := ⟨h.pool.pure E, h.know.pure E, h.pure.trans E, h.oP, h.oF, h.hs.again E.keptP⟩
theorem KnAt.hst (h : KnAt w0 H w p k L G S FP F) (hs : Hst w0 H w H' w') : KnAt w0 H' w' p k L G S FP F := by
 have x1 := hs.disj (G := FP) (fun b hb => ⟨h.pool.lt hb, (h.oP b hb).2⟩)
 have x2 := hs.disj (G := F) (fun b hb => ⟨h.know.lt hb, (h.oF b hb).2.1⟩)
 exact ⟨h.pool.ext hs.ext x1, h.know.ext hs.ext x2, h.pure.hst hs, fun b hb => ⟨(h.oP b hb).1, x1 b hb⟩, fun b hb => ⟨(h.oF b hb).1, x2 b hb, (h.oF b hb).2.2⟩, hs.here⟩
theorem KnAt.make (h : KnAt w0 H w p k L G S FP F) (hP : PoolAt w' p L' FP') (E : Ext FP w w') (hF : ∀ b, FP' b → FP b ∨ w.heap.size ≤ b) : Kept H w w' ∧ KnAt w0 H w' p k L' G S FP' F := by
 have hk : Kept H w w' := E.kept (fun b hb hf => (h.oP b hf).2 hb)
 refine ⟨hk, hP, h.know.ext E (fun b hb => (h.oF b hb).2.2), h.pure.trans' E (fun i hi hb => by have := (h.oP i hb).1; omega), fun b hb => ?_, fun b hb => ⟨(h.oF b hb).1, (h.oF b hb).2.1, fun hx => ?_⟩, h.hs.again hk⟩
 ·rcases hF b hb with h1 | h1
  ·exact h.oP b h1
  ·exact ⟨by have := h.pure.size; omega, fun hh => by have := h.hs.lt b hh; omega⟩
 ·rcases hF b hx with h1 | h1
  ·exact (h.oF b hb).2.2 h1
  ·have := h.know.lt hb; omega
theorem KnAt.add (h : KnAt w0 H w p k L G S FP F) (hK : KnowAt w' k p G' S' F') (E : Ext F w w') (hF : ∀ b, F' b → F b ∨ w.heap.size ≤ b) : Kept H w w' ∧ KnAt w0 H w' p k L G' S' FP F' := by
 have hk : Kept H w w' := E.kept (fun b hb hf => (h.oF b hf).2.1 hb)
 refine ⟨hk, h.pool.ext E (fun b hb hf => (h.oF b hf).2.2 hb), hK, h.pure.trans' E (fun i hi hb => by have := (h.oF i hb).1; omega), h.oP, fun b hb => ?_, h.hs.again hk⟩
 rcases hF b hb with h1 | h1
 ·exact h.oF b h1
 ·exact ⟨by have := h.pure.size; omega, fun hh => by have := h.hs.lt b hh; omega, fun hh => by have := h.pool.lt hh; omega⟩
end
theorem tm_box {w : World} {p : Addr} {T : TypeId} (t : Int) (h : Box w p [.int .i64 t] T) : Lst (· = p.block) w 1 ⟨some p, 1, 1⟩ (tmr [t]) := by
 refine ⟨by simp [tmr], fun i hi => ?_⟩
 have hi0 : i = 0 := by simpa [tmr] using hi
 subst hi0
 refine ⟨p, ⟨by omega, by simp, p, rfl, by simp [Addr.add]⟩, rfl, fun j hj => ?_⟩
 have hj0 : j = 0 := by simpa [tmr] using hj
 subst hj0
 have := h.cell0
 simpa [tmr, Addr.add] using this
theorem c_live8 (w0 : World) : Calls Try.prog 34 #[] w0 (fun e w' => ∃ r : Bool, e = .returned (.bool r) ∧ (r = true ∧ Pure w0 w')) := by
 refine w_law08_live w0 (fun r w' => r = true ∧ Pure w0 w') ?_
 unfold m_law08_live
 refine (c_New w0).mono ?_
 rintro _ w1 ⟨_, rfl, p, rfl, E1, FP1, hP1, hF1⟩
 refine ⟨_, rfl, E1.keptP, ?_⟩
 refine (c_ded_New p w1).mono ?_
 rintro _ w2 ⟨_, rfl, k, F, rfl, hk2, E2, hF2⟩
 refine ⟨_, rfl, E2.keptP, Br.f rfl ?_⟩
 have A2 : KnAt w0 None w2 p k [] [] [] FP1 F := ⟨hP1.pure E2, hk2, E1.trans E2, fun b hb => ⟨hF1 b hb, fun h => h⟩, fun b hb => ⟨by have := hF2 b hb; have := E1.size; omega, fun h => h, fun h => by have := hF2 b hb; have := hP1.lt h; omega⟩, (Hst.start w0).again (E1.trans E2).keptP⟩
 intro H1 w3 hs3
 have A3 := A2.hst hs3
 refine (c_Num p w3 A3.pool Sp.Wf.nil.ok 1).mono ?_
 rintro _ w4 ⟨r3, r4, rfl, hr, FP4, hP4, E4, hF4⟩
 rw [show (⟨2, 0, 0, 1, ⟨#[]⟩, 0, 0⟩ : Sp.Node) = Sp.l8a from rfl, Sp.l8m1] at hr hP4; cases hr
 obtain ⟨k4, A4⟩ := A3.make hP4 E4 hF4
 refine ⟨_, _, rfl, k4, ?_⟩
 refine (c_Name p w4 A4.pool Sp.l8w1.ok 2).mono ?_
 rintro _ w5 ⟨r5, r6, rfl, hr, FP5, hP5, E5, hF5⟩
 rw [show (⟨1, 2, 0, 0, ⟨#[]⟩, 0, 0⟩ : Sp.Node) = Sp.l8b from rfl, Sp.l8m2] at hr hP5; cases hr
 obtain ⟨k5, A5⟩ := A4.make hP5 E5 hF5
 refine ⟨_, _, rfl, k5, ?_⟩
 refine (c_Pair p w5 A5.pool Sp.l8w2.ok 1 2).mono ?_
 rintro _ w6 ⟨r7, r8, rfl, hr, FP6, hP6, E6, hF6⟩
 rw [show (⟨4, 0, 0, 0, ⟨#[]⟩, 1, 2⟩ : Sp.Node) = Sp.l8c from rfl, Sp.l8m3] at hr hP6; cases hr
 obtain ⟨k6, A6⟩ := A5.make hP6 E6 hF6
 refine ⟨_, _, rfl, k6, ?_⟩
 refine (c_Sign p w6 A6.pool Sp.l8w3.ok 0 3).mono ?_
 rintro _ w7 ⟨r9, r10, rfl, hr, FP7, hP7, E7, hF7⟩
 rw [show (⟨7, 0, 0, 0, ⟨#[]⟩, 3, 0⟩ : Sp.Node) = Sp.l8s from rfl, Sp.l8m4] at hr hP7; cases hr
 obtain ⟨k7, A7⟩ := A6.make hP7 E7 hF7
 refine ⟨_, _, rfl, k7, ?_⟩
 refine (c_Hash p w7 A7.pool Sp.l8w4.ok 1).mono ?_
 rintro _ w8 ⟨r11, r12, rfl, hr, FP8, hP8, E8, hF8⟩
 rw [show (⟨5, 0, 0, 0, ⟨#[]⟩, 1, 0⟩ : Sp.Node) = Sp.l8h from rfl, Sp.l8m5] at hr hP8; cases hr
 obtain ⟨k8, A8⟩ := A7.make hP8 E8 hF8
 refine ⟨_, _, rfl, k8, ?_⟩
 refine (c_Key p w8 A8.pool Sp.l8w5.ok 0).mono ?_
 rintro _ w9 ⟨r13, r14, rfl, hr, FP9, hP9, E9, hF9⟩
 rw [show (⟨6, 0, 0, 0, ⟨#[]⟩, 0, 0⟩ : Sp.Node) = Sp.l8k from rfl, Sp.l8m6] at hr hP9; cases hr
 obtain ⟨k9, A9⟩ := A8.make hP9 E9 hF9
 refine ⟨_, _, rfl, k9, ?_⟩
 refine (c_Sign p w9 A9.pool Sp.l8w6.ok 0 1).mono ?_
 rintro _ w10 ⟨r15, r16, rfl, hr, FP, hP10, E10, hF10⟩
 rw [show (⟨7, 0, 0, 0, ⟨#[]⟩, 1, 0⟩ : Sp.Node) = Sp.l8u from rfl, Sp.l8m7] at hr hP10; cases hr
 obtain ⟨k10, A10⟩ := A9.make hP10 E10 hF10
 refine ⟨_, _, rfl, k10, ?_⟩
 have hW := Sp.l8w7
 refine (c_ded_Add k p 4 w10 A10.know A10.pool hW (fun b hb => (A10.oF b hb).2.2) (Sp.KnowOk.nil _)).mono ?_
 rintro _ w11 ⟨_, rfl, rfl, S1, F1, hK1, ok1, X11, f11⟩
 rw [show Sp.giveT Sp.l87 [] 4 = [4] by unfold Sp.giveT; rw [if_pos Sp.l8in.1]; rfl] at hK1 ok1
 obtain ⟨k11, A11⟩ := A10.add hK1 X11 f11
 refine ⟨_, rfl, k11, ?_⟩
 have hs1 : ∀ t, t ∈ Sp.wkeys S1 ↔ Sp.Seen Sp.l87 [4] t := ok1.seen_iff
 refine (c_ded_Proof k p 5 w11 hW ok1 A11.know A11.pool).mono ?_
 rintro _ w12 ⟨r18, r19, rfl, l, hr18, hd19, _, hpf⟩
 have h19 := hd19.2 Sp.l8hash
 subst h19
 obtain ⟨hne, hfol, hnd, hlast, _⟩ := hpf rfl
 refine ⟨_, _, rfl, hr18.kept, ?_⟩
 have A12 := A11.pureE hr18.pure
 intro p1 w13 h13
 have E13 : Pure w12 w13 := Ext.new h13
 have A13 := A12.pureE E13
 have hfew : l.length ≤ 7 := by
  have := Sp.pool_few (L := Sp.l87) hnd (fun t ht => by
   obtain ⟨s, hs, rfl⟩ := List.mem_map.1 ht
   obtain ⟨i, hi, rfl⟩ := List.getElem_of_mem hs
   exact Sp.fol_in (hfol i hi))
  simpa [Sp.l87] using this
 refine (c_ded_Check p _ r18 [4] l 5 w13 A13.pool hW.ok (tm_box 4 (Box.of_new h13)) (hr18.rows.pure E13).lst (by simp) (by omega)).mono ?_
 rintro _ w14 ⟨r20, r21, rfl, hch, E14⟩
 have hc0 : Sp.check8 Sp.l87 [4] l 5 = (0, 0) := by
  unfold Sp.check8
  rw [Sp.badAt_none hfol]
  have : l.length ≠ 0 := fun h => hne (List.length_eq_zero_iff.1 h)
  simp [this, hlast]
 rw [hc0] at hch; cases hch
 have A14 := A13.pureE E14
 refine ⟨_, _, rfl, E14.keptP, ?_⟩
 refine (c_ded_Derives k p 7 w14 hW ok1 A14.know A14.pool).mono ?_
 rintro _ w15 ⟨r22, rfl, hd22, E15⟩
 have h22 : r22 = false := by
  cases r22 with
  | false => rfl
  | true =>
   refine absurd (hd22.1 rfl) (Sp.l8u_no (fun h => ?_) (fun h => ?_))
   ·have := Sp.l8see6 ((hs1 7).1 h); omega
   ·have := Sp.l8see6 ((hs1 6).1 h); omega
 subst h22
 have A15 := A14.pureE E15
 refine ⟨_, rfl, E15.keptP, ?_⟩
 refine (c_ded_Add k p 6 w15 A15.know A15.pool hW (fun b hb => (A15.oF b hb).2.2) ok1).mono ?_
 rintro _ w16 ⟨_, rfl, rfl, S2, F2, hK2, ok2, X16, f16⟩
 rw [show Sp.giveT Sp.l87 [4] 6 = [4, 6] by unfold Sp.giveT; rw [if_pos Sp.l8in.2.1]; rfl] at hK2 ok2
 obtain ⟨k16, A16⟩ := A15.add hK2 X16 f16
 refine ⟨_, rfl, k16, ?_⟩
 have hs2 : ∀ t, t ∈ Sp.wkeys S2 ↔ Sp.Seen Sp.l87 [4, 6] t := ok2.seen_iff
 have hnil : Lst (fun _ => False) w16 1 Sl.nil (tmr []) := ⟨rfl, fun i hi => by simp [tmr] at hi⟩
 have hnil4 : Lst (fun _ => False) w16 4 Sl.nil (([] : List Sp.Step).map strow) := ⟨rfl, fun i hi => by simp at hi⟩
 refine (c_ded_Check p Sl.nil Sl.nil [] [] 5 w16 A16.pool hW.ok hnil hnil4 (by simp) (by simp)).mono ?_
 rintro _ w17 ⟨r24, r25, rfl, hch, E17⟩
 have hc1 : Sp.check8 Sp.l87 [] [] 5 = (81, 0) := by kernel_rfl
 rw [hc1] at hch; cases hch
 have A17 := A16.pureE E17
 refine ⟨_, _, rfl, E17.keptP, ?_⟩
 have l18 : r18.len = l.length := by rw [hr18.rows.len]; simp
 rintro y1 rfl
 refine Br.t ?_ ?_
 ·have hpos : 0 < l.length := List.length_pos_iff.2 hne
  simp [Sp.l8in.1, Sp.l8in.2.1, l18, hpos]
 intro H6 w27 hs27
 have A27 := A17.hst hs27
 refine (c_ded_Derives k p 7 w27 hW ok2 A27.know A27.pool).mono ?_
 rintro _ w34 ⟨r30, rfl, hd30, E34⟩
 have h30 := hd30.2 (Sp.l8u_yes ((hs2 6).2 (.given (by simp))))
 subst h30
 have A34 := A27.pureE E34
 refine ⟨_, rfl, E34.keptP, ?_⟩
 unfold m_law08_live_j1
 refine Br.t rfl ?_
 refine (c_ded_Sees k p 7 w34 A34.know).mono ?_
 rintro _ w33 ⟨r29, rfl, rfl, E33⟩
 have A33 := A34.pureE E33
 refine ⟨_, rfl, E33.keptP, ?_⟩
 have n7 : 7 ∉ Sp.wkeys S2 := fun h => by have := Sp.l8see (fun t ht => by simp at ht; exact ht) ((hs2 7).1 h); omega
 rw [show (!decide ((7 : Int) ∈ Sp.wkeys S2)) = true by simp [n7]]
 unfold m_law08_live_j2
 refine Br.t rfl ?_
 refine (c_ded_Sees k p 1 w33 A33.know).mono ?_
 rintro _ w32 ⟨r28, rfl, rfl, E32⟩
 have A32 := A33.pureE E32
 refine ⟨_, rfl, E32.keptP, ?_⟩
 have y1 : (1 : Int) ∈ Sp.wkeys S2 := (hs2 1).2 (Sp.l8seen (by simp))
 rw [decide_eq_true y1]
 unfold m_law08_live_j3
 refine Br.t rfl ?_
 intro H7 w28 hs28
 have A28 := A32.hst hs28
 refine (c_ded_Given k p w28 A28.know (by simp)).mono ?_
 rintro _ w31 ⟨r27, rfl, hr27⟩
 have A31 := A28.pureE hr27.pure
 refine ⟨_, rfl, hr27.kept, ?_⟩
 have l27 : r27.len = 2 := by rw [hr27.rows.len]; rfl
 rw [l27]
 unfold m_law08_live_j4
 refine Br.t rfl ?_
 refine (c_ded_Add k p 99 w31 A31.know A31.pool hW (fun b hb => (A31.oF b hb).2.2) ok2).mono ?_
 rintro _ w29 ⟨_, rfl, rfl, S3, F3, hK3, ok3, X29, f29⟩
 obtain ⟨k29, A29⟩ := A31.add hK3 X29 f29
 refine ⟨_, rfl, k29, ?_⟩
 intro w30 hs30
 exact ⟨by simp [Sp.l8in.2.2], (A29.hst hs30).pure⟩
end Go.Proofs
end
section
open Go Go.SE
namespace Go.Sp
def poolStep (q : Pool × List Int) (t : Tree) : Pool × List Int := ((of q.1 t).2.2, q.2 ++ [(of q.1 t).1])
def poolAll (ts : List Tree) : Pool × List Int := ts.foldl poolStep ([], [])
theorem cntAll_snoc (ts : List Tree) (t : Tree) : cntAll (ts ++ [t]) = cntAll ts + cnt t := by
 induction ts with
 | nil => simp [cntAll]
 | cons a ts ih => rw [List.cons_append, cntAll, cntAll, ih]; omega
theorem make_few8 (L : Pool) (n : Node) : (make L n).2.2.length ≤ L.length + 1 := by
 rcases make_pool L n with e | ⟨_, e⟩ <;> rw [e] <;> simp
theorem grow_few8 (t : Tree) : ∀ L, (grow L t).2.2.length ≤ L.length + cnt t := by
 induction t using Tree.ind with
 | h k f t u x ks ih =>
  have : ∀ (ks : List Tree), (∀ i (hi : i < ks.length), ∀ L, (grow L ks[i]).2.2.length ≤ L.length + cnt ks[i]) → ∀ n i L, (growAll n i L ks).2.2.length ≤ L.length + 1 + cntAll ks := by
   intro ks
   induction ks with
   | nil => intro _ n i L; unfold growAll; have := make_few8 L n; simp only [cntAll]; omega
   | cons t ts iht =>
    intro hh n i L
    have h0 := hh 0 (by simp) L
    simp only [List.getElem_cons_zero] at h0
    unfold growAll
    simp only [cntAll]
    split
    ·simp only; omega
    ·have := iht (fun i hi => hh (i + 1) (by simpa using hi)) (if i = 0 then { n with a := (grow L t).1 } else { n with b := (grow L t).1 }) (i + 1) (grow L t).2.2
     omega
  intro L
  have := this ks ih ⟨k, f, t, u, x, 0, 0⟩ 0 L
  unfold grow
  rw [cnt]; omega
theorem of_few8 (L : Pool) (t : Tree) : (of L t).2.2.length ≤ L.length + cnt t := by
 have := grow_few8 t L
 unfold of
 split
 ·simp only; omega
 ·split
  ·simp only; omega
  ·exact this
theorem poolAll_ok (ts : List Tree) : Wf (poolAll ts).1 ∧ (poolAll ts).1.length ≤ cntAll ts ∧ (poolAll ts).2.length = ts.length := by
 have : ∀ (ts : List Tree) q, Wf q.1 → Wf (ts.foldl poolStep q).1 ∧ (ts.foldl poolStep q).1.length ≤ q.1.length + cntAll ts ∧ (ts.foldl poolStep q).2.length = q.2.length + ts.length := by
  intro ts
  induction ts with
  | nil => intro q h; exact ⟨h, by simp [cntAll], by simp⟩
  | cons t ts ih =>
   intro q h
   obtain ⟨h1, h2, h3⟩ := ih (poolStep q t) (of_wf h t)
   have := of_few8 q.1 t
   refine ⟨h1, ?_, ?_⟩
   ·rw [List.foldl_cons, cntAll]; unfold poolStep at h2 ⊢; simp only at h2; omega
   ·rw [List.foldl_cons, h3]; simp [poolStep]; omega
 obtain ⟨h1, h2, h3⟩ := this ts ([], []) Wf.nil
 exact ⟨h1, by unfold poolAll; simpa using h2, by unfold poolAll; simpa using h3⟩
end Go.Sp
namespace Go.Proofs
attribute [local irreducible] Calls
theorem c_law08_wide {S : Nat → Prop} (ts : List Sp.Tree) (s : Sl) (w0 : World) (hT : TreeAt S w0 s (.mk 0 0 0 0 ⟨#[]⟩ ts)) (hS : ∀ b, S b → b < w0.heap.size) :
  Calls Try.prog 33 #[s.v] w0 (fun e w' => ∃ r : Bool, e = .returned (.bool r) ∧ ((r = false → ts.length ≤ 12 ∧ Sp.cntAll ts ≤ 400) ∧ Pure w0 w')) := by
 refine w_law08_wide _ w0 (fun r w' => (r = false → ts.length ≤ 12 ∧ Sp.cntAll ts ≤ 400) ∧ Pure w0 w') ?_
 unfold m_law08_wide
 cases hT with
 | mk _ _ _ _ _ _ _ rs len fit row kid =>
 refine ⟨fun n i w' => ∃ j : Nat, i = j ∧ j ≤ ts.length ∧ j ≤ 13 ∧ n = (Sp.cntAll (ts.take j) : Nat) ∧ n < 400 ∧ Pure w0 w', fun _ i _ => (14 - i).toNat, ⟨0, rfl, Nat.zero_le _, by omega, by simp [Sp.cntAll], by omega, Ext.refl _⟩, ?_⟩
 rintro n _ wl ⟨j, rfl, hj, hj13, hn, hn4, E⟩
 unfold m_law08_wide_l1
 refine ⟨fun h => ?_, fun h => ⟨fun hr => ?_, E⟩⟩
 ·rw [Bool.and_eq_true] at h
  have hlt := lt_of_dec len h.1
  have h12 := of_decide_eq_true h.2
  obtain ⟨a, hat, hSa, hrow⟩ := row j hlt
  have hkid := kid j hlt
  have htk : ts.take (j + 1) = ts.take j ++ [ts[j]] := List.take_succ_eq_append_getElem hlt
  have hsn := Sp.cntAll_snoc (ts.take j) ts[j]
  rw [← htk] at hsn
  generalize ts[j] = x at *
  generalize rs j = sx at *
  obtain ⟨xk, xf, xt, xu, xx, xks⟩ := x
  have hrl : Row wl a (trow (.mk xk xf xt xu xx xks) sx) := E.row hrow (fun h => h)
  refine ⟨a, hat, _, _, _, _, _, sx, hrl, ?_⟩
  refine (c_ref05_Parts (.mk xk xf xt xu xx xks) sx 400 wl (by omega) (by omega) (hkid.pure E) (fun b hb => by have := hS b hb; have := E.size; omega)).mono ?_
  rintro _ w1 ⟨r, rfl, rfl, E1⟩
  obtain ⟨p1, p2, p3⟩ := Sp.parts_facts (.mk xk xf xt xu xx xks) 400 (by omega)
  generalize Sp.parts 400 (.mk xk xf xt xu xx xks) = r at *
  refine ⟨r, rfl, ?_⟩
  rw [IntWalk.i64_in _ (by omega), IntWalk.i64_in _ (by omega)]
  refine ⟨fun h => ⟨(fun h => by cases h), E.trans E1⟩, fun h => ?_⟩
  have h := of_decide_eq_false h
  have hc := p3 (by omega)
  refine ⟨⟨j + 1, by omega, hlt, by omega, ?_, by omega, E.trans E1⟩, by show (14 - ((j : Int) + 1)).toNat < (14 - (j : Int)).toNat; omega⟩
  rw [hsn]; omega
 ·have hr := of_decide_eq_false hr
  have hjl : j = ts.length := by
   rw [Bool.and_eq_false_iff] at h
   rcases h with h | h
   ·exact eq_of_dec len hj h
   ·have := of_decide_eq_false h; omega
  subst hjl
  rw [List.take_length] at hn
  exact ⟨by omega, by omega⟩
structure Pl3 (w0 : World) (H : Nat → Prop) (w : World) (p q : Addr) (L1 L2 : Sp.Pool) (t : Sl) (ids : List Int) (F1 F2 : Nat → Prop) : Prop where
 pure : Pure w0 w
 pool : PoolAt w p L1 F1
 ref : PoolR w q L2 F2
 ts : Rws w 41 1 t (tmr ids)
 o1 : ∀ b, F1 b → w0.heap.size ≤ b ∧ ¬ H b ∧ ¬ F2 b ∧ ¬ t.blk b
 o2 : ∀ b, F2 b → w0.heap.size ≤ b ∧ ¬ H b ∧ ¬ t.blk b
 o3 : ∀ b, t.blk b → w0.heap.size ≤ b ∧ ¬ H b
section
variable {w0 w w' : World} {H H' : Nat → Prop} {p q : Addr} {L1 L2 : Sp.Pool} {t : Sl} {ids : List Int} {F1 F2 : Nat → Prop}
theorem Pl3.pureE (h : Pl3 w0 H w p q L1 L2 t ids F1 F2) (E : Pure w w') : Pl3 w0 H w' p q L1 L2 t ids F1 F2 := ⟨h.pure.trans E, h.pool.pure E, h.ref.pure E, h.ts.pure E, h.o1, h.o2, h.o3⟩
theorem Pl3.hst (h : Pl3 w0 H w p q L1 L2 t ids F1 F2) (hs : Hst w0 H w H' w') : Pl3 w0 H' w' p q L1 L2 t ids F1 F2 := by
 have d : ∀ b, b < w.heap.size → ¬ H b → ¬ H' b := fun b h1 h2 => hs.disj (G := (· = b)) (fun c e => by subst e; exact ⟨h1, h2⟩) b rfl
 have d1 : ∀ b, F1 b → ¬ H' b := fun b hb => d b (h.pool.lt hb) (h.o1 b hb).2.1
 have d2 : ∀ b, F2 b → ¬ H' b := fun b hb => d b (h.ref.lt hb) (h.o2 b hb).2.1
 have d3 : ∀ b, t.blk b → ¬ H' b := fun b hb => d b (h.ts.lt hb) (h.o3 b hb).2
 exact ⟨h.pure.hst hs, h.pool.ext hs.ext d1, h.ref.ext hs.ext d2, h.ts.ext hs.ext d3, fun b hb => ⟨(h.o1 b hb).1, d1 b hb, (h.o1 b hb).2.2⟩, fun b hb => ⟨(h.o2 b hb).1, d2 b hb, (h.o2 b hb).2.2⟩, fun b hb => ⟨(h.o3 b hb).1, d3 b hb⟩⟩
theorem Pl3.of1 (h : Pl3 w0 H w p q L1 L2 t ids F1 F2) (hH : ∀ b, H b → b < w.heap.size) {L : Sp.Pool} {F : Nat → Prop} (hP : PoolAt w' p L F) (hE : Ext F1 w w') (hF : ∀ b, F b → F1 b ∨ w.heap.size ≤ b) : Pl3 w0 H w' p q L L2 t ids F F2 := by
 refine ⟨h.pure.trans' hE (fun i hi hb => by have := (h.o1 i hb).1; omega), hP, h.ref.ext hE (fun b hb h1 => (h.o1 b h1).2.2.1 hb), h.ts.ext hE (fun b hb h1 => (h.o1 b h1).2.2.2 hb), fun b hb => ?_, h.o2, h.o3⟩
 rcases hF b hb with h1 | h1
 ·exact h.o1 b h1
 ·exact ⟨by have := h.pure.size; omega, fun hh => by have := hH b hh; omega, fun hh => by have := h.ref.lt hh; omega, fun hh => by have := h.ts.lt hh; omega⟩
theorem Pl3.of2 (h : Pl3 w0 H w p q L1 L2 t ids F1 F2) (hH : ∀ b, H b → b < w.heap.size) {L : Sp.Pool} {F : Nat → Prop} (hP : PoolR w' q L F) (hE : Ext F2 w w') (hF : ∀ b, F b → F2 b ∨ w.heap.size ≤ b) : Pl3 w0 H w' p q L1 L t ids F1 F := by
 refine ⟨h.pure.trans' hE (fun i hi hb => by have := (h.o2 i hb).1; omega), h.pool.ext hE (fun b hb h1 => (h.o1 b hb).2.2.1 h1), hP, h.ts.ext hE (fun b hb h1 => (h.o2 b h1).2.2 hb), fun b hb => ?_, fun b hb => ?_, h.o3⟩
 ·refine ⟨(h.o1 b hb).1, (h.o1 b hb).2.1, fun hh => ?_, (h.o1 b hb).2.2.2⟩
  rcases hF b hh with h1 | h1
  ·exact (h.o1 b hb).2.2.1 h1
  ·have := h.pool.lt hb; omega
 ·rcases hF b hb with h1 | h1
  ·exact h.o2 b h1
  ·exact ⟨by have := h.pure.size; omega, fun hh => by have := hH b hh; omega, fun hh => by have := h.ts.lt hh; omega⟩
theorem Pl3.of3 (h : Pl3 w0 H w p q L1 L2 t ids F1 F2) (hH : ∀ b, H b → b < w.heap.size) {t' : Sl} {ids' : List Int} (hP : Rws w' 41 1 t' (tmr ids')) (hE : Ext t.blk w w') (hF : ∀ b, t'.blk b → t.blk b ∨ w.heap.size ≤ b) : Pl3 w0 H w' p q L1 L2 t' ids' F1 F2 := by
 refine ⟨h.pure.trans' hE (fun i hi hb => by have := (h.o3 i hb).1; omega), h.pool.ext hE (fun b hb h1 => (h.o1 b hb).2.2.2 h1), h.ref.ext hE (fun b hb h1 => (h.o2 b hb).2.2 h1), hP, fun b hb => ?_, fun b hb => ?_, fun b hb => ?_⟩
 ·refine ⟨(h.o1 b hb).1, (h.o1 b hb).2.1, (h.o1 b hb).2.2.1, fun hh => ?_⟩
  rcases hF b hh with h1 | h1
  ·exact (h.o1 b hb).2.2.2 h1
  ·have := h.pool.lt hb; omega
 ·refine ⟨(h.o2 b hb).1, (h.o2 b hb).2.1, fun hh => ?_⟩
  rcases hF b hh with h1 | h1
  ·exact (h.o2 b hb).2.2 h1
  ·have := h.ref.lt hb; omega
 ·rcases hF b hb with h1 | h1
  ·exact h.o3 b h1
  ·exact ⟨by have := h.pure.size; omega, fun hh => by have := hH b hh; omega⟩
end
theorem c_law08_pools {S : Nat → Prop} (ts : List Sp.Tree) (s : Sl) (w0 : World) (hT : TreeAt S w0 s (.mk 0 0 0 0 ⟨#[]⟩ ts)) (hS : ∀ b, S b → b < w0.heap.size) (hn : ts.length ≤ 12) :
  Calls Try.prog 35 #[s.v] w0 (fun e w' => ∃ r1 : Option Addr, ∃ r2 : Option Addr, ∃ r3 : Sl, ∃ r4 : Bool, e = .returned (.tuple #[.pointer r1, .pointer r2, r3.v, .bool r4]) ∧ ∃ p q F1 F2, r1 = some p ∧ r2 = some q ∧ r4 = true ∧ Pl3 w0 None w' p q (Sp.poolAll ts).1 (Sp.poolAll ts).1 r3 (Sp.poolAll ts).2 F1 F2) := by
 suffices key : ∀ K : Option Addr → Option Addr → Sl → Bool → World → Prop, (∀ p q F1 F2 H r3 w', Pl3 w0 H w' p q (Sp.poolAll ts).1 (Sp.poolAll ts).1 r3 (Sp.poolAll ts).2 F1 F2 → K (some p) (some q) r3 true w') → m_law08_pools s w0 K from
  w_law08_pools _ w0 _ (key _ (fun p q F1 F2 H r3 w' h => ⟨p, q, F1, F2, rfl, rfl, rfl, h.pure, h.pool, h.ref, h.ts, fun b hb => ⟨(h.o1 b hb).1, id, (h.o1 b hb).2.2⟩, fun b hb => ⟨(h.o2 b hb).1, id, (h.o2 b hb).2.2⟩, fun b hb => ⟨(h.o3 b hb).1, id⟩⟩))
 intro K hK
 have hnil : ∀ b, Sl.nil.blk b → False := fun b hb => by obtain ⟨a, h, _⟩ := hb; cases h
 cases hT with
 | mk _ _ _ _ _ _ _ rs len fit row kid =>
 unfold m_law08_pools
 refine (c_New w0).mono ?_
 rintro _ w1 ⟨_, rfl, p, rfl, E1, F1, hP1, hF1⟩
 refine ⟨_, rfl, E1.keptP, ?_⟩
 refine (c_ref05_New w1).mono ?_
 rintro _ w2 ⟨_, rfl, q, F2, rfl, hP2, E2, hF2⟩
 refine ⟨_, rfl, E2.keptP, Br.f rfl ?_⟩
 have S0 : Pl3 w0 None w2 p q [] [] Sl.nil [] F1 F2 := ⟨E1.trans E2, hP1.pure E2, hP2, Rws.nil _ _ _,
  fun b hb => ⟨hF1 b hb, id, fun h2 => by have := hF2 b h2; have := hP1.lt hb; omega, hnil b⟩, fun b hb => ⟨by have := hF2 b hb; have := E1.size; omega, id, hnil b⟩, fun b hb => (hnil b hb).elim⟩
 refine ⟨fun t i H w' => ∃ j : Nat, i = j ∧ j ≤ ts.length ∧ ∃ F1 F2, Pl3 w0 H w' p q (Sp.poolAll (ts.take j)).1 (Sp.poolAll (ts.take j)).1 t (Sp.poolAll (ts.take j)).2 F1 F2, fun _ i _ => ((ts.length : Int) - i).toNat, ⟨0, rfl, Nat.zero_le _, F1, F2, S0⟩, ?_⟩
 rintro t _ Hl wl hl ⟨j, rfl, hj, F1, F2, hq⟩
 unfold m_law08_pools_l1
 refine ⟨fun h => ?_, fun h => ?_⟩
 ·have hlt := lt_of_dec len h
  have htk : ts.take (j + 1) = ts.take j ++ [ts[j]] := List.take_succ_eq_append_getElem hlt
  obtain ⟨hW, _, hlens⟩ := Sp.poolAll_ok (ts.take j)
  rw [List.length_take, Nat.min_eq_left (by omega)] at hlens
  have hstep : Sp.poolAll (ts.take (j + 1)) = Sp.poolStep (Sp.poolAll (ts.take j)) ts[j] := by rw [htk]; unfold Sp.poolAll; rw [List.foldl_append]; rfl
  generalize Sp.poolAll (ts.take j) = Q at *
  obtain ⟨a, hat, hSa, hrow⟩ := row j hlt
  have hkid := kid j hlt
  generalize ts[j] = x at *
  generalize rs j = sx at *
  obtain ⟨xk, xf, xt, xu, xx, xks⟩ := x
  have hrl : Row wl a (trow (.mk xk xf xt xu xx xks) sx) := hq.pure.row hrow (fun h => h)
  refine ⟨a, hat, _, _, _, _, _, sx, hrl, ?_⟩
  refine (c_Of (S := S) p (.mk xk xf xt xu xx xks) sx wl (hkid.pure hq.pure) hq.pool hW.ok (fun b hb hh => by have := (hq.o1 b hb).1; have := hS b hh; omega) (fun b hb => by have := hS b hb; have := hq.pure.size; omega)).mono ?_
  rintro _ w3 ⟨r3, r4, rfl, h34, F1', hP3, E3, hF3⟩
  have k3 : Kept Hl wl w3 := E3.kept (fun b hb h1 => (hq.o1 b h1).2.1 hb)
  refine ⟨_, _, rfl, k3, ?_⟩
  have hq3 := hq.of1 (fun b hb => hl.lt b hb) hP3 E3 hF3
  have hl3 := hl.again k3
  have hr3 : Row w3 a (trow (.mk xk xf xt xu xx xks) sx) := hq3.pure.row hrow (fun h => h)
  refine ⟨a, hat, _, _, _, _, _, sx, hr3, ?_⟩
  refine (c_ref05_Of (S := S) q (.mk xk xf xt xu xx xks) sx w3 (hkid.pure hq3.pure) hq3.ref hW.ok (fun b hb hh => by have := (hq3.o2 b hb).1; have := hS b hh; omega) (fun b hb => by have := hS b hb; have := hq3.pure.size; omega)).mono ?_
  rintro _ w4 ⟨r5, r6, rfl, h56, F2', hP4, E4, hF4⟩
  have k4 : Kept Hl w3 w4 := E4.kept (fun b hb h1 => (hq3.o2 b h1).2.1 hb)
  refine ⟨_, _, rfl, k4, ?_⟩
  have hq4 := hq3.of2 (fun b hb => hl3.lt b hb) hP4 E4 hF4
  have hl4 := hl3.again k4
  injection h34 with e3 e4
  injection h56 with e5 e6
  refine Br.f (by rw [e4, e6, e3, e5]; simp) ?_
  intro H1 w6 hs6
  have hq6 := hq4.hst hs6
  intro pa w8 h8
  have E8 : Pure w6 w8 := Ext.new h8
  have hq8 := hq6.pureE E8
  have hs8 := hs6.here.again E8.keptP
  obtain ⟨s1, w9, hr9, hR9, E9, hb9⟩ := hq8.ts.append (P := Try.prog) (ty := 26) (c := 1) slT_tm (r := [.int .i64 r5]) (Box.of_new h8).row rfl rfl (by simp [tmr]; omega) (by simp [tmr, maxLen]; omega)
  have k9 : Kept H1 w8 w9 := E9.kept (fun b hb h1 => (hq8.o3 b h1).2 hb)
  refine ⟨s1, w9, hr9, k9, ?_⟩
  have hq9 := hq8.of3 (fun b hb => hs8.lt b hb) (ids' := Q.2 ++ [r5]) (by simpa [tmr] using hR9) E9 hb9
  rw [wrap_succ hlt (by omega)]
  refine ⟨⟨j + 1, rfl, hlt, F1', F2', ?_⟩, lt_dec hlt⟩
  rw [hstep]
  unfold Sp.poolStep
  rw [← e5]
  exact hq9
 ·have hge := eq_of_dec len hj h
  subst hge
  rw [List.take_length] at hq
  exact hK _ _ _ _ _ _ _ hq
def _root_.Go.Sp.giveAll (L : Sp.Pool) (given : List Int) : List Int := given.foldl (Sp.giveT L) []
theorem c_law08_know {Sg : Nat → Prop} (p : Addr) (s : Sl) (given : List Int) (w0 : World) {L : Sp.Pool} {FP : Nat → Prop} (hP : PoolAt w0 p L FP) (hW : Sp.Wf L) (hs : Lst Sg w0 1 s (tmr given)) (hSg : ∀ b, Sg b → b < w0.heap.size) (hn : given.length ≤ 1000000) :
  Calls Try.prog 45 #[.pointer (some p), s.v] w0 (fun e w' => ∃ r : Option Addr, e = .returned (.pointer r) ∧ ∃ k S F, r = some k ∧ KnowAt w' k p (Sp.giveAll L given) S F ∧ Sp.KnowOk L (Sp.giveAll L given) S ∧ Pure w0 w' ∧ ∀ b, F b → w0.heap.size ≤ b) := by
 suffices key : ∀ K : Option Addr → World → Prop, (∀ k S F w', KnowAt w' k p (Sp.giveAll L given) S F → Sp.KnowOk L (Sp.giveAll L given) S → Pure w0 w' → (∀ b, F b → w0.heap.size ≤ b) → K (some k) w') → m_law08_know (some p) s w0 K from
  w_law08_know _ _ w0 _ (key _ (fun k S F w' a b c d => ⟨k, S, F, rfl, a, b, c, d⟩))
 intro K hK
 unfold m_law08_know
 refine (c_ded_New p w0).mono ?_
 rintro _ w1 ⟨_, rfl, k, F, rfl, hk1, E1, hF1⟩
 have hl : s.len = given.length := by rw [hs.len, tmr_len]
 refine ⟨_, rfl, fun i w' => ∃ j : Nat, i = j ∧ j ≤ given.length ∧ ∃ S F, KnowAt w' k p (Sp.giveAll L (given.take j)) S F ∧ Sp.KnowOk L (Sp.giveAll L (given.take j)) S ∧ Pure w0 w' ∧ ∀ b, F b → w0.heap.size ≤ b, fun i _ => ((given.length : Int) - i).toNat, ⟨0, rfl, Nat.zero_le _, [], F, hk1, Sp.KnowOk.nil L, E1, hF1⟩, ?_⟩
 rintro _ wl ⟨j, rfl, hj, S, F, hk, hok, E, hF⟩
 unfold m_law08_know_l1
 refine ⟨fun h => ?_, fun h => ?_⟩
 ·have hlt := lt_of_dec hl (by simpa using h)
  obtain ⟨a, hat, _, hc⟩ := tm_nth (hs.pure E) hlt
  have htk : given.take (j + 1) = given.take j ++ [given[j]] := List.take_succ_eq_append_getElem hlt
  have hg : Sp.giveAll L (given.take (j + 1)) = Sp.giveT L (Sp.giveAll L (given.take j)) given[j] := by rw [htk]; unfold Sp.giveAll; rw [List.foldl_append]; rfl
  refine ⟨a, hat, _, hc, ?_⟩
  refine (c_ded_Add k p given[j] wl hk (hP.pure E) hW (fun b hb hh => by have := hF b hb; have := hP.lt hh; omega) hok).mono ?_
  rintro _ w3 ⟨r2, rfl, _, S', F', hk', hok', X, f⟩
  refine ⟨_, rfl, ?_⟩
  rw [wrap_succ hlt (by omega)]
  refine ⟨⟨j + 1, rfl, hlt, S', F', by rw [hg]; exact hk', by rw [hg]; exact hok', E.trans' X (fun i hi hb => by have := hF i hb; omega), fun b hb => ?_⟩, lt_dec hlt⟩
  rcases f b hb with h1 | h1
  ·exact hF b h1
  ·have := E.size; omega
 ·have hge := eq_of_dec hl hj (by simpa using h)
  subst hge
  rw [List.take_length] at hk hok
  exact hK k S F wl hk hok E hF
end Go.Proofs
end
section
open Go Go.SE
namespace Go.Proofs
attribute [local irreducible] Calls
end Go.Proofs
end
section
open Go Go.SE
namespace Go.Proofs
attribute [local irreducible] Calls
structure KqAt (w0 : World) (H : Nat → Prop) (w : World) (p q k : Addr) (L : Sp.Pool) (G : List Int) (S : List Sp.Way) (FP FR F : Nat → Prop) : Prop where
 kn : KnAt w0 H w p k L G S FP F
 ref : PoolR w q L FR
 oR : ∀ b, FR b → ¬ H b
section
variable {w0 w w' : World} {H H' : Nat → Prop} {p q k : Addr} {L : Sp.Pool} {G : List Int} {S : List Sp.Way} {FP FR F : Nat → Prop}
theorem KqAt.pureE (h : KqAt w0 H w p q k L G S FP FR F) (E : Pure w w') : KqAt w0 H w' p q k L G S FP FR F := ⟨h.kn.pureE E, h.ref.pure E, h.oR⟩
theorem KqAt.hst (h : KqAt w0 H w p q k L G S FP FR F) (hs : Hst w0 H w H' w') : KqAt w0 H' w' p q k L G S FP FR F := by
 have x1 := hs.disj (G := FR) (fun b hb => ⟨h.ref.lt hb, h.oR b hb⟩)
 exact ⟨h.kn.hst hs, h.ref.ext hs.ext x1, x1⟩
theorem KqAt.start {w1 w2 w3 : World} {t : Sl} {ids : List Int} (hE : Pure w0 w1) (hs : Hst w0 H w1 H w1) (hq : Pl3 w1 None w2 p q L L t ids FP FR) (hk : KnowAt w3 k p G S F) (E : Pure w2 w3) (hF : ∀ b, F b → w2.heap.size ≤ b) : KqAt w0 H w3 p q k L G S FP FR F := by
 have z1 := hE.size; have z2 := hq.pure.size; have z3 := E.size
 refine ⟨⟨hq.pool.pure E, hk, (hE.trans hq.pure).trans E, fun b hb => ?_, fun b hb => ?_, (hs.again hq.pure.keptP).again E.keptP⟩, hq.ref.pure E, fun b hb hh => ?_⟩
 ·have := (hq.o1 b hb).1; exact ⟨by omega, fun hh => by have := hs.lt b hh; omega⟩
 ·have := hF b hb; exact ⟨by omega, fun hh => by have := hs.lt b hh; omega, fun hh => by have := hq.pool.lt hh; omega⟩
 ·have := (hq.o2 b hb).1; have := hs.lt b hh; omega
theorem PoolR.nodes (h : PoolR w q L FR) : ∃ s : Sl, w.cell? q = some s.v ∧ s.len = L.length := by
 obtain ⟨s1, s2, s3, h, _⟩ := h
 exact ⟨s1, h.box.cell0, by rw [h.r1.len]; simp⟩
end
theorem drv_unseen {L : Sp.Pool} {S : List Sp.Way} {t : Int} (hk : (Sp.nodeOf L t).kind = 6) : Sp.Drv L (fun x => x ∈ Sp.wkeys S) t ↔ t ∈ Sp.wkeys S := by
 constructor
 ·intro h
  rcases h.inv with h | h | ⟨h, _⟩ | ⟨h, _⟩ | ⟨h, _⟩
  ·exact h
  all_goals (rw [hk] at h; exact absurd h (by decide))
 ·exact .seen
theorem bool_iff {a b : Bool} (h : a = true ↔ b = true) : a = b := by cases a <;> cases b <;> simp_all
end Go.Proofs
end
section
open Go Go.SE
namespace Go.Sp
end Go.Sp
namespace Go.Proofs
attribute [local irreducible] Calls
theorem c_law08_DeduceClosed {S0 Sg : Nat → Prop} (ts : List Sp.Tree) (given : List Int) (sT sg : Sl) (w0 : World) (hT : TreeAt S0 w0 sT (.mk 0 0 0 0 ⟨#[]⟩ ts)) (hS : ∀ b, S0 b → b < w0.heap.size) (hg : Lst Sg w0 1 sg (tmr given)) (hSg : ∀ b, Sg b → b < w0.heap.size) :
  Calls Try.prog 11 #[sT.v, sg.v] w0 (fun e w' => ∃ r : Bool, e = .returned (.bool r) ∧ (r = true ∧ Pure w0 w')) := by
 refine w_law08_DeduceClosed _ _ w0 (fun r w' => r = true ∧ Pure w0 w') ?_
 unfold m_law08_DeduceClosed
 refine (c_law08_wide ts sT w0 hT hS).mono ?_
 rintro _ w1 ⟨r14, rfl, hwd, E1⟩
 refine ⟨_, rfl, E1.keptP, ?_⟩
 intro H w hs
 have Ew : Pure w0 w := E1.hst hs
 have lg : sg.len = given.length := by rw [hg.len, tmr_len]
 unfold m_law08_DeduceClosed_j1
 refine ⟨fun _ => ?_, fun h => ?_⟩
 ·refine (c_live8 w).mono ?_
  rintro _ w3 ⟨r1, rfl, hr1, E3⟩
  exact ⟨_, rfl, E3.keptP, hr1, Ew.trans E3⟩
 rw [Bool.or_eq_false_iff] at h
 obtain ⟨h1, h2⟩ := h
 have h2 := of_decide_eq_false h2
 obtain ⟨hn, hc⟩ := hwd h1
 refine (c_law08_pools ts sT w (hT.pure Ew) (fun b hb => by have := hS b hb; have := Ew.size; omega) hn).mono ?_
 rintro _ w2 ⟨_, _, r4, _, rfl, p, q, FP, FR, rfl, rfl, rfl, hq⟩
 obtain ⟨hW, _, _⟩ := Sp.poolAll_ok ts
 generalize (Sp.poolAll ts).1 = L at *
 have E02 := Ew.trans hq.pure
 refine ⟨_, _, _, _, rfl, hq.pure.keptP, Br.f rfl ?_⟩
 refine (c_law08_know p sg given w2 hq.pool hW (hg.pure E02) (fun b hb => by have := hSg b hb; have := E02.size; omega) (by omega)).mono ?_
 rintro _ w3 ⟨_, rfl, k, S, F, rfl, hk3, hok, E3, hF3⟩
 have A3 := KqAt.start Ew hs.here hq hk3 E3 hF3
 have hcl : ∀ r u t, u ∈ Sp.wkeys S → Sp.Arises L r u t → t ∈ Sp.wkeys S := fun r u t hu ha => hok.closed u hu r t ha
 refine ⟨_, rfl, E3.keptP, Br.f rfl ?_⟩
 refine ⟨fun t H w' => ∃ j : Nat, t = (j : Int) + 1 ∧ j ≤ L.length ∧ KqAt w0 H w' p q k L (Sp.giveAll L given) S FP FR F, fun t _ => ((L.length : Int) + 1 - t).toNat, ⟨0, by simp, Nat.zero_le _, A3⟩, ?_⟩
 rintro _ Hl wl hl ⟨j, rfl, hj, A⟩
 have hL := hW.ok.few
 unfold m_law08_DeduceClosed_l2
 obtain ⟨v1, hv1, hv1l⟩ := A.ref.nodes
 refine ⟨q, rfl, v1, hv1, fun hc => ?_, fun _ => ?_⟩
 ·have hc := of_decide_eq_true hc
  have hlt : j < L.length := by omega
  have hin : Sp.inP L ((j : Int) + 1) = true := Sp.inP_iff.2 ⟨by omega, by omega⟩
  have hwr : IntKind.i64.wrap ((j : Int) + 1 + 1) = ((j + 1 : Nat) : Int) + 1 := by rw [IntWalk.i64_in _ (by omega)]; omega
  have hmu : ∀ x : Int, x = ((j + 1 : Nat) : Int) + 1 → ((L.length : Int) + 1 - x).toNat < ((L.length : Int) + 1 - ((j : Int) + 1)).toNat := fun x e => by subst e; omega
  generalize ht : (j : Int) + 1 = t at *
  have next : ∀ {H : Nat → Prop} {w : World}, KqAt w0 H w p q k L (Sp.giveAll L given) S FP FR F → (∃ j : Nat, IntKind.i64.wrap (t + 1) = (j : Int) + 1 ∧ j ≤ L.length ∧ KqAt w0 H w p q k L (Sp.giveAll L given) S FP FR F) ∧ ((L.length : Int) + 1 - IntKind.i64.wrap (t + 1)).toNat < ((L.length : Int) + 1 - t).toNat := fun A => ⟨⟨j + 1, hwr, hlt, A⟩, hmu _ hwr⟩
  have drv : ∀ {H : Nat → Prop} {w : World} (x : Int), KqAt w0 H w p q k L (Sp.giveAll L given) S FP FR F → Calls Try.prog 46 #[.pointer (some k), .int .i64 x] w (fun e w' => ∃ r : Bool, e = .returned (.bool r) ∧ ((r = true ↔ Sp.Drv L (fun x => x ∈ Sp.wkeys S) x) ∧ Pure w w')) := fun x A => c_ded_Derives k p x _ hW hok A.kn.know A.kn.pool
  refine (c_ref05_Node q t wl A.ref hW.ok).mono ?_
  rintro _ w4 ⟨nk, nf, nt, nu, nx, na, nb, ok, rfl, ⟨hnn, _⟩, E4⟩
  have A4 := A.pureE E4
  refine ⟨_, _, _, _, _, _, _, _, rfl, E4.keptP, ?_⟩
  intro H1 w6 hs6
  have A6 := A4.hst hs6
  have hk1 : (Sp.nodeOf L t).kind = nk := by rw [← hnn]
  have hfr : (Sp.nodeOf L t).frm = nf := by rw [← hnn]
  have hto : (Sp.nodeOf L t).to = nt := by rw [← hnn]
  have ha : (Sp.nodeOf L t).a = na := by rw [← hnn]
  have hb : (Sp.nodeOf L t).b = nb := by rw [← hnn]
  refine (drv t A6).mono ?_
  rintro _ w7 ⟨r8, rfl, hd8, E7⟩
  have A7 := A6.pureE E7
  refine ⟨_, rfl, E7.keptP, ?_⟩
  refine (c_ded_Sees k p t w7 A7.kn.know).mono ?_
  rintro _ w8 ⟨r9, rfl, hr9, E8⟩
  have A8 := A7.pureE E8
  refine ⟨_, rfl, E8.keptP, ?_⟩
  intro H2 w9 hs9
  have A9 := A8.hst hs9
  have hwho : (cond ((nk : Int) == 9) nt nf) = Sp.whoOf (Sp.nodeOf L t) := by
   unfold Sp.whoOf; rw [hk1, hfr, hto]
   by_cases h9 : nk = 9
   ·subst h9; simp
   ·rw [if_neg h9, show (nk == 9) = false from by simpa using h9]; rfl
  rw [hwho]
  have e9 : r9 = true ↔ t ∈ Sp.wkeys S := by rw [hr9]; simp
  have h98 : r9 = true → r8 = true := fun h => hd8.2 (.seen (e9.1 h))
  refine (c_ref05_Has q (Sp.keyNode (Sp.whoOf (Sp.nodeOf L t))) w9 A9.ref hW.ok).mono ?_
  rintro _ w10 ⟨r10, r11, rfl, hr, E10⟩
  have A10 := A9.pureE E10
  refine ⟨_, _, rfl, E10.keptP, ?_⟩
  have hke : Sp.keyOf L (Sp.whoOf (Sp.nodeOf L t)) = (r10, r11) := by
   unfold Sp.keyOf
   cases hf : Sp.find L (Sp.keyNode (Sp.whoOf (Sp.nodeOf L t))) with
   | none => rw [hf] at hr; simp only at hr; rw [hr.1, hr.2]
   | some i => rw [hf] at hr; simp only at hr; rw [hr.1, hr.2]
  rintro y1 rfl
  have hy : (cond ((nk : Int) == 1) ((nk : Int) == 1) (cond ((nk : Int) == 2) ((nk : Int) == 2) ((nk : Int) == 3))) = Sp.freeK nk := by
   unfold Sp.freeK; cases (nk == 1) <;> cases (nk == 2) <;> simp
  rw [hy]
  refine ⟨fun hf => ?_, fun hf => ⟨fun k4 => ?_, fun k4 => ⟨fun k5 => ?_, fun k5 => ?_⟩⟩⟩
  ·have h8 : r8 = true := hd8.2 (.free (by rw [hk1]; exact hf))
   refine Br.f (by rw [h8]; rfl) ?_
   intro H3 w11 hs11
   exact next (A10.hst hs11)
  ·have k4 : nk = 4 := by simpa using k4
   have hab : Sp.Drv L (fun x => x ∈ Sp.wkeys S) t → Sp.Drv L (fun x => x ∈ Sp.wkeys S) na ∧ Sp.Drv L (fun x => x ∈ Sp.wkeys S) nb := fun hd => ⟨hd.shown hcl (.inl ⟨rfl, by rw [hk1]; exact k4, ha⟩), hd.shown hcl (.inr (.inl ⟨rfl, by rw [hk1]; exact k4, hb⟩))⟩
   have J3 : ∀ (made : Bool) (H : Nat → Prop) (w : World), KqAt w0 H w p q k L (Sp.giveAll L given) S FP FR F → made = r8 → m_law08_DeduceClosed_j3 (some k) t na nb r8 made H w (fun y'0 H' w' => (∃ j : Nat, y'0 = (j : Int) + 1 ∧ j ≤ L.length ∧ KqAt w0 H' w' p q k L (Sp.giveAll L given) S FP FR F) ∧ ((L.length : Int) + 1 - y'0).toNat < ((L.length : Int) + 1 - t).toNat) (fun r w' => r = true ∧ Pure w0 w') := by
    rintro _ H w A rfl
    unfold m_law08_DeduceClosed_j3
    refine ⟨fun h8 => ?_, fun h8 => Br.f (by simp) (next A)⟩
    obtain ⟨da, db⟩ := hab (hd8.1 h8)
    refine (drv na A).mono ?_
    rintro _ w12 ⟨r12, rfl, hd12, E12⟩
    refine ⟨_, rfl, E12.keptP, Br.f (by rw [hd12.2 da]; rfl) ?_⟩
    refine (drv nb (A.pureE E12)).mono ?_
    rintro _ w13 ⟨r13, rfl, hd13, E13⟩
    exact ⟨_, rfl, E13.keptP, Br.f (by rw [hd13.2 db]; rfl) (Br.f (by simp) (next ((A.pureE E12).pureE E13)))⟩
   refine ⟨fun h9 => ?_, fun h9 => ?_⟩
   ·intro H3 w11 hs11
    exact J3 true H3 w11 (A10.hst hs11) (h98 h9).symm
   ·intro H3 w11 hs11
    have A11 := A10.hst hs11
    have inv : Sp.Drv L (fun x => x ∈ Sp.wkeys S) t ↔ Sp.Drv L (fun x => x ∈ Sp.wkeys S) na ∧ Sp.Drv L (fun x => x ∈ Sp.wkeys S) nb :=
     ⟨hab, fun h => .pair (by rw [hk1]; exact k4) (by rw [ha]; exact h.1) (by rw [hb]; exact h.2)⟩
    refine (drv na A11).mono ?_
    rintro _ w14 ⟨r14, rfl, hd14, E14⟩
    have A14 := A11.pureE E14
    refine ⟨_, rfl, E14.keptP, fun h => ?_, fun h => ?_⟩
    ·refine (drv nb A14).mono ?_
     rintro _ w15 ⟨r15, rfl, hd15, E15⟩
     refine ⟨_, rfl, E15.keptP, J3 r15 H3 w15 (A14.pureE E15) (bool_iff ?_)⟩
     rw [hd15, hd8, inv]; exact ⟨fun h' => ⟨hd14.1 h, h'⟩, fun h' => h'.2⟩
    ·refine J3 false H3 w14 A14 (bool_iff ?_)
     rw [hd8, inv]
     exact ⟨(fun h' => by cases h'), fun h' => by have := hd14.2 h'.1; rw [h] at this; cases this⟩
  ·have k4 : ¬ nk = 4 := by simpa using k4
   have k5 : nk = 5 := by simpa using k5
   refine ⟨fun h9 => ?_, fun h9 => ?_⟩
   ·refine Br.f (by rw [h98 h9]; rfl) ?_
    intro H3 w11 hs11
    exact next (A10.hst hs11)
   ·intro H3 w11 hs11
    have A11 := A10.hst hs11
    refine (drv na A11).mono ?_
    rintro _ w16 ⟨r16, rfl, hd16, E16⟩
    have e : r8 = r16 := bool_iff (by
     rw [hd8, hd16]
     constructor
     ·intro hd
      rcases hd.inv with h | h | ⟨h, _⟩ | ⟨_, h⟩ | ⟨h, _⟩
      ·have := e9.2 h; rw [h9] at this; cases this
      ·rw [hk1, hf] at h; cases h
      ·rw [hk1] at h; exact absurd h k4
      ·rw [ha] at h; exact h
      ·rw [hk1, k5] at h; exact absurd h (by decide)
     ·intro h; exact .hash (by rw [hk1]; exact k5) (by rw [ha]; exact h))
    exact ⟨_, rfl, E16.keptP, Br.f (by rw [e]; simp) (next (A11.pureE E16))⟩
  ·have k4 : ¬ nk = 4 := by simpa using k4
   have k5 : ¬ nk = 5 := by simpa using k5
   rintro y2 rfl
   have hy : (cond ((nk : Int) == 7) ((nk : Int) == 7) (cond ((nk : Int) == 8) ((nk : Int) == 8) ((nk : Int) == 9))) = Sp.showsK nk := by
    unfold Sp.showsK; cases (nk == 7) <;> cases (nk == 8) <;> simp
   rw [hy]
   refine ⟨fun h7 => ?_, fun h7 => ?_⟩
   ·have hsh : Sp.Drv L (fun x => x ∈ Sp.wkeys S) t → Sp.Drv L (fun x => x ∈ Sp.wkeys S) na := fun hd => hd.shown hcl (.inr (.inr ⟨rfl, by rw [hk1]; exact h7, ha⟩))
    have J4 : ∀ (made : Bool) (H : Nat → Prop) (w : World), KqAt w0 H w p q k L (Sp.giveAll L given) S FP FR F → made = r8 → m_law08_DeduceClosed_j4 (some k) t na r8 made H w (fun y'0 H' w' => (∃ j : Nat, y'0 = (j : Int) + 1 ∧ j ≤ L.length ∧ KqAt w0 H' w' p q k L (Sp.giveAll L given) S FP FR F) ∧ ((L.length : Int) + 1 - y'0).toNat < ((L.length : Int) + 1 - t).toNat) (fun r w' => r = true ∧ Pure w0 w') := by
     rintro _ H w A rfl
     unfold m_law08_DeduceClosed_j4
     refine ⟨fun h8 => ?_, fun h8 => Br.f (by simp) (next A)⟩
     refine (drv na A).mono ?_
     rintro _ w18 ⟨r17, rfl, hd17, E18⟩
     exact ⟨_, rfl, E18.keptP, Br.f (by rw [hd17.2 (hsh (hd8.1 h8))]; rfl) (Br.f (by simp) (next (A.pureE E18)))⟩
    refine ⟨fun h9 => ?_, fun h9 => ?_⟩
    ·intro H4 w17 hs17
     exact J4 true H4 w17 (A10.hst hs17) (h98 h9).symm
    ·intro H4 w17 hs17
     have A17 := A10.hst hs17
     have inv : Sp.Drv L (fun x => x ∈ Sp.wkeys S) t ↔ Sp.Drv L (fun x => x ∈ Sp.wkeys S) na ∧ r11 = true ∧ r10 ∈ Sp.wkeys S := by
      constructor
      ·intro hd
       obtain ⟨x4, x5, _, xf⟩ := Sp.shows_ne h7
       rcases hd.inv with h | h | ⟨h, _⟩ | ⟨h, _⟩ | ⟨_, h1, h2, h3⟩
       ·have := e9.2 h; rw [h9] at this; cases this
       ·rw [hk1, xf] at h; cases h
       ·rw [hk1] at h; exact absurd h x4
       ·rw [hk1] at h; exact absurd h x5
       ·rw [ha] at h1; rw [hke] at h2 h3; exact ⟨h1, h2, h3⟩
      ·rintro ⟨h1, h2, h3⟩
       exact .signed (by rw [hk1]; exact h7) (by rw [ha]; exact h1) (by rw [hke]; exact h2) (by rw [hke]; exact h3)
     refine (drv na A17).mono ?_
     rintro _ w19 ⟨r18, rfl, hd18, E19⟩
     have A19 := A17.pureE E19
     refine ⟨_, rfl, E19.keptP, fun h => ?_, fun h => ?_⟩
     ·rw [Bool.and_eq_true] at h
      intro H5 w20 hs20
      have A20 := A19.hst hs20
      refine (drv r10 A20).mono ?_
      rintro _ w21 ⟨r19, rfl, hd19, E21⟩
      refine ⟨_, rfl, E21.keptP, J4 r19 H5 w21 (A20.pureE E21) (bool_iff ?_)⟩
      have hkn := Sp.keyOf_ok (L := L) (n := Sp.whoOf (Sp.nodeOf L t)) (by rw [hke]; exact h.2)
      rw [hke] at hkn
      have hk6 : (Sp.nodeOf L r10).kind = 6 := by have := hkn.2.1; simp only at this; rw [this]; rfl
      rw [hd19, hd8, inv, drv_unseen hk6]
      exact ⟨fun h' => ⟨hd18.1 h.1, h.2, h'⟩, fun h' => h'.2.2⟩
     ·intro H5 w20 hs20
      refine J4 false H5 w20 (A19.hst hs20) (bool_iff ?_)
      rw [hd8, inv]
      refine ⟨(fun h' => by cases h'), fun h' => ?_⟩
      rw [hd18.2 h'.1, h'.2.1] at h; cases h
   ·have e : r8 = r9 := bool_iff (by
     rw [hd8, e9]
     refine ⟨fun hd => ?_, .seen⟩
     rcases hd.inv with h | h | ⟨h, _⟩ | ⟨h, _⟩ | ⟨h, _⟩
     ·exact h
     ·rw [hk1, hf] at h; cases h
     ·rw [hk1] at h; exact absurd h k4
     ·rw [hk1] at h; exact absurd h k5
     ·rw [hk1, h7] at h; cases h)
    refine Br.f (by rw [e]; simp) ?_
    intro H4 w17 hs17
    exact next (A10.hst hs17)
 ·refine (c_live8 wl).mono ?_
  rintro _ w24 ⟨r13, rfl, hr13, E24⟩
  exact ⟨_, rfl, E24.keptP, hr13, A.kn.pure.trans E24⟩
end Go.Proofs
end
section
namespace Go.SE
open Go.ChangeShapes Go.WideShapes Go.ChangeAt Go.RowKit
section
variable {H : Type} {enc : TypeId × Value → H} {P : Program}
theorem below_trodAll (hl : laidOutB P = true) {W W' : World} (hb : Below W.heap.size W W') : ∀ (ts : List TypeId) (vs : List Value) (ds : List (DataW H)) (ps : List MemPlace), (ts.all fun t => P.readableRec t && decide (t < P.types.size)) = true →
  DataW.TrodAll enc P W 0 (fun _ => true) true ts vs ds ps → (∀ x ∈ ps, x.block < W.heap.size) → DataW.TrodAll enc P W' 0 (fun b => decide (b < W.heap.size)) true ts vs ds ps
 | [], _, _, _, _, h, _ => by
  obtain ⟨rfl, rfl, rfl⟩ := trodAll_nil h
  exact h
 | t :: ts, _, _, _, hr, h, hlt => by
  obtain ⟨v, vs1, d, ds1, a, b, rfl, rfl, rfl, h1, h2⟩ := trodAll_cons h
  simp only [List.all_cons, Bool.and_eq_true, decide_eq_true_eq] at hr
  exact ⟨a, b, Below.trod hl hr.1.1 hr.1.2 h1 hb (fun x hx => hlt x (by simp [hx])), below_trodAll hl hb ts vs1 ds1 b (by simpa using hr.2) h2 (fun x hx => hlt x (by simp [hx])), rfl⟩
theorem law_post {f : Func} {s : ChangeSpec} {W W' : World} {args : Array Value} {ds gs : List (DataW H)} {before : List MemPlace} {t : TypeId} (hl : laidOutB P = true)
  (hv : s.vars = []) (hf : ∀ ds : List (DataW H), ds.length = f.params.size → s.fn H ds = { results := [.lit (.bool true)], args := ds }) (hrt : f.resultTypes = #[t]) (ht : P.underlying t = some .bool)
  (hr : (f.params.toList.all fun t => P.readableRec t && decide (t < P.types.size)) = true)
  (hW : DataW.Whole enc P f.params.toList s.vars false W args.toList ds gs before) (E : Pure W W') :
  s.post enc P f false true false false W args (.bool true) W' := by
 have hW' := hW
 obtain ⟨p, q, hA, hV, rfl, hfz, hnd⟩ := hW
 rw [hv] at hV
 obtain ⟨rfl, rfl⟩ := trodVars_none hV
 have hlen : ds.length = f.params.size := by
  have : ∀ (ts : List TypeId) (vs : List Value) (ds : List (DataW H)) (ps : List MemPlace), DataW.TrodAll enc P W 0 (fun _ => true) true ts vs ds ps → ds.length = ts.length := by
   intro ts
   induction ts with
   | nil => intro vs ds ps h; obtain ⟨_, rfl, _⟩ := trodAll_nil h; rfl
   | cons t ts ih =>
    intro vs ds ps h
    obtain ⟨v, vs1, d, ds1, a, b, _, rfl, _, _, h2⟩ := trodAll_cons h
    simp [ih _ _ _ h2]
  simpa using this _ _ _ _ hA
 have hfn := hf ds hlen
 have hfn' : s.fn H (ds ++ []) = { results := [.lit (.bool true)], args := ds } := by rw [List.append_nil]; exact hfn
 have hlt : ∀ x ∈ p, x.block < W.heap.size := fun x hx => by simpa using hW'.lt x (by simp [hx])
 have bel := E.below
 refine ⟨ds, [], p ++ [], [], p, [], hW', ?_, ?_, ?_, bel.frame _, fun h => by cases h⟩
 ·rw [hfn', hrt]; exact trodAll_mk1 (shut_bool ht _)
 ·rw [hfn']; exact below_trodAll hl bel _ _ _ _ hr hA hlt
 ·rw [hfn', hv]; exact hV
theorem law_lifted {C : Checked} {os : Os} {f : FuncId} {fn : Func} {s : ChangeSpec} {t : TypeId} (hl : laidOutB C.prog = true)
  (hv : s.vars = []) (hf : ∀ ds : List (DataW H), ds.length = fn.params.size → s.fn H ds = { results := [.lit (.bool true)], args := ds }) (hrt : fn.resultTypes = #[t]) (ht : C.prog.underlying t = some .bool)
  (hr : (fn.params.toList.all fun t => C.prog.readableRec t && decide (t < C.prog.types.size)) = true)
  (own : ownKnob C.prog.godebug = none) (started : os.Started) (noInit : C.prog.inits.idxOf? f = none) (hfn : C.prog.funcs[f]? = some fn)
  (witness : ∃ (w : World) (tape : Tape) (i : Input), w.os = os ∧ (w.forCall tape i).Shaped C.prog ∧ i.vars = [] ∧ Input.okWide C.prog (w.forCall tape i) .any w.heap.size f i ∧
   s.pre6 enc C.prog fn [] false (w.forCall tape i).memory i.args ∧ ({} : Assume).holds C.prog (lone (Frame.enter C.prog f i.args .normal) [] (w.forCall tape i)))
  (contract : ∀ (W : World) (base : Nat) (args : Array Value) (ds : List (DataW H)) (p : List MemPlace),
   (∀ (j : Nat) t v, fn.params[j]? = some t → args[j]? = some v → Value.okWide C.prog W .any base t v) →
   DataW.TrodAll enc C.prog W 0 (fun _ => true) true fn.params.toList args.toList ds p → (∀ x ∈ p, x.block < W.heap.size) →
   Calls C.prog f args W (fun e W' => ∃ r : Bool, e = .returned (.bool r) ∧ (r = true ∧ Pure W W'))) :
  ReturnsInHanded {} C os f .any (s.pre6 enc C.prog fn [] false) (s.post enc C.prog fn false true false false) := by
 refine returnsInHanded_of_change own started noInit hfn witness ?_
 intro W base args ds gs before hval hW _ _
 have hW' := hW
 obtain ⟨p, q, hA, hV, rfl, hfz, hnd⟩ := hW
 refine (contract W base args ds p hval hA (fun x hx => by simpa using hW'.lt x (by simp [hx]))).mono fun e W' ⟨r, he, h1, h2⟩ => ?_
 subst h1
 exact ⟨_, he, law_post hl hv hf hrt ht hr hW' h2⟩
end
end Go.SE
namespace Go.SE
open Go.ChangeShapes Go.WideShapes Go.ChangeAt Go.RowKit
section
variable {P : Program} {W : World} {r : Reach} {b0 : Nat} {t : TypeId} {v : Value}
theorem okWide_sl {e : TypeId} (ht : P.underlying t = some (.slice e)) (h : Value.okWide P W r b0 t v) : ∃ a n c, v = .slice a n c := by
 unfold Value.okWide at h
 rw [ht] at h
 simp only at h
 unfold Cell.okWide at h
 rw [ht] at h
 cases v <;> simp [Cell.ok, ht] at h
 exact ⟨_, _, _, rfl⟩
end
end Go.SE
end
section
open Go Go.SE
namespace Go.Proofs
theorem mapM_facts {α β : Type} {f : α → Option β} : ∀ {l : List α} {r : List β}, l.mapM f = some r → r.length = l.length ∧ ∀ (i : Nat) (a : α), l[i]? = some a → ∃ b, f a = some b ∧ r[i]? = some b
 | [], r, h => by
  have : r = [] := by simpa using h.symm
  subst this
  exact ⟨rfl, fun i a h => by simp at h⟩
 | x :: xs, r, h => by
  rw [List.mapM_cons] at h
  cases hx : f x with
  | none => simp [hx] at h
  | some y =>
   cases hxs : xs.mapM f with
   | none => simp [hx, hxs] at h
   | some ys =>
    have : r = y :: ys := by simpa [hx, hxs] using h.symm
    subst this
    obtain ⟨h1, h2⟩ := mapM_facts hxs
    refine ⟨by simp [h1], fun i a ha => ?_⟩
    cases i with
    | zero => cases ha; exact ⟨y, hx, rfl⟩
    | succ i => exact h2 i a (by simpa using ha)
theorem cells_row {w : World} {base : Nat} {a : Addr} {n : Nat} {cs : List Value} (h : w.cells? base a n = some cs) : cs.length = n ∧ Row w a cs := by
 obtain ⟨_, h1, h2⟩ := World.cells?_some h
 exact ⟨h1, fun j hj => h2 j (by omega)⟩
section
variable {H : Type} {enc : TypeId × Value → H} {P : Program} {W : World} {base : Nat} {sp : Nat → Bool} {held : Bool}
theorem trod_int1 {t : TypeId} {k : IntKind} (ht : P.underlying t = some (.int k)) {n : Nat} {c : Value} {x : DataW H × List MemPlace} (h : DataW.trod enc P W base sp held n t [c] = some x) : ∃ m, c = .int k m := by
 cases n with
 | zero => cases h
 | succ n =>
  rw [DataW.trod_step] at h
  unfold DataW.trodStep at h
  rw [ht] at h
  cases c <;> simp at h
  obtain ⟨⟨rfl, _⟩, _⟩ := h
  exact ⟨_, rfl⟩
theorem trod_str1 {t : TypeId} (ht : P.underlying t = some .string) {n : Nat} {c : Value} {x : DataW H × List MemPlace} (h : DataW.trod enc P W base sp held n t [c] = some x) : ∃ m, c = .string m := by
 cases n with
 | zero => cases h
 | succ n =>
  rw [DataW.trod_step] at h
  unfold DataW.trodStep at h
  rw [ht] at h
  cases c <;> simp at h
  exact ⟨_, rfl⟩
theorem trod_slice1 {t e : TypeId} (ht : P.underlying t = some (.slice e)) {n : Nat} {c : Value} {x : DataW H × List MemPlace} (h : DataW.trod enc P W base sp held (n + 1) t [c] = some x) :
  c = .slice none 0 0 ∨ ∃ a len cap, c = .slice (some a) len cap ∧ len ≤ cap ∧ cap ≤ maxLen ∧ ∀ i, i < len → ∃ cs y, W.cells? base (a.add (i * P.cellsOf e)) (P.cellsOf e) = some cs ∧ DataW.trod enc P W base sp held n e cs = some y := by
 rw [DataW.trod_step] at h
 unfold DataW.trodStep at h
 rw [ht] at h
 cases c with
 | slice a len cap =>
  cases a with
  | none =>
   cases len with
   | zero => cases cap with
    | zero => exact .inl rfl
    | succ c => simp at h
   | succ l => simp at h
  | some a =>
   right
   simp only at h
   split at h
   ·rename_i hc
    refine ⟨a, len, cap, rfl, hc.2.1, hc.2.2, fun i hi => ?_⟩
    cases hm : (List.range len).mapM fun i => (W.cells? base (a.add (i * P.cellsOf e)) (P.cellsOf e)).bind (DataW.trod enc P W base sp held n e) with
    | none => rw [hm] at h; cases h
    | some r =>
     obtain ⟨b, hb, _⟩ := (mapM_facts hm).2 i i (by simp [hi])
     obtain ⟨cs, h1, h2⟩ := Option.bind_eq_some_iff.1 hb
     exact ⟨cs, b, h1, h2⟩
   ·cases h
 | _ => simp at h
structure TreeTypes (P : Program) (tS tT : TypeId) : Prop where
 ex : ∃ ti tu ts : TypeId, ∃ f0 f1 f2 f3 f4 f5 : Field, P.underlying tS = some (.slice tT) ∧ P.underlying tT = some (.struct #[f0, f1, f2, f3, f4, f5]) ∧ P.cellsOf tT = 6 ∧
  (f0.type = ti ∧ f1.type = ti ∧ f2.type = ti ∧ f3.type = tu ∧ f4.type = ts ∧ f5.type = tS) ∧ (f0.offset = 0 ∧ f1.offset = 1 ∧ f2.offset = 2 ∧ f3.offset = 3 ∧ f4.offset = 4 ∧ f5.offset = 5) ∧
  P.underlying ti = some (.int .i64) ∧ P.underlying tu = some (.int .u64) ∧ P.underlying ts = some .string ∧ P.cellsOf ti = 1 ∧ P.cellsOf tu = 1 ∧ P.cellsOf ts = 1 ∧ P.cellsOf tS = 1
theorem trod_tree {tS tT : TypeId} (hTT : TreeTypes P tS tT) : ∀ n : Nat,
  (∀ (c : Value) (x : DataW H × List MemPlace), DataW.trod enc P W base sp held n tS [c] = some x → ∃ s : Sl, ∃ ts : List Sp.Tree, c = s.v ∧ ∀ (k f t u : Int) (tx : ByteArray), TreeAt (fun _ => True) W s (.mk k f t u tx ts)) ∧
  (∀ (cs : List Value) (x : DataW H × List MemPlace), DataW.trod enc P W base sp held n tT cs = some x → ∃ t s, cs = trow t s ∧ TreeAt (fun _ => True) W s t) := by
 obtain ⟨ti, tu, tx, f0, f1, f2, f3, f4, f5, hS, hT, hc6, ⟨e0, e1, e2, e3, e4, e5⟩, ⟨o0, o1, o2, o3, o4, o5⟩, ui, uu, us, ci, cu, cs1, cS⟩ := hTT.ex
 intro n
 induction n with
 | zero => exact ⟨fun c x h => (by cases h), fun cs x h => (by cases h)⟩
 | succ n ih =>
  refine ⟨fun c x h => ?_, fun cs x h => ?_⟩
  ·rcases trod_slice1 hS h with rfl | ⟨a, len, cap, rfl, hle, hcm, hel⟩
   ·exact ⟨Sl.nil, [], rfl, fun k f t u tx => .mk k f t u tx [] Sl.nil (fun _ => Sl.nil) rfl (by simp) (fun i h => by simp at h) (fun i h => by simp at h)⟩
   ·rw [hc6] at hel
    have hex : ∀ i, ∃ q : Sp.Tree × Sl, i < len → Row W (a.add (i * 6)) (trow q.1 q.2) ∧ TreeAt (fun _ => True) W q.2 q.1 := by
     intro i
     by_cases hi : i < len
     ·obtain ⟨cs, y, h1, h2⟩ := hel i hi
      obtain ⟨tr, s, e, hTr⟩ := ih.2 cs y h2
      exact ⟨(tr, s), fun _ => ⟨e ▸ (cells_row h1).2, hTr⟩⟩
     ·exact ⟨(Sp.Tree.mk 0 0 0 0 ⟨#[]⟩ [], Sl.nil), fun h => absurd h hi⟩
    obtain ⟨q, hq⟩ := Classical.axiomOfChoice hex
    refine ⟨⟨some a, len, cap⟩, (List.range len).map fun i => (q i).1, rfl, fun k f t u tx => .mk k f t u tx _ _ (fun i => (q i).2) (by simp) (by simp only [maxLen] at hcm; simp; omega) (fun i h => ?_) (fun i h => ?_)⟩
    ·have hi : i < len := by simpa using h
     refine ⟨a.add (i * 6), ⟨by omega, by simpa using hi, a, rfl, by simp⟩, trivial, ?_⟩
     simpa using (hq i hi).1
    ·have hi : i < len := by simpa using h
     simpa using (hq i hi).2
  ·rw [DataW.trod_step] at h
   unfold DataW.trodStep at h
   rw [hT] at h
   simp only at h
   split at h
   ·rename_i hl
    rw [hc6] at hl
    match cs, hl with
    | [c0, c1, c2, c3, c4, c5], _ =>
     cases hm : ([f0, f1, f2, f3, f4, f5] : List Field).mapM (fun f => DataW.trod enc P W base sp held n f.type ((([c0, c1, c2, c3, c4, c5] : List Value).drop f.offset).take (P.cellsOf f.type))) with
     | none => rw [hm] at h; cases h
     | some r =>
      have hf := (mapM_facts hm).2
      obtain ⟨_, h0, _⟩ := hf 0 f0 rfl
      obtain ⟨_, h1, _⟩ := hf 1 f1 rfl
      obtain ⟨_, h2, _⟩ := hf 2 f2 rfl
      obtain ⟨_, h3, _⟩ := hf 3 f3 rfl
      obtain ⟨_, h4, _⟩ := hf 4 f4 rfl
      obtain ⟨_, h5, _⟩ := hf 5 f5 rfl
      rw [e0, o0, ci] at h0; rw [e1, o1, ci] at h1; rw [e2, o2, ci] at h2; rw [e3, o3, cu] at h3; rw [e4, o4, cs1] at h4; rw [e5, o5, cS] at h5
      obtain ⟨m0, rfl⟩ := trod_int1 ui h0
      obtain ⟨m1, rfl⟩ := trod_int1 ui h1
      obtain ⟨m2, rfl⟩ := trod_int1 ui h2
      obtain ⟨m3, rfl⟩ := trod_int1 uu h3
      obtain ⟨m4, rfl⟩ := trod_str1 us h4
      obtain ⟨s, ts, rfl, hTr⟩ := ih.1 c5 _ h5
      exact ⟨.mk m0 m1 m2 m3 m4 ts, s, rfl, hTr m0 m1 m2 m3 m4⟩
   ·cases h
theorem trees_of_trod {tS tT : TypeId} (hTT : TreeTypes P tS tT) {v : Value} {d : DataW H} {ps : List MemPlace} (h : DataW.Trod enc P W base sp held tS v d ps) (hv : ∃ a n c, v = .slice a n c) :
  ∃ s : Sl, ∃ ts : List Sp.Tree, v = s.v ∧ TreeAt (fun b => b < W.heap.size) W s (.mk 0 0 0 0 ⟨#[]⟩ ts) := by
 obtain ⟨n, h⟩ := h
 obtain ⟨a, m, c, rfl⟩ := hv
 obtain ⟨s, ts, e, hT⟩ := (trod_tree hTT n).1 _ _ h
 exact ⟨s, ts, e, (hT 0 0 0 0 ⟨#[]⟩).lt.mono (fun b hb => hb.2)⟩
end
theorem treeTypes : TreeTypes Try.prog 22 116 :=
 ⟨3, 38, 9, _, _, _, _, _, _, Try.underlying22, Try.underlying116, by kernel_rfl, ⟨rfl, rfl, rfl, rfl, rfl, rfl⟩, ⟨rfl, rfl, rfl, rfl, rfl, rfl⟩, Try.underlying3, Try.underlying38, Try.underlying9, by kernel_rfl, by kernel_rfl, by kernel_rfl, by kernel_rfl⟩
end Go.Proofs
end
section
open Go Go.SE
namespace Go.Proofs
section
variable {H : Type} {enc : TypeId × Value → H} {P : Program} {W : World} {base : Nat} {sp : Nat → Bool} {held : Bool}
theorem row_lt {a : Addr} {v : Value} {vs : List Value} (h : Row W a (v :: vs)) : a.block < W.heap.size := by
 have := h 0 (by simp)
 have := World.block_lt_of_cell? W (a.add 0) this
 rwa [add_block] at this
theorem list_of_trod {α : Type} {tS e : TypeId} {sz : Nat} {f : α → List Value} (hS : P.underlying tS = some (.slice e)) (hc : P.cellsOf e = sz) (hf : ∀ a, ∃ v vs, f a = v :: vs) (x0 : α)
  (hel : ∀ (n : Nat) (cs : List Value) (x : DataW H × List MemPlace), DataW.trod enc P W base sp held n e cs = some x → ∃ a, cs = f a) {n : Nat} {c : Value} {x : DataW H × List MemPlace} (h : DataW.trod enc P W base sp held n tS [c] = some x) :
  ∃ s : Sl, ∃ xs : List α, c = s.v ∧ Lst (fun b => b < W.heap.size) W sz s (xs.map f) := by
 cases n with
 | zero => cases h
 | succ n =>
  rcases trod_slice1 hS h with rfl | ⟨a, len, cap, rfl, hle, hcm, hall⟩
  ·exact ⟨Sl.nil, [], rfl, ⟨rfl, fun i hi => by simp at hi⟩⟩
  ·rw [hc] at hall
   have hex : ∀ i, ∃ q : α, i < len → Row W (a.add (i * sz)) (f q) := by
    intro i
    by_cases hi : i < len
    ·obtain ⟨cs, y, h1, h2⟩ := hall i hi
     obtain ⟨q, rfl⟩ := hel n cs y h2
     exact ⟨q, fun _ => (cells_row h1).2⟩
    ·exact ⟨x0, fun h => absurd h hi⟩
   obtain ⟨q, hq⟩ := Classical.axiomOfChoice hex
   refine ⟨⟨some a, len, cap⟩, (List.range len).map q, rfl, ⟨by simp, fun i hi => ?_⟩⟩
   have hi : i < len := by simpa using hi
   have hr := hq i hi
   obtain ⟨v, vs, e⟩ := hf (q i)
   refine ⟨a.add (i * sz), ⟨by omega, by simpa using hi, a, rfl, by simp⟩, ?_, by simpa using hr⟩
   rw [e] at hr; exact row_lt hr
theorem terms_of_trod {tS e : TypeId} (hS : P.underlying tS = some (.slice e)) (he : P.underlying e = some (.int .i64)) (hc : P.cellsOf e = 1) {n : Nat} {c : Value} {x : DataW H × List MemPlace} (h : DataW.trod enc P W base sp held n tS [c] = some x) :
  ∃ s : Sl, ∃ ts : List Int, c = s.v ∧ Lst (fun b => b < W.heap.size) W 1 s (tmr ts) := by
 have := list_of_trod (f := fun t : Int => [Value.int .i64 t]) hS hc (fun a => ⟨_, _, rfl⟩) 0 (fun n cs x h => ?_) h
 ·exact this
 ·cases n with
  | zero => cases h
  | succ n =>
   rw [DataW.trod_step] at h
   unfold DataW.trodStep at h
   rw [he] at h
   cases cs with
   | nil => simp at h
   | cons c l =>
    cases l with
    | cons c2 l2 => cases c <;> simp at h
    | nil =>
     cases c <;> simp at h
     obtain ⟨⟨rfl, _⟩, _⟩ := h
     exact ⟨_, rfl⟩
end
section
variable {H : Type} {enc : TypeId × Value → H} {W : World} {base : Nat} {sp : Nat → Bool} {held : Bool}
theorem terms_in {n : Nat} {c : Value} {x : DataW H × List MemPlace} (h : DataW.trod enc Try.prog W base sp held n 26 [c] = some x) : ∃ s : Sl, ∃ ts : List Int, c = s.v ∧ Lst (fun b => b < W.heap.size) W 1 s (tmr ts) :=
 terms_of_trod Try.underlying26 Try.underlying41 (by kernel_rfl) h
end
end Go.Proofs
end
