import Derived.Test.YtcldldjildmdlaaPa4
import Derived.Test.YtcldldjildmdlaaPa3
import Derived.Test.YtcldldjildmdlaaPa2
import Derived.Test.YtcldldjildmdlaaPa0
import Derived.ProofKit
import Derived.Carry
import Derived.OpenShut
import Derived.Stop.Joined
section
open Go Go.SE
namespace Go.Proofs
attribute [local irreducible] Calls CallsD
def RdOut (w0 w' : World) (bs : List UInt8) (x : Option Addr) : Prop :=
 (∀ q, (rdText bs).1 = some q → ∃ p F, x = some p ∧ PoolAt w' p q F ∧ ∀ b, F b → w0.heap.size ≤ b) ∧ ((rdText bs).1 = none → x = none)
structure ReAt (w0 w : World) (q a : Addr) (s : Sl) (bs : List UInt8) (L : Sp.Pool) (r : Rd) (m : Nat) (S FP F : NP) (ps : List Nat) (pl : Sl) : Prop where
 st : StAt w q a s bs L r m S FP F
 pure : Pure w0 w
 oP : ∀ b, FP b → w0.heap.size ≤ b
 oa : w0.heap.size ≤ a.block
 rows : Rws w 3 1 pl (tmr (ps.map Int.ofNat))
 own : ∀ b, pl.blk b → w0.heap.size ≤ b ∧ ¬ FP b ∧ b ≠ a.block ∧ ¬ S b ∧ ¬ F b ∧ b ≠ m
theorem inRow_snoc : ∀ (l : List Int) (i : Nat) (z : Int), inRow i l = i + l.length → inRow i (l ++ [z]) = if z = ((i + l.length : Nat) : Int) + 1 then i + l.length + 1 else i + l.length := by
 intro l
 induction l with
 | nil => intro i z _; simp only [List.nil_append, inRow, List.length_nil, Nat.add_zero]
 | cons s l ih =>
  intro i z h
  rw [inRow] at h
  rw [List.cons_append, inRow]
  split
  ·rename_i hs
   rw [if_pos hs, List.length_cons] at h
   rw [ih (i + 1) z (by omega), List.length_cons]
   rw [show i + 1 + l.length = i + (l.length + 1) by omega]
  ·rename_i hs
   rw [if_neg hs, List.length_cons] at h; omega
theorem inRow_stop : ∀ (l : List Int) (i : Nat) (z : Int) (post : List Int), inRow i l = i + l.length → z ≠ ((i + l.length : Nat) : Int) + 1 → inRow i (l ++ z :: post) = i + l.length := by
 intro l
 induction l with
 | nil => intro i z post _ hz; simp only [List.nil_append, inRow, List.length_nil, Nat.add_zero] at *; rw [if_neg hz]
 | cons s l ih =>
  intro i z post h hz
  rw [inRow] at h
  rw [List.cons_append, inRow]
  split
  ·rename_i hs
   rw [if_pos hs, List.length_cons] at h
   rw [List.length_cons] at hz
   rw [ih (i + 1) z post (by omega) (by rw [show i + 1 + l.length = i + (l.length + 1) by omega]; exact hz), List.length_cons]; omega
  ·rename_i hs
   rw [if_neg hs, List.length_cons] at h; omega
theorem c_read {S0 : NP} (sb : Sl) (bs : List UInt8) (w0 : World) (hs : Lst S0 w0 1 sb (byr bs)) (hz : sb.a = none → sb = Sl.nil) :
  Calls Try.prog 77 #[sb.v] w0 (fun e w' => ∃ x : Option Addr, ∃ y z : Int, e = .returned (.tuple #[.pointer x, .int .i64 y, .int .i64 z]) ∧ (y = (rdText bs).2.1 ∧ z = ((rdText bs).2.2 : Int) ∧ RdOut w0 w' bs x ∧ Pure w0 w')) := by
 refine w_F1 sb w0 (fun x y z w' => y = (rdText bs).2.1 ∧ z = ((rdText bs).2.2 : Int) ∧ RdOut w0 w' bs x ∧ Pure w0 w') ?_
 unfold m_F1
 have hl : sb.len = bs.length := by rw [hs.len, byr_len]
 have bad : ∀ (e : Int) (n : Nat) (w' : World), rdText bs = (none, e, n) → Pure w0 w' → e = (rdText bs).2.1 ∧ (n : Int) = ((rdText bs).2.2 : Int) ∧ RdOut w0 w' bs none ∧ Pure w0 w' := fun e n w' h E => by
  rw [h]; exact ⟨rfl, rfl, ⟨fun q hq => (by rw [h] at hq; cases hq), fun _ => rfl⟩, E⟩
 refine ⟨fun hc => ?_, fun hc => ?_⟩
 ·have hc : 4096 < bs.length := by have := of_decide_eq_true hc; omega
  exact bad 1 0 w0 (by unfold rdText; rw [if_pos hc]) (Ext.refl _)
 have hc : bs.length ≤ 4096 := by have := of_decide_eq_false hc; omega
 refine ⟨fun hc2 => ?_, fun hc2 => ?_⟩
 ·have hc2 : bs.length = 0 := by have := beq_iff_eq.1 hc2; omega
  exact bad 3 0 w0 (by unfold rdText; rw [if_neg (by omega), if_pos hc2]) (Ext.refl _)
 have hc2 : bs.length ≠ 0 := by have := beq_eq_false_iff_ne.1 hc2; omega
 have htxt : rdText bs = rdGo bs bs.length [] ⟨0, 0, 0⟩ [] := by unfold rdText; rw [if_neg (by omega), if_neg hc2]
 refine (c_New w0).mono ?_
 rintro _ w1 ⟨_, rfl, q, rfl, E1, FP0, hP, hFP⟩
 refine ⟨_, rfl, E1.keptP, ?_⟩
 refine (c_cNew sb bs w1 (hs.pure E1) hz (by omega)).mono ?_
 rintro _ w2 ⟨_, rfl, a, s, rfl, hR, E2, ha, hsb⟩
 refine ⟨_, rfl, E2.keptP, ?_⟩
 refine (c_kinds w2).mono ?_
 rintro _ w3 ⟨_, rfl, m, F, rfl, hK, E3, hm, hF⟩
 refine ⟨_, rfl, E3.keptP, ?_⟩
 have z1 := E1.size; have z2 := E2.size; have z3 := E3.size
 have la : a.block < w2.heap.size := hR.box.lt
 have hnil : ∀ b, ¬ Sl.nil.blk b := fun b hb => by obtain ⟨a, h, _⟩ := hb; cases h
 have R3 : ReAt w0 w3 q a s bs [] ⟨0, 0, 0⟩ m s.blk FP0 F [] Sl.nil :=
  ⟨⟨(hP.pure E2).pure E3, hR.pure E3, hK, fun b hb => by have := hsb b hb; omega, by omega, fun b hb => by have h1 := hP.lt hb; exact ⟨by omega, fun hh => by have := hsb b hh; omega, fun hh => by have := hF b hh; omega, by omega⟩, fun b hb => by have := hF b hb; exact ⟨by omega, fun hh => by have := hsb b hh; omega⟩, by omega, fun hh => by have := hsb _ hh; omega⟩, (E1.trans E2).trans E3, hFP, by omega, Rws.nil _ _ _, fun b hb => (hnil b hb).elim⟩
 refine ⟨fun pl Hl w => ∃ (L : Sp.Pool) (r : Rd) (ps : List Nat) (FP : NP) (n : Nat), Hl = None ∧ ReAt w0 w q a s bs L r m s.blk FP F ps pl ∧ Sp.Wf L ∧ ps.length = L.length ∧ ps.length ≤ r.at_ ∧ r.at_ ≤ bs.length ∧ r.err = 0 ∧ bs.length - r.at_ ≤ n ∧ rdGo bs n L r ps = rdText bs, fun pl _ => bs.length + 1 - pl.len, ⟨[], ⟨0, 0, 0⟩, [], FP0, bs.length, rfl, R3, Sp.Wf.nil, rfl, Nat.zero_le _, Nat.zero_le _, rfl, Nat.le_refl _, htxt.symm⟩, ?_⟩
 rintro pl _ wl _ ⟨L, r, ps, FP, n, rfl, hRe, hW, hps, hpr, hra, hre, hn, hgo⟩
 unfold m_F1_l1
 have hpl : pl.len = ps.length := by rw [hRe.rows.len, tmr_len, List.length_map]
 refine (c_Left a s bs r wl hRe.st.rd hra).mono ?_
 rintro _ w4 ⟨_, rfl, rfl, E4⟩
 refine ⟨_, rfl, E4.keptP, fun hc3 => ?_, fun hc3 => ?_⟩
 ·have hlt : r.at_ < bs.length := by have := of_decide_eq_true hc3; omega
  obtain ⟨n, rfl⟩ : ∃ k, n = k + 1 := ⟨n - 1, by omega⟩
  rw [rdGo, if_pos hlt] at hgo
  have S4 := hRe.st.pure E4
  refine (c_At a s bs r w4 S4.rd).mono ?_
  rintro _ _ ⟨_, rfl, rfl, rfl⟩
  refine ⟨_, rfl, Kept.refl _, ?_⟩
  refine (c_subterm q a s bs r m S4 hW.ok hlt hre).mono ?_
  rintro _ w6 ⟨_, rfl, rfl, F', hP6, hR6, E6, hF6⟩
  have z4 := E4.size; have z6 := E6.size
  have E06 : Pure w0 w6 := (hRe.pure.trans E4).trans' E6 (fun i hi hh => hh.elim (fun hh => by have := hRe.oP i hh; omega) (fun hh => by have := hRe.oa; omega))
  refine ⟨_, rfl, E6.kept (fun b hb => hb.elim), fun hc4 => ?_, fun hc4 => ?_⟩
  ·have h0 : (rdStep bs L r).2.1 ≠ 0 := bne_iff_ne.1 hc4
   rw [if_pos h0] at hgo
   exact bad _ _ _ hgo.symm E06
  ·have h0 : (rdStep bs L r).2.1 = 0 := by simpa using hc4
   rw [if_neg (by simpa using h0)] at hgo
   obtain ⟨a1, a2, a3⟩ := rdStep_at bs L r hlt hre h0
   have hw6 : Sp.Wf (rdStep bs L r).1 ∧ (rdStep bs L r).1.length = L.length + 1 := by
    rw [rdStep_eq bs L r hlt hre] at h0 ⊢
    split at h0
    ·rename_i hk
     rw [if_pos hk]
     obtain ⟨_, _, e3, e4, e5⟩ := rdIn_zero h0
     rw [e5]
     simp only
     refine ⟨Sp.make_wf hW _, ?_⟩
     have hc := (Sp.make_node e4).2.2
     unfold Sp.make at e4 ⊢
     simp only [e3] at e4 ⊢
     rw [if_neg (by rw [hc]; simp)] at e4 ⊢
     split at e4
     ·simp at e4
     ·rename_i hf; rw [if_neg hf]; simp
    ·simp at h0
   intro p1 w7 n7
   have E7 : Pure w6 w7 := Ext.new n7
   have z7 := E7.size
   have R7 : Rws w7 3 1 pl (tmr (ps.map Int.ofNat)) := ((hRe.rows.pure E4).ext E6 (fun b hb hh => hh.elim (hRe.own b hb).2.1 (hRe.own b hb).2.2.1)).pure E7
   obtain ⟨s1, w8, hr8, hR8, hE8, hb8⟩ := R7.append (P := Try.prog) (ty := 69) (c := 1) slT_int (Box.of_newA n7).row rfl rfl (by rw [tmr_len, List.length_map]; omega) (by rw [tmr_len, List.length_map]; simp only [maxLen]; omega)
   have hpw : ∀ b, pl.blk b → b < wl.heap.size := fun b hb => hRe.rows.lt hb
   have z8 := hE8.size
   have E08 : Pure w0 w8 := (E06.trans E7).trans' hE8 (fun i hi hh => by have := (hRe.own i hh).1; omega)
   have hnew : ∀ b, F' b → ¬ pl.blk b := fun b hb hh => (hF6 b hb).elim (fun h => (hRe.own b hh).2.1 h) (fun h => by have := hpw b hh; omega)
   have S0 := S4
   have S8 : StAt w8 q a s bs (rdStep bs L r).1 (rdStep bs L r).2.2 m s.blk F' F := by
    refine ⟨(hP6.pure E7).ext hE8 hnew, (hR6.pure E7).ext hE8 (fun b hb hh => (hRe.own b hh).2.2.2.1 hb) (fun hh => (hRe.own _ hh).2.2.1 rfl), ((S0.kinds.ext E6 (fun b hb hh => ?_)).pure E7).ext hE8 (fun b hb hh => ?_), fun b hb => by have := S0.lS b hb; omega, by have := S0.la; omega, fun b hb => ?_, S0.dF, S0.dm⟩
    ·rcases hb with hb | rfl
     ·exact hh.elim (fun hh => (S0.dP b hh).2.2.1 hb) (fun hh => (S0.dF b hb).1 hh)
     ·exact hh.elim (fun hh => (S0.dP _ hh).2.2.2 rfl) (fun hh => S0.dm.1 hh)
    ·rcases hb with hb | rfl
     ·exact (hRe.own b hh).2.2.2.2.1 hb
     ·exact (hRe.own _ hh).2.2.2.2.2 rfl
    ·rcases hF6 b hb with h | h
     ·exact S0.dP b h
     ·exact ⟨by have := S0.la; omega, fun hh => by have := S0.lS b hh; omega, fun hh => by have := S0.kinds.lt b hh; omega, by have := S0.kinds.mlt; omega⟩
   refine ⟨s1, w8, hr8, hE8.kept (fun b hb => hb.elim), ⟨(rdStep bs L r).1, (rdStep bs L r).2.2, ps ++ [r.at_], F', n, rfl, ⟨S8, E08, fun b hb => (hF6 b hb).elim (hRe.oP b) (fun h => by have := hRe.pure.size; omega), hRe.oa, ?_, fun b hb => ?_⟩, hw6.1, by rw [List.length_append, List.length_singleton, hw6.2]; omega, by rw [List.length_append, List.length_singleton]; omega, a2, a3, by omega, hgo⟩, ?_⟩
   ·have : tmr ((ps ++ [r.at_]).map Int.ofNat) = tmr (ps.map Int.ofNat) ++ [[.int .i64 (r.at_ : Int)]] := by simp [tmr]
    rw [this]; exact hR8
   ·rcases hb8 b hb with h | h
    ·have := hRe.own b h
     exact ⟨this.1, fun hh => hnew b hh h, this.2.2⟩
    ·have h1 := hRe.pure.size
     exact ⟨by omega, fun hh => by have := hP6.lt hh; omega, by have := S0.la; omega, fun hh => by have := S0.lS b hh; omega, fun hh => by have := S0.kinds.lt b hh; omega, by have := S0.kinds.mlt; omega⟩
   ·have h1 : s1.len = ps.length + 1 := by rw [hR8.len, List.length_append, tmr_len, List.length_map]; rfl
    show bs.length + 1 - s1.len < bs.length + 1 - pl.len
    omega
 ·have hge : ¬ r.at_ < bs.length := by have := of_decide_eq_false hc3; omega
  rw [rdGo_end hge] at hgo
  intro p2 w9 n9
  have E9 : Pure w4 w9 := Ext.new n9
  have B9 := Box.of_newA n9
  have b9 := n9.at_size
  refine ⟨B9.canW0 (by simp), id, ?_⟩
  rintro w10 e10
  have X10 : Ext (· = p2.block) w9 w10 := by rw [e10]; exact Ext.setCell _ _
  have B10 : Box w10 p2 [.int .i64 0] 3 := by rw [e10]; exact B9.set0
  have z4 := E4.size; have z9 := E9.size; have z10 := X10.size
  have E4' : Pure wl w10 := (E4.trans E9).own (by omega) X10
  have zw := hRe.pure.size
  have P10 := hRe.st.pool.pure E4'
  have R10 := hRe.rows.pure E4'
  refine (c_term_Len q w10 P10).mono ?_
  rintro _ w10 ⟨_, rfl, rfl, rfl⟩
  refine ⟨_, rfl, Kept.refl _, ?_⟩
  refine (c_Subs q L.length w10).mono ?_
  rintro _ w12 ⟨_, rfl, q2, q3, rfl, Bq2, Bq3, E12⟩
  have z12 := E12.size
  refine ⟨_, rfl, E12.keptP, _, _, rfl, Try.call85, _, _, it_Subs hW (P10.pure E12) Bq2 Bq3, ?_⟩
  have hfew := Sp.subs_few hW L.length
  have hlf := hW.ok.few
  unfold rdEnd at hgo
  simp only at hgo
  generalize hxs : Sp.subs L L.length = xs at *
  have E012 : Pure w0 w12 := (hRe.pure.trans E4').trans E12
  have vb : ∀ b, (b = p2.block ∨ FP b ∨ pl.blk b) → w0.heap.size ≤ b := fun b hb => hb.elim (fun h => by omega) (fun hb => hb.elim (hRe.oP b) (fun h => (hRe.own b h).1))
  have dP2 : ¬ FP p2.block ∧ ¬ pl.blk p2.block := ⟨fun hh => by have := hRe.st.pool.lt hh; omega, fun hh => by have := hRe.rows.lt hh; omega⟩
  refine ⟨fun pre Y A => Box A p2 [.int .i64 (pre.length : Int)] 3 ∧ inRow 0 pre = pre.length ∧ PoolAt A q L FP ∧ Rws A 3 1 pl (tmr (ps.map Int.ofNat)) ∧ (∀ b, (b = p2.block ∨ FP b ∨ pl.blk b) → ¬ Y b) ∧ Pure w0 A,
   fun pre Y A => Box A p2 [.int .i64 (inRow 0 xs : Int)] 3 ∧ PoolAt A q L FP ∧ Rws A 3 1 pl (tmr (ps.map Int.ofNat)) ∧ (∀ b, (b = p2.block ∨ FP b ∨ pl.blk b) → ¬ Y b) ∧ Pure w0 A, ⟨fun _ _ _ _ => trivial, ?_, ?_, fun _ _ _ _ _ h => h.elim⟩, ?_, ?_, ?_⟩
  ·rintro pre Y A Y' A' ⟨g1, g2, g3, g4, g5, g6⟩ hst
   have hv : ∀ b, (b = p2.block ∨ FP b ∨ pl.blk b) → ¬ Y' b := hst.disj (fun b hb => ⟨hb.elim (fun e => e ▸ g1.lt) (fun hb => hb.elim (fun h => g3.lt h) (fun h => g4.lt h)), g5 b hb⟩)
   exact ⟨g1.ext hst.ext (hv _ (.inl rfl)), g2, g3.ext hst.ext (fun b hb => hv b (.inr (.inl hb))), g4.ext hst.ext (fun b hb => hv b (.inr (.inr hb))), hv, g6.hst hst⟩
  ·rintro pre Y A Y' A' ⟨g1, g3, g4, g5, g6⟩ hst
   have hv : ∀ b, (b = p2.block ∨ FP b ∨ pl.blk b) → ¬ Y' b := hst.disj (fun b hb => ⟨hb.elim (fun e => e ▸ g1.lt) (fun hb => hb.elim (fun h => g3.lt h) (fun h => g4.lt h)), g5 b hb⟩)
   exact ⟨g1.ext hst.ext (hv _ (.inl rfl)), g3.ext hst.ext (fun b hb => hv b (.inr (.inl hb))), g4.ext hst.ext (fun b hb => hv b (.inr (.inr hb))), hv, g6.hst hst⟩
  ·exact ⟨B10.pure E12, rfl, P10.pure E12, R10.pure E12, fun _ _ h => h, E012⟩
  ·rintro pre z Y A ⟨g1, g2, g3, g4, g5, g6⟩ hsA ⟨post, hpost⟩
   have hpl2 : pre.length < 65536 := by have := congrArg List.length hpost; simp only [List.length_append, List.length_cons] at this; omega
   have hw : IntKind.i64.wrap ((pre.length : Int) + 1) = ((pre.length + 1 : Nat) : Int) := wrap_succ (n := pre.length + 1) (by omega) (by omega)
   refine ⟨_, g1.cell0, fun hc => ?_, fun hc => ?_⟩
   ·have hc : z ≠ ((pre.length + 1 : Nat) : Int) := by rw [hw] at hc; exact bne_iff_ne.1 hc
    have hst := inRow_stop pre 0 z post (by omega) (by omega)
    rw [← hpost, Nat.zero_add] at hst
    exact ⟨Kept.refl _, by rw [hst]; exact g1, g3, g4, g5, g6⟩
   ·have hc : z = ((pre.length + 1 : Nat) : Int) := by rw [hw] at hc; simpa using hc
    have hsn := inRow_snoc pre 0 z (by omega)
    rw [if_pos (by omega)] at hsn
    refine ⟨_, g1.cell0, g1.canW0 (by simp), id, ?_⟩
    rintro w13 e13
    have X13 : Ext (· = p2.block) A w13 := by rw [e13]; exact Ext.setCell _ _
    have B13 : Box w13 p2 [.int .i64 ((pre ++ [z]).length : Int)] 3 := by
     rw [e13, List.length_append, List.length_singleton, ← hw]; exact g1.set0
    exact ⟨X13.kept (fun b hb e => g5 b (.inl e) hb), B13, by rw [hsn, List.length_append, List.length_singleton]; omega, g3.ext X13 (fun b hb e => dP2.1 (e ▸ hb)), g4.ext X13 (fun b hb e => dP2.2 (e ▸ hb)), g5, g6.trans' X13 (fun i hi e => by omega)⟩
  ·rintro H1 w14 hs14 _ _ hI
   have hI : Box w14 p2 [.int .i64 (inRow 0 xs : Int)] 3 ∧ PoolAt w14 q L FP ∧ Rws w14 3 1 pl (tmr (ps.map Int.ofNat)) ∧ (∀ b, (b = p2.block ∨ FP b ∨ pl.blk b) → ¬ H1 b) ∧ Pure w0 w14 := by
    rcases hI with ⟨g1, g2, g3, g4, g5, g6⟩ | ⟨_, g1, g3, g4, g5, g6⟩
    ·exact ⟨by rw [g2]; exact g1, g3, g4, g5, g6⟩
    ·exact ⟨g1, g3, g4, g5, g6⟩
   obtain ⟨g1, g3, g4, g5, g6⟩ := hI
   refine ⟨_, g1.cell0, fun hc => ?_, fun hc => ?_⟩
   ·have hc := lt_of_dec hpl hc
    rw [dif_pos hc] at hgo
    intro w15 hs15
    have hv15 : ∀ b, (b = p2.block ∨ FP b ∨ pl.blk b) → ¬ H1 b := g5
    have g1' := g1.ext hs15.ext (hv15 _ (.inl rfl))
    have g4' := g4.ext hs15.ext (fun b hb => hv15 b (.inr (.inr hb)))
    obtain ⟨a1, hat, _, hv5⟩ := tm_nth g4'.lst (j := inRow 0 xs) (by simpa using hc)
    refine ⟨_, g1'.cell0, a1, hat, _, hv5, fun w16 hs16 => ?_⟩
    have := bad _ _ w16 hgo.symm ((g6.hst hs15).hst hs16)
    rw [List.getElem_map]
    exact this
   ·have hc : ¬ inRow 0 xs < ps.length := by have := of_decide_eq_false hc; omega
    rw [dif_neg hc] at hgo
    intro w17 hs17
    have hF17 : PoolAt w17 q L FP := g3.ext hs17.ext (fun b hb => g5 b (.inr (.inl hb)))
    rw [← hgo]
    exact ⟨rfl, rfl, ⟨fun q' hq' => by rw [← hgo] at hq'; cases hq'; exact ⟨q, FP, rfl, hF17, hRe.oP⟩, fun hn => by rw [← hgo] at hn; cases hn⟩, g6.hst hs17⟩
theorem RdOut.pool {w0 w' : World} {bs : List UInt8} {x : Option Addr} (h : RdOut w0 w' bs x) {q : Sp.Pool} (hq : (rdText bs).1 = some q) : ∃ p F, x = some p ∧ PoolAt w' p q F ∧ ∀ b, F b → w0.heap.size ≤ b := h.1 q hq
theorem c_Check {S0 : NP} (sb : Sl) (bs : List UInt8) (w0 : World) (hs : Lst S0 w0 1 sb (byr bs)) (hz : sb.a = none → sb = Sl.nil) :
  Calls Try.prog 81 #[sb.v] w0 (fun e w' => ∃ y z : Int, e = .returned (.tuple #[.int .i64 y, .int .i64 z]) ∧ (y = (rdText bs).2.1 ∧ z = ((rdText bs).2.2 : Int) ∧ Pure w0 w')) := by
 refine w_H2 sb w0 (fun y z w' => y = (rdText bs).2.1 ∧ z = ((rdText bs).2.2 : Int) ∧ Pure w0 w') ?_
 unfold m_H2
 refine (c_read sb bs w0 hs hz).mono ?_
 rintro _ w1 ⟨x, y, z, rfl, hy, hz, _, E⟩
 exact ⟨_, _, _, rfl, hy, hz, E⟩
end Go.Proofs
end
section
open Go Go.SE
namespace Go.Sp
open Go.Proofs
theorem copyGo_app (Lq : Pool) : ∀ (l1 l2 : List Int) (L : Pool) (own : Int → Int), copyGo Lq (l1 ++ l2) L own = if (copyGo Lq l1 L own).2.1 ≠ 0 then copyGo Lq l1 L own else copyGo Lq l2 (copyGo Lq l1 L own).1 (copyGo Lq l1 L own).2.2 := by
 intro l1
 induction l1 with
 | nil => intro l2 L own; rw [List.nil_append]; exact (if_neg (fun h => h rfl)).symm
 | cons z l1 ih =>
  intro l2 L own
  obtain ⟨x, e, L', hm⟩ : ∃ x e L', make L { nodeOf Lq z with a := own (nodeOf Lq z).a, b := own (nodeOf Lq z).b } = (x, e, L') := ⟨_, _, _, rfl⟩
  rw [List.cons_append, copyGo_cons Lq z (l1 ++ l2) L own rfl hm, copyGo_cons Lq z l1 L own rfl hm]
  by_cases he : e ≠ 0
  ·rw [if_pos he, if_pos he, if_pos he]
  ·rw [if_neg he, if_neg he, ih]
theorem copyGo_grows (Lq : Pool) : ∀ (l : List Int) (L : Pool) (own : Int → Int), ∃ M, (copyGo Lq l L own).1 = L ++ M := by
 intro l
 induction l with
 | nil => intro L own; exact ⟨[], (List.append_nil L).symm⟩
 | cons z l ih =>
  intro L own
  obtain ⟨x, e, L', hm⟩ : ∃ x e L', make L { nodeOf Lq z with a := own (nodeOf Lq z).a, b := own (nodeOf Lq z).b } = (x, e, L') := ⟨_, _, _, rfl⟩
  rw [copyGo_cons Lq z l L own rfl hm]
  split
  ·exact ⟨[], by simp⟩
  ·obtain ⟨M1, e1⟩ := make_app L { nodeOf Lq z with a := own (nodeOf Lq z).a, b := own (nodeOf Lq z).b }
   rw [hm] at e1
   obtain ⟨M2, e2⟩ := ih L' (fun y => if y = z then x else own y)
   simp only at e1
   exact ⟨M1 ++ M2, by rw [e2, e1, List.append_assoc]⟩
theorem copyGo_wf {Lq : Pool} : ∀ (l : List Int) (L : Pool) (own : Int → Int), Wf L → Wf (copyGo Lq l L own).1 := by
 intro l
 induction l with
 | nil => intro L own h; exact h
 | cons z l ih =>
  intro L own h
  obtain ⟨x, e, L', hm⟩ : ∃ x e L', make L { nodeOf Lq z with a := own (nodeOf Lq z).a, b := own (nodeOf Lq z).b } = (x, e, L') := ⟨_, _, _, rfl⟩
  have hw := make_wf h { nodeOf Lq z with a := own (nodeOf Lq z).a, b := own (nodeOf Lq z).b }
  rw [copyGo_cons Lq z l L own rfl hm]
  rw [hm] at hw
  split
  ·exact h
  ·exact ih _ _ hw
theorem copyGo_fail {Lq : Pool} {l post : List Int} {z : Int} {L : Pool} {own : Int → Int} (h0 : (copyGo Lq l L own).2.1 = 0) {n : Node} (hn : { nodeOf Lq z with a := (copyGo Lq l L own).2.2 (nodeOf Lq z).a, b := (copyGo Lq l L own).2.2 (nodeOf Lq z).b } = n) (he : (make (copyGo Lq l L own).1 n).2.1 ≠ 0) :
  (copyGo Lq (l ++ z :: post) L own).2.1 = (make (copyGo Lq l L own).1 n).2.1 := by
 obtain ⟨x, e, L', hm⟩ : ∃ x e L', make (copyGo Lq l L own).1 n = (x, e, L') := ⟨_, _, _, rfl⟩
 rw [hm] at he ⊢
 rw [copyGo_app, if_neg (by rw [h0]; exact fun h => h rfl), copyGo_cons Lq z post _ _ hn hm, if_pos he]
theorem copyGo_next {Lq : Pool} {l : List Int} {z : Int} {L : Pool} {own : Int → Int} (h0 : (copyGo Lq l L own).2.1 = 0) {n : Node} (hn : { nodeOf Lq z with a := (copyGo Lq l L own).2.2 (nodeOf Lq z).a, b := (copyGo Lq l L own).2.2 (nodeOf Lq z).b } = n) (he : (make (copyGo Lq l L own).1 n).2.1 = 0) :
  copyGo Lq (l ++ [z]) L own = ((make (copyGo Lq l L own).1 n).2.2, 0, fun x => if x = z then (make (copyGo Lq l L own).1 n).1 else (copyGo Lq l L own).2.2 x) := by
 obtain ⟨x, e, L', hm⟩ : ∃ x e L', make (copyGo Lq l L own).1 n = (x, e, L') := ⟨_, _, _, rfl⟩
 rw [hm] at he ⊢
 rw [copyGo_app, if_neg (by rw [h0]; exact fun h => h rfl), copyGo_cons Lq z [] _ _ hn hm, if_neg (fun h => h he)]
 rfl
end Go.Sp
namespace Go.Proofs
attribute [local irreducible] Calls CallsD
theorem ext_setc {w : World} {a : Addr} {k : Nat} {v : Value} : Ext (· = a.block) w (w.setCell (a.add k) v) := (Ext.setCell _ _).mono (fun i _ e => by rw [add_block] at e; exact e)
def ownM (M : List (Int × Int)) (x : Int) : Int := (SE.look M x).getD 0
def CoV (p2 p3 p4 p5 p6 p8 : Addr) (mb : Nat) (F' FQ : NP) (b : Nat) : Prop := b = p2.block ∨ b = p3.block ∨ b = p4.block ∨ b = p5.block ∨ b = p6.block ∨ b = p8.block ∨ b = mb ∨ F' b ∨ FQ b
structure CoB (A : World) (p q p2 p3 p4 p5 p6 p8 : Addr) (mb n : Nat) : Prop where
 b2 : Box A p2 [.pointer (some p)] 36
 b3 : Box A p3 [.pointer (some q)] 36
 b4 : Box A p4 [.int .i64 0] 32
 b5 : Box A p5 [.int .i64 0] 33
 b6 : Box A p6 [.int .i64 (n : Int)] 3
 b8 : Box A p8 [.map (some mb)] 146
theorem CoB.ext {A A' : World} {p q p2 p3 p4 p5 p6 p8 : Addr} {mb n : Nat} {F' FQ G : NP} (h : CoB A p q p2 p3 p4 p5 p6 p8 mb n) (E : Ext G A A') (hG : ∀ b, (b = p2.block ∨ b = p3.block ∨ b = p4.block ∨ b = p5.block ∨ b = p6.block ∨ b = p8.block) → ¬ G b) : CoB A' p q p2 p3 p4 p5 p6 p8 mb n :=
 ⟨h.b2.ext E (hG _ (.inl rfl)), h.b3.ext E (hG _ (.inr (.inl rfl))), h.b4.ext E (hG _ (.inr (.inr (.inl rfl)))), h.b5.ext E (hG _ (.inr (.inr (.inr (.inl rfl))))), h.b6.ext E (hG _ (.inr (.inr (.inr (.inr (.inl rfl)))))), h.b8.ext E (hG _ (.inr (.inr (.inr (.inr (.inr rfl))))))⟩
theorem CoB.pure {A A' : World} {p q p2 p3 p4 p5 p6 p8 : Addr} {mb n : Nat} (h : CoB A p q p2 p3 p4 p5 p6 p8 mb n) (E : Pure A A') : CoB A' p q p2 p3 p4 p5 p6 p8 mb n := h.ext (F' := None) (FQ := None) E (fun _ _ h => h)
theorem CoB.lt {A : World} {p q p2 p3 p4 p5 p6 p8 : Addr} {mb n b : Nat} (h : CoB A p q p2 p3 p4 p5 p6 p8 mb n) (hb : b = p2.block ∨ b = p3.block ∨ b = p4.block ∨ b = p5.block ∨ b = p6.block ∨ b = p8.block) : b < A.heap.size := by
 rcases hb with rfl | rfl | rfl | rfl | rfl | rfl
 ·exact h.b2.lt
 ·exact h.b3.lt
 ·exact h.b4.lt
 ·exact h.b5.lt
 ·exact h.b6.lt
 ·exact h.b8.lt
theorem c_Copy (p q : Addr) (t : Int) (w0 : World) {L Lq : Sp.Pool} {FP FQ : NP} (hW : Sp.Wf L) (hQ : Sp.Wf Lq) (hP : PoolAt w0 p L FP) (hPQ : PoolAt w0 q Lq FQ) (hd : ∀ b, FP b → ¬ FQ b) :
  Calls Try.prog 78 #[.pointer (some p), .pointer (some q), .int .i64 t] w0 (fun e w' => ∃ r1 r2 : Int, e = .returned (.tuple #[.int .i64 r1, .int .i64 r2]) ∧ (r1 = (copyS L Lq t).1 ∧ r2 = (copyS L Lq t).2.1 ∧ ∃ F', PoolAt w' p (copyS L Lq t).2.2 F' ∧ Ext FP w0 w' ∧ ∀ b, F' b → FP b ∨ w0.heap.size ≤ b)) := by
 refine w_R3 _ _ _ w0 (fun r1 r2 w' => r1 = (copyS L Lq t).1 ∧ r2 = (copyS L Lq t).2.1 ∧ ∃ F', PoolAt w' p (copyS L Lq t).2.2 F' ∧ Ext FP w0 w' ∧ ∀ b, F' b → FP b ∨ w0.heap.size ≤ b) ?_
 unfold m_R3
 intro p2 w1 n2 p3 w2 n3 p4 w3 n4 p5 w4 n5
 have E1 : Pure w0 w1 := Ext.new n2
 have E2 : Pure w1 w2 := Ext.new n3
 have E3 : Pure w2 w3 := Ext.new n4
 have E4 : Pure w3 w4 := Ext.new n5
 have B2 := (((Box.of_newA n2).pure E2).pure E3).pure E4
 have B3 := ((Box.of_newA n3).pure E3).pure E4
 have B4 := (Box.of_newA n4).pure E4
 have B5 := Box.of_newA n5
 have b2 := n2.at_size; have b3 := n3.at_size; have b4 := n4.at_size; have b5 := n5.at_size
 have z1 := E1.size; have z2 := E2.size; have z3 := E3.size; have z4 := E4.size
 have l1 := (Box.of_newA n2).lt; have l2 := (Box.of_newA n3).lt; have l3 := (Box.of_newA n4).lt; have l4 := B5.lt
 have E04 : Pure w0 w4 := ((E1.trans E2).trans E3).trans E4
 refine ⟨some p, B2.cell0, fun hc => (by cases hc), fun _ => ⟨some q, B3.cell0, ?_⟩⟩
 refine (c_in q t w4 (hPQ.pure E04)).mono ?_
 rintro _ _ ⟨_, rfl, rfl, rfl⟩
 refine ⟨_, rfl, Kept.refl _, fun hc => ?_, fun hc => ?_⟩
 ·have hin : Sp.inP Lq t = false := by simpa using hc
  have e : copyS L Lq t = (0, 51, L) := by unfold copyS; rw [if_neg (by rw [hin]; simp)]
  rw [e]
  refine ⟨B4.canW0 (by simp), id, ?_⟩
  rintro w8 e8
  have X8 : Ext (· = p4.block) w4 w8 := by rw [e8]; exact Ext.setCell _ _
  have B48 : Box w8 p4 [.int .i64 0] 32 := by rw [e8]; exact B4.set0
  have B58 := B5.ext X8 (by omega)
  refine ⟨B58.canW0 (by simp), id, ?_⟩
  rintro w9 e9
  have X9 : Ext (· = p5.block) w8 w9 := by rw [e9]; exact Ext.setCell _ _
  have B59 : Box w9 p5 [.int .i64 51] 33 := by rw [e9]; exact B58.set0
  have B49 := B48.ext X9 (by omega)
  refine ⟨_, B49.cell0, _, B59.cell0, rfl, rfl, FP, ((hP.pure E04).ext X8 (fun b hb e => by have := hP.lt hb; omega)).ext X9 (fun b hb e => by have := hP.lt hb; omega), Ext.pure ((E04.own (by omega) X8).own (by omega) X9), fun b hb => .inl hb⟩
 have hin : Sp.inP Lq t = true := by simpa using hc
 obtain ⟨sl, hsl, hsll⟩ : ∃ v4 : Sl, w4.cell? p = some v4.v ∧ v4.len = L.length := by
  obtain ⟨s, m, h, _⟩ := hP.pure E04
  exact ⟨s, h.box.cell0, by rw [h.rows.len, List.length_map]⟩
 refine ⟨some p, B2.cell0, p, rfl, sl, hsl, ?_⟩
 rw [hsll]
 intro p6 w10 n6
 have E10 : Pure w4 w10 := Ext.new n6
 have B6 := Box.of_newA n6
 have b6 := n6.at_size
 refine ⟨B6.canW0 (by simp), id, ?_⟩
 rintro w11 e11
 have X11 : Ext (· = p6.block) w10 w11 := by rw [e11]; exact Ext.setCell _ _
 have B6' : Box w11 p6 [.int .i64 (L.length : Int)] 3 := by rw [e11]; exact B6.set0
 intro p7 w12 n7
 have E12 : Pure w11 w12 := Ext.new n7
 have M7 := IMap.of_new (f := fun i : Int => .int .i64 i) n7
 have b7 := n7.at_size
 intro p8 w13 n8
 have E13 : Pure w12 w13 := Ext.new n8
 have B8 := Box.of_newA n8
 have b8 := n8.at_size
 refine ⟨B8.canW0 (by simp), id, ?_⟩
 rintro w14 e14
 have X14 : Ext (· = p8.block) w13 w14 := by rw [e14]; exact Ext.setCell _ _
 have B8' : Box w14 p8 [.map (some p7.block)] 146 := by rw [e14]; exact B8.set0
 have z10 := E10.size; have z11 := X11.size; have z12 := E12.size; have z13 := E13.size; have z14 := X14.size
 have l6 := B6'.lt; have l7 := M7.lt; have l8 := B8.lt
 have E07 : Pure w0 w14 := ((((E04.trans E10).own (by omega) X11).trans E12).trans E13).own (by omega) X14
 have up : ∀ {T : TypeId} {c : Addr} {vs : List Value}, Box w4 c vs T → c.block ≠ p6.block → c.block ≠ p8.block → Box w14 c vs T := fun h h1 h2 => ((((h.pure E10).ext X11 h1).pure E12).pure E13).ext X14 h2
 have C14 : CoB w14 p q p2 p3 p4 p5 p6 p8 p7.block L.length := ⟨up B2 (by omega) (by omega), up B3 (by omega) (by omega), up B4 (by omega) (by omega), up B5 (by omega) (by omega), ((B6'.pure E12).pure E13).ext X14 (by omega), B8'⟩
 have M14 := (M7.pure E13).ext X14 (by omega)
 refine ⟨some q, C14.b3.cell0, ?_⟩
 refine (c_Subs q t w14).mono ?_
 rintro _ w15 ⟨_, rfl, q2, q3, rfl, Bq2, Bq3, E15⟩
 have E015 := E07.trans E15
 have z15 := E15.size
 refine ⟨_, rfl, E15.keptP, _, _, rfl, Try.call85, _, _, it_Subs hQ (hPQ.pure E015) Bq2 Bq3, ?_⟩
 have hfew := Sp.subs_few hQ t
 have hlq := hQ.ok.few
 have hsub : ∀ u ∈ Sp.subs Lq t, Sp.inP Lq u = true := fun u hu => subs_in hQ hu
 have hnd := Sp.subs_nodup hQ t
 generalize hcs : copyS L Lq t = cs at *
 have hcs' : cs = if (copyGo Lq (Sp.subs Lq t) L (fun _ => 0)).2.1 ≠ 0 then (0, (copyGo Lq (Sp.subs Lq t) L (fun _ => 0)).2.1, L) else ((copyGo Lq (Sp.subs Lq t) L (fun _ => 0)).2.2 t, 0, (copyGo Lq (Sp.subs Lq t) L (fun _ => 0)).1) := by rw [← hcs]; unfold copyS; rw [if_pos hin]
 have htin : t ∈ Sp.subs Lq t := self_sub hQ hin
 generalize Sp.subs Lq t = xs at *
 have C15 := C14.pure E15
 have M15 := M14.pure E15
 have o2 : w0.heap.size ≤ p2.block := by omega
 have o3 : w0.heap.size ≤ p3.block := by omega
 have o4 : w0.heap.size ≤ p4.block := by omega
 have o5 : w0.heap.size ≤ p5.block := by omega
 have o6 : w0.heap.size ≤ p6.block := by omega
 have o8 : w0.heap.size ≤ p8.block := by omega
 have om : w0.heap.size ≤ p7.block := by omega
 have d45 : p4.block ≠ p5.block := by omega
 have dm : ∀ b, (b = p2.block ∨ b = p3.block ∨ b = p4.block ∨ b = p5.block ∨ b = p6.block ∨ b = p8.block) → b ≠ p7.block := fun b hb => by rcases hb with rfl | rfl | rfl | rfl | rfl | rfl <;> omega
 have ob : ∀ b, (b = p2.block ∨ b = p3.block ∨ b = p4.block ∨ b = p5.block ∨ b = p6.block ∨ b = p8.block ∨ b = p7.block) → w0.heap.size ≤ b ∧ b < w15.heap.size := fun b hb => by rcases hb with rfl | rfl | rfl | rfl | rfl | rfl | rfl <;> omega
 generalize p7.block = mb at *
 clear up B2 B3 B4 B5 B6 B6' B8 B8' M7 M14 C14 n2 n3 n4 n5 n6 n7 n8 X11 X14 E10 E12 E13 e11 e14 Bq2 Bq3 hsl
 have hPq : ∀ b, FQ b → b < w0.heap.size := fun b hb => hPQ.lt hb
 refine ⟨fun pre Y A => ∃ (F' : NP) (M : List (Int × Int)), (copyGo Lq pre L (fun _ => 0)).2.1 = 0 ∧ PoolAt A p (copyGo Lq pre L (fun _ => 0)).1 F' ∧ IMap (fun i : Int => .int .i64 i) A mb M ∧ M.map Prod.fst = pre ∧ (∀ x, (copyGo Lq pre L (fun _ => 0)).2.2 x = ownM M x) ∧ CoB A p q p2 p3 p4 p5 p6 p8 mb L.length ∧ PoolAt A q Lq FQ ∧ (∀ b, F' b → FP b ∨ (w0.heap.size ≤ b ∧ ¬ (b = p2.block ∨ b = p3.block ∨ b = p4.block ∨ b = p5.block ∨ b = p6.block ∨ b = p8.block ∨ b = mb))) ∧ (∀ b, CoV p2 p3 p4 p5 p6 p8 mb F' FQ b → ¬ Y b) ∧ Ext FP w0 A ∧ w15.heap.size ≤ A.heap.size,
  fun pre Y A => ∃ (F' : NP) (e : Int), cs = (0, e, L) ∧ PoolAt A p L F' ∧ Box A p4 [.int .i64 0] 32 ∧ Box A p5 [.int .i64 e] 33 ∧ (∀ b, F' b → FP b ∨ w0.heap.size ≤ b) ∧ (∀ b, (b = p4.block ∨ b = p5.block ∨ F' b) → ¬ Y b) ∧ Ext FP w0 A, ⟨fun _ _ _ _ => trivial, ?_, fun _ _ _ _ _ h => h.elim, ?_⟩, ?_, ?_, ?_, ?_⟩
 ·rintro pre Y A Y' A' ⟨F', M, g1, g2, g3, g4, g5, g6, g7, g8, g9, g10, g11⟩ hst
  have hv : ∀ b, CoV p2 p3 p4 p5 p6 p8 mb F' FQ b → ¬ Y' b := hst.disj (fun b hb => ⟨by
   rcases hb with hb | hb | hb | hb | hb | hb | hb | hb | hb
   ·exact g6.lt (.inl hb)
   ·exact g6.lt (.inr (.inl hb))
   ·exact g6.lt (.inr (.inr (.inl hb)))
   ·exact g6.lt (.inr (.inr (.inr (.inl hb))))
   ·exact g6.lt (.inr (.inr (.inr (.inr (.inl hb)))))
   ·exact g6.lt (.inr (.inr (.inr (.inr (.inr hb)))))
   ·exact hb ▸ g3.lt
   ·exact g2.lt hb
   ·exact g7.lt hb, g9 b hb⟩)
  exact ⟨F', M, g1, g2.ext hst.ext (fun b hb => hv b (.inr (.inr (.inr (.inr (.inr (.inr (.inr (.inl hb))))))))), g3.ext hst.ext (hv _ (.inr (.inr (.inr (.inr (.inr (.inr (.inl rfl)))))))), g4, g5, g6.ext (F' := F') (FQ := FQ) hst.ext (fun b hb => hv b (by rcases hb with h | h | h | h | h | h <;> simp only [CoV, h, true_or, or_true])), g7.ext hst.ext (fun b hb => hv b (.inr (.inr (.inr (.inr (.inr (.inr (.inr (.inr hb))))))))), g8, hv, g10.hst hst, Nat.le_trans g11 hst.ext.size⟩
 ·rintro pre Y A Y' A' ⟨F', e, g1, g2, g3, g4, g5, g6, g7⟩ hst
  have hv : ∀ b, (b = p4.block ∨ b = p5.block ∨ F' b) → ¬ Y' b := hst.disj (fun b hb => ⟨by
   rcases hb with hb | hb | hb
   ·exact hb ▸ g3.lt
   ·exact hb ▸ g4.lt
   ·exact g2.lt hb, g6 b hb⟩)
  exact ⟨F', e, g1, g2.ext hst.ext (fun b hb => hv b (.inr (.inr hb))), g3.ext hst.ext (hv _ (.inl rfl)), g4.ext hst.ext (hv _ (.inr (.inl rfl))), g5, hv, g7.hst hst⟩
 ·exact ⟨FP, [], rfl, hP.pure E015, M15, rfl, fun _ => rfl, C15, hPQ.pure E015, fun b hb => .inl hb, fun _ _ h => h, Ext.pure E015, Nat.le_refl _⟩
 ·rintro pre z Y A ⟨F', M, g1, g2, g3, g4, g5, g6, g7, g8, g9, g10, g11⟩ hsA ⟨post, hpost⟩
  have hzin : Sp.inP Lq z = true := hsub z (by rw [hpost]; simp)
  have hzn : z ∉ pre := by
   rw [hpost] at hnd
   have := (List.nodup_append.1 hnd).2.2
   exact fun h => this z h z (by simp) rfl
  generalize hcg : copyGo Lq pre L (fun _ => 0) = cg at *
  have hok : Sp.Ok cg.1 := by rw [← hcg]; exact (Sp.copyGo_wf pre L _ hW).ok
  have hA0 := hsA.lt
  refine ⟨some q, g6.b3.cell0, ?_⟩
  refine (c_Node q z A g7 hQ.ok).mono ?_
  rintro _ w16 ⟨k, f, t', u, x, a, b, r3, rfl, ⟨hn, _⟩, E16⟩
  have z16 := E16.size
  refine ⟨_, _, _, _, _, _, _, _, rfl, E16.kept (fun b hb => hb.elim), ?_⟩
  intro p9 w17 n9
  have E17 : Pure w16 w17 := Ext.new n9
  have B9 := Box.of_newA n9
  have b9 := n9.at_size
  have z17 := E17.size
  refine ⟨B9.canWs (by simp), id, ?_⟩
  rintro w18 e18
  have X18 : Ext (· = p9.block) w17 w18 := by rw [e18]; exact Ext.storeRow _ _ _
  have B18 : Box w18 p9 (nrow ⟨k, f, t', u, x, a, b⟩) 106 := by rw [e18]; exact B9.store rfl
  have z18 := X18.size
  have l9 := B18.lt
  have keep : ∀ {G : NP} {w' : World}, Ext G A w' → (∀ b, b < A.heap.size → ¬ G b) → IMap (fun i : Int => .int .i64 i) w' mb M ∧ CoB w' p q p2 p3 p4 p5 p6 p8 mb L.length ∧ PoolAt w' q Lq FQ ∧ PoolAt w' p cg.1 F' := fun {G w'} E hG =>
   ⟨g3.ext E (hG _ g3.lt), g6.ext (F' := F') (FQ := FQ) E (fun b hb => hG b (g6.lt hb)), g7.ext E (fun b hb => hG b (g7.lt hb)), g2.ext E (fun b hb => hG b (g2.lt hb))⟩
  have E18 : Ext (· = p9.block) A w18 := (Ext.pure (E16.trans E17)).trans X18
  have hg9 : ∀ b, b < A.heap.size → ¬ (b = p9.block) := fun b hb e => by omega
  have look : ∀ {w' : World}, IMap (fun i : Int => .int .i64 i) w' mb M → ∀ y, (Instr.lookup 146 (.map (some mb)) (.int .i64 y) false).run Try.prog w' = .ok (.int .i64 (cg.2.2 y)) w' := fun {w'} h y => by
   rw [g5 y]
   rcases h.get (P := Try.prog) (T := 146) Try.underlying146 Try.underlying32 (Try.zeroValue32 _) y false with ⟨hn, hr⟩ | ⟨v, hv, hr⟩
   ·unfold ownM; rw [hn]; exact hr
   ·unfold ownM; rw [hv]; exact hr
  refine ⟨fun w' => w'.cell? p8 = some (.map (some mb)) ∧ IMap (fun i : Int => .int .i64 i) w' mb M, ?_, ?_⟩
  ·obtain ⟨k1, k2, _, _⟩ := keep (E18.thenPure (Ext.drew w18)) hg9
   exact ⟨k2.b8.cell0, k1⟩
  rintro w19 e19
  have E19 : Ext (· = p9.block) A w19 := by rw [e19]; exact E18.thenPure (Ext.drew w18)
  have B19 : Box w19 p9 (nrow ⟨k, f, t', u, x, a, b⟩) 106 := by rw [e19]; exact B18.pure (Ext.drew w18)
  obtain ⟨k1, k2, k3, k4⟩ := keep E19 hg9
  refine ⟨some mb, k2.b8.cell0, a, B19.cell (i := 5) rfl, _, look k1 a, some mb, fun w' h => h.1, b, B19.cell (i := 6) rfl, _, fun w' h => look h.2 b, B19.canW (i := 5) (by simp [nrow]), id, ?_⟩
  rintro w20 e20
  have X20 : Ext (· = p9.block) w19 w20 := by rw [e20]; exact ext_setc
  have B20 : Box w20 p9 (nrow ⟨k, f, t', u, x, cg.2.2 a, b⟩) 106 := by rw [e20]; exact B19.set 5 _
  have E20 := E19.trans X20
  obtain ⟨k1', k2', _, _⟩ := keep E20 hg9
  refine ⟨⟨k2'.b8.cell0, k1'⟩, B20.canW (i := 6) (by simp [nrow]), id, ?_⟩
  rintro w21 e21
  have X21 : Ext (· = p9.block) w20 w21 := by rw [e21]; exact ext_setc
  have B21 : Box w21 p9 (nrow ⟨k, f, t', u, x, cg.2.2 a, cg.2.2 b⟩) 106 := by rw [e21]; exact B20.set 6 _
  have E21 := E20.trans X21
  obtain ⟨m1, m2, m3, m4⟩ := keep E21 hg9
  have z21 := E21.size
  refine ⟨some p, m2.b2.cell0, k, f, t', u, x, cg.2.2 a, cg.2.2 b, B21.row, ?_⟩
  have hnn : ({ Sp.nodeOf Lq z with a := cg.2.2 (Sp.nodeOf Lq z).a, b := cg.2.2 (Sp.nodeOf Lq z).b } : Sp.Node) = ⟨k, f, t', u, x, cg.2.2 a, cg.2.2 b⟩ := by rw [← hn]
  refine (c_Make p k f t' u x (cg.2.2 a) (cg.2.2 b) w21 m4 hok).mono ?_
  rintro _ w22 ⟨r4, r5, rfl, he, F2, hP2, E22, hF2⟩
  have he1 := congrArg Prod.fst he
  have he2 := congrArg Prod.snd he
  simp only at he1 he2
  have z22 := E22.size
  have hF'o : ∀ b, F' b → ¬ (b = p2.block ∨ b = p3.block ∨ b = p4.block ∨ b = p5.block ∨ b = p6.block ∨ b = p8.block ∨ b = mb) := fun b hb hh => (g8 b hb).elim (fun h => by have := hP.lt h; have := (ob b hh).1; omega) (fun h => h.2 hh)
  have n22 : CoB w22 p q p2 p3 p4 p5 p6 p8 mb L.length := m2.ext (F' := F') (FQ := FQ) E22 (fun b hb hh => hF'o b hh (by rcases hb with h | h | h | h | h | h <;> simp only [h, true_or, or_true]))
  have M22 := m1.ext E22 (fun hh => hF'o _ hh (by simp))
  have Q22 := m3.ext E22 (fun b hb hh => (g8 b hh).elim (fun h => hd b h hb) (fun h => by have := hPq b hb; omega))
  have kY : Kept Y A w22 := (E21.kept (fun b hb e => by have := hA0 b hb; omega)).trans (E22.kept (fun b hb hh => g9 b (.inr (.inr (.inr (.inr (.inr (.inr (.inr (.inl hh)))))))) hb))
  have E022 : Ext FP w0 w22 := (g10.trans' E21 (fun i hi e => by have := g10.size; omega)).trans' E22 (fun i hi hh => (g8 i hh).elim id (fun h => by omega))
  have hF2o : ∀ b, F2 b → FP b ∨ (w0.heap.size ≤ b ∧ ¬ (b = p2.block ∨ b = p3.block ∨ b = p4.block ∨ b = p5.block ∨ b = p6.block ∨ b = p8.block ∨ b = mb)) := fun b hb => (hF2 b hb).elim (g8 b) (fun h => .inr ⟨by have := g10.size; omega, fun hh => by have := (ob b hh).2; omega⟩)
  have hF2Y : ∀ b, F2 b → ¬ Y b := fun b hb hY => (hF2 b hb).elim (fun h => g9 b (.inr (.inr (.inr (.inr (.inr (.inr (.inr (.inl h)))))))) hY) (fun h => by have := hA0 b hY; omega)
  refine ⟨r4, r5, rfl, E22.kept (fun b hb => hb.elim), fun hc => ?_, fun hc => ?_⟩
  ·have h5 : (Sp.make cg.1 ⟨k, f, t', u, x, cg.2.2 a, cg.2.2 b⟩).2.1 ≠ 0 := by rw [← he2]; exact bne_iff_ne.1 hc
   have hfail := @Sp.copyGo_fail Lq pre post z L (fun _ => 0) (by rw [hcg]; exact g1) ⟨k, f, t', u, x, cg.2.2 a, cg.2.2 b⟩ (by rw [hcg]; exact hnn) (by rw [hcg]; exact h5)
   rw [← hpost, hcg, ← he2] at hfail
   have hcs2 : cs = (0, r5, L) := by rw [hcs', hfail, if_pos (by rw [he2]; exact h5)]
   refine ⟨some p, n22.b2.cell0, _, n22.b6.cell0, ?_⟩
   obtain ⟨Mg, hMg⟩ := Sp.copyGo_grows Lq pre L (fun _ => 0)
   rw [hcg] at hMg
   have hmk : ∃ M2, (Sp.make cg.1 ⟨k, f, t', u, x, cg.2.2 a, cg.2.2 b⟩).2.2 = cg.1 ++ M2 := Sp.make_app _ _
   obtain ⟨M2, hM2⟩ := hmk
   rw [hM2, hMg, List.append_assoc] at hP2
   have hok2 : Sp.Ok (L ++ (Mg ++ M2)) := by rw [← List.append_assoc, ← hMg, ← hM2]; exact Sp.make_ok hok _
   refine (c_cut p L.length w22 hP2 hok2 (by rw [List.length_append]; omega)).mono ?_
   rintro _ w23 ⟨rfl, hP3, E23⟩
   rw [List.take_left] at hP3
   have n23 : CoB w23 p q p2 p3 p4 p5 p6 p8 mb L.length := n22.ext (F' := F') (FQ := FQ) E23 (fun b hb hh => (hF2o b hh).elim (fun h => by have := hP.lt h; have := (ob b (by rcases hb with h | h | h | h | h | h <;> simp only [h, true_or, or_true])).1; omega) (fun h => h.2 (by rcases hb with h | h | h | h | h | h <;> simp only [h, true_or, or_true])))
   refine ⟨rfl, E23.kept (fun b hb => hb.elim), n23.b4.canW0 (by simp), id, ?_⟩
   rintro w24 e24
   have X24 : Ext (· = p4.block) w23 w24 := by rw [e24]; exact Ext.setCell _ _
   have B24 : Box w24 p4 [.int .i64 0] 32 := by rw [e24]; exact n23.b4.set0
   have B25 := n23.b5.ext X24 (fun e => d45 e.symm)
   refine ⟨B25.canW0 (by simp), id, ?_⟩
   rintro w25 e25
   have X25 : Ext (· = p5.block) w24 w25 := by rw [e25]; exact Ext.setCell _ _
   have B25' : Box w25 p5 [.int .i64 r5] 33 := by rw [e25]; exact B25.set0
   have nF : ∀ b, F2 b → b ≠ p4.block ∧ b ≠ p5.block := fun b hb => (hF2o b hb).elim (fun h => by have := hP.lt h; omega) (fun h => ⟨fun e => h.2 (.inr (.inr (.inl e))), fun e => h.2 (.inr (.inr (.inr (.inl e))))⟩)
   have nY4 : ¬ Y p4.block := g9 _ (.inr (.inr (.inl rfl)))
   have nY5 : ¬ Y p5.block := g9 _ (.inr (.inr (.inr (.inl rfl))))
   refine ⟨((kY.trans (E23.kept (fun b hb hh => hF2Y b hh hb))).trans (X24.kept (fun b hb e => nY4 (e ▸ hb)))).trans (X25.kept (fun b hb e => nY5 (e ▸ hb))), F2, r5, hcs2, (hP3.ext X24 (fun b hb e => (nF b hb).1 e)).ext X25 (fun b hb e => (nF b hb).2 e), B24.ext X25 d45, B25', fun b hb => (hF2o b hb).imp id (fun h => h.1), ?_, ((E022.trans' E23 (fun i hi hh => (hF2o i hh).elim id (fun h => by omega))).trans' X24 (fun i hi e => by omega)).trans' X25 (fun i hi e => by omega)⟩
   rintro b (rfl | rfl | hb)
   ·exact nY4
   ·exact nY5
   ·exact hF2Y b hb
  ·have h5 : (Sp.make cg.1 ⟨k, f, t', u, x, cg.2.2 a, cg.2.2 b⟩).2.1 = 0 := by rw [← he2]; simpa using hc
   have hnext := @Sp.copyGo_next Lq pre z L (fun _ => 0) (by rw [hcg]; exact g1) ⟨k, f, t', u, x, cg.2.2 a, cg.2.2 b⟩ (by rw [hcg]; exact hnn) (by rw [hcg]; exact h5)
   rw [hcg, ← he1] at hnext
   have hlk : SE.look M z = none := look_none.2 (by rw [g4]; exact hzn)
   obtain ⟨w26, hr26, hM26, X26⟩ := M22.put (P := Try.prog) (T := 146) Try.underlying146 Try.underlying32 hlk r4
   have nm : ∀ b, F2 b → b ≠ mb := fun b hb => (hF2o b hb).elim (fun h => by have := hP.lt h; have := (ob mb (by simp)).1; omega) (fun h e => h.2 (by simp [e]))
   have nYm : ¬ Y mb := g9 _ (.inr (.inr (.inr (.inr (.inr (.inr (.inl rfl)))))))
   have hmbo := (ob mb (by simp)).1
   refine ⟨some mb, n22.b8.cell0, w26, hr26, X26.kept (fun b hb => hb.elim), kY.trans (X26.kept (fun b hb e => nYm (e ▸ hb))), F2, M ++ [(z, r4)], by rw [hnext], by rw [hnext]; exact hP2.ext X26 (fun b hb e => nm b hb e), hM26, by simp [g4], ?_, n22.ext (F' := F') (FQ := FQ) X26 (fun b hb e => dm b hb e), Q22.ext X26 (fun b hb e => by have := hPq b hb; omega), hF2o, ?_, E022.trans' X26 (fun i hi e => by omega), by have := X26.size; omega⟩
   ·intro y
    rw [hnext]
    simp only
    unfold ownM
    rw [look_snoc (by rw [g4]; exact hzn)]
    by_cases e : y = z
    ·rw [if_pos e, if_pos e.symm]; rfl
    ·rw [if_neg e, if_neg (fun h => e h.symm)]; exact g5 y
   ·rintro b (hb | hb | hb | hb | hb | hb | hb | hb | hb)
    ·exact g9 b (.inl hb)
    ·exact g9 b (.inr (.inl hb))
    ·exact g9 b (.inr (.inr (.inl hb)))
    ·exact g9 b (.inr (.inr (.inr (.inl hb))))
    ·exact g9 b (.inr (.inr (.inr (.inr (.inl hb)))))
    ·exact g9 b (.inr (.inr (.inr (.inr (.inr (.inl hb))))))
    ·exact g9 b (.inr (.inr (.inr (.inr (.inr (.inr (.inl hb)))))))
    ·exact hF2Y b hb
    ·exact g9 b (.inr (.inr (.inr (.inr (.inr (.inr (.inr (.inr hb))))))))
 ·rintro H1 w27 hs27 _ _ ⟨F', M, g1, g2, g3, g4, g5, g6, g7, g8, g9, g10, g11⟩
  have hcs2 : cs = ((copyGo Lq xs L (fun _ => 0)).2.2 t, 0, (copyGo Lq xs L (fun _ => 0)).1) := by rw [hcs', if_neg (by simpa using g1)]
  have hlk : (Instr.lookup 146 (.map (some mb)) (.int .i64 t) false).run Try.prog w27 = .ok (.int .i64 ((copyGo Lq xs L (fun _ => 0)).2.2 t)) w27 := by
   rw [g5 t]
   rcases g3.get (P := Try.prog) (T := 146) Try.underlying146 Try.underlying32 (Try.zeroValue32 _) t false with ⟨hn, hr⟩ | ⟨v, hv, hr⟩
   ·unfold ownM; rw [hn]; exact hr
   ·unfold ownM; rw [hv]; exact hr
  generalize hcg : copyGo Lq xs L (fun _ => 0) = cg at *
  have nY4 : ¬ H1 p4.block := g9 _ (.inr (.inr (.inl rfl)))
  have nY5 : ¬ H1 p5.block := g9 _ (.inr (.inr (.inr (.inl rfl))))
  refine ⟨some mb, g6.b8.cell0, _, hlk, g6.b4.canW0 (by simp), nY4, ?_⟩
  rintro w28 e28
  have X28 : Ext (· = p4.block) w27 w28 := by rw [e28]; exact Ext.setCell _ _
  have B28 : Box w28 p4 [.int .i64 (cg.2.2 t)] 32 := by rw [e28]; exact g6.b4.set0
  have B28' := g6.b5.ext X28 (fun e => d45 e.symm)
  refine ⟨B28'.canW0 (by simp), nY5, ?_⟩
  rintro w29 e29
  have X29 : Ext (· = p5.block) w28 w29 := by rw [e29]; exact Ext.setCell _ _
  have B29 : Box w29 p5 [.int .i64 0] 33 := by rw [e29]; exact B28'.set0
  have B29' := B28.ext X29 d45
  intro w30 hs30
  have nF : ∀ b, F' b → b ≠ p4.block ∧ b ≠ p5.block := fun b hb => (g8 b hb).elim (fun h => by have := hP.lt h; omega) (fun h => ⟨fun e => h.2 (.inr (.inr (.inl e))), fun e => h.2 (.inr (.inr (.inr (.inl e))))⟩)
  refine ⟨_, (B29'.ext hs30.ext nY4).cell0, _, (B29.ext hs30.ext nY5).cell0, ?_⟩
  rw [hcs2]
  refine ⟨rfl, rfl, F', ((g2.ext X28 (fun b hb e => (nF b hb).1 e)).ext X29 (fun b hb e => (nF b hb).2 e)).ext hs30.ext (fun b hb => g9 b (.inr (.inr (.inr (.inr (.inr (.inr (.inr (.inl hb))))))))), ((g10.trans' X28 (fun i hi e => by omega)).trans' X29 (fun i hi e => by omega)).hst hs30, fun b hb => (g8 b hb).imp id (fun h => h.1)⟩
 ·rintro pre H2 w32 hs32 ⟨F', e, g1, g2, g3, g4, g5, g6, g7⟩
  refine ⟨_, g3.cell0, _, g4.cell0, ?_⟩
  rw [g1]
  exact ⟨rfl, rfl, F', g2, g7, g5⟩
end Go.Proofs
end
section
open Go Go.SE
namespace Go.Proofs
attribute [local irreducible] Calls CallsD
theorem c_Decode {S0 : NP} (p : Addr) (sb : Sl) (bs : List UInt8) (w0 : World) {L : Sp.Pool} {FP : NP} (hW : Sp.Wf L) (hP : PoolAt w0 p L FP) (hs : Lst S0 w0 1 sb (byr bs)) (hz : sb.a = none → sb = Sl.nil) :
  Calls Try.prog 22 #[.pointer (some p), sb.v] w0 (fun e w' => ∃ t x y : Int, e = .returned (.tuple #[.int .i64 t, .int .i64 x, .int .i64 y]) ∧ (t = (decS L bs).1 ∧ x = (decS L bs).2.1 ∧ y = ((decS L bs).2.2.1 : Int) ∧ ∃ F', PoolAt w' p (decS L bs).2.2.2 F' ∧ Ext FP w0 w' ∧ ∀ b, F' b → FP b ∨ w0.heap.size ≤ b)) := by
 refine w_F2 _ _ w0 (fun t x y w' => t = (decS L bs).1 ∧ x = (decS L bs).2.1 ∧ y = ((decS L bs).2.2.1 : Int) ∧ ∃ F', PoolAt w' p (decS L bs).2.2.2 F' ∧ Ext FP w0 w' ∧ ∀ b, F' b → FP b ∨ w0.heap.size ≤ b) ?_
 unfold m_F2
 refine ⟨fun hc => (by cases hc), fun _ => ?_⟩
 refine (c_read sb bs w0 hs hz).mono ?_
 rintro _ w1 ⟨x, y, z, rfl, hy, hz', hout, E1⟩
 refine ⟨_, _, _, rfl, ?_⟩
 cases hq : (rdText bs).1 with
 | none =>
  have hd : decS L bs = (0, (rdText bs).2.1, (rdText bs).2.2, L) := by unfold decS; rw [hq]
  have he : y ≠ 0 := by rw [hy]; exact Sp.rdText_err hq
  refine ⟨fun _ => ?_, fun hc => absurd (by simpa using hc) he⟩
  rw [hd]
  exact ⟨rfl, hy, hz', FP, hP.pure E1, Ext.pure E1, fun b hb => .inl hb⟩
 | some q =>
  obtain ⟨a, F, rfl, hPq, hF⟩ := hout.pool hq
  obtain ⟨g1, _, g3, _⟩ := Sp.rdText_get hq
  have h0 := Sp.rdText_ok hq
  have hd : decS L bs = ((copyS L q q.length).1, (copyS L q q.length).2.1, 0, (copyS L q q.length).2.2) := by unfold decS; rw [hq]
  rw [h0] at hy
  refine ⟨fun hc => absurd hy (by simpa using hc), fun _ => ?_⟩
  refine (c_term_Len a w1 hPq).mono ?_
  rintro _ w2 ⟨_, rfl, rfl, rfl⟩
  refine ⟨_, rfl, ?_⟩
  refine (c_Copy p a q.length w2 hW g1 (hP.pure E1) hPq (fun b hb hh => by have := hP.lt hb; have := hF b hh; omega)).mono ?_
  rintro _ w3 ⟨r1, r2, rfl, h1, h2, F', hP', E3, hF'⟩
  refine ⟨_, _, rfl, ?_⟩
  rw [hd]
  exact ⟨h1, h2, rfl, F', hP', (Ext.pure E1).trans E3, fun b hb => (hF' b hb).imp id (fun h => by have := E1.size; omega)⟩
end Go.Proofs
end
section
open Go Go.SE
namespace Go.Proofs
attribute [local irreducible] Calls CallsD
theorem rws_hz {w : World} {e : TypeId} {sz : Nat} {s : Sl} {rs : List (List Value)} (h : Rws w e sz s rs) : s.a = none → s = Sl.nil := by
 intro ha
 rcases h.own with ⟨h, _⟩ | ⟨g, cur, h, _⟩
 ·exact h
 ·rw [ha] at h; cases h
theorem call_put (f : Fld) : ∀ args w, (callFunc f.put args).run Try.prog w = .ok (.enter f.put args) w := by
 cases f
 ·exact Try.call166
 ·exact Try.call170
 ·exact Try.call172
 ·exact Try.call174
 ·exact Try.call178
 ·exact Try.call180
theorem cmap_size {P : Program} {T K E Q : TypeId} {w : World} {m : Nat} {es : List (Value × Value)} (h : CMap w m es) (hT : P.underlying T = some (.map K E)) : (Builtin.len_ #[T] Q #[.map (some m)]).run P w = .ok (.int .i64 (es.length : Int)) w := by
 obtain ⟨arr, clock, hm, rfl, _, _⟩ := h.ex
 have hg : (getObj m).run P w = .ok (.map arr clock) w := by simp [getObj, Sem.run, hm]
 simp [Builtin.len_, run_underlying hT, hg, goInt]
theorem flds_fst {n : Sp.Node} (h : Fld.fst ∈ flds n.kind) : n.a ∈ Sp.kidsOf n := by
 unfold flds at h
 unfold Sp.kidsOf Sp.shapeOf
 repeat' split at h
 all_goals first | (exfalso; revert h; decide) | skip
 all_goals (rename_i h1; rw [h1]; simp)
theorem flds_snd {n : Sp.Node} (h : Fld.snd ∈ flds n.kind) : n.b ∈ Sp.kidsOf n := by
 unfold flds at h
 unfold Sp.kidsOf Sp.shapeOf
 repeat' split at h
 all_goals first | (exfalso; revert h; decide) | skip
 all_goals (rename_i h1; rw [h1]; simp)
structure LaySep (p2 p3 p4 p6 : Addr) (m mb : Nat) (FP F : NP) (B : Nat) : Prop where
 lt : p2.block < B ∧ p3.block < B ∧ p4.block < B ∧ p6.block < B ∧ m < B ∧ mb < B
 lF : ∀ b, F b → b < B
 lP : ∀ b, FP b → b < B
 d3 : p2.block ≠ p3.block ∧ p4.block ≠ p3.block ∧ p6.block ≠ p3.block ∧ mb ≠ p3.block ∧ m ≠ p3.block ∧ ¬ F p3.block ∧ ¬ FP p3.block
 db : p2.block ≠ mb ∧ p4.block ≠ mb ∧ p6.block ≠ mb ∧ m ≠ mb ∧ ¬ F mb ∧ ¬ FP mb
def LayV (p2 p3 p4 p6 : Addr) (m mb : Nat) (FP F : NP) (s : Sl) (b : Nat) : Prop :=
 b = p2.block ∨ b = p3.block ∨ b = p4.block ∨ b = p6.block ∨ b = m ∨ b = mb ∨ F b ∨ FP b ∨ s.blk b
structure LayAt (A : World) (p p2 p3 p4 p6 : Addr) (m mb : Nat) (L : Sp.Pool) (FP F : NP) (s : Sl) (bs : List UInt8) (M : List (Int × Int)) : Prop where
 b2 : Box A p2 [.pointer (some p)] 36
 b3 : Box A p3 [s.v] 44
 b4 : Box A p4 [.map (some m)] 189
 b6 : Box A p6 [.map (some mb)] 155
 rows : Rws A 5 1 s (byr bs)
 nums : IMap (fun i : Int => .int .i64 i) A mb M
 kinds : Kinds A m F
 pool : PoolAt A p L FP
section
variable {A A' : World} {p p2 p3 p4 p6 : Addr} {m mb B : Nat} {L : Sp.Pool} {FP F G : NP} {s s' : Sl} {bs bs' : List UInt8} {M : List (Int × Int)}
theorem LayAt.ext (h : LayAt A p p2 p3 p4 p6 m mb L FP F s bs M) (E : Ext G A A') (hG : ∀ b, LayV p2 p3 p4 p6 m mb FP F s b → ¬ G b) : LayAt A' p p2 p3 p4 p6 m mb L FP F s bs M :=
 ⟨h.b2.ext E (hG _ (.inl rfl)), h.b3.ext E (hG _ (.inr (.inl rfl))), h.b4.ext E (hG _ (.inr (.inr (.inl rfl)))), h.b6.ext E (hG _ (.inr (.inr (.inr (.inl rfl))))),
 h.rows.ext E (fun b hb => hG b (.inr (.inr (.inr (.inr (.inr (.inr (.inr (.inr hb))))))))), h.nums.ext E (hG _ (.inr (.inr (.inr (.inr (.inr (.inl rfl))))))),
 h.kinds.ext E (fun b hb => hb.elim (fun hb => hG b (.inr (.inr (.inr (.inr (.inr (.inr (.inl hb)))))))) (fun e => hG b (.inr (.inr (.inr (.inr (.inl e))))))),
 h.pool.ext E (fun b hb => hG b (.inr (.inr (.inr (.inr (.inr (.inr (.inr (.inl hb)))))))))⟩
theorem LayAt.pure (h : LayAt A p p2 p3 p4 p6 m mb L FP F s bs M) (E : Pure A A') : LayAt A' p p2 p3 p4 p6 m mb L FP F s bs M := h.ext E (fun _ _ h => h)
theorem LayAt.lt (h : LayAt A p p2 p3 p4 p6 m mb L FP F s bs M) {b : Nat} (hb : LayV p2 p3 p4 p6 m mb FP F s b) : b < A.heap.size := by
 rcases hb with rfl | rfl | rfl | rfl | rfl | rfl | hb | hb | hb
 ·exact h.b2.lt
 ·exact h.b3.lt
 ·exact h.b4.lt
 ·exact h.b6.lt
 ·exact h.kinds.mlt
 ·exact h.nums.lt
 ·exact h.kinds.lt _ hb
 ·exact h.pool.lt hb
 ·exact h.rows.lt hb
theorem LayAt.put (h : LayAt A p p2 p3 p4 p6 m mb L FP F s bs M) (S : LaySep p2 p3 p4 p6 m mb FP F B) (hs : ∀ b, s.blk b → B ≤ b) (hs' : ∀ b, s'.blk b → B ≤ b) (E : Ext s.blk A A') (hR : Rws A' 5 1 s' (byr bs')) :
  LayAt (A'.setCell p3 s'.v) p p2 p3 p4 p6 m mb L FP F s' bs' M ∧ Ext (fun b => s.blk b ∨ b = p3.block) A (A'.setCell p3 s'.v) := by
 have E2 : Ext (· = p3.block) A' (A'.setCell p3 s'.v) := Ext.setCell p3 _
 have EE : Ext (fun b => s.blk b ∨ b = p3.block) A (A'.setCell p3 s'.v) := (E.mono (fun b _ h => .inl h)).trans (E2.mono (fun b _ h => .inr h))
 obtain ⟨l2, l3, l4, l6, lm, lb⟩ := S.lt
 obtain ⟨d2, d4, d6, d7, d8, d9, d10⟩ := S.d3
 have ns : ∀ b, b < B → ¬ s.blk b := fun b hb hh => by have := hs b hh; omega
 have b3 := (h.b3.ext E (ns _ l3)).set0 (v := s'.v)
 refine ⟨⟨h.b2.ext EE ?_, b3, h.b4.ext EE ?_, h.b6.ext EE ?_, hR.ext E2 (fun b hb e => by have := hs' b hb; omega), h.nums.ext EE ?_, h.kinds.ext EE ?_, h.pool.ext EE ?_⟩, EE⟩
 ·rintro (hh | hh)
  ·exact ns _ l2 hh
  ·exact d2 hh
 ·rintro (hh | hh)
  ·exact ns _ l4 hh
  ·exact d4 hh
 ·rintro (hh | hh)
  ·exact ns _ l6 hh
  ·exact d6 hh
 ·rintro (hh | hh)
  ·exact ns _ lb hh
  ·exact d7 hh
 ·rintro b (hb | rfl) (hh | hh)
  ·exact ns _ (S.lF b hb) hh
  ·subst hh; exact d9 hb
  ·exact ns _ lm hh
  ·exact d8 hh
 ·rintro b hb (hh | hh)
  ·exact ns _ (S.lP b hb) hh
  ·subst hh; exact d10 hb
end
theorem c_lay (p : Addr) (t : Int) (w0 : World) {L : Sp.Pool} {FP : NP} (hW : Sp.Wf L) (hN : Sp.Nums L) (hP : PoolAt w0 p L FP) :
  Calls Try.prog 76 #[.pointer (some p), .int .i64 t] w0 (fun e w' => ∃ r : Sl, e = .returned r.v ∧ RetO w0 5 1 (byr (textOf L t)) r w') := by
 refine w_E1 _ _ w0 (fun r w' => RetO w0 5 1 (byr (textOf L t)) r w') ?_
 unfold m_E1
 intro p2 w1 h1 p3 w2 h2
 have E1 : Pure w0 w1 := Ext.new h1
 have E2 : Pure w1 w2 := Ext.new h2
 have B2 := (Box.of_new h1).pure E2
 have B3 := Box.of_new h2
 have s1 := h1.at_size; have s2 := h2.at_size; have l2 := (Box.of_new h1).lt; have l3 := B3.lt; have z1 := E1.size; have z2 := E2.size
 refine (c_kinds w2).mono ?_
 rintro _ w3 ⟨_, rfl, m, F, rfl, hK, E3, hm, hF⟩
 have z3 := E3.size
 have lm := hK.mlt
 refine ⟨_, rfl, E3.keptP, ?_⟩
 intro p4 w4 h4
 have E4 : Pure w3 w4 := Ext.new h4
 have B4 := Box.of_new h4
 have s4 := h4.at_size; have l4 := B4.lt; have z4 := E4.size
 refine ⟨B4.canW0 (by simp), fun h => h, ?_⟩
 rintro w5 h5
 have X5 : Ext (· = p4.block) w4 w5 := by rw [h5]; exact Ext.setCell p4 _
 have B4' : Box w5 p4 [.map (some m)] 189 := by rw [h5]; exact B4.set0
 have z5 := X5.size
 intro p5 w6 h6
 have E6 : Pure w5 w6 := Ext.new h6
 have M5 := IMap.of_new (f := fun i : Int => .int .i64 i) h6
 have s6 := h6.at_size; have l5 := M5.lt; have z6 := E6.size
 intro p6 w7 h7
 have E7 : Pure w6 w7 := Ext.new h7
 have B6 := Box.of_new h7
 have s7 := h7.at_size; have l6 := B6.lt; have z7 := E7.size
 refine ⟨B6.canW0 (by simp), fun h => h, ?_⟩
 rintro w8 h8
 have X8 : Ext (· = p6.block) w7 w8 := by rw [h8]; exact Ext.setCell p6 _
 have B6' : Box w8 p6 [.map (some p5.block)] 155 := by rw [h8]; exact B6.set0
 have z8 := X8.size
 have E08 : Pure w0 w8 := ((((((E1.trans E2).trans E3).trans E4).own (by omega) X5).trans E6).trans E7).own (by omega) X8
 have P8 := hP.pure E08
 have up : ∀ {T : TypeId} {c : Addr} {vs : List Value}, Box w5 c vs T → c.block ≠ p6.block → Box w8 c vs T := fun h h2 => ((h.pure E6).pure E7).ext X8 h2
 have up3 : ∀ {T : TypeId} {c : Addr} {vs : List Value}, Box w2 c vs T → c.block ≠ p4.block → c.block ≠ p6.block → Box w8 c vs T := fun h h1 h2 => up (((h.pure E3).pure E4).ext X5 h1) h2
 have B28 := up3 B2 (by omega) (by omega)
 have B38 := up3 B3 (by omega) (by omega)
 have B48 := up B4' (by omega)
 have M58 := (M5.pure E7).ext X8 (by omega)
 have hFlt := hK.lt
 have K8 : Kinds w8 m F := (((((hK.pure E4).ext X5 (fun b hb e => hb.elim (fun hb => by have := hFlt b hb; omega) (fun hb => by omega))).pure E6).pure E7).ext X8 (fun b hb e => hb.elim (fun hb => by have := hFlt b hb; omega) (fun hb => by omega)))
 refine ⟨some p, B28.cell0, ?_⟩
 refine (c_Subs p t w8).mono ?_
 rintro _ w9 ⟨_, rfl, q2, q3, rfl, Bq2, Bq3, E9⟩
 have z9 := E9.size
 have E09 := E08.trans E9
 refine ⟨_, rfl, E9.keptP, _, _, rfl, Try.call85, _, _, it_Subs hW (P8.pure E9) Bq2 Bq3, ?_⟩
 have hPlt : ∀ b, FP b → b < w0.heap.size := fun b hb => hP.lt hb
 have S : LaySep p2 p3 p4 p6 m p5.block FP F w9.heap.size := ⟨⟨by omega, by omega, by omega, by omega, by omega, by omega⟩, fun b hb => by have := hFlt b hb; omega, fun b hb => by have := hPlt b hb; omega,
  ⟨by omega, by omega, by omega, by omega, by omega, fun hb => by have := hF _ hb; omega, fun hb => by have := hPlt _ hb; omega⟩, ⟨by omega, by omega, by omega, by omega, fun hb => by have := hFlt _ hb; omega, fun hb => by have := hPlt _ hb; omega⟩⟩
 have A9 : LayAt w9 p p2 p3 p4 p6 m p5.block L FP F Sl.nil [] [] := ⟨B28.pure E9, B38.pure E9, B48.pure E9, B6'.pure E9, Rws.nil _ _ _, M58.pure E9, K8.pure E9, P8.pure E9⟩
 have hnil : ∀ b, ¬ Sl.nil.blk b := fun b hb => by obtain ⟨a, h, _⟩ := hb; cases h
 have hfew := Sp.subs_few hW t
 have hsub : ∀ u ∈ Sp.subs L t, Sp.inP L u = true := fun u hu => have h := (Sp.subs_mem hW).1 hu; (Sp.Sub.le hW h.1 h.2).1
 have hord := Sp.subs_ord hW t
 have hnd := Sp.subs_nodup hW t
 have htx : textOf L t = textFrom L [] (Sp.subs L t) := rfl
 rw [htx]
 generalize hxs : Sp.subs L t = xs at *
 have hL := hW.ok.few
 generalize hB : w9.heap.size = B at *
 have hw3 : w0.heap.size ≤ p3.block := by omega
 have hw5 : w0.heap.size ≤ p5.block := by omega
 have hwB : w0.heap.size ≤ B := by omega
 generalize p5.block = mb at *
 clear up up3 B28 B38 B48 M58 K8 P8 B2 B3 B4 B4' M5 B6 B6' X5 X8 E1 E2 E3 E4 E6 E7 h1 h2 h4 h5 h6 h7 h8 hK hF hFlt Bq2 Bq3
 refine ⟨fun pre Y A => ∃ s : Sl, LayAt A p p2 p3 p4 p6 m mb L FP F s (textFrom L [] pre) (numFrom 0 pre) ∧ (∀ b, s.blk b → B ≤ b) ∧ (∀ b, LayV p2 p3 p4 p6 m mb FP F s b → ¬ Y b) ∧ B ≤ A.heap.size ∧ Pure w0 A, ⟨fun _ _ _ _ => trivial, ?_, fun _ _ _ _ _ h => h.elim, fun _ _ _ _ _ h => h.elim⟩, ?_, ?_, ?_⟩
 ·rintro pre Y A Y' A' ⟨s, hA, hs, hv, hz, hE⟩ hst
  have hv' : ∀ b, LayV p2 p3 p4 p6 m mb FP F s b → ¬ Y' b := hst.disj (fun b hb => ⟨hA.lt hb, hv b hb⟩)
  exact ⟨s, hA.ext hst.ext hv', hs, hv', Nat.le_trans hz hst.ext.size, hE.hst hst⟩
 ·exact ⟨Sl.nil, A9, fun b hb => (hnil b hb).elim, fun b _ h => h, by omega, E09⟩
 ·rintro pre z Y A ⟨s, hA, hs, hv, hz, hE⟩ hsA ⟨post, hpost⟩
  have hzin : Sp.inP L z = true := hsub z (by rw [hpost]; simp)
  have hprein : ∀ u ∈ pre, Sp.inP L u = true := fun u hu => hsub u (by rw [hpost]; simp [hu])
  have hplen : pre.length < 65536 := by have := congrArg List.length hpost; simp only [List.length_append, List.length_cons] at this; omega
  have hzn : z ∉ pre := by
   rw [hpost] at hnd
   have := (List.nodup_append.1 hnd).2.2
   exact fun h => this z h z (by simp) rfl
  have hbs := textFrom_len hW hN pre [] hprein (by simp only [List.length_nil]; omega)
  refine ⟨some p, hA.b2.cell0, ?_⟩
  refine (c_Node p z A hA.pool hW.ok).mono ?_
  rintro _ w10 ⟨k, r, t', u, x, a, b, r3, rfl, ⟨hn, _⟩, E10⟩
  refine ⟨_, _, _, _, _, _, _, _, rfl, E10.keptP, fun H1 w12 hs12 => ?_⟩
  obtain ⟨k1, k9, f0, f1, t0, t1, x1⟩ := Sp.node_fit hW hzin
  have hnum := hN.node z
  have hko := hord pre z post hpost
  have hnt : nodeText L pre z = UInt8.ofNat k.toNat :: (flds k).flatMap (Fld.bytes ⟨k, r, t', u, x, a, b⟩ (posOf pre a) (posOf pre b)) := by rw [nodeText, ← hn]
  rw [← hn] at k1 k9 f0 f1 t0 t1 x1 hnum hko
  simp only at k1 k9 f0 f1 t0 t1 x1 hnum
  have hold : ∀ b, H1 b → A.heap.size ≤ b := hs12.old
  have A12 := (hA.pure E10).ext hs12.ext (fun b hb hh => by have := hold b hh; have := hA.lt hb; omega)
  have E012 : Pure w0 w12 := (hE.trans E10).trans' hs12.ext (fun i hi hh => by have := hold i hh; have := hE.size; omega)
  have k12 : Kept Y A w12 := (E10.keptP).trans (hs12.ext.kept (fun b hb hh => by have := hold b hh; have := hsA.lt b hb; omega))
  have z10 := E10.size
  have z12 := hs12.ext.size
  refine ⟨s, A12.b3.cell0, fun p8 w13 h8 => ?_⟩
  have E13 : Pure w12 w13 := Ext.new h8
  have A13 := A12.pure E13
  have z13 := E13.size
  obtain ⟨kn, rfl⟩ : ∃ kn : Nat, k = kn := ⟨k.toNat, by omega⟩
  simp only [Int.toNat_natCast] at hnt
  rw [wrap_u8] at h8
  obtain ⟨s1, w14, hr, hR, hEx, hb⟩ := A13.rows.append (P := Try.prog) (ty := 44) (c := 1) slT_by (Box.of_newA h8).row rfl rfl (by rw [byr_len]; omega) (by rw [byr_len]; simp only [maxLen]; omega)
  have hs1 : ∀ b, s1.blk b → B ≤ b := fun b hh => (hb b hh).elim (hs b) (fun h => by omega)
  have hy1 : ∀ b, s1.blk b → ¬ Y b := fun b hh hY => (hb b hh).elim (fun h => hv b (.inr (.inr (.inr (.inr (.inr (.inr (.inr (.inr h)))))))) hY) (fun h => by have := hsA.lt b hY; omega)
  have h3A : p3.block < A.heap.size := hA.b3.lt
  have hH3 : ¬ H1 p3.block := fun h => by have := hold _ h; omega
  have hHs : ∀ b, H1 b → ¬ s.blk b := fun b hh hb => by have := hold b hh; have := hA.rows.lt hb; omega
  have hY3 : ¬ Y p3.block := hv _ (.inr (.inl rfl))
  have hYs : ∀ b, Y b → ¬ s.blk b := fun b hY hb => hv b (.inr (.inr (.inr (.inr (.inr (.inr (.inr (.inr hb)))))))) hY
  refine ⟨s1, w14, hr, hEx.kept hHs, ((A13.b3.ext hEx (fun hb => by have := hs _ hb; have := S.lt; omega)).canW0 (by simp)), hH3, ?_⟩
  rintro w15 h15
  have hR' : Rws w14 5 1 s1 (byr (textFrom L [] pre ++ [UInt8.ofNat kn])) := by rw [byr_app]; exact hR
  obtain ⟨A15, X15⟩ := A13.put S hs hs1 hEx hR'
  rw [← h15] at A15 X15
  have E015 : Pure w0 w15 := (E012.trans E13).trans' X15 (fun i hi hh => hh.elim (fun hh => by have := hs _ hh; omega) (fun hh => by omega))
  have k15 : Kept Y A w15 := (k12.trans E13.keptP).trans (X15.kept (fun b hY hh => hh.elim (hYs b hY) (fun e => by subst e; exact hY3 hY)))
  have z15 := X15.size
  obtain ⟨fs, hlk, hLf⟩ := A15.kinds.get kn k1 k9 false
  refine ⟨some m, A15.b4.cell0, fs, hlk, ?_⟩
  have hfl3 := flds_len kn
  refine ⟨fun y H w => ∃ (j : Nat) (s : Sl), y = j ∧ j ≤ (flds kn).length ∧ H = H1 ∧ LayAt w p p2 p3 p4 p6 m mb L FP F s (textFrom L [] pre ++ UInt8.ofNat kn :: ((flds kn).take j).flatMap (Fld.bytes ⟨kn, r, t', u, x, a, b⟩ (posOf pre a) (posOf pre b))) (numFrom 0 pre) ∧ Lst F w 2 fs ((flds kn).map Fld.row) ∧ (∀ b, s.blk b → B ≤ b) ∧ (∀ b, s.blk b → ¬ Y b) ∧ Kept Y A w ∧ Pure w0 w ∧ A.heap.size ≤ w.heap.size, fun y _ => (((flds kn).length : Int) - y).toNat, ⟨0, s1, rfl, Nat.zero_le _, rfl, by simpa using A15, hLf, hs1, hy1, k15, E015, by omega⟩, ?_⟩
  rintro _ _ wl hst ⟨j, s2, rfl, hj, rfl, A2, hL2, hs2, hy2, k2, E2, z2⟩
  unfold m_E1_l1
  have hlen : fs.len = (flds kn).length := by rw [hL2.len, List.length_map]
  refine ⟨fun hc => ?_, fun hc => ?_⟩
  ·have hc := lt_of_dec hlen hc
   obtain ⟨a1, hat, hF1, hrow⟩ := hL2.at_ j (by simpa using hc)
   rw [List.getElem_map] at hrow
   refine ⟨a1, hat, .func (.func (flds kn)[j].put) #[] #[], .func (.func (flds kn)[j].get) #[] #[], hrow, fun p9 w16 h9 => ?_⟩
   have E16 : Pure wl w16 := Ext.new h9
   have B9 := Box.of_newA h9
   have s9 := h9.at_size
   have z16 := E16.size
   refine ⟨⟨rfl, B9.canWs (by simp)⟩, fun hh => by have := hst.lt _ hh; omega, ?_⟩
   rintro w17 h17
   have X17 : Ext (· = p9.block) w16 w17 := by rw [h17]; exact Ext.storeRow _ _ _
   have B9' : Box w17 p9 [.func (.func (flds kn)[j].put) #[] #[], .func (.func (flds kn)[j].get) #[] #[]] 195 := by rw [h17]; exact B9.store rfl
   have A17 := (A2.pure E16).ext X17 (fun b hb e => by have := A2.lt hb; omega)
   have L17 := (hL2.pure E16).ext X17 (fun b hb e => by have := A2.kinds.lt b hb; omega)
   have z17 := X17.size
   have E017 : Pure w0 w17 := (E2.trans E16).own (by have := E2.size; omega) X17
   have k17 : Kept Y A w17 := (k2.trans E16.keptP).trans (X17.kept (fun b hY e => by have := hsA.lt b hY; omega))
   refine ⟨_, B9'.cell0, s2, A17.b3.cell0, some mb, A17.b6.cell0, _, #[], #[], rfl, call_put _, ?_⟩
   simp only [Array.empty_append, Array.append_empty]
   have hbl := flat_lenN (Fld.bytes ⟨kn, r, t', u, x, a, b⟩ (posOf pre a) (posOf pre b)) 74 ((flds kn).take j) (fun f _ => fld_len _ _ _ f f1 t1 hnum x1 (by have := posOf_le pre a; omega) (by have := posOf_le pre b; omega))
   have hbl2 : ((flds kn).take j).length ≤ 3 := by rw [List.length_take]; omega
   have hbn : (textFrom L [] pre ++ UInt8.ofNat kn :: ((flds kn).take j).flatMap (Fld.bytes ⟨kn, r, t', u, x, a, b⟩ (posOf pre a) (posOf pre b))).length ≤ 10000000000 := by
    rw [List.length_append, List.length_cons]; omega
   refine (c_put (flds kn)[j] s2 _ ⟨kn, r, t', u, x, a, b⟩ (posOf pre a) (posOf pre b) mb (numFrom 0 pre) w17 A17.rows.lst (rws_hz A17.rows) hbn ⟨f0, by simp only; omega⟩ ⟨t0, by simp only; omega⟩ hnum (by simp only; omega) A17.nums (fun e => ?_) (fun e => ?_)).mono ?_
   ·have hmem : a ∈ pre := hko _ (flds_fst (n := ⟨kn, r, t', u, x, a, b⟩) (by rw [← e]; exact List.getElem_mem _))
    exact ⟨by rw [numFrom_look pre a hmem 0]; simp, by have := posOf_le pre a; omega⟩
   ·have hmem : b ∈ pre := hko _ (flds_snd (n := ⟨kn, r, t', u, x, a, b⟩) (by rw [← e]; exact List.getElem_mem _))
    exact ⟨by rw [numFrom_look pre b hmem 0]; simp, by have := posOf_le pre b; omega⟩
   rintro _ w18 ⟨r4, rfl, hR4⟩
   have E18 := hR4.pure
   have z18 := E18.size
   refine ⟨r4, rfl, hR4.kept, (A17.b3.pure E18).canW0 (by simp), hH3, ?_⟩
   rintro w19 h19
   have hs4 : ∀ b, r4.blk b → B ≤ b := fun b hb => by have := hR4.own b hb; omega
   have hR5 : Rws w18 5 1 r4 (byr (textFrom L [] pre ++ UInt8.ofNat kn :: ((flds kn).take (j + 1)).flatMap (Fld.bytes ⟨kn, r, t', u, x, a, b⟩ (posOf pre a) (posOf pre b)))) := by
    have e : textFrom L [] pre ++ UInt8.ofNat kn :: ((flds kn).take (j + 1)).flatMap (Fld.bytes ⟨kn, r, t', u, x, a, b⟩ (posOf pre a) (posOf pre b)) = (textFrom L [] pre ++ UInt8.ofNat kn :: ((flds kn).take j).flatMap (Fld.bytes ⟨kn, r, t', u, x, a, b⟩ (posOf pre a) (posOf pre b))) ++ (flds kn)[j].bytes ⟨kn, r, t', u, x, a, b⟩ (posOf pre a) (posOf pre b) := by
     rw [List.take_succ_eq_append_getElem hc, List.flatMap_append]; simp
    rw [e]; exact hR4.rows
   obtain ⟨A19, X19⟩ := A17.put S hs2 hs4 E18.pure hR5
   rw [← h19] at A19 X19
   have z19 := X19.size
   refine ⟨⟨j + 1, r4, wrap_succ hc (by omega), hc, trivial, A19, L17.ext X19 (fun b hb hh => ?_), hs4, fun b hb hY => by have := hR4.own b hb; have := hsA.lt b hY; omega, k17.trans (X19.kept (fun b hY hh => hh.elim (fun h => hy2 b h hY) (fun e => by subst e; exact hY3 hY))), E017.trans' X19 (fun i hi hh => hh.elim (fun hh => by have := hs2 _ hh; omega) (fun hh => by omega)), by omega⟩, ?_⟩
   ·rcases hh with hh | hh
    ·have := hs2 b hh; have := S.lF b hb; omega
    ·subst hh; exact S.d3.2.2.2.2.2.1 hb
   ·rw [wrap_succ hc (by omega)]; exact lt_dec hc
  ·have hc := eq_of_dec hlen hj hc
   subst hc
   rw [List.take_length] at A2
   have e : textFrom L [] (pre ++ [z]) = textFrom L [] pre ++ UInt8.ofNat kn :: (flds kn).flatMap (Fld.bytes ⟨kn, r, t', u, x, a, b⟩ (posOf pre a) (posOf pre b)) := by rw [textFrom_snoc, List.nil_append, hnt]
   have hlk0 : SE.look (numFrom 0 pre) z = none := look_none.2 (by rw [numFrom_keys]; exact hzn)
   obtain ⟨w20, hr20, hM20, X20⟩ := A2.nums.put (P := Try.prog) (T := 155) Try.underlying155 Try.underlying32 hlk0 ((pre.length : Nat) : Int)
   have hz3 : (Builtin.len_ #[155] 3 #[.map (some mb)]).run Try.prog wl = .ok (.int .i64 ((pre.length : Nat) : Int)) wl := by
    have := cmap_size A2.nums.map (P := Try.prog) (T := 155) (Q := 3) Try.underlying155
    rw [List.length_map, numFrom_len] at this
    exact this
   have hYb : ¬ Y mb := hv _ (.inr (.inr (.inr (.inr (.inr (.inl rfl))))))
   have kk : ∀ {H : NP}, ¬ H mb → Kept H wl w20 := fun h => X20.kept (fun b hb e => by subst e; exact h hb)
   have hmbA : mb < A.heap.size := hA.nums.lt
   refine ⟨some mb, A2.b6.cell0, some mb, A2.b6.cell0, _, hz3, w20, hr20, kk (fun h => by have := hold _ h; omega), k2.trans (kk hYb), s2, ?_, hs2, fun b hb hY => ?_, by have := X20.size; have := E2.size; omega, E2.trans' X20 (fun i hi e => by omega)⟩
   ·rw [e, numFrom_snoc, Nat.zero_add]
    obtain ⟨g1, g2, g3, g4, g5, g6⟩ := S.db
    exact ⟨A2.b2.ext X20 g1, A2.b3.ext X20 (fun e => S.d3.2.2.2.1 e.symm), A2.b4.ext X20 g2, A2.b6.ext X20 g3, A2.rows.ext X20 (fun b hb e => by have := hs2 b hb; have := S.lt; omega), hM20, A2.kinds.ext X20 (fun b hb e => hb.elim (fun hb => by subst e; exact g5 hb) (fun hb => g4 (hb ▸ e))), A2.pool.ext X20 (fun b hb e => by subst e; exact g6 hb)⟩
   ·rcases hb with hb | hb | hb | hb | hb | hb | hb | hb | hb
    ·exact hv b (.inl hb) hY
    ·exact hv b (.inr (.inl hb)) hY
    ·exact hv b (.inr (.inr (.inl hb))) hY
    ·exact hv b (.inr (.inr (.inr (.inl hb)))) hY
    ·exact hv b (.inr (.inr (.inr (.inr (.inl hb))))) hY
    ·exact hv b (.inr (.inr (.inr (.inr (.inr (.inl hb)))))) hY
    ·exact hv b (.inr (.inr (.inr (.inr (.inr (.inr (.inl hb))))))) hY
    ·exact hv b (.inr (.inr (.inr (.inr (.inr (.inr (.inr (.inl hb)))))))) hY
    ·exact hy2 b hb hY
 ·rintro H2 w21 hs21 _ _ ⟨s, hA, hs, hv, hz, hE⟩
  refine ⟨s, hA.b3.cell0, fun w22 hs22 => ⟨hA.rows.ext hs22.ext (fun b hb => hv b (.inr (.inr (.inr (.inr (.inr (.inr (.inr (.inr hb))))))))), fun b hb => by have := hs b hb; omega, hE.hst hs22⟩⟩
theorem c_Long (p : Addr) (t : Int) (w0 : World) {L : Sp.Pool} {FP : NP} (hW : Sp.Wf L) (hN : Sp.Nums L) (hP : PoolAt w0 p L FP) :
  Calls Try.prog 24 #[.pointer (some p), .int .i64 t] w0 (fun e w' => ∃ r : Int, e = .returned (.int .i64 r) ∧ (r = ((textOf L t).length : Int) ∧ Pure w0 w')) := by
 refine w_G2 _ _ w0 (fun r w' => r = ((textOf L t).length : Int) ∧ Pure w0 w') ?_
 unfold m_G2
 refine (c_lay p t w0 hW hN hP).mono ?_
 rintro _ w1 ⟨r, rfl, h⟩
 exact ⟨r, rfl, by rw [h.rows.len, byr_len], h.pure⟩
theorem c_Encode (p : Addr) (t : Int) (w0 : World) {L : Sp.Pool} {FP : NP} (hW : Sp.Wf L) (hN : Sp.Nums L) (hP : PoolAt w0 p L FP) :
  Calls Try.prog 21 #[.pointer (some p), .int .i64 t] w0 (fun e w' => ∃ r : Sl, ∃ n : Int, e = .returned (.tuple #[r.v, .int .i64 n]) ∧ (n = (encS L t).2 ∧ RetO w0 5 1 (byr (encS L t).1) r w')) := by
 refine w_Z1 _ _ w0 (fun r n w' => n = (encS L t).2 ∧ RetO w0 5 1 (byr (encS L t).1) r w') ?_
 unfold m_Z1
 have hnil : ∀ b, ¬ Sl.nil.blk b := fun b hb => by obtain ⟨a, h, _⟩ := hb; cases h
 refine (c_Node p t w0 hP hW.ok).mono ?_
 rintro _ w1 ⟨k, r, t', u, x, a, b, r3, rfl, ⟨hn, rfl⟩, E1⟩
 refine ⟨_, _, _, _, _, _, _, _, rfl, E1.keptP, fun hc H1 w3 hs3 => ?_, fun hc H1 w3 hs3 => ?_⟩
 ·have hin : Sp.inP L t = false := by simpa using hc
  have e : encS L t = ([], 51) := by unfold encS; rw [hin]; rfl
  rw [e]
  exact ⟨rfl, Rws.nil _ _ _, fun b hb => (hnil b hb).elim, E1.hst hs3⟩
 ·have hin : Sp.inP L t = true := by simpa using hc
  have E3 : Pure w0 w3 := E1.hst hs3
  refine (c_lay p t w3 hW hN (hP.pure E3)).mono ?_
  rintro _ w4 ⟨r2, rfl, h⟩
  have hl : r2.len = (textOf L t).length := by rw [h.rows.len, byr_len]
  refine ⟨r2, rfl, h.kept, fun hc => ?_, fun hc => ?_⟩
  ·have hc := of_decide_eq_true hc
   have e : encS L t = ([], 1) := by unfold encS; rw [hin, if_pos rfl, if_pos (by omega)]
   rw [e]
   exact ⟨rfl, Rws.nil _ _ _, fun b hb => (hnil b hb).elim, E3.trans h.pure⟩
  ·have hc := of_decide_eq_false hc
   have e : encS L t = (textOf L t, 0) := by unfold encS; rw [hin, if_pos rfl, if_neg (by omega)]
   rw [e]
   exact ⟨rfl, h.rows, fun b hb => by have := h.own b hb; have := E3.size; omega, E3.trans h.pure⟩
end Go.Proofs
end
section
open Go Go.SE
namespace Go.Sp
open Go.Proofs
def wn1 : Node := ⟨1, 0, 0, 0, ⟨#[]⟩, 0, 0⟩
def wn2 : Node := ⟨4, 0, 0, 0, ⟨#[]⟩, 1, 1⟩
def wL1 : Pool := [⟨wn1, 1, 1⟩]
def wL2 : Pool := [⟨wn1, 1, 1⟩, ⟨wn2, 3, 2⟩]
theorem wm1 : make [] wn1 = (1, 0, wL1) := by kernel_rfl
theorem wm2 : make wL1 wn2 = (2, 0, wL2) := by kernel_rfl
theorem ww1 : Wf wL1 := by have := make_wf Wf.nil wn1; rwa [wm1] at this
theorem ww2 : Wf wL2 := by have := make_wf ww1 wn2; rwa [wm2] at this
theorem wN2 : Nums wL2 := by intro e he; simp [wL2, wn1, wn2] at he; rcases he with rfl | rfl <;> exact ⟨by decide, by decide⟩
theorem wdec : decS wL2 [1, 0, 4, 0, 0] = (2, 0, 0, wL2) := by kernel_rfl
theorem wtw : (rdText [1, 0, 1, 0]).2 = (72, 2) := by kernel_rfl
theorem wtext : textOf wL2 2 = [1, 0, 4, 0, 0] := by
 have := enc_dec ww2 (bs := [1, 0, 4, 0, 0]) (by rw [wdec])
 rw [wdec] at this
 exact this.2.2.1
theorem wenc : encS wL2 2 = ([1, 0, 4, 0, 0], 0) := by
 unfold encS
 rw [if_pos (by kernel_rfl), wtext]; rfl
end Go.Sp
namespace Go.Proofs
attribute [local irreducible] Calls CallsD
theorem str_of {w : World} {s : Sl} {bs : List UInt8} {S : NP} (h : Lst S w 1 s (byr bs)) : (convert 44 9 s.v).run Try.prog w = .ok (.string ⟨bs.toArray⟩) w :=
 run_str Try.underlying44 Try.underlying5 Try.underlying9 h
theorem hst_pure {w0 w w' : World} {H H' : NP} (hs : Hst w0 None w H w') : Pure w w' := ⟨hs.ext.os, hs.ext.tape, hs.ext.output, hs.ext.size, fun b hb _ => hs.ext.keep b hb (fun h => (hs.new b h).elim (fun h => h) (fun h => by omega))⟩
theorem lst_cells {w : World} {p : Addr} {bs : List UInt8} {T : TypeId} (h : Box w p (bs.map fun b => Value.int .u8 (b.toNat : Int)) T) : Lst (· = p.block) w 1 ⟨some p, bs.length, bs.length⟩ (byr bs) :=
 ⟨by simp [byr], fun i hi => by
  have hi' : i < bs.length := by simpa [byr] using hi
  refine ⟨p.add (i * 1), ⟨by omega, by simpa using hi', p, rfl, by simp⟩, by rw [add_block], ?_⟩
  intro j hj
  have : j = 0 := by simp [byr] at hj; exact hj
  subst this
  have := h.row i (by simpa using hi')
  simp only [byr, List.getElem_map, Nat.mul_one, List.getElem?_map] at *
  rw [add_add, Nat.add_zero, this, List.getElem?_eq_getElem hi']
  rfl⟩
theorem c_live7 (w0 : World) : Calls Try.prog 25 #[] w0 (fun e w' => ∃ r : Bool, e = .returned (.bool r) ∧ (r = true ∧ Pure w0 w')) := by
 refine w_T w0 (fun r w' => r = true ∧ Pure w0 w') ?_
 unfold m_T
 refine (c_New w0).mono ?_
 rintro _ w1 ⟨_, rfl, p, rfl, E1, F0, hP, hF⟩
 refine ⟨_, rfl, E1.keptP, fun hc => (by cases hc), fun _ => ?_⟩
 refine (c_Name p w1 hP Sp.Ok.nil 0).mono ?_
 rintro _ w2 ⟨r2, r3, rfl, he, F1, hP1, E2, hF1⟩
 have hm : Sp.make [] ⟨1, 0, 0, 0, ⟨#[]⟩, 0, 0⟩ = (1, 0, Sp.wL1) := Sp.wm1
 rw [hm] at he hP1
 cases he
 refine ⟨_, _, rfl, E2.kept (fun b hb => hb.elim), ?_⟩
 refine (c_Pair p w2 hP1 Sp.ww1.ok 1 1).mono ?_
 rintro _ w3 ⟨r4, r5, rfl, he, F2, hP2, E3, hF2⟩
 have hm : Sp.make Sp.wL1 ⟨4, 0, 0, 0, ⟨#[]⟩, 1, 1⟩ = (2, 0, Sp.wL2) := Sp.wm2
 rw [hm] at he hP2
 cases he
 refine ⟨_, _, rfl, E3.kept (fun b hb => hb.elim), ?_⟩
 have z1 := E1.size; have z2 := E2.size; have z3 := E3.size
 have E03 : Pure w0 w3 := (E1.trans' E2 (fun i hi hb => by have := hF i hb; omega)).trans' E3 (fun i hi hb => (hF1 i hb).elim (fun h => by have := hF i h; omega) (fun h => by omega))
 have o2 : ∀ b, F2 b → w0.heap.size ≤ b := fun b hb => (hF2 b hb).elim (fun h => (hF1 b h).elim (fun h => by have := hF b h; omega) (fun h => by omega)) (fun h => by omega)
 refine (c_Encode p 2 w3 Sp.ww2 Sp.wN2 hP2).mono ?_
 rintro _ w4 ⟨r6, r7, rfl, rfl, hR⟩
 rw [Sp.wenc] at hR ⊢
 simp only at hR ⊢
 have E4 := hR.pure
 have z4 := E4.size
 refine ⟨_, _, rfl, E4.keptP, ?_⟩
 refine (c_Decode p r6 [1, 0, 4, 0, 0] w4 Sp.ww2 (hP2.pure E4) hR.rows.lst (rws_hz hR.rows)).mono ?_
 rintro _ w5 ⟨r8, r9, r10, rfl, h8, h9, _, F3, hP3, E5, hF3⟩
 rw [Sp.wdec] at h8 h9
 simp only at h8 h9
 subst h8 h9
 have z5 := E5.size
 refine ⟨_, _, _, rfl, E5.kept (fun b hb => hb.elim), ?_⟩
 have E05 : Pure w0 w5 := (E03.trans E4).trans' E5 (fun i hi hb => by have := o2 i hb; omega)
 intro p1 w6 n6
 have E6 : Pure w5 w6 := Ext.new n6
 have B6 : Box w6 p1 (([1, 0, 1, 0] : List UInt8).map fun b => Value.int .u8 (b.toNat : Int)) 5 := Box.of_newA n6
 refine (c_Check ⟨some p1, 4, 4⟩ [1, 0, 1, 0] w6 (lst_cells B6) (fun h => by cases h)).mono ?_
 rintro _ w7 ⟨r11, r12, rfl, rfl, rfl, E7⟩
 rw [Sp.wtw]
 refine ⟨_, _, rfl, E7.keptP, fun _ => ?_, fun hc => (by cases hc)⟩
 intro H1 w10 hs10
 have E10 : Pure w7 w10 := hst_pure (H' := None) hs10
 have hR10 : Rws w10 5 1 r6 (byr [1, 0, 4, 0, 0]) := (((hR.rows.ext E5 (fun b hb h => by have := hR.own b hb; have := hP2.lt h; omega)).pure E6).pure E7).pure E10
 refine ⟨_, str_of hR10.lst, ?_⟩
 unfold m_T_j1
 rintro y1 rfl H6 w20 hs20
 refine ⟨by kernel_rfl, (((E05.trans E6).trans E7).trans E10).hst hs20⟩
theorem c_law07_large {S : NP} (ts : List Sp.Tree) (s : Sl) (w0 : World) (hT : TreeAt S w0 s (.mk 0 0 0 0 ⟨#[]⟩ ts)) (hS : ∀ b, S b → b < w0.heap.size) :
  Calls Try.prog 26 #[s.v] w0 (fun e w' => ∃ r : Bool, e = .returned (.bool r) ∧ ((r = false → ts.length ≤ 50 ∧ Sp.cntAll ts ≤ 6000) ∧ Pure w0 w')) := by
 refine w_I2 _ w0 (fun r w' => (r = false → ts.length ≤ 50 ∧ Sp.cntAll ts ≤ 6000) ∧ Pure w0 w') ?_
 unfold m_I2
 have hlen : s.len = ts.length := by cases hT with
  | mk _ _ _ _ _ _ _ rs len fit row kid => exact len
 refine ⟨fun _ => ⟨fun h => (by cases h), Ext.refl _⟩, fun hc => ?_⟩
 have hc := of_decide_eq_false hc
 refine (c_ref05_Parts (.mk 0 0 0 0 ⟨#[]⟩ ts) s 6000 w0 (by omega) (by omega) hT hS).mono ?_
 rintro _ w1 ⟨r, rfl, rfl, E1⟩
 obtain ⟨p1, p2, p3⟩ := Sp.parts_facts (.mk 0 0 0 0 ⟨#[]⟩ ts) 6000 (by omega)
 refine ⟨_, rfl, fun h => ⟨by omega, ?_⟩, E1⟩
 have h := of_decide_eq_false h
 have := p3 (by omega)
 simp only [Sp.cnt] at this
 omega
end Go.Proofs
end
section
open Go Go.SE
namespace Go.Proofs
attribute [local irreducible] Calls
theorem slT_bool : SlType Try.prog 112 4 1 1 := by
 refine ⟨Try.underlying112, ⟨Try.t4, _, by kernel_rfl, (by kernel_rfl : Try.t4.zero = some (.bool false)), by kernel_rfl, by kernel_rfl, rfl⟩, by omega⟩
theorem zero_bool : ∀ i z, Try.prog.info? 4 = some i → i.zero = some z → z.cells = #[Value.bool false] := by
 intro i z hi hz
 have h1 : Try.prog.info? 4 = some Try.t4 := by kernel_rfl
 rw [h1] at hi; cases hi
 have h2 : Try.t4.zero = some (.bool false) := by kernel_rfl
 rw [h2] at hz; cases hz; rfl
def brw (n : Nat) (V : Int → Bool) : List (List Value) := (List.range n).map fun i : Nat => [Value.bool (V (i : Int))]
theorem brw_len (n : Nat) (V : Int → Bool) : (brw n V).length = n := by simp [brw]
theorem brw_false (n : Nat) : List.replicate n [Value.bool false] = brw n (fun _ => false) := by
 unfold brw; rw [List.map_const', List.length_range]
theorem brw_set (n : Nat) (V : Int → Bool) (t : Nat) (b : Bool) : (brw n V).set t [.bool b] = brw n (Sp.upd V (t : Int) b) := by
 apply List.ext_getElem?
 intro i
 rw [List.getElem?_set]
 by_cases h : t = i
 ·subst h
  rw [if_pos rfl]
  by_cases hl : t < n
  ·simp [brw, hl, Sp.upd]
  ·simp [brw, hl]
 ·rw [if_neg h]
  by_cases hl : i < n
  ·simp [brw, hl, Sp.upd, show ¬ (i : Int) = t by omega]
  ·simp [brw, hl]
section
variable {w w' : World} {e : TypeId} {s : Sl} {n : Nat} {V : Int → Bool}
theorem brw_get (h : Rws w e 1 s (brw n V)) {t : Int} (h0 : 0 ≤ t) (ht : t < n) : ∃ a, At s t 1 a ∧ s.blk a.block ∧ w.cell? a = some (.bool (V t)) := by
 obtain ⟨a, h1, h2, h3⟩ := h.at h0 (by rw [brw_len]; omega)
 refine ⟨a, h1, h3, ?_⟩
 have : (brw n V)[t.toNat]'(by rw [brw_len]; omega) = [Value.bool (V t)] := by
  simp only [brw, List.getElem_map, List.getElem_range]
  rw [show ((t.toNat : Nat) : Int) = t by omega]
 rw [this] at h2
 exact row_cell h2
theorem brw_put (h : Rws w e 1 s (brw n V)) {t : Int} (h0 : 0 ≤ t) (ht : t < n) : ∃ a, At s t 1 a ∧ s.blk a.block ∧ CanW w a ∧ ∀ b, Rws (w.setCell a (.bool b)) e 1 s (brw n (Sp.upd V t b)) ∧ Ext s.blk w (w.setCell a (.bool b)) := by
 have hset : ∀ b : Bool, ∃ a, At s t 1 a ∧ (∀ j, j < 1 → CanW w (a.add j)) ∧ ∀ w', w' = storeRow w a [Value.bool b] → Rws w' e 1 s ((brw n V).set t.toNat [.bool b]) ∧ Ext s.blk w w' := fun b => h.set (i := t.toNat) (by rw [brw_len]; omega) rfl (by omega)
 obtain ⟨a, hat, hw, _⟩ := hset true
 obtain ⟨a', h1, _, hblk⟩ := h.at h0 (by rw [brw_len]; omega)
 have same : ∀ {x : Addr}, At s t 1 x → x = a := fun hx => by
  obtain ⟨_, _, b1, hb1, rfl⟩ := hx
  obtain ⟨_, _, b2, hb2, rfl⟩ := hat
  rw [hb1] at hb2; cases hb2; rfl
 have h00 : a.add 0 = a := by simp [Addr.add]
 refine ⟨a, hat, ?_, by have := hw 0 (by omega); rwa [h00] at this, fun b => ?_⟩
 ·have := same h1; subst this; exact hblk
 ·obtain ⟨x, hx, _, hx2⟩ := hset b
  have := same hx; subst this
  have hst : storeRow w x [Value.bool b] = w.setCell x (.bool b) := by show w.setCell (x.add 0) (.bool b) = _; rw [h00]
  obtain ⟨r1, r2⟩ := hx2 _ rfl
  rw [hst] at r1 r2
  rw [brw_set, show ((t.toNat : Nat) : Int) = t by omega] at r1
  exact ⟨r1, r2⟩
end
structure WalkAt (w : World) (x q : Addr) (L : Sp.Pool) (st : (Int → Bool) × List Int) (FR : NP) (sv so : Sl) : Prop where
 box : Box w x [.pointer (some q), sv.v, so.v] 152
 seen : Rws w 4 1 sv (brw (L.length + 1) st.1)
 out : Rws w 32 1 so (tmr st.2)
 pool : PoolR w q L FR
 n1 : ¬ sv.blk x.block
 n2 : ¬ so.blk x.block
 n3 : ∀ b, sv.blk b → ¬ so.blk b
 n4 : ∀ b, FR b → b ≠ x.block ∧ ¬ sv.blk b ∧ ¬ so.blk b
def WF (x : Addr) (sv so : Sl) (b : Nat) : Prop := b = x.block ∨ sv.blk b ∨ so.blk b
theorem PoolR.at7 {w : World} {q : Addr} {L : Sp.Pool} {FR : NP} (h : PoolR w q L FR) {t : Int} (ht : Sp.inP L t = true) (hok : Sp.Ok L) : ∃ v, w.cell? q = some (Sl.v v) ∧ ∃ a, At v (IntKind.i64.wrap (t - 1)) 7 a ∧ w.cell? (a.add 5) = some (.int .i64 (Sp.nodeOf L t).a) ∧ w.cell? (a.add 6) = some (.int .i64 (Sp.nodeOf L t).b) := by
 obtain ⟨s1, s2, s3, h, _⟩ := h
 obtain ⟨i, hi, rfl⟩ := Sp.inP_at ht
 have := hok.few
 obtain ⟨a, h1, h2⟩ := h.r1.nth hi
 rw [IntWalk.i64_in _ (by omega), show (i : Int) + 1 - 1 = i by omega]
 have hn := Sp.nodeOf_lt hi
 have e0 : rnode L[i] = nrow (Sp.nodeOf L ((i : Int) + 1)) := by rw [hn]; rfl
 rw [e0] at h2
 exact ⟨s1, h.box.cell0, a, h1, h2 5 (by simp [nrow]), h2 6 (by simp [nrow])⟩
theorem c_ref05_over (x q : Addr) {L : Sp.Pool} (hW : Sp.Wf L) : ∀ (n : Nat) (t : Int) (w0 : World) (st : (Int → Bool) × List Int) (FR : NP) (sv so : Sl), t.toNat < n → WalkAt w0 x q L st FR sv so → Sp.OvOk L st → (∀ y, st.1 y = true → y ≤ t → y ∈ st.2) →
  Calls Try.prog 104 #[.pointer (some x), .int .i64 t] w0 (fun e w' => e = .returned (.tuple #[]) ∧ ∃ so', WalkAt w' x q L (Sp.overS L n t st) FR sv so' ∧ Ext (WF x sv so) w0 w' ∧ ∀ b, so'.blk b → so.blk b ∨ w0.heap.size ≤ b) := by
 intro n
 induction n with
 | zero => intro t w0 st FR sv so h; omega
 | succ n ih =>
 intro t w0 st FR sv so hn h hst hm
 have hR := Sp.over_ok hW (n + 1) t st hn hst hm
 suffices key : ∀ K : WP, (∀ so' w', WalkAt w' x q L (Sp.overS L (n + 1) t st) FR sv so' → Ext (WF x sv so) w0 w' → (∀ b, so'.blk b → so.blk b ∨ w0.heap.size ≤ b) → K w') → m_O (some x) t w0 K from
  w_O _ _ w0 _ (key _ (fun so' w' a b c => ⟨so', a, b, c⟩))
 intro K hK
 unfold m_O
 refine ⟨x, rfl, _, h.box.cell0, ?_⟩
 refine (c_ref05_In q t w0 h.pool).mono ?_
 rintro _ w0 ⟨r1, rfl, rfl, rfl⟩
 refine ⟨_, rfl, fun hc => ?_, fun hc => ?_⟩
 ·have hin : Sp.inP L t = false := by simpa using hc
  unfold m_O_j1
  refine Br.t rfl ?_
  rw [Sp.overS, if_neg (by simp [hin])] at hK
  exact hK so w0 h (Ext.refl _) (fun b hb => .inl hb)
 have hin : Sp.inP L t = true := by simpa using hc
 obtain ⟨t1, tL⟩ := Sp.inP_iff.1 hin
 obtain ⟨a13, at13, _, c13⟩ := brw_get h.seen (t := t) (by omega) (by omega)
 refine ⟨x, rfl, sv, h.box.cell rfl, a13, at13, _, c13, ?_⟩
 unfold m_O_j1
 refine ⟨fun hv => ?_, fun hv => ?_⟩
 ·rw [Sp.overS, if_neg (by simp [hv])] at hK
  exact hK so w0 h (Ext.refl _) (fun b hb => .inl hb)
 rw [Sp.overS, if_pos ⟨hin, hv⟩] at hK hR
 obtain ⟨a2, at2, hb2, cw2, hput⟩ := brw_put h.seen (t := t) (by omega) (by omega)
 refine ⟨x, rfl, sv, h.box.cell rfl, a2, at2, cw2, ?_⟩
 rintro _ rfl
 obtain ⟨R2, E2⟩ := hput true
 have A2 : WalkAt (w0.setCell a2 (.bool true)) x q L (Sp.upd st.1 t true, st.2) FR sv so :=
  ⟨h.box.ext E2 h.n1, R2, h.out.ext E2 (fun b hb hb2 => h.n3 b hb2 hb), h.pool.ext E2 (fun b hb hb2 => (h.n4 b hb).2.1 hb2), h.n1, h.n2, h.n3, h.n4⟩
 generalize w0.setCell a2 (.bool true) = w2 at *
 obtain ⟨v3, c3, a5, at5, ca, cb⟩ := A2.pool.at7 hin hW.ok
 refine ⟨x, rfl, _, A2.box.cell0, q, rfl, v3, c3, a5, at5, _, ca, ?_⟩
 have low : ∀ k, k = (Sp.nodeOf L t).a ∨ k = (Sp.nodeOf L t).b → k < t := by
  intro k hk
  have hkid := (hW.node hin).2.2.2.2.1
  cases hp : Sp.inP L k with
  | true => exact (hkid k (Sp.kid_of hW hin hk hp)).2
  | false =>
   have h1 := (hW.node hin).2.1
   have h2 := (hW.node hin).2.2.1
   rcases Sp.kids_le (Sp.nodeOf L t).kind with e | e | e
   ·have := h1 (by omega); have := h2 (by omega); rcases hk with hk | hk <;> omega
   ·have b0 := h2 (by omega)
    rcases hk with hk | hk
    ·have := (hkid k (by unfold Sp.kidsOf; rw [e, hk]; simp)).2; exact this
    ·omega
   ·exact (hkid k (by unfold Sp.kidsOf; rw [e]; rcases hk with hk | hk <;> simp [hk])).2
 have la := low _ (.inl rfl)
 have lb := low _ (.inr rfl)
 have o1 : Sp.OvOk L (Sp.upd st.1 t true, st.2) := ⟨fun y hy => by simp only [Sp.upd]; split <;> simp [hst.marked y hy], hst.closed, hst.nd, hst.inp⟩
 have m1 : ∀ y, (Sp.upd st.1 t true, st.2).1 y = true → y ≤ (Sp.nodeOf L t).a → y ∈ (Sp.upd st.1 t true, st.2).2 := fun y hy hle => by
  simp only [Sp.upd] at hy
  rw [if_neg (by omega)] at hy
  exact hm y hy (by omega)
 have r1 := Sp.over_ok hW n (Sp.nodeOf L t).a _ (by omega) o1 m1
 refine (ih (Sp.nodeOf L t).a w2 _ FR sv so (by omega) A2 o1 m1).mono ?_
 rintro _ w3 ⟨rfl, so3, A3, X3, f3⟩
 generalize hs1 : Sp.overS L n (Sp.nodeOf L t).a (Sp.upd st.1 t true, st.2) = s1 at *
 obtain ⟨v6, c6, a8, at8, _, cb3⟩ := A3.pool.at7 hin hW.ok
 refine ⟨rfl, x, rfl, _, A3.box.cell0, q, rfl, v6, c6, a8, at8, _, cb3, ?_⟩
 have m2 : ∀ y, s1.1 y = true → y ≤ (Sp.nodeOf L t).b → y ∈ s1.2 := fun y hy hle => by
  rcases r1.back y hy with h' | h'
  ·simp only [Sp.upd] at h'
   rw [if_neg (by omega)] at h'
   have := hm y h' (by omega)
   obtain ⟨M, e, _⟩ := r1.app
   simp only at e
   rw [e]; exact List.mem_append_left _ this
  ·exact h'
 have r2 := Sp.over_ok hW n (Sp.nodeOf L t).b s1 (by omega) r1.toOvOk m2
 refine (ih (Sp.nodeOf L t).b w3 s1 FR sv so3 (by omega) A3 r1.toOvOk m2).mono ?_
 rintro _ w4 ⟨rfl, so4, A4, X4, f4⟩
 generalize hs2 : Sp.overS L n (Sp.nodeOf L t).b s1 = s2 at *
 refine ⟨rfl, x, rfl, so4, A4.box.cell rfl, ?_⟩
 intro p1 w5 h5
 have E5 : Pure w4 w5 := Ext.new h5
 have hfew : s2.2.length ≤ 65536 := by have := Sp.pool_few r2.nd r2.inp; have := hW.ok.few; omega
 obtain ⟨s1', w6, hr6, R6, X6, f6⟩ := (A4.out.pure E5).append (P := Try.prog) (ty := 39) (c := 1) slT_tm (r := [.int .i64 t]) (Box.of_new h5).row rfl rfl (by rw [tmr_len]; omega) (by rw [tmr_len]; simp [maxLen]; omega)
 have b6 := (A4.box.pure E5).ext X6 A4.n2
 refine ⟨s1', w6, hr6, x, rfl, b6.canW (by simp), ?_⟩
 rintro _ rfl
 have E7 := Ext.setCell (w := w6) (x.add 2) s1'.v
 rw [add_block] at E7
 have z2 : w0.heap.size ≤ w2.heap.size := E2.size
 have z3 := X3.size
 have z4 := X4.size
 have z5 := E5.size
 have f6' : ∀ b, s1'.blk b → so4.blk b ∨ w4.heap.size ≤ b := fun b hb => (f6 b hb).imp_right (fun h => by omega)
 have nx : ¬ s1'.blk x.block := fun hh => (f6' _ hh).elim A4.n2 (fun hh => by have := A4.box.lt; omega)
 have nv : ∀ b, sv.blk b → ¬ s1'.blk b := fun b hb hh => (f6' b hh).elim (A4.n3 b hb) (fun hh => by have := A4.seen.lt hb; omega)
 have hfin := hK s1' (w6.setCell (x.add 2) s1'.v)
 refine hfin ⟨b6.set 2 s1'.v, ((A4.seen.pure E5).ext X6 A4.n3).ext E7 (fun b hb e => A4.n1 (e ▸ hb)), ?_, ((A4.pool.pure E5).ext X6 (fun b hb => (A4.n4 b hb).2.2)).ext E7 (fun b hb e => (A4.n4 b hb).1 e), A4.n1, nx, nv, fun b hb => ⟨(A4.n4 b hb).1, (A4.n4 b hb).2.1, fun hh => (f6' b hh).elim (A4.n4 b hb).2.2 (fun hh => by have := A4.pool.lt hb; omega)⟩⟩ ?_ ?_
 ·show Rws _ _ _ _ (tmr (s2.2 ++ [t]))
  rw [show tmr (s2.2 ++ [t]) = tmr s2.2 ++ [[.int .i64 t]] by simp [tmr]]
  exact R6.ext E7 (fun b hb e => nx (e ▸ hb))
 ·have f34 : ∀ b, so4.blk b → b < w0.heap.size → so.blk b := fun b hb hlt => by
   rcases f4 b hb with h1 | h1
   ·exact (f3 b h1).elim id (fun h2 => by omega)
   ·omega
  have f33 : ∀ b, so3.blk b → b < w0.heap.size → so.blk b := fun b hb hlt => (f3 b hb).elim id (fun h2 => by omega)
  refine ((((E2.mono (fun b _ hb => .inr (.inl hb))).trans X3).trans' X4 (fun i hi hb => ?_)).trans' (E5.pure (F := WF x sv so4)) (fun i hi hb => ?_)).trans' ((X6.mono (fun b _ hb => .inr (.inr hb))).trans (E7.mono (fun b _ e => .inl e))) (fun i hi (hb : WF x sv so4 i) => ?_)
  ·rcases hb with hb | hb | hb
   ·exact .inl hb
   ·exact .inr (.inl hb)
   ·exact .inr (.inr (f33 i hb hi))
  ·rcases hb with hb | hb | hb
   ·exact .inl hb
   ·exact .inr (.inl hb)
   ·exact .inr (.inr (f34 i hb hi))
  ·rcases hb with hb | hb | hb
   ·exact .inl hb
   ·exact .inr (.inl hb)
   ·exact .inr (.inr (f34 i hb hi))
 ·intro b hb
  rcases f6' b hb with h1 | h1
  ·rcases f4 b h1 with h2 | h2
   ·exact (f3 b h2).imp_right (fun h => by omega)
   ·right; omega
  ·right; omega
theorem c_ref05_Subs (q : Addr) (t : Int) (w0 : World) {L : Sp.Pool} {FR : NP} (hW : Sp.Wf L) (hP : PoolR w0 q L FR) :
  Calls Try.prog 52 #[.pointer (some q), .int .i64 t] w0 (fun e w' => ∃ r : Sl, e = .returned r.v ∧ RetO w0 32 1 (tmr (Sp.subs L t)) r w') := by
 refine w_T1 _ _ w0 (fun r w' => RetO w0 32 1 (tmr (Sp.subs L t)) r w') ?_
 unfold m_T1
 obtain ⟨v1, hv1, hv1l⟩ : ∃ v1 : Sl, w0.cell? q = some v1.v ∧ v1.len = L.length := by
  obtain ⟨s1, s2, s3, h, _⟩ := hP
  exact ⟨s1, h.box.cell0, by rw [h.r1.len]; simp⟩
 have hL := hW.ok.few
 refine ⟨q, rfl, v1, hv1, ?_⟩
 rw [hv1l, IntWalk.i64_in _ (by omega), show ((L.length : Int) + 1) = ((L.length + 1 : Nat) : Int) by omega]
 obtain ⟨w1, hr1, R1, E1⟩ := Rws.make (P := Try.prog) slT_bool zero_bool (k := .i64) (k' := .i64) (n := L.length + 1) (by omega) (by simp [maxLen]; omega) w0
 rw [brw_false] at R1
 refine ⟨_, w1, hr1, ?_⟩
 intro p2 w2 h2
 have E2 : Pure w1 w2 := Ext.new h2
 have hp2 := h2.at_size
 have hnil : ∀ b, ¬ Sl.nil.blk b := fun b hb => by obtain ⟨a, h, _⟩ := hb; cases h
 have hsv : ∀ b, (Sl.mk (some ⟨w0.heap.size, 0, none⟩) (L.length + 1) (L.length + 1)).blk b → b = w0.heap.size := by rintro b ⟨a, ha, rfl⟩; cases ha; rfl
 have z1 := E1.size
 have l1 : w0.heap.size < w1.heap.size := R1.lt ⟨_, rfl, rfl⟩
 have A2 : WalkAt w2 p2 q L (fun _ => false, []) FR ⟨some ⟨w0.heap.size, 0, none⟩, L.length + 1, L.length + 1⟩ Sl.nil := by
  refine ⟨Box.of_new h2, R1.pure E2, Rws.nil _ _ _, (hP.pure E1).pure E2, fun hb => by have := hsv _ hb; omega, hnil _, fun b _ => hnil b, fun b hb => ⟨fun e => ?_, fun hh => ?_, hnil b⟩⟩
  ·have := hP.lt hb; omega
  ·have := hsv _ hh; have := hP.lt hb; omega
 refine (c_ref05_over p2 q hW (t.toNat + 1) t w2 _ FR _ Sl.nil (by omega) A2 ⟨by simp, by simp, by simp, by simp⟩ (by simp)).mono ?_
 rintro _ w3 ⟨rfl, so, A3, X3, f3⟩
 refine ⟨rfl, so, A3.box.cell rfl, A3.out, fun b hb => ?_, (E1.trans E2).trans' X3 (fun i hi hb => ?_)⟩
 ·rcases f3 b hb with h | h
  ·exact (hnil b h).elim
  ·have := E2.size; omega
 ·rcases hb with hb | hb | hb
  ·omega
  ·have := hsv _ hb; omega
  ·exact hnil _ hb
end Go.Proofs
end
section
open Go Go.SE
namespace Go.Proofs
attribute [local irreducible] Calls CallsD
theorem at_blk {s : Sl} {i : Int} {sz : Nat} {a : Addr} (h : At s i sz a) : s.blk a.block := by
 obtain ⟨_, _, b, hb, rfl⟩ := h
 exact ⟨b, hb, (add_block _ _).symm⟩
theorem tmr_put {w : World} {e : TypeId} {s : Sl} {A : List Int} (h : Rws w e 1 s (tmr A)) {k : Int} {j : Nat} (hk : k = j) (hj : j < A.length) :
  ∃ a, At s k 1 a ∧ s.blk a.block ∧ CanW w a ∧ ∀ v, Rws (w.setCell a (.int .i64 v)) e 1 s (tmr (A.set j v)) ∧ Ext s.blk w (w.setCell a (.int .i64 v)) := by
 have hset : ∀ v : Int, ∃ a, At s k 1 a ∧ (∀ j, j < 1 → CanW w (a.add j)) ∧ ∀ w', w' = storeRow w a [Value.int .i64 v] → Rws w' e 1 s ((tmr A).set j [.int .i64 v]) ∧ Ext s.blk w w' := fun v => h.set (i := j) (by rw [tmr_len]; omega) rfl hk
 obtain ⟨a, hat, hw, _⟩ := hset 0
 have same : ∀ {x : Addr}, At s k 1 x → x = a := fun hx => by
  obtain ⟨_, _, b1, hb1, rfl⟩ := hx
  obtain ⟨_, _, b2, hb2, rfl⟩ := hat
  rw [hb1] at hb2; cases hb2; rfl
 have h00 : a.add 0 = a := by simp [Addr.add]
 refine ⟨a, hat, at_blk hat, by have := hw 0 (by omega); rwa [h00] at this, fun v => ?_⟩
 obtain ⟨x, hx, _, hx2⟩ := hset v
 have := same hx; subst this
 have hst : storeRow w x [Value.int .i64 v] = w.setCell x (.int .i64 v) := by show w.setCell (x.add 0) (.int .i64 v) = _; rw [h00]
 obtain ⟨r1, r2⟩ := hx2 _ rfl
 rw [hst] at r1 r2
 have e0 : (tmr A).set j [.int .i64 v] = tmr (A.set j v) := by simp [tmr, List.map_set]
 rw [e0] at r1
 exact ⟨r1, r2⟩
def Sp.opt (c : Bool) (f : Fld) (n : Sp.Node) (na nb : Nat) : List UInt8 := if c then f.bytes n na nb else []
theorem flds_opt (n : Sp.Node) (na nb : Nat) (h1 : 1 ≤ n.kind) (h9 : n.kind ≤ 9) : (flds n.kind).flatMap (Fld.bytes n na nb) =
  Sp.opt (s_U n.kind) .from_ n na nb ++ Sp.opt ((n.kind == 8) || (n.kind == 9)) .to_ n na nb ++ Sp.opt (n.kind == 2) .num n na nb ++ Sp.opt (n.kind == 3) .text n na nb ++ Sp.opt (decide (s_A n.kind ≥ 1)) .fst n na nb ++ Sp.opt (s_A n.kind == 2) .snd n na nb := by
 rw [ref05_kids]
 have : n.kind = 1 ∨ n.kind = 2 ∨ n.kind = 3 ∨ n.kind = 4 ∨ n.kind = 5 ∨ n.kind = 6 ∨ n.kind = 7 ∨ n.kind = 8 ∨ n.kind = 9 := by omega
 rcases this with e | e | e | e | e | e | e | e | e <;> simp [e, flds, Sp.opt, s_U, Sp.shapeOf]
theorem kids_fst {n : Sp.Node} (h : s_A n.kind ≥ 1) : n.a ∈ Sp.kidsOf n := by
 rw [ref05_kids] at h
 unfold Sp.kidsOf
 rcases Sp.kids_le n.kind with e | e | e <;> rw [e] at h ⊢ <;> simp at h ⊢
theorem kids_snd {n : Sp.Node} (h : s_A n.kind = 2) : n.b ∈ Sp.kidsOf n := by
 rw [ref05_kids] at h
 unfold Sp.kidsOf
 rw [h]; simp
structure TxSep (w0 : World) (q : Addr) (FR : NP) (s1 r1 : Sl) (B : Nat) : Prop where
 lR : ∀ x, FR x → x < B
 lr : ∀ x, r1.blk x → x < B
 ls : ∀ x, s1.blk x → x < B ∧ w0.heap.size ≤ x ∧ ¬ FR x ∧ ¬ r1.blk x
 base : w0.heap.size ≤ B
structure TxAt (w0 w : World) (H : NP) (q : Addr) (L : Sp.Pool) (FR : NP) (s1 r1 : Sl) (A xs : List Int) (B : Nat) (b : Sl) (bs : List UInt8) : Prop where
 pool : PoolR w q L FR
 at_ : Rws w 3 1 s1 (tmr A)
 subs : Rws w 32 1 r1 (tmr xs)
 rows : Rws w 5 1 b (byr bs)
 pure : Pure w0 w
 hB : ∀ x, H x → B ≤ x ∧ x < w.heap.size
 own : ∀ x, b.blk x → B ≤ x ∧ ¬ H x
 lt : B ≤ w.heap.size
section
variable {w0 w w' : World} {H H' : NP} {q : Addr} {L : Sp.Pool} {FR : NP} {s1 r1 : Sl} {A xs : List Int} {B : Nat} {b b' : Sl} {bs bs' : List UInt8}
theorem TxAt.hst (h : TxAt w0 w H q L FR s1 r1 A xs B b bs) (S : TxSep w0 q FR s1 r1 B) (hs : Hst w0 H w H' w') : TxAt w0 w' H' q L FR s1 r1 A xs B b bs := by
 have hB' : ∀ x, H' x → B ≤ x := fun x hx => (hs.new x hx).elim (fun h1 => (h.hB x h1).1) (fun h1 => by have := h.lt; omega)
 have hv : ∀ x, b.blk x → ¬ H' x := hs.disj (fun x hx => ⟨h.rows.lt hx, (h.own x hx).2⟩)
 exact ⟨h.pool.ext hs.ext (fun x hx hh => by have := S.lR x hx; have := hB' x hh; omega), h.at_.ext hs.ext (fun x hx hh => by have := S.ls x hx; have := hB' x hh; omega), h.subs.ext hs.ext (fun x hx hh => by have := S.lr x hx; have := hB' x hh; omega), h.rows.ext hs.ext hv, h.pure.hst hs, fun x hx => ⟨hB' x hx, hs.lt x hx⟩, fun x hx => ⟨(h.own x hx).1, hv x hx⟩, Nat.le_trans h.lt hs.ext.size⟩
theorem TxAt.call (h : TxAt w0 w H q L FR s1 r1 A xs B b bs) (hr : RetO w 5 1 (byr bs') b' w') : TxAt w0 w' H q L FR s1 r1 A xs B b' bs' :=
 ⟨h.pool.pure hr.pure, h.at_.pure hr.pure, h.subs.pure hr.pure, hr.rows, h.pure.trans hr.pure, fun x hx => ⟨(h.hB x hx).1, Nat.lt_of_lt_of_le (h.hB x hx).2 hr.pure.size⟩, fun x hx => ⟨Nat.le_trans h.lt (hr.own x hx), fun hh => by have := hr.own x hx; have := (h.hB x hh).2; omega⟩, Nat.le_trans h.lt hr.pure.size⟩
end
section
variable (w0 : World) (q : Addr) {L : Sp.Pool} (hW : Sp.Wf L) (hN : Sp.Nums L) {FR : NP} {s1 r1 : Sl} {A xs : List Int} {B : Nat} (S : TxSep w0 q FR s1 r1 B) (i1 : Int) (n : Sp.Node) (na nb : Nat)
include S
theorem c_tx6 (hb : s_A n.kind = 2 → 0 ≤ n.b ∧ A[n.b.toNat]? = some (nb : Int) ∧ nb < 65537) {H : NP} {w : World} {b : Sl} {bs : List UInt8} (h : TxAt w0 w H q L FR s1 r1 A xs B b bs) (hl : bs.length ≤ 1000000000)
  (Kc : Sl → Int → NP → WP) (K : Sl → WP) (hK : ∀ b' H' w', TxAt w0 w' H' q L FR s1 r1 A xs B b' (bs ++ Sp.opt (s_A n.kind == 2) .snd n na nb) → Kc b' (IntKind.i64.wrap (i1 + 1)) H' w') : m_E_j6 s1 i1 n.kind n.b b w0 H w Kc K := by
 unfold m_E_j6
 refine ⟨fun hc => ?_, fun hc => ?_⟩
 ·rw [hc] at hK
  obtain ⟨h0, hA, h2⟩ := hb (by simpa using hc)
  obtain ⟨hj, hA'⟩ := List.getElem?_eq_some_iff.1 hA
  obtain ⟨a, hat, _, hv⟩ := tm_nth h.at_.lst hj
  rw [show ((n.b.toNat : Nat) : Int) = n.b by omega] at hat
  refine ⟨a, hat, fun w15 hs => ?_⟩
  have h' := h.hst S hs
  obtain ⟨a', hat', _, hv'⟩ := tm_nth h'.at_.lst hj
  rw [show ((n.b.toNat : Nat) : Int) = n.b by omega] at hat'
  have : a' = a := by
   obtain ⟨_, _, b1, hb1, rfl⟩ := hat
   obtain ⟨_, _, b2, hb2, rfl⟩ := hat'
   rw [hb1] at hb2; cases hb2; rfl
  subst this
  refine ⟨_, hv', ?_⟩
  rw [hA', wrap_u64 (by omega)]
  refine (c_rPutNum b bs nb w15 h'.rows.lst (by omega) (by omega)).mono ?_
  rintro _ w16 ⟨r, rfl, hr⟩
  exact ⟨r, rfl, hr.kept, hK _ _ _ (h'.call hr)⟩
 ·rw [hc] at hK
  simp only [Sp.opt, Bool.false_eq_true, if_false, List.append_nil] at hK
  exact fun w15 hs => hK _ _ _ (h.hst S hs)
theorem c_tx5 (ha : s_A n.kind ≥ 1 → 0 ≤ n.a ∧ A[n.a.toNat]? = some (na : Int) ∧ na < 65537) (hb : s_A n.kind = 2 → 0 ≤ n.b ∧ A[n.b.toNat]? = some (nb : Int) ∧ nb < 65537) {H : NP} {w : World} {b : Sl} {bs : List UInt8} (h : TxAt w0 w H q L FR s1 r1 A xs B b bs) (hl : bs.length ≤ 900000000)
  (Kc : Sl → Int → NP → WP) (K : Sl → WP) (hK : ∀ b' H' w', TxAt w0 w' H' q L FR s1 r1 A xs B b' (bs ++ Sp.opt (decide (s_A n.kind ≥ 1)) .fst n na nb ++ Sp.opt (s_A n.kind == 2) .snd n na nb) → Kc b' (IntKind.i64.wrap (i1 + 1)) H' w') : m_E_j5 s1 i1 n.kind n.a n.b b w0 H w Kc K := by
 unfold m_E_j5
 refine ⟨fun hc => ?_, fun hc => ?_⟩
 ·rw [hc] at hK
  obtain ⟨h0, hA, h2⟩ := ha (of_decide_eq_true hc)
  obtain ⟨hj, hA'⟩ := List.getElem?_eq_some_iff.1 hA
  obtain ⟨a, hat, _, hv⟩ := tm_nth h.at_.lst hj
  rw [show ((n.a.toNat : Nat) : Int) = n.a by omega] at hat
  refine ⟨a, hat, fun w15 hs => ?_⟩
  have h' := h.hst S hs
  obtain ⟨a', hat', _, hv'⟩ := tm_nth h'.at_.lst hj
  rw [show ((n.a.toNat : Nat) : Int) = n.a by omega] at hat'
  have : a' = a := by
   obtain ⟨_, _, b1, hb1, rfl⟩ := hat
   obtain ⟨_, _, b2, hb2, rfl⟩ := hat'
   rw [hb1] at hb2; cases hb2; rfl
  subst this
  refine ⟨_, hv', ?_⟩
  rw [hA', wrap_u64 (by omega)]
  refine (c_rPutNum b bs na w15 h'.rows.lst (by omega) (by omega)).mono ?_
  rintro _ w16 ⟨r, rfl, hr⟩
  have := varint_le10 (n := na) (by omega)
  exact ⟨r, rfl, hr.kept, c_tx6 w0 q S i1 n na nb hb (h'.call hr) (by rw [List.length_append]; omega) Kc K hK⟩
 ·rw [hc] at hK
  simp only [Sp.opt, Bool.false_eq_true, if_false, List.append_nil] at hK
  exact fun w15 hs => c_tx6 w0 q S i1 n na nb hb (h.hst S hs) (by omega) Kc K hK
theorem c_tx4 (hx : n.text.size ≤ 64) (ha : s_A n.kind ≥ 1 → 0 ≤ n.a ∧ A[n.a.toNat]? = some (na : Int) ∧ na < 65537) (hb : s_A n.kind = 2 → 0 ≤ n.b ∧ A[n.b.toNat]? = some (nb : Int) ∧ nb < 65537) {H : NP} {w : World} {b : Sl} {bs : List UInt8} (h : TxAt w0 w H q L FR s1 r1 A xs B b bs) (hl : bs.length ≤ 800000000)
  (Kc : Sl → Int → NP → WP) (K : Sl → WP) (hK : ∀ b' H' w', TxAt w0 w' H' q L FR s1 r1 A xs B b' (bs ++ Sp.opt (n.kind == 3) .text n na nb ++ Sp.opt (decide (s_A n.kind ≥ 1)) .fst n na nb ++ Sp.opt (s_A n.kind == 2) .snd n na nb) → Kc b' (IntKind.i64.wrap (i1 + 1)) H' w') : m_E_j4 s1 i1 n.kind n.text n.a n.b b w0 H w Kc K := by
 unfold m_E_j4
 refine ⟨fun hc => ?_, fun hc => ?_⟩
 ·rw [hc] at hK
  refine (c_rPutText b bs n.text w h.rows.lst (by omega) (by omega)).mono ?_
  rintro _ w16 ⟨r, rfl, hr⟩
  have := varint_le10 (n := n.text.size) (by omega)
  have e : n.text.data.toList.length = n.text.size := Array.length_toList
  exact ⟨r, rfl, hr.kept, c_tx5 w0 q S i1 n na nb ha hb (h.call hr) (by rw [List.length_append, textBytes, List.length_append]; omega) Kc K hK⟩
 ·rw [hc] at hK
  simp only [Sp.opt, Bool.false_eq_true, if_false, List.append_nil] at hK
  exact c_tx5 w0 q S i1 n na nb ha hb h (by omega) Kc K hK
theorem c_tx3 (hu : Sp.isNum n.num) (hx : n.text.size ≤ 64) (ha : s_A n.kind ≥ 1 → 0 ≤ n.a ∧ A[n.a.toNat]? = some (na : Int) ∧ na < 65537) (hb : s_A n.kind = 2 → 0 ≤ n.b ∧ A[n.b.toNat]? = some (nb : Int) ∧ nb < 65537) {H : NP} {w : World} {b : Sl} {bs : List UInt8} (h : TxAt w0 w H q L FR s1 r1 A xs B b bs) (hl : bs.length ≤ 700000000)
  (Kc : Sl → Int → NP → WP) (K : Sl → WP) (hK : ∀ b' H' w', TxAt w0 w' H' q L FR s1 r1 A xs B b' (bs ++ Sp.opt (n.kind == 2) .num n na nb ++ Sp.opt (n.kind == 3) .text n na nb ++ Sp.opt (decide (s_A n.kind ≥ 1)) .fst n na nb ++ Sp.opt (s_A n.kind == 2) .snd n na nb) → Kc b' (IntKind.i64.wrap (i1 + 1)) H' w') : m_E_j3 s1 i1 n.kind n.num n.text n.a n.b b w0 H w Kc K := by
 unfold m_E_j3
 refine ⟨fun hc => ?_, fun hc => ?_⟩
 ·rw [hc] at hK
  obtain ⟨u0, u1⟩ := hu
  have e : n.num = ((n.num.toNat : Nat) : Int) := by omega
  rw [e]
  refine (c_rPutNum b bs n.num.toNat w h.rows.lst (by omega) (by omega)).mono ?_
  rintro _ w16 ⟨r, rfl, hr⟩
  have := varint_le10 (n := n.num.toNat) (by omega)
  exact ⟨r, rfl, hr.kept, c_tx4 w0 q S i1 n na nb hx ha hb (h.call hr) (by rw [List.length_append]; omega) Kc K hK⟩
 ·rw [hc] at hK
  simp only [Sp.opt, Bool.false_eq_true, if_false, List.append_nil] at hK
  exact c_tx4 w0 q S i1 n na nb hx ha hb h (by omega) Kc K hK
theorem c_tx2 (ht : 0 ≤ n.to ∧ n.to < 16) (hu : Sp.isNum n.num) (hx : n.text.size ≤ 64) (ha : s_A n.kind ≥ 1 → 0 ≤ n.a ∧ A[n.a.toNat]? = some (na : Int) ∧ na < 65537) (hb : s_A n.kind = 2 → 0 ≤ n.b ∧ A[n.b.toNat]? = some (nb : Int) ∧ nb < 65537) {H : NP} {w : World} {b : Sl} {bs : List UInt8} (h : TxAt w0 w H q L FR s1 r1 A xs B b bs) (hl : bs.length ≤ 600000000)
  (Kc : Sl → Int → NP → WP) (K : Sl → WP) (hK : ∀ b' H' w', TxAt w0 w' H' q L FR s1 r1 A xs B b' (bs ++ Sp.opt ((n.kind == 8) || (n.kind == 9)) .to_ n na nb ++ Sp.opt (n.kind == 2) .num n na nb ++ Sp.opt (n.kind == 3) .text n na nb ++ Sp.opt (decide (s_A n.kind ≥ 1)) .fst n na nb ++ Sp.opt (s_A n.kind == 2) .snd n na nb) → Kc b' (IntKind.i64.wrap (i1 + 1)) H' w') : m_E_j2 s1 i1 n.kind n.to n.num n.text n.a n.b b w0 H w Kc K := by
 unfold m_E_j2
 refine ⟨fun hc H4 w13 hs => ?_, fun hc H4 w13 hs => ?_⟩
 ·rw [hc] at hK
  have h' := h.hst S hs
  have e : n.to = ((n.to.toNat : Nat) : Int) := by omega
  rw [e, wrap_u64 (by omega)]
  refine (c_rPutNum b bs n.to.toNat w13 h'.rows.lst (by omega) (by omega)).mono ?_
  rintro _ w16 ⟨r, rfl, hr⟩
  have := varint_le10 (n := n.to.toNat) (by omega)
  exact ⟨r, rfl, hr.kept, c_tx3 w0 q S i1 n na nb hu hx ha hb (h'.call hr) (by rw [List.length_append]; omega) Kc K hK⟩
 ·rw [hc] at hK
  simp only [Sp.opt, Bool.false_eq_true, if_false, List.append_nil] at hK
  exact c_tx3 w0 q S i1 n na nb hu hx ha hb (h.hst S hs) (by omega) Kc K hK
end
theorem c_ref07_Text (q : Addr) (t : Int) (w0 : World) {L : Sp.Pool} {FR : NP} (hW : Sp.Wf L) (hN : Sp.Nums L) (hP : PoolR w0 q L FR) :
  Calls Try.prog 34 #[.pointer (some q), .int .i64 t] w0 (fun e w' => ∃ r : Sl, e = .returned r.v ∧ RetO w0 5 1 (byr (textOf L t)) r w') := by
 refine w_E _ _ w0 (fun r w' => RetO w0 5 1 (byr (textOf L t)) r w') ?_
 unfold m_E
 refine (c_ref05_Subs q t w0 hW hP).mono ?_
 rintro _ w1 ⟨r1, rfl, hr1⟩
 have P1 := hP.pure hr1.pure
 have hfew := Sp.subs_few hW t
 have hsub : ∀ u ∈ Sp.subs L t, Sp.inP L u = true := fun u hu => have h := (Sp.subs_mem hW).1 hu; (Sp.Sub.le hW h.1 h.2).1
 have hord := Sp.subs_ord hW t
 have hnd := Sp.subs_nodup hW t
 have htx : textOf L t = textFrom L [] (Sp.subs L t) := rfl
 rw [htx]
 generalize hxs : Sp.subs L t = xs at *
 have hL := hW.ok.few
 have hv1 : ∃ v1 : Sl, w1.cell? q = some v1.v ∧ v1.len = L.length := by
  obtain ⟨sa, sb, sc, h, _⟩ := P1
  exact ⟨sa, h.box.cell0, by rw [h.r1.len]; simp⟩
 obtain ⟨v1, hv1, hv1l⟩ := hv1
 refine ⟨r1, rfl, hr1.kept, q, rfl, v1, hv1, ?_⟩
 rw [hv1l, show IntKind.i64.wrap ((L.length : Int) + 1) = ((L.length + 1 : Nat) : Int) by rw [i64 (by omega) (by omega)]; omega]
 obtain ⟨w2, hmk, hR2, E2⟩ := Rws.make (P := Try.prog) slT_int (zr := [.int .i64 0]) (fun i z hi hz => by
   have h1 : Try.prog.info? 3 = some Try.t3 := by kernel_rfl
   rw [h1] at hi; cases hi
   have h2 : Try.t3.zero = some (.int .i64 0) := by kernel_rfl
   rw [h2] at hz; cases hz; rfl) (k := .i64) (k' := .i64) (n := L.length + 1) (by omega) (by simp only [maxLen]; omega) w1
 refine ⟨_, w2, hmk, E2.keptP, ?_⟩
 generalize hs1e : (Sl.mk (some ⟨w1.heap.size, 0, none⟩) (L.length + 1) (L.length + 1)) = s1 at *
 have hs1b : ∀ x, s1.blk x → x = w1.heap.size := fun x hx => by subst hs1e; obtain ⟨a, ha, rfl⟩ := hx; cases ha; rfl
 have hrep : List.replicate (L.length + 1) [Value.int .i64 0] = tmr (List.replicate (L.length + 1) 0) := by simp [tmr]
 rw [hrep] at hR2
 have z1 := hr1.pure.size
 have z2 := E2.size
 have hs1lt : ∀ x, s1.blk x → x < w2.heap.size := fun x hx => hR2.lt hx
 have hnil : ∀ b, ¬ Sl.nil.blk b := fun b hb => by obtain ⟨a, h, _⟩ := hb; cases h
 have S : TxSep w0 q FR s1 r1 w2.heap.size := ⟨fun x hx => by have := hP.lt hx; omega, fun x hx => by have := hr1.rows.lt hx; omega, fun x hx => ⟨hs1lt x hx, by have := hs1b x hx; omega, fun hh => by have := hP.lt hh; have := hs1b x hx; omega, fun hh => by have := hr1.rows.lt hh; have := hs1b x hx; omega⟩, by omega⟩
 have T2 : TxAt w0 w2 None q L FR s1 r1 (List.replicate (L.length + 1) 0) xs w2.heap.size Sl.nil [] := ⟨P1.pure E2, hR2, hr1.rows.pure E2, Rws.nil _ _ _, hr1.pure.trans E2, fun x hx => hx.elim, fun x hx => (hnil x hx).elim, Nat.le_refl _⟩
 generalize w2.heap.size = B at *
 refine ⟨fun b i H w => ∃ (j : Nat) (A : List Int), i = j ∧ j ≤ xs.length ∧ A.length = L.length + 1 ∧ (∀ u ∈ xs.take j, A[u.toNat]? = some ((posOf (xs.take j) u : Nat) : Int)) ∧ TxAt w0 w H q L FR s1 r1 A xs B b (textFrom L [] (xs.take j)), fun _ i _ => ((xs.length : Int) - i).toNat, ⟨0, _, rfl, Nat.zero_le _, by simp, by simp, T2⟩, ?_⟩
 rintro b _ Hl wl hst ⟨j, A, rfl, hj, hAl, hA, hT⟩
 unfold m_E_l1
 have hlen : r1.len = xs.length := by rw [hT.subs.len, tmr_len]
 refine ⟨fun hc => ?_, fun hc => ?_⟩
 ·have hc := lt_of_dec hlen hc
  have hzin := hsub xs[j] (List.getElem_mem _)
  have hz := Sp.inP_iff.1 hzin
  have hsplit : xs = xs.take j ++ xs[j] :: xs.drop (j + 1) := by rw [← List.drop_eq_getElem_cons hc, List.take_append_drop]
  have hko := hord _ _ _ hsplit
  have hzn : xs[j] ∉ xs.take j := by
   rw [hsplit] at hnd
   have := (List.nodup_append.1 hnd).2.2
   exact fun h => this _ h _ (.head _) rfl
  have htk : xs.take (j + 1) = xs.take j ++ [xs[j]] := List.take_succ_eq_append_getElem hc
  have hbs := textFrom_len hW hN (xs.take j) [] (fun u hu => hsub u (List.mem_of_mem_take hu)) (by simp only [List.length_nil, List.length_take]; omega)
  have hjl : (xs.take j).length = j := by rw [List.length_take]; omega
  rw [hjl] at hbs
  obtain ⟨k1, k9, f0, f1, t0, t1, x1⟩ := Sp.node_fit hW hzin
  have hnum := hN.node xs[j]
  obtain ⟨a3, hat3, _, hv3⟩ := tm_nth hT.subs.lst hc
  have hnode : ∃ (v2 : Sl) (a4 : Addr), wl.cell? q = some v2.v ∧ FR q.block ∧ At v2 (IntKind.i64.wrap (xs[j] - 1)) 7 a4 ∧ Row wl a4 (nrow (Sp.nodeOf L xs[j])) ∧ FR a4.block := by
   obtain ⟨sa, sb, sc, h, hF⟩ := hT.pool
   obtain ⟨e, he, ⟨a, g1, g2⟩, _⟩ := h.at1 hzin hW.ok
   refine ⟨sa, a, h.box.cell0, (hF _).2 (.inl rfl), g1, ?_, (hF _).2 (.inr (.inl (at_blk g1)))⟩
   have : Sp.nodeOf L xs[j] = e.node := by simp only [Sp.nodeOf, he, Option.map_some, Option.getD_some]
   rw [this]; exact g2
  obtain ⟨v2, a4, hv2, hFq, hat4, hrow4, hF4⟩ := hnode
  have hHR : ∀ x, FR x → ¬ Hl x := fun x hx hh => by have := S.lR x hx; have := (hT.hB x hh).1; omega
  refine ⟨q, rfl, v2, hv2, hHR _ hFq, a3, hat3, _, hv3, fun hh => by have := S.lr _ (at_blk hat3); have := (hT.hB _ hh).1; omega, a4, hat4, _, _, _, _, _, _, _, hrow4, hHR _ hF4, a3, hat3, fun H2 w6 hs6 => ?_⟩
  have T6 := hT.hst S hs6
  obtain ⟨a3', hat3', _, hv3'⟩ := tm_nth T6.subs.lst hc
  have : a3' = a3 := by
   obtain ⟨_, _, b1, hb1, rfl⟩ := hat3
   obtain ⟨_, _, b2, hb2, rfl⟩ := hat3'
   rw [hb1] at hb2; cases hb2; rfl
  subst this
  obtain ⟨a6, hat6, hb6, hw6, hset⟩ := tmr_put T6.at_ (k := xs[j]) (j := xs[j].toNat) (by omega) (by omega)
  refine ⟨_, hv3', a6, hat6, hw6, fun hh => by have := S.ls _ hb6; have := (T6.hB _ hh).1; omega, ?_⟩
  rintro w9 h9
  obtain ⟨hA9, X9⟩ := hset (j : Int)
  rw [← h9] at hA9 X9
  have T9 : TxAt w0 w9 H2 q L FR s1 r1 (A.set xs[j].toNat j) xs B b (textFrom L [] (xs.take j)) :=
   ⟨T6.pool.ext X9 (fun x hx hh => (S.ls x hh).2.2.1 hx), hA9, T6.subs.ext X9 (fun x hx hh => (S.ls x hh).2.2.2 hx), T6.rows.ext X9 (fun x hx hh => by have := (T6.own x hx).1; have := (S.ls x hh).1; omega), T6.pure.trans' X9 (fun i hi hh => by have := (S.ls i hh).2.1; omega), fun x hx => ⟨(T6.hB x hx).1, by have := (T6.hB x hx).2; have := X9.size; omega⟩, T6.own, by have := T6.lt; have := X9.size; omega⟩
  generalize hz' : xs[j] = z at *
  have hnt : nodeText L (xs.take j) z = UInt8.ofNat (Sp.nodeOf L z).kind.toNat :: (flds (Sp.nodeOf L z).kind).flatMap (Fld.bytes (Sp.nodeOf L z) (posOf (xs.take j) (Sp.nodeOf L z).a) (posOf (xs.take j) (Sp.nodeOf L z).b)) := rfl
  rw [flds_opt _ _ _ k1 k9] at hnt
  have hkin : ∀ u ∈ Sp.kidsOf (Sp.nodeOf L z), 0 ≤ u ∧ (A.set z.toNat (j : Int))[u.toNat]? = some ((posOf (xs.take j) u : Nat) : Int) ∧ posOf (xs.take j) u < 65537 := fun u hu => by
   have hm := hko u hu
   have hin := Sp.inP_iff.1 (hsub u (List.mem_of_mem_take hm))
   refine ⟨by omega, ?_, by have := posOf_le (xs.take j) u; rw [hjl] at this; omega⟩
   rw [List.getElem?_set_ne (fun e => hzn (by rw [show z = u by omega]; exact hm))]
   exact hA u hm
  have hA' : ∀ u ∈ xs.take (j + 1), (A.set z.toNat (j : Int))[u.toNat]? = some ((posOf (xs.take (j + 1)) u : Nat) : Int) := fun u hu => by
   rw [htk] at hu ⊢
   rcases List.mem_append.1 hu with hu | hu
   ·rw [posOf_app hu, List.getElem?_set_ne (fun e => hzn (by have := Sp.inP_iff.1 (hsub u (List.mem_of_mem_take hu)); rw [show z = u by omega]; exact hu))]
    exact hA u hu
   ·rw [List.mem_singleton] at hu
    subst hu
    rw [posOf_new hzn, hjl, List.getElem?_set_self (by omega)]
  have hlA' : (A.set z.toNat (j : Int)).length = L.length + 1 := by rw [List.length_set]; exact hAl
  have htxt : textFrom L [] (xs.take (j + 1)) = textFrom L [] (xs.take j) ++ nodeText L (xs.take j) z := by rw [htk, textFrom_snoc, List.nil_append]
  rw [hnt] at htxt
  generalize hnz : Sp.nodeOf L z = n at *
  obtain ⟨kn, hkn⟩ : ∃ kn : Nat, n.kind = kn := ⟨n.kind.toNat, by omega⟩
  intro p5 w10 h10
  have E10 : Pure w9 w10 := Ext.new h10
  rw [hkn, wrap_u8] at h10
  obtain ⟨s2, w11, hr11, hR11, X11, hb11⟩ := (T9.rows.pure E10).append (P := Try.prog) (ty := 44) (c := 1) slT_by (Box.of_newA h10).row rfl rfl (by rw [byr_len]; omega) (by rw [byr_len]; simp only [maxLen]; omega)
  have z10 := E10.size
  have z11 := X11.size
  have nb : ∀ x, x < B → ¬ b.blk x := fun x hx hh => by have := (T9.own x hh).1; omega
  have T11 : TxAt w0 w11 H2 q L FR s1 r1 (A.set z.toNat j) xs B s2 (textFrom L [] (xs.take j) ++ [UInt8.ofNat kn]) :=
   ⟨(T9.pool.pure E10).ext X11 (fun x hx hh => nb x (S.lR x hx) hh), (T9.at_.pure E10).ext X11 (fun x hx hh => nb x (S.ls x hx).1 hh), (T9.subs.pure E10).ext X11 (fun x hx hh => nb x (S.lr x hx) hh), by rw [byr_app]; exact hR11, (T9.pure.trans E10).trans' X11 (fun i hi hh => by have := (T9.own i hh).1; have := S.base; omega), fun x hx => ⟨(T9.hB x hx).1, by have := (T9.hB x hx).2; omega⟩, fun x hx => ⟨(hb11 x hx).elim (fun h => (T9.own x h).1) (fun h => by have := T9.lt; omega), (hb11 x hx).elim (fun h => (T9.own x h).2) (fun h hh => by have := (T9.hB x hh).2; omega)⟩, by have := T9.lt; omega⟩
  refine ⟨s2, w11, hr11, X11.kept (fun x hx hh => (T9.own x hh).2 hx), ?_⟩
  have hcn : n.kind.toNat = kn := by omega
  rw [hcn] at htxt
  have hfin : ∀ (b' : Sl) (H' : NP) (w' : World), TxAt w0 w' H' q L FR s1 r1 (A.set z.toNat j) xs B b' (textFrom L [] (xs.take j) ++ [UInt8.ofNat kn] ++ Sp.opt (s_U n.kind) .from_ n (posOf (xs.take j) n.a) (posOf (xs.take j) n.b) ++ Sp.opt ((n.kind == 8) || (n.kind == 9)) .to_ n (posOf (xs.take j) n.a) (posOf (xs.take j) n.b) ++ Sp.opt (n.kind == 2) .num n (posOf (xs.take j) n.a) (posOf (xs.take j) n.b) ++ Sp.opt (n.kind == 3) .text n (posOf (xs.take j) n.a) (posOf (xs.take j) n.b) ++ Sp.opt (decide (s_A n.kind ≥ 1)) .fst n (posOf (xs.take j) n.a) (posOf (xs.take j) n.b) ++ Sp.opt (s_A n.kind == 2) .snd n (posOf (xs.take j) n.a) (posOf (xs.take j) n.b)) →
    (∃ (j' : Nat) (A' : List Int), IntKind.i64.wrap ((j : Int) + 1) = j' ∧ j' ≤ xs.length ∧ A'.length = L.length + 1 ∧ (∀ u ∈ xs.take j', A'[u.toNat]? = some ((posOf (xs.take j') u : Nat) : Int)) ∧ TxAt w0 w' H' q L FR s1 r1 A' xs B b' (textFrom L [] (xs.take j'))) ∧ ((xs.length : Int) - IntKind.i64.wrap ((j : Int) + 1)).toNat < ((xs.length : Int) - (j : Int)).toNat := fun b' H' w' h => by
   refine ⟨⟨j + 1, _, wrap_succ hc (by omega), hc, hlA', hA', ?_⟩, by rw [wrap_succ hc (by omega)]; exact lt_dec hc⟩
   rw [htxt]
   simpa using h
  have hfstk : s_A n.kind ≥ 1 → 0 ≤ n.a ∧ (A.set z.toNat (j : Int))[n.a.toNat]? = some ((posOf (xs.take j) n.a : Nat) : Int) ∧ posOf (xs.take j) n.a < 65537 := fun h => hkin _ (kids_fst h)
  have hsndk : s_A n.kind = 2 → 0 ≤ n.b ∧ (A.set z.toNat (j : Int))[n.b.toNat]? = some ((posOf (xs.take j) n.b : Nat) : Int) ∧ posOf (xs.take j) n.b < 65537 := fun h => hkin _ (kids_snd h)
  refine ⟨fun hcn w12 hs12 => ?_, fun hcn w12 hs12 => ?_⟩
  ·have T12 := T11.hst S hs12
   have e : n.frm = ((n.frm.toNat : Nat) : Int) := by omega
   rw [e, wrap_u64 (by omega)]
   refine (c_rPutNum s2 _ n.frm.toNat w12 T12.rows.lst (by rw [List.length_append, List.length_singleton]; omega) (by omega)).mono ?_
   rintro _ w16 ⟨r, rfl, hr⟩
   have := varint_le10 (n := n.frm.toNat) (by omega)
   refine ⟨r, rfl, hr.kept, ?_⟩
   refine c_tx2 w0 q S j n (posOf (xs.take j) n.a) (posOf (xs.take j) n.b) ⟨t0, t1⟩ hnum x1 hfstk hsndk (T12.call hr) (by rw [List.length_append, List.length_append, List.length_singleton]; omega) _ _ (fun b' H' w' h => hfin b' H' w' ?_)
   rw [hcn]; exact h
  ·have T12 := T11.hst S hs12
   refine c_tx2 w0 q S j n (posOf (xs.take j) n.a) (posOf (xs.take j) n.b) ⟨t0, t1⟩ hnum x1 hfstk hsndk T12 (by rw [List.length_append, List.length_singleton]; omega) _ _ (fun b' H' w' h => hfin b' H' w' ?_)
   rw [hcn]
   simp only [Sp.opt, Bool.false_eq_true, if_false, List.append_nil] at h ⊢
   exact h
 ·have hc := eq_of_dec hlen hj hc
  subst hc
  rw [List.take_length] at hT
  exact ⟨hT.rows, fun x hx => by have := (hT.own x hx).1; have := S.base; omega, hT.pure⟩
theorem c_ref07_Encode (q : Addr) (t : Int) (w0 : World) {L : Sp.Pool} {FR : NP} (hW : Sp.Wf L) (hN : Sp.Nums L) (hP : PoolR w0 q L FR) :
  Calls Try.prog 32 #[.pointer (some q), .int .i64 t] w0 (fun e w' => ∃ r : Sl, ∃ n : Int, e = .returned (.tuple #[r.v, .int .i64 n]) ∧ (n = (encS L t).2 ∧ RetO w0 5 1 (byr (encS L t).1) r w')) := by
 refine w_K2 _ _ w0 (fun r n w' => n = (encS L t).2 ∧ RetO w0 5 1 (byr (encS L t).1) r w') ?_
 unfold m_K2
 have hnil : ∀ b, ¬ Sl.nil.blk b := fun b hb => by obtain ⟨a, h, _⟩ := hb; cases h
 refine (c_ref05_In q t w0 hP).mono ?_
 rintro _ _ ⟨_, rfl, rfl, rfl⟩
 refine ⟨_, rfl, fun hc => ?_, fun hc => ?_⟩
 ·have hin : Sp.inP L t = false := by simpa using hc
  have e : encS L t = ([], 51) := by unfold encS; rw [hin]; rfl
  rw [e]
  exact ⟨rfl, Rws.nil _ _ _, fun b hb => (hnil b hb).elim, Ext.refl _⟩
 ·have hin : Sp.inP L t = true := by simpa using hc
  refine (c_ref07_Text q t _ hW hN hP).mono ?_
  rintro _ w4 ⟨r2, rfl, h⟩
  have hl : r2.len = (textOf L t).length := by rw [h.rows.len, byr_len]
  refine ⟨r2, rfl, fun hc => ?_, fun hc => ?_⟩
  ·have hc := of_decide_eq_true hc
   have e : encS L t = ([], 1) := by unfold encS; rw [hin, if_pos rfl, if_pos (by omega)]
   rw [e]
   exact ⟨rfl, Rws.nil _ _ _, fun b hb => (hnil b hb).elim, h.pure⟩
  ·have hc := of_decide_eq_false hc
   have e : encS L t = (textOf L t, 0) := by unfold encS; rw [hin, if_pos rfl, if_neg (by omega)]
   rw [e]
   exact ⟨rfl, h⟩
end Go.Proofs
end
section
namespace Go.Sp
theorem make_few8 (L : Pool) (n : Node) : (make L n).2.2.length ≤ L.length + 1 := by
 rcases make_pool L n with e | ⟨_, e⟩ <;> rw [e] <;> simp
theorem grow_few8 (t : Tree) : ∀ L, (grow L t).2.2.length ≤ L.length + cnt t := by
 induction t using Tree.ind with
 | h k f t u x ks ih =>
  have : ∀ (ks : List Tree), (∀ i (hi : i < ks.length), ∀ L, (grow L ks[i]).2.2.length ≤ L.length + cnt ks[i]) → ∀ n i L, (growAll n i L ks).2.2.length ≤ L.length + 1 + cntAll ks := by
   intro ks
   induction ks with
   | nil => intro _ n i L; unfold growAll; have := make_few8 L n; simp only [cntAll]; omega
   | cons t ts iht =>
    intro hh n i L
    have h0 := hh 0 (by simp) L
    simp only [List.getElem_cons_zero] at h0
    unfold growAll
    simp only [cntAll]
    split
    ·simp only; omega
    ·have := iht (fun i hi => hh (i + 1) (by simpa using hi)) (if i = 0 then { n with a := (grow L t).1 } else { n with b := (grow L t).1 }) (i + 1) (grow L t).2.2
     omega
  intro L
  have := this ks ih ⟨k, f, t, u, x, 0, 0⟩ 0 L
  unfold grow
  rw [cnt]; omega
theorem of_few8 (L : Pool) (t : Tree) : (of L t).2.2.length ≤ L.length + cnt t := by
 have := grow_few8 t L
 unfold of
 split
 ·simp only; omega
 ·split
  ·simp only; omega
  ·exact this
end Go.Sp
end
section
open Go Go.SE
namespace Go.Sp
def poolOf (ts : List Tree) : Pool := ts.foldl (fun L t => (of L t).2.2) []
theorem poolOf_ok (ts : List Tree) : Wf (poolOf ts) ∧ (poolOf ts).length ≤ cntAll ts := by
 have : ∀ (ts : List Tree) L, Wf L → Wf (ts.foldl (fun L t => (of L t).2.2) L) ∧ (ts.foldl (fun L t => (of L t).2.2) L).length ≤ L.length + cntAll ts := by
  intro ts
  induction ts with
  | nil => intro L h; exact ⟨h, by simp [cntAll]⟩
  | cons t ts ih =>
   intro L h
   obtain ⟨h1, h2⟩ := ih _ (of_wf h t)
   have := of_few8 L t
   exact ⟨h1, by rw [List.foldl_cons, cntAll]; omega⟩
 obtain ⟨h1, h2⟩ := this ts [] Wf.nil
 exact ⟨h1, by unfold poolOf; simpa using h2⟩
end Go.Sp
namespace Go.Proofs
attribute [local irreducible] Calls
structure Pl2 (w0 : World) (H : NP) (w : World) (p q : Addr) (L1 L2 : Sp.Pool) (F1 F2 : NP) : Prop where
 pure : Pure w0 w
 pool : PoolAt w p L1 F1
 ref : PoolR w q L2 F2
 o1 : ∀ b, F1 b → w0.heap.size ≤ b ∧ ¬ H b ∧ ¬ F2 b
 o2 : ∀ b, F2 b → w0.heap.size ≤ b ∧ ¬ H b
section
variable {w0 w w' : World} {H H' : NP} {p q : Addr} {L1 L2 : Sp.Pool} {F1 F2 : NP}
theorem Pl2.pureE (h : Pl2 w0 H w p q L1 L2 F1 F2) (E : Pure w w') : Pl2 w0 H w' p q L1 L2 F1 F2 := ⟨h.pure.trans E, h.pool.pure E, h.ref.pure E, h.o1, h.o2⟩
theorem Pl2.first (h : Pl2 w H w' p q L1 L2 F1 F2) (E : Pure w0 w) : Pl2 w0 H w' p q L1 L2 F1 F2 :=
 ⟨E.trans h.pure, h.pool, h.ref, fun b hb => ⟨Nat.le_trans E.size (h.o1 b hb).1, (h.o1 b hb).2⟩, fun b hb => ⟨Nat.le_trans E.size (h.o2 b hb).1, (h.o2 b hb).2⟩⟩
theorem Pl2.hst (h : Pl2 w0 H w p q L1 L2 F1 F2) (hs : Hst w0 H w H' w') : Pl2 w0 H' w' p q L1 L2 F1 F2 := by
 have d : ∀ b, b < w.heap.size → ¬ H b → ¬ H' b := fun b h1 h2 => hs.disj (G := (· = b)) (fun c e => by subst e; exact ⟨h1, h2⟩) b rfl
 have d1 : ∀ b, F1 b → ¬ H' b := fun b hb => d b (h.pool.lt hb) (h.o1 b hb).2.1
 have d2 : ∀ b, F2 b → ¬ H' b := fun b hb => d b (h.ref.lt hb) (h.o2 b hb).2
 exact ⟨h.pure.hst hs, h.pool.ext hs.ext d1, h.ref.ext hs.ext d2, fun b hb => ⟨(h.o1 b hb).1, d1 b hb, (h.o1 b hb).2.2⟩, fun b hb => ⟨(h.o2 b hb).1, d2 b hb⟩⟩
theorem Pl2.of1 (h : Pl2 w0 H w p q L1 L2 F1 F2) (hH : ∀ b, H b → b < w.heap.size) {L : Sp.Pool} {F : NP} (hP : PoolAt w' p L F) (hE : Ext F1 w w') (hF : ∀ b, F b → F1 b ∨ w.heap.size ≤ b) : Pl2 w0 H w' p q L L2 F F2 := by
 refine ⟨h.pure.trans' hE (fun i hi hb => by have := (h.o1 i hb).1; omega), hP, h.ref.ext hE (fun b hb h1 => (h.o1 b h1).2.2 hb), fun b hb => ?_, h.o2⟩
 rcases hF b hb with h1 | h1
 ·exact h.o1 b h1
 ·exact ⟨by have := h.pure.size; omega, fun hh => by have := hH b hh; omega, fun hh => by have := h.ref.lt hh; omega⟩
theorem Pl2.of2 (h : Pl2 w0 H w p q L1 L2 F1 F2) (hH : ∀ b, H b → b < w.heap.size) {L : Sp.Pool} {F : NP} (hP : PoolR w' q L F) (hE : Ext F2 w w') (hF : ∀ b, F b → F2 b ∨ w.heap.size ≤ b) : Pl2 w0 H w' p q L1 L F1 F := by
 refine ⟨h.pure.trans' hE (fun i hi hb => by have := (h.o2 i hb).1; omega), h.pool.ext hE (fun b hb h1 => (h.o1 b hb).2.2 h1), hP, fun b hb => ⟨(h.o1 b hb).1, (h.o1 b hb).2.1, fun hh => ?_⟩, fun b hb => ?_⟩
 ·rcases hF b hh with h1 | h1
  ·exact (h.o1 b hb).2.2 h1
  ·have := h.pool.lt hb; omega
 ·rcases hF b hb with h1 | h1
  ·exact h.o2 b h1
  ·exact ⟨by have := h.pure.size; omega, fun hh => by have := hH b hh; omega⟩
end
end Go.Proofs
end
section
open Go Go.SE
namespace Go.Sp
open Go.Proofs
theorem cnt_mem7 {ts : List Tree} {t : Tree} (h : t ∈ ts) : cnt t ≤ cntAll ts := by
 induction ts with
 | nil => cases h
 | cons x ts ih =>
  rw [cntAll]
  rcases List.mem_cons.1 h with rfl | h
  ·omega
  ·have := ih h; omega
theorem poolOf_nums (ts : List Tree) (h : ∀ i (hi : i < ts.length), NumT ts[i]) : Nums (poolOf ts) := by
 have : ∀ (ts : List Tree) L, (∀ t ∈ ts, NumT t) → Nums L → Nums (ts.foldl (fun L t => (of L t).2.2) L) := by
  intro ts
  induction ts with
  | nil => intro L _ h; exact h
  | cons t ts ih => intro L hh h; exact ih _ (fun x hx => hh x (List.mem_cons_of_mem _ hx)) (h.of (hh t (by simp)))
 exact this ts [] (fun t ht => by obtain ⟨i, hi, rfl⟩ := List.mem_iff_getElem.1 ht; exact h i hi) Nums.nil
end Go.Sp
namespace Go.Proofs
attribute [local irreducible] Calls CallsD
theorem c_law07_both {S : NP} (ts : List Sp.Tree) (s : Sl) (w0 : World) (hT : TreeAt S w0 s (.mk 0 0 0 0 ⟨#[]⟩ ts)) (hS : ∀ b, S b → b < w0.heap.size) (hn : ts.length ≤ 1000) (hc : Sp.cntAll ts ≤ 900000) :
  Calls Try.prog 31 #[s.v] w0 (fun e w' => ∃ r1 : Option Addr, ∃ r2 : Option Addr, e = .returned (.tuple #[.pointer r1, .pointer r2]) ∧ ∃ p q F1 F2, r1 = some p ∧ r2 = some q ∧ Pl2 w0 None w' p q (Sp.poolOf ts) (Sp.poolOf ts) F1 F2) := by
 refine w_H1 _ w0 (fun r1 r2 w' => ∃ p q F1 F2, r1 = some p ∧ r2 = some q ∧ Pl2 w0 None w' p q (Sp.poolOf ts) (Sp.poolOf ts) F1 F2) ?_
 cases hT with
 | mk _ _ _ _ _ _ _ rs len fit row kid =>
 unfold m_H1
 refine (c_New w0).mono ?_
 rintro _ w1 ⟨_, rfl, p, rfl, E1, F1, hP1, hF1⟩
 refine ⟨_, rfl, ?_⟩
 refine (c_ref05_New w1).mono ?_
 rintro _ w2 ⟨_, rfl, q, F2, rfl, hP2, E2, hF2⟩
 refine ⟨_, rfl, fun hc => (by cases hc), fun _ => ?_⟩
 have S0 : Pl2 w0 None w2 p q [] [] F1 F2 := ⟨E1.trans E2, hP1.pure E2, hP2,
  fun b hb => ⟨hF1 b hb, id, fun h2 => by have := hF2 b h2; have := hP1.lt hb; omega⟩, fun b hb => ⟨by have := hF2 b hb; have := E1.size; omega, id⟩⟩
 refine ⟨fun i w' => ∃ j : Nat, i = j ∧ j ≤ ts.length ∧ ∃ F1 F2, Pl2 w0 None w' p q (Sp.poolOf (ts.take j)) (Sp.poolOf (ts.take j)) F1 F2, fun i _ => ((ts.length : Int) - i).toNat, ⟨0, rfl, Nat.zero_le _, F1, F2, S0⟩, ?_⟩
 rintro _ wl ⟨j, rfl, hj, F1, F2, hq⟩
 unfold m_H1_l1
 refine ⟨fun h => ?_, fun h => ?_⟩
 ·have hlt := lt_of_dec len h
  have htk : ts.take (j + 1) = ts.take j ++ [ts[j]] := List.take_succ_eq_append_getElem hlt
  obtain ⟨hW, _⟩ := Sp.poolOf_ok (ts.take j)
  have hstep : Sp.poolOf (ts.take (j + 1)) = (Sp.of (Sp.poolOf (ts.take j)) ts[j]).2.2 := by rw [htk]; unfold Sp.poolOf; rw [List.foldl_append]; rfl
  have hcj : Sp.cnt ts[j] ≤ Sp.cntAll ts := Sp.cnt_mem7 (List.getElem_mem hlt)
  generalize Sp.poolOf (ts.take j) = Q at *
  obtain ⟨a, hat, hSa, hrow⟩ := row j hlt
  have hkid := kid j hlt
  generalize ts[j] = x at *
  generalize rs j = sx at *
  obtain ⟨xk, xf, xt, xu, xx, xks⟩ := x
  have hrl : Row wl a (trow (.mk xk xf xt xu xx xks) sx) := hq.pure.row hrow (fun h => h)
  refine ⟨a, hat, _, _, _, _, _, sx, hrl, ?_⟩
  have zl := hq.pure.size
  refine (c_ref05_Lent (.mk xk xf xt xu xx xks) sx wl (by omega) (hkid.pure hq.pure) (fun b hb => by have := hS b hb; omega)).mono ?_
  rintro _ w3 ⟨sL, rfl, hTL, E3⟩
  refine ⟨_, _, _, _, _, _, rfl, ?_⟩
  have hq3 := hq.pureE E3
  refine (c_Of (S := fun b => wl.heap.size ≤ b ∧ b < w3.heap.size) p (.mk xk xf xt xu xx xks) sL w3 hTL.lt hq3.pool hW.ok (fun b hb hh => by have := hq.pool.lt hb; omega) (fun b hb => hb.2)).mono ?_
  rintro _ w4 ⟨r3, r4, rfl, h34, F1', hP4, E4, hF4⟩
  refine ⟨_, _, rfl, ?_⟩
  have hq4 := hq3.of1 (fun b hb => hb.elim) hP4 E4 hF4
  have hr4 : Row w4 a (trow (.mk xk xf xt xu xx xks) sx) := hq4.pure.row hrow (fun h => h)
  refine ⟨a, hat, _, _, _, _, _, sx, hr4, ?_⟩
  refine (c_ref05_Of (S := S) q (.mk xk xf xt xu xx xks) sx w4 (hkid.pure hq4.pure) hq4.ref hW.ok (fun b hb hh => by have := (hq4.o2 b hb).1; have := hS b hh; omega) (fun b hb => by have := hS b hb; have := hq4.pure.size; omega)).mono ?_
  rintro _ w5 ⟨r5, r6, rfl, h56, F2', hP5, E5, hF5⟩
  have hq5 := hq4.of2 (fun b hb => hb.elim) hP5 E5 hF5
  refine ⟨_, _, rfl, ⟨j + 1, wrap_succ hlt (by omega), hlt, F1', F2', ?_⟩, by rw [wrap_succ hlt (by omega)]; exact lt_dec hlt⟩
  rw [hstep]; exact hq5
 ·have hge := eq_of_dec len hj h
  subst hge
  rw [List.take_length] at hq
  exact ⟨p, q, F1, F2, rfl, rfl, hq⟩
theorem c_law07_WireEncodes {S : NP} (ts : List Sp.Tree) (s : Sl) (t : Int) (w0 : World) (hT : TreeAt S w0 s (.mk 0 0 0 0 ⟨#[]⟩ ts)) (hS : ∀ b, S b → b < w0.heap.size) (hN : ∀ i (hi : i < ts.length), Sp.NumT ts[i]) :
  Calls Try.prog 6 #[s.v, .int .i64 t] w0 (fun e w' => ∃ r : Bool, e = .returned (.bool r) ∧ (r = true ∧ Pure w0 w')) := by
 refine w_R _ _ w0 (fun r w' => r = true ∧ Pure w0 w') ?_
 unfold m_R
 refine (c_law07_large ts s w0 hT hS).mono ?_
 rintro _ w1 ⟨r1, rfl, hr1, E1⟩
 have z1 := E1.size
 refine ⟨_, rfl, E1.keptP, fun hc => ?_, fun hc => ?_⟩
 ·refine (c_live7 w1).mono ?_
  rintro _ w2 ⟨_, rfl, rfl, E2⟩
  exact ⟨_, rfl, E2.keptP, rfl, E1.trans E2⟩
 obtain ⟨hn, hcn⟩ := hr1 hc
 refine (c_law07_both ts s w1 (hT.pure E1) (fun b hb => by have := hS b hb; omega) (by omega) (by omega)).mono ?_
 rintro _ w3 ⟨_, _, rfl, p, q, F1, F2, rfl, rfl, hq⟩
 have E13 := hq.pure
 have hq := hq.first E1
 obtain ⟨hW, _⟩ := Sp.poolOf_ok ts
 have hNu := Sp.poolOf_nums ts hN
 generalize Sp.poolOf ts = L at *
 refine ⟨_, _, rfl, E13.keptP, fun hc => (by cases hc), fun _ => ?_⟩
 refine (c_Encode p t w3 hW hNu hq.pool).mono ?_
 rintro _ w4 ⟨r5, r6, rfl, rfl, hR5⟩
 have E4 := hR5.pure
 refine ⟨_, _, rfl, E4.keptP, ?_⟩
 have hq4 := hq.pureE E4
 refine (c_ref07_Encode q t w4 hW hNu hq4.ref).mono ?_
 rintro _ w5 ⟨r7, r8, rfl, rfl, hR7⟩
 have E5 := hR7.pure
 refine ⟨_, _, rfl, E5.keptP, ?_⟩
 have hq5 := hq4.pureE E5
 refine (c_ref05_In q t w5 hq5.ref).mono ?_
 rintro _ w5 ⟨_, rfl, rfl, rfl⟩
 refine ⟨_, rfl, Kept.refl _, ?_⟩
 have j1 : ∀ (n1 : Int) (w : World), n1 = (if Sp.inP L t = true then ((textOf L t).length : Int) else 0) → Pure w5 w → m_R_j1 t (some p) (some q) r5 (encS L t).2 r7 (encS L t).2 n1 None w (fun r w' => r = true ∧ Pure w0 w') := by
  intro n1 w hn1 E
  unfold m_R_j1
  have hqw := hq5.pureE E
  obtain ⟨sa, sb, sc, hS1, hF⟩ := hqw.ref
  have hc0 : w.cell? q = some sa.v := hS1.box.cell0
  refine ⟨fun w' => w'.cell? q = some sa.v, (Ext.drew w (F := None)).cell hc0 id, ?_⟩
  rintro w7 e7
  have E7 : Pure w w7 := by rw [e7]; exact Ext.drew w
  have hc7 := E7.cell hc0 id
  have hq7 := hqw.pureE E7
  have g5 := ((hR5.rows.pure E5).pure E).pure E7
  have g7 := (hR7.rows.pure E).pure E7
  refine ⟨_, str_of g5.lst, _, str_of g7.lst, fun _ => ?_, fun hc => absurd rfl (of_decide_eq_false hc)⟩
  refine (p_G1 _ w7).mono ?_
  rintro _ w8 ⟨rfl, E8⟩
  have hq8 := hq7.pureE E8
  have hc8 := E8.cell hc7 id
  refine ⟨_, rfl, hc8, E8.keptP, fun _ => ?_, fun hc => absurd rfl (beq_eq_false_iff_ne.1 hc)⟩
  have hlong : ∀ w, Pl2 w0 None w p q L L F1 F2 → Calls Try.prog 24 #[.pointer (some p), .int .i64 t] w (fun e w' => ∃ r : Int, e = .returned (.int .i64 r) ∧ (r = (if Sp.inP L t = true then ((textOf L t).length : Int) else 0) ∧ Pure w w')) := fun w hq => by
   refine (c_Long p t w hW hNu hq.pool).mono ?_
   rintro _ w' ⟨_, rfl, rfl, E⟩
   refine ⟨_, rfl, ?_, E⟩
   cases hin : Sp.inP L t with
   | true => rw [if_pos rfl]
   | false =>
    rw [if_neg (by simp)]
    have : Sp.subs L t = [] := by unfold Sp.subs; rw [Sp.overS, if_neg (by simp [hin])]
    unfold textOf; rw [this]; rfl
  refine (hlong w8 hq8).mono ?_
  rintro _ w9 ⟨r11, rfl, h11, E9⟩
  have hq9 := hq8.pureE E9
  have hc9 := E9.cell hc8 id
  refine ⟨_, rfl, hc9, E9.keptP, fun _ => ?_, fun hc => absurd (h11.trans hn1.symm) (beq_eq_false_iff_ne.1 hc)⟩
  refine ⟨q, rfl, sa, fun w' hw' => hw', ?_⟩
  refine (c_term_Len p w9 hq9.pool).mono ?_
  rintro _ w10 ⟨_, rfl, rfl, rfl⟩
  have hl : (sa.len : Int) = L.length := by rw [hS1.r1.len]; simp
  refine ⟨_, rfl, hc9, Kept.refl _, fun _ => ?_, fun hc => absurd hl.symm (beq_eq_false_iff_ne.1 hc)⟩
  refine (c_live7 w10).mono ?_
  rintro _ w11 ⟨_, rfl, rfl, E11⟩
  exact ⟨_, rfl, E11.cell hc9 id, E11.keptP, rfl, hq9.pure.trans E11⟩
 refine ⟨fun hc => ?_, fun hc => ?_⟩
 ·refine (c_ref07_Text q t _ hW hNu hq5.ref).mono ?_
  rintro _ w12 ⟨r14, rfl, hR14⟩
  refine ⟨_, rfl, hR14.pure.keptP, j1 _ w12 ?_ hR14.pure⟩
  rw [if_pos hc, hR14.rows.len, byr_len]
 ·exact j1 0 _ (by rw [if_neg (by rw [hc]; simp)]) (Ext.refl _)
end Go.Proofs
end
section
namespace Go.SE
open Go.ChangeShapes Go.WideShapes Go.ChangeAt Go.RowKit
section
variable {H : Type} {enc : TypeId × Value → H} {P : Program}
theorem below_trodAll (hl : laidOutB P = true) {W W' : World} (hb : Below W.heap.size W W') : ∀ (ts : List TypeId) (vs : List Value) (ds : List (DataW H)) (ps : List MemPlace), (ts.all fun t => P.readableRec t && decide (t < P.types.size)) = true →
  DataW.TrodAll enc P W 0 (fun _ => true) true ts vs ds ps → (∀ x ∈ ps, x.block < W.heap.size) → DataW.TrodAll enc P W' 0 (fun b => decide (b < W.heap.size)) true ts vs ds ps
 | [], _, _, _, _, h, _ => by
  obtain ⟨rfl, rfl, rfl⟩ := trodAll_nil h
  exact h
 | t :: ts, _, _, _, hr, h, hlt => by
  obtain ⟨v, vs1, d, ds1, a, b, rfl, rfl, rfl, h1, h2⟩ := trodAll_cons h
  simp only [List.all_cons, Bool.and_eq_true, decide_eq_true_eq] at hr
  exact ⟨a, b, Below.trod hl hr.1.1 hr.1.2 h1 hb (fun x hx => hlt x (by simp [hx])), below_trodAll hl hb ts vs1 ds1 b (by simpa using hr.2) h2 (fun x hx => hlt x (by simp [hx])), rfl⟩
theorem law_post {f : Func} {s : ChangeSpec} {W W' : World} {args : Array Value} {ds gs : List (DataW H)} {before : List MemPlace} {t : TypeId} (hl : laidOutB P = true)
  (hv : s.vars = []) (hf : ∀ ds : List (DataW H), ds.length = f.params.size → s.fn H ds = { results := [.lit (.bool true)], args := ds }) (hrt : f.resultTypes = #[t]) (ht : P.underlying t = some .bool)
  (hr : (f.params.toList.all fun t => P.readableRec t && decide (t < P.types.size)) = true)
  (hW : DataW.Whole enc P f.params.toList s.vars false W args.toList ds gs before) (E : Pure W W') :
  s.post enc P f false true false false W args (.bool true) W' := by
 have hW' := hW
 obtain ⟨p, q, hA, hV, rfl, hfz, hnd⟩ := hW
 rw [hv] at hV
 obtain ⟨rfl, rfl⟩ := trodVars_none hV
 have hlen : ds.length = f.params.size := by
  have : ∀ (ts : List TypeId) (vs : List Value) (ds : List (DataW H)) (ps : List MemPlace), DataW.TrodAll enc P W 0 (fun _ => true) true ts vs ds ps → ds.length = ts.length := by
   intro ts
   induction ts with
   | nil => intro vs ds ps h; obtain ⟨_, rfl, _⟩ := trodAll_nil h; rfl
   | cons t ts ih =>
    intro vs ds ps h
    obtain ⟨v, vs1, d, ds1, a, b, _, rfl, _, _, h2⟩ := trodAll_cons h
    simp [ih _ _ _ h2]
  simpa using this _ _ _ _ hA
 have hfn := hf ds hlen
 have hfn' : s.fn H (ds ++ []) = { results := [.lit (.bool true)], args := ds } := by rw [List.append_nil]; exact hfn
 have hlt : ∀ x ∈ p, x.block < W.heap.size := fun x hx => by simpa using hW'.lt x (by simp [hx])
 have bel := E.below
 refine ⟨ds, [], p ++ [], [], p, [], hW', ?_, ?_, ?_, bel.frame _, fun h => by cases h⟩
 ·rw [hfn', hrt]; exact trodAll_mk1 (shut_bool ht _)
 ·rw [hfn']; exact below_trodAll hl bel _ _ _ _ hr hA hlt
 ·rw [hfn', hv]; exact hV
theorem law_lifted {C : Checked} {os : Os} {f : FuncId} {fn : Func} {s : ChangeSpec} {t : TypeId} (hl : laidOutB C.prog = true)
  (hv : s.vars = []) (hf : ∀ ds : List (DataW H), ds.length = fn.params.size → s.fn H ds = { results := [.lit (.bool true)], args := ds }) (hrt : fn.resultTypes = #[t]) (ht : C.prog.underlying t = some .bool)
  (hr : (fn.params.toList.all fun t => C.prog.readableRec t && decide (t < C.prog.types.size)) = true)
  (own : ownKnob C.prog.godebug = none) (started : os.Started) (noInit : C.prog.inits.idxOf? f = none) (hfn : C.prog.funcs[f]? = some fn)
  (witness : ∃ (w : World) (tape : Tape) (i : Input), w.os = os ∧ (w.forCall tape i).Shaped C.prog ∧ i.vars = [] ∧ Input.okWide C.prog (w.forCall tape i) .any w.heap.size f i ∧
   s.pre6 enc C.prog fn [] false (w.forCall tape i).memory i.args ∧ ({} : Assume).holds C.prog (lone (Frame.enter C.prog f i.args .normal) [] (w.forCall tape i)))
  (contract : ∀ (W : World) (base : Nat) (args : Array Value) (ds : List (DataW H)) (p : List MemPlace),
   (∀ (j : Nat) t v, fn.params[j]? = some t → args[j]? = some v → Value.okWide C.prog W .any base t v) →
   DataW.TrodAll enc C.prog W 0 (fun _ => true) true fn.params.toList args.toList ds p → (∀ x ∈ p, x.block < W.heap.size) →
   Calls C.prog f args W (fun e W' => ∃ r : Bool, e = .returned (.bool r) ∧ (r = true ∧ Pure W W'))) :
  ReturnsInHanded {} C os f .any (s.pre6 enc C.prog fn [] false) (s.post enc C.prog fn false true false false) := by
 refine returnsInHanded_of_change own started noInit hfn witness ?_
 intro W base args ds gs before hval hW _ _
 have hW' := hW
 obtain ⟨p, q, hA, hV, rfl, hfz, hnd⟩ := hW
 refine (contract W base args ds p hval hA (fun x hx => by simpa using hW'.lt x (by simp [hx]))).mono fun e W' ⟨r, he, h1, h2⟩ => ?_
 subst h1
 exact ⟨_, he, law_post hl hv hf hrt ht hr hW' h2⟩
end
end Go.SE
namespace Go.SE
open Go.ChangeShapes Go.WideShapes Go.ChangeAt Go.RowKit
section
variable {P : Program} {W : World} {r : Reach} {b0 : Nat} {t : TypeId} {v : Value}
theorem okWide_sl {e : TypeId} (ht : P.underlying t = some (.slice e)) (h : Value.okWide P W r b0 t v) : ∃ a n c, v = .slice a n c := by
 unfold Value.okWide at h
 rw [ht] at h
 simp only at h
 unfold Cell.okWide at h
 rw [ht] at h
 cases v <;> simp [Cell.ok, ht] at h
 exact ⟨_, _, _, rfl⟩
end
end Go.SE
end
section
open Go Go.SE
namespace Go.Proofs
theorem mapM_facts {α β : Type} {f : α → Option β} : ∀ {l : List α} {r : List β}, l.mapM f = some r → r.length = l.length ∧ ∀ (i : Nat) (a : α), l[i]? = some a → ∃ b, f a = some b ∧ r[i]? = some b
 | [], r, h => by
  have : r = [] := by simpa using h.symm
  subst this
  exact ⟨rfl, fun i a h => by simp at h⟩
 | x :: xs, r, h => by
  rw [List.mapM_cons] at h
  cases hx : f x with
  | none => simp [hx] at h
  | some y =>
   cases hxs : xs.mapM f with
   | none => simp [hx, hxs] at h
   | some ys =>
    have : r = y :: ys := by simpa [hx, hxs] using h.symm
    subst this
    obtain ⟨h1, h2⟩ := mapM_facts hxs
    refine ⟨by simp [h1], fun i a ha => ?_⟩
    cases i with
    | zero => cases ha; exact ⟨y, hx, rfl⟩
    | succ i => exact h2 i a (by simpa using ha)
theorem cells_row {w : World} {base : Nat} {a : Addr} {n : Nat} {cs : List Value} (h : w.cells? base a n = some cs) : cs.length = n ∧ Row w a cs := by
 obtain ⟨_, h1, h2⟩ := World.cells?_some h
 exact ⟨h1, fun j hj => h2 j (by omega)⟩
section
variable {H : Type} {enc : TypeId × Value → H} {P : Program} {W : World} {base : Nat} {sp : Nat → Bool} {held : Bool}
theorem trod_int1 {t : TypeId} {k : IntKind} (ht : P.underlying t = some (.int k)) {n : Nat} {c : Value} {x : DataW H × List MemPlace} (h : DataW.trod enc P W base sp held n t [c] = some x) : ∃ m, c = .int k m := by
 cases n with
 | zero => cases h
 | succ n =>
  rw [DataW.trod_step] at h
  unfold DataW.trodStep at h
  rw [ht] at h
  cases c <;> simp at h
  obtain ⟨⟨rfl, _⟩, _⟩ := h
  exact ⟨_, rfl⟩
theorem trod_u64 {t : TypeId} (ht : P.underlying t = some (.int .u64)) {n : Nat} {c : Value} {x : DataW H × List MemPlace} (h : DataW.trod enc P W base sp held n t [c] = some x) : ∃ m, c = .int .u64 m ∧ Sp.isNum m := by
 cases n with
 | zero => cases h
 | succ n =>
  rw [DataW.trod_step] at h
  unfold DataW.trodStep at h
  rw [ht] at h
  cases c with
  | int k z =>
   simp only at h
   split at h
   ·rename_i hw
    obtain ⟨rfl, hw⟩ := hw
    have h1 : IntKind.u64.min = 0 := by rfl
    have h2 : IntKind.u64.max = 18446744073709551615 := by rfl
    simp only [Lit.wf, Bool.and_eq_true, decide_eq_true_eq, h1, h2] at hw
    exact ⟨z, rfl, by omega, by omega⟩
   ·cases h
  | _ => simp at h
theorem trod_str1 {t : TypeId} (ht : P.underlying t = some .string) {n : Nat} {c : Value} {x : DataW H × List MemPlace} (h : DataW.trod enc P W base sp held n t [c] = some x) : ∃ m, c = .string m := by
 cases n with
 | zero => cases h
 | succ n =>
  rw [DataW.trod_step] at h
  unfold DataW.trodStep at h
  rw [ht] at h
  cases c <;> simp at h
  exact ⟨_, rfl⟩
theorem trod_slice1 {t e : TypeId} (ht : P.underlying t = some (.slice e)) {n : Nat} {c : Value} {x : DataW H × List MemPlace} (h : DataW.trod enc P W base sp held (n + 1) t [c] = some x) :
  c = .slice none 0 0 ∨ ∃ a len cap, c = .slice (some a) len cap ∧ len ≤ cap ∧ cap ≤ maxLen ∧ ∀ i, i < len → ∃ cs y, W.cells? base (a.add (i * P.cellsOf e)) (P.cellsOf e) = some cs ∧ DataW.trod enc P W base sp held n e cs = some y := by
 rw [DataW.trod_step] at h
 unfold DataW.trodStep at h
 rw [ht] at h
 cases c with
 | slice a len cap =>
  cases a with
  | none =>
   cases len with
   | zero => cases cap with
    | zero => exact .inl rfl
    | succ c => simp at h
   | succ l => simp at h
  | some a =>
   right
   simp only at h
   split at h
   ·rename_i hc
    refine ⟨a, len, cap, rfl, hc.2.1, hc.2.2, fun i hi => ?_⟩
    cases hm : (List.range len).mapM fun i => (W.cells? base (a.add (i * P.cellsOf e)) (P.cellsOf e)).bind (DataW.trod enc P W base sp held n e) with
    | none => rw [hm] at h; cases h
    | some r =>
     obtain ⟨b, hb, _⟩ := (mapM_facts hm).2 i i (by simp [hi])
     obtain ⟨cs, h1, h2⟩ := Option.bind_eq_some_iff.1 hb
     exact ⟨cs, b, h1, h2⟩
   ·cases h
 | _ => simp at h
structure TreeTypes (P : Program) (tS tT : TypeId) : Prop where
 ex : ∃ ti tu ts : TypeId, ∃ f0 f1 f2 f3 f4 f5 : Field, P.underlying tS = some (.slice tT) ∧ P.underlying tT = some (.struct #[f0, f1, f2, f3, f4, f5]) ∧ P.cellsOf tT = 6 ∧
  (f0.type = ti ∧ f1.type = ti ∧ f2.type = ti ∧ f3.type = tu ∧ f4.type = ts ∧ f5.type = tS) ∧ (f0.offset = 0 ∧ f1.offset = 1 ∧ f2.offset = 2 ∧ f3.offset = 3 ∧ f4.offset = 4 ∧ f5.offset = 5) ∧
  P.underlying ti = some (.int .i64) ∧ P.underlying tu = some (.int .u64) ∧ P.underlying ts = some .string ∧ P.cellsOf ti = 1 ∧ P.cellsOf tu = 1 ∧ P.cellsOf ts = 1 ∧ P.cellsOf tS = 1
theorem trod_tree {tS tT : TypeId} (hTT : TreeTypes P tS tT) : ∀ n : Nat,
  (∀ (c : Value) (x : DataW H × List MemPlace), DataW.trod enc P W base sp held n tS [c] = some x → ∃ s : Sl, ∃ ts : List Sp.Tree, c = s.v ∧ (∀ (k f t u : Int) (tx : ByteArray), TreeAt (fun _ => True) W s (.mk k f t u tx ts)) ∧ ∀ i (hi : i < ts.length), Sp.NumT ts[i]) ∧
  (∀ (cs : List Value) (x : DataW H × List MemPlace), DataW.trod enc P W base sp held n tT cs = some x → ∃ t s, cs = trow t s ∧ TreeAt (fun _ => True) W s t ∧ Sp.NumT t) := by
 obtain ⟨ti, tu, tx, f0, f1, f2, f3, f4, f5, hS, hT, hc6, ⟨e0, e1, e2, e3, e4, e5⟩, ⟨o0, o1, o2, o3, o4, o5⟩, ui, uu, us, ci, cu, cs1, cS⟩ := hTT.ex
 intro n
 induction n with
 | zero => exact ⟨fun c x h => (by cases h), fun cs x h => (by cases h)⟩
 | succ n ih =>
  refine ⟨fun c x h => ?_, fun cs x h => ?_⟩
  ·rcases trod_slice1 hS h with rfl | ⟨a, len, cap, rfl, hle, hcm, hel⟩
   ·exact ⟨Sl.nil, [], rfl, fun k f t u tx => .mk k f t u tx [] Sl.nil (fun _ => Sl.nil) rfl (by simp) (fun i h => by simp at h) (fun i h => by simp at h), fun i hi => absurd hi (Nat.not_lt_zero i)⟩
   ·rw [hc6] at hel
    have hex : ∀ i, ∃ q : Sp.Tree × Sl, i < len → Row W (a.add (i * 6)) (trow q.1 q.2) ∧ TreeAt (fun _ => True) W q.2 q.1 ∧ Sp.NumT q.1 := by
     intro i
     by_cases hi : i < len
     ·obtain ⟨cs, y, h1, h2⟩ := hel i hi
      obtain ⟨tr, s, e, hTr⟩ := ih.2 cs y h2
      exact ⟨(tr, s), fun _ => ⟨e ▸ (cells_row h1).2, hTr⟩⟩
     ·exact ⟨(Sp.Tree.mk 0 0 0 0 ⟨#[]⟩ [], Sl.nil), fun h => absurd h hi⟩
    obtain ⟨q, hq⟩ := Classical.axiomOfChoice hex
    refine ⟨⟨some a, len, cap⟩, (List.range len).map fun i => (q i).1, rfl, ?_, fun i hi => by rw [List.getElem_map, List.getElem_range]; exact (hq i (by simpa using hi)).2.2⟩
    refine fun k f t u tx => .mk k f t u tx _ _ (fun i => (q i).2) (by simp) (by simp only [maxLen] at hcm; simp; omega) (fun i h => ?_) (fun i h => ?_)
    ·have hi : i < len := by simpa using h
     refine ⟨a.add (i * 6), ⟨by omega, by simpa using hi, a, rfl, by simp⟩, trivial, ?_⟩
     simpa using (hq i hi).1
    ·have hi : i < len := by simpa using h
     simpa using (hq i hi).2.1
  ·rw [DataW.trod_step] at h
   unfold DataW.trodStep at h
   rw [hT] at h
   simp only at h
   split at h
   ·rename_i hl
    rw [hc6] at hl
    match cs, hl with
    | [c0, c1, c2, c3, c4, c5], _ =>
     cases hm : ([f0, f1, f2, f3, f4, f5] : List Field).mapM (fun f => DataW.trod enc P W base sp held n f.type ((([c0, c1, c2, c3, c4, c5] : List Value).drop f.offset).take (P.cellsOf f.type))) with
     | none => rw [hm] at h; cases h
     | some r =>
      have hf := (mapM_facts hm).2
      obtain ⟨_, h0, _⟩ := hf 0 f0 rfl
      obtain ⟨_, h1, _⟩ := hf 1 f1 rfl
      obtain ⟨_, h2, _⟩ := hf 2 f2 rfl
      obtain ⟨_, h3, _⟩ := hf 3 f3 rfl
      obtain ⟨_, h4, _⟩ := hf 4 f4 rfl
      obtain ⟨_, h5, _⟩ := hf 5 f5 rfl
      rw [e0, o0, ci] at h0; rw [e1, o1, ci] at h1; rw [e2, o2, ci] at h2; rw [e3, o3, cu] at h3; rw [e4, o4, cs1] at h4; rw [e5, o5, cS] at h5
      obtain ⟨m0, rfl⟩ := trod_int1 ui h0
      obtain ⟨m1, rfl⟩ := trod_int1 ui h1
      obtain ⟨m2, rfl⟩ := trod_int1 ui h2
      obtain ⟨m3, rfl, hu⟩ := trod_u64 uu h3
      obtain ⟨m4, rfl⟩ := trod_str1 us h4
      obtain ⟨s, ts, rfl, hTr, hNr⟩ := ih.1 c5 _ h5
      exact ⟨.mk m0 m1 m2 m3 m4 ts, s, rfl, hTr m0 m1 m2 m3 m4, .mk _ _ _ _ _ _ hu hNr⟩
   ·cases h
theorem trees_of_trodN {tS tT : TypeId} (hTT : TreeTypes P tS tT) {v : Value} {d : DataW H} {ps : List MemPlace} (h : DataW.Trod enc P W base sp held tS v d ps) (hv : ∃ a n c, v = .slice a n c) :
  ∃ s : Sl, ∃ ts : List Sp.Tree, v = s.v ∧ TreeAt (fun b => b < W.heap.size) W s (.mk 0 0 0 0 ⟨#[]⟩ ts) ∧ ∀ i (hi : i < ts.length), Sp.NumT ts[i] := by
 obtain ⟨n, h⟩ := h
 obtain ⟨a, m, c, rfl⟩ := hv
 obtain ⟨s, ts, e, hT, hN⟩ := (trod_tree hTT n).1 _ _ h
 exact ⟨s, ts, e, (hT 0 0 0 0 ⟨#[]⟩).lt.mono (fun b hb => hb.2), hN⟩
end
theorem treeTypes : TreeTypes Try.prog 22 52 :=
 ⟨3, 50, 9, _, _, _, _, _, _, Try.underlying22, Try.underlying52, by kernel_rfl, ⟨rfl, rfl, rfl, rfl, rfl, rfl⟩, ⟨rfl, rfl, rfl, rfl, rfl, rfl⟩, Try.underlying3, Try.underlying50, Try.underlying9, by kernel_rfl, by kernel_rfl, by kernel_rfl, by kernel_rfl⟩
end Go.Proofs
end
