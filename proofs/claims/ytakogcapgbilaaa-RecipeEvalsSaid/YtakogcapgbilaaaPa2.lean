import Derived.Test.YtakogcapgbilaaaPa1
import Derived.Test.YtakogcapgbilaaaProg
import Derived.KernelRfl
import Derived.Test.YtakogcapgbilaaaPa0
section
open Go Go.SE
namespace Go.Sp
def addT (G : List Int) (t : Int) : List Int := if t ∈ G then G else G ++ [t]
def giveT (L : Pool) (G : List Int) (t : Int) : List Int := if inP L t = true then addT G t else G
theorem mem_addT {G : List Int} {t x : Int} : x ∈ addT G t ↔ x ∈ G ∨ x = t := by
 unfold addT; split
 ·rename_i h; exact ⟨.inl, fun h' => h'.elim id (fun e => e ▸ h)⟩
 ·simp
theorem addT_nd {G : List Int} {t : Int} (h : G.Nodup) : (addT G t).Nodup := by
 unfold addT; split
 ·exact h
 ·rename_i hn
  rw [List.nodup_append]; exact ⟨h, by simp, fun x hx y hy e => by simp at hy; subst hy; exact hn (e ▸ hx)⟩
end Go.Sp
namespace Go.Proofs
attribute [local irreducible] Calls
abbrev MakePost (p : Addr) (L : Sp.Pool) (F : Nat → Prop) (w : World) (n : Sp.Node) (e : Ending) (w' : World) : Prop :=
 ∃ r1 : Int, ∃ r2 : Int, e = .returned (.tuple #[.int .i64 r1, .int .i64 r2]) ∧ ((r1, r2) = ((Sp.make L n).1, (Sp.make L n).2.1) ∧ ∃ F', PoolAt w' p (Sp.make L n).2.2 F' ∧ Ext F w w' ∧ ∀ b, F' b → F b ∨ w.heap.size ≤ b)
section
variable (p : Addr) (w0 : World) {L : Sp.Pool} {F : Nat → Prop} (hP : PoolAt w0 p L F) (hok : Sp.Ok L)
include hP hok
theorem c_Num (n : Int) : Calls Try.prog 84 #[.pointer (some p), .int .u64 n] w0 (MakePost p L F w0 ⟨2, 0, 0, n, ⟨#[]⟩, 0, 0⟩) := by
 refine w_term_Pool_Num _ _ w0 (fun r1 r2 w' => (r1, r2) = ((Sp.make L ⟨2, 0, 0, n, ⟨#[]⟩, 0, 0⟩).1, (Sp.make L ⟨2, 0, 0, n, ⟨#[]⟩, 0, 0⟩).2.1) ∧ ∃ F', PoolAt w' p (Sp.make L ⟨2, 0, 0, n, ⟨#[]⟩, 0, 0⟩).2.2 F' ∧ Ext F w0 w' ∧ ∀ b, F' b → F b ∨ w0.heap.size ≤ b) ?_
 unfold m_term_Pool_Num
 refine (c_Make p _ _ _ _ _ _ _ w0 hP hok).mono ?_
 rintro _ w1 ⟨r1, r2, rfl, h⟩
 exact ⟨r1, r2, rfl, h⟩
theorem c_Name (n : Int) : Calls Try.prog 85 #[.pointer (some p), .int .i64 n] w0 (MakePost p L F w0 ⟨1, n, 0, 0, ⟨#[]⟩, 0, 0⟩) := by
 refine w_term_Pool_Name _ _ w0 (fun r1 r2 w' => (r1, r2) = ((Sp.make L ⟨1, n, 0, 0, ⟨#[]⟩, 0, 0⟩).1, (Sp.make L ⟨1, n, 0, 0, ⟨#[]⟩, 0, 0⟩).2.1) ∧ ∃ F', PoolAt w' p (Sp.make L ⟨1, n, 0, 0, ⟨#[]⟩, 0, 0⟩).2.2 F' ∧ Ext F w0 w' ∧ ∀ b, F' b → F b ∨ w0.heap.size ≤ b) ?_
 unfold m_term_Pool_Name
 refine (c_Make p _ _ _ _ _ _ _ w0 hP hok).mono ?_
 rintro _ w1 ⟨r1, r2, rfl, h⟩
 exact ⟨r1, r2, rfl, h⟩
theorem c_Pair (a b : Int) : Calls Try.prog 86 #[.pointer (some p), .int .i64 a, .int .i64 b] w0 (MakePost p L F w0 ⟨4, 0, 0, 0, ⟨#[]⟩, a, b⟩) := by
 refine w_term_Pool_Pair _ _ _ w0 (fun r1 r2 w' => (r1, r2) = ((Sp.make L ⟨4, 0, 0, 0, ⟨#[]⟩, a, b⟩).1, (Sp.make L ⟨4, 0, 0, 0, ⟨#[]⟩, a, b⟩).2.1) ∧ ∃ F', PoolAt w' p (Sp.make L ⟨4, 0, 0, 0, ⟨#[]⟩, a, b⟩).2.2 F' ∧ Ext F w0 w' ∧ ∀ b, F' b → F b ∨ w0.heap.size ≤ b) ?_
 unfold m_term_Pool_Pair
 refine (c_Make p _ _ _ _ _ _ _ w0 hP hok).mono ?_
 rintro _ w1 ⟨r1, r2, rfl, h⟩
 exact ⟨r1, r2, rfl, h⟩
theorem c_Sign (n a : Int) : Calls Try.prog 87 #[.pointer (some p), .int .i64 n, .int .i64 a] w0 (MakePost p L F w0 ⟨7, n, 0, 0, ⟨#[]⟩, a, 0⟩) := by
 refine w_term_Pool_Sign _ _ _ w0 (fun r1 r2 w' => (r1, r2) = ((Sp.make L ⟨7, n, 0, 0, ⟨#[]⟩, a, 0⟩).1, (Sp.make L ⟨7, n, 0, 0, ⟨#[]⟩, a, 0⟩).2.1) ∧ ∃ F', PoolAt w' p (Sp.make L ⟨7, n, 0, 0, ⟨#[]⟩, a, 0⟩).2.2 F' ∧ Ext F w0 w' ∧ ∀ b, F' b → F b ∨ w0.heap.size ≤ b) ?_
 unfold m_term_Pool_Sign
 refine (c_Make p _ _ _ _ _ _ _ w0 hP hok).mono ?_
 rintro _ w1 ⟨r1, r2, rfl, h⟩
 exact ⟨r1, r2, rfl, h⟩
theorem c_Hash (a : Int) : Calls Try.prog 88 #[.pointer (some p), .int .i64 a] w0 (MakePost p L F w0 ⟨5, 0, 0, 0, ⟨#[]⟩, a, 0⟩) := by
 refine w_term_Pool_Hash _ _ w0 (fun r1 r2 w' => (r1, r2) = ((Sp.make L ⟨5, 0, 0, 0, ⟨#[]⟩, a, 0⟩).1, (Sp.make L ⟨5, 0, 0, 0, ⟨#[]⟩, a, 0⟩).2.1) ∧ ∃ F', PoolAt w' p (Sp.make L ⟨5, 0, 0, 0, ⟨#[]⟩, a, 0⟩).2.2 F' ∧ Ext F w0 w' ∧ ∀ b, F' b → F b ∨ w0.heap.size ≤ b) ?_
 unfold m_term_Pool_Hash
 refine (c_Make p _ _ _ _ _ _ _ w0 hP hok).mono ?_
 rintro _ w1 ⟨r1, r2, rfl, h⟩
 exact ⟨r1, r2, rfl, h⟩
end
theorem KnowS.appG {w : World} {k p : Addr} {G : List Int} {S : List Sp.Way} {ks : List Int} {sg sl : Sl} {m : Nat} (h : KnowS w k p G S ks sg m sl) {t : Int} {q : Addr} {w1 : World} (hq : New w (.cells #[.int .i64 t] 41) q w1) (hn : G.length ≤ 1000000) : ∃ s1 w2, (Builtin.append_ #[26, 26] 26 #[sg.v, (Sl.mk (some q) 1 1).v]).run Try.prog w1 = .ok s1.v w2 ∧ Ext sg.blk w1 w2 ∧ CanW w2 (k.add 1) ∧
  KnowS (w2.setCell (k.add 1) s1.v) k p (G ++ [t]) S ks s1 m sl ∧ Ext (KF k sg m sl) w (w2.setCell (k.add 1) s1.v) ∧ ∀ b, KF k s1 m sl b → KF k sg m sl b ∨ w.heap.size ≤ b := by
 have E1 : Pure w w1 := Ext.new hq
 have h1 := h.pure E1
 obtain ⟨s1, w2, hr, hR, hE, hb⟩ := h1.giv.append (P := Try.prog) (ty := 26) (c := 1) slT_tm (r := [.int .i64 t]) (Box.of_new hq).row rfl rfl (by rw [tmr_len]; omega) (by rw [tmr_len]; simp [maxLen]; omega)
 have hbx := h1.box.ext hE h1.n2
 have hs1 : ∀ b, s1.blk b → sg.blk b ∨ w.heap.size ≤ b := fun b h => (hb b h).imp_right (fun h => by have := E1.size; omega)
 have nk : ¬ s1.blk k.block := fun hh => (hs1 _ hh).elim h.n2 (fun hh => by have := h.box.lt; omega)
 have nm : ¬ s1.blk m := fun hh => (hs1 _ hh).elim h.n4 (fun hh => by have := h.seen.lt; omega)
 have E3 := Ext.setCell (w := w2) (k.add 1) s1.v
 rw [add_block] at E3
 refine ⟨s1, w2, hr, hE, hbx.canW (by simp), ⟨hbx.set 1 s1.v, by rw [show tmr (G ++ [t]) = tmr G ++ [[.int .i64 t]] by simp [tmr]]; exact hR.ext E3 (fun b hb e => nk (e ▸ hb)), ((h1.seen.ext hE h.n4).ext E3 h.n1), ((h1.list.ext hE (fun b h2 h1 => h.n6 b h1 h2)).ext E3 (fun b hb e => h.n3 (e ▸ hb))), h.n1, nk, h.n3, nm, h.n5, fun b h1 h2 => (hs1 b h1).elim (fun h1 => h.n6 b h1 h2) (fun hh => by have := h.list.lt h2; omega)⟩, ?_, ?_⟩
 ·exact ((E1.pure (F := KF k sg m sl)).trans (hE.mono (fun b _ hb => .inr (.inl hb)))).trans (E3.mono (fun b _ hb => .inl hb))
 ·rintro b (hb | hb | hb | hb)
  ·exact .inl (.inl hb)
  ·exact (hs1 b hb).imp_left (fun h => .inr (.inl h))
  ·exact .inl (.inr (.inr (.inl hb)))
  ·exact .inl (.inr (.inr (.inr hb)))
theorem c_ded_Add (k p : Addr) (t : Int) (w0 : World) {L : Sp.Pool} {G : List Int} {S : List Sp.Way} {F FP : Nat → Prop} (h : KnowAt w0 k p G S F) (hP : PoolAt w0 p L FP) (hW : Sp.Wf L) (hd : ∀ b, F b → ¬ FP b) (hk : Sp.KnowOk L G S) :
  Calls Try.prog 37 #[.pointer (some k), .int .i64 t] w0 (fun e w' => ∃ r : Int, e = .returned (.int .i64 r) ∧ (r = (if Sp.inP L t = true then 0 else 51) ∧ ∃ S' F', KnowAt w' k p (Sp.giveT L G t) S' F' ∧ Sp.KnowOk L (Sp.giveT L G t) S' ∧ Ext F w0 w' ∧ ∀ b, F' b → F b ∨ w0.heap.size ≤ b)) := by
 suffices key : ∀ K : Int → World → Prop, (∀ S' F' w', KnowAt w' k p (Sp.giveT L G t) S' F' → Sp.KnowOk L (Sp.giveT L G t) S' → Ext F w0 w' → (∀ b, F' b → F b ∨ w0.heap.size ≤ b) → K (if Sp.inP L t = true then 0 else 51) w') → m_deduce_Know_Add (some k) t w0 K from
  w_deduce_Know_Add _ _ w0 _ (key _ (fun S' F' w' a b c d => ⟨rfl, S', F', a, b, c, d⟩))
 intro K hK
 unfold m_deduce_Know_Add
 obtain ⟨sg, m, sl, k0, hF⟩ := h
 refine Br.f rfl ⟨k, rfl, _, k0.box.cell0, ?_⟩
 refine (c_Node p t w0 hP hW.ok).mono ?_
 rintro _ w1 ⟨nk, nf, nt, nu, nx, na, nb, ok, rfl, ⟨_, rfl⟩, E1⟩
 refine ⟨_, _, _, _, _, _, _, _, rfl, E1.keptP, fun hc => ?_, fun hc => ?_⟩
 ·have hin : Sp.inP L t = false := by simpa using hc
  intro H1 w3 hs3
  have E3 : Pure w0 w3 := E1.hst hs3
  have hg : Sp.giveT L G t = G := by unfold Sp.giveT; rw [if_neg (by simp [hin])]
  have := hK S F w3 (by rw [hg]; exact ⟨sg, m, sl, k0.pure E3, hF⟩) (by rw [hg]; exact hk) E3.pure (fun b hb => .inl hb)
  simpa [hin] using this
 have hin : Sp.inP L t = true := by simpa using hc
 have hg : Sp.giveT L G t = Sp.addT G t := by unfold Sp.giveT; rw [if_pos hin]
 rw [hg] at hK
 simp only [hin, if_true] at hK
 refine ⟨k, rfl, ?_⟩
 intro H1 w3 hs3
 have E3 : Pure w0 w3 := E1.hst hs3
 have k3 := k0.pure E3
 have nh : ∀ b, b < w0.heap.size → ¬ H1 b := fun b hb hh => by have := hs3.old b hh; omega
 have hGn : G.length ≤ 65536 := by have := Sp.pool_few hk.gnd (fun t ht => hk.inp t (hk.giv t ht)); have := hW.ok.few; omega
 have fin : ∀ (w : World) (F' : Nat → Prop), KnowAt w k p (Sp.addT G t) S F' → Ext F w0 w → (∀ b, F' b → F b ∨ w0.heap.size ≤ b) → Hst w0 H1 w H1 w → (∀ b, F' b → ¬ H1 b) → Calls Try.prog 93 #[.pointer (some k), .int .i64 t, .agg #[.int .i64 0, .int .i64 0]] w (fun e w8 => e = .returned (.tuple #[]) ∧ Kept H1 w w8 ∧ K 0 w8) := by
  intro w F' hw hE hf hs hh
  have hGs : ∀ x ∈ G, x ∈ Sp.addT G t := fun x hx => Sp.mem_addT.2 (.inl hx)
  have hPw : PoolAt w p L FP := hP.ext hE (fun b hb hfb => hd b hfb hb)
  refine (c_ded_sees k p t 0 0 w hw hPw hW (fun b hb hp => ?_) (hk.toWaysOk.mono hGs) hk.closed hin (.inl ⟨rfl, rfl, Sp.mem_addT.2 (.inr rfl)⟩)).mono ?_
  ·rcases hf b hb with h1 | h1
   ·exact hd b h1 hp
   ·have := hP.lt hp; omega
  ·rintro _ w8 ⟨rfl, S', F2, K2, ⟨q1, q2, q3, q4⟩, X2, f2⟩
   have z := hE.size
   refine ⟨rfl, X2.kept (fun b hb hx => hh b hx hb), hK S' F2 w8 K2 ⟨q1, q2, fun x hx => ?_, Sp.addT_nd hk.gnd⟩ (hE.trans' X2 (fun i hi hx => (hf i hx).elim id (fun h => by omega))) (fun b hb => ?_)⟩
   ·rcases Sp.mem_addT.1 hx with hx | rfl
    ·exact q4 x (hk.giv x hx)
    ·exact q3
   ·rcases f2 b hb with h1 | h1
    ·exact hf b h1
    ·right; omega
 refine ⟨_, k3.box.cell rfl, ?_⟩
 refine (c_slContains sg G t w3 k3.giv.lst (by omega)).mono ?_
 rintro _ w3 ⟨r, rfl, rfl, rfl⟩
 refine ⟨_, rfl, Kept.refl _, fun hc2 => ?_, fun hc2 => ?_⟩
 ·have hnG : t ∉ G := by simpa using hc2
  have hadd : Sp.addT G t = G ++ [t] := if_neg hnG
  refine ⟨k, rfl, _, k3.box.cell rfl, ?_⟩
  intro q w5 h5
  obtain ⟨s1, w6, hr6, X6, cw6, k6, E6, f6⟩ := k3.appG h5 (by omega)
  have hs5 : Hst w0 H1 w5 H1 w5 := hs3.here.again (Ext.new h5 : Pure w3 w5).keptP
  have sgn : ∀ b, sg.blk b → ¬ H1 b := fun b hb => nh b (k0.lt (.inr (.inl hb)))
  have kk : Kept H1 w5 w6 := X6.kept (fun b hb hx => sgn b hx hb)
  refine ⟨s1, w6, hr6, kk, k, rfl, cw6, by rw [add_block]; exact nh _ k0.box.lt, ?_⟩
  rintro _ rfl
  have z3 := E3.size
  have z5 : w3.heap.size ≤ w5.heap.size := (Ext.new h5 : Pure w3 w5).size
  refine fin _ (KF k s1 m sl) (by rw [hadd]; exact ⟨s1, m, sl, k6, fun b => Iff.rfl⟩) ((E3.pure (F := F)).trans (E6.mono (fun b _ hb => (hF b).2 hb))) (fun b hb => (f6 b hb).imp (hF b).2 (fun h => by omega)) ((hs5.again kk).again (Kept.setCell (by rw [add_block]; exact nh _ k0.box.lt))) (fun b hb hh => ?_)
  rcases f6 b hb with h1 | h1
  ·exact nh b (k0.lt h1) hh
  ·have := hs3.lt b hh; omega
 ·have hG : t ∈ G := by simpa using hc2
  have hadd : Sp.addT G t = G := if_pos hG
  exact fin w3 F (by rw [hadd]; exact ⟨sg, m, sl, k3, hF⟩) E3.pure (fun b hb => .inl hb) hs3.here (fun b hb => nh b (k0.lt ((hF b).1 hb)))
end Go.Proofs
end
section
namespace Go.Sp
theorem find_some {L : Pool} {n : Node} {i : Nat} (h : find L n = some i) : ∃ hi : i < L.length, L[i].node = n := by
 unfold find at h
 rw [List.findIdx?_eq_some_iff_getElem] at h
 obtain ⟨hi, h1, _⟩ := h
 exact ⟨hi, by simpa using h1⟩
theorem make_node {L : Pool} {n : Node} (h : (make L n).2.1 = 0) : inP (make L n).2.2 (make L n).1 = true ∧ nodeOf (make L n).2.2 (make L n).1 = n ∧ (check L n).2.2 = 0 := by
 unfold make at h ⊢
 simp only at h ⊢
 by_cases hc : (check L n).2.2 ≠ 0
 ·rw [if_pos hc] at h; exact absurd h hc
 ·rw [if_neg hc] at h ⊢
  have hc : (check L n).2.2 = 0 := by simpa using hc
  cases hf : find L n with
  | some i =>
   obtain ⟨hi, hn⟩ := find_some hf
   simp only
   exact ⟨inP_iff.2 ⟨by omega, by omega⟩, by rw [nodeOf_lt hi, hn], hc⟩
  | none =>
   rw [hf] at h
   simp only at h ⊢
   split at h
   ·simp at h
   ·rename_i hl
    rw [if_neg hl]
    simp only
    have hi : L.length < (L ++ [(⟨n, (check L n).1, (check L n).2.1⟩ : Ent)]).length := by simp
    refine ⟨inP_iff.2 ⟨by omega, by simp⟩, ?_, hc⟩
    rw [nodeOf_lt hi]
    simp
theorem make_app (L : Pool) (n : Node) : ∃ M, (make L n).2.2 = L ++ M := make_grows L n
theorem kidsOf_len (n : Node) : (kidsOf n).length = (shapeOf n.kind).kids.toNat := by
 unfold kidsOf
 rcases kids_le n.kind with h | h | h <;> simp [h]
inductive Good : Tree → Prop
 | mk (k f t u : Int) (x : ByteArray) (ks : List Tree) (own : ownErr ⟨k, f, t, u, x, 0, 0⟩ ks.length = 0) (kids : ∀ i (hi : i < ks.length), Good ks[i]) : Good (.mk k f t u x ks)
theorem looks_good (t : Tree) : ∀ i n : Int, (looks i n t).1 = 0 → Good t := by
 induction t using Tree.ind with
 | h k f t u x ks ih =>
  have hA : ∀ (ks : List Tree), (∀ i (hi : i < ks.length), ∀ j n : Int, (looks j n ks[i]).1 = 0 → Good ks[i]) → ∀ i e n : Int, (looksAll i e n ks).1 = 0 → e = 0 ∧ ∀ i (hi : i < ks.length), Good ks[i] := by
   intro ks
   induction ks with
   | nil => intro _ i e n h; exact ⟨by simpa [looksAll] using h, fun i hi => by simp at hi⟩
   | cons t ts iht =>
    intro hh i e n h
    unfold looksAll at h
    split at h
    ·rename_i he
     have := iht (fun i hi => hh (i + 1) (by simpa using hi)) _ _ _ h
     refine ⟨he, fun j hj => ?_⟩
     cases j with
     | zero => exact hh 0 (by simp) i n this.1
     | succ j => exact this.2 j (by simpa using hj)
    ·rename_i he; exact absurd h he
  intro i n h
  unfold looks at h
  split at h
  ·cases h
  ·split at h
   ·cases h
   ·have := hA ks ih _ _ _ h
    exact .mk _ _ _ _ _ _ this.1 this.2
theorem Good.inv {k f t u : Int} {x : ByteArray} {ks : List Tree} (h : Good (.mk k f t u x ks)) : plainErr ⟨k, f, t, u, x, 0, 0⟩ = 0 ∧ (ks.length : Int) = (shapeOf k).kids ∧ fieldsErr (shapeOf k) ⟨k, f, t, u, x, 0, 0⟩ = 0 ∧ ∀ i (hi : i < ks.length), Good ks[i] := by
 cases h with
 | mk _ _ _ _ _ _ own kids =>
  unfold ownErr at own
  simp only at own
  by_cases hp : plainErr ⟨k, f, t, u, x, 0, 0⟩ = 0
  ·rw [if_pos hp] at own
   by_cases hl : (ks.length : Int) ≠ (shapeOf k).kids
   ·rw [if_pos hl] at own; simp at own
   ·rw [if_neg hl] at own
    simp at own
    exact ⟨hp, by simpa using hl, own, kids⟩
  ·rw [if_neg hp, if_neg hp] at own; exact absurd own hp
theorem grow_tree (x : Tree) : ∀ L, Wf L → Good x → (grow L x).2.1 = 0 → inP (grow L x).2.2 (grow L x).1 = true ∧ treeOf (grow L x).2.2 (grow L x).1 = x := by
 induction x using Tree.ind with
 | h k f t u x ks ih =>
  intro L hW hG h0
  obtain ⟨_, hlen, _, hk⟩ := hG.inv
  have fin : ∀ (n : Node) (L' : Pool), Wf L' → n.kind = k → n.frm = f → n.to = t → n.num = u → n.text = x → (make L' n).2.1 = 0 → (kidsOf n).map (treeOf L') = ks → inP (make L' n).2.2 (make L' n).1 = true ∧ treeOf (make L' n).2.2 (make L' n).1 = .mk k f t u x ks := by
   intro n L' hW' e1 e2 e3 e4 e5 hm hks
   obtain ⟨hin, hnode, hc⟩ := make_node hm
   refine ⟨hin, ?_⟩
   rw [treeOf_in (make_wf hW' n) hin, hnode, e1, e2, e3, e4, e5, ← hks]
   congr 1
   refine List.map_congr_left (fun q hq => ?_)
   obtain ⟨M, hM⟩ := make_app L' n
   have hq' := (check_zero hc).2.2.2.2.1 q hq
   rw [hM]
   have hwf := make_wf hW' n
   rw [hM] at hwf
   exact treeOf_app hwf _ q rfl hq'
  rw [grow] at h0 ⊢
  match ks, ih, hlen, hk, fin, h0 with
  | [], _, hlen, _, fin, h0 =>
   rw [growAll] at h0 ⊢
   have hz : (shapeOf k).kids = 0 := by simpa using hlen.symm
   exact fin _ L hW rfl rfl rfl rfl rfl h0 (by simp [kidsOf, hz])
  | [a], ih, hlen, hk, fin, h0 =>
   have hz : (shapeOf k).kids = 1 := by simpa using hlen.symm
   rw [growAll] at h0 ⊢
   by_cases ha : (grow L a).2.1 ≠ 0
   ·rw [if_pos ha] at h0; exact absurd h0 ha
   ·rw [if_neg ha] at h0 ⊢
    have ha : (grow L a).2.1 = 0 := by simpa using ha
    obtain ⟨i1, t1⟩ := ih 0 (by simp) L hW (hk 0 (by simp)) ha
    simp only [List.getElem_cons_zero] at i1 t1
    rw [growAll] at h0 ⊢
    exact fin _ _ (grow_wf a L hW) rfl rfl rfl rfl rfl h0 (by simp [kidsOf, hz, t1])
  | [a, b], ih, hlen, hk, fin, h0 =>
   have hz : (shapeOf k).kids = 2 := by simpa using hlen.symm
   rw [growAll] at h0 ⊢
   by_cases ha : (grow L a).2.1 ≠ 0
   ·rw [if_pos ha] at h0; exact absurd h0 ha
   ·rw [if_neg ha] at h0 ⊢
    have ha : (grow L a).2.1 = 0 := by simpa using ha
    have hW1 := grow_wf a L hW
    obtain ⟨i1, t1⟩ := ih 0 (by simp) L hW (hk 0 (by simp)) ha
    simp only [List.getElem_cons_zero] at i1 t1
    rw [growAll] at h0 ⊢
    by_cases hb : (grow (grow L a).2.2 b).2.1 ≠ 0
    ·rw [if_pos hb] at h0; exact absurd h0 hb
    ·rw [if_neg hb] at h0 ⊢
     have hb : (grow (grow L a).2.2 b).2.1 = 0 := by simpa using hb
     have hW2 := grow_wf b _ hW1
     obtain ⟨i2, t2⟩ := ih 1 (by simp) (grow L a).2.2 hW1 (hk 1 (by simp)) hb
     simp only [List.getElem_cons_succ, List.getElem_cons_zero] at i2 t2
     obtain ⟨M, hM⟩ := (grow_facts b (grow L a).2.2 hW1.ok).2
     have t1' : treeOf (grow (grow L a).2.2 b).2.2 (grow L a).1 = a := by
      rw [hM] at hW2 ⊢
      exact (treeOf_app hW2 _ _ rfl i1).trans t1
     rw [growAll] at h0 ⊢
     exact fin _ _ hW2 rfl rfl rfl rfl rfl h0 (by simp [kidsOf, hz, t1', t2])
  | a :: b :: c :: ks, _, hlen, _, _, _ =>
   have := kids_le k
   simp only [List.length_cons] at hlen
   omega
theorem of_tree {L : Pool} (hW : Wf L) {x : Tree} (h : (of L x).2.1 = 0) : inP (of L x).2.2 (of L x).1 = true ∧ treeOf (of L x).2.2 (of L x).1 = x ∧ Good x := by
 unfold of at h ⊢
 by_cases h1 : (looks 0 0 x).1 ≠ 0
 ·rw [if_pos h1] at h; exact absurd h h1
 ·rw [if_neg h1] at h ⊢
  have hg := looks_good x 0 0 (by simpa using h1)
  by_cases h2 : (grow L x).2.1 ≠ 0
  ·rw [if_pos h2] at h; exact absurd h h2
  ·rw [if_neg h2] at h ⊢
   have := grow_tree x L hW hg (by simpa using h2)
   exact ⟨this.1, this.2, hg⟩
end Go.Sp
end
section
namespace Go.Sp
theorem arises_app {L M : Pool} {r u t : Int} (hu : inP L u = true) : Arises (L ++ M) r u t ↔ Arises L r u t := by
 unfold Arises; rw [nodeOf_app hu]
theorem WayOk.app {L M : Pool} {G : List Int} {pre : List Way} {v : Way} (h : WayOk L G pre v) (hp : ∀ t ∈ wkeys pre, inP L t = true) : WayOk (L ++ M) G pre v := by
 rcases h with h | ⟨a, b, c⟩
 ·exact .inl h
 ·exact .inr ⟨a, (arises_app (hp _ c)).2 b, c⟩
theorem wkeys_take {S : List Way} {i : Nat} {t : Int} (h : t ∈ wkeys (S.take i)) : t ∈ wkeys S := by
 unfold wkeys at h ⊢
 obtain ⟨v, hv, e⟩ := List.mem_map.1 h
 exact List.mem_map.2 ⟨v, List.mem_of_mem_take hv, e⟩
theorem KnowOk.app {L M : Pool} {G : List Int} {S : List Way} (h : KnowOk L G S) : KnowOk (L ++ M) G S :=
 ⟨⟨h.nodup, fun t ht => inP_app (h.inp t ht), fun i hi => (h.way i hi).app (fun t ht => h.inp t (wkeys_take ht))⟩, fun u hu r t ha => h.closed u hu r t ((arises_app (h.inp u hu)).1 ha), h.giv, h.gnd⟩
theorem giveT_in {L : Pool} {G : List Int} {t : Int} (h : inP L t = true) : giveT L G t = addT G t := by unfold giveT; rw [if_pos h]
def sideStep (q : Pool × List Int) (t : Tree) : Pool × List Int := ((of q.1 t).2.2, if (of q.1 t).2.1 ≠ 0 then q.2 else addT q.2 (of q.1 t).1)
def sideAll (ts : List Tree) : Pool × List Int := ts.foldl sideStep ([], [])
theorem addT_len (G : List Int) (t : Int) : (addT G t).length ≤ G.length + 1 := by unfold addT; split <;> simp
theorem sideAll_snoc (ts : List Tree) (t : Tree) : sideAll (ts ++ [t]) = sideStep (sideAll ts) t := by unfold sideAll; rw [List.foldl_append]; rfl
theorem sideAll_len (ts : List Tree) : (sideAll ts).2.length ≤ ts.length := by
 have : ∀ (ts : List Tree) q, (ts.foldl sideStep q).2.length ≤ q.2.length + ts.length := by
  intro ts
  induction ts with
  | nil => intro q; simp
  | cons t ts ih =>
   intro q
   rw [List.foldl_cons]
   have h1 := ih (sideStep q t)
   have h2 : (sideStep q t).2.length ≤ q.2.length + 1 := by
    unfold sideStep; simp only; split
    ·omega
    ·exact addT_len _ _
   rw [List.length_cons]; omega
 have := this ts ([], [])
 simpa [sideAll] using this
theorem sideAll_wf (ts : List Tree) : Wf (sideAll ts).1 := by
 have : ∀ (ts : List Tree) q, Wf q.1 → Wf (ts.foldl sideStep q).1 := by
  intro ts
  induction ts with
  | nil => intro q h; exact h
  | cons t ts ih => intro q h; exact ih _ (of_wf h t)
 exact this ts ([], []) Wf.nil
end Go.Sp
end
section
open Go Go.SE
namespace Go.Sp
structure Op where
 code : Int
 a : Int
 b : Int
 num : Int
 text : ByteArray
deriving DecidableEq
abbrev Res := Int × Int × Pool
def atM (M : List Int) (i : Int) : Option Int := if i < 0 then none else M[i.toNat]?
def nodeAt (L : Pool) (M : List Int) (i : Int) : Node := match atM M i with | none => noNode | some t => nodeOf L t
def nameOf (n : Int) : Int := cond (decide (n > 2147483648)) (-1) (IntKind.i64.wrap n)
def noOp (L : Pool) : Res := (0, 90, L)
def keyedOp (L : Pool) (M : List Int) (o : Op) (mk : Int → Int → Node) : Res :=
 match atM M o.a with
 | none => noOp L
 | some a => if (nodeAt L M o.b).kind = 6 then make L (mk (nodeAt L M o.b).frm a) else noOp L
def pairOp (L : Pool) (M : List Int) (o : Op) : Res :=
 match atM M o.a with
 | none => noOp L
 | some a => match atM M o.b with
  | none => noOp L
  | some b => make L ⟨4, 0, 0, 0, ⟨#[]⟩, a, b⟩
def hashOp (L : Pool) (M : List Int) (o : Op) : Res :=
 match atM M o.a with
 | none => noOp L
 | some a => make L ⟨5, 0, 0, 0, ⟨#[]⟩, a, 0⟩
def knownOp (L : Pool) (G : List Int) (o : Op) : Res :=
 match atM G o.a with
 | none => noOp L
 | some a => (a, 0, L)
def partOp (L : Pool) (M : List Int) (o : Op) (second : Bool) : Res :=
 if (nodeAt L M o.a).kind = 4 then (if second then (nodeAt L M o.a).b else (nodeAt L M o.a).a, 0, L) else noOp L
def shownOp (L : Pool) (M : List Int) (o : Op) : Res :=
 if showsK (nodeAt L M o.a).kind = true then ((nodeAt L M o.a).a, 0, L) else noOp L
def doOp (L : Pool) (G M : List Int) (o : Op) : Res :=
 if o.code = 0 then knownOp L G o
 else if o.code = 1 then make L ⟨1, o.a, 0, 0, ⟨#[]⟩, 0, 0⟩
 else if o.code = 2 then make L ⟨2, 0, 0, o.num, ⟨#[]⟩, 0, 0⟩
 else if o.code = 3 then make L ⟨3, 0, 0, 0, o.text, 0, 0⟩
 else if o.code = 4 then pairOp L M o
 else if o.code = 5 then hashOp L M o
 else if o.code = 6 then partOp L M o false
 else if o.code = 7 then partOp L M o true
 else if o.code = 8 then shownOp L M o
 else if o.code = 9 then keyedOp L M o (fun k a => ⟨7, k, 0, 0, ⟨#[]⟩, a, 0⟩)
 else if o.code = 10 then keyedOp L M o (fun k a => ⟨8, k, nameOf o.num, 0, ⟨#[]⟩, a, 0⟩)
 else if o.code = 11 then keyedOp L M o (fun k a => ⟨9, nameOf o.num, k, 0, ⟨#[]⟩, a, 0⟩)
 else noOp L
def runOps (L : Pool) (G : List Int) (M : List Int) : List Op → List Int × Int × Pool
 | [] => (M, 0, L)
 | o :: os => if (doOp L G M o).2.1 ≠ 0 then (M, (doOp L G M o).2.1, (doOp L G M o).2.2) else runOps (doOp L G M o).2.2 G (M ++ [(doOp L G M o).1]) os
def evalOps (L : Pool) (G : List Int) (l : List Op) : Int × Int × Int × Pool :=
 if l.length > 256 then (0, 6, 0, L) else if l.length = 0 then (0, 3, 0, L)
 else if (runOps L G [] l).2.1 ≠ 0 then (0, (runOps L G [] l).2.1, (runOps L G [] l).1.length, (runOps L G [] l).2.2)
 else (((runOps L G [] l).1.getLast?).getD 0, 0, 0, (runOps L G [] l).2.2)
def traceOps (L : Pool) (G : List Int) (l : List Op) : List Int × Pool :=
 if l.length > 256 then ([], L) else if l.length = 0 then ([], L) else ((runOps L G [] l).1, (runOps L G [] l).2.2)
theorem nodeOf_out {L : Pool} {t : Int} (h : inP L t = false) : nodeOf L t = noNode := by simp [nodeOf, get_none h]
theorem atM_in {M : List Int} {i : Int} (h0 : 0 ≤ i) (h1 : i.toNat < M.length) : atM M i = some M[i.toNat] := by
 unfold atM; rw [if_neg (by omega), List.getElem?_eq_getElem h1]
theorem atM_out {M : List Int} {i : Int} (h : i < 0 ∨ (M.length : Int) ≤ i) : atM M i = none := by
 unfold atM
 split
 ·rfl
 ·rw [List.getElem?_eq_none]; omega
theorem atM_some {M : List Int} {i t : Int} (h : atM M i = some t) : 0 ≤ i ∧ ∃ h1 : i.toNat < M.length, M[i.toNat] = t := by
 unfold atM at h
 split at h
 ·cases h
 ·exact ⟨by omega, List.getElem?_eq_some_iff.1 h⟩
theorem ite_ind {α : Type} {P : α → Prop} {c : Prop} [Decidable c] {x y : α} (hx : P x) (hy : P y) : P (if c then x else y) := by split <;> assumption
theorem doOp_ind {L : Pool} (P : Res → Prop) (h1 : ∀ t e, P (t, e, L)) (h2 : ∀ n, P (make L n)) (G M : List Int) (o : Op) : P (doOp L G M o) := by
 have hk : ∀ mk, P (keyedOp L M o mk) := fun mk => by
  unfold keyedOp; split
  ·exact h1 _ _
  ·split
   ·exact h2 _
   ·exact h1 _ _
 have hkn : P (knownOp L G o) := by unfold knownOp; split <;> exact h1 _ _
 have hp : P (pairOp L M o) := by
  unfold pairOp; split
  ·exact h1 _ _
  ·split
   ·exact h1 _ _
   ·exact h2 _
 have hh : P (hashOp L M o) := by
  unfold hashOp; split
  ·exact h1 _ _
  ·exact h2 _
 have hpa : ∀ s, P (partOp L M o s) := fun s => by unfold partOp; split <;> exact h1 _ _
 have hs : P (shownOp L M o) := by unfold shownOp; split <;> exact h1 _ _
 unfold doOp
 refine ite_ind hkn (ite_ind (h2 _) (ite_ind (h2 _) (ite_ind (h2 _) (ite_ind hp (ite_ind hh (ite_ind (hpa _) (ite_ind (hpa _) (ite_ind hs (ite_ind (hk _) (ite_ind (hk _) (ite_ind (hk _) (h1 _ _))))))))))))
theorem doOp_wf {L : Pool} (h : Wf L) (G M : List Int) (o : Op) : Wf (doOp L G M o).2.2 := doOp_ind (fun r => Wf r.2.2) (fun _ _ => h) (fun n => make_wf h n) G M o
theorem runOps_wf (G : List Int) : ∀ (l : List Op) (L : Pool) (M : List Int), Wf L → Wf (runOps L G M l).2.2
 | [], _, _, h => h
 | o :: os, L, M, h => by
  unfold runOps
  split
  ·exact doOp_wf h G M o
  ·exact runOps_wf G os _ _ (doOp_wf h G M o)
theorem runOps_len (G : List Int) : ∀ (l : List Op) (L : Pool) (M : List Int), (runOps L G M l).1.length ≤ M.length + l.length ∧ ((runOps L G M l).2.1 = 0 → (runOps L G M l).1.length = M.length + l.length)
 | [], _, _ => ⟨Nat.le_refl _, fun _ => rfl⟩
 | o :: os, L, M => by
  unfold runOps
  split
  ·rename_i h; exact ⟨by show M.length ≤ M.length + (os.length + 1); omega, fun h' => absurd h' h⟩
  ·obtain ⟨h1, h2⟩ := runOps_len G os (doOp L G M o).2.2 (M ++ [(doOp L G M o).1])
   simp only [List.length_append, List.length_cons, List.length_nil] at h1 h2
   simp only [List.length_cons]
   exact ⟨by omega, fun h => by have := h2 h; omega⟩
section
variable {L : Pool} {G M : List Int} {o : Op}
theorem doOp0 (h : o.code = 0) : doOp L G M o = knownOp L G o := by unfold doOp; rw [if_pos h]
theorem doOp1 (h : o.code = 1) : doOp L G M o = make L ⟨1, o.a, 0, 0, ⟨#[]⟩, 0, 0⟩ := by unfold doOp; rw [if_neg (by omega), if_pos h]
theorem doOp2 (h : o.code = 2) : doOp L G M o = make L ⟨2, 0, 0, o.num, ⟨#[]⟩, 0, 0⟩ := by unfold doOp; rw [if_neg (by omega), if_neg (by omega), if_pos h]
theorem doOp3 (h : o.code = 3) : doOp L G M o = make L ⟨3, 0, 0, 0, o.text, 0, 0⟩ := by unfold doOp; rw [if_neg (by omega), if_neg (by omega), if_neg (by omega), if_pos h]
theorem doOp4 (h : o.code = 4) : doOp L G M o = pairOp L M o := by unfold doOp; rw [if_neg (by omega), if_neg (by omega), if_neg (by omega), if_neg (by omega), if_pos h]
theorem doOp5 (h : o.code = 5) : doOp L G M o = hashOp L M o := by unfold doOp; rw [if_neg (by omega), if_neg (by omega), if_neg (by omega), if_neg (by omega), if_neg (by omega), if_pos h]
theorem doOp6 (h : o.code = 6) : doOp L G M o = partOp L M o false := by unfold doOp; rw [if_neg (by omega), if_neg (by omega), if_neg (by omega), if_neg (by omega), if_neg (by omega), if_neg (by omega), if_pos h]
theorem doOp7 (h : o.code = 7) : doOp L G M o = partOp L M o true := by unfold doOp; rw [if_neg (by omega), if_neg (by omega), if_neg (by omega), if_neg (by omega), if_neg (by omega), if_neg (by omega), if_neg (by omega), if_pos h]
theorem doOp8 (h : o.code = 8) : doOp L G M o = shownOp L M o := by unfold doOp; rw [if_neg (by omega), if_neg (by omega), if_neg (by omega), if_neg (by omega), if_neg (by omega), if_neg (by omega), if_neg (by omega), if_neg (by omega), if_pos h]
theorem doOp9 (h : o.code = 9) : doOp L G M o = keyedOp L M o (fun k a => ⟨7, k, 0, 0, ⟨#[]⟩, a, 0⟩) := by unfold doOp; rw [if_neg (by omega), if_neg (by omega), if_neg (by omega), if_neg (by omega), if_neg (by omega), if_neg (by omega), if_neg (by omega), if_neg (by omega), if_neg (by omega), if_pos h]
theorem doOp10 (h : o.code = 10) : doOp L G M o = keyedOp L M o (fun k a => ⟨8, k, nameOf o.num, 0, ⟨#[]⟩, a, 0⟩) := by unfold doOp; rw [if_neg (by omega), if_neg (by omega), if_neg (by omega), if_neg (by omega), if_neg (by omega), if_neg (by omega), if_neg (by omega), if_neg (by omega), if_neg (by omega), if_neg (by omega), if_pos h]
theorem doOp11 (h : o.code = 11) : doOp L G M o = keyedOp L M o (fun k a => ⟨9, nameOf o.num, k, 0, ⟨#[]⟩, a, 0⟩) := by unfold doOp; rw [if_neg (by omega), if_neg (by omega), if_neg (by omega), if_neg (by omega), if_neg (by omega), if_neg (by omega), if_neg (by omega), if_neg (by omega), if_neg (by omega), if_neg (by omega), if_neg (by omega), if_pos h]
theorem keyedOp_a (h : atM M o.a = none) (mk : Int → Int → Node) : keyedOp L M o mk = noOp L := by unfold keyedOp; rw [h]
theorem keyedOp_b (h : (nodeAt L M o.b).kind ≠ 6) (mk : Int → Int → Node) : keyedOp L M o mk = noOp L := by
 unfold keyedOp; split
 ·rfl
 ·rw [if_neg h]
theorem nodeAt_none {i : Int} (h : atM M i = none) : nodeAt L M i = noNode := by unfold nodeAt; rw [h]
theorem doOp_a (h4 : 4 ≤ o.code) (h11 : o.code ≤ 11) (h : atM M o.a = none) : doOp L G M o = noOp L := by
 have hn : (nodeAt L M o.a).kind = 0 := by rw [nodeAt_none h]; rfl
 rcases (show o.code = 4 ∨ o.code = 5 ∨ o.code = 6 ∨ o.code = 7 ∨ o.code = 8 ∨ o.code = 9 ∨ o.code = 10 ∨ o.code = 11 by omega) with e | e | e | e | e | e | e | e
 ·rw [doOp4 e]; unfold pairOp; rw [h]
 ·rw [doOp5 e]; unfold hashOp; rw [h]
 ·rw [doOp6 e]; unfold partOp; rw [hn, if_neg (by omega)]
 ·rw [doOp7 e]; unfold partOp; rw [hn, if_neg (by omega)]
 ·rw [doOp8 e]; unfold shownOp; rw [hn, if_neg (by decide)]
 ·rw [doOp9 e, keyedOp_a h]
 ·rw [doOp10 e, keyedOp_a h]
 ·rw [doOp11 e, keyedOp_a h]
theorem doOp_key (h9 : 9 ≤ o.code) (h11 : o.code ≤ 11) (h : (nodeAt L M o.b).kind ≠ 6) : doOp L G M o = noOp L := by
 rcases (show o.code = 9 ∨ o.code = 10 ∨ o.code = 11 by omega) with e | e | e
 ·rw [doOp9 e, keyedOp_b h]
 ·rw [doOp10 e, keyedOp_b h]
 ·rw [doOp11 e, keyedOp_b h]
theorem doOp_b (h : atM M o.b = none) (hc : o.code = 4 ∨ 9 ≤ o.code ∧ o.code ≤ 11) : doOp L G M o = noOp L := by
 rcases hc with e | ⟨h9, h11⟩
 ·rw [doOp4 e]; unfold pairOp; rw [h]; split <;> rfl
 ·exact doOp_key h9 h11 (by rw [nodeAt_none h]; decide)
theorem doOp_out (h : o.code < 0 ∨ 11 < o.code) : doOp L G M o = noOp L := by
 unfold doOp
 rw [if_neg (by omega), if_neg (by omega), if_neg (by omega), if_neg (by omega), if_neg (by omega), if_neg (by omega), if_neg (by omega), if_neg (by omega), if_neg (by omega), if_neg (by omega), if_neg (by omega), if_neg (by omega)]
end
theorem runOps_step {L : Pool} {G M : List Int} {l : List Op} {j : Nat} (hj : j < l.length) : runOps L G M (l.drop j) =
  if (doOp L G M l[j]).2.1 ≠ 0 then (M, (doOp L G M l[j]).2.1, (doOp L G M l[j]).2.2) else runOps (doOp L G M l[j]).2.2 G (M ++ [(doOp L G M l[j]).1]) (l.drop (j + 1)) := by
 rw [List.drop_eq_getElem_cons hj, runOps]
theorem evalOps_wf {L : Pool} (h : Wf L) (G : List Int) (l : List Op) : Wf (evalOps L G l).2.2.2 := by
 unfold evalOps
 repeat' split
 ·exact h
 ·exact h
 ·exact runOps_wf G l L [] h
 ·exact runOps_wf G l L [] h
end Go.Sp
end
section
open Go Go.SE
namespace Go.Proofs
set_option maxRecDepth 100000
set_option maxHeartbeats 4000000
attribute [local irreducible] wpL wpX opE wpE Calls
def s_recipe_refuses (p1 : Option Addr) (k1 : Option Addr) (l1 : Sl) : Int :=
 (cond ((Option.isNone p1) || (Option.isNone k1)) 2 (cond (decide ((l1.len : Int) > 256)) 6 (cond (((l1.len : Int) : Int) == 0) 3 0)))
theorem pw_recipe_refuses (p1 : Option Addr) (k1 : Option Addr) (l1 : Sl) (w0 : World) :
  Calls Try.prog 103 #[(vp p1), (vp k1), l1.v] w0 (fun e w' => ∃ b'0 b'1 b'2 : Bool, (((Option.isNone p1) || (Option.isNone k1)) = b'0 ∧ (decide ((l1.len : Int) > 256)) = b'1 ∧ (((l1.len : Int) : Int) == 0) = b'2) ∧ (e = .returned (vi (cond b'0 2 (cond b'1 6 (cond b'2 3 0))))) ∧ Pure w0 w') := by
 refine calls_of_wpE (args := [(vp p1), (vp k1), l1.v]) Try.func103 rfl Try.ntmps103 (Nat.le_of_ble_eq_true rfl) (wpE_seq (rg (q0 (vi 0) (wpL_nil (th_n (wpE_seq (wpE_block (wpE_seq ?_))))))))
 refine wpE_via (fun ρ wJ => w0 = wJ ∧ Has ρ [(2, l1.v), (7, (vb ((Option.isNone p1) || (Option.isNone k1))))]) ?_ ?_
 ·skip
  refine rg (q0 (vp p1) (q2 (vb (Option.isNone p1)) (x_ptreq (by kernel_rfl) rfl Try.underlying25) (q0 (vb (Option.isNone p1)) ?_)))
  refine wpL_join 3 (fun ρ wJ => ∃ b3'0 : Bool, ((Option.isNone p1) = b3'0) ∧ w0 = wJ ∧ Has ρ [(2, l1.v), (13, (vb (b3'0 || (Option.isNone k1))))]) ?_ ?_
  ·rintro ρ w3 ⟨b3'0, he0, hw, hH⟩
   subst he0
   subst hw
   refine wpL_has hH ?_
   clear hH
   refine q0 (vb ((Option.isNone p1) || (Option.isNone k1))) (wpL_nil (th_n ?_))
   exact ⟨rfl, Has.mk (by kernel_rfl)⟩
  ·skip
   rcases Bool.eq_false_or_eq_true (Option.isNone p1) with hg4 | hg4
   ·skip
    refine sk (yD 10 hg4) (sk (yD 10 hg4) (q2 (vb true) (xT hg4) (wpL_nil ?_)))
    exact ⟨true, hg4, rfl, Has.mk (by kernel_rfl)⟩
   ·skip
    refine q1 (vp k1) (want1 rfl (yD 10 hg4)) (stp (v := (vb (Option.isNone k1))) (want1 rfl (yD 10 hg4)) (x_ptreq (by kernel_rfl) rfl Try.underlying62) (q2 (vb (Option.isNone k1)) (xF hg4) (wpL_nil ?_)))
    exact ⟨false, hg4, rfl, Has.mk (by kernel_rfl)⟩
 ·rintro ρ w2 ⟨hw, hH⟩
  subst hw
  refine norm_has hH ?_
  clear hH
  refine th_n ?_
  refine wpE_cond (t := ((Option.isNone p1) || (Option.isNone k1))) (by kernel_rfl) (fun hc1 => ?_) (fun hc1 => ?_)
  ·skip
   refine wpE_seq (rg (q0 (vi 2) (wpL_nil (th_n (wpE_ret (bl_r (th_r (res1 (.inl rfl) Try.results103 (v := (vi 2)) (by kernel_rfl) ?_))))))))
   exact ⟨true, _, _, ⟨hc1, rfl, rfl⟩, by kernel_rfl, Ext.refl _⟩
  ·skip
   refine wpE_seq (rg (q0 l1.v (q0 (vi (l1.len : Int)) (q0 (vb (decide ((l1.len : Int) > 256))) (q0 (vb (decide ((l1.len : Int) > 256))) (wpL_nil (th_n ?_)))))))
   refine wpE_cond (t := (decide ((l1.len : Int) > 256))) (by kernel_rfl) (fun hc2 => ?_) (fun hc2 => ?_)
   ·skip
    refine wpE_seq (rg (q0 (vi 6) (wpL_nil (th_n (wpE_ret (bl_r (th_r (res1 (.inl rfl) Try.results103 (v := (vi 6)) (by kernel_rfl) ?_))))))))
    exact ⟨false, true, _, ⟨hc1, hc2, rfl⟩, by kernel_rfl, Ext.refl _⟩
   ·skip
    refine wpE_seq (rg (q0 l1.v (q0 (vi (l1.len : Int)) (q0 (vb (((l1.len : Int) : Int) == 0)) (q0 (vb (((l1.len : Int) : Int) == 0)) (wpL_nil (th_n ?_)))))))
    refine wpE_cond (t := (((l1.len : Int) : Int) == 0)) (by kernel_rfl) (fun hc3 => ?_) (fun hc3 => ?_)
    ·skip
     refine wpE_seq (rg (q0 (vi 3) (wpL_nil (th_n (wpE_ret (bl_r (th_r (res1 (.inl rfl) Try.results103 (v := (vi 3)) (by kernel_rfl) ?_))))))))
     exact ⟨false, false, true, ⟨hc1, hc2, hc3⟩, by kernel_rfl, Ext.refl _⟩
    ·skip
     refine wpE_skip (bl_n (th_n (wpE_seq (rg (q0 (vi 0) (wpL_nil (th_n (wpE_ret (res1 (.inl rfl) Try.results103 (v := (vi 0)) (by kernel_rfl) ?_)))))))))
     exact ⟨false, false, false, ⟨hc1, hc2, hc3⟩, by kernel_rfl, Ext.refl _⟩
theorem p_recipe_refuses (p1 : Option Addr) (k1 : Option Addr) (l1 : Sl) (w0 : World) : Calls Try.prog 103 #[(.pointer p1), (.pointer k1), l1.v] w0 (fun e w' => e = .returned (.int .i64 (s_recipe_refuses p1 k1 l1)) ∧ Pure w0 w') := by
 refine (pw_recipe_refuses p1 k1 l1 w0).mono ?_
 rintro e w' ⟨b'0, b'1, b'2, ⟨e0, e1, e2⟩, h, E⟩
 subst e0
 subst e1
 subst e2
 exact ⟨h, E⟩
def m_recipe_cook_kitchen (c1 : Option Addr) (w0 : World) (K : (Option Nat) → World → Prop) : Prop :=
 ∀ (p1 : Addr) (w1 : World), New w0 (.cells #[(vp c1)] 223) p1 w1 →
 ∃ v1 : Option Addr, w1.cell? p1 = some (vp v1) ∧
 ∃ a1 : Addr, v1 = some a1 ∧
 ∃ v2 : Option Addr, w1.cell? a1 = some (vp v2) ∧
 ∀ (p2 : Addr) (w2 : World), New w1 (.cells #[(vp none)] 25) p2 w2 →
 CanW w2 p2 ∧ ∀ w3 : World, w3 = w2.setCell p2 (vp v2) →
 ∀ (p3 : Addr) (w4 : World), New w3 (.map #[] 0) p3 w4 →
 ∃ w5 : World, (Instr.mapUpdate 226 (.map (some p3.block)) (vi 0) (.func (.func 170) #[] #[(vp (some p1))])).run Try.prog w4 = .ok () w5 ∧
 ∃ w6 : World, (Instr.mapUpdate 226 (.map (some p3.block)) (vi 1) (.func (.func 171) #[] #[(vp (some p2))])).run Try.prog w5 = .ok () w6 ∧
 ∃ w7 : World, (Instr.mapUpdate 226 (.map (some p3.block)) (vi 2) (.func (.func 172) #[] #[(vp (some p2))])).run Try.prog w6 = .ok () w7 ∧
 ∃ w8 : World, (Instr.mapUpdate 226 (.map (some p3.block)) (vi 3) (.func (.func 173) #[] #[(vp (some p2))])).run Try.prog w7 = .ok () w8 ∧
 ∃ w9 : World, (Instr.mapUpdate 226 (.map (some p3.block)) (vi 4) (.func (.func 175) #[] #[(vp (some p1)), (vp (some p2))])).run Try.prog w8 = .ok () w9 ∧
 ∃ w10 : World, (Instr.mapUpdate 226 (.map (some p3.block)) (vi 5) (.func (.func 177) #[] #[(vp (some p1)), (vp (some p2))])).run Try.prog w9 = .ok () w10 ∧
 ∃ w11 : World, (Instr.mapUpdate 226 (.map (some p3.block)) (vi 6) (.func (.func 178) #[] #[(vp (some p1))])).run Try.prog w10 = .ok () w11 ∧
 ∃ w12 : World, (Instr.mapUpdate 226 (.map (some p3.block)) (vi 7) (.func (.func 180) #[] #[(vp (some p1))])).run Try.prog w11 = .ok () w12 ∧
 ∃ v3 : Option Addr, w12.cell? p1 = some (vp v3) ∧
 ∃ w13 : World, (Instr.mapUpdate 226 (.map (some p3.block)) (vi 8) (.func (.func 181) #[(vp v3)] #[])).run Try.prog w12 = .ok () w13 ∧
 ∃ w14 : World, (Instr.mapUpdate 226 (.map (some p3.block)) (vi 9) (.func (.func 182) #[] #[(vp (some p1)), (vp (some p2))])).run Try.prog w13 = .ok () w14 ∧
 ∃ w15 : World, (Instr.mapUpdate 226 (.map (some p3.block)) (vi 10) (.func (.func 184) #[] #[(vp (some p1)), (vp (some p2))])).run Try.prog w14 = .ok () w15 ∧
 ∃ w16 : World, (Instr.mapUpdate 226 (.map (some p3.block)) (vi 11) (.func (.func 188) #[] #[(vp (some p1)), (vp (some p2))])).run Try.prog w15 = .ok () w16 ∧
 K (some p3.block) w16
theorem w_recipe_cook_kitchen (c1 : Option Addr) (w0 : World) (K : (Option Nat) → World → Prop) (h : m_recipe_cook_kitchen c1 w0 K) :
  Calls Try.prog 145 #[(vp c1)] w0 (fun e w' => ∃ r1 : Option Nat, e = .returned (.map r1) ∧ K r1 w') := by
 unfold m_recipe_cook_kitchen at h
 refine calls_of_wpE (args := [(vp c1)]) Try.func145 rfl Try.ntmps145 (Nat.le_of_ble_eq_true rfl) (wpE_seq (rg (sn (O := (.cells #[(vp c1)] 223)) xb ?_)))
 intro p1 w1 hn4
 replace h := h p1 w1 hn4
 refine q0 (.map none) (wpL_nil (th_n (wpE_seq (rg ?_))))
 obtain ⟨v1, hv15, h⟩ := h
 refine q2 (vp v1) (xl (Try.isAgg223 _) hv15) ?_
 obtain ⟨a1, hp1, h⟩ := h
 refine q2 (vp (some a1)) (x_nilCheck (p := v1) (by kernel_rfl) hp1) (q0 (vp (some a1)) ?_)
 obtain ⟨v2, hv14, h⟩ := h
 refine q2 (vp v2) (xl (Try.isAgg25 _) hv14) (sn (O := (.cells #[(vp none)] 25)) (x_alloc (Try.zeroValue25 _) rfl) ?_)
 intro p2 w2 hn3
 replace h := h p2 w2 hn3
 obtain ⟨hp2, h⟩ := h
 refine st_set (want0 rfl) (x_store (a := p2) (v := (vp v2)) (by kernel_rfl) (by kernel_rfl) rfl (Try.sizeOf25 _) hp2) ?_
 intro w3 hn1
 replace h := h w3 hn1
 refine wpL_nil (th_n (wpE_seq (rg (st_new (O := (.map #[] 0)) (fun p => .map (some p.block)) (want0 rfl) (by kernel_rfl) ?_))))
 intro p3 w4 hn2
 replace h := h p3 w4 hn2
 refine q0 (.func (.func 170) #[] #[(vp (some p1))]) ?_
 obtain ⟨w5, hv13, h⟩ := h
 refine st_skip (want0 rfl) (x_insert (by kernel_rfl) (by kernel_rfl) (by kernel_rfl) hv13) (q0 (.func (.func 171) #[] #[(vp (some p2))]) ?_)
 obtain ⟨w6, hv12, h⟩ := h
 refine st_skip (want0 rfl) (x_insert (by kernel_rfl) (by kernel_rfl) (by kernel_rfl) hv12) (q0 (.func (.func 172) #[] #[(vp (some p2))]) ?_)
 obtain ⟨w7, hv11, h⟩ := h
 refine st_skip (want0 rfl) (x_insert (by kernel_rfl) (by kernel_rfl) (by kernel_rfl) hv11) (q0 (.func (.func 173) #[] #[(vp (some p2))]) ?_)
 obtain ⟨w8, hv10, h⟩ := h
 refine st_skip (want0 rfl) (x_insert (by kernel_rfl) (by kernel_rfl) (by kernel_rfl) hv10) (q0 (.func (.func 175) #[] #[(vp (some p1)), (vp (some p2))]) ?_)
 obtain ⟨w9, hv9, h⟩ := h
 refine st_skip (want0 rfl) (x_insert (by kernel_rfl) (by kernel_rfl) (by kernel_rfl) hv9) (q0 (.func (.func 177) #[] #[(vp (some p1)), (vp (some p2))]) ?_)
 obtain ⟨w10, hv8, h⟩ := h
 refine st_skip (want0 rfl) (x_insert (by kernel_rfl) (by kernel_rfl) (by kernel_rfl) hv8) (q0 (.func (.func 178) #[] #[(vp (some p1))]) ?_)
 obtain ⟨w11, hv7, h⟩ := h
 refine st_skip (want0 rfl) (x_insert (by kernel_rfl) (by kernel_rfl) (by kernel_rfl) hv7) (q0 (.func (.func 180) #[] #[(vp (some p1))]) ?_)
 obtain ⟨w12, hv6, h⟩ := h
 refine st_skip (want0 rfl) (x_insert (by kernel_rfl) (by kernel_rfl) (by kernel_rfl) hv6) ?_
 obtain ⟨v3, hv5, h⟩ := h
 refine q2 (vp v3) (xl (Try.isAgg223 _) hv5) (q0 (.func (.func 181) #[(vp v3)] #[]) ?_)
 obtain ⟨w13, hv4, h⟩ := h
 refine st_skip (want0 rfl) (x_insert (by kernel_rfl) (by kernel_rfl) (by kernel_rfl) hv4) (q0 (.func (.func 182) #[] #[(vp (some p1)), (vp (some p2))]) ?_)
 obtain ⟨w14, hv3, h⟩ := h
 refine st_skip (want0 rfl) (x_insert (by kernel_rfl) (by kernel_rfl) (by kernel_rfl) hv3) (q0 (.func (.func 184) #[] #[(vp (some p1)), (vp (some p2))]) ?_)
 obtain ⟨w15, hv2, h⟩ := h
 refine st_skip (want0 rfl) (x_insert (by kernel_rfl) (by kernel_rfl) (by kernel_rfl) hv2) (q0 (.func (.func 188) #[] #[(vp (some p1)), (vp (some p2))]) ?_)
 obtain ⟨w16, hv1, h⟩ := h
 refine st_skip (want0 rfl) (x_insert (by kernel_rfl) (by kernel_rfl) (by kernel_rfl) hv1) (q0 (.map (some p3.block)) (q0 (.map (some p3.block)) (wpL_nil (th_n (wpE_ret (res1 (.inl rfl) Try.results145 (v := (.map (some p3.block))) (by kernel_rfl) ?_))))))
 exact ⟨(some p3.block), rfl, h⟩
def m_recipe_run_l1 (l1 : Sl) (p2 : Addr) (r2 : Option Nat) (x1 : Int) (w0 : World) (Hl1 : Nat → Prop) (wl1 : World) (Kc1 : Int → (Nat → Prop) → World → Prop) (K : Sl → Int → World → Prop) : Prop :=
 Br (decide (x1 < (l1.len : Int)))
  (∃ a1 : Addr, At l1 x1 5 a1 ∧
  ∃ aM aN : Int, ∃ aO aP : Int, ∃ aQ : ByteArray, Row wl1 a1 [(vi aM), (vi aN), (vi aO), (vu aP), (vs aQ)] ∧
  ∀ (H1 : Nat → Prop) (w5 : World), Hst w0 Hl1 wl1 H1 w5 →
  ∃ v1 : Value, ∃ ok1 : Bool, (Instr.lookup 226 (.map r2) (vi aM) true).run Try.prog w5 = .ok (.tuple #[v1, (vb ok1)]) w5 ∧
  Br (!ok1)
   (∃ v2 : Sl, w5.cell? (p2.add 2) = some v2.v ∧
   K v2 90 w5)
   (∃ (f1 : FuncId) (fs1 cs1 : Array Value), v1 = .func (.func f1) fs1 cs1 ∧
   (∀ args w, (callFunc f1 args).run Try.prog w = .ok (.enter f1 args) w) ∧ Calls Try.prog f1 (fs1 ++ #[(.agg #[(vi aM), (vi aN), (vi aO), (vu aP), (vs aQ)])] ++ cs1) w5 (fun e w6 => ∃ r3 r4 : Int, e = .returned (.tuple #[(vi r3), (vi r4)]) ∧ 
    Kept H1 w5 w6 ∧
    Br (r4 != 0)
     (∃ v3 : Sl, w6.cell? (p2.add 2) = some v3.v ∧
     K v3 r4 w6)
     (∃ v4 : Sl, w6.cell? (p2.add 2) = some v4.v ∧
     ∀ (p4 : Addr) (w7 : World), New w6 (.cells #[(vi r3)] 41) p4 w7 →
     ∃ s1 : Sl, ∃ w8 : World, (Builtin.append_ #[26, 26] 26 #[v4.v, (Sl.mk (some p4) 1 1).v]).run Try.prog w7 = .ok s1.v w8 ∧
     Kept H1 w7 w8 ∧
     CanW w8 (p2.add 2) ∧ ¬ H1 (p2.add 2).block ∧ ∀ w9 : World, w9 = w8.setCell (p2.add 2) s1.v →
     Kc1 (IntKind.i64.wrap (x1 + 1)) H1 w9))))
  (∃ v5 : Sl, wl1.cell? (p2.add 2) = some v5.v ∧
  K v5 0 wl1)
def m_recipe_run (p1 : Option Addr) (k1 : Option Addr) (l1 : Sl) (w0 : World) (K : Sl → Int → World → Prop) : Prop :=
 Calls Try.prog 90 #[(vp k1)] w0 (fun e w1 => ∃ r1 : Sl, e = .returned r1.v ∧ 
  Kept None w0 w1 ∧
  ∀ (p2 : Addr) (w2 : World), New w1 (.cells #[(vp p1), r1.v, Sl.nil.v] 225) p2 w2 →
  Calls Try.prog 145 #[(vp (some p2))] w2 (fun e w3 => ∃ r2 : Option Nat, e = .returned (.map r2) ∧ 
   Kept None w2 w3 ∧
   ∃ (I1 : Int → (Nat → Prop) → World → Prop) (mu1 : Int → World → Nat), I1 0 None w3 ∧
    ∀ (x1 : Int) (Hl1 : Nat → Prop) (wl1 : World), Hst w0 Hl1 wl1 Hl1 wl1 → I1 x1 Hl1 wl1 → m_recipe_run_l1 l1 p2 r2 x1 w0 Hl1 wl1 (fun y'0 H' w' => I1 y'0 H' w' ∧ mu1 y'0 w' < mu1 x1 wl1) K))
theorem w_recipe_run (p1 : Option Addr) (k1 : Option Addr) (l1 : Sl) (w0 : World) (K : Sl → Int → World → Prop) (h : m_recipe_run p1 k1 l1 w0 K) :
  Calls Try.prog 104 #[(vp p1), (vp k1), l1.v] w0 (fun e w' => ∃ r5 : Sl, ∃ r6 : Int, e = .returned (.tuple #[r5.v, (vi r6)]) ∧ K r5 r6 w') := by
 unfold m_recipe_run at h
 refine calls_of_wpE (args := [(vp p1), (vp k1), l1.v]) Try.func104 rfl Try.ntmps104 (Nat.le_of_ble_eq_true rfl) ?_
 have hs := Hst.start w0
 have hb := HB.nil None w0
 refine wpE_seq (rg (q0 Sl.nil.v (q0 (vi 0) (wpL_nil (th_n (wpE_seq (rg (q0 (vp p1) (q0 (vp k1) ?_)))))))))
 refine st_call (want0 rfl) (xc Try.call90) (h.mono ?_)
 rintro e w1 ⟨r1, rfl, hk, h⟩
 refine ⟨_, rfl, ?_⟩
 obtain ⟨hs, hb⟩ := hk.hh hs hb
 refine q0 (.agg #[(vp p1), r1.v, Sl.nil.v]) (sn (O := (.cells #[(vp p1), r1.v, Sl.nil.v] 225)) xb ?_)
 intro p2 w2 hn5
 replace h := h p2 w2 hn5
 replace hs := hs.again (Ext.new (F := None) hn5).keptP
 replace hb := hb.kept (Ext.new (F := None) hn5).keptP
 refine q0 (vp (some p2)) (wpL_nil (th_n (wpE_seq (rg (q0 (vp (some p2)) ?_)))))
 refine st_call (want0 rfl) (xc Try.call145) (h.mono ?_)
 rintro e w3 ⟨r2, rfl, hk, h⟩
 refine ⟨_, rfl, ?_⟩
 obtain ⟨hs, hb⟩ := hk.hh hs hb
 refine q0 (.map r2) (wpL_nil (th_n (wpE_seq (wpE_seq (rg (q0 l1.v (q0 (vi (l1.len : Int)) (q0 (vi 0) (wpL_nil (th_n (wpE_block ?_)))))))))))
 obtain ⟨I1, mu1, h0, hr⟩ := h
 refine wpE_loop (σ := Int × (Nat → Prop) × World) (fun s ρ w => w = s.2.2 ∧ Has ρ [(8, (vp (some p2))), (9, (.map r2)), (23, l1.v), (24, (vi (l1.len : Int))), (25, (vi s.1))] ∧ Hst w0 s.2.1 w s.2.1 w ∧ HB s.2.1 w [] ∧ I1 s.1 s.2.1 s.2.2) (fun s => mu1 s.1 s.2.2) (0, None, w3) ⟨rfl, Has.mk (by kernel_rfl), hs, hb, h0⟩ ?_
 clear hs hb
 rintro ⟨x1, Hl1, wl1⟩ ρ w ⟨hw, hH, hs, hb, hI⟩
 obtain rfl : wl1 = w := (show w = wl1 from hw).symm
 replace hH : Has ρ [(8, (vp (some p2))), (9, (.map r2)), (23, l1.v), (24, (vi (l1.len : Int))), (25, (vi x1))] := hH
 replace hs : Hst w0 Hl1 wl1 Hl1 wl1 := hs
 replace hb : HB Hl1 wl1 [] := hb
 have h := hr x1 Hl1 wl1 hs hI
 clear hr h0
 unfold m_recipe_run_l1 at h
 refine wpE_has hH ?_
 clear hH hI
 refine wpE_seq (rg (q0 (vb (decide (x1 < (l1.len : Int)))) (wpL_nil (th_n (wpE_seq ?_)))))
 refine wpE_cond (t := (decide (x1 < (l1.len : Int)))) (by kernel_rfl) (fun hc1 => ?_) (fun hc1 => ?_)
 ·replace h := h.1 hc1
  refine wpE_skip (th_n (wpE_seq (wpE_block (wpE_seq (rg ?_)))))
  obtain ⟨a1, hv7, h⟩ := h
  refine q2 (vp (some a1)) (x_indexAddr (s := l1) (k := .i64) (i := x1) (by kernel_rfl) (by kernel_rfl) (Try.runUnderlying98 _) (Try.sizeOf175 _) hv7) ?_
  obtain ⟨aM, aN, aO, aP, aQ, hv6, h⟩ := h
  refine q2 (.agg #[(vi aM), (vi aN), (vi aO), (vu aP), (vs aQ)]) (x_loadA (a := a1) (vs := [(vi aM), (vi aN), (vi aO), (vu aP), (vs aQ)]) (by kernel_rfl) (Try.isAgg175 _) (Try.sizeOf175 _) rfl hv6) (sn (O := (.cells #[(vi 0), (vi 0), (vi 0), (vu 0), (vs ⟨#[]⟩)] 175)) (x_alloc (Try.zeroValue175 _) rfl) ?_)
  intro p3 w4 hn1
  obtain ⟨H1, hs, hb⟩ := hs.alloc hb hn1
  refine st_set (want0 rfl) (x_storeA (a := p3) (vs := [(vi aM), (vi aN), (vi aO), (vu aP), (vs aQ)]) (by kernel_rfl) (by kernel_rfl) rfl (Try.sizeOf175 _) rfl (hb.canWs0 0 5 gZ (by kernel_rfl))) ?_
  intro w5 hn2
  have hsb : Hst w0 Hl1 wl1 H1 w5 ∧ HB H1 w5 [(p3, [(vi aM), (vi aN), (vi aO), (vu aP), (vs aQ)], 175)] := by
   rw [hn2]
   exact hb.store0 (i := 0) (vs := [(vi aM), (vi aN), (vi aO), (vu aP), (vs aQ)]) hs gZ (by kernel_rfl) (by kernel_rfl)
  clear hs hb hn2
  obtain ⟨hs, hb⟩ := hsb
  refine wpL_nil (th_n (wpE_seq (rg (q0 (.map r2) (q0 (vp (some p3)) (q2 (vi aM) (xl (Try.isAgg3 _) (hb.c0 0 gZ)) ?_))))))
  replace h := h H1 w5 hs
  replace hs := hs.here
  obtain ⟨v1, ok1, hv5, h⟩ := h
  refine q2 (.tuple #[v1, (vb ok1)]) (x_lookup (by kernel_rfl) (by kernel_rfl) hv5) (q0 (.tuple #[v1, (vb ok1)]) (q0 v1 (q0 (vb ok1) (q0 v1 (q0 (vb ok1) (wpL_nil (th_n (wpE_seq (wpE_seq (rg (q0 (vb ok1) ?_)))))))))))
  refine q0 (vb (!ok1)) (wpL_nil (th_n ?_))
  refine wpE_cond (t := (!ok1)) (by kernel_rfl) (fun hc2 => ?_) (fun hc2 => ?_)
  ·replace h := h.1 hc2
   refine wpE_seq (rg (q0 (vp (some p2)) (q0 (vp (some p2)) (q0 (vp (some (p2.add 2))) ?_))))
   obtain ⟨v2, hv1, h⟩ := h
   refine q2 v2.v (xl (Try.isAgg26 _) hv1) (q0 v2.v (q0 (vi 90) (wpL_nil (th_n (wpE_ret (th_r (bl_r (th_r (th_r (bl_r (th_r ?_)))))))))))
   refine res2 (.inl rfl) Try.results104 (v := v2.v) (by kernel_rfl) (v' := (vi 90)) (by kernel_rfl) ?_
   exact ⟨v2, 90, rfl, h⟩
  ·replace h := h.2 hc2
   refine wpE_skip (th_n (wpE_seq (rg (q0 v1 (q2 (.agg #[(vi aM), (vi aN), (vi aO), (vu aP), (vs aQ)]) (x_loadA (a := p3) (vs := [(vi aM), (vi aN), (vi aO), (vu aP), (vs aQ)]) (by kernel_rfl) (Try.isAgg175 _) (Try.sizeOf175 _) rfl (hb.row0 0 5 gZ (by kernel_rfl))) ?_)))))
   obtain ⟨f1, fs1, cs1, hp1, h⟩ := h
   obtain ⟨hf1, h⟩ := h
   refine st_call (want0 rfl) (x_callmE (fs := fs1) (caps := cs1) (args := #[(.agg #[(vi aM), (vi aN), (vi aO), (vu aP), (vs aQ)])]) (by kernel_rfl) hp1 hf1 (by kernel_rfl) rfl) (h.mono ?_)
   rintro e w6 ⟨r3, r4, rfl, hk, h⟩
   refine ⟨_, rfl, ?_⟩
   obtain ⟨hs, hb⟩ := hk.hh hs hb
   refine q0 (.tuple #[(vi r3), (vi r4)]) (q0 (vi r3) (q0 (vi r4) (q0 (vi r3) (q0 (vi r4) (wpL_nil (th_n (wpE_seq (wpE_seq (rg (q0 (vi r4) (q0 (vb (r4 != 0)) ?_)))))))))))
   refine wpL_nil (th_n ?_)
   refine wpE_cond (t := (r4 != 0)) (by kernel_rfl) (fun hc3 => ?_) (fun hc3 => ?_)
   ·replace h := h.1 hc3
    refine wpE_seq (rg (q0 (vp (some p2)) (q0 (vp (some p2)) (q0 (vp (some (p2.add 2))) ?_))))
    obtain ⟨v3, hv2, h⟩ := h
    refine q2 v3.v (xl (Try.isAgg26 _) hv2) (q0 (vi r4) (q0 v3.v (q0 (vi r4) (wpL_nil (th_n (wpE_ret (th_r (bl_r (th_r (th_r (bl_r ?_)))))))))))
    refine th_r (res2 (.inl rfl) Try.results104 (v := v3.v) (by kernel_rfl) (v' := (vi r4)) (by kernel_rfl) ?_)
    exact ⟨v3, r4, rfl, h⟩
   ·replace h := h.2 hc3
    refine wpE_skip (th_n (rg (q0 (vp (some p2)) (q0 (vp (some p2)) (q0 (vp (some p2)) (q0 (vp (some (p2.add 2))) ?_))))))
    obtain ⟨v4, hv4, h⟩ := h
    refine q2 v4.v (xl (Try.isAgg26 _) hv4) (q0 (vi r3) (st_new (O := (.cells #[(vi r3)] 41)) (fun p => (Sl.mk (some p) 1 1).v) (want0 rfl) (x_buildSlice (vs := #[(0, (vi r3))]) (by kernel_rfl) (by kernel_rfl)) ?_))
    intro p4 w7 hn4
    replace h := h p4 w7 hn4
    replace hs := hs.again (Ext.new (F := None) hn4).keptP
    replace hb := hb.kept (Ext.new (F := None) hn4).keptP
    obtain ⟨s1, w8, hv3, hk, h⟩ := h
    refine st (v := s1.v) (want0 rfl) (x_builtin (args := #[v4.v, (Sl.mk (some p4) 1 1).v]) (by kernel_rfl) (fun _ => rfl) hv3) ?_
    obtain ⟨hs, hb⟩ := hk.hh hs hb
    refine q0 (vp (some p2)) (q0 (vp (some (p2.add 2))) ?_)
    obtain ⟨hp2, hnh, h⟩ := h
    refine st_set (want0 rfl) (x_store (a := (p2.add 2)) (v := s1.v) (by kernel_rfl) (by kernel_rfl) rfl (Try.sizeOf26 _) hp2) ?_
    intro w9 hn3
    replace h := h w9 hn3
    have hk : Kept H1 w8 w9 := by rw [hn3]; exact Kept.setCell hnh
    replace hs := hs.again hk
    replace hb := hb.kept hk
    clear hk hnh
    refine wpL_nil (bl_n (th_n (rg (q0 (vi (IntKind.i64.wrap (x1 + 1))) (q0 (vi (IntKind.i64.wrap (x1 + 1))) (wpL_nil (th_n ?_)))))))
    exact ⟨((IntKind.i64.wrap (x1 + 1)), H1, w9), ⟨rfl, Has.mk (by kernel_rfl), hs, hb.drop 1, h.1⟩, h.2⟩
 ·replace h := h.2 hc1
  refine wpE_exit (th_x (th_x (bl_eq (th_n (wpE_seq (rg (q0 (vp (some p2)) (q0 (vp (some p2)) (q0 (vp (some (p2.add 2))) ?_)))))))))
  obtain ⟨v5, hv8, h⟩ := h
  refine q2 v5.v (xl (Try.isAgg26 _) hv8) (q0 v5.v (q0 (vi 0) (wpL_nil (th_n (wpE_ret (res2 (.inl rfl) Try.results104 (v := v5.v) (by kernel_rfl) (v' := (vi 0)) (by kernel_rfl) ?_))))))
  exact ⟨v5, 0, rfl, h⟩
def m_recipe_Eval (p1 : Option Addr) (k1 : Option Addr) (l1 : Sl) (w0 : World) (K : Int → Int → Int → World → Prop) : Prop :=
 Br (((s_recipe_refuses p1 k1 l1) : Int) != 0)
  (∀ (w1 : World), Hst w0 None w0 None w1 →
  K 0 (s_recipe_refuses p1 k1 l1) 0 w1)
  (∀ (w1 : World), Hst w0 None w0 None w1 →
  Calls Try.prog 104 #[(vp p1), (vp k1), l1.v] w1 (fun e w2 => ∃ r1 : Sl, ∃ r2 : Int, e = .returned (.tuple #[r1.v, (vi r2)]) ∧ 
   Kept None w1 w2 ∧
   Br (r2 != 0)
    (K 0 r2 (r1.len : Int) w2)
    (∃ a1 : Addr, At r1 (IntKind.i64.wrap ((r1.len : Int) - 1)) 1 a1 ∧
    ∃ v1 : Int, w2.cell? a1 = some (vi v1) ∧
    K v1 0 0 w2)))
theorem w_recipe_Eval (p1 : Option Addr) (k1 : Option Addr) (l1 : Sl) (w0 : World) (K : Int → Int → Int → World → Prop) (h : m_recipe_Eval p1 k1 l1 w0 K) :
  Calls Try.prog 54 #[(vp p1), (vp k1), l1.v] w0 (fun e w' => ∃ r3 r4 r5 : Int, e = .returned (.tuple #[(vi r3), (vi r4), (vi r5)]) ∧ K r3 r4 r5 w') := by
 unfold m_recipe_Eval at h
 refine calls_of_wpE (args := [(vp p1), (vp k1), l1.v]) Try.func54 rfl Try.ntmps54 (Nat.le_of_ble_eq_true rfl) ?_
 have hs := Hst.start w0
 have hb := HB.nil None w0
 refine wpE_seq (rg (q0 (vi 0) (q0 (vi 0) (q0 (vi 0) (wpL_nil (th_n (wpE_seq (wpE_seq (rg (q0 (vp p1) (q0 (vp k1) ?_)))))))))))
 refine q0 l1.v ?_
 refine st_call (want0 rfl) (xc Try.call103) ((p_recipe_refuses p1 k1 l1 w0).mono ?_)
 rintro e w1 ⟨he, hE⟩
 refine ⟨(vi (s_recipe_refuses p1 k1 l1)), he.trans (by kernel_rfl), ?_⟩
 replace hs := hs.pure hE
 replace hb := hb.pure hE
 clear hE he
 refine q0 (vi (s_recipe_refuses p1 k1 l1)) (wpL_nil (th_n (wpE_seq (rg (q0 (vi (s_recipe_refuses p1 k1 l1)) (q0 (vb (((s_recipe_refuses p1 k1 l1) : Int) != 0)) (wpL_nil (th_n ?_))))))))
 refine wpE_cond (t := (((s_recipe_refuses p1 k1 l1) : Int) != 0)) (by kernel_rfl) (fun hc1 => ?_) (fun hc1 => ?_)
 ·replace h := h.1 hc1
  refine wpE_seq (rg (q0 (vi (s_recipe_refuses p1 k1 l1)) (q0 (vi 0) (q0 (vi (s_recipe_refuses p1 k1 l1)) (q0 (vi 0) (wpL_nil (th_n (wpE_ret (th_r ?_)))))))))
  replace h := h w1 hs
  replace hs := hs.here
  refine res3 (.inl rfl) Try.results54 (v := (vi 0)) (by kernel_rfl) (v' := (vi (s_recipe_refuses p1 k1 l1))) (by kernel_rfl) (v'' := (vi 0)) (by kernel_rfl) ?_
  exact ⟨0, (s_recipe_refuses p1 k1 l1), 0, rfl, h⟩
 ·replace h := h.2 hc1
  refine wpE_skip (th_n (wpE_seq (rg (q0 (vp p1) (q0 (vp k1) (q0 l1.v ?_))))))
  replace h := h w1 hs
  replace hs := hs.here
  refine st_call (want0 rfl) (xc Try.call104) (h.mono ?_)
  rintro e w2 ⟨r1, r2, rfl, hk, h⟩
  refine ⟨_, rfl, ?_⟩
  obtain ⟨hs, hb⟩ := hk.hh hs hb
  refine q0 (.tuple #[r1.v, (vi r2)]) (q0 r1.v (q0 (vi r2) (q0 r1.v (q0 (vi r2) (wpL_nil (th_n (wpE_seq (wpE_seq (rg (q0 (vi r2) (q0 (vb (r2 != 0)) ?_)))))))))))
  refine wpL_nil (th_n ?_)
  refine wpE_cond (t := (r2 != 0)) (by kernel_rfl) (fun hc2 => ?_) (fun hc2 => ?_)
  ·replace h := h.1 hc2
   refine wpE_seq (rg (q0 (vi r2) (q0 r1.v (q0 (vi (r1.len : Int)) (q0 (vi 0) (q0 (vi r2) (q0 (vi (r1.len : Int)) (wpL_nil (th_n (wpE_ret (th_r ?_)))))))))))
   refine res3 (.inl rfl) Try.results54 (v := (vi 0)) (by kernel_rfl) (v' := (vi r2)) (by kernel_rfl) (v'' := (vi (r1.len : Int))) (by kernel_rfl) ?_
   exact ⟨0, r2, (r1.len : Int), rfl, h⟩
  ·replace h := h.2 hc2
   refine wpE_skip (th_n (wpE_seq (rg (q0 r1.v (q0 r1.v (q0 (vi (r1.len : Int)) (q0 (vi (IntKind.i64.wrap ((r1.len : Int) - 1))) ?_)))))))
   obtain ⟨a1, hv2, h⟩ := h
   refine q2 (vp (some a1)) (x_indexAddr (s := r1) (k := .i64) (i := (IntKind.i64.wrap ((r1.len : Int) - 1))) (by kernel_rfl) (by kernel_rfl) (Try.runUnderlying26 _) (Try.sizeOf41 _) hv2) ?_
   obtain ⟨v1, hv1, h⟩ := h
   refine q2 (vi v1) (xl (Try.isAgg41 _) hv1) (q0 (vi v1) (q0 (vi 0) (q0 (vi 0) (wpL_nil (th_n (wpE_ret (res3 (.inl rfl) Try.results54 (v := (vi v1)) (by kernel_rfl) (v' := (vi 0)) (by kernel_rfl) (v'' := (vi 0)) (by kernel_rfl) ?_)))))))
   exact ⟨v1, 0, 0, rfl, h⟩
def m_recipe_Trace (p1 : Option Addr) (k1 : Option Addr) (l1 : Sl) (w0 : World) (K : Sl → World → Prop) : Prop :=
 Br (((s_recipe_refuses p1 k1 l1) : Int) != 0)
  (∀ (w1 : World), Hst w0 None w0 None w1 →
  K Sl.nil w1)
  (∀ (w1 : World), Hst w0 None w0 None w1 →
  Calls Try.prog 104 #[(vp p1), (vp k1), l1.v] w1 (fun e w2 => ∃ r1 : Sl, ∃ r2 : Int, e = .returned (.tuple #[r1.v, (vi r2)]) ∧ 
   Kept None w1 w2 ∧
   K r1 w2))
theorem w_recipe_Trace (p1 : Option Addr) (k1 : Option Addr) (l1 : Sl) (w0 : World) (K : Sl → World → Prop) (h : m_recipe_Trace p1 k1 l1 w0 K) :
  Calls Try.prog 56 #[(vp p1), (vp k1), l1.v] w0 (fun e w' => ∃ r3 : Sl, e = .returned r3.v ∧ K r3 w') := by
 unfold m_recipe_Trace at h
 refine calls_of_wpE (args := [(vp p1), (vp k1), l1.v]) Try.func56 rfl Try.ntmps56 (Nat.le_of_ble_eq_true rfl) ?_
 have hs := Hst.start w0
 have hb := HB.nil None w0
 refine wpE_seq (rg (q0 Sl.nil.v (wpL_nil (th_n (wpE_seq (wpE_seq (rg (q0 (vp p1) (q0 (vp k1) (q0 l1.v ?_))))))))))
 refine st_call (want0 rfl) (xc Try.call103) ((p_recipe_refuses p1 k1 l1 w0).mono ?_)
 rintro e w1 ⟨he, hE⟩
 refine ⟨(vi (s_recipe_refuses p1 k1 l1)), he.trans (by kernel_rfl), ?_⟩
 replace hs := hs.pure hE
 replace hb := hb.pure hE
 clear hE he
 refine q0 (vb (((s_recipe_refuses p1 k1 l1) : Int) != 0)) (wpL_nil (th_n ?_))
 refine wpE_cond (t := (((s_recipe_refuses p1 k1 l1) : Int) != 0)) (by kernel_rfl) (fun hc1 => ?_) (fun hc1 => ?_)
 ·replace h := h.1 hc1
  refine wpE_seq (rg (q0 Sl.nil.v (wpL_nil (th_n (wpE_ret (th_r ?_))))))
  replace h := h w1 hs
  replace hs := hs.here
  refine res1 (.inl rfl) Try.results56 (v := Sl.nil.v) (by kernel_rfl) ?_
  exact ⟨Sl.nil, rfl, h⟩
 ·replace h := h.2 hc1
  refine wpE_skip (th_n (wpE_seq (rg (q0 (vp p1) (q0 (vp k1) (q0 l1.v ?_))))))
  replace h := h w1 hs
  replace hs := hs.here
  refine st_call (want0 rfl) (xc Try.call104) (h.mono ?_)
  rintro e w2 ⟨r1, r2, rfl, hk, h⟩
  refine ⟨_, rfl, ?_⟩
  obtain ⟨hs, hb⟩ := hk.hh hs hb
  refine q0 (.tuple #[r1.v, (vi r2)]) (q0 r1.v (q0 (vi r2) (q0 r1.v (q0 (vi r2) (wpL_nil (th_n (wpE_seq (rg (q0 r1.v (q0 r1.v (wpL_nil ?_)))))))))))
  refine th_n (wpE_ret (res1 (.inl rfl) Try.results56 (v := r1.v) (by kernel_rfl) ?_))
  exact ⟨r1, rfl, h⟩
def m_recipe_cook_kitchen_1_j1 (aA : Int) (cap1 : Addr) (x1 : Bool) (w0 : World) (H : Nat → Prop) (w : World) (K : Int → Int → World → Prop) : Prop :=
 Br x1
  (K 0 90 w)
  (∀ (w2 : World), Hst w0 H w H w2 →
  ∃ v1 : Option Addr, w2.cell? cap1 = some (vp v1) ∧
  ∃ a1 : Addr, v1 = some a1 ∧
  ∃ v2 : Sl, w2.cell? (a1.add 1) = some v2.v ∧
  ∃ a2 : Addr, At v2 aA 1 a2 ∧
  ∃ v3 : Int, w2.cell? a2 = some (vi v3) ∧
  K v3 0 w2)
def m_recipe_cook_kitchen_1 (aE aA : Int) (aB aC : Int) (aD : ByteArray) (cap1 : Addr) (w0 : World) (K : Int → Int → World → Prop) : Prop :=
 Br (decide (aA < 0))
  (∀ (H1 : Nat → Prop) (w3 : World), Hst w0 None w0 H1 w3 →
  m_recipe_cook_kitchen_1_j1 aA cap1 true w0 H1 w3 K)
  (∀ (H1 : Nat → Prop) (w3 : World), Hst w0 None w0 H1 w3 →
  ∃ v4 : Option Addr, w3.cell? cap1 = some (vp v4) ∧
  ∃ a3 : Addr, v4 = some a3 ∧
  ∃ v5 : Sl, w3.cell? (a3.add 1) = some v5.v ∧
  m_recipe_cook_kitchen_1_j1 aA cap1 (decide (aA ≥ (v5.len : Int))) w0 H1 w3 K)
theorem w_recipe_cook_kitchen_1 (aE aA : Int) (aB aC : Int) (aD : ByteArray) (cap1 : Addr) (w0 : World) (K : Int → Int → World → Prop) (h : m_recipe_cook_kitchen_1 aE aA aB aC aD cap1 w0 K) :
  Calls Try.prog 170 #[(.agg #[(vi aE), (vi aA), (vi aB), (vu aC), (vs aD)]), (vp (some cap1))] w0 (fun e w' => ∃ r1 r2 : Int, e = .returned (.tuple #[(vi r1), (vi r2)]) ∧ K r1 r2 w') := by
 unfold m_recipe_cook_kitchen_1 at h
 refine calls_of_wpE (args := [(.agg #[(vi aE), (vi aA), (vi aB), (vu aC), (vs aD)]), (vp (some cap1))]) Try.func170 rfl Try.ntmps170 (Nat.le_of_ble_eq_true rfl) ?_
 have hs := Hst.start w0
 have hb := HB.nil None w0
 refine wpE_seq (rg (sn (O := (.cells #[(vi aE), (vi aA), (vi aB), (vu aC), (vs aD)] 175)) xb ?_))
 intro p1 w1 hn1
 obtain ⟨H1, hs, hb⟩ := hs.alloc hb hn1
 refine q0 (vi 0) (q0 (vi 0) (wpL_nil (th_n (wpE_seq (wpE_seq ?_)))))
 refine wpE_joinT (fun ρ w => ∃ x1 : Bool, ∃ H : Nat → Prop, Has ρ [(1, (vp (some cap1))), (2, (vp (some p1))), (17, (vb x1))] ∧ Hst w0 H w H w ∧ HB H w [(p1, [(vi aE), (vi aA), (vi aB), (vu aC), (vs aD)], 175)] ∧ m_recipe_cook_kitchen_1_j1 aA cap1 x1 w0 H w K) ?_ ?_
 ·clear h hs hb
  rintro ρ w ⟨x1, H, hH, hs, hb, h⟩
  unfold m_recipe_cook_kitchen_1_j1 at h
  refine wpE_has hH ?_
  clear hH
  refine wpE_cond (t := x1) (by kernel_rfl) (fun hc1 => ?_) (fun hc1 => ?_)
  ·replace h := h.1 hc1
   refine wpE_seq (rg (q0 (vi 0) (q0 (vi 90) (wpL_nil (th_n (wpE_ret (th_r (res2 (.inl rfl) Try.results170 (v := (vi 0)) (by kernel_rfl) (v' := (vi 90)) (by kernel_rfl) ?_))))))))
   exact ⟨0, 90, rfl, h⟩
  ·replace h := h.2 hc1
   refine wpE_skip (th_n (wpE_seq (wpE_drawnQ (by kernel_rfl) (by kernel_rfl) (by kernel_rfl) (by kernel_rfl) ?_)))
   intro w2 hw2
   replace hs : Hst w0 H w H w2 := by rw [hw2]; exact hs.drew
   replace hb : HB H w2 [(p1, [(vi aE), (vi aA), (vi aB), (vu aC), (vs aD)], 175)] := by rw [hw2]; exact hb.drew
   clear hw2
   refine qgo (k := 0) (by kernel_rfl) ?_
   replace h := h w2 hs
   replace hs := hs.here
   obtain ⟨v1, hv4, h⟩ := h
   refine sxQ (v := (vp v1)) Kp0 (want0 rfl) rfl (xl (Try.isAgg223 _) hv4) (qgo (k := 1) (by kernel_rfl) ?_)
   obtain ⟨a1, hp1, h⟩ := h
   refine sxQ (v := (vp (some a1))) Kp1 (want0 rfl) rfl (x_nilCheck (p := v1) (by kernel_rfl) hp1) (qq 2 (vp (some (a1.add 1))) Kp2 (qgo (k := 3) (by kernel_rfl) ?_))
   obtain ⟨v2, hv3, h⟩ := h
   refine sxQ (v := v2.v) Kp3 (want0 rfl) rfl (xl (Try.isAgg26 _) hv3) (qq 4 (vp (some (p1.add 1))) Kp4 (qr 5 (vi aA) Kp5 (xl (Try.isAgg3 _) (hb.c 0 1 gZ)) (qgo (k := 6) (by kernel_rfl) ?_)))
   obtain ⟨a2, hv2, h⟩ := h
   refine sxQ (v := (vp (some a2))) Kp6 (want0 rfl) rfl (x_indexAddr (s := v2) (k := .i64) (i := aA) (by kernel_rfl) (by kernel_rfl) (Try.runUnderlying26 _) (Try.sizeOf41 _) hv2) (qgo (k := 7) (by kernel_rfl) ?_)
   obtain ⟨v3, hv1, h⟩ := h
   refine sxQ (v := (vi v3)) Kp7 (want0 rfl) rfl (xl (Try.isAgg41 _) hv1) (qq 8 (vi v3) Kp8 (qq 9 (vi 0) Kp9 (wpX_nil (by kernel_rfl) (th_n (wpE_ret (res2 (.inl rfl) Try.results170 (v := (vi v3)) (by kernel_rfl) (v' := (vi 0)) (by kernel_rfl) ?_))))))
   exact ⟨v3, 0, rfl, h⟩
 ·skip
  refine wpE_drawnQ (by kernel_rfl) (by kernel_rfl) (by kernel_rfl) (by kernel_rfl) ?_
  intro w3 hw3
  replace hs : Hst w0 None w0 H1 w3 := by rw [hw3]; exact hs.drew
  replace hb : HB H1 w3 [(p1, [(vi aE), (vi aA), (vi aB), (vu aC), (vs aD)], 175)] := by rw [hw3]; exact hb.drew
  clear hw3
  refine qq 0 (vp (some (p1.add 1))) Kp0 (qr 1 (vi aA) Kp1 (xl (Try.isAgg3 _) (hb.c 0 1 gZ)) (qq 2 (vb (decide (aA < 0))) Kp2 (qq 3 (vb (decide (aA < 0))) Kp3 (qgo (k := 4) (by kernel_rfl) ?_))))
  rcases Bool.eq_false_or_eq_true (decide (aA < 0)) with hg1 | hg1
  ·replace h := h.1 hg1
   refine sx_not Kp4 (unwant rfl (yD 8 hg1) rfl) (qn 5 Kp5 (unwant rfl (yD 8 hg1) rfl) (qn 6 Kp6 (unwant rfl (yD 8 hg1) rfl) (qn 7 Kp7 (unwant rfl (yD 8 hg1) rfl) (qn 8 Kp8 (unwant rfl (yD 8 hg1) rfl) (qn 9 Kp9 (unwant rfl (yD 8 hg1) rfl) (qn 10 (pickA (S8 (pickS (pickS pickZ)))) (unwant rfl (yD 8 hg1) rfl) (qn 11 (pickA (S8 (pickS (pickS (pickS pickZ))))) (unwant rfl (yD 8 hg1) rfl) (qr 12 (vb true) (pickA (S8 (S4 pickZ))) (xT hg1) (wpX_nil (by kernel_rfl) ?_)))))))))
   replace h := h H1 w3 hs
   replace hs := hs.here
   refine th_n ?_
   exact ⟨true, H1, Has.mk (by kernel_rfl), hs, hb, h⟩
  ·replace h := h.2 hg1
   refine sxQ (v := (vp (some (p1.add 1)))) Kp4 (want1 rfl (yD 8 hg1)) rfl (by kernel_rfl) (qgo (k := 5) (by kernel_rfl) (sxQ (v := (vi aA)) Kp5 (want1 rfl (yD 8 hg1)) rfl (xl (Try.isAgg3 _) (hb.c 0 1 gZ)) (qgo (k := 6) (by kernel_rfl) ?_)))
   replace h := h H1 w3 hs
   replace hs := hs.here
   obtain ⟨v4, hv6, h⟩ := h
   refine sxQ (v := (vp v4)) Kp6 (want1 rfl (yD 8 hg1)) rfl (xl (Try.isAgg223 _) hv6) (qgo (k := 7) (by kernel_rfl) ?_)
   obtain ⟨a3, hp2, h⟩ := h
   refine sxQ (v := (vp (some a3))) Kp7 (want1 rfl (yD 8 hg1)) rfl (x_nilCheck (p := v4) (by kernel_rfl) hp2) (qgo (k := 8) (by kernel_rfl) (sxQ (v := (vp (some (a3.add 1)))) Kp8 (want1 rfl (yD 8 hg1)) rfl (by kernel_rfl) (qgo (k := 9) (by kernel_rfl) ?_)))
   obtain ⟨v5, hv5, h⟩ := h
   refine sxQ (v := v5.v) Kp9 (want1 rfl (yD 8 hg1)) rfl (xl (Try.isAgg26 _) hv5) (qgo (k := 10) (by kernel_rfl) (sxQ (v := (vi (v5.len : Int))) (pickA (S8 (pickS (pickS pickZ)))) (want1 rfl (yD 8 hg1)) rfl (by kernel_rfl) (qgo (k := 11) (by kernel_rfl) (sxQ (v := (vb (decide (aA ≥ (v5.len : Int))))) (pickA (S8 (pickS (pickS (pickS pickZ))))) (want1 rfl (yD 8 hg1)) rfl (by kernel_rfl) (qr 12 (vb (decide (aA ≥ (v5.len : Int)))) (pickA (S8 (S4 pickZ))) (xF hg1) (wpX_nil (by kernel_rfl) (th_n ?_)))))))
   exact ⟨(decide (aA ≥ (v5.len : Int))), H1, Has.mk (by kernel_rfl), hs, hb, h⟩
def m_recipe_cook_kitchen_2 (aE aA : Int) (aB aC : Int) (aD : ByteArray) (cap1 : Addr) (w0 : World) (K : Int → Int → World → Prop) : Prop :=
 ∀ (H1 : Nat → Prop) (w1 : World), Hst w0 None w0 H1 w1 →
 ∃ v1 : Option Addr, w1.cell? cap1 = some (vp v1) ∧
 Calls Try.prog 85 #[(vp v1), (vi aA)] w1 (fun e w2 => ∃ r1 r2 : Int, e = .returned (.tuple #[(vi r1), (vi r2)]) ∧ 
  Kept H1 w1 w2 ∧
  K r1 r2 w2)
theorem w_recipe_cook_kitchen_2 (aE aA : Int) (aB aC : Int) (aD : ByteArray) (cap1 : Addr) (w0 : World) (K : Int → Int → World → Prop) (h : m_recipe_cook_kitchen_2 aE aA aB aC aD cap1 w0 K) :
  Calls Try.prog 171 #[(.agg #[(vi aE), (vi aA), (vi aB), (vu aC), (vs aD)]), (vp (some cap1))] w0 (fun e w' => ∃ r3 r4 : Int, e = .returned (.tuple #[(vi r3), (vi r4)]) ∧ K r3 r4 w') := by
 unfold m_recipe_cook_kitchen_2 at h
 refine calls_of_wpE (args := [(.agg #[(vi aE), (vi aA), (vi aB), (vu aC), (vs aD)]), (vp (some cap1))]) Try.func171 rfl Try.ntmps171 (Nat.le_of_ble_eq_true rfl) ?_
 have hs := Hst.start w0
 have hb := HB.nil None w0
 refine wpE_seq (rg (sn (O := (.cells #[(vi aE), (vi aA), (vi aB), (vu aC), (vs aD)] 175)) xb ?_))
 intro p1 w1 hn1
 obtain ⟨H1, hs, hb⟩ := hs.alloc hb hn1
 refine q0 (vi 0) (q0 (vi 0) (wpL_nil (th_n (wpE_seq (rg ?_)))))
 replace h := h H1 w1 hs
 replace hs := hs.here
 obtain ⟨v1, hv1, h⟩ := h
 refine q2 (vp v1) (xl (Try.isAgg25 _) hv1) (q0 (vp (some (p1.add 1))) (q2 (vi aA) (xl (Try.isAgg3 _) (hb.c 0 1 gZ)) ?_))
 refine st_call (want0 rfl) (xc Try.call85) (h.mono ?_)
 rintro e w2 ⟨r1, r2, rfl, hk, h⟩
 refine ⟨_, rfl, ?_⟩
 obtain ⟨hs, hb⟩ := hk.hh hs hb
 refine q0 (vi r1) (q0 (vi r2) (q0 (vi r1) (q0 (vi r2) (wpL_nil (th_n (wpE_ret (res2 (.inl rfl) Try.results171 (v := (vi r1)) (by kernel_rfl) (v' := (vi r2)) (by kernel_rfl) ?_)))))))
 exact ⟨r1, r2, rfl, h⟩
def m_recipe_cook_kitchen_3 (aE aA : Int) (aB aC : Int) (aD : ByteArray) (cap1 : Addr) (w0 : World) (K : Int → Int → World → Prop) : Prop :=
 ∀ (H1 : Nat → Prop) (w1 : World), Hst w0 None w0 H1 w1 →
 ∃ v1 : Option Addr, w1.cell? cap1 = some (vp v1) ∧
 Calls Try.prog 84 #[(vp v1), (vu aC)] w1 (fun e w2 => ∃ r1 r2 : Int, e = .returned (.tuple #[(vi r1), (vi r2)]) ∧ 
  Kept H1 w1 w2 ∧
  K r1 r2 w2)
theorem w_recipe_cook_kitchen_3 (aE aA : Int) (aB aC : Int) (aD : ByteArray) (cap1 : Addr) (w0 : World) (K : Int → Int → World → Prop) (h : m_recipe_cook_kitchen_3 aE aA aB aC aD cap1 w0 K) :
  Calls Try.prog 172 #[(.agg #[(vi aE), (vi aA), (vi aB), (vu aC), (vs aD)]), (vp (some cap1))] w0 (fun e w' => ∃ r3 r4 : Int, e = .returned (.tuple #[(vi r3), (vi r4)]) ∧ K r3 r4 w') := by
 unfold m_recipe_cook_kitchen_3 at h
 refine calls_of_wpE (args := [(.agg #[(vi aE), (vi aA), (vi aB), (vu aC), (vs aD)]), (vp (some cap1))]) Try.func172 rfl Try.ntmps172 (Nat.le_of_ble_eq_true rfl) ?_
 have hs := Hst.start w0
 have hb := HB.nil None w0
 refine wpE_seq (rg (sn (O := (.cells #[(vi aE), (vi aA), (vi aB), (vu aC), (vs aD)] 175)) xb ?_))
 intro p1 w1 hn1
 obtain ⟨H1, hs, hb⟩ := hs.alloc hb hn1
 refine q0 (vi 0) (q0 (vi 0) (wpL_nil (th_n (wpE_seq (rg ?_)))))
 replace h := h H1 w1 hs
 replace hs := hs.here
 obtain ⟨v1, hv1, h⟩ := h
 refine q2 (vp v1) (xl (Try.isAgg25 _) hv1) (q0 (vp (some (p1.add 3))) (q2 (vu aC) (xl (Try.isAgg38 _) (hb.c 0 3 gZ)) ?_))
 refine st_call (want0 rfl) (xc Try.call84) (h.mono ?_)
 rintro e w2 ⟨r1, r2, rfl, hk, h⟩
 refine ⟨_, rfl, ?_⟩
 obtain ⟨hs, hb⟩ := hk.hh hs hb
 refine q0 (vi r1) (q0 (vi r2) (q0 (vi r1) (q0 (vi r2) (wpL_nil (th_n (wpE_ret (res2 (.inl rfl) Try.results172 (v := (vi r1)) (by kernel_rfl) (v' := (vi r2)) (by kernel_rfl) ?_)))))))
 exact ⟨r1, r2, rfl, h⟩
def m_recipe_cook_kitchen_4 (aE aA : Int) (aB aC : Int) (aD : ByteArray) (cap1 : Addr) (w0 : World) (K : Int → Int → World → Prop) : Prop :=
 ∀ (H1 : Nat → Prop) (w1 : World), Hst w0 None w0 H1 w1 →
 ∃ v1 : Option Addr, w1.cell? cap1 = some (vp v1) ∧
 Calls Try.prog 174 #[(vp v1), (vs aD)] w1 (fun e w2 => ∃ r1 r2 : Int, e = .returned (.tuple #[(vi r1), (vi r2)]) ∧ 
  Kept H1 w1 w2 ∧
  K r1 r2 w2)
theorem w_recipe_cook_kitchen_4 (aE aA : Int) (aB aC : Int) (aD : ByteArray) (cap1 : Addr) (w0 : World) (K : Int → Int → World → Prop) (h : m_recipe_cook_kitchen_4 aE aA aB aC aD cap1 w0 K) :
  Calls Try.prog 173 #[(.agg #[(vi aE), (vi aA), (vi aB), (vu aC), (vs aD)]), (vp (some cap1))] w0 (fun e w' => ∃ r3 r4 : Int, e = .returned (.tuple #[(vi r3), (vi r4)]) ∧ K r3 r4 w') := by
 unfold m_recipe_cook_kitchen_4 at h
 refine calls_of_wpE (args := [(.agg #[(vi aE), (vi aA), (vi aB), (vu aC), (vs aD)]), (vp (some cap1))]) Try.func173 rfl Try.ntmps173 (Nat.le_of_ble_eq_true rfl) ?_
 have hs := Hst.start w0
 have hb := HB.nil None w0
 refine wpE_seq (rg (sn (O := (.cells #[(vi aE), (vi aA), (vi aB), (vu aC), (vs aD)] 175)) xb ?_))
 intro p1 w1 hn1
 obtain ⟨H1, hs, hb⟩ := hs.alloc hb hn1
 refine q0 (vi 0) (q0 (vi 0) (wpL_nil (th_n (wpE_seq (rg ?_)))))
 replace h := h H1 w1 hs
 replace hs := hs.here
 obtain ⟨v1, hv1, h⟩ := h
 refine q2 (vp v1) (xl (Try.isAgg25 _) hv1) (q0 (vp (some (p1.add 4))) (q2 (vs aD) (xl (Try.isAgg9 _) (hb.c 0 4 gZ)) ?_))
 refine st_call (want0 rfl) (xc Try.call174) (h.mono ?_)
 rintro e w2 ⟨r1, r2, rfl, hk, h⟩
 refine ⟨_, rfl, ?_⟩
 obtain ⟨hs, hb⟩ := hk.hh hs hb
 refine q0 (vi r1) (q0 (vi r2) (q0 (vi r1) (q0 (vi r2) (wpL_nil (th_n (wpE_ret (res2 (.inl rfl) Try.results173 (v := (vi r1)) (by kernel_rfl) (v' := (vi r2)) (by kernel_rfl) ?_)))))))
 exact ⟨r1, r2, rfl, h⟩
def m_recipe_cook_at (c1 : Option Addr) (i1 : Int) (w0 : World) (K : Int → Bool → World → Prop) : Prop :=
 Br (decide (i1 < 0))
  (K 0 false w0)
  (∃ a1 : Addr, c1 = some a1 ∧
  ∃ v1 : Sl, w0.cell? (a1.add 2) = some v1.v ∧
  Br (decide (i1 ≥ (v1.len : Int)))
   (K 0 false w0)
   (∃ a2 : Addr, c1 = some a2 ∧
   ∃ v2 : Sl, w0.cell? (a2.add 2) = some v2.v ∧
   ∃ a3 : Addr, At v2 i1 1 a3 ∧
   ∃ v3 : Int, w0.cell? a3 = some (vi v3) ∧
   K v3 true w0))
theorem w_recipe_cook_at (c1 : Option Addr) (i1 : Int) (w0 : World) (K : Int → Bool → World → Prop) (h : m_recipe_cook_at c1 i1 w0 K) :
  Calls Try.prog 176 #[(vp c1), (vi i1)] w0 (fun e w' => ∃ r1 : Int, ∃ r2 : Bool, e = .returned (.tuple #[(vi r1), (vb r2)]) ∧ K r1 r2 w') := by
 unfold m_recipe_cook_at at h
 refine calls_of_wpE (args := [(vp c1), (vi i1)]) Try.func176 rfl Try.ntmps176 (Nat.le_of_ble_eq_true rfl) (wpE_seq (rg (q0 (vi 0) (q0 (vb false) (wpL_nil (th_n (wpE_seq (wpE_seq (rg (q0 (vi i1) (q0 (vb (decide (i1 < 0))) ?_)))))))))))
 refine q0 (vb (decide (i1 < 0))) ?_
 rcases Bool.eq_false_or_eq_true (decide (i1 < 0)) with hg1 | hg1
 ·replace h := h.1 hg1
  refine sk (yD 8 hg1) (sk (yD 8 hg1) (sk (yD 8 hg1) (sk (yD 8 hg1) (sk (yD 8 hg1) (sk (yD 8 hg1) (sk (yD 8 hg1) (q2 (vb true) (xT hg1) (wpL_nil (th_n (wpE_condT (by kernel_rfl) (wpE_seq ?_)))))))))))
  refine rg (q0 (vi 0) (q0 (vb false) (wpL_nil (th_n (wpE_ret (th_r (res2 (.inl rfl) Try.results176 (v := (vi 0)) (by kernel_rfl) (v' := (vb false)) (by kernel_rfl) ?_)))))))
  exact ⟨0, false, rfl, h⟩
 ·replace h := h.2 hg1
  refine q1 (vi i1) (want1 rfl (yD 8 hg1)) (q1 (vp c1) (want1 rfl (yD 8 hg1)) ?_)
  obtain ⟨a1, hp1, h⟩ := h
  refine stp (v := (vp (some a1))) (want1 rfl (yD 8 hg1)) (x_nilCheck (p := c1) (by kernel_rfl) hp1) (q1 (vp (some (a1.add 2))) (want1 rfl (yD 8 hg1)) ?_)
  obtain ⟨v1, hv4, h⟩ := h
  refine stp (v := v1.v) (want1 rfl (yD 8 hg1)) (xl (Try.isAgg26 _) hv4) (q1 (vi (v1.len : Int)) (want1 rfl (yD 8 hg1)) (q1 (vb (decide (i1 ≥ (v1.len : Int)))) (want1 rfl (yD 8 hg1)) (q2 (vb (decide (i1 ≥ (v1.len : Int)))) (xF hg1) (wpL_nil (th_n ?_)))))
  refine wpE_cond (t := (decide (i1 ≥ (v1.len : Int)))) (by kernel_rfl) (fun hc1 => ?_) (fun hc1 => ?_)
  ·replace h := h.1 hc1
   refine wpE_seq (rg (q0 (vi 0) (q0 (vb false) (wpL_nil (th_n (wpE_ret (th_r (res2 (.inl rfl) Try.results176 (v := (vi 0)) (by kernel_rfl) (v' := (vb false)) (by kernel_rfl) ?_))))))))
   exact ⟨0, false, rfl, h⟩
  ·replace h := h.2 hc1
   refine wpE_skip (th_n (wpE_seq (rg (q0 (vp c1) ?_))))
   obtain ⟨a2, hp2, h⟩ := h
   refine q2 (vp (some a2)) (x_nilCheck (p := c1) (by kernel_rfl) hp2) (q0 (vp (some (a2.add 2))) ?_)
   obtain ⟨v2, hv3, h⟩ := h
   refine q2 v2.v (xl (Try.isAgg26 _) hv3) (q0 (vi i1) ?_)
   obtain ⟨a3, hv2, h⟩ := h
   refine q2 (vp (some a3)) (x_indexAddr (s := v2) (k := .i64) (i := i1) (by kernel_rfl) (by kernel_rfl) (Try.runUnderlying26 _) (Try.sizeOf41 _) hv2) ?_
   obtain ⟨v3, hv1, h⟩ := h
   refine q2 (vi v3) (xl (Try.isAgg41 _) hv1) (q0 (vi v3) (q0 (vb true) (wpL_nil (th_n (wpE_ret (res2 (.inl rfl) Try.results176 (v := (vi v3)) (by kernel_rfl) (v' := (vb true)) (by kernel_rfl) ?_))))))
   exact ⟨v3, true, rfl, h⟩
def m_recipe_cook_kitchen_5 (aE aA : Int) (aB aC : Int) (aD : ByteArray) (cap1 cap2 : Addr) (w0 : World) (K : Int → Int → World → Prop) : Prop :=
 ∀ (H1 : Nat → Prop) (w1 : World), Hst w0 None w0 H1 w1 →
 ∃ v1 : Option Addr, w1.cell? cap1 = some (vp v1) ∧
 Calls Try.prog 176 #[(vp v1), (vi aA)] w1 (fun e w2 => ∃ r1 : Int, ∃ r2 : Bool, e = .returned (.tuple #[(vi r1), (vb r2)]) ∧ 
  Kept H1 w1 w2 ∧
  ∃ v2 : Option Addr, w2.cell? cap1 = some (vp v2) ∧
  Calls Try.prog 176 #[(vp v2), (vi aB)] w2 (fun e w3 => ∃ r3 : Int, ∃ r4 : Bool, e = .returned (.tuple #[(vi r3), (vb r4)]) ∧ 
   Kept H1 w2 w3 ∧
   Br ((!r2) || (!r4))
    (∀ (H2 : Nat → Prop) (w4 : World), Hst w0 H1 w3 H2 w4 →
    K 0 90 w4)
    (∀ (H2 : Nat → Prop) (w4 : World), Hst w0 H1 w3 H2 w4 →
    ∃ v3 : Option Addr, w4.cell? cap2 = some (vp v3) ∧
    Calls Try.prog 86 #[(vp v3), (vi r1), (vi r3)] w4 (fun e w5 => ∃ r5 r6 : Int, e = .returned (.tuple #[(vi r5), (vi r6)]) ∧ 
     Kept H2 w4 w5 ∧
     K r5 r6 w5))))
theorem w_recipe_cook_kitchen_5 (aE aA : Int) (aB aC : Int) (aD : ByteArray) (cap1 cap2 : Addr) (w0 : World) (K : Int → Int → World → Prop) (h : m_recipe_cook_kitchen_5 aE aA aB aC aD cap1 cap2 w0 K) :
  Calls Try.prog 175 #[(.agg #[(vi aE), (vi aA), (vi aB), (vu aC), (vs aD)]), (vp (some cap1)), (vp (some cap2))] w0 (fun e w' => ∃ r7 r8 : Int, e = .returned (.tuple #[(vi r7), (vi r8)]) ∧ K r7 r8 w') := by
 unfold m_recipe_cook_kitchen_5 at h
 refine calls_of_wpE (args := [(.agg #[(vi aE), (vi aA), (vi aB), (vu aC), (vs aD)]), (vp (some cap1)), (vp (some cap2))]) Try.func175 rfl Try.ntmps175 (Nat.le_of_ble_eq_true rfl) ?_
 have hs := Hst.start w0
 have hb := HB.nil None w0
 refine wpE_seq (rg (sn (O := (.cells #[(vi aE), (vi aA), (vi aB), (vu aC), (vs aD)] 175)) xb ?_))
 intro p1 w1 hn1
 obtain ⟨H1, hs, hb⟩ := hs.alloc hb hn1
 refine q0 (vi 0) (q0 (vi 0) (wpL_nil (th_n (wpE_seq (rg ?_)))))
 replace h := h H1 w1 hs
 replace hs := hs.here
 obtain ⟨v1, hv3, h⟩ := h
 refine q2 (vp v1) (xl (Try.isAgg223 _) hv3) (q0 (vp (some (p1.add 1))) (q2 (vi aA) (xl (Try.isAgg3 _) (hb.c 0 1 gZ)) ?_))
 refine st_call (want0 rfl) (xc Try.call176) (h.mono ?_)
 rintro e w2 ⟨r1, r2, rfl, hk, h⟩
 refine ⟨_, rfl, ?_⟩
 obtain ⟨hs, hb⟩ := hk.hh hs hb
 refine q0 (.tuple #[(vi r1), (vb r2)]) (q0 (vi r1) (q0 (vb r2) (q0 (vi r1) (q0 (vb r2) (wpL_nil (th_n (wpE_seq (rg ?_))))))))
 obtain ⟨v2, hv2, h⟩ := h
 refine q2 (vp v2) (xl (Try.isAgg223 _) hv2) (q0 (vp (some (p1.add 2))) (q2 (vi aB) (xl (Try.isAgg3 _) (hb.c 0 2 gZ)) ?_))
 refine st_call (want0 rfl) (xc Try.call176) (h.mono ?_)
 rintro e w3 ⟨r3, r4, rfl, hk, h⟩
 refine ⟨_, rfl, ?_⟩
 obtain ⟨hs, hb⟩ := hk.hh hs hb
 refine q0 (.tuple #[(vi r3), (vb r4)]) (q0 (vi r3) (q0 (vb r4) (q0 (vi r3) (q0 (vb r4) (wpL_nil (th_n (wpE_seq (wpE_seq ?_))))))))
 refine wpE_via (fun ρ wJ => ∃ b1'0 : Bool, ∃ HJ : Nat → Prop, ((!r2) = b1'0) ∧ Hst w0 H1 w3 HJ wJ ∧ HB HJ wJ [(p1, [(vi aE), (vi aA), (vi aB), (vu aC), (vs aD)], 175)] ∧ Has ρ [(2, (vp (some cap2))), (6, (vi r1)), (8, (vi r3)), (29, (vb (b1'0 || (!r4))))]) ?_ ?_
 ·skip
  refine rg (q0 (vb r2) (q0 (vb (!r2)) (q0 (vb (!r2)) ?_)))
  rcases Bool.eq_false_or_eq_true (!r2) with hg2 | hg2
  ·skip
   refine sk (yD 26 hg2) (sk (yD 26 hg2) (q2 (vb true) (xT hg2) (wpL_nil (th_n ?_))))
   exact ⟨true, _, hg2, hs, hb, Has.mk (by kernel_rfl)⟩
  ·skip
   refine q1 (vb r4) (want1 rfl (yD 26 hg2)) (q1 (vb (!r4)) (want1 rfl (yD 26 hg2)) (q2 (vb (!r4)) (xF hg2) (wpL_nil (th_n ?_))))
   exact ⟨false, _, hg2, hs, hb, Has.mk (by kernel_rfl)⟩
 ·clear hs hb
  rintro ρ w4 ⟨b1'0, H2, he0, hs, hb, hH⟩
  subst he0
  refine norm_has hH ?_
  clear hH
  refine th_n ?_
  refine wpE_cond (t := ((!r2) || (!r4))) (by kernel_rfl) (fun hc1 => ?_) (fun hc1 => ?_)
  ·replace h := h.1 hc1
   refine wpE_seq (rg (q0 (vi 0) (q0 (vi 90) (wpL_nil (th_n (wpE_ret (th_r ?_)))))))
   replace h := h H2 w4 hs
   replace hs := hs.here
   refine res2 (.inl rfl) Try.results175 (v := (vi 0)) (by kernel_rfl) (v' := (vi 90)) (by kernel_rfl) ?_
   exact ⟨0, 90, rfl, h⟩
  ·replace h := h.2 hc1
   refine wpE_skip (th_n (wpE_seq (rg ?_)))
   replace h := h H2 w4 hs
   replace hs := hs.here
   obtain ⟨v3, hv1, h⟩ := h
   refine q2 (vp v3) (xl (Try.isAgg25 _) hv1) (q0 (vi r1) (q0 (vi r3) ?_))
   refine st_call (want0 rfl) (xc Try.call86) (h.mono ?_)
   rintro e w5 ⟨r5, r6, rfl, hk, h⟩
   refine ⟨_, rfl, ?_⟩
   obtain ⟨hs, hb⟩ := hk.hh hs hb
   refine q0 (vi r5) (q0 (vi r6) (q0 (vi r5) (q0 (vi r6) (wpL_nil (th_n (wpE_ret (res2 (.inl rfl) Try.results175 (v := (vi r5)) (by kernel_rfl) (v' := (vi r6)) (by kernel_rfl) ?_)))))))
   exact ⟨r5, r6, rfl, h⟩
def m_recipe_cook_kitchen_6 (aE aA : Int) (aB aC : Int) (aD : ByteArray) (cap1 cap2 : Addr) (w0 : World) (K : Int → Int → World → Prop) : Prop :=
 ∀ (H1 : Nat → Prop) (w1 : World), Hst w0 None w0 H1 w1 →
 ∃ v1 : Option Addr, w1.cell? cap1 = some (vp v1) ∧
 Calls Try.prog 176 #[(vp v1), (vi aA)] w1 (fun e w2 => ∃ r1 : Int, ∃ r2 : Bool, e = .returned (.tuple #[(vi r1), (vb r2)]) ∧ 
  Kept H1 w1 w2 ∧
  Br (!r2)
   (K 0 90 w2)
   (∃ v2 : Option Addr, w2.cell? cap2 = some (vp v2) ∧
   Calls Try.prog 88 #[(vp v2), (vi r1)] w2 (fun e w3 => ∃ r3 r4 : Int, e = .returned (.tuple #[(vi r3), (vi r4)]) ∧ 
    Kept H1 w2 w3 ∧
    K r3 r4 w3)))
theorem w_recipe_cook_kitchen_6 (aE aA : Int) (aB aC : Int) (aD : ByteArray) (cap1 cap2 : Addr) (w0 : World) (K : Int → Int → World → Prop) (h : m_recipe_cook_kitchen_6 aE aA aB aC aD cap1 cap2 w0 K) :
  Calls Try.prog 177 #[(.agg #[(vi aE), (vi aA), (vi aB), (vu aC), (vs aD)]), (vp (some cap1)), (vp (some cap2))] w0 (fun e w' => ∃ r5 r6 : Int, e = .returned (.tuple #[(vi r5), (vi r6)]) ∧ K r5 r6 w') := by
 unfold m_recipe_cook_kitchen_6 at h
 refine calls_of_wpE (args := [(.agg #[(vi aE), (vi aA), (vi aB), (vu aC), (vs aD)]), (vp (some cap1)), (vp (some cap2))]) Try.func177 rfl Try.ntmps177 (Nat.le_of_ble_eq_true rfl) ?_
 have hs := Hst.start w0
 have hb := HB.nil None w0
 refine wpE_seq (rg (sn (O := (.cells #[(vi aE), (vi aA), (vi aB), (vu aC), (vs aD)] 175)) xb ?_))
 intro p1 w1 hn1
 obtain ⟨H1, hs, hb⟩ := hs.alloc hb hn1
 refine q0 (vi 0) (q0 (vi 0) (wpL_nil (th_n (wpE_seq (rg ?_)))))
 replace h := h H1 w1 hs
 replace hs := hs.here
 obtain ⟨v1, hv2, h⟩ := h
 refine q2 (vp v1) (xl (Try.isAgg223 _) hv2) (q0 (vp (some (p1.add 1))) (q2 (vi aA) (xl (Try.isAgg3 _) (hb.c 0 1 gZ)) ?_))
 refine st_call (want0 rfl) (xc Try.call176) (h.mono ?_)
 rintro e w2 ⟨r1, r2, rfl, hk, h⟩
 refine ⟨_, rfl, ?_⟩
 obtain ⟨hs, hb⟩ := hk.hh hs hb
 refine q0 (.tuple #[(vi r1), (vb r2)]) (q0 (vi r1) (q0 (vb r2) (q0 (vi r1) (q0 (vb r2) (wpL_nil (th_n (wpE_seq (wpE_seq (rg (q0 (vb r2) (q0 (vb (!r2)) ?_)))))))))))
 refine wpL_nil (th_n ?_)
 refine wpE_cond (t := (!r2)) (by kernel_rfl) (fun hc1 => ?_) (fun hc1 => ?_)
 ·replace h := h.1 hc1
  refine wpE_seq (rg (q0 (vi 0) (q0 (vi 90) (wpL_nil (th_n (wpE_ret (th_r (res2 (.inl rfl) Try.results177 (v := (vi 0)) (by kernel_rfl) (v' := (vi 90)) (by kernel_rfl) ?_))))))))
  exact ⟨0, 90, rfl, h⟩
 ·replace h := h.2 hc1
  refine wpE_skip (th_n (wpE_seq (rg ?_)))
  obtain ⟨v2, hv1, h⟩ := h
  refine q2 (vp v2) (xl (Try.isAgg25 _) hv1) (q0 (vi r1) ?_)
  refine st_call (want0 rfl) (xc Try.call88) (h.mono ?_)
  rintro e w3 ⟨r3, r4, rfl, hk, h⟩
  refine ⟨_, rfl, ?_⟩
  obtain ⟨hs, hb⟩ := hk.hh hs hb
  refine q0 (vi r3) (q0 (vi r4) (q0 (vi r3) (q0 (vi r4) (wpL_nil (th_n (wpE_ret (res2 (.inl rfl) Try.results177 (v := (vi r3)) (by kernel_rfl) (v' := (vi r4)) (by kernel_rfl) ?_)))))))
  exact ⟨r3, r4, rfl, h⟩
def m_recipe_cook_node (c1 : Option Addr) (i1 : Int) (w0 : World) (K : Int → Int → Int → Int → ByteArray → Int → Int → Bool → World → Prop) : Prop :=
 ∀ (H1 : Nat → Prop) (w1 : World), Hst w0 None w0 H1 w1 →
 Calls Try.prog 176 #[(vp c1), (vi i1)] w1 (fun e w2 => ∃ r1 : Int, ∃ r2 : Bool, e = .returned (.tuple #[(vi r1), (vb r2)]) ∧ 
  Kept H1 w1 w2 ∧
  Br (!r2)
   (∀ (w3 : World), Hst w0 H1 w2 H1 w3 →
   K 0 0 0 0 ⟨#[]⟩ 0 0 false w3)
   (∃ a1 : Addr, c1 = some a1 ∧
   ∃ v1 : Option Addr, w2.cell? a1 = some (vp v1) ∧
   Calls Try.prog 91 #[(vp v1), (vi r1)] w2 (fun e w4 => ∃ aF aI : Int, ∃ aJ aK : Int, ∃ aL : ByteArray, ∃ aG aH : Int, ∃ r3 : Bool, e = .returned (.tuple #[(.agg #[(vi aF), (vi aI), (vi aJ), (vu aK), (vs aL), (vi aG), (vi aH)]), (vb r3)]) ∧ 
    Kept H1 w2 w4 ∧
    ∀ (w5 : World), Hst w0 H1 w4 H1 w5 →
    K aF aI aJ aK aL aG aH r3 w5)))
theorem w_recipe_cook_node (c1 : Option Addr) (i1 : Int) (w0 : World) (K : Int → Int → Int → Int → ByteArray → Int → Int → Bool → World → Prop) (h : m_recipe_cook_node c1 i1 w0 K) :
  Calls Try.prog 221 #[(vp c1), (vi i1)] w0 (fun e w' => ∃ aR aS : Int, ∃ aT aU : Int, ∃ aV : ByteArray, ∃ aW aX : Int, ∃ r4 : Bool, e = .returned (.tuple #[(.agg #[(vi aR), (vi aS), (vi aT), (vu aU), (vs aV), (vi aW), (vi aX)]), (vb r4)]) ∧ K aR aS aT aU aV aW aX r4 w') := by
 unfold m_recipe_cook_node at h
 refine calls_of_wpE (args := [(vp c1), (vi i1)]) Try.func221 rfl Try.ntmps221 (Nat.le_of_ble_eq_true rfl) ?_
 have hs := Hst.start w0
 have hb := HB.nil None w0
 refine wpE_seq (rg (sn (O := (.cells #[(vi 0), (vi 0), (vi 0), (vu 0), (vs ⟨#[]⟩), (vi 0), (vi 0)] 93)) (x_alloc (Try.zeroValue93 _) rfl) ?_))
 intro p1 w1 hn1
 obtain ⟨H1, hs, hb⟩ := hs.alloc hb hn1
 refine q0 (vb false) (wpL_nil (th_n (wpE_seq (rg (q0 (vp c1) (q0 (vi i1) ?_))))))
 replace h := h H1 w1 hs
 replace hs := hs.here
 refine st_call (want0 rfl) (xc Try.call176) (h.mono ?_)
 rintro e w2 ⟨r1, r2, rfl, hk, h⟩
 refine ⟨_, rfl, ?_⟩
 obtain ⟨hs, hb⟩ := hk.hh hs hb
 refine q0 (.tuple #[(vi r1), (vb r2)]) (q0 (vi r1) (q0 (vb r2) (q0 (vi r1) (q0 (vb r2) (wpL_nil (th_n (wpE_seq (wpE_seq (rg (q0 (vb r2) (q0 (vb (!r2)) ?_)))))))))))
 refine wpL_nil (th_n ?_)
 refine wpE_cond (t := (!r2)) (by kernel_rfl) (fun hc1 => ?_) (fun hc1 => ?_)
 ·replace h := h.1 hc1
  refine wpE_seq (rg (q0 (.agg #[(vi 0), (vi 0), (vi 0), (vu 0), (vs ⟨#[]⟩), (vi 0), (vi 0)]) (st_set (want0 rfl) (x_storeA (a := p1) (vs := [(vi 0), (vi 0), (vi 0), (vu 0), (vs ⟨#[]⟩), (vi 0), (vi 0)]) (by kernel_rfl) (by kernel_rfl) rfl (Try.sizeOf93 _) rfl (hb.canWs0 0 7 gZ (by kernel_rfl))) ?_)))
  intro w3 hn2
  have hsb : Hst w0 H1 w2 H1 w3 ∧ HB H1 w3 [(p1, [(vi 0), (vi 0), (vi 0), (vu 0), (vs ⟨#[]⟩), (vi 0), (vi 0)], 93)] := by
   rw [hn2]
   exact hb.store0 (i := 0) (vs := [(vi 0), (vi 0), (vi 0), (vu 0), (vs ⟨#[]⟩), (vi 0), (vi 0)]) hs gZ (by kernel_rfl) (by kernel_rfl)
  clear hs hb hn2
  obtain ⟨hs, hb⟩ := hsb
  refine q0 (vb false) (wpL_nil (th_n (wpE_ret (th_r ?_))))
  replace h := h w3 hs
  replace hs := hs.here
  refine resG (.inl rfl) (vs := [(.agg #[(vi 0), (vi 0), (vi 0), (vu 0), (vs ⟨#[]⟩), (vi 0), (vi 0)]), (vb false)]) (v := (.tuple #[(.agg #[(vi 0), (vi 0), (vi 0), (vu 0), (vs ⟨#[]⟩), (vi 0), (vi 0)]), (vb false)])) Try.results221 ⟨(RV.cellA (by kernel_rfl) (Try.isAgg93 _) (Try.sizeOf93 _) rfl (hb.row0 0 7 gZ (by kernel_rfl))), (rvT (by kernel_rfl)), trivial⟩ (by kernel_rfl) ?_
  exact ⟨0, 0, 0, 0, ⟨#[]⟩, 0, 0, false, rfl, h⟩
 ·replace h := h.2 hc1
  refine wpE_skip (th_n (wpE_seq (rg (q0 (vp c1) ?_))))
  obtain ⟨a1, hp1, h⟩ := h
  refine q2 (vp (some a1)) (x_nilCheck (p := c1) (by kernel_rfl) hp1) (q0 (vp (some a1)) ?_)
  obtain ⟨v1, hv1, h⟩ := h
  refine q2 (vp v1) (xl (Try.isAgg25 _) hv1) (q0 (vi r1) ?_)
  refine st_call (want0 rfl) (xc Try.call91) (h.mono ?_)
  rintro e w4 ⟨aF, aI, aJ, aK, aL, aG, aH, r3, rfl, hk, h⟩
  refine ⟨_, rfl, ?_⟩
  obtain ⟨hs, hb⟩ := hk.hh hs hb
  refine q0 (.agg #[(vi aF), (vi aI), (vi aJ), (vu aK), (vs aL), (vi aG), (vi aH)]) (q0 (vb r3) (st_set (want0 rfl) (x_storeA (a := p1) (vs := [(vi aF), (vi aI), (vi aJ), (vu aK), (vs aL), (vi aG), (vi aH)]) (by kernel_rfl) (by kernel_rfl) rfl (Try.sizeOf93 _) rfl (hb.canWs0 0 7 gZ (by kernel_rfl))) ?_))
  intro w5 hn3
  have hsb : Hst w0 H1 w4 H1 w5 ∧ HB H1 w5 [(p1, [(vi aF), (vi aI), (vi aJ), (vu aK), (vs aL), (vi aG), (vi aH)], 93)] := by
   rw [hn3]
   exact hb.store0 (i := 0) (vs := [(vi aF), (vi aI), (vi aJ), (vu aK), (vs aL), (vi aG), (vi aH)]) hs gZ (by kernel_rfl) (by kernel_rfl)
  clear hs hb hn3
  obtain ⟨hs, hb⟩ := hsb
  refine q0 (vb r3) (wpL_nil (th_n (wpE_ret ?_)))
  replace h := h w5 hs
  replace hs := hs.here
  refine resG (.inl rfl) (vs := [(.agg #[(vi aF), (vi aI), (vi aJ), (vu aK), (vs aL), (vi aG), (vi aH)]), (vb r3)]) (v := (.tuple #[(.agg #[(vi aF), (vi aI), (vi aJ), (vu aK), (vs aL), (vi aG), (vi aH)]), (vb r3)])) Try.results221 ⟨(RV.cellA (by kernel_rfl) (Try.isAgg93 _) (Try.sizeOf93 _) rfl (hb.row0 0 7 gZ (by kernel_rfl))), (rvT (by kernel_rfl)), trivial⟩ (by kernel_rfl) ?_
  exact ⟨aF, aI, aJ, aK, aL, aG, aH, r3, rfl, h⟩
def m_recipe_cook_part (c1 : Option Addr) (aE aA : Int) (aB aC : Int) (aD : ByteArray) (second1 : Bool) (w0 : World) (K : Int → Int → World → Prop) : Prop :=
 ∀ (H1 : Nat → Prop) (w1 : World), Hst w0 None w0 H1 w1 →
 Calls Try.prog 221 #[(vp c1), (vi aA)] w1 (fun e w2 => ∃ aF aI : Int, ∃ aJ aK : Int, ∃ aL : ByteArray, ∃ aG aH : Int, ∃ r1 : Bool, e = .returned (.tuple #[(.agg #[(vi aF), (vi aI), (vi aJ), (vu aK), (vs aL), (vi aG), (vi aH)]), (vb r1)]) ∧ 
  Kept H1 w1 w2 ∧
  Br ((!r1) || (aF != 4))
   (∀ (H4 : Nat → Prop) (w6 : World), Hst w0 H1 w2 H4 w6 →
   K 0 90 w6)
   (Br second1
    (∀ (H4 : Nat → Prop) (w6 : World), Hst w0 H1 w2 H4 w6 →
    K aH 0 w6)
    (∀ (H4 : Nat → Prop) (w6 : World), Hst w0 H1 w2 H4 w6 →
    K aG 0 w6)))
theorem w_recipe_cook_part (c1 : Option Addr) (aE aA : Int) (aB aC : Int) (aD : ByteArray) (second1 : Bool) (w0 : World) (K : Int → Int → World → Prop) (h : m_recipe_cook_part c1 aE aA aB aC aD second1 w0 K) :
  Calls Try.prog 179 #[(vp c1), (.agg #[(vi aE), (vi aA), (vi aB), (vu aC), (vs aD)]), (vb second1)] w0 (fun e w' => ∃ r2 r3 : Int, e = .returned (.tuple #[(vi r2), (vi r3)]) ∧ K r2 r3 w') := by
 unfold m_recipe_cook_part at h
 refine calls_of_wpE (args := [(vp c1), (.agg #[(vi aE), (vi aA), (vi aB), (vu aC), (vs aD)]), (vb second1)]) Try.func179 rfl Try.ntmps179 (Nat.le_of_ble_eq_true rfl) ?_
 have hs := Hst.start w0
 have hb := HB.nil None w0
 refine wpE_seq (rg (sn (O := (.cells #[(vi aE), (vi aA), (vi aB), (vu aC), (vs aD)] 175)) xb ?_))
 intro p1 w1 hn1
 obtain ⟨H1, hs, hb⟩ := hs.alloc hb hn1
 refine q0 (vi 0) (q0 (vi 0) (wpL_nil (th_n (wpE_seq (rg (q0 (vp c1) (q0 (vp (some (p1.add 1))) (q2 (vi aA) (xl (Try.isAgg3 _) (hb.c 0 1 gZ)) ?_))))))))
 replace h := h H1 w1 hs
 replace hs := hs.here
 refine st_call (want0 rfl) (xc Try.call221) (h.mono ?_)
 rintro e w2 ⟨aF, aI, aJ, aK, aL, aG, aH, r1, rfl, hk, h⟩
 refine ⟨_, rfl, ?_⟩
 obtain ⟨hs, hb⟩ := hk.hh hs hb
 refine q0 (.tuple #[(.agg #[(vi aF), (vi aI), (vi aJ), (vu aK), (vs aL), (vi aG), (vi aH)]), (vb r1)]) (q0 (.agg #[(vi aF), (vi aI), (vi aJ), (vu aK), (vs aL), (vi aG), (vi aH)]) (q0 (vb r1) (sn (O := (.cells #[(vi 0), (vi 0), (vi 0), (vu 0), (vs ⟨#[]⟩), (vi 0), (vi 0)] 93)) (x_alloc (Try.zeroValue93 _) rfl) ?_)))
 intro p2 w3 hn2
 obtain ⟨H2, hs, hb⟩ := hs.alloc hb hn2
 refine st_set (want0 rfl) (x_storeA (a := p2) (vs := [(vi aF), (vi aI), (vi aJ), (vu aK), (vs aL), (vi aG), (vi aH)]) (by kernel_rfl) (by kernel_rfl) rfl (Try.sizeOf93 _) rfl (hb.canWs0 0 7 gZ (by kernel_rfl))) ?_
 intro w4 hn3
 have hsb : Hst w0 H1 w2 H2 w4 ∧ HB H2 w4 [(p2, [(vi aF), (vi aI), (vi aJ), (vu aK), (vs aL), (vi aG), (vi aH)], 93), (p1, [(vi aE), (vi aA), (vi aB), (vu aC), (vs aD)], 175)] := by
  rw [hn3]
  exact hb.store0 (i := 0) (vs := [(vi aF), (vi aI), (vi aJ), (vu aK), (vs aL), (vi aG), (vi aH)]) hs gZ (by kernel_rfl) (by kernel_rfl)
 clear hs hb hn3
 obtain ⟨hs, hb⟩ := hsb
 refine q0 (vb r1) (wpL_nil (th_n (wpE_seq (wpE_block (wpE_seq ?_)))))
 refine wpE_via (fun ρ wJ => ∃ HJ : Nat → Prop, Hst w0 H1 w2 HJ wJ ∧ HB HJ wJ [(p2, [(vi aF), (vi aI), (vi aJ), (vu aK), (vs aL), (vi aG), (vi aH)], 93), (p1, [(vi aE), (vi aA), (vi aB), (vu aC), (vs aD)], 175)] ∧ Has ρ [(2, (vb second1)), (8, (vp (some p2))), (17, (vb ((!r1) || (aF != 4))))]) ?_ ?_
 ·skip
  refine rg (q0 (vb r1) (q0 (vb (!r1)) (q0 (vb (!r1)) ?_)))
  refine wpL_join 4 (fun ρ wJ => ∃ b3'0 : Bool, ∃ HJ : Nat → Prop, ((!r1) = b3'0) ∧ Hst w0 H1 w2 HJ wJ ∧ HB HJ wJ [(p2, [(vi aF), (vi aI), (vi aJ), (vu aK), (vs aL), (vi aG), (vi aH)], 93), (p1, [(vi aE), (vi aA), (vi aB), (vu aC), (vs aD)], 175)] ∧ Has ρ [(2, (vb second1)), (8, (vp (some p2))), (24, (vb (b3'0 || (aF != 4))))]) ?_ ?_
  ·clear hs hb
   rintro ρ w7 ⟨b3'0, H5, he0, hs, hb, hH⟩
   subst he0
   refine wpL_has hH ?_
   clear hH
   refine q0 (vb ((!r1) || (aF != 4))) (wpL_nil (th_n ?_))
   exact ⟨_, hs, hb, Has.mk (by kernel_rfl)⟩
  ·skip
   rcases Bool.eq_false_or_eq_true (!r1) with hg4 | hg4
   ·skip
    refine sk (yD 20 hg4) (sk (yD 20 hg4) (sk (yD 20 hg4) (q2 (vb true) (xT hg4) (wpL_nil ?_))))
    exact ⟨true, _, hg4, hs, hb, Has.mk (by kernel_rfl)⟩
   ·skip
    refine q1 (vp (some p2)) (want1 rfl (yD 20 hg4)) (stp (v := (vi aF)) (want1 rfl (yD 20 hg4)) (xl (Try.isAgg3 _) (hb.c0 0 gZ)) (q1 (vb (aF != 4)) (want1 rfl (yD 20 hg4)) (q2 (vb (aF != 4)) (xF hg4) (wpL_nil ?_))))
    exact ⟨false, _, hg4, hs, hb, Has.mk (by kernel_rfl)⟩
 ·clear hs hb
  rintro ρ w6 ⟨H4, hs, hb, hH⟩
  refine norm_has hH ?_
  clear hH
  refine th_n ?_
  refine wpE_cond (t := ((!r1) || (aF != 4))) (by kernel_rfl) (fun hc1 => ?_) (fun hc1 => ?_)
  ·replace h := h.1 hc1
   refine wpE_seq (rg (q0 (vi 0) (q0 (vi 90) (wpL_nil (th_n (wpE_ret (bl_r (th_r ?_))))))))
   replace h := h H4 w6 hs
   replace hs := hs.here
   refine res2 (.inl rfl) Try.results179 (v := (vi 0)) (by kernel_rfl) (v' := (vi 90)) (by kernel_rfl) ?_
   exact ⟨0, 90, rfl, h⟩
  ·replace h := h.2 hc1
   refine wpE_seq (rg (q0 (vb second1) (q0 (vb second1) (wpL_nil (th_n ?_)))))
   refine wpE_cond (t := second1) (by kernel_rfl) (fun hc2 => ?_) (fun hc2 => ?_)
   ·replace h := h.1 hc2
    refine wpE_seq (rg (q0 (vp (some (p2.add 6))) (q2 (vi aH) (xl (Try.isAgg41 _) (hb.c 0 6 gZ)) (q0 (vi aH) (q0 (vi 0) (wpL_nil (th_n (wpE_ret (bl_r (th_r ?_))))))))))
    replace h := h H4 w6 hs
    replace hs := hs.here
    refine res2 (.inl rfl) Try.results179 (v := (vi aH)) (by kernel_rfl) (v' := (vi 0)) (by kernel_rfl) ?_
    exact ⟨aH, 0, rfl, h⟩
   ·replace h := h.2 hc2
    refine wpE_skip (bl_n (th_n (wpE_seq (rg (q0 (vp (some (p2.add 5))) (q2 (vi aG) (xl (Try.isAgg41 _) (hb.c 0 5 gZ)) (q0 (vi aG) (q0 (vi 0) (wpL_nil (th_n (wpE_ret ?_)))))))))))
    replace h := h H4 w6 hs
    replace hs := hs.here
    refine res2 (.inl rfl) Try.results179 (v := (vi aG)) (by kernel_rfl) (v' := (vi 0)) (by kernel_rfl) ?_
    exact ⟨aG, 0, rfl, h⟩
def m_recipe_cook_kitchen_7 (aE aA : Int) (aB aC : Int) (aD : ByteArray) (cap1 : Addr) (w0 : World) (K : Int → Int → World → Prop) : Prop :=
 ∀ (H1 : Nat → Prop) (w1 : World), Hst w0 None w0 H1 w1 →
 ∃ v1 : Option Addr, w1.cell? cap1 = some (vp v1) ∧
 Calls Try.prog 179 #[(vp v1), (.agg #[(vi aE), (vi aA), (vi aB), (vu aC), (vs aD)]), (vb false)] w1 (fun e w2 => ∃ r1 r2 : Int, e = .returned (.tuple #[(vi r1), (vi r2)]) ∧ 
  Kept H1 w1 w2 ∧
  K r1 r2 w2)
theorem w_recipe_cook_kitchen_7 (aE aA : Int) (aB aC : Int) (aD : ByteArray) (cap1 : Addr) (w0 : World) (K : Int → Int → World → Prop) (h : m_recipe_cook_kitchen_7 aE aA aB aC aD cap1 w0 K) :
  Calls Try.prog 178 #[(.agg #[(vi aE), (vi aA), (vi aB), (vu aC), (vs aD)]), (vp (some cap1))] w0 (fun e w' => ∃ r3 r4 : Int, e = .returned (.tuple #[(vi r3), (vi r4)]) ∧ K r3 r4 w') := by
 unfold m_recipe_cook_kitchen_7 at h
 refine calls_of_wpE (args := [(.agg #[(vi aE), (vi aA), (vi aB), (vu aC), (vs aD)]), (vp (some cap1))]) Try.func178 rfl Try.ntmps178 (Nat.le_of_ble_eq_true rfl) ?_
 have hs := Hst.start w0
 have hb := HB.nil None w0
 refine wpE_seq (rg (sn (O := (.cells #[(vi aE), (vi aA), (vi aB), (vu aC), (vs aD)] 175)) xb ?_))
 intro p1 w1 hn1
 obtain ⟨H1, hs, hb⟩ := hs.alloc hb hn1
 refine q0 (vi 0) (q0 (vi 0) (wpL_nil (th_n (wpE_seq (rg ?_)))))
 replace h := h H1 w1 hs
 replace hs := hs.here
 obtain ⟨v1, hv1, h⟩ := h
 refine q2 (vp v1) (xl (Try.isAgg223 _) hv1) (q2 (.agg #[(vi aE), (vi aA), (vi aB), (vu aC), (vs aD)]) (x_loadA (a := p1) (vs := [(vi aE), (vi aA), (vi aB), (vu aC), (vs aD)]) (by kernel_rfl) (Try.isAgg175 _) (Try.sizeOf175 _) rfl (hb.row0 0 5 gZ (by kernel_rfl))) ?_)
 refine st_call (want0 rfl) (xc Try.call179) (h.mono ?_)
 rintro e w2 ⟨r1, r2, rfl, hk, h⟩
 refine ⟨_, rfl, ?_⟩
 obtain ⟨hs, hb⟩ := hk.hh hs hb
 refine q0 (vi r1) (q0 (vi r2) (q0 (vi r1) (q0 (vi r2) (wpL_nil (th_n (wpE_ret (res2 (.inl rfl) Try.results178 (v := (vi r1)) (by kernel_rfl) (v' := (vi r2)) (by kernel_rfl) ?_)))))))
 exact ⟨r1, r2, rfl, h⟩
def m_recipe_cook_kitchen_8 (aE aA : Int) (aB aC : Int) (aD : ByteArray) (cap1 : Addr) (w0 : World) (K : Int → Int → World → Prop) : Prop :=
 ∀ (H1 : Nat → Prop) (w1 : World), Hst w0 None w0 H1 w1 →
 ∃ v1 : Option Addr, w1.cell? cap1 = some (vp v1) ∧
 Calls Try.prog 179 #[(vp v1), (.agg #[(vi aE), (vi aA), (vi aB), (vu aC), (vs aD)]), (vb true)] w1 (fun e w2 => ∃ r1 r2 : Int, e = .returned (.tuple #[(vi r1), (vi r2)]) ∧ 
  Kept H1 w1 w2 ∧
  K r1 r2 w2)
theorem w_recipe_cook_kitchen_8 (aE aA : Int) (aB aC : Int) (aD : ByteArray) (cap1 : Addr) (w0 : World) (K : Int → Int → World → Prop) (h : m_recipe_cook_kitchen_8 aE aA aB aC aD cap1 w0 K) :
  Calls Try.prog 180 #[(.agg #[(vi aE), (vi aA), (vi aB), (vu aC), (vs aD)]), (vp (some cap1))] w0 (fun e w' => ∃ r3 r4 : Int, e = .returned (.tuple #[(vi r3), (vi r4)]) ∧ K r3 r4 w') := by
 unfold m_recipe_cook_kitchen_8 at h
 refine calls_of_wpE (args := [(.agg #[(vi aE), (vi aA), (vi aB), (vu aC), (vs aD)]), (vp (some cap1))]) Try.func180 rfl Try.ntmps180 (Nat.le_of_ble_eq_true rfl) ?_
 have hs := Hst.start w0
 have hb := HB.nil None w0
 refine wpE_seq (rg (sn (O := (.cells #[(vi aE), (vi aA), (vi aB), (vu aC), (vs aD)] 175)) xb ?_))
 intro p1 w1 hn1
 obtain ⟨H1, hs, hb⟩ := hs.alloc hb hn1
 refine q0 (vi 0) (q0 (vi 0) (wpL_nil (th_n (wpE_seq (rg ?_)))))
 replace h := h H1 w1 hs
 replace hs := hs.here
 obtain ⟨v1, hv1, h⟩ := h
 refine q2 (vp v1) (xl (Try.isAgg223 _) hv1) (q2 (.agg #[(vi aE), (vi aA), (vi aB), (vu aC), (vs aD)]) (x_loadA (a := p1) (vs := [(vi aE), (vi aA), (vi aB), (vu aC), (vs aD)]) (by kernel_rfl) (Try.isAgg175 _) (Try.sizeOf175 _) rfl (hb.row0 0 5 gZ (by kernel_rfl))) ?_)
 refine st_call (want0 rfl) (xc Try.call179) (h.mono ?_)
 rintro e w2 ⟨r1, r2, rfl, hk, h⟩
 refine ⟨_, rfl, ?_⟩
 obtain ⟨hs, hb⟩ := hk.hh hs hb
 refine q0 (vi r1) (q0 (vi r2) (q0 (vi r1) (q0 (vi r2) (wpL_nil (th_n (wpE_ret (res2 (.inl rfl) Try.results180 (v := (vi r1)) (by kernel_rfl) (v' := (vi r2)) (by kernel_rfl) ?_)))))))
 exact ⟨r1, r2, rfl, h⟩
def m_recipe_cook_shown (c1 : Option Addr) (aE aA : Int) (aB aC : Int) (aD : ByteArray) (w0 : World) (K : Int → Int → World → Prop) : Prop :=
 ∀ (H1 : Nat → Prop) (w1 : World), Hst w0 None w0 H1 w1 →
 Calls Try.prog 221 #[(vp c1), (vi aA)] w1 (fun e w2 => ∃ aF aI : Int, ∃ aJ aK : Int, ∃ aL : ByteArray, ∃ aG aH : Int, ∃ r1 : Bool, e = .returned (.tuple #[(.agg #[(vi aF), (vi aI), (vi aJ), (vu aK), (vs aL), (vi aG), (vi aH)]), (vb r1)]) ∧ 
  Kept H1 w1 w2 ∧
  Br ((!r1) || (((aF != 7) && (aF != 8)) && (aF != 9)))
   (∀ (H5 : Nat → Prop) (w7 : World), Hst w0 H1 w2 H5 w7 →
   K 0 90 w7)
   (∀ (H5 : Nat → Prop) (w7 : World), Hst w0 H1 w2 H5 w7 →
   K aG 0 w7))
theorem w_recipe_cook_shown (c1 : Option Addr) (aE aA : Int) (aB aC : Int) (aD : ByteArray) (w0 : World) (K : Int → Int → World → Prop) (h : m_recipe_cook_shown c1 aE aA aB aC aD w0 K) :
  Calls Try.prog 181 #[(vp c1), (.agg #[(vi aE), (vi aA), (vi aB), (vu aC), (vs aD)])] w0 (fun e w' => ∃ r2 r3 : Int, e = .returned (.tuple #[(vi r2), (vi r3)]) ∧ K r2 r3 w') := by
 unfold m_recipe_cook_shown at h
 refine calls_of_wpE (args := [(vp c1), (.agg #[(vi aE), (vi aA), (vi aB), (vu aC), (vs aD)])]) Try.func181 rfl Try.ntmps181 (Nat.le_of_ble_eq_true rfl) ?_
 have hs := Hst.start w0
 have hb := HB.nil None w0
 refine wpE_seq (rg (sn (O := (.cells #[(vi aE), (vi aA), (vi aB), (vu aC), (vs aD)] 175)) xb ?_))
 intro p1 w1 hn1
 obtain ⟨H1, hs, hb⟩ := hs.alloc hb hn1
 refine q0 (vi 0) (q0 (vi 0) (wpL_nil (th_n (wpE_seq (rg (q0 (vp c1) (q0 (vp (some (p1.add 1))) (q2 (vi aA) (xl (Try.isAgg3 _) (hb.c 0 1 gZ)) ?_))))))))
 replace h := h H1 w1 hs
 replace hs := hs.here
 refine st_call (want0 rfl) (xc Try.call221) (h.mono ?_)
 rintro e w2 ⟨aF, aI, aJ, aK, aL, aG, aH, r1, rfl, hk, h⟩
 refine ⟨_, rfl, ?_⟩
 obtain ⟨hs, hb⟩ := hk.hh hs hb
 refine q0 (.tuple #[(.agg #[(vi aF), (vi aI), (vi aJ), (vu aK), (vs aL), (vi aG), (vi aH)]), (vb r1)]) (q0 (.agg #[(vi aF), (vi aI), (vi aJ), (vu aK), (vs aL), (vi aG), (vi aH)]) (q0 (vb r1) (sn (O := (.cells #[(vi 0), (vi 0), (vi 0), (vu 0), (vs ⟨#[]⟩), (vi 0), (vi 0)] 93)) (x_alloc (Try.zeroValue93 _) rfl) ?_)))
 intro p2 w3 hn2
 obtain ⟨H2, hs, hb⟩ := hs.alloc hb hn2
 refine st_set (want0 rfl) (x_storeA (a := p2) (vs := [(vi aF), (vi aI), (vi aJ), (vu aK), (vs aL), (vi aG), (vi aH)]) (by kernel_rfl) (by kernel_rfl) rfl (Try.sizeOf93 _) rfl (hb.canWs0 0 7 gZ (by kernel_rfl))) ?_
 intro w4 hn3
 have hsb : Hst w0 H1 w2 H2 w4 ∧ HB H2 w4 [(p2, [(vi aF), (vi aI), (vi aJ), (vu aK), (vs aL), (vi aG), (vi aH)], 93), (p1, [(vi aE), (vi aA), (vi aB), (vu aC), (vs aD)], 175)] := by
  rw [hn3]
  exact hb.store0 (i := 0) (vs := [(vi aF), (vi aI), (vi aJ), (vu aK), (vs aL), (vi aG), (vi aH)]) hs gZ (by kernel_rfl) (by kernel_rfl)
 clear hs hb hn3
 obtain ⟨hs, hb⟩ := hsb
 refine q0 (vb r1) (wpL_nil (th_n (wpE_seq (wpE_seq ?_))))
 refine wpE_via (fun ρ wJ => ∃ b3'0 : Bool, ∃ HJ : Nat → Prop, ((!r1) = b3'0) ∧ Hst w0 H1 w2 HJ wJ ∧ HB HJ wJ [(p2, [(vi aF), (vi aI), (vi aJ), (vu aK), (vs aL), (vi aG), (vi aH)], 93), (p1, [(vi aE), (vi aA), (vi aB), (vu aC), (vs aD)], 175)] ∧ Has ρ [(6, (vp (some p2))), (31, (vb (b3'0 || (((aF != 7) && (aF != 8)) && (aF != 9)))))]) ?_ ?_
 ·skip
  refine rg (q0 (vb r1) (q0 (vb (!r1)) (q0 (vb (!r1)) ?_)))
  rcases Bool.eq_false_or_eq_true (!r1) with hg6 | hg6
  ·skip
   refine sk (yD 17 hg6) (sk (yD 17 hg6) (sk (yD 17 hg6) (sk (yD 17 hg6) (st_not (by kernel_rfl) (st_not (by kernel_rfl) (st_not (by kernel_rfl) (sk (yD 17 hg6) (sk (yD 17 hg6) (st_not (by kernel_rfl) (st_not (by kernel_rfl) (st_not (by kernel_rfl) ?_)))))))))))
   refine sk (yD 17 hg6) (q2 (vb true) (xT hg6) (wpL_nil (th_n ?_)))
   exact ⟨true, _, hg6, hs, hb, Has.mk (by kernel_rfl)⟩
  ·skip
   refine q1 (vp (some p2)) (want1 rfl (yD 17 hg6)) (stp (v := (vi aF)) (want1 rfl (yD 17 hg6)) (xl (Try.isAgg3 _) (hb.c0 0 gZ)) (q1 (vb (aF != 7)) (want1 rfl (yD 17 hg6)) (q1 (vb (aF != 7)) (want1 rfl (yD 17 hg6)) ?_)))
   refine wpL_join 4 (fun ρ wJ => ∃ b4'0 : Bool, ∃ HJ : Nat → Prop, ((aF != 7) = b4'0) ∧ Hst w0 H1 w2 HJ wJ ∧ HB HJ wJ [(p2, [(vi aF), (vi aI), (vi aJ), (vu aK), (vs aL), (vi aG), (vi aH)], 93), (p1, [(vi aE), (vi aA), (vi aB), (vu aC), (vs aD)], 175)] ∧ Has ρ [(6, (vp (some p2))), (17, (vb (!r1))), (25, (vb (b4'0 && (aF != 8))))]) ?_ ?_
   ·clear hs hb
    rintro ρ w8 ⟨b4'0, H6, he0, hs, hb, hH⟩
    subst he0
    refine wpL_has hH ?_
    clear hH
    refine q1 (vb ((aF != 7) && (aF != 8))) (want1 rfl (yD 17 hg6)) ?_
    refine wpL_join 4 (fun ρ wJ => ∃ b5'0 : Bool, ∃ HJ : Nat → Prop, (((aF != 7) && (aF != 8)) = b5'0) ∧ Hst w0 H1 w2 HJ wJ ∧ HB HJ wJ [(p2, [(vi aF), (vi aI), (vi aJ), (vu aK), (vs aL), (vi aG), (vi aH)], 93), (p1, [(vi aE), (vi aA), (vi aB), (vu aC), (vs aD)], 175)] ∧ Has ρ [(6, (vp (some p2))), (17, (vb (!r1))), (30, (vb (b5'0 && (aF != 9))))]) ?_ ?_
    ·clear hs hb
     rintro ρ w9 ⟨b5'0, H7, he0, hs, hb, hH⟩
     subst he0
     refine wpL_has hH ?_
     clear hH
     refine q2 (vb (((aF != 7) && (aF != 8)) && (aF != 9))) (xF hg6) (wpL_nil (th_n ?_))
     exact ⟨false, _, hg6, hs, hb, Has.mk (by kernel_rfl)⟩
    ·skip
     rcases Bool.eq_false_or_eq_true ((aF != 7) && (aF != 8)) with hg10 | hg10
     ·skip
      refine q1 (vp (some p2)) (want1 rfl (yD 26 hg10)) (stp (v := (vi aF)) (want1 rfl (yD 26 hg10)) (xl (Try.isAgg3 _) (hb.c0 0 gZ)) (q1 (vb (aF != 9)) (want1 rfl (yD 26 hg10)) (stp (v := (vb (aF != 9))) (want1 rfl (yD 17 hg6)) (xT hg10) (wpL_nil ?_))))
      exact ⟨true, _, hg10, hs, hb, Has.mk (by kernel_rfl)⟩
     ·skip
      refine sk (yD 26 hg10) (sk (yD 26 hg10) (sk (yD 26 hg10) (stp (v := (vb false)) (want1 rfl (yD 17 hg6)) (xF hg10) (wpL_nil ?_))))
      exact ⟨false, _, hg10, hs, hb, Has.mk (by kernel_rfl)⟩
   ·skip
    rcases Bool.eq_false_or_eq_true (aF != 7) with hg8 | hg8
    ·skip
     refine q1 (vp (some p2)) (want1 rfl (yD 21 hg8)) (stp (v := (vi aF)) (want1 rfl (yD 21 hg8)) (xl (Try.isAgg3 _) (hb.c0 0 gZ)) (q1 (vb (aF != 8)) (want1 rfl (yD 21 hg8)) (stp (v := (vb (aF != 8))) (want1 rfl (yD 17 hg6)) (xT hg8) (wpL_nil ?_))))
     exact ⟨true, _, hg8, hs, hb, Has.mk (by kernel_rfl)⟩
    ·skip
     refine sk (yD 21 hg8) (sk (yD 21 hg8) (sk (yD 21 hg8) (stp (v := (vb false)) (want1 rfl (yD 17 hg6)) (xF hg8) (wpL_nil ?_))))
     exact ⟨false, _, hg8, hs, hb, Has.mk (by kernel_rfl)⟩
 ·clear hs hb
  rintro ρ w7 ⟨b3'0, H5, he0, hs, hb, hH⟩
  subst he0
  refine norm_has hH ?_
  clear hH
  refine th_n ?_
  refine wpE_cond (t := ((!r1) || (((aF != 7) && (aF != 8)) && (aF != 9)))) (by kernel_rfl) (fun hc1 => ?_) (fun hc1 => ?_)
  ·replace h := h.1 hc1
   refine wpE_seq (rg (q0 (vi 0) (q0 (vi 90) (wpL_nil (th_n (wpE_ret (th_r ?_)))))))
   replace h := h H5 w7 hs
   replace hs := hs.here
   refine res2 (.inl rfl) Try.results181 (v := (vi 0)) (by kernel_rfl) (v' := (vi 90)) (by kernel_rfl) ?_
   exact ⟨0, 90, rfl, h⟩
  ·replace h := h.2 hc1
   refine wpE_skip (th_n (wpE_seq (rg (q0 (vp (some (p2.add 5))) (q2 (vi aG) (xl (Try.isAgg41 _) (hb.c 0 5 gZ)) (q0 (vi aG) (q0 (vi 0) (wpL_nil (th_n (wpE_ret ?_))))))))))
   replace h := h H5 w7 hs
   replace hs := hs.here
   refine res2 (.inl rfl) Try.results181 (v := (vi aG)) (by kernel_rfl) (v' := (vi 0)) (by kernel_rfl) ?_
   exact ⟨aG, 0, rfl, h⟩
def m_recipe_cook_keyed (c1 : Option Addr) (aE aA : Int) (aB aC : Int) (aD : ByteArray) (how1 : Value) (w0 : World) (K : Int → Int → World → Prop) : Prop :=
 ∀ (H1 : Nat → Prop) (w1 : World), Hst w0 None w0 H1 w1 →
 Calls Try.prog 176 #[(vp c1), (vi aA)] w1 (fun e w2 => ∃ r1 : Int, ∃ r2 : Bool, e = .returned (.tuple #[(vi r1), (vb r2)]) ∧ 
  Kept H1 w1 w2 ∧
  Calls Try.prog 221 #[(vp c1), (vi aB)] w2 (fun e w3 => ∃ aF aI : Int, ∃ aJ aK : Int, ∃ aL : ByteArray, ∃ aG aH : Int, ∃ r3 : Bool, e = .returned (.tuple #[(.agg #[(vi aF), (vi aI), (vi aJ), (vu aK), (vs aL), (vi aG), (vi aH)]), (vb r3)]) ∧ 
   Kept H1 w2 w3 ∧
   Br (((!r2) || (!r3)) || (aF != 6))
    (∀ (H4 : Nat → Prop) (w7 : World), Hst w0 H1 w3 H4 w7 →
    K 0 90 w7)
    (∃ (f1 : FuncId) (fs1 cs1 : Array Value), how1 = .func (.func f1) fs1 cs1 ∧
    ∀ (H4 : Nat → Prop) (w7 : World), Hst w0 H1 w3 H4 w7 →
    (∀ args w, (callFunc f1 args).run Try.prog w = .ok (.enter f1 args) w) ∧ Calls Try.prog f1 (fs1 ++ #[(vi aI), (vi r1)] ++ cs1) w7 (fun e w9 => ∃ r4 r5 : Int, e = .returned (.tuple #[(vi r4), (vi r5)]) ∧ 
     Kept H4 w7 w9 ∧
     K r4 r5 w9))))
theorem w_recipe_cook_keyed (c1 : Option Addr) (aE aA : Int) (aB aC : Int) (aD : ByteArray) (how1 : Value) (w0 : World) (K : Int → Int → World → Prop) (h : m_recipe_cook_keyed c1 aE aA aB aC aD how1 w0 K) :
  Calls Try.prog 183 #[(vp c1), (.agg #[(vi aE), (vi aA), (vi aB), (vu aC), (vs aD)]), how1] w0 (fun e w' => ∃ r6 r7 : Int, e = .returned (.tuple #[(vi r6), (vi r7)]) ∧ K r6 r7 w') := by
 unfold m_recipe_cook_keyed at h
 refine calls_of_wpE (args := [(vp c1), (.agg #[(vi aE), (vi aA), (vi aB), (vu aC), (vs aD)]), how1]) Try.func183 rfl Try.ntmps183 (Nat.le_of_ble_eq_true rfl) ?_
 have hs := Hst.start w0
 have hb := HB.nil None w0
 refine wpE_seq (rg (sn (O := (.cells #[(vi aE), (vi aA), (vi aB), (vu aC), (vs aD)] 175)) xb ?_))
 intro p1 w1 hn1
 obtain ⟨H1, hs, hb⟩ := hs.alloc hb hn1
 refine q0 (vi 0) (q0 (vi 0) (wpL_nil (th_n (wpE_seq (rg (q0 (vp c1) (q0 (vp (some (p1.add 1))) (q2 (vi aA) (xl (Try.isAgg3 _) (hb.c 0 1 gZ)) ?_))))))))
 replace h := h H1 w1 hs
 replace hs := hs.here
 refine st_call (want0 rfl) (xc Try.call176) (h.mono ?_)
 rintro e w2 ⟨r1, r2, rfl, hk, h⟩
 refine ⟨_, rfl, ?_⟩
 obtain ⟨hs, hb⟩ := hk.hh hs hb
 refine q0 (.tuple #[(vi r1), (vb r2)]) (q0 (vi r1) (q0 (vb r2) (q0 (vi r1) (q0 (vb r2) (wpL_nil (th_n (wpE_seq (rg (q0 (vp c1) (q0 (vp (some (p1.add 2))) (q2 (vi aB) (xl (Try.isAgg3 _) (hb.c 0 2 gZ)) ?_)))))))))))
 refine st_call (want0 rfl) (xc Try.call221) (h.mono ?_)
 rintro e w3 ⟨aF, aI, aJ, aK, aL, aG, aH, r3, rfl, hk, h⟩
 refine ⟨_, rfl, ?_⟩
 obtain ⟨hs, hb⟩ := hk.hh hs hb
 refine q0 (.tuple #[(.agg #[(vi aF), (vi aI), (vi aJ), (vu aK), (vs aL), (vi aG), (vi aH)]), (vb r3)]) (q0 (.agg #[(vi aF), (vi aI), (vi aJ), (vu aK), (vs aL), (vi aG), (vi aH)]) (q0 (vb r3) (sn (O := (.cells #[(vi 0), (vi 0), (vi 0), (vu 0), (vs ⟨#[]⟩), (vi 0), (vi 0)] 93)) (x_alloc (Try.zeroValue93 _) rfl) ?_)))
 intro p2 w4 hn2
 obtain ⟨H2, hs, hb⟩ := hs.alloc hb hn2
 refine st_set (want0 rfl) (x_storeA (a := p2) (vs := [(vi aF), (vi aI), (vi aJ), (vu aK), (vs aL), (vi aG), (vi aH)]) (by kernel_rfl) (by kernel_rfl) rfl (Try.sizeOf93 _) rfl (hb.canWs0 0 7 gZ (by kernel_rfl))) ?_
 intro w5 hn3
 have hsb : Hst w0 H1 w3 H2 w5 ∧ HB H2 w5 [(p2, [(vi aF), (vi aI), (vi aJ), (vu aK), (vs aL), (vi aG), (vi aH)], 93), (p1, [(vi aE), (vi aA), (vi aB), (vu aC), (vs aD)], 175)] := by
  rw [hn3]
  exact hb.store0 (i := 0) (vs := [(vi aF), (vi aI), (vi aJ), (vu aK), (vs aL), (vi aG), (vi aH)]) hs gZ (by kernel_rfl) (by kernel_rfl)
 clear hs hb hn3
 obtain ⟨hs, hb⟩ := hsb
 refine q0 (vb r3) (wpL_nil (th_n (wpE_seq (wpE_seq ?_))))
 refine wpE_via (fun ρ wJ => ∃ b2'0 : Bool, ∃ HJ : Nat → Prop, (((!r2) || (!r3)) = b2'0) ∧ Hst w0 H1 w3 HJ wJ ∧ HB HJ wJ [(p2, [(vi aF), (vi aI), (vi aJ), (vu aK), (vs aL), (vi aG), (vi aH)], 93), (p1, [(vi aE), (vi aA), (vi aB), (vu aC), (vs aD)], 175)] ∧ Has ρ [(2, how1), (8, (vi r1)), (10, (vp (some p2))), (36, (vb (b2'0 || (aF != 6))))]) ?_ ?_
 ·skip
  refine rg (q0 (vb r2) (q0 (vb (!r2)) (q0 (vb (!r2)) ?_)))
  refine wpL_join 3 (fun ρ wJ => ∃ b3'0 : Bool, ∃ HJ : Nat → Prop, ((!r2) = b3'0) ∧ Hst w0 H1 w3 HJ wJ ∧ HB HJ wJ [(p2, [(vi aF), (vi aI), (vi aJ), (vu aK), (vs aL), (vi aG), (vi aH)], 93), (p1, [(vi aE), (vi aA), (vi aB), (vu aC), (vs aD)], 175)] ∧ Has ρ [(2, how1), (8, (vi r1)), (10, (vp (some p2))), (31, (vb (b3'0 || (!r3))))]) ?_ ?_
  ·clear hs hb
   rintro ρ w8 ⟨b3'0, H5, he0, hs, hb, hH⟩
   subst he0
   refine wpL_has hH ?_
   clear hH
   refine q0 (vb ((!r2) || (!r3))) ?_
   rcases Bool.eq_false_or_eq_true ((!r2) || (!r3)) with hg6 | hg6
   ·skip
    refine sk (yD 32 hg6) (sk (yD 32 hg6) (sk (yD 32 hg6) (q2 (vb true) (xT hg6) (wpL_nil (th_n ?_)))))
    exact ⟨true, _, hg6, hs, hb, Has.mk (by kernel_rfl)⟩
   ·skip
    refine q1 (vp (some p2)) (want1 rfl (yD 32 hg6)) (stp (v := (vi aF)) (want1 rfl (yD 32 hg6)) (xl (Try.isAgg3 _) (hb.c0 0 gZ)) (q1 (vb (aF != 6)) (want1 rfl (yD 32 hg6)) (q2 (vb (aF != 6)) (xF hg6) (wpL_nil (th_n ?_)))))
    exact ⟨false, _, hg6, hs, hb, Has.mk (by kernel_rfl)⟩
  ·skip
   rcases Bool.eq_false_or_eq_true (!r2) with hg5 | hg5
   ·skip
    refine sk (yD 28 hg5) (sk (yD 28 hg5) (q2 (vb true) (xT hg5) (wpL_nil ?_)))
    exact ⟨true, _, hg5, hs, hb, Has.mk (by kernel_rfl)⟩
   ·skip
    refine q1 (vb r3) (want1 rfl (yD 28 hg5)) (q1 (vb (!r3)) (want1 rfl (yD 28 hg5)) (q2 (vb (!r3)) (xF hg5) (wpL_nil ?_)))
    exact ⟨false, _, hg5, hs, hb, Has.mk (by kernel_rfl)⟩
 ·clear hs hb
  rintro ρ w7 ⟨b2'0, H4, he0, hs, hb, hH⟩
  subst he0
  refine norm_has hH ?_
  clear hH
  refine th_n ?_
  refine wpE_cond (t := (((!r2) || (!r3)) || (aF != 6))) (by kernel_rfl) (fun hc1 => ?_) (fun hc1 => ?_)
  ·replace h := h.1 hc1
   refine wpE_seq (rg (q0 (vi 0) (q0 (vi 90) (wpL_nil (th_n (wpE_ret (th_r ?_)))))))
   replace h := h H4 w7 hs
   replace hs := hs.here
   refine res2 (.inl rfl) Try.results183 (v := (vi 0)) (by kernel_rfl) (v' := (vi 90)) (by kernel_rfl) ?_
   exact ⟨0, 90, rfl, h⟩
  ·replace h := h.2 hc1
   refine wpE_skip (th_n (wpE_seq (rg (q0 how1 (q0 (vp (some (p2.add 1))) (q2 (vi aI) (xl (Try.isAgg3 _) (hb.c 0 1 gZ)) (q0 (vi r1) ?_)))))))
   obtain ⟨f1, fs1, cs1, hp1, h⟩ := h
   replace h := h H4 w7 hs
   replace hs := hs.here
   obtain ⟨hf1, h⟩ := h
   refine st_call (want0 rfl) (x_callmE (fs := fs1) (caps := cs1) (args := #[(vi aI), (vi r1)]) (by kernel_rfl) hp1 hf1 (by kernel_rfl) rfl) (h.mono ?_)
   rintro e w9 ⟨r4, r5, rfl, hk, h⟩
   refine ⟨_, rfl, ?_⟩
   obtain ⟨hs, hb⟩ := hk.hh hs hb
   refine q0 (vi r4) (q0 (vi r5) (q0 (vi r4) (q0 (vi r5) (wpL_nil (th_n (wpE_ret (res2 (.inl rfl) Try.results183 (v := (vi r4)) (by kernel_rfl) (v' := (vi r5)) (by kernel_rfl) ?_)))))))
   exact ⟨r4, r5, rfl, h⟩
def m_recipe_cook_kitchen_9 (aE aA : Int) (aB aC : Int) (aD : ByteArray) (cap1 cap2 : Addr) (w0 : World) (K : Int → Int → World → Prop) : Prop :=
 ∀ (H1 : Nat → Prop) (w1 : World), Hst w0 None w0 H1 w1 →
 ∃ v1 : Option Addr, w1.cell? cap1 = some (vp v1) ∧
 ∃ v2 : Option Addr, w1.cell? cap2 = some (vp v2) ∧
 Calls Try.prog 183 #[(vp v1), (.agg #[(vi aE), (vi aA), (vi aB), (vu aC), (vs aD)]), (.func (.func 87) #[(vp v2)] #[])] w1 (fun e w2 => ∃ r1 r2 : Int, e = .returned (.tuple #[(vi r1), (vi r2)]) ∧ 
  Kept H1 w1 w2 ∧
  K r1 r2 w2)
theorem w_recipe_cook_kitchen_9 (aE aA : Int) (aB aC : Int) (aD : ByteArray) (cap1 cap2 : Addr) (w0 : World) (K : Int → Int → World → Prop) (h : m_recipe_cook_kitchen_9 aE aA aB aC aD cap1 cap2 w0 K) :
  Calls Try.prog 182 #[(.agg #[(vi aE), (vi aA), (vi aB), (vu aC), (vs aD)]), (vp (some cap1)), (vp (some cap2))] w0 (fun e w' => ∃ r3 r4 : Int, e = .returned (.tuple #[(vi r3), (vi r4)]) ∧ K r3 r4 w') := by
 unfold m_recipe_cook_kitchen_9 at h
 refine calls_of_wpE (args := [(.agg #[(vi aE), (vi aA), (vi aB), (vu aC), (vs aD)]), (vp (some cap1)), (vp (some cap2))]) Try.func182 rfl Try.ntmps182 (Nat.le_of_ble_eq_true rfl) ?_
 have hs := Hst.start w0
 have hb := HB.nil None w0
 refine wpE_seq (rg (sn (O := (.cells #[(vi aE), (vi aA), (vi aB), (vu aC), (vs aD)] 175)) xb ?_))
 intro p1 w1 hn1
 obtain ⟨H1, hs, hb⟩ := hs.alloc hb hn1
 refine q0 (vi 0) (q0 (vi 0) (wpL_nil (th_n (wpE_seq (rg ?_)))))
 replace h := h H1 w1 hs
 replace hs := hs.here
 obtain ⟨v1, hv2, h⟩ := h
 refine q2 (vp v1) (xl (Try.isAgg223 _) hv2) (q2 (.agg #[(vi aE), (vi aA), (vi aB), (vu aC), (vs aD)]) (x_loadA (a := p1) (vs := [(vi aE), (vi aA), (vi aB), (vu aC), (vs aD)]) (by kernel_rfl) (Try.isAgg175 _) (Try.sizeOf175 _) rfl (hb.row0 0 5 gZ (by kernel_rfl))) ?_)
 obtain ⟨v2, hv1, h⟩ := h
 refine q2 (vp v2) (xl (Try.isAgg25 _) hv1) (q0 (.func (.func 87) #[(vp v2)] #[]) ?_)
 refine st_call (want0 rfl) (xc Try.call183) (h.mono ?_)
 rintro e w2 ⟨r1, r2, rfl, hk, h⟩
 refine ⟨_, rfl, ?_⟩
 obtain ⟨hs, hb⟩ := hk.hh hs hb
 refine q0 (vi r1) (q0 (vi r2) (q0 (vi r1) (q0 (vi r2) (wpL_nil (th_n (wpE_ret (res2 (.inl rfl) Try.results182 (v := (vi r1)) (by kernel_rfl) (v' := (vi r2)) (by kernel_rfl) ?_)))))))
 exact ⟨r1, r2, rfl, h⟩
def m_recipe_cook_kitchen_10 (aE aA : Int) (aB aC : Int) (aD : ByteArray) (cap1 cap2 : Addr) (w0 : World) (K : Int → Int → World → Prop) : Prop :=
 ∀ (p1 : Addr) (w1 : World), New w0 (.cells #[(vi aE), (vi aA), (vi aB), (vu aC), (vs aD)] 175) p1 w1 →
 ∃ v1 : Option Addr, w1.cell? cap1 = some (vp v1) ∧
 ∃ aM aN : Int, ∃ aO aP : Int, ∃ aQ : ByteArray, Row w1 p1 [(vi aM), (vi aN), (vi aO), (vu aP), (vs aQ)] ∧
 Calls Try.prog 183 #[(vp v1), (.agg #[(vi aM), (vi aN), (vi aO), (vu aP), (vs aQ)]), (.func (.func 185) #[] #[(vp (some cap2)), (vp (some p1))])] w1 (fun e w2 => ∃ r1 r2 : Int, e = .returned (.tuple #[(vi r1), (vi r2)]) ∧ 
  K r1 r2 w2)
theorem w_recipe_cook_kitchen_10 (aE aA : Int) (aB aC : Int) (aD : ByteArray) (cap1 cap2 : Addr) (w0 : World) (K : Int → Int → World → Prop) (h : m_recipe_cook_kitchen_10 aE aA aB aC aD cap1 cap2 w0 K) :
  Calls Try.prog 184 #[(.agg #[(vi aE), (vi aA), (vi aB), (vu aC), (vs aD)]), (vp (some cap1)), (vp (some cap2))] w0 (fun e w' => ∃ r3 r4 : Int, e = .returned (.tuple #[(vi r3), (vi r4)]) ∧ K r3 r4 w') := by
 unfold m_recipe_cook_kitchen_10 at h
 refine calls_of_wpE (args := [(.agg #[(vi aE), (vi aA), (vi aB), (vu aC), (vs aD)]), (vp (some cap1)), (vp (some cap2))]) Try.func184 rfl Try.ntmps184 (Nat.le_of_ble_eq_true rfl) (wpE_seq (rg (sn (O := (.cells #[(vi aE), (vi aA), (vi aB), (vu aC), (vs aD)] 175)) xb ?_)))
 intro p1 w1 hn1
 replace h := h p1 w1 hn1
 refine q0 (vi 0) (q0 (vi 0) (wpL_nil (th_n (wpE_seq (rg ?_)))))
 obtain ⟨v1, hv2, h⟩ := h
 refine q2 (vp v1) (xl (Try.isAgg223 _) hv2) ?_
 obtain ⟨aM, aN, aO, aP, aQ, hv1, h⟩ := h
 refine q2 (.agg #[(vi aM), (vi aN), (vi aO), (vu aP), (vs aQ)]) (x_loadA (a := p1) (vs := [(vi aM), (vi aN), (vi aO), (vu aP), (vs aQ)]) (by kernel_rfl) (Try.isAgg175 _) (Try.sizeOf175 _) rfl hv1) (q0 (.func (.func 185) #[] #[(vp (some cap2)), (vp (some p1))]) ?_)
 refine st_call (want0 rfl) (xc Try.call183) (h.mono ?_)
 rintro e w2 ⟨r1, r2, rfl, h⟩
 refine ⟨_, rfl, ?_⟩
 refine q0 (vi r1) (q0 (vi r2) (q0 (vi r1) (q0 (vi r2) (wpL_nil (th_n (wpE_ret (res2 (.inl rfl) Try.results184 (v := (vi r1)) (by kernel_rfl) (v' := (vi r2)) (by kernel_rfl) ?_)))))))
 exact ⟨r1, r2, rfl, h⟩
def s_recipe_name (n1 : Int) : Int :=
 (cond (decide (n1 > 2147483648)) (-1) (IntKind.i64.wrap n1))
theorem pw_recipe_name (n1 : Int) (w0 : World) :
  Calls Try.prog 187 #[(vu n1)] w0 (fun e w' => ∃ b'0 : Bool, ((decide (n1 > 2147483648)) = b'0) ∧ (e = .returned (vi (cond b'0 (-1) (IntKind.i64.wrap n1)))) ∧ Pure w0 w') := by
 refine calls_of_wpE (args := [(vu n1)]) Try.func187 rfl Try.ntmps187 (Nat.le_of_ble_eq_true rfl) (wpE_seq (rg (q0 (vi 0) (wpL_nil (th_n (wpE_seq (wpE_seq (rg (q0 (vu n1) (q0 (vb (decide (n1 > 2147483648))) (wpL_nil ?_)))))))))))
 refine th_n ?_
 refine wpE_cond (t := (decide (n1 > 2147483648))) (by kernel_rfl) (fun hc1 => ?_) (fun hc1 => ?_)
 ·skip
  refine wpE_seq (rg (q0 (vi (-1)) (wpL_nil (th_n (wpE_ret (th_r (res1 (.inl rfl) Try.results187 (v := (vi (-1))) (by kernel_rfl) ?_)))))))
  exact ⟨true, hc1, by kernel_rfl, Ext.refl _⟩
 ·skip
  refine wpE_skip (th_n (wpE_seq (rg (q0 (vu n1) (q0 (vi (IntKind.i64.wrap n1)) (q0 (vi (IntKind.i64.wrap n1)) (wpL_nil (th_n (wpE_ret (res1 (.inl rfl) Try.results187 (v := (vi (IntKind.i64.wrap n1))) (by kernel_rfl) ?_))))))))))
  exact ⟨false, hc1, by kernel_rfl, Ext.refl _⟩
theorem p_recipe_name (n1 : Int) (w0 : World) : Calls Try.prog 187 #[(.int .u64 n1)] w0 (fun e w' => e = .returned (.int .i64 (s_recipe_name n1)) ∧ Pure w0 w') := by
 refine (pw_recipe_name n1 w0).mono ?_
 rintro e w' ⟨b'0, e0, h, E⟩
 subst e0
 exact ⟨h, E⟩
def m_recipe_cook_kitchen_10_1 (who1 a1 : Int) (cap1 cap2 : Addr) (w0 : World) (K : Int → Int → World → Prop) : Prop :=
 ∃ C1 : World → Prop, C1 w0.drew ∧ ∀ w1, w1 = w0.drew →
 ∃ v1 : Option Addr, (∀ w', C1 w' → w'.cell? cap1 = some (vp v1)) ∧
 ∃ v2 : Int, (∀ w', C1 w' → w'.cell? (cap2.add 3) = some (vu v2)) ∧
 Calls Try.prog 187 #[(vu v2)] w1 (fun e w2 => ∃ r1 : Int, e = .returned (vi r1) ∧ C1 w2 ∧ 
  Kept None w1 w2 ∧
  Calls Try.prog 186 #[(vp v1), (vi who1), (vi r1), (vi a1)] w2 (fun e w3 => ∃ r2 r3 : Int, e = .returned (.tuple #[(vi r2), (vi r3)]) ∧ C1 w3 ∧ 
   Kept None w2 w3 ∧
   K r2 r3 w3))
theorem w_recipe_cook_kitchen_10_1 (who1 a1 : Int) (cap1 cap2 : Addr) (w0 : World) (K : Int → Int → World → Prop) (h : m_recipe_cook_kitchen_10_1 who1 a1 cap1 cap2 w0 K) :
  Calls Try.prog 185 #[(vi who1), (vi a1), (vp (some cap1)), (vp (some cap2))] w0 (fun e w' => ∃ r4 r5 : Int, e = .returned (.tuple #[(vi r4), (vi r5)]) ∧ K r4 r5 w') := by
 unfold m_recipe_cook_kitchen_10_1 at h
 refine calls_of_wpE (args := [(vi who1), (vi a1), (vp (some cap1)), (vp (some cap2))]) Try.func185 rfl Try.ntmps185 (Nat.le_of_ble_eq_true rfl) ?_
 have hs := Hst.start w0
 have hb := HB.nil None w0
 refine wpE_seq (rg (q0 (vi 0) (q0 (vi 0) (wpL_nil (th_n (wpE_seq ?_))))))
 obtain ⟨C1, hC, h⟩ := h
 refine wpE_drawnC C1 [4, 6] [] (by kernel_rfl) (by kernel_rfl) (by kernel_rfl) (by kernel_rfl) hC ?_
 clear hC
 intro w1 hw1
 replace h := h w1 hw1
 replace hs : Hst w0 None w0 None w1 := by rw [hw1]; exact hs.drew
 replace hb : HB None w1 [] := by rw [hw1]; exact hb.drew
 replace hs := hs.here
 refine qgo (k := 0) (by kernel_rfl) ?_
 obtain ⟨v1, hv2, h⟩ := h
 refine sx (v := (vp v1)) Kp0 (want0 rfl) (by kernel_rfl) (fun w' hw' => (xl (Try.isAgg25 _) (hv2 w' hw'))) (qx 1 (vi who1) Kp1 (qx 2 (vp (some (cap2.add 3))) Kp2 (qgo (k := 3) (by kernel_rfl) ?_)))
 obtain ⟨v2, hv1, h⟩ := h
 refine sx (v := (vu v2)) Kp3 (want0 rfl) (by kernel_rfl) (fun w' hw' => (xl (Try.isAgg38 _) (hv1 w' hw'))) (qx 5 (vi a1) Kp5 (lgo (k := 4) (by kernel_rfl) ?_))
 refine sl_call Kp4 (want0 rfl) (by kernel_rfl) (xc Try.call187) (h.mono ?_)
 rintro e w2 ⟨r1, rfl, hC, hk, h⟩
 refine ⟨_, rfl, .inr hC, ?_⟩
 obtain ⟨hs, hb⟩ := hk.hh hs hb
 refine lgo (k := 6) (by kernel_rfl) ?_
 refine sl_call Kp6 (want0 rfl) (by kernel_rfl) (xc Try.call186) (h.mono ?_)
 rintro e w3 ⟨r2, r3, rfl, hC, hk, h⟩
 refine ⟨_, rfl, .inr hC, ?_⟩
 obtain ⟨hs, hb⟩ := hk.hh hs hb
 refine qx 7 (vi r2) Kp7 (qx 8 (vi r3) Kp8 (qx 9 (vi r2) Kp9 (qx 10 (vi r3) (pickA (S8 (pickS (pickS pickZ)))) (wpX_nil (by kernel_rfl) (th_n (wpE_ret (res2 (.inl rfl) Try.results185 (v := (vi r2)) (by kernel_rfl) (v' := (vi r3)) (by kernel_rfl) ?_)))))))
 exact ⟨r2, r3, rfl, h⟩
def m_recipe_cook_kitchen_11 (aE aA : Int) (aB aC : Int) (aD : ByteArray) (cap1 cap2 : Addr) (w0 : World) (K : Int → Int → World → Prop) : Prop :=
 ∀ (p1 : Addr) (w1 : World), New w0 (.cells #[(vi aE), (vi aA), (vi aB), (vu aC), (vs aD)] 175) p1 w1 →
 ∃ v1 : Option Addr, w1.cell? cap1 = some (vp v1) ∧
 ∃ aM aN : Int, ∃ aO aP : Int, ∃ aQ : ByteArray, Row w1 p1 [(vi aM), (vi aN), (vi aO), (vu aP), (vs aQ)] ∧
 Calls Try.prog 183 #[(vp v1), (.agg #[(vi aM), (vi aN), (vi aO), (vu aP), (vs aQ)]), (.func (.func 189) #[] #[(vp (some cap2)), (vp (some p1))])] w1 (fun e w2 => ∃ r1 r2 : Int, e = .returned (.tuple #[(vi r1), (vi r2)]) ∧ 
  K r1 r2 w2)
theorem w_recipe_cook_kitchen_11 (aE aA : Int) (aB aC : Int) (aD : ByteArray) (cap1 cap2 : Addr) (w0 : World) (K : Int → Int → World → Prop) (h : m_recipe_cook_kitchen_11 aE aA aB aC aD cap1 cap2 w0 K) :
  Calls Try.prog 188 #[(.agg #[(vi aE), (vi aA), (vi aB), (vu aC), (vs aD)]), (vp (some cap1)), (vp (some cap2))] w0 (fun e w' => ∃ r3 r4 : Int, e = .returned (.tuple #[(vi r3), (vi r4)]) ∧ K r3 r4 w') := by
 unfold m_recipe_cook_kitchen_11 at h
 refine calls_of_wpE (args := [(.agg #[(vi aE), (vi aA), (vi aB), (vu aC), (vs aD)]), (vp (some cap1)), (vp (some cap2))]) Try.func188 rfl Try.ntmps188 (Nat.le_of_ble_eq_true rfl) (wpE_seq (rg (sn (O := (.cells #[(vi aE), (vi aA), (vi aB), (vu aC), (vs aD)] 175)) xb ?_)))
 intro p1 w1 hn1
 replace h := h p1 w1 hn1
 refine q0 (vi 0) (q0 (vi 0) (wpL_nil (th_n (wpE_seq (rg ?_)))))
 obtain ⟨v1, hv2, h⟩ := h
 refine q2 (vp v1) (xl (Try.isAgg223 _) hv2) ?_
 obtain ⟨aM, aN, aO, aP, aQ, hv1, h⟩ := h
 refine q2 (.agg #[(vi aM), (vi aN), (vi aO), (vu aP), (vs aQ)]) (x_loadA (a := p1) (vs := [(vi aM), (vi aN), (vi aO), (vu aP), (vs aQ)]) (by kernel_rfl) (Try.isAgg175 _) (Try.sizeOf175 _) rfl hv1) (q0 (.func (.func 189) #[] #[(vp (some cap2)), (vp (some p1))]) ?_)
 refine st_call (want0 rfl) (xc Try.call183) (h.mono ?_)
 rintro e w2 ⟨r1, r2, rfl, h⟩
 refine ⟨_, rfl, ?_⟩
 refine q0 (vi r1) (q0 (vi r2) (q0 (vi r1) (q0 (vi r2) (wpL_nil (th_n (wpE_ret (res2 (.inl rfl) Try.results188 (v := (vi r1)) (by kernel_rfl) (v' := (vi r2)) (by kernel_rfl) ?_)))))))
 exact ⟨r1, r2, rfl, h⟩
def m_recipe_cook_kitchen_11_1 (who1 a1 : Int) (cap1 cap2 : Addr) (w0 : World) (K : Int → Int → World → Prop) : Prop :=
 ∃ C1 : World → Prop, C1 w0.drew ∧ ∀ w1, w1 = w0.drew →
 ∃ v1 : Option Addr, (∀ w', C1 w' → w'.cell? cap1 = some (vp v1)) ∧
 ∃ v2 : Int, (∀ w', C1 w' → w'.cell? (cap2.add 3) = some (vu v2)) ∧
 Calls Try.prog 187 #[(vu v2)] w1 (fun e w2 => ∃ r1 : Int, e = .returned (vi r1) ∧ C1 w2 ∧ 
  Kept None w1 w2 ∧
  Calls Try.prog 190 #[(vp v1), (vi r1), (vi who1), (vi a1)] w2 (fun e w3 => ∃ r2 r3 : Int, e = .returned (.tuple #[(vi r2), (vi r3)]) ∧ C1 w3 ∧ 
   Kept None w2 w3 ∧
   K r2 r3 w3))
theorem w_recipe_cook_kitchen_11_1 (who1 a1 : Int) (cap1 cap2 : Addr) (w0 : World) (K : Int → Int → World → Prop) (h : m_recipe_cook_kitchen_11_1 who1 a1 cap1 cap2 w0 K) :
  Calls Try.prog 189 #[(vi who1), (vi a1), (vp (some cap1)), (vp (some cap2))] w0 (fun e w' => ∃ r4 r5 : Int, e = .returned (.tuple #[(vi r4), (vi r5)]) ∧ K r4 r5 w') := by
 unfold m_recipe_cook_kitchen_11_1 at h
 refine calls_of_wpE (args := [(vi who1), (vi a1), (vp (some cap1)), (vp (some cap2))]) Try.func189 rfl Try.ntmps189 (Nat.le_of_ble_eq_true rfl) ?_
 have hs := Hst.start w0
 have hb := HB.nil None w0
 refine wpE_seq (rg (q0 (vi 0) (q0 (vi 0) (wpL_nil (th_n (wpE_seq ?_))))))
 obtain ⟨C1, hC, h⟩ := h
 refine wpE_drawnC C1 [3, 6] [] (by kernel_rfl) (by kernel_rfl) (by kernel_rfl) (by kernel_rfl) hC ?_
 clear hC
 intro w1 hw1
 replace h := h w1 hw1
 replace hs : Hst w0 None w0 None w1 := by rw [hw1]; exact hs.drew
 replace hb : HB None w1 [] := by rw [hw1]; exact hb.drew
 replace hs := hs.here
 refine qgo (k := 0) (by kernel_rfl) ?_
 obtain ⟨v1, hv2, h⟩ := h
 refine sx (v := (vp v1)) Kp0 (want0 rfl) (by kernel_rfl) (fun w' hw' => (xl (Try.isAgg25 _) (hv2 w' hw'))) (qx 1 (vp (some (cap2.add 3))) Kp1 (qgo (k := 2) (by kernel_rfl) ?_))
 obtain ⟨v2, hv1, h⟩ := h
 refine sx (v := (vu v2)) Kp2 (want0 rfl) (by kernel_rfl) (fun w' hw' => (xl (Try.isAgg38 _) (hv1 w' hw'))) (qx 4 (vi who1) Kp4 (qx 5 (vi a1) Kp5 (lgo (k := 3) (by kernel_rfl) ?_)))
 refine sl_call Kp3 (want0 rfl) (by kernel_rfl) (xc Try.call187) (h.mono ?_)
 rintro e w2 ⟨r1, rfl, hC, hk, h⟩
 refine ⟨_, rfl, .inr hC, ?_⟩
 obtain ⟨hs, hb⟩ := hk.hh hs hb
 refine lgo (k := 6) (by kernel_rfl) ?_
 refine sl_call Kp6 (want0 rfl) (by kernel_rfl) (xc Try.call190) (h.mono ?_)
 rintro e w3 ⟨r2, r3, rfl, hC, hk, h⟩
 refine ⟨_, rfl, .inr hC, ?_⟩
 obtain ⟨hs, hb⟩ := hk.hh hs hb
 refine qx 7 (vi r2) Kp7 (qx 8 (vi r3) Kp8 (qx 9 (vi r2) Kp9 (qx 10 (vi r3) (pickA (S8 (pickS (pickS pickZ)))) (wpX_nil (by kernel_rfl) (th_n (wpE_ret (res2 (.inl rfl) Try.results189 (v := (vi r2)) (by kernel_rfl) (v' := (vi r3)) (by kernel_rfl) ?_)))))))
 exact ⟨r2, r3, rfl, h⟩
end Go.Proofs
end
section
open Go Go.SE
namespace Go.Proofs
attribute [local irreducible] Calls
abbrev DoPost (p : Addr) (F : Nat → Prop) (w : World) (R : Sp.Res) (e : Ending) (w' : World) : Prop :=
 ∃ r1 : Int, ∃ r2 : Int, e = .returned (.tuple #[.int .i64 r1, .int .i64 r2]) ∧ ((r1, r2) = (R.1, R.2.1) ∧ ∃ F', PoolAt w' p R.2.2 F' ∧ Ext F w w' ∧ ∀ b, F' b → F b ∨ w.heap.size ≤ b)
section
variable (p : Addr) (w0 : World) {L : Sp.Pool} {F : Nat → Prop} (hP : PoolAt w0 p L F) (hok : Sp.Ok L)
include hP hok
theorem c_Prom (n t a : Int) : Calls Try.prog 186 #[.pointer (some p), .int .i64 n, .int .i64 t, .int .i64 a] w0 (MakePost p L F w0 ⟨8, n, t, 0, ⟨#[]⟩, a, 0⟩) := by
 refine w_term_Pool_Prom _ _ _ _ w0 (fun r1 r2 w' => (r1, r2) = ((Sp.make L ⟨8, n, t, 0, ⟨#[]⟩, a, 0⟩).1, (Sp.make L ⟨8, n, t, 0, ⟨#[]⟩, a, 0⟩).2.1) ∧ ∃ F', PoolAt w' p (Sp.make L ⟨8, n, t, 0, ⟨#[]⟩, a, 0⟩).2.2 F' ∧ Ext F w0 w' ∧ ∀ b, F' b → F b ∨ w0.heap.size ≤ b) ?_
 unfold m_term_Pool_Prom
 refine (c_Make p _ _ _ _ _ _ _ w0 hP hok).mono ?_
 rintro _ w1 ⟨r1, r2, rfl, h⟩
 exact ⟨r1, r2, rfl, h⟩
theorem c_Fake (n t a : Int) : Calls Try.prog 190 #[.pointer (some p), .int .i64 n, .int .i64 t, .int .i64 a] w0 (MakePost p L F w0 ⟨9, n, t, 0, ⟨#[]⟩, a, 0⟩) := by
 refine w_term_Pool_Fake _ _ _ _ w0 (fun r1 r2 w' => (r1, r2) = ((Sp.make L ⟨9, n, t, 0, ⟨#[]⟩, a, 0⟩).1, (Sp.make L ⟨9, n, t, 0, ⟨#[]⟩, a, 0⟩).2.1) ∧ ∃ F', PoolAt w' p (Sp.make L ⟨9, n, t, 0, ⟨#[]⟩, a, 0⟩).2.2 F' ∧ Ext F w0 w' ∧ ∀ b, F' b → F b ∨ w0.heap.size ≤ b) ?_
 unfold m_term_Pool_Fake
 refine (c_Make p _ _ _ _ _ _ _ w0 hP hok).mono ?_
 rintro _ w1 ⟨r1, r2, rfl, h⟩
 exact ⟨r1, r2, rfl, h⟩
theorem c_Data (x : ByteArray) : Calls Try.prog 174 #[.pointer (some p), .string x] w0 (MakePost p L F w0 ⟨3, 0, 0, 0, x, 0, 0⟩) := by
 refine w_term_Pool_Data _ _ w0 (fun r1 r2 w' => (r1, r2) = ((Sp.make L ⟨3, 0, 0, 0, x, 0, 0⟩).1, (Sp.make L ⟨3, 0, 0, 0, x, 0, 0⟩).2.1) ∧ ∃ F', PoolAt w' p (Sp.make L ⟨3, 0, 0, 0, x, 0, 0⟩).2.2 F' ∧ Ext F w0 w' ∧ ∀ b, F' b → F b ∨ w0.heap.size ≤ b) ?_
 unfold m_term_Pool_Data
 refine (c_Make p _ _ _ _ _ _ _ w0 hP hok).mono ?_
 rintro _ w1 ⟨r1, r2, rfl, h⟩
 exact ⟨r1, r2, rfl, h⟩
end
def oprow (o : Sp.Op) : List Value := [.int .i64 o.code, .int .i64 o.a, .int .i64 o.b, .int .u64 o.num, .string o.text]
def opv (o : Sp.Op) : Value := .agg #[.int .i64 o.code, .int .i64 o.a, .int .i64 o.b, .int .u64 o.num, .string o.text]
structure CookS (w : World) (c p : Addr) (sg sm : Sl) (G M : List Int) : Prop where
 box : Box w c [.pointer (some p), sg.v, sm.v] 225
 giv : Rws w 41 1 sg (tmr G)
 made : Rws w 41 1 sm (tmr M)
def CookF (c : Addr) (sg sm : Sl) (b : Nat) : Prop := b = c.block ∨ sg.blk b ∨ sm.blk b
section
variable {w w' : World} {c p : Addr} {sg sm : Sl} {G M : List Int}
theorem CookS.ext {X : Nat → Prop} (h : CookS w c p sg sm G M) (hE : Ext X w w') (hd : ∀ b, CookF c sg sm b → ¬ X b) : CookS w' c p sg sm G M :=
 ⟨h.box.ext hE (hd _ (.inl rfl)), h.giv.ext hE (fun b hb => hd _ (.inr (.inl hb))), h.made.ext hE (fun b hb => hd _ (.inr (.inr hb)))⟩
theorem CookS.pure (h : CookS w c p sg sm G M) (hE : Pure w w') : CookS w' c p sg sm G M := h.ext hE (fun _ _ h => h)
theorem CookS.lt (h : CookS w c p sg sm G M) {b : Nat} (hb : CookF c sg sm b) : b < w.heap.size := by
 rcases hb with rfl | hb | hb
 ·exact h.box.lt
 ·exact h.giv.lt hb
 ·exact h.made.lt hb
end
theorem tms_nth {w : World} {e : TypeId} {s : Sl} {ts : List Int} (h : Rws w e 1 s (tmr ts)) {i t : Int} (hi : Sp.atM ts i = some t) : ∃ a, At s i 1 a ∧ w.cell? a = some (.int .i64 t) := by
 obtain ⟨h0, h1, rfl⟩ := Sp.atM_some hi
 obtain ⟨a, h2, h3, _⟩ := h.at h0 (by simpa [tmr] using h1)
 exact ⟨a, h2, row_cell (by simpa [tmr] using h3)⟩
section
variable {w0 : World} {c p : Addr} {sg sm : Sl} {G M : List Int} (hC : CookS w0 c p sg sm G M)
include hC
theorem c_cook_at (i : Int) : Calls Try.prog 176 #[.pointer (some c), .int .i64 i] w0 (fun e w' => ∃ r : Int, ∃ ok : Bool, e = .returned (.tuple #[.int .i64 r, .bool ok]) ∧ ((match Sp.atM M i with | none => r = 0 ∧ ok = false | some t => r = t ∧ ok = true) ∧ w' = w0)) := by
 refine w_recipe_cook_at _ _ w0 (fun r ok w' => (match Sp.atM M i with | none => r = 0 ∧ ok = false | some t => r = t ∧ ok = true) ∧ w' = w0) ?_
 unfold m_recipe_cook_at
 have hl : sm.len = M.length := by rw [hC.made.len, tmr_len]
 refine ⟨fun h => ?_, fun h => ?_⟩
 ·rw [Sp.atM_out (.inl (of_decide_eq_true h))]; exact ⟨⟨rfl, rfl⟩, rfl⟩
 ·have h := of_decide_eq_false h
  refine ⟨c, rfl, sm, hC.box.cell rfl, fun h1 => ?_, fun h1 => ?_⟩
  ·rw [Sp.atM_out (.inr (by have := of_decide_eq_true h1; omega))]; exact ⟨⟨rfl, rfl⟩, rfl⟩
  ·have h1 := of_decide_eq_false h1
   have e : Sp.atM M i = some (M[i.toNat]'(by omega)) := Sp.atM_in (by omega) (by omega)
   obtain ⟨a, ha, hc⟩ := tms_nth hC.made e
   refine ⟨c, rfl, sm, hC.box.cell rfl, a, ha, _, hc, ?_⟩
   rw [e]; exact ⟨⟨rfl, rfl⟩, rfl⟩
variable {L : Sp.Pool} {F : Nat → Prop} (hP : PoolAt w0 p L F) (hok : Sp.Ok L)
include hP hok
theorem c_cook_node (i : Int) : Calls Try.prog 221 #[.pointer (some c), .int .i64 i] w0
  (fun e w' => ∃ k : Int, ∃ f : Int, ∃ t' : Int, ∃ u : Int, ∃ x : ByteArray, ∃ a : Int, ∃ b : Int, ∃ r : Bool, e = .returned (.tuple #[.agg #[.int .i64 k, .int .i64 f, .int .i64 t', .int .u64 u, .string x, .int .i64 a, .int .i64 b], .bool r]) ∧ (((⟨k, f, t', u, x, a, b⟩ : Sp.Node) = Sp.nodeAt L M i ∧ (r = false → Sp.nodeAt L M i = Sp.noNode)) ∧ Pure w0 w')) := by
 refine w_recipe_cook_node _ _ w0 (fun k f t' u x a b r w' => ((⟨k, f, t', u, x, a, b⟩ : Sp.Node) = Sp.nodeAt L M i ∧ (r = false → Sp.nodeAt L M i = Sp.noNode)) ∧ Pure w0 w') ?_
 unfold m_recipe_cook_node
 intro H1 w1 hs1
 have E1 := hs1.first
 refine (c_cook_at (hC.pure E1) i).mono ?_
 rintro _ _ ⟨r, ok, rfl, hr, rfl⟩
 refine ⟨_, _, rfl, Kept.refl _, ?_⟩
 unfold Sp.nodeAt
 cases ht : Sp.atM M i with
 | none =>
  rw [ht] at hr; obtain ⟨rfl, rfl⟩ := hr
  exact Br.t rfl (fun w3 hs3 => ⟨⟨rfl, fun _ => rfl⟩, E1.hst hs3⟩)
 | some t =>
  rw [ht] at hr; obtain ⟨rfl, rfl⟩ := hr
  refine Br.f rfl ⟨c, rfl, some p, (hC.pure E1).box.cell0, ?_⟩
  refine (c_Node p r _ (hP.pure E1) hok).mono ?_
  rintro _ w4 ⟨k, f, t', u, x, a, b, o, rfl, ⟨h1, h2⟩, E4⟩
  refine ⟨_, _, _, _, _, _, _, _, rfl, E4.keptP, fun w5 hs5 => ⟨⟨h1, fun ho => ?_⟩, (E1.trans E4).hst hs5⟩⟩
  exact Sp.nodeOf_out (h2.symm.trans ho)
theorem c_cook_part (o : Sp.Op) (s : Bool) : Calls Try.prog 179 #[.pointer (some c), opv o, .bool s] w0 (DoPost p F w0 (Sp.partOp L M o s)) := by
 obtain ⟨co, oa, ob, on, ox⟩ := o
 refine w_recipe_cook_part _ _ _ _ _ _ _ w0 (fun r1 r2 w' => (r1, r2) = ((Sp.partOp L M ⟨co, oa, ob, on, ox⟩ s).1, (Sp.partOp L M ⟨co, oa, ob, on, ox⟩ s).2.1) ∧ ∃ F', PoolAt w' p (Sp.partOp L M ⟨co, oa, ob, on, ox⟩ s).2.2 F' ∧ Ext F w0 w' ∧ ∀ b, F' b → F b ∨ w0.heap.size ≤ b) ?_
 unfold m_recipe_cook_part
 intro H1 w1 hs1
 have E1 := hs1.first
 refine (c_cook_node (hC.pure E1) (hP.pure E1) hok oa).mono ?_
 rintro _ w2 ⟨k, f, t', u, x, a, b, r, rfl, ⟨hn, hr⟩, E2⟩
 refine ⟨_, _, _, _, _, _, _, _, rfl, E2.keptP, ?_⟩
 have fin : ∀ {H' w'}, Hst w0 H1 w2 H' w' → ∃ F', PoolAt w' p L F' ∧ Ext F w0 w' ∧ ∀ b, F' b → F b ∨ w0.heap.size ≤ b := fun hs => by
  have E := (E1.trans E2).hst hs
  exact ⟨F, hP.pure E, E.pure, fun b hb => .inl hb⟩
 unfold Sp.partOp
 simp only
 rw [← hn] at hr ⊢
 refine ⟨fun h => fun H w hs => ?_, fun h => ?_⟩
 ·rw [if_neg]
  ·exact ⟨rfl, fin hs⟩
  ·intro h4
   simp only at h4
   subst h4
   have : r = false := by simpa using h
   have := hr this
   simp [Sp.noNode] at this
 ·have hk : k = 4 := by
   rw [Bool.or_eq_false_iff] at h
   simpa using h.2
  rw [if_pos hk]
  refine ⟨fun h => ?_, fun h => ?_⟩ <;> subst h <;> exact fun H w hs => ⟨rfl, fin hs⟩
theorem c_cook_shown (o : Sp.Op) : Calls Try.prog 181 #[.pointer (some c), opv o] w0 (DoPost p F w0 (Sp.shownOp L M o)) := by
 obtain ⟨co, oa, ob, on, ox⟩ := o
 refine w_recipe_cook_shown _ _ _ _ _ _ w0 (fun r1 r2 w' => (r1, r2) = ((Sp.shownOp L M ⟨co, oa, ob, on, ox⟩).1, (Sp.shownOp L M ⟨co, oa, ob, on, ox⟩).2.1) ∧ ∃ F', PoolAt w' p (Sp.shownOp L M ⟨co, oa, ob, on, ox⟩).2.2 F' ∧ Ext F w0 w' ∧ ∀ b, F' b → F b ∨ w0.heap.size ≤ b) ?_
 unfold m_recipe_cook_shown
 intro H1 w1 hs1
 have E1 := hs1.first
 refine (c_cook_node (hC.pure E1) (hP.pure E1) hok oa).mono ?_
 rintro _ w2 ⟨k, f, t', u, x, a, b, r, rfl, ⟨hn, hr⟩, E2⟩
 refine ⟨_, _, _, _, _, _, _, _, rfl, E2.keptP, ?_⟩
 have fin : ∀ {H' w'}, Hst w0 H1 w2 H' w' → ∃ F', PoolAt w' p L F' ∧ Ext F w0 w' ∧ ∀ b, F' b → F b ∨ w0.heap.size ≤ b := fun hs => by
  have E := (E1.trans E2).hst hs
  exact ⟨F, hP.pure E, E.pure, fun b hb => .inl hb⟩
 unfold Sp.shownOp
 simp only
 rw [← hn] at hr ⊢
 have hsk : Sp.showsK k = !((((k : Int) != 7) && ((k : Int) != 8)) && ((k : Int) != 9)) := by
  unfold Sp.showsK
  by_cases h7 : k = 7 <;> by_cases h8 : k = 8 <;> by_cases h9 : k = 9 <;> simp [bne, h7, h8, h9]
 refine ⟨fun h => fun H w hs => ?_, fun h => fun H w hs => ?_⟩
 ·rw [if_neg]
  ·exact ⟨rfl, fin hs⟩
  ·intro h4
   simp only at h4
   rw [hsk] at h4
   have h4' : ((((k : Int) != 7) && ((k : Int) != 8)) && ((k : Int) != 9)) = false := by simpa only [Bool.not_eq_true'] using h4
   rw [h4', Bool.or_false] at h
   have hrf : r = false := by simpa using h
   have hz := hr hrf
   simp only [Sp.noNode, Sp.Node.mk.injEq] at hz
   rw [hz.1] at h4'
   revert h4'; decide
 ·have hk : Sp.showsK k = true := by
   rw [Bool.or_eq_false_iff] at h
   rw [hsk, h.2]; rfl
  rw [if_pos hk]
  exact ⟨rfl, fin hs⟩
theorem c_cook_keyed (o : Sp.Op) (f1 : FuncId) (fs cs : Array Value) (mk : Int → Int → Sp.Node) (hf : ∀ args w, (callFunc f1 args).run Try.prog w = .ok (.enter f1 args) w)
  (how : ∀ (k a : Int) (w1 : World), Pure w0 w1 → Calls Try.prog f1 (fs ++ #[.int .i64 k, .int .i64 a] ++ cs) w1 (MakePost p L F w1 (mk k a))) :
  Calls Try.prog 183 #[.pointer (some c), opv o, .func (.func f1) fs cs] w0 (DoPost p F w0 (Sp.keyedOp L M o mk)) := by
 obtain ⟨co, oa, ob, on, ox⟩ := o
 refine w_recipe_cook_keyed _ _ _ _ _ _ _ w0 (fun r1 r2 w' => (r1, r2) = ((Sp.keyedOp L M ⟨co, oa, ob, on, ox⟩ mk).1, (Sp.keyedOp L M ⟨co, oa, ob, on, ox⟩ mk).2.1) ∧ ∃ F', PoolAt w' p (Sp.keyedOp L M ⟨co, oa, ob, on, ox⟩ mk).2.2 F' ∧ Ext F w0 w' ∧ ∀ b, F' b → F b ∨ w0.heap.size ≤ b) ?_
 unfold m_recipe_cook_keyed
 intro H1 w1 hs1
 have E1 := hs1.first
 refine (c_cook_at (hC.pure E1) oa).mono ?_
 rintro _ _ ⟨ra, oka, rfl, hra, rfl⟩
 refine ⟨_, _, rfl, Kept.refl _, ?_⟩
 refine (c_cook_node (hC.pure E1) (hP.pure E1) hok ob).mono ?_
 rintro _ w2 ⟨k, f, t', u, x, a, b, r, rfl, ⟨hn, hr⟩, E2⟩
 refine ⟨_, _, _, _, _, _, _, _, rfl, E2.keptP, ?_⟩
 have fin : ∀ {H' w'}, Hst w0 H1 w2 H' w' → ∃ F', PoolAt w' p L F' ∧ Ext F w0 w' ∧ ∀ b, F' b → F b ∨ w0.heap.size ≤ b := fun hs => by
  have E := (E1.trans E2).hst hs
  exact ⟨F, hP.pure E, E.pure, fun b hb => .inl hb⟩
 unfold Sp.keyedOp
 simp only
 rw [← hn] at hr ⊢
 have hrk : k = 6 → r = true := fun h6 => by
  cases r with
  | true => rfl
  | false => have := hr rfl; simp only [Sp.noNode, Sp.Node.mk.injEq] at this; omega
 cases ht : Sp.atM M oa with
 | none =>
  rw [ht] at hra; obtain ⟨rfl, rfl⟩ := hra
  exact Br.t (by simp) (fun H w hs => ⟨rfl, fin hs⟩)
 | some t =>
  rw [ht] at hra; obtain ⟨rfl, rfl⟩ := hra
  simp only
  refine ⟨fun h => fun H w hs => ?_, fun h => ?_⟩
  ·rw [if_neg]
   ·exact ⟨rfl, fin hs⟩
   ·intro h6
    rw [hrk h6, h6] at h
    revert h; decide
  ·have hk : k = 6 := by
    rw [Bool.or_eq_false_iff] at h
    simpa using h.2
   rw [if_pos hk]
   refine ⟨f1, fs, cs, rfl, fun H w hs => ⟨hf, ?_⟩⟩
   have E := (E1.trans E2).hst hs
   refine (how f ra w E).mono ?_
   rintro _ w9 ⟨r4, r5, rfl, h1, F', hP', X, hF'⟩
   exact ⟨r4, r5, rfl, X.kept (fun b hb hx => by have := hs.old b hb; have := hP.lt hx; omega), h1, F', hP', (E.pure (F := F)).trans X, fun b hb => (hF' b hb).imp_right (fun h => by have := E.size; omega)⟩
end
end Go.Proofs
end
