import Derived.Test.YtcldldjildmdlaaPa2
import Derived.Test.YtcldldjildmdlaaProg
import Derived.KernelRfl
import Derived.Test.YtcldldjildmdlaaPa0
import Derived.ProofKit
import Derived.Carry
import Derived.OpenShut
import Derived.Stop.Joined
section
open Go Go.SE
namespace Go.Proofs
attribute [local irreducible] Calls
theorem named_see (k : Int) {r : Int} (h : r = 1 ∨ r = 2 ∨ r = 3) : s_deduce_named k r = (true, false) := by
 rcases h with rfl | rfl | rfl <;> simp [s_deduce_named]
theorem named_make (k : Int) : s_deduce_named k 5 = (true, k != 5) := by simp [s_deduce_named]
theorem named_none (k : Int) {r : Int} (h : ¬ (r = 1 ∨ r = 2 ∨ r = 3)) (h5 : r ≠ 5) : s_deduce_named k r = (false, false) := by
 have h1 : r ≠ 1 := fun e => h (.inl e)
 have h2 : r ≠ 2 := fun e => h (.inr (.inl e))
 have h3 : r ≠ 3 := fun e => h (.inr (.inr e))
 have e1 : (r == 1) = false := by simpa using h1
 have e2 : (r == 2) = false := by simpa using h2
 have e3 : (r == 3) = false := by simpa using h3
 have e5 : (r == 5) = false := by simpa using h5
 simp [s_deduce_named, e1, e2, e3, e5]
theorem st_nth {S : Nat → Prop} {w : World} {s : Sl} {l : List Sp.Step} (h : Lst S w 4 s (l.map strow)) {v : Int} (h0 : 0 ≤ v) (hv : v.toNat < l.length) : ∃ a, At s v 4 a ∧ S a.block ∧ Row w a (strow l[v.toNat]) := by
 obtain ⟨a, h1, h2, h3⟩ := h.at_ v.toNat (by simpa using hv)
 refine ⟨a, ?_, h2, by simpa using h3⟩
 obtain ⟨q1, q2, b, q3, q4⟩ := h1
 rw [Int.toNat_natCast] at q4
 exact ⟨h0, by rw [h.len]; simp; omega, b, q3, q4⟩
theorem ahead_iff {n : Nat} {v : Int} : Sp.ahead n v = true ↔ 0 ≤ v ∧ v < n := by simp [Sp.ahead]
theorem tAt_take {l : List Sp.Step} {i : Nat} {v : Int} (h0 : 0 ≤ v) (hv : v < i) (hi : i ≤ l.length) : Sp.tAt (l.take i) v = (l[v.toNat]'(by omega)).t := by
 have : v.toNat < i := by omega
 simp [Sp.tAt, List.getElem?_take, this, show v.toNat < l.length by omega]
theorem c_ded_follows {Sg Ss : Nat → Prop} (p : Addr) (sg sl : Sl) (G : List Int) (l : List Sp.Step) (i : Nat) (w0 : World) {L : Sp.Pool} {FP : Nat → Prop} (hi : i < l.length) (hP : PoolAt w0 p L FP) (hok : Sp.Ok L) (hg : Lst Sg w0 1 sg (tmr G)) (hs : Lst Ss w0 4 sl (l.map strow)) (hG : G.length ≤ 1000000) :
  Calls Try.prog 109 #[.pointer (some p), sg.v, sl.v, .int .i64 i] w0 (fun e w' => ∃ r : Bool, e = .returned (.bool r) ∧ (r = Sp.fol L G (l.take i) l[i] ∧ Pure w0 w')) := by
 suffices key : ∀ K : Bool → World → Prop, (∀ w', Pure w0 w' → K (Sp.fol L G (l.take i) l[i]) w') → m_deduce_follows (some p) sg sl i w0 K from
  w_deduce_follows _ _ _ _ w0 _ (key _ (fun _ h => ⟨rfl, h⟩))
 intro K hK
 unfold m_deduce_follows
 obtain ⟨a1, at1, _, row1⟩ := st_nth hs (v := (i : Int)) (by omega) (by simpa using hi)
 have hti : ((i : Int).toNat) = i := by simp
 simp only [hti] at row1
 generalize hsi : l[i] = s at *
 obtain ⟨ru, va, vb, vt⟩ := s
 refine ⟨a1, at1, ru, va, vb, vt, row1, ?_⟩
 intro H1 w2 hs2
 have E2 := hs2.first
 refine (c_Node p vt w2 (hP.pure E2) hok).mono ?_
 rintro _ w3 ⟨nk, nf, nt, nu, nx, na, nb, ok, rfl, ⟨hn, rfl⟩, E3⟩
 have E03 := E2.trans E3
 refine ⟨_, _, _, _, _, _, _, _, rfl, E3.keptP, fun hc => ?_, fun hc => ?_⟩
 ·intro H2 w5 hs5
  have hin : Sp.inP L vt = false := by simpa using hc
  have := hK w5 (E03.hst hs5)
  unfold Sp.fol at this; rw [if_pos hin] at this; exact this
 have hin : ¬ Sp.inP L vt = false := by simpa using hc
 have hk1 : (Sp.nodeOf L vt).kind = nk := by rw [← hn]
 have hfr : (Sp.nodeOf L vt).frm = nf := by rw [← hn]
 have hto : (Sp.nodeOf L vt).to = nt := by rw [← hn]
 have ha : (Sp.nodeOf L vt).a = na := by rw [← hn]
 have hb : (Sp.nodeOf L vt).b = nb := by rw [← hn]
 have hlen : (l.take i).length = i := by rw [List.length_take]; omega
 have hfol : Sp.fol L G (l.take i) ⟨ru, va, vb, vt⟩ = (if ru = 0 then va == 0 && vb == 0 && decide (vt ∈ G)
   else if ru = 1 ∨ ru = 2 ∨ ru = 3 then Sp.ahead i va && vb == 0 && Sp.arisesB L ru (Sp.tAt (l.take i) va) vt
   else if ru = 4 then va == 0 && vb == 0 && Sp.freeK nk
   else if ru = 5 then
    if nk = 4 then Sp.ahead i va && Sp.ahead i vb && Sp.tAt (l.take i) va == na && Sp.tAt (l.take i) vb == nb
    else if nk = 5 then Sp.ahead i va && vb == 0 && Sp.tAt (l.take i) va == na
    else if Sp.showsK nk = true then Sp.ahead i va && Sp.ahead i vb && Sp.tAt (l.take i) va == na && (Sp.nodeOf L (Sp.tAt (l.take i) vb)).kind == 6 && (Sp.nodeOf L (Sp.tAt (l.take i) vb)).frm == Sp.whoOf (Sp.nodeOf L vt)
    else false
   else false) := by
  unfold Sp.fol; simp only; rw [if_neg hin, hlen, hk1, ha, hb]
 rw [hfol] at hK
 clear hfol
 have hfree : ((((nk : Int) == 1) || ((nk : Int) == 2)) || ((nk : Int) == 3)) = Sp.freeK nk := rfl
 have getS : ∀ (v : Int), 0 ≤ v → v < i → ∃ a, At sl v 4 a ∧ ∃ x, Sp.tAt (l.take i) v = x ∧ ∀ w, Pure w0 w → w.cell? (a.add 3) = some (.int .i64 x) := by
  intro v h0 hv
  obtain ⟨a, hat, _, hrow⟩ := st_nth hs h0 (by omega)
  refine ⟨a, hat, _, rfl, fun w E => ?_⟩
  have := (E.row hrow (fun h => h)) 3 (by simp [strow])
  rw [this, tAt_take h0 hv (by omega)]; rfl
 rintro y1 rfl
 by_cases hr : ru = 1 ∨ ru = 2 ∨ ru = 3
 ·-- it is seen
  have hr0 : ru ≠ 0 := by omega
  rw [if_neg hr0, if_pos hr] at hK
  rw [named_see nk hr]
  refine ⟨fun hy => ?_, fun hy => Br.t rfl ?_⟩
  ·intro H17 w21 hs21
   have hz : (Sp.ahead i va && vb == 0) = false := by
    simp at hy
    rcases hy with h | h
    ·simp [Sp.ahead]; omega
    ·simp [h]
   have := hK w21 (E03.hst hs21)
   rw [hz] at this; exact this
  ·have hab : (0 ≤ va ∧ va < i) ∧ vb = 0 := by simp at hy; omega
   obtain ⟨a7, at7, x, hx, c7⟩ := getS va hab.1.1 hab.1.2
   refine ⟨a7, at7, ?_⟩
   intro H33 w37 hs37
   have E37 := E03.hst hs37
   refine ⟨x, c7 w37 E37, ?_⟩
   refine (c_Node p x w37 (hP.pure E37) hok).mono ?_
   rintro _ w63 ⟨xk, xf, xt, xu, xx, xa, xb, _, rfl, ⟨hxn, _⟩, E63⟩
   refine ⟨_, _, _, _, _, _, _, _, rfl, E63.keptP, ?_⟩
   intro w64 hs64
   have E64 := (E37.trans E63).hst hs64
   unfold m_deduce_follows_j1
   rw [named_see nk hr]
   refine Br.f rfl ?_
   have hxk : (Sp.nodeOf L x).kind = xk := by rw [← hxn]
   have hxa : (Sp.nodeOf L x).a = xa := by rw [← hxn]
   have hxb : (Sp.nodeOf L x).b = xb := by rw [← hxn]
   have hahd : Sp.ahead i va = true := ahead_iff.2 hab.1
   rw [hahd, hab.2, hx] at hK
   unfold m_deduce_follows_j2
   unfold Sp.arisesB at hK
   simp only [hxk, hxa, hxb] at hK
   refine Br.f (by simpa using hr0) ⟨fun h => ?_, fun h => ⟨fun h2 => ?_, fun h2 => ⟨fun h3 => ?_, fun h3 => ?_⟩⟩⟩
   ·intro H35 w40 hs40
    have h : ru = 1 := by simpa using h
    subst h
    simpa using hK w40 (E64.hst hs40)
   ·intro H35 w40 hs40
    have h2 : ru = 2 := by simpa using h2
    subst h2
    simpa using hK w40 (E64.hst hs40)
   ·intro H35 w40 hs40
    have h3 : ru = 3 := by simpa using h3
    subst h3
    simpa [Sp.showsK] using hK w40 (E64.hst hs40)
   ·simp at h h2 h3; omega
 rw [if_neg hr] at hK
 by_cases h5 : ru = 5
 ·-- it is made
  subst h5
  rw [if_neg (by decide), if_neg (by decide), if_pos rfl] at hK
  rw [named_make nk]
  have hbad : ∀ w, Pure w0 w → (Sp.ahead i va = false ∨ (nk ≠ 5 ∧ Sp.ahead i vb = false) ∨ (nk = 5 ∧ vb ≠ 0)) → K false w := by
   intro w E hh
   have hKw := hK w E
   by_cases k4 : nk = 4
   ·rw [if_pos k4] at hKw
    rcases hh with h | ⟨_, h⟩ | ⟨h, _⟩
    ·simpa [h] using hKw
    ·simpa [h] using hKw
    ·omega
   ·rw [if_neg k4] at hKw
    by_cases k5 : nk = 5
    ·rw [if_pos k5] at hKw
     rcases hh with h | ⟨h, _⟩ | ⟨_, h⟩
     ·simpa [h] using hKw
     ·exact absurd k5 h
     ·have : (vb == 0) = false := by simpa using h
      simpa [this] using hKw
    ·rw [if_neg k5] at hKw
     split at hKw
     ·rcases hh with h | ⟨_, h⟩ | ⟨h, _⟩
      ·simpa [h] using hKw
      ·simpa [h] using hKw
      ·exact absurd h k5
     ·exact hKw
  refine ⟨fun hy => ?_, fun hy => Br.t rfl ?_⟩
  ·intro H17 w21 hs21
   refine hbad w21 (E03.hst hs21) ?_
   simp only [Bool.true_and, Bool.not_true, Bool.false_and, Bool.or_false, Bool.or_eq_true, Bool.and_eq_true, decide_eq_true_eq, bne_iff_ne, ne_eq, Bool.not_eq_true', bne_eq_false_iff_eq] at hy
   rcases hy with (h | ⟨h1, h2⟩) | ⟨h1, h2⟩
   ·left; simp [Sp.ahead]; omega
   ·right; left; exact ⟨h1, by simp [Sp.ahead]; omega⟩
   ·right; right; exact ⟨h1, h2⟩
  ·simp only [Bool.true_and, Bool.not_true, Bool.false_and, Bool.or_false, Bool.or_eq_false_iff, Bool.and_eq_false_imp, decide_eq_false_iff_not, bne_iff_ne, ne_eq, bne_eq_false_iff_eq, Bool.not_eq_true'] at hy
   obtain ⟨⟨⟨q1, q2⟩, q3⟩, q4⟩ := hy
   have hA : 0 ≤ va ∧ va < i := by omega
   have hahd : Sp.ahead i va = true := ahead_iff.2 hA
   rw [hahd] at hK
   simp only [Bool.true_and] at hK
   obtain ⟨a7, at7, x, hx, c7⟩ := getS va hA.1 hA.2
   rw [hx] at hK
   refine ⟨a7, at7, ?_⟩
   intro H33 w37 hs37
   have E37 := E03.hst hs37
   refine ⟨x, c7 w37 E37, ?_⟩
   refine (c_Node p x w37 (hP.pure E37) hok).mono ?_
   rintro _ w63 ⟨xk, xf, xt, xu, xx, xa, xb, _, rfl, ⟨hxn, _⟩, E63⟩
   refine ⟨_, _, _, _, _, _, _, _, rfl, E63.keptP, ?_⟩
   intro w64 hs64
   have E64 := (E37.trans E63).hst hs64
   unfold m_deduce_follows_j1
   rw [named_make nk]
   have J2 : ∀ (H : Nat → Prop) (w : World) (yk yf yt yu : Int) (yx : ByteArray) (ya yb : Int), Pure w0 w → Hst w0 H w H w → (nk ≠ 5 → 0 ≤ vb ∧ vb < i ∧ (⟨yk, yf, yt, yu, yx, ya, yb⟩ : Sp.Node) = Sp.nodeOf L (Sp.tAt (l.take i) vb)) → (nk = 5 → vb = 0) →
     m_deduce_follows_j2 sg sl 5 va vb vt nk nf nt na nb xk xa xb yk yf yt yu yx ya yb w0 H w K := by
    intro H w yk yf yt yu yx ya yb E hsw hy1 hy2
    unfold m_deduce_follows_j2
    refine Br.f rfl (Br.f rfl (Br.f rfl (Br.f rfl (Br.f rfl (Br.t rfl ⟨fun k4 => ?_, fun k4 => ⟨fun k5 => ?_, fun k5 => ?_⟩⟩)))))
    ·have k4 : nk = 4 := by simpa using k4
     obtain ⟨b0, bi, _⟩ := hy1 (by omega)
     obtain ⟨a4, at4, z, hz, c4⟩ := getS vb b0 bi
     rw [if_pos k4, ahead_iff.2 ⟨b0, bi⟩, hz] at hK
     refine ⟨a7, at7, ?_⟩
     intro w58 hs58
     have E58 := E.hst hs58
     refine ⟨x, c7 w58 E58, fun h => ⟨a4, at4, z, c4 w58 E58, ?_⟩, fun h => ?_⟩
     ·have h : (x == na) = true := h
      simpa [h] using hK w58 E58
     ·have h : (x == na) = false := h
      simpa [h] using hK w58 E58
    ·have k4 : ¬ nk = 4 := by simpa using k4
     have k5 : nk = 5 := by simpa using k5
     rw [if_neg k4, if_pos k5, hy2 k5] at hK
     refine ⟨a7, at7, ?_⟩
     intro w59 hs59
     have E59 := E.hst hs59
     refine ⟨x, c7 w59 E59, ?_⟩
     simpa using hK w59 E59
    ·have k4 : ¬ nk = 4 := by simpa using k4
     have k5 : ¬ nk = 5 := by simpa using k5
     obtain ⟨b0, bi, hyn⟩ := hy1 k5
     rw [if_neg k4, if_neg k5, ahead_iff.2 ⟨b0, bi⟩, ← hyn] at hK
     have J3 : ∀ (who : Int) (H : Nat → Prop) (w : World), Pure w0 w → Hst w0 H w H w → Sp.showsK nk = true → who = Sp.whoOf (Sp.nodeOf L vt) → m_deduce_follows_j3 sl va na yk yf who w0 H w K := by
      intro who H w E hsw h7 hw
      rw [if_pos h7, ← hw] at hK
      unfold m_deduce_follows_j3
      refine ⟨a7, at7, ?_⟩
      intro w57 hs57
      have E57 := E.hst hs57
      refine ⟨x, c7 w57 E57, fun h => ⟨fun h6 => ?_, fun h6 => ?_⟩, fun h => ?_⟩
      ·have h : (x == na) = true := h
       have h6 : (yk == 6) = true := h6
       simpa [h, h6] using hK w57 E57
      ·have h : (x == na) = true := h
       have h6 : (yk == 6) = false := h6
       simpa [h, h6] using hK w57 E57
      ·have h : (x == na) = false := h
       simpa [h] using hK w57 E57
     refine ⟨fun k9 => ?_, fun k9 => ⟨fun k7 => ?_, fun k7 => ?_⟩⟩
     ·have k9 : nk = 9 := by simpa using k9
      exact J3 nt H w E hsw (by rw [k9]; rfl) (by unfold Sp.whoOf; rw [hk1, if_pos k9, hto])
     ·have k9 : ¬ nk = 9 := by simpa using k9
      have k7 : Sp.showsK nk = true := by
       unfold Sp.showsK; cases h7 : (nk == 7) <;> cases h8 : (nk == 8) <;> simp_all
      intro H52 w60 hs60
      exact J3 nf H52 w60 (E.hst hs60) hs60.here k7 (by unfold Sp.whoOf; rw [hk1, if_neg k9, hfr])
     ·have k9 : ¬ nk = 9 := by simpa using k9
      have k7 : Sp.showsK nk = false := by
       unfold Sp.showsK; cases h7 : (nk == 7) <;> cases h8 : (nk == 8) <;> simp_all
      intro H52 w60 hs60
      rw [if_neg (by simp [k7])] at hK
      exact hK w60 (E.hst hs60)
   have hs64' := hs64.here
   refine ⟨fun h => ?_, fun h => ?_⟩
   ·have k5 : nk ≠ 5 := by simpa using h
    have hB : 0 ≤ vb ∧ vb < i := by have := q3 k5; omega
    obtain ⟨a6, at6, z, hz, c6⟩ := getS vb hB.1 hB.2
    refine ⟨a6, at6, z, c6 w64 E64, ?_⟩
    refine (c_Node p z w64 (hP.pure E64) hok).mono ?_
    rintro _ w61 ⟨yk, yf, yt, yu, yx, ya, yb, _, rfl, ⟨hyn, _⟩, E61⟩
    refine ⟨_, _, _, _, _, _, _, _, rfl, E61.keptP, ?_⟩
    intro w62 hs62
    exact J2 _ w62 _ _ _ _ _ _ _ ((E64.trans E61).hst hs62) hs62.here (fun _ => ⟨hB.1, hB.2, by rw [hz]; exact hyn⟩) (fun h => absurd h k5)
   ·have k5 : nk = 5 := by simpa using h
    exact J2 _ w64 _ _ _ _ _ _ _ E64 hs64' (fun h => absurd k5 h) (fun _ => q4 k5)
 rw [if_neg h5] at hK
 rw [named_none nk hr h5]
 refine ⟨fun hy => ?_, fun hy => Br.f rfl ?_⟩
 ·intro H17 w21 hs21
  have hz : (va == 0 && vb == 0) = false := by
   cases h1 : (va == 0) <;> cases h2 : (vb == 0) <;> simp_all
  have := hK w21 (E03.hst hs21)
  rw [hz] at this
  simpa using this
 ·have hz : va = 0 ∧ vb = 0 := by simp at hy; omega
  rw [hz.1, hz.2] at hK
  intro H33 w37 hs37
  have E37 := E03.hst hs37
  unfold m_deduce_follows_j1
  rw [named_none nk hr h5]
  refine Br.f rfl ?_
  unfold m_deduce_follows_j2
  refine ⟨fun h0 => ?_, fun h0 => Br.f (by simpa using fun e => hr (.inl e)) (Br.f (by simpa using fun e => hr (.inr (.inl e))) (Br.f (by simpa using fun e => hr (.inr (.inr e))) ⟨fun h4 => ?_, fun h4 => Br.f (by simpa using h5) ?_⟩))⟩
  ·have h0 : ru = 0 := by simpa using h0
   rw [if_pos h0] at hK
   refine (c_slContains sg G vt w37 (hg.pure E37) hG).mono ?_
   rintro _ w38 ⟨r2, rfl, rfl, rfl⟩
   exact ⟨_, rfl, Kept.refl _, by simpa using hK w38 E37⟩
  ·have h0 : ¬ ru = 0 := by simpa using h0
   have h4 : ru = 4 := by simpa using h4
   rw [if_neg h0, if_pos h4] at hK
   intro H49 w54 hs54
   simpa [Sp.freeK] using hK w54 (E37.hst hs54)
  ·have h0 : ¬ ru = 0 := by simpa using h0
   have h4 : ¬ ru = 4 := by simpa using h4
   rw [if_neg h0, if_neg h4] at hK
   exact hK w37 E37
theorem bad_step {L : Sp.Pool} {G : List Int} {l : List Sp.Step} {j n : Nat} (hj : j < l.length) : Sp.badAt L G l (n + 1) j = if Sp.fol L G (l.take j) l[j] = true then Sp.badAt L G l n (j + 1) else some j := by
 rw [Sp.badAt, List.getElem?_eq_getElem hj]
theorem bad_end {L : Sp.Pool} {G : List Int} {l : List Sp.Step} {j n : Nat} (hj : l.length ≤ j) : Sp.badAt L G l n j = none := by
 cases n with
 | zero => rfl
 | succ n => rw [Sp.badAt, List.getElem?_eq_none hj]
theorem c_ded_Check {Sg Ss : Nat → Prop} (p : Addr) (sg sl : Sl) (G : List Int) (l : List Sp.Step) (goal : Int) (w0 : World) {L : Sp.Pool} {FP : Nat → Prop} (hP : PoolAt w0 p L FP) (hok : Sp.Ok L) (hg : Lst Sg w0 1 sg (tmr G)) (hs : Lst Ss w0 4 sl (l.map strow)) (hG : G.length ≤ 1000000) (hl : l.length ≤ 1000000) :
  Calls Try.prog 56 #[.pointer (some p), sg.v, sl.v, .int .i64 goal] w0 (fun e w' => ∃ r1 : Int, ∃ r2 : Int, e = .returned (.tuple #[.int .i64 r1, .int .i64 r2]) ∧ ((r1, r2) = Sp.check8 L G l goal ∧ Pure w0 w')) := by
 suffices key : ∀ K : Int → Int → World → Prop, (∀ r1 r2 w', (r1, r2) = Sp.check8 L G l goal → Pure w0 w' → K r1 r2 w') → m_deduce_Check (some p) sg sl goal w0 K from
  w_deduce_Check _ _ _ _ w0 _ (key _ (fun r1 r2 w' h E => ⟨h, E⟩))
 intro K hK
 unfold m_deduce_Check
 have hsl : sl.len = l.length := by rw [hs.len]; simp
 refine Br.f rfl ⟨fun i w => ∃ j : Nat, i = j ∧ j ≤ l.length ∧ Pure w0 w ∧ Sp.badAt L G l l.length 0 = Sp.badAt L G l (l.length - j) j, fun i _ => ((l.length : Int) - i).toNat, ⟨0, rfl, Nat.zero_le _, Ext.refl _, by simp⟩, ?_⟩
 rintro _ wl ⟨j, rfl, hj, E, hb⟩
 unfold m_deduce_Check_l1
 refine ⟨fun h => ?_, fun h => ?_⟩
 ·have hlt := lt_of_dec hsl h
  refine (c_ded_follows p sg sl G l j wl hlt (hP.pure E) hok (hg.pure E) (hs.pure E) hG).mono ?_
  rintro _ w1 ⟨r, rfl, rfl, E1⟩
  have hn : l.length - j = (l.length - (j + 1)) + 1 := by omega
  rw [hn, bad_step hlt] at hb
  refine ⟨_, rfl, fun hc => ?_, fun hc => ?_⟩
  ·have hf : Sp.fol L G (l.take j) l[j] = false := by simpa using hc
   rw [if_neg (by simp [hf])] at hb
   exact hK _ _ _ (by unfold Sp.check8; rw [hb]) (E.trans E1)
  ·have hf : Sp.fol L G (l.take j) l[j] = true := by simpa using hc
   rw [if_pos hf] at hb
   rw [wrap_succ hlt (by omega)]
   exact ⟨⟨j + 1, rfl, hlt, E.trans E1, hb⟩, lt_dec hlt⟩
 ·have hge := eq_of_dec hsl hj h
  subst hge
  rw [bad_end (Nat.le_refl _)] at hb
  have hch : Sp.check8 L G l goal = if l.length = 0 ∨ Sp.tAt l ((l.length : Int) - 1) ≠ goal then (81, (l.length : Int)) else (0, 0) := by unfold Sp.check8; rw [hb]
  rw [hsl]
  refine ⟨fun h0 => ?_, fun h0 => ?_⟩
  ·have h0 : l.length = 0 := by simpa using h0
   exact hK _ _ _ (by rw [hch, if_pos (.inl h0)]) E
  ·have h0 : l.length ≠ 0 := by simpa using h0
   rw [IntWalk.i64_in _ (by omega)]
   obtain ⟨a, hat, _, hrow⟩ := st_nth hs (v := (l.length : Int) - 1) (by omega) (by omega)
   have e : ((l.length : Int) - 1) = ((l.length - 1 : Nat) : Int) := by omega
   have ht : Sp.tAt l ((l.length : Int) - 1) = (l[((l.length : Int) - 1).toNat]'(by omega)).t := by
    simp only [e, Int.toNat_natCast]
    exact Sp.tAt_of (by omega)
   refine ⟨a, hat, _, ((E.row hrow (fun h => h)) 3 (by simp [strow])).trans rfl, fun h => ?_, fun h => ?_⟩
   ·have h : Sp.tAt l ((l.length : Int) - 1) ≠ goal := by rw [ht]; simpa using h
    exact hK _ _ _ (by rw [hch, if_pos (.inr h)]) E
   ·have h : Sp.tAt l ((l.length : Int) - 1) = goal := by rw [ht]; simpa using h
    exact hK _ _ _ (by rw [hch, if_neg (by simp [h0, h])]) E
end Go.Proofs
end
section
open Go Go.SE
namespace Go.Sp
def l8a : Node := ⟨2, 0, 0, 1, ⟨#[]⟩, 0, 0⟩
def l8b : Node := ⟨1, 2, 0, 0, ⟨#[]⟩, 0, 0⟩
def l8c : Node := ⟨4, 0, 0, 0, ⟨#[]⟩, 1, 2⟩
def l8s : Node := ⟨7, 0, 0, 0, ⟨#[]⟩, 3, 0⟩
def l8h : Node := ⟨5, 0, 0, 0, ⟨#[]⟩, 1, 0⟩
def l8k : Node := ⟨6, 0, 0, 0, ⟨#[]⟩, 0, 0⟩
def l8u : Node := ⟨7, 0, 0, 0, ⟨#[]⟩, 1, 0⟩
def l81 : Pool := [⟨l8a, 1, 1⟩]
def l82 : Pool := [⟨l8a, 1, 1⟩, ⟨l8b, 1, 1⟩]
def l83 : Pool := [⟨l8a, 1, 1⟩, ⟨l8b, 1, 1⟩, ⟨l8c, 3, 2⟩]
def l84 : Pool := [⟨l8a, 1, 1⟩, ⟨l8b, 1, 1⟩, ⟨l8c, 3, 2⟩, ⟨l8s, 4, 3⟩]
def l85 : Pool := [⟨l8a, 1, 1⟩, ⟨l8b, 1, 1⟩, ⟨l8c, 3, 2⟩, ⟨l8s, 4, 3⟩, ⟨l8h, 2, 2⟩]
def l86 : Pool := [⟨l8a, 1, 1⟩, ⟨l8b, 1, 1⟩, ⟨l8c, 3, 2⟩, ⟨l8s, 4, 3⟩, ⟨l8h, 2, 2⟩, ⟨l8k, 1, 1⟩]
def l87 : Pool := [⟨l8a, 1, 1⟩, ⟨l8b, 1, 1⟩, ⟨l8c, 3, 2⟩, ⟨l8s, 4, 3⟩, ⟨l8h, 2, 2⟩, ⟨l8k, 1, 1⟩, ⟨l8u, 2, 2⟩]
theorem l8m1 : make [] l8a = (1, 0, l81) := by kernel_rfl
theorem l8m2 : make l81 l8b = (2, 0, l82) := by kernel_rfl
theorem l8m3 : make l82 l8c = (3, 0, l83) := by kernel_rfl
theorem l8m4 : make l83 l8s = (4, 0, l84) := by kernel_rfl
theorem l8m5 : make l84 l8h = (5, 0, l85) := by kernel_rfl
theorem l8m6 : make l85 l8k = (6, 0, l86) := by kernel_rfl
theorem l8m7 : make l86 l8u = (7, 0, l87) := by kernel_rfl
theorem l8w1 : Wf l81 := by have := make_wf Wf.nil l8a; rwa [l8m1] at this
theorem l8w2 : Wf l82 := by have := make_wf l8w1 l8b; rwa [l8m2] at this
theorem l8w3 : Wf l83 := by have := make_wf l8w2 l8c; rwa [l8m3] at this
theorem l8w4 : Wf l84 := by have := make_wf l8w3 l8s; rwa [l8m4] at this
theorem l8w5 : Wf l85 := by have := make_wf l8w4 l8h; rwa [l8m5] at this
theorem l8w6 : Wf l86 := by have := make_wf l8w5 l8k; rwa [l8m6] at this
theorem l8w7 : Wf l87 := by have := make_wf l8w6 l8u; rwa [l8m7] at this
theorem l8n : nodeOf l87 1 = l8a ∧ nodeOf l87 2 = l8b ∧ nodeOf l87 3 = l8c ∧ nodeOf l87 4 = l8s ∧ nodeOf l87 5 = l8h ∧ nodeOf l87 6 = l8k ∧ nodeOf l87 7 = l8u := ⟨by kernel_rfl, by kernel_rfl, by kernel_rfl, by kernel_rfl, by kernel_rfl, by kernel_rfl, by kernel_rfl⟩
theorem l8in : inP l87 4 = true ∧ inP l87 6 = true ∧ inP l87 99 = false := ⟨by kernel_rfl, by kernel_rfl, by kernel_rfl⟩
theorem l8key : keyOf l87 0 = (6, true) := by kernel_rfl
theorem l8see {G : List Int} (hG : ∀ t ∈ G, t = 4 ∨ t = 6) {t : Int} (h : Seen l87 G t) : (t = 4 ∨ t = 3 ∨ t = 1 ∨ t = 2) ∨ t = 6 := by
 induction h with
 | given hg => rcases hG _ hg with h | h <;> simp [h]
 | «from» _ ha ih =>
  obtain ⟨n1, n2, n3, n4, _, n6, _⟩ := l8n
  rcases ih with (rfl | rfl | rfl | rfl) | rfl
  ·unfold Arises at ha; rw [n4] at ha; simp [l8s, showsK] at ha; left; omega
  ·unfold Arises at ha; rw [n3] at ha; simp [l8c, showsK] at ha; left; omega
  ·unfold Arises at ha; rw [n1] at ha; simp [l8a, showsK] at ha
  ·unfold Arises at ha; rw [n2] at ha; simp [l8b, showsK] at ha
  ·unfold Arises at ha; rw [n6] at ha; simp [l8k, showsK] at ha
theorem l8see6 {t : Int} (h : Seen l87 [4] t) : t = 4 ∨ t = 3 ∨ t = 1 ∨ t = 2 := by
 induction h with
 | given hg => simp at hg; simp [hg]
 | «from» _ ha ih =>
  obtain ⟨n1, n2, n3, n4, _, _, _⟩ := l8n
  rcases ih with rfl | rfl | rfl | rfl
  ·unfold Arises at ha; rw [n4] at ha; simp [l8s, showsK] at ha; omega
  ·unfold Arises at ha; rw [n3] at ha; simp [l8c, showsK] at ha; omega
  ·unfold Arises at ha; rw [n1] at ha; simp [l8a, showsK] at ha
  ·unfold Arises at ha; rw [n2] at ha; simp [l8b, showsK] at ha
theorem l8seen {G : List Int} (h : 4 ∈ G) : Seen l87 G 1 := by
 obtain ⟨_, _, n3, n4, _, _, _⟩ := l8n
 refine .from (r := 1) (u := 3) (.from (r := 3) (u := 4) (.given h) (.inr (.inr ⟨rfl, ?_, ?_⟩))) (.inl ⟨rfl, ?_, ?_⟩)
 ·rw [n4]; rfl
 ·rw [n4]; rfl
 ·rw [n3]; rfl
 ·rw [n3]; rfl
theorem l8hash {K : Int → Prop} : Drv l87 K 5 := by
 obtain ⟨n1, _, _, _, n5, _, _⟩ := l8n
 refine .hash (by rw [n5]; rfl) (.free ?_)
 rw [n5]; show freeK (nodeOf l87 1).kind = true; rw [n1]; rfl
theorem l8u_no {K : Int → Prop} (h7 : ¬ K 7) (h6 : ¬ K 6) : ¬ Drv l87 K 7 := fun h => by
 obtain ⟨_, _, _, _, _, _, n7⟩ := l8n
 rcases h.inv with h | h | ⟨h, _⟩ | ⟨h, _⟩ | ⟨_, _, _, h⟩
 ·exact h7 h
 ·rw [n7] at h; cases h
 ·rw [n7] at h; cases h
 ·rw [n7] at h; cases h
 ·rw [n7] at h
  have : keyOf l87 (whoOf l8u) = (6, true) := l8key
  rw [this] at h; exact h6 h
theorem l8u_yes {K : Int → Prop} (h6 : K 6) : Drv l87 K 7 := by
 obtain ⟨n1, _, _, _, _, _, n7⟩ := l8n
 have hk : keyOf l87 (whoOf l8u) = (6, true) := l8key
 refine .signed (by rw [n7]; rfl) (.free ?_) (by rw [n7, hk]) (by rw [n7, hk]; exact h6)
 rw [n7]; show freeK (nodeOf l87 1).kind = true; rw [n1]; rfl
theorem KnowOk.nil (L : Pool) : KnowOk L [] [] := ⟨⟨by simp [wkeys], by simp [wkeys], fun i hi => by simp at hi⟩, by simp [wkeys], by simp, by simp⟩
end Go.Sp
end
section
open Go Go.SE
namespace Go.Proofs
set_option maxRecDepth 100000
set_option maxHeartbeats 4000000
attribute [local irreducible] wpL wpX opE wpE Calls
end Go.Proofs
end
section
open Go Go.SE
namespace Go.Proofs
attribute [local irreducible] Calls
theorem kind_cases (k : Int) : (k = 1 ∨ k = 2 ∨ k = 3 ∨ k = 4 ∨ k = 5 ∨ k = 6 ∨ k = 7 ∨ k = 8 ∨ k = 9) ∨ (Sp.shapeOf k = Sp.noShape ∧ Sp.isKind k = false ∧ ∀ m : Int, 1 ≤ m → m ≤ 9 → (k == m) = false) := by
 by_cases h : k = 1 ∨ k = 2 ∨ k = 3 ∨ k = 4 ∨ k = 5 ∨ k = 6 ∨ k = 7 ∨ k = 8 ∨ k = 9
 ·exact .inl h
 ·right
  refine ⟨?_, ?_, fun m h1 h2 => ?_⟩
  ·unfold Sp.shapeOf; repeat rw [if_neg (by omega)]
  ·unfold Sp.isKind; apply Bool.eq_false_iff.2; intro h3; simp at h3; omega
  ·rw [beq_eq_false_iff_ne]; omega
end Go.Proofs
end
section
open Go Go.SE
namespace Go.Proofs
attribute [local irreducible] Calls
def rnode (e : Sp.Ent) : List Value := nrow e.node
def rsize (e : Sp.Ent) : List Value := [.int .i64 e.size]
def rdepth (e : Sp.Ent) : List Value := [.int .i64 e.depth]
structure PoolRS (w : World) (p : Addr) (L : Sp.Pool) (s1 s2 s3 : Sl) : Prop where
 box : Box w p [s1.v, s2.v, s3.v] 71
 r1 : Rws w 106 7 s1 (L.map rnode)
 r2 : Rws w 3 1 s2 (L.map rsize)
 r3 : Rws w 3 1 s3 (L.map rdepth)
 n1 : ¬ s1.blk p.block
 n2 : ¬ s2.blk p.block
 n3 : ¬ s3.blk p.block
 d12 : ∀ b, s1.blk b → ¬ s2.blk b
 d13 : ∀ b, s1.blk b → ¬ s3.blk b
 d23 : ∀ b, s2.blk b → ¬ s3.blk b
def PoolR (w : World) (p : Addr) (L : Sp.Pool) (F : Nat → Prop) : Prop := ∃ s1 s2 s3, PoolRS w p L s1 s2 s3 ∧ ∀ b, F b ↔ (b = p.block ∨ s1.blk b ∨ s2.blk b ∨ s3.blk b)
theorem PoolR.ext {G : Nat → Prop} {w w' : World} {p : Addr} {L : Sp.Pool} {F : Nat → Prop} (h : PoolR w p L F) (hE : Ext G w w') (hd : ∀ b, F b → ¬ G b) : PoolR w' p L F := by
 obtain ⟨s1, s2, s3, h, hF⟩ := h
 exact ⟨s1, s2, s3, ⟨h.box.ext hE (hd _ ((hF _).2 (.inl rfl))), h.r1.ext hE (fun b hb => hd _ ((hF _).2 (.inr (.inl hb)))), h.r2.ext hE (fun b hb => hd _ ((hF _).2 (.inr (.inr (.inl hb))))), h.r3.ext hE (fun b hb => hd _ ((hF _).2 (.inr (.inr (.inr hb))))), h.n1, h.n2, h.n3, h.d12, h.d13, h.d23⟩, hF⟩
theorem PoolR.pure {w w' : World} {p : Addr} {L : Sp.Pool} {F : Nat → Prop} (h : PoolR w p L F) (hE : Pure w w') : PoolR w' p L F := h.ext hE (fun _ _ h => h)
theorem PoolR.lt {w : World} {p : Addr} {L : Sp.Pool} {F : Nat → Prop} (h : PoolR w p L F) {b : Nat} (hb : F b) : b < w.heap.size := by
 obtain ⟨s1, s2, s3, h, hF⟩ := h
 rcases (hF b).1 hb with rfl | hb | hb | hb
 ·exact h.box.lt
 ·exact h.r1.lt hb
 ·exact h.r2.lt hb
 ·exact h.r3.lt hb
theorem PoolRS.at1 {w : World} {p : Addr} {L : Sp.Pool} {s1 s2 s3 : Sl} (h : PoolRS w p L s1 s2 s3) {t : Int} (ht : Sp.inP L t = true) (hok : Sp.Ok L) : ∃ e, Sp.get L t = some e ∧
  (∃ a, At s1 (IntKind.i64.wrap (t - 1)) 7 a ∧ Row w a (rnode e)) ∧ (∃ a, At s2 (IntKind.i64.wrap (t - 1)) 1 a ∧ Row w a (rsize e)) ∧ (∃ a, At s3 (IntKind.i64.wrap (t - 1)) 1 a ∧ Row w a (rdepth e)) := by
 obtain ⟨e, he, _, hi, hLe⟩ := Sp.get_some ht
 have hin := Sp.inP_iff.1 ht
 have hf := hok.few
 have hw : IntKind.i64.wrap (t - 1) = ((t - 1).toNat : Int) := by rw [i64 (by omega) (by omega)]; omega
 obtain ⟨a1, h1, g1⟩ := h.r1.nth (j := (t - 1).toNat) hi
 obtain ⟨a2, h2, g2⟩ := h.r2.nth (j := (t - 1).toNat) hi
 obtain ⟨a3, h3, g3⟩ := h.r3.nth (j := (t - 1).toNat) hi
 rw [hLe] at g1 g2 g3
 rw [hw]
 exact ⟨e, he, ⟨a1, h1, g1⟩, ⟨a2, h2, g2⟩, ⟨a3, h3, g3⟩⟩
end Go.Proofs
end
section
open Go Go.SE
namespace Go.Proofs
attribute [local irreducible] Calls
end Go.Proofs
end
section
open Go Go.SE
namespace Go.Proofs
attribute [local irreducible] Calls
def trow (t : Sp.Tree) (s : Sl) : List Value := [.int .i64 t.node.kind, .int .i64 t.node.frm, .int .i64 t.node.to, .int .u64 t.node.num, .string t.node.text, s.v]
inductive TreeAt (S : Nat → Prop) (w : World) : Sl → Sp.Tree → Prop
 | mk (k f t u : Int) (x : ByteArray) (ks : List Sp.Tree) (s : Sl) (rs : Nat → Sl) (len : s.len = ks.length) (fit : ks.length ≤ 9223372036854775807)
   (row : ∀ i (h : i < ks.length), ∃ a, At s i 6 a ∧ S a.block ∧ Row w a (trow ks[i] (rs i))) (kid : ∀ i (h : i < ks.length), TreeAt S w (rs i) ks[i]) : TreeAt S w s (.mk k f t u x ks)
theorem TreeAt.ext {S F : Nat → Prop} {w w' : World} {s : Sl} {t : Sp.Tree} (h : TreeAt S w s t) (hE : Ext F w w') (hd : ∀ b, S b → ¬ F b) : TreeAt S w' s t := by
 induction h with
 | mk k f t u x ks s rs len fit row kid ih =>
  exact .mk k f t u x ks s rs len fit (fun i h => let ⟨a, h1, h2, h3⟩ := row i h; ⟨a, h1, h2, hE.row h3 (hd _ h2)⟩) ih
theorem TreeAt.pure {S : Nat → Prop} {w w' : World} {s : Sl} {t : Sp.Tree} (h : TreeAt S w s t) (hE : Pure w w') : TreeAt S w' s t := h.ext hE (fun _ _ h => h)
theorem TreeAt.mono {S S' : Nat → Prop} {w : World} {s : Sl} {t : Sp.Tree} (h : TreeAt S w s t) (hd : ∀ b, S b → S' b) : TreeAt S' w s t := by
 induction h with
 | mk k f t u x ks s rs len fit row kid ih =>
  exact .mk k f t u x ks s rs len fit (fun i h => let ⟨a, h1, h2, h3⟩ := row i h; ⟨a, h1, hd _ h2, h3⟩) ih
theorem TreeAt.lt {S : Nat → Prop} {w : World} {s : Sl} {t : Sp.Tree} (h : TreeAt S w s t) : TreeAt (fun b => S b ∧ b < w.heap.size) w s t := by
 induction h with
 | mk k f t u x ks s rs len fit row kid ih =>
  refine .mk k f t u x ks s rs len fit (fun i h => let ⟨a, h1, h2, h3⟩ := row i h; ⟨a, h1, ⟨h2, ?_⟩, h3⟩) ih
  have := h3 0 (by simp [trow])
  unfold World.cell? at this
  refine Classical.byContradiction fun hge => ?_
  have : w.heap[(a.add 0).block]? = none := by rw [add_block]; exact Array.getElem?_eq_none (by omega)
  simp_all [trow]
end Go.Proofs
end
section
open Go Go.SE
namespace Go.Proofs
attribute [local irreducible] Calls
theorem c_New (w : World) : Calls Try.prog 27 #[] w (fun e w' => ∃ r : Option Addr, e = .returned (.pointer r) ∧ ∃ p, r = some p ∧ Pure w w' ∧ ∃ F, PoolAt w' p [] F ∧ ∀ b, F b → w.heap.size ≤ b) := by
 refine w_term_New w (fun r w' => ∃ p, r = some p ∧ Pure w w' ∧ ∃ F, PoolAt w' p [] F ∧ ∀ b, F b → w.heap.size ≤ b) ?_
 unfold m_term_New
 intro p1 w1 h1 p2 w2 h2
 have E1 : Pure w w1 := Ext.new h1
 have m2 : CMap w2 p1.block [] := (CMap.of_new h1).ext (Ext.new h2 : Pure w1 w2) id
 have n12 : p1.block ≠ p2.block := New.ne h2 h1.block_new
 refine ⟨p2, rfl, E1.trans (Ext.new h2), fun b => b = p2.block ∨ Sl.nil.blk b ∨ b = p1.block, ⟨Sl.nil, p1.block, ⟨Box.of_new h2, by simpa using Rws.nil _ _ _, by simpa [pmap] using m2, n12, ?_, ?_⟩, fun _ => Iff.rfl⟩, ?_⟩
 ·rintro ⟨a, h, _⟩; cases h
 ·rintro ⟨a, h, _⟩; cases h
 ·rintro b (rfl | ⟨a, h, _⟩ | rfl)
  ·exact New.own E1 h2
  ·cases h
  ·exact New.own (Ext.refl w) h1
end Go.Proofs
end
section
open Go Go.SE
namespace Go.Proofs
attribute [local irreducible] Calls
end Go.Proofs
end
section
open Go Go.SE
namespace Go.Proofs
attribute [local irreducible] Calls
end Go.Proofs
end
section
open Go Go.SE
namespace Go.Proofs
attribute [local irreducible] Calls
end Go.Proofs
end
section
namespace Go.Sp
inductive Good : Tree → Prop
 | mk (k f t u : Int) (x : ByteArray) (ks : List Tree) (own : ownErr ⟨k, f, t, u, x, 0, 0⟩ ks.length = 0) (kids : ∀ i (hi : i < ks.length), Good ks[i]) : Good (.mk k f t u x ks)
theorem Good.inv {k f t u : Int} {x : ByteArray} {ks : List Tree} (h : Good (.mk k f t u x ks)) : plainErr ⟨k, f, t, u, x, 0, 0⟩ = 0 ∧ (ks.length : Int) = (shapeOf k).kids ∧ fieldsErr (shapeOf k) ⟨k, f, t, u, x, 0, 0⟩ = 0 ∧ ∀ i (hi : i < ks.length), Good ks[i] := by
 cases h with
 | mk _ _ _ _ _ _ own kids =>
  unfold ownErr at own
  simp only at own
  by_cases hp : plainErr ⟨k, f, t, u, x, 0, 0⟩ = 0
  ·rw [if_pos hp] at own
   by_cases hl : (ks.length : Int) ≠ (shapeOf k).kids
   ·rw [if_pos hl] at own; simp at own
   ·rw [if_neg hl] at own
    simp at own
    exact ⟨hp, by simpa using hl, own, kids⟩
  ·rw [if_neg hp, if_neg hp] at own; exact absurd own hp
end Go.Sp
end
section
namespace Go.Sp
mutual
def cnt : Tree → Nat
 | .mk _ _ _ _ _ ks => 1 + cntAll ks
def cntAll : List Tree → Nat
 | [] => 0
 | t :: ts => cnt t + cntAll ts
end
mutual
def parts (most : Int) : Tree → Int
 | .mk _ _ _ _ _ ks => partsAll most 1 ks
def partsAll (most n : Int) : List Tree → Int
 | [] => n
 | t :: ts => if n ≤ most then partsAll most (n + parts (most - n) t) ts else n
end
mutual
def same : Tree → Tree → Bool
 | .mk k f t u x ks, .mk k' f' t' u' x' ks' => decide (k = k') && decide (f = f') && decide (t = t') && decide (u = u') && decide (x = x') && sameAll ks ks'
def sameAll : List Tree → List Tree → Bool
 | [], [] => true
 | t :: ts, t' :: ts' => same t t' && sameAll ts ts'
 | _, _ => false
end
end Go.Sp
end
section
open Go Go.SE
namespace Go.Proofs
attribute [local irreducible] Calls
theorem TreeAt.hst {S : Nat → Prop} {w0 w w' : World} {H H' : Nat → Prop} {s : Sl} {t : Sp.Tree} (h : TreeAt S w s t) (hs : Hst w0 H w H' w') (hd : ∀ b, S b → b < w.heap.size ∧ ¬ H b) : TreeAt S w' s t :=
 h.ext hs.ext (fun b hb hh => hs.disj (G := S) hd b hb hh)
end Go.Proofs
end
section
open Go Go.SE
namespace Go.Proofs
attribute [local irreducible] wpL wpX opE wpE Calls
end Go.Proofs
end
section
open Go Go.SE
namespace Go.Proofs
set_option maxRecDepth 100000
set_option maxHeartbeats 4000000
attribute [local irreducible] wpL wpX opE wpE Calls
def s_law08_num (e1 : Int) : Int :=
 e1
theorem pw_law08_num (e1 : Int) (w0 : World) :
  Calls Try.prog 59 #[(vi e1)] w0 (fun e w' => (e = .returned (vi e1)) ∧ Pure w0 w') := by
 refine calls_of_wpE (args := [(vi e1)]) Try.func59 rfl Try.ntmps59 (Nat.le_of_ble_eq_true rfl) (wpE_seq (rg (q0 (vi 0) (wpL_nil (th_n (wpE_seq (rg (q0 (vi e1) (q0 (vi e1) (wpL_nil (th_n ?_)))))))))))
 refine wpE_ret (res1 (.inl rfl) Try.results59 (v := (vi e1)) (by kernel_rfl) ?_)
 exact ⟨by kernel_rfl, Ext.refl _⟩
theorem p_law08_num (e1 : Int) (w0 : World) : Calls Try.prog 59 #[(.int .i64 e1)] w0 (fun e w' => e = .returned (.int .i64 (s_law08_num e1)) ∧ Pure w0 w') := pw_law08_num e1 w0
def m_law08_live_j4 (r2 : Option Addr) (x4 : Bool) (w0 : World) (H : Nat → Prop) (w : World) (K : Bool → World → Prop) : Prop :=
 Br x4
  (Calls Try.prog 60 #[(vp r2), (vi 99)] w (fun e w29 => ∃ r26 : Int, e = .returned (vi r26) ∧ 
   Kept H w w29 ∧
   ∀ (w30 : World), Hst w0 H w29 H w30 →
   K (r26 == 51) w30))
  (K false w)
def m_law08_live_j3 (r2 : Option Addr) (r25 : Int) (x3 : Bool) (w0 : World) (H : Nat → Prop) (w : World) (K : Bool → World → Prop) : Prop :=
 Br (x3 && (r25 == 0))
  (∀ (H7 : Nat → Prop) (w28 : World), Hst w0 H w H7 w28 →
  Calls Try.prog 61 #[(vp r2)] w28 (fun e w31 => ∃ r27 : Sl, e = .returned r27.v ∧ 
   Kept H7 w28 w31 ∧
   m_law08_live_j4 r2 (((r27.len : Int) : Int) == 2) w0 H7 w31 K))
  (∀ (H7 : Nat → Prop) (w28 : World), Hst w0 H w H7 w28 →
  m_law08_live_j4 r2 false w0 H7 w28 K)
def m_law08_live_j2 (r2 : Option Addr) (r3 r25 : Int) (x2 : Bool) (w0 : World) (H : Nat → Prop) (w : World) (K : Bool → World → Prop) : Prop :=
 Br x2
  (Calls Try.prog 63 #[(vp r2), (vi r3)] w (fun e w32 => ∃ r28 : Bool, e = .returned (vb r28) ∧ 
   Kept H w w32 ∧
   m_law08_live_j3 r2 r25 r28 w0 H w32 K))
  (m_law08_live_j3 r2 r25 false w0 H w K)
def m_law08_live_j1 (r2 : Option Addr) (r3 r15 r25 : Int) (x1 : Bool) (w0 : World) (H : Nat → Prop) (w : World) (K : Bool → World → Prop) : Prop :=
 Br x1
  (Calls Try.prog 63 #[(vp r2), (vi r15)] w (fun e w33 => ∃ r29 : Bool, e = .returned (vb r29) ∧ 
   Kept H w w33 ∧
   m_law08_live_j2 r2 r3 r25 (!r29) w0 H w33 K))
  (m_law08_live_j2 r2 r3 r25 false w0 H w K)
def m_law08_live  (w0 : World) (K : Bool → World → Prop) : Prop :=
 Calls Try.prog 27 #[] w0 (fun e w1 => ∃ r1 : Option Addr, e = .returned (vp r1) ∧ 
  Kept None w0 w1 ∧
  Calls Try.prog 58 #[(vp r1)] w1 (fun e w2 => ∃ r2 : Option Addr, e = .returned (vp r2) ∧ 
   Kept None w1 w2 ∧
   Br ((Option.isNone r1) || (Option.isNone r2))
    (∀ (H1 : Nat → Prop) (w3 : World), Hst w0 None w2 H1 w3 →
    K false w3)
    (∀ (H1 : Nat → Prop) (w3 : World), Hst w0 None w2 H1 w3 →
    Calls Try.prog 99 #[(vp r1), (vu 1)] w3 (fun e w4 => ∃ r3 r4 : Int, e = .returned (.tuple #[(vi r3), (vi r4)]) ∧ 
     Kept H1 w3 w4 ∧
     Calls Try.prog 79 #[(vp r1), (vi 2)] w4 (fun e w5 => ∃ r5 r6 : Int, e = .returned (.tuple #[(vi r5), (vi r6)]) ∧ 
      Kept H1 w4 w5 ∧
      Calls Try.prog 80 #[(vp r1), (vi r3), (vi r5)] w5 (fun e w6 => ∃ r7 r8 : Int, e = .returned (.tuple #[(vi r7), (vi r8)]) ∧ 
       Kept H1 w5 w6 ∧
       Calls Try.prog 110 #[(vp r1), (vi 0), (vi r7)] w6 (fun e w7 => ∃ r9 r10 : Int, e = .returned (.tuple #[(vi r9), (vi r10)]) ∧ 
        Kept H1 w6 w7 ∧
        Calls Try.prog 111 #[(vp r1), (vi r3)] w7 (fun e w8 => ∃ r11 r12 : Int, e = .returned (.tuple #[(vi r11), (vi r12)]) ∧ 
         Kept H1 w7 w8 ∧
         Calls Try.prog 112 #[(vp r1), (vi 0)] w8 (fun e w9 => ∃ r13 r14 : Int, e = .returned (.tuple #[(vi r13), (vi r14)]) ∧ 
          Kept H1 w8 w9 ∧
          Calls Try.prog 110 #[(vp r1), (vi 0), (vi r3)] w9 (fun e w10 => ∃ r15 r16 : Int, e = .returned (.tuple #[(vi r15), (vi r16)]) ∧ 
           Kept H1 w9 w10 ∧
           Calls Try.prog 60 #[(vp r2), (vi r9)] w10 (fun e w11 => ∃ r17 : Int, e = .returned (vi r17) ∧ 
            Kept H1 w10 w11 ∧
            Calls Try.prog 55 #[(vp r2), (vi r11)] w11 (fun e w12 => ∃ r18 : Sl, ∃ r19 : Bool, e = .returned (.tuple #[r18.v, (vb r19)]) ∧ 
             Kept H1 w11 w12 ∧
             ∀ (p1 : Addr) (w13 : World), New w12 (.cells #[(vi r9)] 32) p1 w13 →
             Calls Try.prog 56 #[(vp r1), (Sl.mk (some p1) 1 1).v, r18.v, (vi r11)] w13 (fun e w14 => ∃ r20 r21 : Int, e = .returned (.tuple #[(vi r20), (vi r21)]) ∧ 
              Kept H1 w13 w14 ∧
              Calls Try.prog 64 #[(vp r2), (vi r15)] w14 (fun e w15 => ∃ r22 : Bool, e = .returned (vb r22) ∧ 
               Kept H1 w14 w15 ∧
               Calls Try.prog 60 #[(vp r2), (vi r13)] w15 (fun e w16 => ∃ r23 : Int, e = .returned (vi r23) ∧ 
                Kept H1 w15 w16 ∧
                Calls Try.prog 56 #[(vp r1), Sl.nil.v, Sl.nil.v, (vi r11)] w16 (fun e w17 => ∃ r24 r25 : Int, e = .returned (.tuple #[(vi r24), (vi r25)]) ∧ 
                 Kept H1 w16 w17 ∧
                 ∀ y1 : Bool, y1 = (((((r17 == 0) && (r23 == 0)) && (decide ((r18.len : Int) > 0))) && r19) && (r20 == 0)) →
                 Br (y1 && (!r22))
                  (∀ (H6 : Nat → Prop) (w27 : World), Hst w0 H1 w17 H6 w27 →
                  Calls Try.prog 64 #[(vp r2), (vi r15)] w27 (fun e w34 => ∃ r30 : Bool, e = .returned (vb r30) ∧ 
                   Kept H6 w27 w34 ∧
                   m_law08_live_j1 r2 r3 r15 r25 r30 w0 H6 w34 K))
                  (∀ (H6 : Nat → Prop) (w27 : World), Hst w0 H1 w17 H6 w27 →
                  m_law08_live_j1 r2 r3 r15 r25 false w0 H6 w27 K)))))))))))))))))
theorem w_law08_live  (w0 : World) (K : Bool → World → Prop) (h : m_law08_live  w0 K) :
  Calls Try.prog 57 #[] w0 (fun e w' => ∃ r31 : Bool, e = .returned (vb r31) ∧ K r31 w') := by
 unfold m_law08_live at h
 refine calls_of_wpE (args := []) Try.func57 rfl Try.ntmps57 (Nat.le_of_ble_eq_true rfl) ?_
 have hs := Hst.start w0
 have hb := HB.nil None w0
 refine wpE_seq (rg (q0 (vb false) (wpL_nil (th_n (wpE_seq (rg ?_))))))
 refine st_call (want0 rfl) (xc Try.call27) (h.mono ?_)
 rintro e w1 ⟨r1, rfl, hk, h⟩
 refine ⟨_, rfl, ?_⟩
 obtain ⟨hs, hb⟩ := hk.hh hs hb
 refine q0 (vp r1) (wpL_nil (th_n (wpE_seq (rg (q0 (vp r1) ?_)))))
 refine st_call (want0 rfl) (xc Try.call58) (h.mono ?_)
 rintro e w2 ⟨r2, rfl, hk, h⟩
 refine ⟨_, rfl, ?_⟩
 obtain ⟨hs, hb⟩ := hk.hh hs hb
 refine q0 (vp r2) (wpL_nil (th_n (wpE_seq (wpE_seq ?_))))
 refine wpE_via (fun ρ wJ => ∃ b1'0 : Bool, ∃ HJ : Nat → Prop, ((Option.isNone r1) = b1'0) ∧ Hst w0 None w2 HJ wJ ∧ HB HJ wJ [] ∧ Has ρ [(1, (vp r1)), (2, (vp r2)), (34, (vb (b1'0 || (Option.isNone r2))))]) ?_ ?_
 ·skip
  refine rg (q0 (vp r1) (q2 (vb (Option.isNone r1)) (x_ptreq (by kernel_rfl) rfl Try.underlying36) (q0 (vb (Option.isNone r1)) ?_)))
  rcases Bool.eq_false_or_eq_true (Option.isNone r1) with hg2 | hg2
  ·skip
   refine sk (yD 31 hg2) (sk (yD 31 hg2) (q2 (vb true) (xT hg2) (wpL_nil (th_n ?_))))
   exact ⟨true, _, hg2, hs, hb, Has.mk (by kernel_rfl)⟩
  ·skip
   refine q1 (vp r2) (want1 rfl (yD 31 hg2)) (stp (v := (vb (Option.isNone r2))) (want1 rfl (yD 31 hg2)) (x_ptreq (by kernel_rfl) rfl Try.underlying37) (q2 (vb (Option.isNone r2)) (xF hg2) (wpL_nil (th_n ?_))))
   exact ⟨false, _, hg2, hs, hb, Has.mk (by kernel_rfl)⟩
 ·clear hs hb
  rintro ρ w3 ⟨b1'0, H1, he0, hs, hb, hH⟩
  subst he0
  refine norm_has hH ?_
  clear hH
  refine th_n ?_
  refine wpE_cond (t := ((Option.isNone r1) || (Option.isNone r2))) (by kernel_rfl) (fun hc1 => ?_) (fun hc1 => ?_)
  ·replace h := h.1 hc1
   refine wpE_seq (rg (q0 (vb false) (wpL_nil (th_n (wpE_ret (th_r ?_))))))
   replace h := h H1 w3 hs
   replace hs := hs.here
   refine res1 (.inl rfl) Try.results57 (v := (vb false)) (by kernel_rfl) ?_
   exact ⟨false, rfl, h⟩
  ·replace h := h.2 hc1
   refine wpE_skip (th_n (wpE_seq (rg (q0 (vp r1) ?_))))
   replace h := h H1 w3 hs
   replace hs := hs.here
   refine st_call (want0 rfl) (xc Try.call99) (h.mono ?_)
   rintro e w4 ⟨r3, r4, rfl, hk, h⟩
   refine ⟨_, rfl, ?_⟩
   obtain ⟨hs, hb⟩ := hk.hh hs hb
   refine q0 (.tuple #[(vi r3), (vi r4)]) (q0 (vi r3) (q0 (vi r4) (q0 (vi r3) (q0 (vi r4) (wpL_nil (th_n (wpE_seq (rg (q0 (vp r1) ?_)))))))))
   refine st_call (want0 rfl) (xc Try.call79) (h.mono ?_)
   rintro e w5 ⟨r5, r6, rfl, hk, h⟩
   refine ⟨_, rfl, ?_⟩
   obtain ⟨hs, hb⟩ := hk.hh hs hb
   refine q0 (.tuple #[(vi r5), (vi r6)]) (q0 (vi r5) (q0 (vi r6) (q0 (vi r5) (q0 (vi r6) (wpL_nil (th_n (wpE_seq (rg (q0 (vp r1) (q0 (vi r3) (q0 (vi r5) ?_)))))))))))
   refine st_call (want0 rfl) (xc Try.call80) (h.mono ?_)
   rintro e w6 ⟨r7, r8, rfl, hk, h⟩
   refine ⟨_, rfl, ?_⟩
   obtain ⟨hs, hb⟩ := hk.hh hs hb
   refine q0 (.tuple #[(vi r7), (vi r8)]) (q0 (vi r7) (q0 (vi r8) (q0 (vi r7) (q0 (vi r8) (wpL_nil (th_n (wpE_seq (rg (q0 (vp r1) (q0 (vi r7) ?_))))))))))
   refine st_call (want0 rfl) (xc Try.call110) (h.mono ?_)
   rintro e w7 ⟨r9, r10, rfl, hk, h⟩
   refine ⟨_, rfl, ?_⟩
   obtain ⟨hs, hb⟩ := hk.hh hs hb
   refine q0 (.tuple #[(vi r9), (vi r10)]) (q0 (vi r9) (q0 (vi r10) (q0 (vi r9) (q0 (vi r10) (wpL_nil (th_n (wpE_seq (rg (q0 (vp r1) (q0 (vi r3) ?_))))))))))
   refine st_call (want0 rfl) (xc Try.call111) (h.mono ?_)
   rintro e w8 ⟨r11, r12, rfl, hk, h⟩
   refine ⟨_, rfl, ?_⟩
   obtain ⟨hs, hb⟩ := hk.hh hs hb
   refine q0 (.tuple #[(vi r11), (vi r12)]) (q0 (vi r11) (q0 (vi r12) (q0 (vi r11) (q0 (vi r12) (wpL_nil (th_n (wpE_seq (rg (q0 (vp r1) ?_)))))))))
   refine st_call (want0 rfl) (xc Try.call112) (h.mono ?_)
   rintro e w9 ⟨r13, r14, rfl, hk, h⟩
   refine ⟨_, rfl, ?_⟩
   obtain ⟨hs, hb⟩ := hk.hh hs hb
   refine q0 (.tuple #[(vi r13), (vi r14)]) (q0 (vi r13) (q0 (vi r14) (q0 (vi r13) (q0 (vi r14) (wpL_nil (th_n (wpE_seq (rg (q0 (vp r1) (q0 (vi r3) ?_))))))))))
   refine st_call (want0 rfl) (xc Try.call110) (h.mono ?_)
   rintro e w10 ⟨r15, r16, rfl, hk, h⟩
   refine ⟨_, rfl, ?_⟩
   obtain ⟨hs, hb⟩ := hk.hh hs hb
   refine q0 (.tuple #[(vi r15), (vi r16)]) (q0 (vi r15) (q0 (vi r16) (q0 (vi r15) (q0 (vi r16) (wpL_nil (th_n (wpE_seq (rg (q0 (vp r2) (q0 (vi r9) ?_))))))))))
   refine st_call (want0 rfl) (xc Try.call60) (h.mono ?_)
   rintro e w11 ⟨r17, rfl, hk, h⟩
   refine ⟨_, rfl, ?_⟩
   obtain ⟨hs, hb⟩ := hk.hh hs hb
   refine q0 (vi r17) (wpL_nil (th_n (wpE_seq (rg (q0 (vp r2) (q0 (vi r11) ?_))))))
   refine st_call (want0 rfl) (xc Try.call55) (h.mono ?_)
   rintro e w12 ⟨r18, r19, rfl, hk, h⟩
   refine ⟨_, rfl, ?_⟩
   obtain ⟨hs, hb⟩ := hk.hh hs hb
   refine q0 (.tuple #[r18.v, (vb r19)]) (q0 r18.v (q0 (vb r19) (q0 r18.v (q0 (vb r19) (wpL_nil (th_n (wpE_seq (rg (q0 (vp r1) (q0 (vi r9) (st_new (O := (.cells #[(vi r9)] 32)) (fun p => (Sl.mk (some p) 1 1).v) (want0 rfl) (x_buildSlice (vs := #[(0, (vi r9))]) (by kernel_rfl) (by kernel_rfl)) ?_)))))))))))
   intro p1 w13 hn1
   replace h := h p1 w13 hn1
   replace hs := hs.again (Ext.new (F := None) hn1).keptP
   replace hb := hb.kept (Ext.new (F := None) hn1).keptP
   refine q0 r18.v (q0 (vi r11) ?_)
   refine st_call (want0 rfl) (xc Try.call56) (h.mono ?_)
   rintro e w14 ⟨r20, r21, rfl, hk, h⟩
   refine ⟨_, rfl, ?_⟩
   obtain ⟨hs, hb⟩ := hk.hh hs hb
   refine q0 (.tuple #[(vi r20), (vi r21)]) (q0 (vi r20) (q0 (vi r21) (q0 (vi r20) (q0 (vi r21) (wpL_nil (th_n (wpE_seq (rg (q0 (vp r2) (q0 (vi r15) ?_))))))))))
   refine st_call (want0 rfl) (xc Try.call64) (h.mono ?_)
   rintro e w15 ⟨r22, rfl, hk, h⟩
   refine ⟨_, rfl, ?_⟩
   obtain ⟨hs, hb⟩ := hk.hh hs hb
   refine q0 (vb r22) (wpL_nil (th_n (wpE_seq (rg (q0 (vp r2) (q0 (vi r13) ?_))))))
   refine st_call (want0 rfl) (xc Try.call60) (h.mono ?_)
   rintro e w16 ⟨r23, rfl, hk, h⟩
   refine ⟨_, rfl, ?_⟩
   obtain ⟨hs, hb⟩ := hk.hh hs hb
   refine q0 (vi r23) (wpL_nil (th_n (wpE_seq (rg (q0 (vp r1) (q0 (vi r11) ?_))))))
   refine st_call (want0 rfl) (xc Try.call56) (h.mono ?_)
   rintro e w17 ⟨r24, r25, rfl, hk, h⟩
   refine ⟨_, rfl, ?_⟩
   obtain ⟨hs, hb⟩ := hk.hh hs hb
   refine q0 (.tuple #[(vi r24), (vi r25)]) (q0 (vi r24) (q0 (vi r25) (q0 (vi r24) (q0 (vi r25) (wpL_nil (th_n (wpE_seq (rg (q0 (vi r17) ?_)))))))))
   refine st_call (want0 rfl) (xc Try.call59) ((p_law08_num r17 w17).mono ?_)
   rintro e w18 ⟨he, hE⟩
   refine ⟨(vi r17), he.trans (by kernel_rfl), ?_⟩
   replace hs := hs.pure hE
   replace hb := hb.pure hE
   clear hE he
   refine q0 (vb (r17 == 0)) (q0 (vb (r17 == 0)) ?_)
   refine wpL_join 4 (fun ρ wJ => ∃ b2'0 : Bool, ∃ HJ : Nat → Prop, ((r17 == 0) = b2'0) ∧ Hst w0 H1 w17 HJ wJ ∧ HB HJ wJ [] ∧ Has ρ [(2, (vp r2)), (3, (vi r3)), (15, (vi r15)), (18, r18.v), (19, (vb r19)), (20, (vi r20)), (22, (vb r22)), (25, (vi r25)), (112, (vb (b2'0 && (r23 == 0))))]) ?_ ?_
   ·clear hs hb
    rintro ρ w20 ⟨b2'0, H2, he0, hs, hb, hH⟩
    subst he0
    refine wpL_has hH ?_
    clear hH
    refine q0 (vb ((r17 == 0) && (r23 == 0))) ?_
    refine wpL_join 4 (fun ρ wJ => ∃ b3'0 : Bool, ∃ HJ : Nat → Prop, (((r17 == 0) && (r23 == 0)) = b3'0) ∧ Hst w0 H1 w17 HJ wJ ∧ HB HJ wJ [] ∧ Has ρ [(2, (vp r2)), (3, (vi r3)), (15, (vi r15)), (19, (vb r19)), (20, (vi r20)), (22, (vb r22)), (25, (vi r25)), (117, (vb (b3'0 && (decide ((r18.len : Int) > 0)))))]) ?_ ?_
    ·clear hs hb
     rintro ρ w22 ⟨b3'0, H3, he0, hs, hb, hH⟩
     subst he0
     refine wpL_has hH ?_
     clear hH
     refine q0 (vb (((r17 == 0) && (r23 == 0)) && (decide ((r18.len : Int) > 0)))) ?_
     refine wpL_join 2 (fun ρ wJ => ∃ b4'0 : Bool, ∃ HJ : Nat → Prop, ((((r17 == 0) && (r23 == 0)) && (decide ((r18.len : Int) > 0))) = b4'0) ∧ Hst w0 H1 w17 HJ wJ ∧ HB HJ wJ [] ∧ Has ρ [(2, (vp r2)), (3, (vi r3)), (15, (vi r15)), (20, (vi r20)), (22, (vb r22)), (25, (vi r25)), (120, (vb (b4'0 && r19)))]) ?_ ?_
     ·clear hs hb
      rintro ρ w23 ⟨b4'0, H4, he0, hs, hb, hH⟩
      subst he0
      refine wpL_has hH ?_
      clear hH
      refine q0 (vb ((((r17 == 0) && (r23 == 0)) && (decide ((r18.len : Int) > 0))) && r19)) ?_
      refine wpL_join 4 (fun ρ wJ => ∃ b5'0 y1 : Bool, ∃ HJ : Nat → Prop, (((((r17 == 0) && (r23 == 0)) && (decide ((r18.len : Int) > 0))) && r19) = b5'0) ∧ (y1 = (b5'0 && (r20 == 0))) ∧ Hst w0 H1 w17 HJ wJ ∧ HB HJ wJ [] ∧ Has ρ [(2, (vp r2)), (3, (vi r3)), (15, (vi r15)), (22, (vb r22)), (25, (vi r25)), (125, (vb y1))]) ?_ ?_
      ·clear hs hb
       rintro ρ w25 ⟨b5'0, y1, H5, he0, hy1, hs, hb, hH⟩
       subst he0
       replace h := h y1 hy1
       refine wpL_has hH ?_
       clear hH
       refine q0 (vb y1) ?_
       refine wpL_join 3 (fun ρ wJ => ∃ b6'0 : Bool, ∃ HJ : Nat → Prop, (y1 = b6'0) ∧ Hst w0 H1 w17 HJ wJ ∧ HB HJ wJ [] ∧ Has ρ [(2, (vp r2)), (3, (vi r3)), (15, (vi r15)), (25, (vi r25)), (129, (vb (b6'0 && (!r22))))]) ?_ ?_
       ·clear hs hb
        rintro ρ w27 ⟨b6'0, H6, he0, hs, hb, hH⟩
        subst he0
        refine wpL_has hH ?_
        clear hH
        refine q0 (vb (y1 && (!r22))) ?_
        refine wpL_join 4 (fun ρ w => ∃ x1 : Bool, ∃ H : Nat → Prop, Has ρ [(2, (vp r2)), (3, (vi r3)), (15, (vi r15)), (25, (vi r25)), (134, (vb x1))] ∧ Hst w0 H w H w ∧ HB H w [] ∧ m_law08_live_j1 r2 r3 r15 r25 x1 w0 H w K) ?_ ?_
        ·clear h hs hb
         rintro ρ w ⟨x1, H, hH, hs, hb, h⟩
         unfold m_law08_live_j1 at h
         refine wpL_has hH ?_
         clear hH
         refine q0 (vb x1) ?_
         refine wpL_join 5 (fun ρ w => ∃ x2 : Bool, ∃ H : Nat → Prop, Has ρ [(2, (vp r2)), (3, (vi r3)), (25, (vi r25)), (140, (vb x2))] ∧ Hst w0 H w H w ∧ HB H w [] ∧ m_law08_live_j2 r2 r3 r25 x2 w0 H w K) ?_ ?_
         ·clear h hs hb
          rintro ρ w ⟨x2, H, hH, hs, hb, h⟩
          unfold m_law08_live_j2 at h
          refine wpL_has hH ?_
          clear hH
          refine q0 (vb x2) ?_
          refine wpL_join 4 (fun ρ w => ∃ x3 : Bool, ∃ H : Nat → Prop, Has ρ [(2, (vp r2)), (25, (vi r25)), (145, (vb x3))] ∧ Hst w0 H w H w ∧ HB H w [] ∧ m_law08_live_j3 r2 r25 x3 w0 H w K) ?_ ?_
          ·clear h hs hb
           rintro ρ w ⟨x3, H, hH, hs, hb, h⟩
           unfold m_law08_live_j3 at h
           refine wpL_has hH ?_
           clear hH
           refine q0 (vb x3) ?_
           refine wpL_join 3 (fun ρ wJ => ∃ b7'0 : Bool, ∃ HJ : Nat → Prop, (x3 = b7'0) ∧ Hst w0 H w HJ wJ ∧ HB HJ wJ [] ∧ Has ρ [(2, (vp r2)), (149, (vb (b7'0 && (r25 == 0))))]) ?_ ?_
           ·clear hs hb
            rintro ρ w28 ⟨b7'0, H7, he0, hs, hb, hH⟩
            subst he0
            refine wpL_has hH ?_
            clear hH
            refine q0 (vb (x3 && (r25 == 0))) ?_
            refine wpL_join 5 (fun ρ w => ∃ x4 : Bool, ∃ H : Nat → Prop, Has ρ [(2, (vp r2)), (155, (vb x4))] ∧ Hst w0 H w H w ∧ HB H w [] ∧ m_law08_live_j4 r2 x4 w0 H w K) ?_ ?_
            ·clear h hs hb
             rintro ρ w ⟨x4, H, hH, hs, hb, h⟩
             unfold m_law08_live_j4 at h
             refine wpL_has hH ?_
             clear hH
             refine q0 (vb x4) ?_
             rcases Bool.eq_false_or_eq_true x4 with hg15 | hg15
             ·replace h := h.1 hg15
              refine q1 (vp r2) (want1 rfl (yD 156 hg15)) ?_
              refine st_call (want1 rfl (yD 156 hg15)) (xc Try.call60) (h.mono ?_)
              rintro e w29 ⟨r26, rfl, hk, h⟩
              refine ⟨_, rfl, ?_⟩
              obtain ⟨hs, hb⟩ := hk.hh hs hb
              refine st_call (want1 rfl (yD 156 hg15)) (xc Try.call59) ((p_law08_num r26 w29).mono ?_)
              rintro e w30 ⟨he, hE⟩
              refine ⟨(vi r26), he.trans (by kernel_rfl), ?_⟩
              replace hs := hs.pure hE
              replace hb := hb.pure hE
              clear hE he
              refine q1 (vb (r26 == 51)) (want1 rfl (yD 156 hg15)) (q2 (vb (r26 == 51)) (xT hg15) (q0 (vb (r26 == 51)) (wpL_nil (th_n (wpE_ret ?_)))))
              replace h := h w30 hs
              replace hs := hs.here
              refine res1 (.inl rfl) Try.results57 (v := (vb (r26 == 51))) (by kernel_rfl) ?_
              exact ⟨(r26 == 51), rfl, h⟩
             ·replace h := h.2 hg15
              refine sk (yD 156 hg15) (sk (yD 156 hg15) (sk (yD 156 hg15) (sk (yD 156 hg15) (q2 (vb false) (xF hg15) (q0 (vb false) (wpL_nil (th_n (wpE_ret (res1 (.inl rfl) Try.results57 (v := (vb false)) (by kernel_rfl) ?_)))))))))
              exact ⟨false, rfl, h⟩
            ·skip
             rcases Bool.eq_false_or_eq_true (x3 && (r25 == 0)) with hg16 | hg16
             ·replace h := h.1 hg16
              refine q1 (vp r2) (want1 rfl (yD 150 hg16)) ?_
              replace h := h H7 w28 hs
              replace hs := hs.here
              refine st_call (want1 rfl (yD 150 hg16)) (xc Try.call61) (h.mono ?_)
              rintro e w31 ⟨r27, rfl, hk, h⟩
              refine ⟨_, rfl, ?_⟩
              obtain ⟨hs, hb⟩ := hk.hh hs hb
              refine q1 (vi (r27.len : Int)) (want1 rfl (yD 150 hg16)) (q1 (vb (((r27.len : Int) : Int) == 2)) (want1 rfl (yD 150 hg16)) (q2 (vb (((r27.len : Int) : Int) == 2)) (xT hg16) (wpL_nil ?_)))
              exact ⟨(((r27.len : Int) : Int) == 2), H7, Has.mk (by kernel_rfl), hs, hb, h⟩
             ·replace h := h.2 hg16
              refine sk (yD 150 hg16) (sk (yD 150 hg16) (sk (yD 150 hg16) (sk (yD 150 hg16) (q2 (vb false) (xF hg16) (wpL_nil ?_)))))
              replace h := h H7 w28 hs
              replace hs := hs.here
              exact ⟨false, H7, Has.mk (by kernel_rfl), hs, hb, h⟩
           ·skip
            rcases Bool.eq_false_or_eq_true x3 with hg14 | hg14
            ·skip
             refine q1 (vi r25) (want1 rfl (yD 146 hg14)) (q1 (vb (r25 == 0)) (want1 rfl (yD 146 hg14)) (q2 (vb (r25 == 0)) (xT hg14) (wpL_nil ?_)))
             exact ⟨true, _, hg14, hs, hb, Has.mk (by kernel_rfl)⟩
            ·skip
             refine sk (yD 146 hg14) (sk (yD 146 hg14) (q2 (vb false) (xF hg14) (wpL_nil ?_)))
             exact ⟨false, _, hg14, hs, hb, Has.mk (by kernel_rfl)⟩
          ·skip
           rcases Bool.eq_false_or_eq_true x2 with hg17 | hg17
           ·replace h := h.1 hg17
            refine q1 (vp r2) (want1 rfl (yD 141 hg17)) (q1 (vi r3) (want1 rfl (yD 141 hg17)) ?_)
            refine st_call (want1 rfl (yD 141 hg17)) (xc Try.call63) (h.mono ?_)
            rintro e w32 ⟨r28, rfl, hk, h⟩
            refine ⟨_, rfl, ?_⟩
            obtain ⟨hs, hb⟩ := hk.hh hs hb
            refine q2 (vb r28) (xT hg17) (wpL_nil ?_)
            exact ⟨r28, H, Has.mk (by kernel_rfl), hs, hb, h⟩
           ·replace h := h.2 hg17
            refine sk (yD 141 hg17) (sk (yD 141 hg17) (sk (yD 141 hg17) (q2 (vb false) (xF hg17) (wpL_nil ?_))))
            exact ⟨false, H, Has.mk (by kernel_rfl), hs, hb, h⟩
         ·skip
          rcases Bool.eq_false_or_eq_true x1 with hg18 | hg18
          ·replace h := h.1 hg18
           refine q1 (vp r2) (want1 rfl (yD 135 hg18)) (q1 (vi r15) (want1 rfl (yD 135 hg18)) ?_)
           refine st_call (want1 rfl (yD 135 hg18)) (xc Try.call63) (h.mono ?_)
           rintro e w33 ⟨r29, rfl, hk, h⟩
           refine ⟨_, rfl, ?_⟩
           obtain ⟨hs, hb⟩ := hk.hh hs hb
           refine q1 (vb (!r29)) (want1 rfl (yD 135 hg18)) (q2 (vb (!r29)) (xT hg18) (wpL_nil ?_))
           exact ⟨(!r29), H, Has.mk (by kernel_rfl), hs, hb, h⟩
          ·replace h := h.2 hg18
           refine sk (yD 135 hg18) (sk (yD 135 hg18) (sk (yD 135 hg18) (sk (yD 135 hg18) (q2 (vb false) (xF hg18) (wpL_nil ?_)))))
           exact ⟨false, H, Has.mk (by kernel_rfl), hs, hb, h⟩
        ·skip
         rcases Bool.eq_false_or_eq_true (y1 && (!r22)) with hg19 | hg19
         ·replace h := h.1 hg19
          refine q1 (vp r2) (want1 rfl (yD 130 hg19)) (q1 (vi r15) (want1 rfl (yD 130 hg19)) ?_)
          replace h := h H6 w27 hs
          replace hs := hs.here
          refine st_call (want1 rfl (yD 130 hg19)) (xc Try.call64) (h.mono ?_)
          rintro e w34 ⟨r30, rfl, hk, h⟩
          refine ⟨_, rfl, ?_⟩
          obtain ⟨hs, hb⟩ := hk.hh hs hb
          refine q2 (vb r30) (xT hg19) (wpL_nil ?_)
          exact ⟨r30, H6, Has.mk (by kernel_rfl), hs, hb, h⟩
         ·replace h := h.2 hg19
          refine sk (yD 130 hg19) (sk (yD 130 hg19) (sk (yD 130 hg19) (q2 (vb false) (xF hg19) (wpL_nil ?_))))
          replace h := h H6 w27 hs
          replace hs := hs.here
          exact ⟨false, H6, Has.mk (by kernel_rfl), hs, hb, h⟩
       ·skip
        rcases Bool.eq_false_or_eq_true y1 with hg12 | hg12
        ·skip
         refine q1 (vb r22) (want1 rfl (yD 126 hg12)) (q1 (vb (!r22)) (want1 rfl (yD 126 hg12)) (q2 (vb (!r22)) (xT hg12) (wpL_nil ?_)))
         exact ⟨true, _, hg12, hs, hb, Has.mk (by kernel_rfl)⟩
        ·skip
         refine sk (yD 126 hg12) (sk (yD 126 hg12) (q2 (vb false) (xF hg12) (wpL_nil ?_)))
         exact ⟨false, _, hg12, hs, hb, Has.mk (by kernel_rfl)⟩
      ·skip
       rcases Bool.eq_false_or_eq_true ((((r17 == 0) && (r23 == 0)) && (decide ((r18.len : Int) > 0))) && r19) with hg10 | hg10
       ·skip
        refine q1 (vi r20) (want1 rfl (yD 121 hg10)) ?_
        refine st_call (want1 rfl (yD 121 hg10)) (xc Try.call59) ((p_law08_num r20 w23).mono ?_)
        rintro e w26 ⟨he, hE⟩
        refine ⟨(vi r20), he.trans (by kernel_rfl), ?_⟩
        replace hs := hs.pure hE
        replace hb := hb.pure hE
        clear hE he
        refine q1 (vb (r20 == 0)) (want1 rfl (yD 121 hg10)) (q2 (vb (r20 == 0)) (xT hg10) (wpL_nil ?_))
        exact ⟨true, _, _, hg10, rfl, hs, hb, Has.mk (by kernel_rfl)⟩
       ·skip
        refine sk (yD 121 hg10) (sk (yD 121 hg10) (sk (yD 121 hg10) (q2 (vb false) (xF hg10) (wpL_nil ?_))))
        exact ⟨false, _, _, hg10, rfl, hs, hb, Has.mk (by kernel_rfl)⟩
     ·skip
      rcases Bool.eq_false_or_eq_true (((r17 == 0) && (r23 == 0)) && (decide ((r18.len : Int) > 0))) with hg8 | hg8
      ·skip
       refine q1 (vb r19) (want1 rfl (yD 118 hg8)) (q2 (vb r19) (xT hg8) (wpL_nil ?_))
       exact ⟨true, _, hg8, hs, hb, Has.mk (by kernel_rfl)⟩
      ·skip
       refine sk (yD 118 hg8) (q2 (vb false) (xF hg8) (wpL_nil ?_))
       exact ⟨false, _, hg8, hs, hb, Has.mk (by kernel_rfl)⟩
    ·skip
     rcases Bool.eq_false_or_eq_true ((r17 == 0) && (r23 == 0)) with hg6 | hg6
     ·skip
      refine q1 r18.v (want1 rfl (yD 113 hg6)) (q1 (vi (r18.len : Int)) (want1 rfl (yD 113 hg6)) (q1 (vb (decide ((r18.len : Int) > 0))) (want1 rfl (yD 113 hg6)) (q2 (vb (decide ((r18.len : Int) > 0))) (xT hg6) (wpL_nil ?_))))
      exact ⟨true, _, hg6, hs, hb, Has.mk (by kernel_rfl)⟩
     ·skip
      refine sk (yD 113 hg6) (sk (yD 113 hg6) (sk (yD 113 hg6) (q2 (vb false) (xF hg6) (wpL_nil ?_))))
      exact ⟨false, _, hg6, hs, hb, Has.mk (by kernel_rfl)⟩
   ·skip
    rcases Bool.eq_false_or_eq_true (r17 == 0) with hg4 | hg4
    ·skip
     refine q1 (vi r23) (want1 rfl (yD 108 hg4)) ?_
     refine st_call (want1 rfl (yD 108 hg4)) (xc Try.call59) ((p_law08_num r23 w18).mono ?_)
     rintro e w21 ⟨he, hE⟩
     refine ⟨(vi r23), he.trans (by kernel_rfl), ?_⟩
     replace hs := hs.pure hE
     replace hb := hb.pure hE
     clear hE he
     refine q1 (vb (r23 == 0)) (want1 rfl (yD 108 hg4)) (q2 (vb (r23 == 0)) (xT hg4) (wpL_nil ?_))
     exact ⟨true, _, hg4, hs, hb, Has.mk (by kernel_rfl)⟩
    ·skip
     refine sk (yD 108 hg4) (sk (yD 108 hg4) (sk (yD 108 hg4) (q2 (vb false) (xF hg4) (wpL_nil ?_))))
     exact ⟨false, _, hg4, hs, hb, Has.mk (by kernel_rfl)⟩
def m_law08_DeduceNil_j7 (r3 r4 : Int) (x7 : Bool) (w0 : World) (H : Nat → Prop) (w : World) (K : Bool → World → Prop) : Prop :=
 ∀ (H4 : Nat → Prop) (w9 : World), Hst w0 H w H4 w9 →
 K ((x7 && (r3 == 7)) && (r4 == 0)) w9
def m_law08_DeduceNil_j6 (r1 : Sl) (r2 : Bool) (r3 r4 : Int) (x6 : Bool) (w0 : World) (H : Nat → Prop) (w : World) (K : Bool → World → Prop) : Prop :=
 Br ((x6 && (((r1.len : Int) : Int) == 0)) && (!r2))
  (∀ (H2 : Nat → Prop) (w5 : World), Hst w0 H w H2 w5 →
  Calls Try.prog 65 #[(vp none)] w5 (fun e w10 => ∃ r6 : Option Addr, e = .returned (vp r6) ∧ 
   Kept H2 w5 w10 ∧
   m_law08_DeduceNil_j7 r3 r4 (Option.isNone r6) w0 H2 w10 K))
  (∀ (H2 : Nat → Prop) (w5 : World), Hst w0 H w H2 w5 →
  m_law08_DeduceNil_j7 r3 r4 false w0 H2 w5 K)
def m_law08_DeduceNil_j5 (r1 : Sl) (r2 : Bool) (r3 r4 : Int) (x5 : Bool) (w0 : World) (H : Nat → Prop) (w : World) (K : Bool → World → Prop) : Prop :=
 Br x5
  (Calls Try.prog 64 #[(vp none), (vi 1)] w (fun e w11 => ∃ r7 : Bool, e = .returned (vb r7) ∧ 
   Kept H w w11 ∧
   m_law08_DeduceNil_j6 r1 r2 r3 r4 (!r7) w0 H w11 K))
  (m_law08_DeduceNil_j6 r1 r2 r3 r4 false w0 H w K)
def m_law08_DeduceNil_j4 (r1 : Sl) (r2 : Bool) (r3 r4 : Int) (x4 : Bool) (w0 : World) (H : Nat → Prop) (w : World) (K : Bool → World → Prop) : Prop :=
 Br x4
  (Calls Try.prog 63 #[(vp none), (vi 1)] w (fun e w12 => ∃ r8 : Bool, e = .returned (vb r8) ∧ 
   Kept H w w12 ∧
   m_law08_DeduceNil_j5 r1 r2 r3 r4 (!r8) w0 H w12 K))
  (m_law08_DeduceNil_j5 r1 r2 r3 r4 false w0 H w K)
def m_law08_DeduceNil_j3 (r1 : Sl) (r2 : Bool) (r3 r4 : Int) (x3 : Bool) (w0 : World) (H : Nat → Prop) (w : World) (K : Bool → World → Prop) : Prop :=
 Br x3
  (Calls Try.prog 62 #[(vp none)] w (fun e w13 => ∃ r9 : Sl, e = .returned r9.v ∧ 
   Kept H w w13 ∧
   m_law08_DeduceNil_j4 r1 r2 r3 r4 (((r9.len : Int) : Int) == 0) w0 H w13 K))
  (m_law08_DeduceNil_j4 r1 r2 r3 r4 false w0 H w K)
def m_law08_DeduceNil_j2 (r1 : Sl) (r2 : Bool) (r3 r4 : Int) (x2 : Bool) (w0 : World) (H : Nat → Prop) (w : World) (K : Bool → World → Prop) : Prop :=
 Br x2
  (Calls Try.prog 61 #[(vp none)] w (fun e w14 => ∃ r10 : Sl, e = .returned r10.v ∧ 
   Kept H w w14 ∧
   m_law08_DeduceNil_j3 r1 r2 r3 r4 (((r10.len : Int) : Int) == 0) w0 H w14 K))
  (m_law08_DeduceNil_j3 r1 r2 r3 r4 false w0 H w K)
def m_law08_DeduceNil_j1 (r1 : Sl) (r2 : Bool) (r3 r4 : Int) (x1 : Bool) (w0 : World) (H : Nat → Prop) (w : World) (K : Bool → World → Prop) : Prop :=
 Br x1
  (Calls Try.prog 60 #[(vp none), (vi 1)] w (fun e w15 => ∃ r11 : Int, e = .returned (vi r11) ∧ 
   Kept H w w15 ∧
   ∀ (w16 : World), Hst w0 H w15 H w16 →
   m_law08_DeduceNil_j2 r1 r2 r3 r4 (r11 == 7) w0 H w16 K))
  (m_law08_DeduceNil_j2 r1 r2 r3 r4 false w0 H w K)
def m_law08_DeduceNil  (w0 : World) (K : Bool → World → Prop) : Prop :=
 Calls Try.prog 55 #[(vp none), (vi 1)] w0 (fun e w1 => ∃ r1 : Sl, ∃ r2 : Bool, e = .returned (.tuple #[r1.v, (vb r2)]) ∧ 
  Kept None w0 w1 ∧
  Calls Try.prog 56 #[(vp none), Sl.nil.v, Sl.nil.v, (vi 0)] w1 (fun e w2 => ∃ r3 r4 : Int, e = .returned (.tuple #[(vi r3), (vi r4)]) ∧ 
   Kept None w1 w2 ∧
   Calls Try.prog 57 #[] w2 (fun e w3 => ∃ r5 : Bool, e = .returned (vb r5) ∧ 
    Kept None w2 w3 ∧
    Br r5
     (Calls Try.prog 58 #[(vp none)] w3 (fun e w17 => ∃ r12 : Option Addr, e = .returned (vp r12) ∧ 
      Kept None w3 w17 ∧
      m_law08_DeduceNil_j1 r1 r2 r3 r4 (Option.isNone r12) w0 None w17 K))
     (m_law08_DeduceNil_j1 r1 r2 r3 r4 false w0 None w3 K))))
theorem w_law08_DeduceNil  (w0 : World) (K : Bool → World → Prop) (h : m_law08_DeduceNil  w0 K) :
  Calls Try.prog 11 #[] w0 (fun e w' => ∃ r13 : Bool, e = .returned (vb r13) ∧ K r13 w') := by
 unfold m_law08_DeduceNil at h
 refine calls_of_wpE (args := []) Try.func11 rfl Try.ntmps11 (Nat.le_of_ble_eq_true rfl) ?_
 have hs := Hst.start w0
 have hb := HB.nil None w0
 refine wpE_seq (rg (q0 (vb false) (wpL_nil (th_n (wpE_seq (rg (q0 (vp none) (wpL_nil (th_n (wpE_seq (rg ?_)))))))))))
 refine q0 (vp none) ?_
 refine st_call (want0 rfl) (xc Try.call55) (h.mono ?_)
 rintro e w1 ⟨r1, r2, rfl, hk, h⟩
 refine ⟨_, rfl, ?_⟩
 obtain ⟨hs, hb⟩ := hk.hh hs hb
 refine q0 (.tuple #[r1.v, (vb r2)]) (q0 r1.v (q0 (vb r2) (q0 r1.v (q0 (vb r2) (wpL_nil (th_n (wpE_seq (rg ?_))))))))
 refine st_call (want0 rfl) (xc Try.call56) (h.mono ?_)
 rintro e w2 ⟨r3, r4, rfl, hk, h⟩
 refine ⟨_, rfl, ?_⟩
 obtain ⟨hs, hb⟩ := hk.hh hs hb
 refine q0 (.tuple #[(vi r3), (vi r4)]) (q0 (vi r3) (q0 (vi r4) (q0 (vi r3) (q0 (vi r4) (wpL_nil (th_n (wpE_seq (rg ?_))))))))
 refine st_call (want0 rfl) (xc Try.call57) (h.mono ?_)
 rintro e w3 ⟨r5, rfl, hk, h⟩
 refine ⟨_, rfl, ?_⟩
 obtain ⟨hs, hb⟩ := hk.hh hs hb
 refine q0 (vb r5) ?_
 refine wpL_join 3 (fun ρ w => ∃ x1 : Bool, ∃ H : Nat → Prop, Has ρ [(1, (vp none)), (2, r1.v), (3, (vb r2)), (4, (vi r3)), (5, (vi r4)), (19, (vb x1))] ∧ Hst w0 H w H w ∧ HB H w [] ∧ m_law08_DeduceNil_j1 r1 r2 r3 r4 x1 w0 H w K) ?_ ?_
 ·clear h hs hb
  rintro ρ w ⟨x1, H, hH, hs, hb, h⟩
  unfold m_law08_DeduceNil_j1 at h
  refine wpL_has hH ?_
  clear hH
  refine q0 (vb x1) ?_
  refine wpL_join 5 (fun ρ w => ∃ x2 : Bool, ∃ H : Nat → Prop, Has ρ [(1, (vp none)), (2, r1.v), (3, (vb r2)), (4, (vi r3)), (5, (vi r4)), (25, (vb x2))] ∧ Hst w0 H w H w ∧ HB H w [] ∧ m_law08_DeduceNil_j2 r1 r2 r3 r4 x2 w0 H w K) ?_ ?_
  ·clear h hs hb
   rintro ρ w ⟨x2, H, hH, hs, hb, h⟩
   unfold m_law08_DeduceNil_j2 at h
   refine wpL_has hH ?_
   clear hH
   refine q0 (vb x2) ?_
   refine wpL_join 5 (fun ρ w => ∃ x3 : Bool, ∃ H : Nat → Prop, Has ρ [(1, (vp none)), (2, r1.v), (3, (vb r2)), (4, (vi r3)), (5, (vi r4)), (31, (vb x3))] ∧ Hst w0 H w H w ∧ HB H w [] ∧ m_law08_DeduceNil_j3 r1 r2 r3 r4 x3 w0 H w K) ?_ ?_
   ·clear h hs hb
    rintro ρ w ⟨x3, H, hH, hs, hb, h⟩
    unfold m_law08_DeduceNil_j3 at h
    refine wpL_has hH ?_
    clear hH
    refine q0 (vb x3) ?_
    refine wpL_join 5 (fun ρ w => ∃ x4 : Bool, ∃ H : Nat → Prop, Has ρ [(1, (vp none)), (2, r1.v), (3, (vb r2)), (4, (vi r3)), (5, (vi r4)), (37, (vb x4))] ∧ Hst w0 H w H w ∧ HB H w [] ∧ m_law08_DeduceNil_j4 r1 r2 r3 r4 x4 w0 H w K) ?_ ?_
    ·clear h hs hb
     rintro ρ w ⟨x4, H, hH, hs, hb, h⟩
     unfold m_law08_DeduceNil_j4 at h
     refine wpL_has hH ?_
     clear hH
     refine q0 (vb x4) ?_
     refine wpL_join 4 (fun ρ w => ∃ x5 : Bool, ∃ H : Nat → Prop, Has ρ [(1, (vp none)), (2, r1.v), (3, (vb r2)), (4, (vi r3)), (5, (vi r4)), (42, (vb x5))] ∧ Hst w0 H w H w ∧ HB H w [] ∧ m_law08_DeduceNil_j5 r1 r2 r3 r4 x5 w0 H w K) ?_ ?_
     ·clear h hs hb
      rintro ρ w ⟨x5, H, hH, hs, hb, h⟩
      unfold m_law08_DeduceNil_j5 at h
      refine wpL_has hH ?_
      clear hH
      refine q0 (vb x5) ?_
      refine wpL_join 4 (fun ρ w => ∃ x6 : Bool, ∃ H : Nat → Prop, Has ρ [(1, (vp none)), (2, r1.v), (3, (vb r2)), (4, (vi r3)), (5, (vi r4)), (47, (vb x6))] ∧ Hst w0 H w H w ∧ HB H w [] ∧ m_law08_DeduceNil_j6 r1 r2 r3 r4 x6 w0 H w K) ?_ ?_
      ·clear h hs hb
       rintro ρ w ⟨x6, H, hH, hs, hb, h⟩
       unfold m_law08_DeduceNil_j6 at h
       refine wpL_has hH ?_
       clear hH
       refine q0 (vb x6) ?_
       refine wpL_join 4 (fun ρ wJ => ∃ b1'0 : Bool, ∃ HJ : Nat → Prop, (x6 = b1'0) ∧ Hst w0 H w HJ wJ ∧ HB HJ wJ [] ∧ Has ρ [(1, (vp none)), (3, (vb r2)), (4, (vi r3)), (5, (vi r4)), (52, (vb (b1'0 && (((r1.len : Int) : Int) == 0))))]) ?_ ?_
       ·clear hs hb
        rintro ρ w4 ⟨b1'0, H1, he0, hs, hb, hH⟩
        subst he0
        refine wpL_has hH ?_
        clear hH
        refine q0 (vb (x6 && (((r1.len : Int) : Int) == 0))) ?_
        refine wpL_join 3 (fun ρ wJ => ∃ b2'0 : Bool, ∃ HJ : Nat → Prop, ((x6 && (((r1.len : Int) : Int) == 0)) = b2'0) ∧ Hst w0 H w HJ wJ ∧ HB HJ wJ [] ∧ Has ρ [(1, (vp none)), (4, (vi r3)), (5, (vi r4)), (56, (vb (b2'0 && (!r2))))]) ?_ ?_
        ·clear hs hb
         rintro ρ w5 ⟨b2'0, H2, he0, hs, hb, hH⟩
         subst he0
         refine wpL_has hH ?_
         clear hH
         refine q0 (vb ((x6 && (((r1.len : Int) : Int) == 0)) && (!r2))) ?_
         refine wpL_join 4 (fun ρ w => ∃ x7 : Bool, ∃ H : Nat → Prop, Has ρ [(4, (vi r3)), (5, (vi r4)), (61, (vb x7))] ∧ Hst w0 H w H w ∧ HB H w [] ∧ m_law08_DeduceNil_j7 r3 r4 x7 w0 H w K) ?_ ?_
         ·clear h hs hb
          rintro ρ w ⟨x7, H, hH, hs, hb, h⟩
          unfold m_law08_DeduceNil_j7 at h
          refine wpL_has hH ?_
          clear hH
          refine q0 (vb x7) ?_
          refine wpL_join 4 (fun ρ wJ => ∃ b3'0 : Bool, ∃ HJ : Nat → Prop, (x7 = b3'0) ∧ Hst w0 H w HJ wJ ∧ HB HJ wJ [] ∧ Has ρ [(5, (vi r4)), (66, (vb (b3'0 && (r3 == 7))))]) ?_ ?_
          ·clear hs hb
           rintro ρ w7 ⟨b3'0, H3, he0, hs, hb, hH⟩
           subst he0
           refine wpL_has hH ?_
           clear hH
           refine q0 (vb (x7 && (r3 == 7))) ?_
           refine wpL_join 3 (fun ρ wJ => ∃ b4'0 : Bool, ∃ HJ : Nat → Prop, ((x7 && (r3 == 7)) = b4'0) ∧ Hst w0 H w HJ wJ ∧ HB HJ wJ [] ∧ Has ρ [(70, (vb (b4'0 && (r4 == 0))))]) ?_ ?_
           ·clear hs hb
            rintro ρ w9 ⟨b4'0, H4, he0, hs, hb, hH⟩
            subst he0
            refine wpL_has hH ?_
            clear hH
            refine q0 (vb ((x7 && (r3 == 7)) && (r4 == 0))) (wpL_nil (th_n (wpE_ret ?_)))
            replace h := h H4 w9 hs
            replace hs := hs.here
            refine res1 (.inl rfl) Try.results11 (v := (vb ((x7 && (r3 == 7)) && (r4 == 0)))) (by kernel_rfl) ?_
            exact ⟨((x7 && (r3 == 7)) && (r4 == 0)), rfl, h⟩
           ·skip
            rcases Bool.eq_false_or_eq_true (x7 && (r3 == 7)) with hg8 | hg8
            ·skip
             refine q1 (vi r4) (want1 rfl (yD 67 hg8)) (q1 (vb (r4 == 0)) (want1 rfl (yD 67 hg8)) (q2 (vb (r4 == 0)) (xT hg8) (wpL_nil ?_)))
             exact ⟨true, _, hg8, hs, hb, Has.mk (by kernel_rfl)⟩
            ·skip
             refine sk (yD 67 hg8) (sk (yD 67 hg8) (q2 (vb false) (xF hg8) (wpL_nil ?_)))
             exact ⟨false, _, hg8, hs, hb, Has.mk (by kernel_rfl)⟩
          ·skip
           rcases Bool.eq_false_or_eq_true x7 with hg6 | hg6
           ·skip
            refine q1 (vi r3) (want1 rfl (yD 62 hg6)) ?_
            refine st_call (want1 rfl (yD 62 hg6)) (xc Try.call59) ((p_law08_num r3 w).mono ?_)
            rintro e w8 ⟨he, hE⟩
            refine ⟨(vi r3), he.trans (by kernel_rfl), ?_⟩
            replace hs := hs.pure hE
            replace hb := hb.pure hE
            clear hE he
            refine q1 (vb (r3 == 7)) (want1 rfl (yD 62 hg6)) (q2 (vb (r3 == 7)) (xT hg6) (wpL_nil ?_))
            exact ⟨true, _, hg6, hs, hb, Has.mk (by kernel_rfl)⟩
           ·skip
            refine sk (yD 62 hg6) (sk (yD 62 hg6) (sk (yD 62 hg6) (q2 (vb false) (xF hg6) (wpL_nil ?_))))
            exact ⟨false, _, hg6, hs, hb, Has.mk (by kernel_rfl)⟩
         ·skip
          rcases Bool.eq_false_or_eq_true ((x6 && (((r1.len : Int) : Int) == 0)) && (!r2)) with hg9 | hg9
          ·replace h := h.1 hg9
           refine q1 (vp none) (want1 rfl (yD 57 hg9)) ?_
           replace h := h H2 w5 hs
           replace hs := hs.here
           refine st_call (want1 rfl (yD 57 hg9)) (xc Try.call65) (h.mono ?_)
           rintro e w10 ⟨r6, rfl, hk, h⟩
           refine ⟨_, rfl, ?_⟩
           obtain ⟨hs, hb⟩ := hk.hh hs hb
           refine stp (v := (vb (Option.isNone r6))) (want1 rfl (yD 57 hg9)) (x_ptreq (by kernel_rfl) rfl Try.underlying37) (q2 (vb (Option.isNone r6)) (xT hg9) (wpL_nil ?_))
           exact ⟨(Option.isNone r6), H2, Has.mk (by kernel_rfl), hs, hb, h⟩
          ·replace h := h.2 hg9
           refine sk (yD 57 hg9) (sk (yD 57 hg9) (sk (yD 57 hg9) (q2 (vb false) (xF hg9) (wpL_nil ?_))))
           replace h := h H2 w5 hs
           replace hs := hs.here
           exact ⟨false, H2, Has.mk (by kernel_rfl), hs, hb, h⟩
        ·skip
         rcases Bool.eq_false_or_eq_true (x6 && (((r1.len : Int) : Int) == 0)) with hg4 | hg4
         ·skip
          refine q1 (vb r2) (want1 rfl (yD 53 hg4)) (q1 (vb (!r2)) (want1 rfl (yD 53 hg4)) (q2 (vb (!r2)) (xT hg4) (wpL_nil ?_)))
          exact ⟨true, _, hg4, hs, hb, Has.mk (by kernel_rfl)⟩
         ·skip
          refine sk (yD 53 hg4) (sk (yD 53 hg4) (q2 (vb false) (xF hg4) (wpL_nil ?_)))
          exact ⟨false, _, hg4, hs, hb, Has.mk (by kernel_rfl)⟩
       ·skip
        rcases Bool.eq_false_or_eq_true x6 with hg2 | hg2
        ·skip
         refine q1 r1.v (want1 rfl (yD 48 hg2)) (q1 (vi (r1.len : Int)) (want1 rfl (yD 48 hg2)) (q1 (vb (((r1.len : Int) : Int) == 0)) (want1 rfl (yD 48 hg2)) (q2 (vb (((r1.len : Int) : Int) == 0)) (xT hg2) (wpL_nil ?_))))
         exact ⟨true, _, hg2, hs, hb, Has.mk (by kernel_rfl)⟩
        ·skip
         refine sk (yD 48 hg2) (sk (yD 48 hg2) (sk (yD 48 hg2) (q2 (vb false) (xF hg2) (wpL_nil ?_))))
         exact ⟨false, _, hg2, hs, hb, Has.mk (by kernel_rfl)⟩
      ·skip
       rcases Bool.eq_false_or_eq_true x5 with hg10 | hg10
       ·replace h := h.1 hg10
        refine q1 (vp none) (want1 rfl (yD 43 hg10)) ?_
        refine st_call (want1 rfl (yD 43 hg10)) (xc Try.call64) (h.mono ?_)
        rintro e w11 ⟨r7, rfl, hk, h⟩
        refine ⟨_, rfl, ?_⟩
        obtain ⟨hs, hb⟩ := hk.hh hs hb
        refine q1 (vb (!r7)) (want1 rfl (yD 43 hg10)) (q2 (vb (!r7)) (xT hg10) (wpL_nil ?_))
        exact ⟨(!r7), H, Has.mk (by kernel_rfl), hs, hb, h⟩
       ·replace h := h.2 hg10
        refine sk (yD 43 hg10) (sk (yD 43 hg10) (sk (yD 43 hg10) (q2 (vb false) (xF hg10) (wpL_nil ?_))))
        exact ⟨false, H, Has.mk (by kernel_rfl), hs, hb, h⟩
     ·skip
      rcases Bool.eq_false_or_eq_true x4 with hg11 | hg11
      ·replace h := h.1 hg11
       refine q1 (vp none) (want1 rfl (yD 38 hg11)) ?_
       refine st_call (want1 rfl (yD 38 hg11)) (xc Try.call63) (h.mono ?_)
       rintro e w12 ⟨r8, rfl, hk, h⟩
       refine ⟨_, rfl, ?_⟩
       obtain ⟨hs, hb⟩ := hk.hh hs hb
       refine q1 (vb (!r8)) (want1 rfl (yD 38 hg11)) (q2 (vb (!r8)) (xT hg11) (wpL_nil ?_))
       exact ⟨(!r8), H, Has.mk (by kernel_rfl), hs, hb, h⟩
      ·replace h := h.2 hg11
       refine sk (yD 38 hg11) (sk (yD 38 hg11) (sk (yD 38 hg11) (q2 (vb false) (xF hg11) (wpL_nil ?_))))
       exact ⟨false, H, Has.mk (by kernel_rfl), hs, hb, h⟩
    ·skip
     rcases Bool.eq_false_or_eq_true x3 with hg12 | hg12
     ·replace h := h.1 hg12
      refine q1 (vp none) (want1 rfl (yD 32 hg12)) ?_
      refine st_call (want1 rfl (yD 32 hg12)) (xc Try.call62) (h.mono ?_)
      rintro e w13 ⟨r9, rfl, hk, h⟩
      refine ⟨_, rfl, ?_⟩
      obtain ⟨hs, hb⟩ := hk.hh hs hb
      refine q1 (vi (r9.len : Int)) (want1 rfl (yD 32 hg12)) (q1 (vb (((r9.len : Int) : Int) == 0)) (want1 rfl (yD 32 hg12)) (q2 (vb (((r9.len : Int) : Int) == 0)) (xT hg12) (wpL_nil ?_)))
      exact ⟨(((r9.len : Int) : Int) == 0), H, Has.mk (by kernel_rfl), hs, hb, h⟩
     ·replace h := h.2 hg12
      refine sk (yD 32 hg12) (sk (yD 32 hg12) (sk (yD 32 hg12) (sk (yD 32 hg12) (q2 (vb false) (xF hg12) (wpL_nil ?_)))))
      exact ⟨false, H, Has.mk (by kernel_rfl), hs, hb, h⟩
   ·skip
    rcases Bool.eq_false_or_eq_true x2 with hg13 | hg13
    ·replace h := h.1 hg13
     refine q1 (vp none) (want1 rfl (yD 26 hg13)) ?_
     refine st_call (want1 rfl (yD 26 hg13)) (xc Try.call61) (h.mono ?_)
     rintro e w14 ⟨r10, rfl, hk, h⟩
     refine ⟨_, rfl, ?_⟩
     obtain ⟨hs, hb⟩ := hk.hh hs hb
     refine q1 (vi (r10.len : Int)) (want1 rfl (yD 26 hg13)) (q1 (vb (((r10.len : Int) : Int) == 0)) (want1 rfl (yD 26 hg13)) (q2 (vb (((r10.len : Int) : Int) == 0)) (xT hg13) (wpL_nil ?_)))
     exact ⟨(((r10.len : Int) : Int) == 0), H, Has.mk (by kernel_rfl), hs, hb, h⟩
    ·replace h := h.2 hg13
     refine sk (yD 26 hg13) (sk (yD 26 hg13) (sk (yD 26 hg13) (sk (yD 26 hg13) (q2 (vb false) (xF hg13) (wpL_nil ?_)))))
     exact ⟨false, H, Has.mk (by kernel_rfl), hs, hb, h⟩
  ·skip
   rcases Bool.eq_false_or_eq_true x1 with hg14 | hg14
   ·replace h := h.1 hg14
    refine q1 (vp none) (want1 rfl (yD 20 hg14)) ?_
    refine st_call (want1 rfl (yD 20 hg14)) (xc Try.call60) (h.mono ?_)
    rintro e w15 ⟨r11, rfl, hk, h⟩
    refine ⟨_, rfl, ?_⟩
    obtain ⟨hs, hb⟩ := hk.hh hs hb
    refine st_call (want1 rfl (yD 20 hg14)) (xc Try.call59) ((p_law08_num r11 w15).mono ?_)
    rintro e w16 ⟨he, hE⟩
    refine ⟨(vi r11), he.trans (by kernel_rfl), ?_⟩
    replace hs := hs.pure hE
    replace hb := hb.pure hE
    clear hE he
    refine q1 (vb (r11 == 7)) (want1 rfl (yD 20 hg14)) (q2 (vb (r11 == 7)) (xT hg14) (wpL_nil ?_))
    replace h := h w16 hs
    replace hs := hs.here
    exact ⟨(r11 == 7), H, Has.mk (by kernel_rfl), hs, hb, h⟩
   ·replace h := h.2 hg14
    refine sk (yD 20 hg14) (sk (yD 20 hg14) (sk (yD 20 hg14) (sk (yD 20 hg14) (q2 (vb false) (xF hg14) (wpL_nil ?_)))))
    exact ⟨false, H, Has.mk (by kernel_rfl), hs, hb, h⟩
 ·skip
  rcases Bool.eq_false_or_eq_true r5 with hg15 | hg15
  ·replace h := h.1 hg15
   refine st_call (want1 rfl (yD 16 hg15)) (xc Try.call58) (h.mono ?_)
   rintro e w17 ⟨r12, rfl, hk, h⟩
   refine ⟨_, rfl, ?_⟩
   obtain ⟨hs, hb⟩ := hk.hh hs hb
   refine stp (v := (vb (Option.isNone r12))) (want1 rfl (yD 16 hg15)) (x_ptreq (by kernel_rfl) rfl Try.underlying37) (q2 (vb (Option.isNone r12)) (xT hg15) (wpL_nil ?_))
   exact ⟨(Option.isNone r12), None, Has.mk (by kernel_rfl), hs, hb, h⟩
  ·replace h := h.2 hg15
   refine sk (yD 16 hg15) (sk (yD 16 hg15) (q2 (vb false) (xF hg15) (wpL_nil ?_)))
   exact ⟨false, None, Has.mk (by kernel_rfl), hs, hb, h⟩
end Go.Proofs
end
section
open Go Go.SE
namespace Go.Proofs
attribute [local irreducible] Calls
structure KnAt (w0 : World) (H : Nat → Prop) (w : World) (p k : Addr) (L : Sp.Pool) (G : List Int) (S : List Sp.Way) (FP F : Nat → Prop) : Prop where
 pool : PoolAt w p L FP
 know : KnowAt w k p G S F
 pure : Pure w0 w
 oP : ∀ b, FP b → w0.heap.size ≤ b ∧ ¬ H b
 oF : ∀ b, F b → w0.heap.size ≤ b ∧ ¬ H b ∧ ¬ FP b
 hs : Hst w0 H w H w
section
variable {w0 w w' : World} {H H' : Nat → Prop} {p k : Addr} {L L' : Sp.Pool} {G G' : List Int} {S S' : List Sp.Way} {FP FP' F F' : Nat → Prop}
theorem KnAt.pureE (h : KnAt w0 H w p k L G S FP F) (E : Pure w w') : KnAt w0 H w' p k L G S FP F := ⟨h.pool.pure E, h.know.pure E, h.pure.trans E, h.oP, h.oF, h.hs.again E.keptP⟩
theorem KnAt.hst (h : KnAt w0 H w p k L G S FP F) (hs : Hst w0 H w H' w') : KnAt w0 H' w' p k L G S FP F := by
 have x1 := hs.disj (G := FP) (fun b hb => ⟨h.pool.lt hb, (h.oP b hb).2⟩)
 have x2 := hs.disj (G := F) (fun b hb => ⟨h.know.lt hb, (h.oF b hb).2.1⟩)
 exact ⟨h.pool.ext hs.ext x1, h.know.ext hs.ext x2, h.pure.hst hs, fun b hb => ⟨(h.oP b hb).1, x1 b hb⟩, fun b hb => ⟨(h.oF b hb).1, x2 b hb, (h.oF b hb).2.2⟩, hs.here⟩
theorem KnAt.make (h : KnAt w0 H w p k L G S FP F) (hP : PoolAt w' p L' FP') (E : Ext FP w w') (hF : ∀ b, FP' b → FP b ∨ w.heap.size ≤ b) : Kept H w w' ∧ KnAt w0 H w' p k L' G S FP' F := by
 have hk : Kept H w w' := E.kept (fun b hb hf => (h.oP b hf).2 hb)
 refine ⟨hk, hP, h.know.ext E (fun b hb => (h.oF b hb).2.2), h.pure.trans' E (fun i hi hb => by have := (h.oP i hb).1; omega), fun b hb => ?_, fun b hb => ⟨(h.oF b hb).1, (h.oF b hb).2.1, fun hx => ?_⟩, h.hs.again hk⟩
 ·rcases hF b hb with h1 | h1
  ·exact h.oP b h1
  ·exact ⟨by have := h.pure.size; omega, fun hh => by have := h.hs.lt b hh; omega⟩
 ·rcases hF b hx with h1 | h1
  ·exact (h.oF b hb).2.2 h1
  ·have := h.know.lt hb; omega
theorem KnAt.add (h : KnAt w0 H w p k L G S FP F) (hK : KnowAt w' k p G' S' F') (E : Ext F w w') (hF : ∀ b, F' b → F b ∨ w.heap.size ≤ b) : Kept H w w' ∧ KnAt w0 H w' p k L G' S' FP F' := by
 have hk : Kept H w w' := E.kept (fun b hb hf => (h.oF b hf).2.1 hb)
 refine ⟨hk, h.pool.ext E (fun b hb hf => (h.oF b hf).2.2 hb), hK, h.pure.trans' E (fun i hi hb => by have := (h.oF i hb).1; omega), h.oP, fun b hb => ?_, h.hs.again hk⟩
 rcases hF b hb with h1 | h1
 ·exact h.oF b h1
 ·exact ⟨by have := h.pure.size; omega, fun hh => by have := h.hs.lt b hh; omega, fun hh => by have := h.pool.lt hh; omega⟩
end
theorem tm_box {w : World} {p : Addr} {T : TypeId} (t : Int) (h : Box w p [.int .i64 t] T) : Lst (· = p.block) w 1 ⟨some p, 1, 1⟩ (tmr [t]) := by
 refine ⟨by simp [tmr], fun i hi => ?_⟩
 have hi0 : i = 0 := by simpa [tmr] using hi
 subst hi0
 refine ⟨p, ⟨by omega, by simp, p, rfl, by simp [Addr.add]⟩, rfl, fun j hj => ?_⟩
 have hj0 : j = 0 := by simpa [tmr] using hj
 subst hj0
 have := h.cell0
 simpa [tmr, Addr.add] using this
theorem c_live8 (w0 : World) : Calls Try.prog 57 #[] w0 (fun e w' => ∃ r : Bool, e = .returned (.bool r) ∧ (r = true ∧ Pure w0 w')) := by
 refine w_law08_live w0 (fun r w' => r = true ∧ Pure w0 w') ?_
 unfold m_law08_live
 refine (c_New w0).mono ?_
 rintro _ w1 ⟨_, rfl, p, rfl, E1, FP1, hP1, hF1⟩
 refine ⟨_, rfl, E1.keptP, ?_⟩
 refine (c_ded_New p w1).mono ?_
 rintro _ w2 ⟨_, rfl, k, F, rfl, hk2, E2, hF2⟩
 refine ⟨_, rfl, E2.keptP, Br.f rfl ?_⟩
 have A2 : KnAt w0 None w2 p k [] [] [] FP1 F := ⟨hP1.pure E2, hk2, E1.trans E2, fun b hb => ⟨hF1 b hb, fun h => h⟩, fun b hb => ⟨by have := hF2 b hb; have := E1.size; omega, fun h => h, fun h => by have := hF2 b hb; have := hP1.lt h; omega⟩, (Hst.start w0).again (E1.trans E2).keptP⟩
 intro H1 w3 hs3
 have A3 := A2.hst hs3
 refine (c_Num p w3 A3.pool Sp.Wf.nil.ok 1).mono ?_
 rintro _ w4 ⟨r3, r4, rfl, hr, FP4, hP4, E4, hF4⟩
 rw [show (⟨2, 0, 0, 1, ⟨#[]⟩, 0, 0⟩ : Sp.Node) = Sp.l8a from rfl, Sp.l8m1] at hr hP4; cases hr
 obtain ⟨k4, A4⟩ := A3.make hP4 E4 hF4
 refine ⟨_, _, rfl, k4, ?_⟩
 refine (c_Name p w4 A4.pool Sp.l8w1.ok 2).mono ?_
 rintro _ w5 ⟨r5, r6, rfl, hr, FP5, hP5, E5, hF5⟩
 rw [show (⟨1, 2, 0, 0, ⟨#[]⟩, 0, 0⟩ : Sp.Node) = Sp.l8b from rfl, Sp.l8m2] at hr hP5; cases hr
 obtain ⟨k5, A5⟩ := A4.make hP5 E5 hF5
 refine ⟨_, _, rfl, k5, ?_⟩
 refine (c_Pair p w5 A5.pool Sp.l8w2.ok 1 2).mono ?_
 rintro _ w6 ⟨r7, r8, rfl, hr, FP6, hP6, E6, hF6⟩
 rw [show (⟨4, 0, 0, 0, ⟨#[]⟩, 1, 2⟩ : Sp.Node) = Sp.l8c from rfl, Sp.l8m3] at hr hP6; cases hr
 obtain ⟨k6, A6⟩ := A5.make hP6 E6 hF6
 refine ⟨_, _, rfl, k6, ?_⟩
 refine (c_Sign p w6 A6.pool Sp.l8w3.ok 0 3).mono ?_
 rintro _ w7 ⟨r9, r10, rfl, hr, FP7, hP7, E7, hF7⟩
 rw [show (⟨7, 0, 0, 0, ⟨#[]⟩, 3, 0⟩ : Sp.Node) = Sp.l8s from rfl, Sp.l8m4] at hr hP7; cases hr
 obtain ⟨k7, A7⟩ := A6.make hP7 E7 hF7
 refine ⟨_, _, rfl, k7, ?_⟩
 refine (c_Hash p w7 A7.pool Sp.l8w4.ok 1).mono ?_
 rintro _ w8 ⟨r11, r12, rfl, hr, FP8, hP8, E8, hF8⟩
 rw [show (⟨5, 0, 0, 0, ⟨#[]⟩, 1, 0⟩ : Sp.Node) = Sp.l8h from rfl, Sp.l8m5] at hr hP8; cases hr
 obtain ⟨k8, A8⟩ := A7.make hP8 E8 hF8
 refine ⟨_, _, rfl, k8, ?_⟩
 refine (c_Key p w8 A8.pool Sp.l8w5.ok 0).mono ?_
 rintro _ w9 ⟨r13, r14, rfl, hr, FP9, hP9, E9, hF9⟩
 rw [show (⟨6, 0, 0, 0, ⟨#[]⟩, 0, 0⟩ : Sp.Node) = Sp.l8k from rfl, Sp.l8m6] at hr hP9; cases hr
 obtain ⟨k9, A9⟩ := A8.make hP9 E9 hF9
 refine ⟨_, _, rfl, k9, ?_⟩
 refine (c_Sign p w9 A9.pool Sp.l8w6.ok 0 1).mono ?_
 rintro _ w10 ⟨r15, r16, rfl, hr, FP, hP10, E10, hF10⟩
 rw [show (⟨7, 0, 0, 0, ⟨#[]⟩, 1, 0⟩ : Sp.Node) = Sp.l8u from rfl, Sp.l8m7] at hr hP10; cases hr
 obtain ⟨k10, A10⟩ := A9.make hP10 E10 hF10
 refine ⟨_, _, rfl, k10, ?_⟩
 have hW := Sp.l8w7
 refine (c_ded_Add k p 4 w10 A10.know A10.pool hW (fun b hb => (A10.oF b hb).2.2) (Sp.KnowOk.nil _)).mono ?_
 rintro _ w11 ⟨_, rfl, rfl, S1, F1, hK1, ok1, X11, f11⟩
 rw [show Sp.giveT Sp.l87 [] 4 = [4] by unfold Sp.giveT; rw [if_pos Sp.l8in.1]; rfl] at hK1 ok1
 obtain ⟨k11, A11⟩ := A10.add hK1 X11 f11
 refine ⟨_, rfl, k11, ?_⟩
 have hs1 : ∀ t, t ∈ Sp.wkeys S1 ↔ Sp.Seen Sp.l87 [4] t := ok1.seen_iff
 refine (c_ded_Proof k p 5 w11 hW ok1 A11.know A11.pool).mono ?_
 rintro _ w12 ⟨r18, r19, rfl, l, hr18, hd19, _, hpf⟩
 have h19 := hd19.2 Sp.l8hash
 subst h19
 obtain ⟨hne, hfol, hnd, hlast, _⟩ := hpf rfl
 refine ⟨_, _, rfl, hr18.kept, ?_⟩
 have A12 := A11.pureE hr18.pure
 intro p1 w13 h13
 have E13 : Pure w12 w13 := Ext.new h13
 have A13 := A12.pureE E13
 have hfew : l.length ≤ 7 := by
  have := Sp.pool_few (L := Sp.l87) hnd (fun t ht => by
   obtain ⟨s, hs, rfl⟩ := List.mem_map.1 ht
   obtain ⟨i, hi, rfl⟩ := List.getElem_of_mem hs
   exact Sp.fol_in (hfol i hi))
  simpa [Sp.l87] using this
 refine (c_ded_Check p _ r18 [4] l 5 w13 A13.pool hW.ok (tm_box 4 (Box.of_new h13)) (hr18.rows.pure E13).lst (by simp) (by omega)).mono ?_
 rintro _ w14 ⟨r20, r21, rfl, hch, E14⟩
 have hc0 : Sp.check8 Sp.l87 [4] l 5 = (0, 0) := by
  unfold Sp.check8
  rw [Sp.badAt_none hfol]
  have : l.length ≠ 0 := fun h => hne (List.length_eq_zero_iff.1 h)
  simp [this, hlast]
 rw [hc0] at hch; cases hch
 have A14 := A13.pureE E14
 refine ⟨_, _, rfl, E14.keptP, ?_⟩
 refine (c_ded_Derives k p 7 w14 hW ok1 A14.know A14.pool).mono ?_
 rintro _ w15 ⟨r22, rfl, hd22, E15⟩
 have h22 : r22 = false := by
  cases r22 with
  | false => rfl
  | true =>
   refine absurd (hd22.1 rfl) (Sp.l8u_no (fun h => ?_) (fun h => ?_))
   ·have := Sp.l8see6 ((hs1 7).1 h); omega
   ·have := Sp.l8see6 ((hs1 6).1 h); omega
 subst h22
 have A15 := A14.pureE E15
 refine ⟨_, rfl, E15.keptP, ?_⟩
 refine (c_ded_Add k p 6 w15 A15.know A15.pool hW (fun b hb => (A15.oF b hb).2.2) ok1).mono ?_
 rintro _ w16 ⟨_, rfl, rfl, S2, F2, hK2, ok2, X16, f16⟩
 rw [show Sp.giveT Sp.l87 [4] 6 = [4, 6] by unfold Sp.giveT; rw [if_pos Sp.l8in.2.1]; rfl] at hK2 ok2
 obtain ⟨k16, A16⟩ := A15.add hK2 X16 f16
 refine ⟨_, rfl, k16, ?_⟩
 have hs2 : ∀ t, t ∈ Sp.wkeys S2 ↔ Sp.Seen Sp.l87 [4, 6] t := ok2.seen_iff
 have hnil : Lst (fun _ => False) w16 1 Sl.nil (tmr []) := ⟨rfl, fun i hi => by simp [tmr] at hi⟩
 have hnil4 : Lst (fun _ => False) w16 4 Sl.nil (([] : List Sp.Step).map strow) := ⟨rfl, fun i hi => by simp at hi⟩
 refine (c_ded_Check p Sl.nil Sl.nil [] [] 5 w16 A16.pool hW.ok hnil hnil4 (by simp) (by simp)).mono ?_
 rintro _ w17 ⟨r24, r25, rfl, hch, E17⟩
 have hc1 : Sp.check8 Sp.l87 [] [] 5 = (81, 0) := by kernel_rfl
 rw [hc1] at hch; cases hch
 have A17 := A16.pureE E17
 refine ⟨_, _, rfl, E17.keptP, ?_⟩
 have l18 : r18.len = l.length := by rw [hr18.rows.len]; simp
 rintro y1 rfl
 refine Br.t ?_ ?_
 ·have hpos : 0 < l.length := List.length_pos_iff.2 hne
  simp [Sp.l8in.1, Sp.l8in.2.1, l18, hpos]
 intro H6 w27 hs27
 have A27 := A17.hst hs27
 refine (c_ded_Derives k p 7 w27 hW ok2 A27.know A27.pool).mono ?_
 rintro _ w34 ⟨r30, rfl, hd30, E34⟩
 have h30 := hd30.2 (Sp.l8u_yes ((hs2 6).2 (.given (by simp))))
 subst h30
 have A34 := A27.pureE E34
 refine ⟨_, rfl, E34.keptP, ?_⟩
 unfold m_law08_live_j1
 refine Br.t rfl ?_
 refine (c_ded_Sees k p 7 w34 A34.know).mono ?_
 rintro _ w33 ⟨r29, rfl, rfl, E33⟩
 have A33 := A34.pureE E33
 refine ⟨_, rfl, E33.keptP, ?_⟩
 have n7 : 7 ∉ Sp.wkeys S2 := fun h => by have := Sp.l8see (fun t ht => by simp at ht; exact ht) ((hs2 7).1 h); omega
 rw [show (!decide ((7 : Int) ∈ Sp.wkeys S2)) = true by simp [n7]]
 unfold m_law08_live_j2
 refine Br.t rfl ?_
 refine (c_ded_Sees k p 1 w33 A33.know).mono ?_
 rintro _ w32 ⟨r28, rfl, rfl, E32⟩
 have A32 := A33.pureE E32
 refine ⟨_, rfl, E32.keptP, ?_⟩
 have y1 : (1 : Int) ∈ Sp.wkeys S2 := (hs2 1).2 (Sp.l8seen (by simp))
 rw [decide_eq_true y1]
 unfold m_law08_live_j3
 refine Br.t rfl ?_
 intro H7 w28 hs28
 have A28 := A32.hst hs28
 refine (c_ded_Given k p w28 A28.know (by simp)).mono ?_
 rintro _ w31 ⟨r27, rfl, hr27⟩
 have A31 := A28.pureE hr27.pure
 refine ⟨_, rfl, hr27.kept, ?_⟩
 have l27 : r27.len = 2 := by rw [hr27.rows.len]; rfl
 rw [l27]
 unfold m_law08_live_j4
 refine Br.t rfl ?_
 refine (c_ded_Add k p 99 w31 A31.know A31.pool hW (fun b hb => (A31.oF b hb).2.2) ok2).mono ?_
 rintro _ w29 ⟨_, rfl, rfl, S3, F3, hK3, ok3, X29, f29⟩
 obtain ⟨k29, A29⟩ := A31.add hK3 X29 f29
 refine ⟨_, rfl, k29, ?_⟩
 intro w30 hs30
 exact ⟨by simp [Sp.l8in.2.2], (A29.hst hs30).pure⟩
end Go.Proofs
end
section
open Go Go.SE
namespace Go.Proofs
attribute [local irreducible] Calls
theorem c_nil_Proof (t : Int) (w0 : World) : Calls Try.prog 55 #[.pointer none, .int .i64 t] w0 (fun e w' => ∃ r : Sl, ∃ b : Bool, e = .returned (.tuple #[r.v, .bool b]) ∧ ((r = Sl.nil ∧ b = false) ∧ Pure w0 w')) := by
 refine w_deduce_Know_Proof _ _ w0 (fun r b w' => (r = Sl.nil ∧ b = false) ∧ Pure w0 w') ?_
 unfold m_deduce_Know_Proof
 intro p1 w1 h1
 refine ⟨none, (Box.of_new h1).cell0, Br.t rfl ?_⟩
 exact ⟨⟨rfl, rfl⟩, Ext.new h1⟩
theorem c_nil_Check (a b : Sl) (g : Int) (w0 : World) : Calls Try.prog 56 #[.pointer none, a.v, b.v, .int .i64 g] w0 (fun e w' => ∃ r n : Int, e = .returned (.tuple #[.int .i64 r, .int .i64 n]) ∧ ((r = 7 ∧ n = 0) ∧ Pure w0 w')) := by
 refine w_deduce_Check _ _ _ _ w0 (fun r n w' => (r = 7 ∧ n = 0) ∧ Pure w0 w') ?_
 unfold m_deduce_Check
 exact Br.t rfl ⟨⟨rfl, rfl⟩, Ext.refl _⟩
theorem c_nil_New (w0 : World) : Calls Try.prog 58 #[.pointer none] w0 (fun e w' => ∃ r : Option Addr, e = .returned (.pointer r) ∧ (r = none ∧ Pure w0 w')) := by
 refine w_deduce_New _ w0 (fun r w' => r = none ∧ Pure w0 w') ?_
 unfold m_deduce_New
 exact Br.t rfl ⟨rfl, Ext.refl _⟩
theorem c_nil_Add (t : Int) (w0 : World) : Calls Try.prog 60 #[.pointer none, .int .i64 t] w0 (fun e w' => ∃ r : Int, e = .returned (.int .i64 r) ∧ (r = 7 ∧ Pure w0 w')) := by
 refine w_deduce_Know_Add _ _ w0 (fun r w' => r = 7 ∧ Pure w0 w') ?_
 unfold m_deduce_Know_Add
 exact Br.t rfl ⟨rfl, Ext.refl _⟩
theorem c_nil_Given (w0 : World) : Calls Try.prog 61 #[.pointer none] w0 (fun e w' => ∃ r : Sl, e = .returned r.v ∧ (r = Sl.nil ∧ Pure w0 w')) := by
 refine w_deduce_Know_Given _ w0 (fun r w' => r = Sl.nil ∧ Pure w0 w') ?_
 unfold m_deduce_Know_Given
 exact Br.t rfl ⟨rfl, Ext.refl _⟩
theorem c_nil_Seen (w0 : World) : Calls Try.prog 62 #[.pointer none] w0 (fun e w' => ∃ r : Sl, e = .returned r.v ∧ (r = Sl.nil ∧ Pure w0 w')) := by
 refine w_deduce_Know_Seen _ w0 (fun r w' => r = Sl.nil ∧ Pure w0 w') ?_
 unfold m_deduce_Know_Seen
 exact Br.t rfl ⟨rfl, Ext.refl _⟩
theorem c_nil_Sees (t : Int) (w0 : World) : Calls Try.prog 63 #[.pointer none, .int .i64 t] w0 (fun e w' => ∃ r : Bool, e = .returned (.bool r) ∧ (r = false ∧ Pure w0 w')) := by
 refine w_deduce_Know_Sees _ _ w0 (fun r w' => r = false ∧ Pure w0 w') ?_
 unfold m_deduce_Know_Sees
 exact Br.t rfl ⟨rfl, Ext.refl _⟩
theorem c_nil_Derives (t : Int) (w0 : World) : Calls Try.prog 64 #[.pointer none, .int .i64 t] w0 (fun e w' => ∃ r : Bool, e = .returned (.bool r) ∧ (r = false ∧ Pure w0 w')) := by
 refine w_deduce_Know_Derives _ _ w0 (fun r w' => r = false ∧ Pure w0 w') ?_
 unfold m_deduce_Know_Derives
 refine (c_nil_Proof t w0).mono ?_
 rintro _ w1 ⟨r, b, rfl, ⟨rfl, rfl⟩, E⟩
 exact ⟨_, _, rfl, rfl, E⟩
theorem c_nil_Copy (w0 : World) : Calls Try.prog 65 #[.pointer none] w0 (fun e w' => ∃ r : Option Addr, e = .returned (.pointer r) ∧ (r = none ∧ Pure w0 w')) := by
 refine w_deduce_Know_Copy _ w0 (fun r w' => r = none ∧ Pure w0 w') ?_
 unfold m_deduce_Know_Copy
 exact Br.t rfl ⟨rfl, Ext.refl _⟩
theorem c_law08_DeduceNil (w0 : World) : Calls Try.prog 11 #[] w0 (fun e w' => ∃ r : Bool, e = .returned (.bool r) ∧ (r = true ∧ Pure w0 w')) := by
 refine w_law08_DeduceNil w0 (fun r w' => r = true ∧ Pure w0 w') ?_
 unfold m_law08_DeduceNil
 refine (c_nil_Proof 1 w0).mono ?_
 rintro _ w1 ⟨r, b, rfl, ⟨rfl, rfl⟩, E1⟩
 refine ⟨_, _, rfl, E1.keptP, ?_⟩
 refine (c_nil_Check _ _ 0 w1).mono ?_
 rintro _ w2 ⟨r, n, rfl, ⟨rfl, rfl⟩, E2⟩
 refine ⟨_, _, rfl, E2.keptP, ?_⟩
 refine (c_live8 w2).mono ?_
 rintro _ w3 ⟨_, rfl, rfl, E3⟩
 refine ⟨_, rfl, E3.keptP, Br.t rfl ?_⟩
 refine (c_nil_New w3).mono ?_
 rintro _ w4 ⟨_, rfl, rfl, E4⟩
 refine ⟨_, rfl, E4.keptP, ?_⟩
 have E := ((E1.trans E2).trans E3).trans E4
 unfold m_law08_DeduceNil_j1
 refine Br.t rfl ?_
 refine (c_nil_Add 1 w4).mono ?_
 rintro _ w5 ⟨_, rfl, rfl, E5⟩
 refine ⟨_, rfl, E5.keptP, fun w6 hs6 => ?_⟩
 have E := (E.trans E5).trans (hs6.ext.mono fun _ _ h => h)
 unfold m_law08_DeduceNil_j2
 refine Br.t rfl ?_
 refine (c_nil_Given w6).mono ?_
 rintro _ w7 ⟨_, rfl, rfl, E7⟩
 refine ⟨_, rfl, E7.keptP, ?_⟩
 unfold m_law08_DeduceNil_j3
 refine Br.t rfl ?_
 refine (c_nil_Seen w7).mono ?_
 rintro _ w8 ⟨_, rfl, rfl, E8⟩
 refine ⟨_, rfl, E8.keptP, ?_⟩
 unfold m_law08_DeduceNil_j4
 refine Br.t rfl ?_
 refine (c_nil_Sees 1 w8).mono ?_
 rintro _ w9 ⟨_, rfl, rfl, E9⟩
 refine ⟨_, rfl, E9.keptP, ?_⟩
 have E := ((E.trans E7).trans E8).trans E9
 unfold m_law08_DeduceNil_j5
 refine Br.t rfl ?_
 refine (c_nil_Derives 1 w9).mono ?_
 rintro _ w10 ⟨_, rfl, rfl, E10⟩
 refine ⟨_, rfl, E10.keptP, ?_⟩
 unfold m_law08_DeduceNil_j6
 refine Br.t rfl ?_
 intro H2 w11 hs11
 have E := E.trans E10
 have E := E.trans (show Pure w10 w11 from ⟨hs11.ext.os, hs11.ext.tape, hs11.ext.output, hs11.ext.size, fun b hb _ => hs11.ext.keep b hb (fun h => by rcases hs11.new b h with h | h; exact h; omega)⟩)
 refine (c_nil_Copy w11).mono ?_
 rintro _ w12 ⟨_, rfl, rfl, E12⟩
 refine ⟨_, rfl, E12.keptP, ?_⟩
 unfold m_law08_DeduceNil_j7
 intro H4 w13 hs13
 exact ⟨rfl, (E.trans E12).hst hs13⟩
end Go.Proofs
end
section
namespace Go.SE
open Go.ChangeShapes Go.WideShapes Go.ChangeAt Go.RowKit
section
variable {H : Type} {enc : TypeId × Value → H} {P : Program}
theorem below_trodAll (hl : laidOutB P = true) {W W' : World} (hb : Below W.heap.size W W') : ∀ (ts : List TypeId) (vs : List Value) (ds : List (DataW H)) (ps : List MemPlace), (ts.all fun t => P.readableRec t && decide (t < P.types.size)) = true →
  DataW.TrodAll enc P W 0 (fun _ => true) true ts vs ds ps → (∀ x ∈ ps, x.block < W.heap.size) → DataW.TrodAll enc P W' 0 (fun b => decide (b < W.heap.size)) true ts vs ds ps
 | [], _, _, _, _, h, _ => by
  obtain ⟨rfl, rfl, rfl⟩ := trodAll_nil h
  exact h
 | t :: ts, _, _, _, hr, h, hlt => by
  obtain ⟨v, vs1, d, ds1, a, b, rfl, rfl, rfl, h1, h2⟩ := trodAll_cons h
  simp only [List.all_cons, Bool.and_eq_true, decide_eq_true_eq] at hr
  exact ⟨a, b, Below.trod hl hr.1.1 hr.1.2 h1 hb (fun x hx => hlt x (by simp [hx])), below_trodAll hl hb ts vs1 ds1 b (by simpa using hr.2) h2 (fun x hx => hlt x (by simp [hx])), rfl⟩
theorem law_post {f : Func} {s : ChangeSpec} {W W' : World} {args : Array Value} {ds gs : List (DataW H)} {before : List MemPlace} {t : TypeId} (hl : laidOutB P = true)
  (hv : s.vars = []) (hf : ∀ ds : List (DataW H), ds.length = f.params.size → s.fn H ds = { results := [.lit (.bool true)], args := ds }) (hrt : f.resultTypes = #[t]) (ht : P.underlying t = some .bool)
  (hr : (f.params.toList.all fun t => P.readableRec t && decide (t < P.types.size)) = true)
  (hW : DataW.Whole enc P f.params.toList s.vars false W args.toList ds gs before) (E : Pure W W') :
  s.post enc P f false true false false W args (.bool true) W' := by
 have hW' := hW
 obtain ⟨p, q, hA, hV, rfl, hfz, hnd⟩ := hW
 rw [hv] at hV
 obtain ⟨rfl, rfl⟩ := trodVars_none hV
 have hlen : ds.length = f.params.size := by
  have : ∀ (ts : List TypeId) (vs : List Value) (ds : List (DataW H)) (ps : List MemPlace), DataW.TrodAll enc P W 0 (fun _ => true) true ts vs ds ps → ds.length = ts.length := by
   intro ts
   induction ts with
   | nil => intro vs ds ps h; obtain ⟨_, rfl, _⟩ := trodAll_nil h; rfl
   | cons t ts ih =>
    intro vs ds ps h
    obtain ⟨v, vs1, d, ds1, a, b, _, rfl, _, _, h2⟩ := trodAll_cons h
    simp [ih _ _ _ h2]
  simpa using this _ _ _ _ hA
 have hfn := hf ds hlen
 have hfn' : s.fn H (ds ++ []) = { results := [.lit (.bool true)], args := ds } := by rw [List.append_nil]; exact hfn
 have hlt : ∀ x ∈ p, x.block < W.heap.size := fun x hx => by simpa using hW'.lt x (by simp [hx])
 have bel := E.below
 refine ⟨ds, [], p ++ [], [], p, [], hW', ?_, ?_, ?_, bel.frame _, fun h => by cases h⟩
 ·rw [hfn', hrt]; exact trodAll_mk1 (shut_bool ht _)
 ·rw [hfn']; exact below_trodAll hl bel _ _ _ _ hr hA hlt
 ·rw [hfn', hv]; exact hV
theorem law_lifted {C : Checked} {os : Os} {f : FuncId} {fn : Func} {s : ChangeSpec} {t : TypeId} (hl : laidOutB C.prog = true)
  (hv : s.vars = []) (hf : ∀ ds : List (DataW H), ds.length = fn.params.size → s.fn H ds = { results := [.lit (.bool true)], args := ds }) (hrt : fn.resultTypes = #[t]) (ht : C.prog.underlying t = some .bool)
  (hr : (fn.params.toList.all fun t => C.prog.readableRec t && decide (t < C.prog.types.size)) = true)
  (own : ownKnob C.prog.godebug = none) (started : os.Started) (noInit : C.prog.inits.idxOf? f = none) (hfn : C.prog.funcs[f]? = some fn)
  (witness : ∃ (w : World) (tape : Tape) (i : Input), w.os = os ∧ (w.forCall tape i).Shaped C.prog ∧ i.vars = [] ∧ Input.okWide C.prog (w.forCall tape i) .any w.heap.size f i ∧
   s.pre6 enc C.prog fn [] false (w.forCall tape i).memory i.args ∧ ({} : Assume).holds C.prog (lone (Frame.enter C.prog f i.args .normal) [] (w.forCall tape i)))
  (contract : ∀ (W : World) (base : Nat) (args : Array Value) (ds : List (DataW H)) (p : List MemPlace),
   (∀ (j : Nat) t v, fn.params[j]? = some t → args[j]? = some v → Value.okWide C.prog W .any base t v) →
   DataW.TrodAll enc C.prog W 0 (fun _ => true) true fn.params.toList args.toList ds p → (∀ x ∈ p, x.block < W.heap.size) →
   Calls C.prog f args W (fun e W' => ∃ r : Bool, e = .returned (.bool r) ∧ (r = true ∧ Pure W W'))) :
  ReturnsInHanded {} C os f .any (s.pre6 enc C.prog fn [] false) (s.post enc C.prog fn false true false false) := by
 refine returnsInHanded_of_change own started noInit hfn witness ?_
 intro W base args ds gs before hval hW _ _
 have hW' := hW
 obtain ⟨p, q, hA, hV, rfl, hfz, hnd⟩ := hW
 refine (contract W base args ds p hval hA (fun x hx => by simpa using hW'.lt x (by simp [hx]))).mono fun e W' ⟨r, he, h1, h2⟩ => ?_
 subst h1
 exact ⟨_, he, law_post hl hv hf hrt ht hr hW' h2⟩
end
end Go.SE
namespace Go.SE
open Go.ChangeShapes Go.WideShapes Go.ChangeAt Go.RowKit
section
variable {P : Program} {W : World} {r : Reach} {b0 : Nat} {t : TypeId} {v : Value}
end
end Go.SE
end
