import Derived.Test.YtakogcapgbilaaaPa5
import Derived.Test.YtakogcapgbilaaaPa1
import Derived.Test.YtakogcapgbilaaaPa4
import Derived.Test.YtakogcapgbilaaaPa0
import Derived.Test.YtakogcapgbilaaaPa3
import Derived.ProofKit
import Derived.Carry
import Derived.OpenShut
import Derived.Stop.Joined
section
namespace Go.Sp
def IsL (x : Tree) (l : Letter) : Prop := letErr l = 0 ∧ ∃ a b : Bool, (l.kind = 4 → l.fake = (a || b)) ∧ x = letterT l a b
theorem letErr_inv {k f c : Int} {x : ByteArray} {g : Bool} (h : letErr ⟨k, f, c, x, g⟩ = 0) : (k = 1 ∨ k = 2 ∨ k = 3 ∨ k = 4 ∨ k = 5 ∨ k = 6 ∨ k = 7) ∧ (f = 0 ∨ f = 1) ∧ (isSigned k = false → f = 0) ∧ (isTexted k = false → x = ⟨#[]⟩) ∧ (g = true → k = 1 ∨ k = 4) ∧ x.size ≤ 64 := by
 unfold letErr at h
 simp only at h
 split at h
 ·cases h
 rename_i hh
 split at h
 ·cases h
 simp only [not_or, not_and, Classical.not_not] at hh
 obtain ⟨h1, h2, h3, h4, h5, h6⟩ := hh
 refine ⟨by omega, ?_, h4, h5, ?_, by omega⟩
 ·by_cases h0 : f = 0
  ·exact .inl h0
  ·exact .inr (h3 h0)
 ·intro hg
  by_cases h1 : k = 1
  ·exact .inl h1
  ·exact .inr (h6 hg h1)
theorem letErr_of {k f c : Int} {x : ByteArray} {g : Bool} (hk : 1 ≤ k ∧ k ≤ 7) (hf : f = 0 ∨ f = 1) (h1 : isSigned k = false → f = 0) (h2 : isTexted k = false → x = ⟨#[]⟩) (h3 : g = true → k = 1 ∨ k = 4) (hx : x.size ≤ 64) : letErr ⟨k, f, c, x, g⟩ = 0 := by
 unfold letErr
 simp only
 rw [if_neg, if_neg (by omega)]
 simp only [not_or, not_and, Classical.not_not]
 refine ⟨by omega, by omega, fun h0 => hf.resolve_left h0, h1, h2, fun hg h1 => (h3 hg).resolve_left h1⟩
section
variable {L : Pool} (hW : Wf L) {t : Int}
include hW
theorem rdResolve_ok {who : Int} (h : (rdResolve L who t).2 = false) : ∃ c x a b, (rdResolve L who t).1 = ⟨4, who, c, x, a || b⟩ ∧ x.size ≤ 64 ∧ treeOf L t = pairT (promT 0 (dealT c x) a) (promT 1 (dealT c x) b) := by
 unfold rdResolve at h ⊢
 simp only [Bool.or_eq_false_iff, Bool.not_eq_false', decide_eq_true_eq, bne_eq_false_iff_eq] at h
 obtain ⟨⟨⟨⟨⟨⟨h1, h2⟩, h3⟩, h4⟩, h5⟩, h6⟩, h7⟩ := h
 obtain ⟨ht, hk, e⟩ := rdNode_ok h1
 simp only
 rw [e] at h2 h3 h4 h5 h6 h7 ⊢
 simp only at h2 h3 h4 h5 h6 h7 ⊢
 obtain ⟨ha, hb, hT⟩ := nd4 hW ht hk
 obtain ⟨_, _, ea, hx⟩ := rdPromise_ok hW ha h2
 obtain ⟨_, _, eb, _⟩ := rdPromise_ok hW hb h3
 refine ⟨_, _, _, _, rfl, hx, ?_⟩
 rw [hT, ea, eb, h4, h5, h6, h7]
theorem rdResolve_of (ht : inP L t = true) {who c : Int} {x : ByteArray} {a b : Bool} (h : treeOf L t = pairT (promT 0 (dealT c x) a) (promT 1 (dealT c x) b)) : rdResolve L who t = (⟨4, who, c, x, a || b⟩, false) := by
 have hk := (nd_kind hW ht (h.trans rfl)).1
 obtain ⟨h1, h2, h3⟩ := nd4 hW ht hk
 rw [h] at h3
 have q1 := (List.cons.inj (Tree.mk.inj h3).2.2.2.2.2).1
 have q2 := (List.cons.inj (List.cons.inj (Tree.mk.inj h3).2.2.2.2.2).2).1
 unfold rdResolve
 simp only
 rw [rdNode_of ht hk]
 simp only
 rw [rdPromise_of hW h1 (.inl rfl) q1.symm, rdPromise_of hW h2 (.inr rfl) q2.symm]
 simp
theorem rdSigned_ok {who : Int} (hw : 0 ≤ who) (h : (rdSigned L who t).2 = false) : IsL (signT who (treeOf L t)) (rdSigned L who t).1 := by
 unfold rdSigned at h ⊢
 simp only at h ⊢
 by_cases c1 : (rdTagged L t).1.1 = wAbort ∧ who = 0
 ·rw [if_pos c1] at h ⊢
  simp only [Bool.or_eq_false_iff] at h
  obtain ⟨ht, hn, e⟩ := rdTagged_ok hW h.1
  show IsL _ ⟨3, 0, _, ⟨#[]⟩, false⟩
  refine ⟨letErr_of (by omega) (.inl rfl) (fun _ => rfl) (fun _ => rfl) (fun h => nomatch h) (Nat.zero_le _), false, false, by simp, ?_⟩
  rw [e, c1.1, c1.2, (rdNum_ok hW h.2).2]; rfl
 rw [if_neg c1] at h ⊢
 by_cases c2 : (rdTagged L t).1.1 = wAborted ∧ who = 2
 ·rw [if_pos c2] at h ⊢
  simp only [Bool.or_eq_false_iff] at h
  obtain ⟨ht, hn, e⟩ := rdTagged_ok hW h.1
  show IsL _ ⟨5, 0, _, ⟨#[]⟩, false⟩
  refine ⟨letErr_of (by omega) (.inl rfl) (fun _ => rfl) (fun _ => rfl) (fun h => nomatch h) (Nat.zero_le _), false, false, by simp, ?_⟩
  rw [e, c2.1, c2.2, (rdNum_ok hW h.2).2]; rfl
 rw [if_neg c2] at h ⊢
 by_cases c3 : (rdTagged L t).1.1 = wInstead ∧ who = 2
 ·rw [if_pos c3] at h ⊢
  simp only [Bool.or_eq_false_iff] at h
  obtain ⟨ht, hn, e⟩ := rdTagged_ok hW h.1
  obtain ⟨_, e2, hx⟩ := rdDeal_ok hW h.2
  refine ⟨letErr_of (by omega) (.inl rfl) (fun _ => rfl) (by simp [isTexted]) (by simp) hx, false, false, by simp, ?_⟩
  rw [e, c3.1, c3.2, e2]; rfl
 rw [if_neg c3] at h ⊢
 by_cases c4 : (rdTagged L t).1.1 = wDeal ∧ who ≤ 1
 ·rw [if_pos c4] at h ⊢
  simp only [Bool.or_eq_false_iff] at h
  obtain ⟨_, e2, hx⟩ := rdDeal_ok hW h.2
  refine ⟨letErr_of (by omega) (by omega) (by simp [isSigned]) (by simp [isTexted, isSigned]) (by simp) hx, false, false, by simp, ?_⟩
  rw [e2]; rfl
 rw [if_neg c4] at h ⊢
 by_cases c5 : (rdTagged L t).1.1 = wResolve ∧ who ≤ 1
 ·rw [if_pos c5] at h ⊢
  simp only [Bool.or_eq_false_iff] at h
  obtain ⟨ht, hn, e⟩ := rdTagged_ok hW h.1
  obtain ⟨c, x, a, b, e2, hx, e3⟩ := rdResolve_ok hW h.2
  rw [e2]
  refine ⟨letErr_of (by omega) (by omega) (by simp [isSigned]) (by simp [isTexted, isSigned]) (by simp) hx, a, b, by simp, ?_⟩
  rw [e, c5.1, e3]
  cases a <;> cases b <;> rfl
 rw [if_neg c5] at h
 cases h
theorem readQ_ok (ht : inP L t = true) (h : (readQ L t).2 = false) : IsL (treeOf L t) (readQ L t).1 := by
 unfold readQ at h ⊢
 simp only at h ⊢
 by_cases c1 : (nodeOf L t).kind = 7
 ·rw [if_pos c1] at h ⊢
  obtain ⟨h1, h2, h3⟩ := nd7 hW ht c1
  rw [h3]
  exact rdSigned_ok hW h2 h
 rw [if_neg c1] at h ⊢
 by_cases c2 : (nodeOf L t).kind = 8 ∨ (nodeOf L t).kind = 9
 ·rw [if_pos c2] at h ⊢
  obtain ⟨h1, h2, h3, h4⟩ := rdPromise_ok hW ht h
  generalize rdPromise L t = r at *
  obtain ⟨⟨k, f, c, x, g⟩, b⟩ := r
  simp only at h1 h2 h3 h4 ⊢
  subst h1
  exact ⟨letErr_of (by omega) h2 (by simp [isSigned]) (by simp [isTexted, isSigned]) (by simp) h4, false, false, by simp, h3⟩
 rw [if_neg c2] at h ⊢
 split at h
 ·cases h
 rename_i c3
 rw [if_neg c3]
 simp only [Bool.or_eq_true, Bool.not_eq_true', decide_eq_false_iff_not, not_or, Classical.not_not, Bool.not_eq_true] at c3
 obtain ⟨_, hn, e⟩ := rdTagged_ok hW c3.1
 show IsL _ ⟨7, 0, _, ⟨#[]⟩, false⟩
 refine ⟨letErr_of (by omega) (.inl rfl) (fun _ => rfl) (fun _ => rfl) (fun h => nomatch h) (Nat.zero_le _), false, false, by simp, ?_⟩
 rw [e, c3.2, (rdNum_ok hW h).2]; rfl
theorem readQ_of (ht : inP L t = true) {l : Letter} (h : IsL (treeOf L t) l) : readQ L t = (l, false) := by
 obtain ⟨k, f, c, x, g⟩ := l
 obtain ⟨h1, a, b, h4, hT⟩ := h
 obtain ⟨hk, hf, hs, hx, hg, _⟩ := letErr_inv h1
 have tagged : ∀ {who : Int} {gg : ByteArray} {y : Tree}, treeOf L t = signT who (pairT (dataT gg) y) → (nodeOf L t).kind = 7 ∧ (nodeOf L t).frm = who ∧ inP L (nodeOf L t).a = true ∧ treeOf L (nodeOf L t).a = pairT (dataT gg) y ∧ ∃ n, rdTagged L (nodeOf L t).a = ((gg, n), false) ∧ inP L n = true ∧ treeOf L n = y := by
  intro who gg y e
  have k := nd_kind hW ht (e.trans rfl)
  obtain ⟨q1, _, q3⟩ := nd7 hW ht k.1
  rw [e] at q3
  have q := (List.cons.inj (Tree.mk.inj q3).2.2.2.2.2).1
  exact ⟨k.1, k.2.1, q1, q.symm, rdTagged_of hW q1 q.symm⟩
 rcases hk with rfl | rfl | rfl | rfl | rfl | rfl | rfl
 ·have e : treeOf L t = promT f (dealT c x) g := hT
  have k := nd_kind hW ht (e.trans rfl)
  unfold readQ
  simp only
  rw [if_neg (by rw [k.1]; cases g <;> decide), if_pos (by rw [k.1]; cases g <;> decide), rdPromise_of hW ht hf e]
 ·have e : treeOf L t = signT f (dealT c x) := hT
  have : g = false := by cases g with
   | false => rfl
   | true => exact absurd (hg rfl) (by omega)
  subst this
  obtain ⟨k, kf, h1, h2, n, e1, hn, e2⟩ := tagged e
  unfold readQ rdSigned
  simp only
  rw [if_pos k, e1, kf]
  simp only
  rw [if_neg (fun q => absurd q.1 (by decide)), if_neg (fun q => absurd q.1 (by decide)), if_neg (fun q => absurd q.1 (by decide)), if_pos ⟨trivial, by omega⟩, rdDeal_of hW h1 h2]
  rfl
 ·obtain rfl : f = 0 := hs rfl
  obtain rfl : x = ⟨#[]⟩ := hx rfl
  have : g = false := by cases g with
   | false => rfl
   | true => exact absurd (hg rfl) (by omega)
  subst this
  have e : treeOf L t = signT 0 (pairT (dataT wAbort) (numT c)) := hT
  obtain ⟨k, kf, h1, h2, n, e1, hn, e2⟩ := tagged e
  obtain ⟨u1, u2⟩ := rdNum_of hW hn e2
  unfold readQ rdSigned
  simp only
  rw [if_pos k, e1, kf]
  simp only
  rw [if_pos ⟨trivial, trivial⟩, u1, u2]
  rfl
 ·have e : treeOf L t = signT f (pairT (dataT wResolve) (pairT (promT 0 (dealT c x) (g && a)) (promT 1 (dealT c x) (g && b)))) := hT
  obtain ⟨k, kf, h1, h2, n, e1, hn, e2⟩ := tagged e
  have hgg : ((g && a) || (g && b)) = g := by
   have := h4 rfl
   simp only at this
   subst this
   cases a <;> cases b <;> rfl
  unfold readQ rdSigned
  simp only
  rw [if_pos k, e1, kf]
  simp only
  rw [if_neg (fun q => absurd q.1 (by decide)), if_neg (fun q => absurd q.1 (by decide)), if_neg (fun q => absurd q.1 (by decide)), if_neg (fun q => absurd q.1 (by decide)), if_pos ⟨trivial, by omega⟩, rdResolve_of hW hn e2, hgg]
  rfl
 ·obtain rfl : f = 0 := hs rfl
  obtain rfl : x = ⟨#[]⟩ := hx rfl
  have : g = false := by cases g with
   | false => rfl
   | true => exact absurd (hg rfl) (by omega)
  subst this
  have e : treeOf L t = signT 2 (pairT (dataT wAborted) (numT c)) := hT
  obtain ⟨k, kf, h1, h2, n, e1, hn, e2⟩ := tagged e
  obtain ⟨u1, u2⟩ := rdNum_of hW hn e2
  unfold readQ rdSigned
  simp only
  rw [if_pos k, e1, kf]
  simp only
  rw [if_neg (fun q => absurd q.1 (by decide)), if_pos ⟨trivial, trivial⟩, u1, u2]
  rfl
 ·obtain rfl : f = 0 := hs rfl
  have : g = false := by cases g with
   | false => rfl
   | true => exact absurd (hg rfl) (by omega)
  subst this
  have e : treeOf L t = signT 2 (pairT (dataT wInstead) (dealT c x)) := hT
  obtain ⟨k, kf, h1, h2, n, e1, hn, e2⟩ := tagged e
  unfold readQ rdSigned
  simp only
  rw [if_pos k, e1, kf]
  simp only
  rw [if_neg (fun q => absurd q.1 (by decide)), if_neg (fun q => absurd q.1 (by decide)), if_pos ⟨trivial, trivial⟩, rdDeal_of hW hn e2]
  rfl
 ·obtain rfl : f = 0 := hs rfl
  obtain rfl : x = ⟨#[]⟩ := hx rfl
  have : g = false := by cases g with
   | false => rfl
   | true => exact absurd (hg rfl) (by omega)
  subst this
  have e : treeOf L t = pairT (dataT wFull) (numT c) := hT
  have k := nd_kind hW ht (e.trans rfl)
  obtain ⟨n, e1, hn, e2⟩ := rdTagged_of hW ht e
  obtain ⟨u1, u2⟩ := rdNum_of hW hn e2
  unfold readQ
  simp only
  rw [if_neg (by rw [k.1]; decide), if_neg (by rw [k.1]; decide), e1]
  simp only
  rw [if_neg (by simp), u1, u2]
end
theorem cnt_letter (l : Letter) (a b : Bool) : cnt (letterT l a b) ≤ 40 := by
 unfold letterT
 simp only [promT, dealT, signT, pairT, dataT, numT]
 split
 ·simp [cnt, cntAll]
 split
 ·simp [cnt, cntAll]
 split
 ·simp [cnt, cntAll]
 split
 ·simp [cnt, cntAll]
 split
 ·simp [cnt, cntAll]
 split
 ·simp [cnt, cntAll]
 ·simp [cnt, cntAll]
theorem tryFakes_some {x : Tree} {l : Letter} : ∀ {n i : Nat} {l' : Letter}, tryFakes x l n i = some l' → ∃ f, i ≤ f ∧ f < i + n ∧ fits x l f = true ∧ l' = withFake l f
 | 0, i, l', h => by cases h
 | n + 1, i, l', h => by
  unfold tryFakes at h
  split at h
  ·rename_i hf; cases h; exact ⟨i, by omega, by omega, hf, rfl⟩
  ·obtain ⟨f, h1, h2, h3, h4⟩ := tryFakes_some h
   exact ⟨f, by omega, by omega, h3, h4⟩
theorem tryFakes_of {x : Tree} {l : Letter} {f : Nat} (hf : fits x l f = true) : ∀ {n i : Nat}, i ≤ f → f < i + n → tryFakes x l n i ≠ none
 | 0, i, h1, h2 => by omega
 | n + 1, i, h1, h2 => by
  unfold tryFakes
  split
  ·simp
  ·rename_i h
   by_cases e : i = f
   ·subst e; exact absurd hf h
   ·exact tryFakes_of hf (by omega) (by omega)
theorem tryDeals_some {x : Tree} {k : Int} : ∀ {ps : List (List Nat)} {l : Letter}, tryDeals x k ps = some l → ∃ p ∈ ps, ∃ f, f < 4 ∧ fits x (cand x k p) f = true ∧ l = withFake (cand x k p) f
 | [], l, h => by cases h
 | p :: ps, l, h => by
  unfold tryDeals at h
  split at h
  ·rename_i l' he
   cases h
   obtain ⟨f, _, h2, h3, h4⟩ := tryFakes_some he
   exact ⟨p, by simp, f, by omega, h3, h4⟩
  ·obtain ⟨p', h1, h2⟩ := tryDeals_some h
   exact ⟨p', by simp [h1], h2⟩
theorem tryDeals_of {x : Tree} {k : Int} {p : List Nat} {f : Nat} (hf : f < 4) (h : fits x (cand x k p) f = true) : ∀ {ps : List (List Nat)}, p ∈ ps → tryDeals x k ps ≠ none
 | [], hp => by cases hp
 | q :: ps, hp => by
  unfold tryDeals
  split
  ·simp
  ·rename_i he
   rcases List.mem_cons.1 hp with e | e
   ·subst e; exact absurd he (tryFakes_of h (Nat.zero_le _) (by omega))
   ·exact tryDeals_of hf h e
theorem tryKinds_some {x : Tree} : ∀ {n : Nat} {i : Int} {l : Letter}, tryKinds x n i = some l → ∃ k p f, i ≤ k ∧ k < i + n ∧ f < 4 ∧ fits x (cand x k p) f = true ∧ l = withFake (cand x k p) f
 | 0, i, l, h => by cases h
 | n + 1, i, l, h => by
  unfold tryKinds at h
  split at h
  ·rename_i l' he
   cases h
   obtain ⟨p, _, f, h1, h2, h3⟩ := tryDeals_some he
   exact ⟨i, p, f, by omega, by omega, h1, h2, h3⟩
  ·obtain ⟨k, p, f, h1, h2, h3⟩ := tryKinds_some h
   exact ⟨k, p, f, by omega, by omega, h3⟩
theorem tryKinds_of {x : Tree} {k : Int} {p : List Nat} {f : Nat} (hp : p ∈ deals) (hf : f < 4) (h : fits x (cand x k p) f = true) : ∀ {n : Nat} {i : Int}, i ≤ k → k < i + n → tryKinds x n i ≠ none
 | 0, i, h1, h2 => by omega
 | n + 1, i, h1, h2 => by
  unfold tryKinds
  split
  ·simp
  ·rename_i he
   by_cases e : i = k
   ·subst e; exact absurd he (tryDeals_of hf h hp)
   ·exact tryKinds_of hp hf h (by omega) (by omega)
theorem fits_ok {x : Tree} {l : Letter} {f : Nat} (hf : f < 4) (h : fits x l f = true) : IsL x (withFake l f) := by
 unfold fits at h
 simp only [Bool.and_eq_true, decide_eq_true_eq] at h
 obtain ⟨⟨h1, h2⟩, h3⟩ := h
 refine ⟨h1, f % 2 == 1, f / 2 == 1, fun _ => ?_, ((same_iff _ _).1 h3).symm⟩
 have : f = 0 ∨ f = 1 ∨ f = 2 ∨ f = 3 := by omega
 rcases this with rfl | rfl | rfl | rfl <;> rfl
theorem readTree_ok {x : Tree} {l : Letter} (h : readTree x = (l, true)) : IsL x l := by
 unfold readTree at h
 split at h
 ·rename_i l' he
  cases h
  obtain ⟨k, p, f, _, _, h1, h2, rfl⟩ := tryKinds_some he
  exact fits_ok h1 h2
 ·cases h
theorem readTree_no {x : Tree} (h : (readTree x).2 = false) : readTree x = (noLetter, false) ∧ tryKinds x 7 1 = none := by
 unfold readTree at h ⊢
 split at h
 ·cases h
 ·rename_i he; simp only [he]; exact ⟨trivial, trivial⟩
theorem fits_of {x : Tree} {l l0 : Letter} {f : Nat} (hl : letErr l = 0) (h1 : withFake l0 f = l) (h2 : l0.kind = 4 ∨ f ≠ 2) (h3 : letterT l (f % 2 == 1) (f / 2 == 1) = x) : fits x l0 f = true := by
 unfold fits
 rw [h1, (same_iff _ _).2 h3]
 simp [hl]
 exact h2
theorem readTree_of {x : Tree} {l : Letter} (h : IsL x l) : (readTree x).2 = true := by
 cases hr : (readTree x).2 with
 | true => rfl
 | false =>
  exfalso
  have hno := (readTree_no hr).2
  obtain ⟨k, f, c, tx, g⟩ := l
  obtain ⟨h1, a, b, h4, hT⟩ := h
  obtain ⟨hk, hf, hs, hx, hg, _⟩ := letErr_inv h1
  have go : ∀ (p : List Nat) (fk : Nat), p ∈ deals → fk < 4 → withFake (cand x k p) fk = ⟨k, f, c, tx, g⟩ → (k = 4 ∨ fk ≠ 2) → letterT ⟨k, f, c, tx, g⟩ (fk % 2 == 1) (fk / 2 == 1) = x → False := by
   intro p fk hp hfk e1 e2 e3
   exact tryKinds_of (x := x) (k := k) hp hfk (fits_of h1 e1 (by simpa [cand] using e2) e3) (n := 7) (i := 1) (by omega) (by omega) hno
  have nog : k ≠ 1 → k ≠ 4 → g = false := by
   intro n1 n4
   cases g with
   | false => rfl
   | true => exact absurd (hg rfl) (by omega)
  rcases hk with rfl | rfl | rfl | rfl | rfl | rfl | rfl
  ·subst hT
   cases g with
   | false => exact go [0] 0 (by simp [deals]) (by omega) rfl (by omega) rfl
   | true => exact go [0] 1 (by simp [deals]) (by omega) rfl (by omega) rfl
  ·obtain rfl := nog (by omega) (by omega)
   subst hT
   exact go [0] 0 (by simp [deals]) (by omega) rfl (by omega) rfl
  ·obtain rfl := nog (by omega) (by omega)
   obtain rfl : f = 0 := hs rfl
   obtain rfl : tx = ⟨#[]⟩ := hx rfl
   subst hT
   exact go [0] 0 (by simp [deals]) (by omega) rfl (by omega) rfl
  ·have := h4 rfl
   simp only at this
   subst this
   subst hT
   cases a <;> cases b
   ·exact go [0, 1, 0, 0] 0 (by simp [deals]) (by omega) rfl (by omega) rfl
   ·exact go [0, 1, 0, 0] 2 (by simp [deals]) (by omega) rfl (by omega) rfl
   ·exact go [0, 1, 0, 0] 1 (by simp [deals]) (by omega) rfl (by omega) rfl
   ·exact go [0, 1, 0, 0] 3 (by simp [deals]) (by omega) rfl (by omega) rfl
  ·obtain rfl := nog (by omega) (by omega)
   obtain rfl : f = 0 := hs rfl
   obtain rfl : tx = ⟨#[]⟩ := hx rfl
   subst hT
   exact go [0] 0 (by simp [deals]) (by omega) rfl (by omega) rfl
  ·obtain rfl := nog (by omega) (by omega)
   obtain rfl : f = 0 := hs rfl
   subst hT
   exact go [0, 1] 0 (by simp [deals]) (by omega) rfl (by omega) rfl
  ·obtain rfl := nog (by omega) (by omega)
   obtain rfl : f = 0 := hs rfl
   obtain rfl : tx = ⟨#[]⟩ := hx rfl
   subst hT
   exact go [0] 0 (by simp [deals]) (by omega) rfl (by omega) rfl
theorem read_out {L : Pool} {t : Int} (h : inP L t = false) : read L t = (noLetter, false) := by
 have e : nodeOf L t = noNode := by simp [nodeOf, get_none h]
 have e2 : rdTagged L t = ((⟨#[]⟩, 0), true) ∨ (rdTagged L t).2 = true := by
  right
  unfold rdTagged
  have : rdNode L t 4 = (noNode, true) := by unfold rdNode; rw [if_neg (by rw [h]; simp)]
  rw [this]
  rfl
 have e3 : (rdTagged L t).2 = true := by rcases e2 with e2 | e2 <;> simp [e2]
 have : (readQ L t).2 = true := by
  unfold readQ
  simp only
  rw [e, if_neg (by decide), if_neg (by decide), if_pos (by simp [e3])]
 unfold read
 rw [if_pos this]
theorem read_ref {L : Pool} (hW : Wf L) (t : Int) : read L t = refRead L t := by
 cases hi : inP L t with
 | false =>
  rw [read_out hi]
  unfold refRead
  rw [if_neg (by simp [hi])]
 | true =>
  have hsz := size_cnt hW _ t rfl hi
  cases hq : (readQ L t).2 with
  | false =>
   have h := readQ_ok hW hi hq
   have hle : ¬ sizeOf L t > 40 := by
    obtain ⟨_, a, b, _, e⟩ := h
    have := cnt_letter (readQ L t).1 a b
    rw [← e] at this; omega
   have hr := readTree_of h
   have e : readTree (treeOf L t) = ((readTree (treeOf L t)).1, true) := Prod.ext rfl hr
   have := readQ_of hW hi (readTree_ok e)
   unfold read refRead
   rw [if_neg (by simp [hq]), if_pos ⟨hi, hle⟩, e, this]
  | true =>
   unfold read
   rw [if_pos hq]
   unfold refRead
   split
   ·cases hr : (readTree (treeOf L t)).2 with
    | false => exact (readTree_no hr).1.symm
    | true =>
     have e : readTree (treeOf L t) = ((readTree (treeOf L t)).1, true) := Prod.ext rfl hr
     have := readQ_of hW hi (readTree_ok e)
     rw [this] at hq; cases hq
   ·rfl
theorem read_app {L M : Pool} (hW : Wf (L ++ M)) {t : Int} (h : inP L t = true) : read (L ++ M) t = read L t := by
 rw [read_ref hW, read_ref hW.first]
 unfold refRead
 rw [inP_app h, h, sizeOf_app h, treeOf_app hW _ t rfl h]
end Go.Sp
end
section
open Go Go.SE
namespace Go.Sp
def showStep (q : Pool × List Int × List Letter) (t : Tree) : Pool × List Int × List Letter :=
 ((of q.1 t).2.2, q.2.1 ++ [if (of q.1 t).2.1 ≠ 0 then 9999 else (of q.1 t).1], q.2.2 ++ [(refRead (of q.1 t).2.2 (of q.1 t).1).1])
def showAll (ts : List Tree) : Pool × List Int × List Letter := ts.foldl showStep ([], [], [])
theorem of_err {L : Pool} {t : Tree} (h : (of L t).2.1 ≠ 0) : (of L t).1 = 0 ∧ (of L t).2.2 = L := by
 unfold of at h ⊢
 split
 ·exact ⟨rfl, rfl⟩
 ·rename_i h1; rw [if_neg h1] at h
  split
  ·exact ⟨rfl, rfl⟩
  ·rename_i h2; rw [if_neg h2] at h; exact absurd rfl h
theorem refRead_frm {L : Pool} (t : Int) : (refRead L t).1 = noLetter ∨ letErr (refRead L t).1 = 0 := by
 unfold refRead
 split
 ·cases h : (readTree (treeOf L t)).2 with
  | false => left; rw [(readTree_no h).1]
  | true => right; exact (readTree_ok (Prod.ext rfl h : readTree (treeOf L t) = ((readTree (treeOf L t)).1, true))).1
 ·exact .inl rfl
theorem frmOk_read {L : Pool} (t : Int) : FrmOk (refRead L t).1 := by
 intro hk
 rcases refRead_frm (L := L) t with h | h
 ·rw [h] at hk; cases hk
 ·generalize (refRead L t).1 = l at *
  obtain ⟨k, f, c, x, g⟩ := l
  exact (letErr_inv h).2.1
theorem refRead_no {L : Pool} {t : Int} (h : inP L t = false) : (refRead L t).1 = noLetter := by unfold refRead; rw [if_neg (by simp [h])]
structure ShowOk (q : Pool × List Int × List Letter) : Prop where
 wf : Wf q.1
 len : q.2.1.length = q.2.2.length
 each : q.2.2 = q.2.1.map fun t => (read q.1 t).1
 ids : ∀ t ∈ q.2.1, t = 9999 ∨ inP q.1 t = true
 frm : ∀ l ∈ q.2.2, FrmOk l
theorem notIn {L : Pool} (h : L.length ≤ 9998) : inP L 9999 = false := by
 cases hi : inP L 9999 with
 | false => rfl
 | true => have := (inP_iff.1 hi).2; omega
theorem ShowOk.step {q : Pool × List Int × List Letter} (h : ShowOk q) (t : Tree) (hf : (of q.1 t).2.2.length ≤ 9998) : ShowOk (showStep q t) := by
 have hf0 : q.1.length ≤ 9998 := by
  obtain ⟨M, hM⟩ := of_grows h.wf.ok t
  rw [hM, List.length_append] at hf; omega
 obtain ⟨M, hM⟩ := of_grows h.wf.ok t
 have hW := of_wf h.wf t
 have old : q.2.2 = q.2.1.map fun t' => (read (of q.1 t).2.2 t').1 := by
  rw [h.each]
  refine List.map_congr_left (fun x hx => ?_)
  rcases h.ids x hx with rfl | hi
  ·rw [read_out (notIn hf0), read_out (notIn hf)]
  ·rw [hM] at hW ⊢; rw [read_app hW hi]
 have new : (refRead (of q.1 t).2.2 (of q.1 t).1).1 = (read (of q.1 t).2.2 (if (of q.1 t).2.1 ≠ 0 then 9999 else (of q.1 t).1)).1 := by
  split
  ·rename_i he
   have h0 := (of_err he).1
   rw [read_out (notIn hf), h0, refRead_no]
   cases hi : inP (of q.1 t).2.2 0 with
   | false => rfl
   | true => have := (inP_iff.1 hi).1; omega
  ·rw [read_ref hW]
 refine ⟨hW, by simp [showStep, h.len], ?_, ?_, ?_⟩
 ·simp only [showStep, List.map_append, List.map_cons, List.map_nil]
  rw [← old, new]
 ·intro x hx
  simp only [showStep, List.mem_append, List.mem_singleton] at hx
  rcases hx with hx | rfl
  ·rcases h.ids x hx with h1 | h1
   ·exact .inl h1
   ·right; show inP (of q.1 t).2.2 x = true; rw [hM]; exact inP_app h1
  ·split
   ·exact .inl rfl
   ·rename_i he; exact .inr (of_tree h.wf (by simpa using he)).1
 ·intro l hl
  simp only [showStep, List.mem_append, List.mem_singleton] at hl
  rcases hl with hl | rfl
  ·exact h.frm l hl
  ·exact frmOk_read _
theorem showAll_wf (ts : List Tree) : Wf (showAll ts).1 ∧ (showAll ts).2.1.length = (showAll ts).2.2.length := by
 have : ∀ (ts : List Tree) q, Wf q.1 ∧ q.2.1.length = q.2.2.length → Wf (ts.foldl showStep q).1 ∧ (ts.foldl showStep q).2.1.length = (ts.foldl showStep q).2.2.length := by
  intro ts
  induction ts with
  | nil => intro q h; exact h
  | cons t ts ih => intro q h; exact ih _ ⟨of_wf h.1 t, by simp [showStep, h.2]⟩
 exact this ts _ ⟨Wf.nil, rfl⟩
theorem show_len (ts : List Tree) : ∀ q, (ts.foldl showStep q).2.1.length = q.2.1.length + ts.length := by
 induction ts with
 | nil => intro q; simp
 | cons t ts ih => intro q; rw [List.foldl_cons, ih]; simp [showStep]; omega
end Go.Sp
namespace Go.Proofs
attribute [local irreducible] Calls
theorem slT_term : SlType Try.prog 26 41 1 8 := by
 refine ⟨Try.underlying26, ⟨Try.t41, _, by kernel_rfl, (by kernel_rfl : Try.t41.zero = some (.int .i64 0)), by kernel_rfl, by kernel_rfl, rfl⟩, by omega⟩
structure Show4 (w0 : World) (H : Nat → Prop) (w : World) (p1 p2 : Addr) (L1 L2 : Sp.Pool) (t l : Sl) (ids : List Int) (ls : List Sp.Letter) (F1 F2 : Nat → Prop) : Prop where
 pure : Pure w0 w
 pool1 : PoolAt w p1 L1 F1
 pool2 : PoolR w p2 L2 F2
 ts : Rws w 41 1 t (trows ids)
 ls : Rws w 132 5 l (ls.map lrow)
 o1 : ∀ b, F1 b → w0.heap.size ≤ b ∧ ¬ H b ∧ ¬ F2 b ∧ ¬ t.blk b ∧ ¬ l.blk b
 o2 : ∀ b, F2 b → w0.heap.size ≤ b ∧ ¬ H b ∧ ¬ t.blk b ∧ ¬ l.blk b
 o3 : ∀ b, t.blk b → w0.heap.size ≤ b ∧ ¬ H b ∧ ¬ l.blk b
 o4 : ∀ b, l.blk b → w0.heap.size ≤ b ∧ ¬ H b
section
variable {w0 w w' : World} {H H' : Nat → Prop} {p1 p2 : Addr} {L1 L2 : Sp.Pool} {t l : Sl} {ids : List Int} {ls : List Sp.Letter} {F1 F2 : Nat → Prop}
theorem Show4.pureE (h : Show4 w0 H w p1 p2 L1 L2 t l ids ls F1 F2) (E : Pure w w') : Show4 w0 H w' p1 p2 L1 L2 t l ids ls F1 F2 :=
 ⟨h.pure.trans E, h.pool1.pure E, h.pool2.pure E, h.ts.pure E, h.ls.pure E, h.o1, h.o2, h.o3, h.o4⟩
theorem Show4.hst (h : Show4 w0 H w p1 p2 L1 L2 t l ids ls F1 F2) (hs : Hst w0 H w H' w') : Show4 w0 H' w' p1 p2 L1 L2 t l ids ls F1 F2 := by
 have d : ∀ b, b < w.heap.size → ¬ H b → ¬ H' b := fun b h1 h2 => hs.disj (G := (· = b)) (fun c e => by subst e; exact ⟨h1, h2⟩) b rfl
 have d1 : ∀ b, F1 b → ¬ H' b := fun b hb => d b (h.pool1.lt hb) (h.o1 b hb).2.1
 have d2 : ∀ b, F2 b → ¬ H' b := fun b hb => d b (h.pool2.lt hb) (h.o2 b hb).2.1
 have d3 : ∀ b, t.blk b → ¬ H' b := fun b hb => d b (h.ts.lt hb) (h.o3 b hb).2.1
 have d4 : ∀ b, l.blk b → ¬ H' b := fun b hb => d b (h.ls.lt hb) (h.o4 b hb).2
 exact ⟨h.pure.hst hs, h.pool1.ext hs.ext d1, h.pool2.ext hs.ext d2, h.ts.ext hs.ext d3, h.ls.ext hs.ext d4, fun b hb => ⟨(h.o1 b hb).1, d1 b hb, (h.o1 b hb).2.2⟩, fun b hb => ⟨(h.o2 b hb).1, d2 b hb, (h.o2 b hb).2.2⟩, fun b hb => ⟨(h.o3 b hb).1, d3 b hb, (h.o3 b hb).2.2⟩, fun b hb => ⟨(h.o4 b hb).1, d4 b hb⟩⟩
theorem Show4.of1 (h : Show4 w0 H w p1 p2 L1 L2 t l ids ls F1 F2) (hH : ∀ b, H b → b < w.heap.size) {L : Sp.Pool} {F : Nat → Prop} (hP : PoolAt w' p1 L F) (hE : Ext F1 w w') (hF : ∀ b, F b → F1 b ∨ w.heap.size ≤ b) : Show4 w0 H w' p1 p2 L L2 t l ids ls F F2 := by
 refine ⟨h.pure.trans' hE (fun i hi hb => by have := (h.o1 i hb).1; omega), hP, h.pool2.ext hE (fun b hb h1 => (h.o1 b h1).2.2.1 hb), h.ts.ext hE (fun b hb h1 => (h.o1 b h1).2.2.2.1 hb), h.ls.ext hE (fun b hb h1 => (h.o1 b h1).2.2.2.2 hb), fun b hb => ?_, h.o2, h.o3, h.o4⟩
 rcases hF b hb with h1 | h1
 ·exact h.o1 b h1
 ·exact ⟨by have := h.pure.size; omega, fun hh => by have := hH b hh; omega, fun hh => by have := h.pool2.lt hh; omega, fun hh => by have := h.ts.lt hh; omega, fun hh => by have := h.ls.lt hh; omega⟩
theorem Show4.of2 (h : Show4 w0 H w p1 p2 L1 L2 t l ids ls F1 F2) (hH : ∀ b, H b → b < w.heap.size) {L : Sp.Pool} {F : Nat → Prop} (hP : PoolR w' p2 L F) (hE : Ext F2 w w') (hF : ∀ b, F b → F2 b ∨ w.heap.size ≤ b) : Show4 w0 H w' p1 p2 L1 L t l ids ls F1 F := by
 refine ⟨h.pure.trans' hE (fun i hi hb => by have := (h.o2 i hb).1; omega), h.pool1.ext hE (fun b hb h1 => (h.o1 b hb).2.2.1 h1), hP, h.ts.ext hE (fun b hb h1 => (h.o2 b h1).2.2.1 hb), h.ls.ext hE (fun b hb h1 => (h.o2 b h1).2.2.2 hb), fun b hb => ?_, fun b hb => ?_, h.o3, h.o4⟩
 ·refine ⟨(h.o1 b hb).1, (h.o1 b hb).2.1, fun hh => ?_, (h.o1 b hb).2.2.2⟩
  rcases hF b hh with h1 | h1
  ·exact (h.o1 b hb).2.2.1 h1
  ·have := h.pool1.lt hb; omega
 ·rcases hF b hb with h1 | h1
  ·exact h.o2 b h1
  ·exact ⟨by have := h.pure.size; omega, fun hh => by have := hH b hh; omega, fun hh => by have := h.ts.lt hh; omega, fun hh => by have := h.ls.lt hh; omega⟩
theorem Show4.of3 (h : Show4 w0 H w p1 p2 L1 L2 t l ids ls F1 F2) (hH : ∀ b, H b → b < w.heap.size) {t' : Sl} {ids' : List Int} (hP : Rws w' 41 1 t' (trows ids')) (hE : Ext t.blk w w') (hF : ∀ b, t'.blk b → t.blk b ∨ w.heap.size ≤ b) : Show4 w0 H w' p1 p2 L1 L2 t' l ids' ls F1 F2 := by
 refine ⟨h.pure.trans' hE (fun i hi hb => by have := (h.o3 i hb).1; omega), h.pool1.ext hE (fun b hb h1 => (h.o1 b hb).2.2.2.1 h1), h.pool2.ext hE (fun b hb h1 => (h.o2 b hb).2.2.1 h1), hP, h.ls.ext hE (fun b hb h1 => (h.o3 b h1).2.2 hb), fun b hb => ?_, fun b hb => ?_, fun b hb => ?_, h.o4⟩
 ·refine ⟨(h.o1 b hb).1, (h.o1 b hb).2.1, (h.o1 b hb).2.2.1, fun hh => ?_, (h.o1 b hb).2.2.2.2⟩
  rcases hF b hh with h1 | h1
  ·exact (h.o1 b hb).2.2.2.1 h1
  ·have := h.pool1.lt hb; omega
 ·refine ⟨(h.o2 b hb).1, (h.o2 b hb).2.1, fun hh => ?_, (h.o2 b hb).2.2.2⟩
  rcases hF b hh with h1 | h1
  ·exact (h.o2 b hb).2.2.1 h1
  ·have := h.pool2.lt hb; omega
 ·rcases hF b hb with h1 | h1
  ·exact h.o3 b h1
  ·exact ⟨by have := h.pure.size; omega, fun hh => by have := hH b hh; omega, fun hh => by have := h.ls.lt hh; omega⟩
theorem Show4.of4 (h : Show4 w0 H w p1 p2 L1 L2 t l ids ls F1 F2) (hH : ∀ b, H b → b < w.heap.size) {l' : Sl} {ls' : List Sp.Letter} (hP : Rws w' 132 5 l' (ls'.map lrow)) (hE : Ext l.blk w w') (hF : ∀ b, l'.blk b → l.blk b ∨ w.heap.size ≤ b) : Show4 w0 H w' p1 p2 L1 L2 t l' ids ls' F1 F2 := by
 refine ⟨h.pure.trans' hE (fun i hi hb => by have := (h.o4 i hb).1; omega), h.pool1.ext hE (fun b hb h1 => (h.o1 b hb).2.2.2.2 h1), h.pool2.ext hE (fun b hb h1 => (h.o2 b hb).2.2.2 h1), h.ts.ext hE (fun b hb h1 => (h.o3 b hb).2.2 h1), hP, fun b hb => ?_, fun b hb => ?_, fun b hb => ?_, fun b hb => ?_⟩
 ·refine ⟨(h.o1 b hb).1, (h.o1 b hb).2.1, (h.o1 b hb).2.2.1, (h.o1 b hb).2.2.2.1, fun hh => ?_⟩
  rcases hF b hh with h1 | h1
  ·exact (h.o1 b hb).2.2.2.2 h1
  ·have := h.pool1.lt hb; omega
 ·refine ⟨(h.o2 b hb).1, (h.o2 b hb).2.1, (h.o2 b hb).2.2.1, fun hh => ?_⟩
  rcases hF b hh with h1 | h1
  ·exact (h.o2 b hb).2.2.2 h1
  ·have := h.pool2.lt hb; omega
 ·refine ⟨(h.o3 b hb).1, (h.o3 b hb).2.1, fun hh => ?_⟩
  rcases hF b hh with h1 | h1
  ·exact (h.o3 b hb).2.2 h1
  ·have := h.ts.lt hb; omega
 ·rcases hF b hb with h1 | h1
  ·exact h.o4 b h1
  ·exact ⟨by have := h.pure.size; omega, fun hh => by have := hH b hh; omega⟩
end
theorem c_law13_shown {S : Nat → Prop} (ts : List Sp.Tree) (s : Sl) (w0 : World) (hT : TreeAt S w0 s (.mk 0 0 0 0 ⟨#[]⟩ ts)) (hS : ∀ b, S b → b < w0.heap.size) (hn : ts.length ≤ 80) (hc : Sp.cntAll ts ≤ 12000) :
  Calls Try.prog 17 #[s.v] w0 (fun e w' => ∃ r1 : Option Addr, ∃ r2 : Sl, ∃ r3 : Sl, e = .returned (.tuple #[.pointer r1, r2.v, r3.v]) ∧ ∃ p1 p2 F1 F2, r1 = some p1 ∧ Show4 w0 None w' p1 p2 (Sp.showAll ts).1 (Sp.showAll ts).1 r2 r3 (Sp.showAll ts).2.1 (Sp.showAll ts).2.2 F1 F2) := by
 suffices key : ∀ K : Option Addr → Sl → Sl → World → Prop, (∀ p1 p2 F1 F2 H r2 r3 w', Show4 w0 H w' p1 p2 (Sp.showAll ts).1 (Sp.showAll ts).1 r2 r3 (Sp.showAll ts).2.1 (Sp.showAll ts).2.2 F1 F2 → K (some p1) r2 r3 w') → m_law13_shown s w0 K from
  w_law13_shown _ w0 _ (key _ (fun p1 p2 F1 F2 H r2 r3 w' h => ⟨p1, p2, F1, F2, rfl, h.pure, h.pool1, h.pool2, h.ts, h.ls, fun b hb => ⟨(h.o1 b hb).1, id, (h.o1 b hb).2.2⟩, fun b hb => ⟨(h.o2 b hb).1, id, (h.o2 b hb).2.2⟩, fun b hb => ⟨(h.o3 b hb).1, id, (h.o3 b hb).2.2⟩, fun b hb => ⟨(h.o4 b hb).1, id⟩⟩))
 intro K hK
 have hnil : ∀ b, Sl.nil.blk b → False := fun b hb => by obtain ⟨a, h, _⟩ := hb; cases h
 cases hT with
 | mk _ _ _ _ _ _ _ rs len fit row kid =>
 unfold m_law13_shown
 refine (c_New w0).mono ?_
 rintro _ w1 ⟨_, rfl, p1, rfl, E1, F1, hP1, hF1⟩
 refine ⟨_, rfl, E1.keptP, ?_⟩
 refine (c_ref05_New w1).mono ?_
 rintro _ w2 ⟨_, rfl, p2, F2, rfl, hP2, E2, hF2⟩
 refine ⟨_, rfl, E2.keptP, Br.f rfl ?_⟩
 have S0 : Show4 w0 None w2 p1 p2 [] [] Sl.nil Sl.nil [] [] F1 F2 := ⟨E1.trans E2, hP1.pure E2, hP2, Rws.nil _ _ _, Rws.nil _ _ _,
  fun b hb => ⟨hF1 b hb, id, fun h2 => by have := hF2 b h2; have := hP1.lt hb; omega, hnil b, hnil b⟩, fun b hb => ⟨by have := hF2 b hb; have := E1.size; omega, id, hnil b, hnil b⟩, fun b hb => (hnil b hb).elim, fun b hb => (hnil b hb).elim⟩
 refine ⟨fun t l i H w' => ∃ j : Nat, i = j ∧ j ≤ ts.length ∧ ∃ F1 F2, Show4 w0 H w' p1 p2 (Sp.showAll (ts.take j)).1 (Sp.showAll (ts.take j)).1 t l (Sp.showAll (ts.take j)).2.1 (Sp.showAll (ts.take j)).2.2 F1 F2, fun _ _ i _ => ((ts.length : Int) - i).toNat, ⟨0, rfl, Nat.zero_le _, F1, F2, S0⟩, ?_⟩
 rintro t l _ Hl wl hl ⟨j, rfl, hj, F1, F2, hq⟩
 unfold m_law13_shown_l1
 refine ⟨fun h => ?_, fun h => ?_⟩
 ·have hlt := lt_of_dec len h
  have htk : ts.take (j + 1) = ts.take j ++ [ts[j]] := List.take_succ_eq_append_getElem hlt
  have hok := Sp.showAll_wf (ts.take j)
  have hstep : Sp.showAll (ts.take (j + 1)) = Sp.showStep (Sp.showAll (ts.take j)) ts[j] := by rw [htk]; unfold Sp.showAll; rw [List.foldl_append]; rfl
  have hlens : (Sp.showAll (ts.take j)).2.1.length = j := by
   have := Sp.show_len (ts.take j) ([], [], [])
   rw [List.length_take, Nat.min_eq_left (by omega)] at this
   simpa [Sp.showAll] using this
  generalize Sp.showAll (ts.take j) = q at *
  obtain ⟨a, hat, hSa, hrow⟩ := row j hlt
  have hkid := kid j hlt
  have hcj : Sp.cnt ts[j] ≤ 12000 := by have := Sp.cntAll_get hlt; omega
  generalize ts[j] = x at *
  generalize rs j = sx at *
  obtain ⟨xk, xf, xt, xu, xx, xks⟩ := x
  have hrl : Row wl a (trow (.mk xk xf xt xu xx xks) sx) := hq.pure.row hrow (fun h => h)
  refine ⟨a, hat, _, _, _, _, _, sx, hrl, ?_⟩
  refine (c_ref05_Lent (.mk xk xf xt xu xx xks) sx wl (by omega) (hkid.pure hq.pure) (fun b hb => by have := hS b hb; have := hq.pure.size; omega)).mono ?_
  rintro _ w3 ⟨s3, rfl, hT3, E3⟩
  refine ⟨_, _, _, _, _, s3, rfl, E3.keptP, ?_⟩
  have hq3 := hq.pureE E3
  have hl3 := hl.again E3.keptP
  refine (c_Of (S := fun b => wl.heap.size ≤ b ∧ b < w3.heap.size) p1 (.mk xk xf xt xu xx xks) s3 w3 hT3.lt hq3.pool1 hok.1.ok (fun b hb hh => by have := hq.pool1.lt hb; omega) (fun b hb => hb.2)).mono ?_
  rintro _ w4 ⟨r3, r4, rfl, h34, F1', hP4, E4, hF4⟩
  have k4 : Kept Hl w3 w4 := E4.kept (fun b hb h1 => (hq3.o1 b h1).2.1 hb)
  refine ⟨_, _, rfl, k4, ?_⟩
  have hq4 := hq3.of1 (fun b hb => hl3.lt b hb) hP4 E4 hF4
  have hl4 := hl3.again k4
  have hr4 : Row w4 a (trow (.mk xk xf xt xu xx xks) sx) := hq4.pure.row hrow (fun h => h)
  refine ⟨a, hat, _, _, _, _, _, sx, hr4, ?_⟩
  refine (c_ref05_Of (S := S) p2 (.mk xk xf xt xu xx xks) sx w4 (hkid.pure hq4.pure) hq4.pool2 hok.1.ok (fun b hb hh => by have := (hq4.o2 b hb).1; have := hS b hh; omega) (fun b hb => by have := hS b hb; have := hq4.pure.size; omega)).mono ?_
  rintro _ w5 ⟨r5, r6, rfl, h56, F2', hP5, E5, hF5⟩
  have k5 : Kept Hl w4 w5 := E5.kept (fun b hb h1 => (hq4.o2 b h1).2.1 hb)
  refine ⟨_, _, rfl, k5, ?_⟩
  have hq5 := hq4.of2 (fun b hb => hl4.lt b hb) hP5 E5 hF5
  have hl5 := hl4.again k5
  intro H1 w6 hs6
  have hq6 := hq5.hst hs6
  intro pa w7 h7
  have E7 : Pure w6 w7 := Ext.new h7
  have hq7 := hq6.pureE E7
  have hs7 := hs6.here.again E7.keptP
  obtain ⟨s1, w8, hr8, hR8, E8, hb8⟩ := hq7.ts.append (P := Try.prog) (ty := 26) (c := 1) slT_term (r := [.int .i64 (cond (r4 != 0) 9999 r3)]) (Box.of_new h7).row rfl rfl (by simp [trows]; omega) (by simp [trows, maxLen]; omega)
  have k8 : Kept H1 w7 w8 := E8.kept (fun b hb h1 => (hq7.o3 b h1).2.1 hb)
  refine ⟨s1, w8, hr8, k8, ?_⟩
  have hq8 := hq7.of3 (fun b hb => hs7.lt b hb) (ids' := q.2.1 ++ [cond (r4 != 0) 9999 r3]) (by simpa [trows] using hR8) E8 hb8
  have hs8 := hs7.again k8
  have hW : Sp.Wf (Sp.of q.1 (.mk xk xf xt xu xx xks)).2.2 := Sp.of_wf hok.1 _
  refine (c_ref11_Read p2 hW r5 w8 F2' hq8.pool2).mono ?_
  rintro _ w9 ⟨rk, rf, rc, rx, rg, r7, rfl, hrd, E9⟩
  refine ⟨_, _, _, _, _, _, rfl, E9.keptP, ?_⟩
  have hq9 := hq8.pureE E9
  have hs9 := hs8.again E9.keptP
  intro H2 w11 hs11
  have hq11 := hq9.hst hs11
  intro p3 w12 h12
  have E12 : Pure w11 w12 := Ext.new h12
  have hq12 := hq11.pureE E12
  have hs12 := hs11.here.again E12.keptP
  obtain ⟨s2, w13, hr13, hR13, E13, hb13⟩ := hq12.ls.append (P := Try.prog) (ty := 27) (c := 1) slT_letter (r := lrow ⟨rk, rf, rc, rx, rg⟩) (Box.of_new h12).row rfl rfl (by simp; have := hok.2; omega) (by simp [maxLen]; have := hok.2; omega)
  have k13 : Kept H2 w12 w13 := E13.kept (fun b hb h1 => (hq12.o4 b h1).2 hb)
  refine ⟨s2, w13, hr13, k13, ?_⟩
  have hq13 := hq12.of4 (fun b hb => hs12.lt b hb) (ls' := q.2.2 ++ [⟨rk, rf, rc, rx, rg⟩]) (by simpa using hR13) E13 hb13
  rw [wrap_succ hlt (by omega)]
  refine ⟨⟨j + 1, rfl, hlt, F1', F2', ?_⟩, lt_dec hlt⟩
  rw [hstep]
  injection h34 with e3 e4
  injection h56 with e5 e6
  have eid : (cond (r4 != 0) 9999 r3) = (if (Sp.of q.1 (.mk xk xf xt xu xx xks)).2.1 ≠ 0 then 9999 else (Sp.of q.1 (.mk xk xf xt xu xx xks)).1) := by
   rw [← e3, ← e4]
   by_cases h0 : r4 = 0
   ·subst h0; rfl
   ·rw [if_pos h0, bne_iff_ne.2 h0]; rfl
  have elt : (⟨rk, rf, rc, rx, rg⟩ : Sp.Letter) = (Sp.refRead (Sp.of q.1 (.mk xk xf xt xu xx xks)).2.2 (Sp.of q.1 (.mk xk xf xt xu xx xks)).1).1 := by
   rw [← e5, ← hrd]
  rw [eid, elt] at hq13
  exact hq13
 ·have hge := eq_of_dec len hj h
  subst hge
  rw [List.take_length] at hq
  exact hK _ _ _ _ _ _ _ _ hq
end Go.Proofs
end
section
open Go Go.SE
namespace Go.SE
section
variable {P : Program} {t e : TypeId} {sz bytes : Nat}
theorem run_append_none (T : SlType P t e sz bytes) (w : World) (ty : TypeId) (s x : Sl) (hc : s.len ≤ s.cap) (hx : x.len = 0) : (Builtin.append_ #[t, t] ty #[s.v, x.v]).run P w = .ok s.v w := by
 obtain ⟨a, n, c⟩ := s
 obtain ⟨b, m, d⟩ := x
 simp only at hc hx
 subst hx
 cases b <;> cases a <;> simp [Builtin.append_, Sl.v, run_underlying T.ht, T.sizeOf, Builtin.lenOf, Builtin.firstCells, loadCells, loadCellsFrom, storeCells, hc]
end
end Go.SE
end
section
open Go Go.SE
namespace Go.SE
theorem row_flat {w : World} {sz : Nat} : ∀ {rs : List (List Value)} {p : Addr}, (∀ r ∈ rs, r.length = sz) → (∀ i (h : i < rs.length), Row w (p.add (i * sz)) rs[i]) → Row w p rs.flatten
 | [], p, _, _ => fun i h => by simp at h
 | r :: rs, p, hl, h => by
  have hr : Row w p r := by have := h 0 (by simp); simpa [Addr.add] using this
  have hsz := hl r (by simp)
  have ih := row_flat (rs := rs) (p := p.add sz) (fun q hq => hl q (List.mem_cons_of_mem _ hq)) (fun i hi => by
   have := h (i + 1) (by simpa using hi)
   rw [add_add, show sz + i * sz = (i + 1) * sz by rw [Nat.succ_mul]; omega]
   simpa using this)
  intro i hi
  rw [List.flatten_cons] at hi ⊢
  by_cases hlt : i < r.length
  ·rw [hr i hlt, List.getElem?_append_left hlt]
  ·have := ih (i - r.length) (by rw [List.length_append] at hi; omega)
   rw [add_add, show sz + (i - r.length) = i by omega] at this
   rw [this, List.getElem?_append_right (by omega)]
section
variable {P : Program} {t e : TypeId} {sz bytes : Nat}
theorem Rws.empty {w w' : World} {p : Addr} (hn : New w (.cells #[] e) p w') : Rws w' e sz ⟨some p, 0, 0⟩ [] := by
 obtain ⟨hp, hw⟩ := hn
 refine ⟨by simp, rfl, .inr ⟨w.heap.size, #[], by rw [hp], ?_, by simp, by simp, by simp, by simp⟩⟩
 rw [hw]; exact heap_alloc_new w (.cells #[] e)
theorem Rws.appendL (T : SlType P t e sz bytes) {w : World} {ty : TypeId} {s x : Sl} {rs qs : List (List Value)} (h : Rws w e sz s rs) {S : Nat → Prop} (hx : Lst S w sz x qs) (hl : ∀ q ∈ qs, q.length = sz) (h1 : ∀ q ∈ qs, q.all oneCell = true) (hb : (rs.length + qs.length) * bytes ≤ 140737488355328) (hm : rs.length + qs.length ≤ maxLen) :
  ∃ s' w', (Builtin.append_ #[t, t] ty #[s.v, x.v]).run P w = .ok s'.v w' ∧ Rws w' e sz s' (rs ++ qs) ∧ Ext s.blk w w' ∧ (∀ b, s'.blk b → s.blk b ∨ w.heap.size ≤ b) := by
 cases hq : qs with
 | nil =>
  subst hq
  have hc : s.len ≤ s.cap := by
   rcases h.own with ⟨rfl, _⟩ | ⟨g, cur, _, _, hc, _⟩
   ·exact Nat.le_refl _
   ·rw [h.len]; exact hc
  exact ⟨s, w, run_append_none T w ty s x hc hx.len, by simpa using h, Ext.refl w, fun b hb => .inl hb⟩
 | cons q0 rest =>
  rw [← hq]
  have hne : qs ≠ [] := by rw [hq]; simp
  have hpos := List.length_pos_iff.2 hne
  obtain ⟨_, ⟨_, _, p, hp, _⟩, _, _⟩ := hx.at_ 0 hpos
  have hrow : Row w p qs.flatten := row_flat hl (fun i hi => by
   obtain ⟨a, ⟨_, _, b, hb', rfl⟩, _, hr⟩ := hx.at_ i hi
   rw [hp] at hb'; cases hb'
   simpa using hr)
  have hxv : x.v = (Sl.mk (some p) qs.length x.cap).v := by unfold Sl.v; rw [hp, hx.len]
  rw [hxv]
  exact h.appends T hrow hl h1 hne hb hm
end
end Go.SE
end
section
open Go Go.SE
namespace Go.Sp
def wt : ByteArray := ⟨#[116]⟩
def wu : ByteArray := ⟨#[117]⟩
def lvA : Tree := letterT ⟨2, 1, 7, wt, false⟩ false false
def lvB : Tree := letterT ⟨1, 1, 7, wt, false⟩ false false
def lvC : Tree := letterT ⟨2, 1, 7, wu, false⟩ false false
def lv1 : Pool := (of [] lvA).2.2
def lv2 : Pool := (of lv1 lvB).2.2
def lv3 : Pool := (of lv2 lvC).2.2
theorem lv_a : (of [] lvA).1 = 6 ∧ (of [] lvA).2.1 = 0 := by constructor <;> kernel_rfl
theorem lv_b : (of lv1 lvB).1 = 7 ∧ (of lv1 lvB).2.1 = 0 := by constructor <;> kernel_rfl
theorem lv_c : (of lv2 lvC).1 = 11 ∧ (of lv2 lvC).2.1 = 0 := by constructor <;> kernel_rfl
theorem lv_x : judgeFrom 1 7 wt 0 (Go.Proofs.readAll lv3 [7, 6]) = (true, 1, 1) := by kernel_rfl
theorem lv_y : judgeFrom 1 7 wt 0 (Go.Proofs.readAll lv3 [7]) = (false, 0, -1) := by kernel_rfl
theorem lv_l : faults (Go.Proofs.readAll lv3 [6, 7, 11]) = [⟨1, 7, 1, 0, 2⟩] := by kernel_rfl
end Go.Sp
end
section
open Go Go.SE
namespace Go.Proofs
attribute [local irreducible] Calls
theorem lv_step (p : Addr) (k f c : Int) (x : ByteArray) (hf : f = 0 ∨ f = 1) (w : World) {L : Sp.Pool} {F : Nat → Prop} (hP : PoolAt w p L F) (hok : Sp.Ok L) {Q : Int → Int → World → Prop}
  (hQ : ∀ w', (∃ F', PoolAt w' p (Sp.of L (Sp.letterT ⟨k, f, c, x, false⟩ false false)).2.2 F' ∧ Ext F w w' ∧ ∀ b, F' b → F b ∨ w.heap.size ≤ b) → Q (Sp.of L (Sp.letterT ⟨k, f, c, x, false⟩ false false)).1 (Sp.of L (Sp.letterT ⟨k, f, c, x, false⟩ false false)).2.1 w') :
  Calls Try.prog 74 #[.agg #[.int .i64 k, .int .i64 f, .int .u64 c, .string x, .bool false], .bool false, .bool false] w (fun e w2 => ∃ rKind1 : Int, ∃ rFrom1 : Int, ∃ rTo1 : Int, ∃ rNum1 : Int, ∃ rText1 : ByteArray, ∃ rKids1 : Sl, e = .returned (.agg #[(.int .i64 rKind1), (.int .i64 rFrom1), (.int .i64 rTo1), (.int .u64 rNum1), (.string rText1), rKids1.v]) ∧
   Kept None w w2 ∧
   Calls Try.prog 73 #[.pointer (some p), (.agg #[(.int .i64 rKind1), (.int .i64 rFrom1), (.int .i64 rTo1), (.int .u64 rNum1), (.string rText1), rKids1.v])] w2 (fun e w3 => ∃ r2 : Int, ∃ r3 : Int, e = .returned (.tuple #[(.int .i64 r2), (.int .i64 r3)]) ∧ Kept None w2 w3 ∧ Q r2 r3 w3)) := by
 refine (c_ref11_Tree w.heap.size k f c x false false false w (Nat.le_refl _) hf).mono ?_
 rintro _ w2 ⟨s, rfl, hT, E2⟩
 refine ⟨_, _, _, _, _, s, rfl, E2.keptP, ?_⟩
 refine (c_Of p _ s w2 hT.lt (hP.pure E2) hok (fun b hb h => by have := hP.lt hb; have : w.heap.size ≤ b := h.1; omega) (fun b h => h.2)).mono ?_
 rintro _ w3 ⟨r1, r2, rfl, hr, F', hP', E3, hF'⟩
 have e1 : r1 = _ := congrArg Prod.fst hr
 have e2 : r2 = _ := congrArg Prod.snd hr
 refine ⟨_, _, rfl, E3.kept (fun b h => h.elim), ?_⟩
 rw [e1, e2]
 exact hQ w3 ⟨F', hP', E2.pure.trans E3, fun b hb => (hF' b hb).imp_right (fun h => by have := E2.size; omega)⟩
theorem Lst.of_ints {w : World} {p : Addr} {T : TypeId} (ts : List Int) (h : Box w p (ts.map fun t => .int .i64 t) T) : Lst (· = p.block) w 1 ⟨some p, ts.length, ts.length⟩ (trows ts) := by
 refine ⟨by simp [trows], fun i hi => ?_⟩
 have hi' : i < ts.length := by simpa [trows] using hi
 refine ⟨p.add (i * 1), ⟨by omega, by simpa using hi', p, rfl, by simp⟩, by rw [add_block], fun j hj => ?_⟩
 have hj0 : j = 0 := by simpa [trows] using hj
 subst hj0
 have := h.cell (i := i) (v := .int .i64 ts[i]) (by simp [hi'])
 rw [add_add, Nat.mul_one, Nat.add_zero, this]
 simp [trows]
theorem c_live13 (w0 : World) : Calls Try.prog 16 #[] w0 (fun e w' => ∃ r : Bool, e = .returned (.bool r) ∧ (r = true ∧ Pure w0 w')) := by
 refine w_law13_live w0 (fun r w' => r = true ∧ Pure w0 w') ?_
 unfold m_law13_live
 refine (c_New w0).mono ?_
 rintro _ w1 ⟨_, rfl, p, rfl, E1, F1, hP1, hF1⟩
 refine ⟨_, rfl, E1.keptP, Br.f rfl ?_⟩
 refine lv_step p 2 1 7 Sp.wt (.inr rfl) w1 hP1 Sp.Ok.nil ?_
 rintro w3 ⟨F3, hP3, E3, hF3⟩
 have ok1 := Sp.of_ok Sp.Ok.nil Sp.lvA
 refine lv_step p 1 1 7 Sp.wt (.inr rfl) w3 hP3 ok1 ?_
 rintro w5 ⟨F5, hP5, E5, hF5⟩
 have ok2 := Sp.of_ok ok1 Sp.lvB
 refine lv_step p 2 1 7 Sp.wu (.inr rfl) w5 hP5 ok2 ?_
 rintro w7 ⟨F7, hP7, E7, hF7⟩
 have ok3 := Sp.of_ok ok2 Sp.lvC
 have hP : PoolAt w7 p Sp.lv3 F7 := hP7
 have s1 := E1.size
 have s3 := E3.size
 have s5 := E5.size
 have E : Pure w0 w7 := ((E1.trans' E3 (fun i hi h => by have := hF1 i h; omega)).trans' E5 (fun i hi h => (hF3 i h).elim (fun h => by have := hF1 i h; omega) (fun h => by omega))).trans' E7 (fun i hi h => (hF5 i h).elim (fun h => (hF3 i h).elim (fun h => by have := hF1 i h; omega) (fun h => by omega)) (fun h => by omega))
 have hF0 : ∀ b, F7 b → w0.heap.size ≤ b := fun b hb => (hF7 b hb).elim (fun h => (hF5 b h).elim (fun h => (hF3 b h).elim (hF1 b) (fun h => by omega)) (fun h => by omega)) (fun h => by omega)
 have ea := Sp.lv_a
 have eb := Sp.lv_b
 have ec := Sp.lv_c
 have ha1 : (Sp.of [] (Sp.letterT ⟨2, 1, 7, Sp.wt, false⟩ false false)).1 = 6 := ea.1
 have ha2 : (Sp.of [] (Sp.letterT ⟨2, 1, 7, Sp.wt, false⟩ false false)).2.1 = 0 := ea.2
 have hb1 : (Sp.of (Sp.of [] (Sp.letterT ⟨2, 1, 7, Sp.wt, false⟩ false false)).2.2 (Sp.letterT ⟨1, 1, 7, Sp.wt, false⟩ false false)).1 = 7 := eb.1
 have hb2 : (Sp.of (Sp.of [] (Sp.letterT ⟨2, 1, 7, Sp.wt, false⟩ false false)).2.2 (Sp.letterT ⟨1, 1, 7, Sp.wt, false⟩ false false)).2.1 = 0 := eb.2
 have hc1 : (Sp.of (Sp.of (Sp.of [] (Sp.letterT ⟨2, 1, 7, Sp.wt, false⟩ false false)).2.2 (Sp.letterT ⟨1, 1, 7, Sp.wt, false⟩ false false)).2.2 (Sp.letterT ⟨2, 1, 7, Sp.wu, false⟩ false false)).1 = 11 := ec.1
 have hc2 : (Sp.of (Sp.of (Sp.of [] (Sp.letterT ⟨2, 1, 7, Sp.wt, false⟩ false false)).2.2 (Sp.letterT ⟨1, 1, 7, Sp.wt, false⟩ false false)).2.2 (Sp.letterT ⟨2, 1, 7, Sp.wu, false⟩ false false)).2.1 = 0 := ec.2
 refine Br.f (by rw [ha2]; first | rfl | (rw [hb2]; first | rfl | (rw [hc2]; rfl))) ?_
 rw [ha1, hb1, hc1]
 clear ha1 ha2 hb1 hb2 hc1 hc2 ea eb ec
 intro H2 w9 hs9 p1 w11 h11
 have hv9 : ∀ b, F7 b → ¬ H2 b := hs9.disj (fun b hb => ⟨hP.lt hb, id⟩)
 have hP9 := hP.ext hs9.ext hv9
 have E9 := E.hst hs9
 have E11 : Pure w9 w11 := Ext.new h11
 refine (c_arb_Judge (some p) _ _ 1 7 Sp.wt w11 (reads_pool p _ [7, 6] w11 (hP9.pure E11) ok3 (Lst.of_ints [7, 6] (Box.of_new h11)) (by simp)) (by simp [readAll])).mono ?_
 rintro _ w12 ⟨b, y, i, rfl, hj, E12⟩
 rw [Sp.lv_x] at hj
 cases hj
 refine ⟨_, _, _, rfl, E12.keptP, ?_⟩
 intro H4 w14 hs14 p3 w15 h15
 have E12' := E11.trans E12
 have hP12 := hP9.pure E12'
 have hv14 : ∀ b, F7 b → ¬ H4 b := hs14.disj (fun b hb => ⟨hP12.lt hb, hv9 b hb⟩)
 have hP14 := hP12.ext hs14.ext hv14
 have E14 := (E9.trans E12').hst hs14
 have E15 : Pure w14 w15 := Ext.new h15
 refine (c_arb_Judge (some p) _ _ 1 7 Sp.wt w15 (reads_pool p _ [7] w15 (hP14.pure E15) ok3 (Lst.of_ints [7] (Box.of_new h15)) (by simp)) (by simp [readAll])).mono ?_
 rintro _ w16 ⟨b, y, i, rfl, hj, E16⟩
 rw [Sp.lv_y] at hj
 cases hj
 refine ⟨_, _, _, rfl, E16.keptP, ?_⟩
 intro H5 w18 hs18 p5 w19 h19
 have E16' := E15.trans E16
 have hP16 := hP14.pure E16'
 have hv18 : ∀ b, F7 b → ¬ H5 b := hs18.disj (fun b hb => ⟨hP16.lt hb, hv14 b hb⟩)
 have hP18 := hP16.ext hs18.ext hv18
 have E18 := (E14.trans E16').hst hs18
 have E19 : Pure w18 w19 := Ext.new h19
 refine (c_arb_Faults (some p) _ _ w19 (reads_pool p _ [6, 7, 11] w19 (hP18.pure E19) ok3 (Lst.of_ints [6, 7, 11] (Box.of_new h19)) (by simp)) (by simp [readAll])).mono ?_
 rintro _ w20 ⟨s, rfl, hs⟩
 rw [Sp.lv_l] at hs
 have E20 := E18.trans (E19.trans hs.pure)
 refine ⟨s, rfl, hs.kept, ?_⟩
 rintro _ rfl
 have hl : s.len = 1 := hs.rows.len
 have O := hs.own' (hs18.again E19.keptP)
 refine Br.t (by rw [hl]; rfl) ?_
 obtain ⟨a, hat, _⟩ := O.rows.nth (f := frow) (xs := [⟨1, 7, 1, 0, 2⟩]) (j := 0) (by simp)
 refine ⟨a, hat, ?_⟩
 intro H7 w22 hs22
 obtain ⟨a', hat', hrow⟩ := (O.hst hs22).rows.nth (f := frow) (xs := [⟨1, 7, 1, 0, 2⟩]) (j := 0) (by simp)
 have haa : a' = a := by
  obtain ⟨_, _, x, hx, rfl⟩ := hat
  obtain ⟨_, _, y, hy, rfl⟩ := hat'
  rw [hx] at hy; cases hy; rfl
 subst haa
 exact ⟨_, _, _, _, _, hrow, rfl, E20.hst hs22⟩
end Go.Proofs
end
section
open Go Go.SE
namespace Go.Sp
theorem nodup_len {α : Type} [DecidableEq α] : ∀ {l m : List α}, l.Nodup → (∀ x ∈ l, x ∈ m) → l.length ≤ m.length
 | [], m, _, _ => by simp
 | x :: l, m, hn, hs => by
  have hx := hs x (by simp)
  rw [List.nodup_cons] at hn
  have := nodup_len (m := m.erase x) hn.2 (fun y hy => (List.mem_erase_of_ne (fun h => hn.1 (by rw [← h]; exact hy))).2 (hs y (List.mem_cons_of_mem _ hy)))
  rw [List.length_erase_of_mem hx] at this
  have := List.length_pos_of_mem hx
  simp only [List.length_cons]; omega
theorem nodup_same {α : Type} [DecidableEq α] {l m : List α} (h1 : l.Nodup) (h2 : m.Nodup) (h : ∀ x, x ∈ l ↔ x ∈ m) : l.length = m.length :=
 Nat.le_antisymm (nodup_len h1 (fun x hx => (h x).1 hx)) (nodup_len h2 (fun x hx => (h x).2 hx))
theorem says_addBond (out : List Bond) (b : Bond) : (addBond out b).map Bond.says = if b.says ∈ out.map Bond.says then out.map Bond.says else out.map Bond.says ++ [b.says] := by
 unfold addBond; split <;> simp
theorem says_fold (bs : List Bond) : ∀ out : List Bond, (out.map Bond.says).Nodup → ((bs.foldl addBond out).map Bond.says).Nodup ∧ ∀ k, k ∈ (bs.foldl addBond out).map Bond.says ↔ k ∈ out.map Bond.says ∨ k ∈ bs.map Bond.says := by
 induction bs with
 | nil => intro out h; exact ⟨h, fun k => by simp⟩
 | cons b bs ih =>
  intro out h
  have h1 : ((addBond out b).map Bond.says).Nodup := by
   rw [says_addBond]; split
   ·exact h
   ·rename_i hn
    rw [List.nodup_append]; exact ⟨h, by simp, fun x hx y hy => by simp at hy; subst hy; exact fun e => hn (e ▸ hx)⟩
  obtain ⟨h2, h3⟩ := ih _ h1
  refine ⟨h2, fun k => ?_⟩
  rw [List.foldl_cons, h3, says_addBond]
  split
  ·rename_i hin
   rw [List.map_cons, List.mem_cons]
   constructor
   ·rintro (h | h)
    ·exact .inl h
    ·exact .inr (.inr h)
   ·rintro (h | rfl | h)
    ·exact .inl h
    ·exact .inl hin
    ·exact .inr h
  ·rw [List.map_cons, List.mem_cons, List.mem_append, List.mem_singleton, or_assoc]
theorem says_of (l : Letter) (i j : Int) : (bondsOf l i).map Bond.says = (bondsOf l j).map Bond.says := by
 unfold bondsOf; split
 ·rfl
 ·split <;> rfl
theorem says_from (ls : List Letter) : ∀ (i : Int) (out : List Bond), (out.map Bond.says).Nodup → ((bondsFrom i ls out).map Bond.says).Nodup ∧ ∀ k, k ∈ (bondsFrom i ls out).map Bond.says ↔ k ∈ out.map Bond.says ∨ ∃ l ∈ ls, k ∈ (bondsOf l 0).map Bond.says := by
 induction ls with
 | nil => intro i out h; exact ⟨h, fun k => by simp [bondsFrom]⟩
 | cons l ls ih =>
  intro i out h
  obtain ⟨h1, h2⟩ := says_fold (bondsOf l i) out h
  obtain ⟨h3, h4⟩ := ih (i + 1) _ h1
  refine ⟨h3, fun k => ?_⟩
  rw [bondsFrom, h4, h2, says_of l i 0]
  simp only [List.mem_cons, exists_eq_or_imp, or_assoc]
theorem says_bonds (ls : List Letter) : ((bonds ls).map Bond.says).Nodup ∧ ∀ k, k ∈ (bonds ls).map Bond.says ↔ ∃ l ∈ ls, k ∈ (bondsOf l 0).map Bond.says := by
 obtain ⟨h1, h2⟩ := says_from ls 0 [] (by simp)
 exact ⟨h1, fun k => by rw [bonds, h2]; simp⟩
theorem bonds_back (ls : List Letter) : (bonds ls.reverse).length = (bonds ls).length := by
 have := nodup_same (says_bonds ls.reverse).1 (says_bonds ls).1 (fun k => by rw [(says_bonds ls.reverse).2, (says_bonds ls).2]; simp)
 simpa using this
def bsays (k : Says) (b : Bond) : Bool := decide (b.says = k)
theorem find_add (k : Says) (out : List Bond) (b : Bond) : (addBond out b).find? (bsays k) = (out.find? (bsays k)).or (if bsays k b = true then some b else none) := by
 unfold addBond
 split
 ·rename_i h
  cases hf : out.find? (bsays k) with
  | some y => rfl
  | none =>
   rw [Option.none_or]
   split
   ·rename_i hb
    obtain ⟨y, hy, he⟩ := List.mem_map.1 h
    have h1 := List.find?_eq_none.1 hf y hy
    simp only [bsays, decide_eq_true_eq] at hb h1
    exact absurd (he.trans hb) h1
   ·rfl
 ·rw [List.find?_append]
  congr 1
  rw [List.find?_cons, List.find?_nil]
  cases hb : bsays k b <;> simp
theorem find_fold (k : Says) (bs : List Bond) : ∀ out : List Bond, (bs.foldl addBond out).find? (bsays k) = (out.find? (bsays k)).or (bs.find? (bsays k)) := by
 induction bs with
 | nil => intro out; simp
 | cons b bs ih =>
  intro out
  rw [List.foldl_cons, ih, find_add, Option.or_assoc]
  congr 1
  rw [List.find?_cons]
  cases hb : bsays k b <;> simp
def ruleOf : Option Bond → Bool × Int × Int
 | some b => (true, b.why, b.by_)
 | none => (false, 0, -1)
theorem judgeBonds_eq (who c : Int) (x : ByteArray) (i : Int) : ∀ bs : List Bond, (∀ b ∈ bs, b.by_ = i) → judgeBonds who c x i bs = (bs.find? (bsays ⟨who, c, x⟩)).map fun b => (b.why, b.by_)
 | [], _ => rfl
 | b :: bs, h => by
  have hb : bsays ⟨who, c, x⟩ b = decide (b.who = who ∧ b.c = c ∧ b.text = x) := by simp [bsays, Bond.says]
  rw [judgeBonds, List.find?_cons, hb]
  by_cases hc : b.who = who ∧ b.c = c ∧ b.text = x
  ·rw [if_pos hc, decide_eq_true hc]; simp [h b (by simp)]
  ·rw [if_neg hc, decide_eq_false hc]; exact judgeBonds_eq who c x i bs (fun b hb => h b (List.mem_cons_of_mem _ hb))
theorem bondsOf_by (l : Letter) (i : Int) : ∀ b ∈ bondsOf l i, b.by_ = i := by
 unfold bondsOf; intro b hb; split at hb
 ·simp at hb; rcases hb with rfl | rfl <;> rfl
 ·split at hb
  ·simp at hb; rw [hb]
  ·simp at hb
theorem find_from (k : Says) (ls : List Letter) : ∀ (i : Int) (out : List Bond), ∀ r, (out.find? (bsays k)) = some r → (bondsFrom i ls out).find? (bsays k) = some r := by
 induction ls with
 | nil => intro i out r h; exact h
 | cons l ls ih => intro i out r h; exact ih _ _ r (by rw [find_fold, h]; rfl)
theorem judge_from (who c : Int) (x : ByteArray) (ls : List Letter) : ∀ (i : Int) (out : List Bond), out.find? (bsays ⟨who, c, x⟩) = none → judgeFrom who c x i ls = ruleOf ((bondsFrom i ls out).find? (bsays ⟨who, c, x⟩)) := by
 induction ls with
 | nil => intro i out h; rw [bondsFrom, h]; rfl
 | cons l ls ih =>
  intro i out h
  rw [judgeFrom, judgeBonds_eq _ _ _ _ _ (bondsOf_by l i), bondsFrom]
  cases hf : (bondsOf l i).find? (bsays ⟨who, c, x⟩) with
  | none => exact ih _ _ (by rw [find_fold, h, hf]; rfl)
  | some b => rw [find_from _ ls _ _ b (by rw [find_fold, h, hf]; rfl)]; rfl
theorem judge_bonds (who c : Int) (x : ByteArray) (ls : List Letter) : judgeFrom who c x 0 ls = ruleOf ((bonds ls).find? (bsays ⟨who, c, x⟩)) := judge_from who c x ls 0 [] rfl
theorem judge_bound (who c : Int) (x : ByteArray) (ls : List Letter) : (judgeFrom who c x 0 ls).1 = true ↔ ∃ l ∈ ls, (⟨who, c, x⟩ : Says) ∈ (bondsOf l 0).map Bond.says := by
 rw [judge_bonds, ← (says_bonds ls).2]
 cases hf : (bonds ls).find? (bsays ⟨who, c, x⟩) with
 | none =>
  constructor
  ·intro h; cases h
  ·intro h
   obtain ⟨b, hb, he⟩ := List.mem_map.1 h
   exact absurd (decide_eq_true he) (List.find?_eq_none.1 hf b hb)
 | some b => exact ⟨fun _ => List.mem_map.2 ⟨b, List.mem_of_find?_eq_some hf, of_decide_eq_true (show bsays _ b = true from List.find?_some hf)⟩, fun _ => rfl⟩
theorem judge_back (who c : Int) (x : ByteArray) (ls : List Letter) : (judgeFrom who c x 0 ls.reverse).1 = (judgeFrom who c x 0 ls).1 := by
 rw [Bool.eq_iff_iff, judge_bound, judge_bound]; simp
theorem bondsFrom_app (xs bs : List Letter) : ∀ (i : Int) (out : List Bond), bondsFrom i (xs ++ bs) out = bondsFrom (i + xs.length) bs (bondsFrom i xs out) := by
 induction xs with
 | nil => intro i out; simp [bondsFrom]
 | cons a xs ih => intro i out; rw [List.cons_append, bondsFrom, bondsFrom, ih]; congr 1; simp only [List.length_cons]; omega
theorem judge_more (who c : Int) (x : ByteArray) (xs bs : List Letter) (h : (judgeFrom who c x 0 xs).1 = true) : judgeFrom who c x 0 (xs ++ bs) = judgeFrom who c x 0 xs := by
 rw [judge_bonds] at h ⊢
 rw [judge_bonds, bonds, bondsFrom_app]
 cases hf : (bonds xs).find? (bsays ⟨who, c, x⟩) with
 | none => rw [hf] at h; cases h
 | some b => rw [find_from _ _ _ _ b (show (bondsFrom 0 xs []).find? _ = some b from hf)]
theorem judge_each {ls : List Letter} {b : Bond} (h : b ∈ bonds ls) : judgeFrom b.who b.c b.text 0 ls = (true, b.why, b.by_) := by
 rw [judge_bonds]
 have hn := (says_bonds ls).1
 suffices hf : (bonds ls).find? (bsays b.says) = some b by rw [show (⟨b.who, b.c, b.text⟩ : Says) = b.says from rfl, hf]; rfl
 generalize bonds ls = l at *
 induction l with
 | nil => cases h
 | cons a l ih =>
  rw [List.map_cons, List.nodup_cons] at hn
  rw [List.find?_cons]
  rcases List.mem_cons.1 h with rfl | h
  ·rw [show bsays b.says b = true from decide_eq_true rfl]
  ·rw [show bsays b.says a = false from decide_eq_false (fun e => hn.1 (e ▸ List.mem_map.2 ⟨b, h, rfl⟩))]
   exact ih h hn.2
theorem fault_comm (a b : Letter) : fault a b = fault b a := by
 unfold fault
 by_cases hc : a.c = b.c
 ·rw [if_neg (c := a.c ≠ b.c) (fun h => h hc), if_neg (c := b.c ≠ a.c) (fun h => h hc.symm)]
  have e1 : (a.kind == 2 && b.kind == 2 && a.frm == b.frm && !decide (a.text = b.text)) = (b.kind == 2 && a.kind == 2 && b.frm == a.frm && !decide (b.text = a.text)) := by
   rw [Bool.and_comm (a.kind == 2), Bool.beq_comm (a := a.frm)]; simp only [eq_comm]
  have e2 : (isVerdict a && isVerdict b && !decide (a = b)) = (isVerdict b && isVerdict a && !decide (b = a)) := by
   rw [Bool.and_comm (isVerdict a)]; simp only [eq_comm]
  have e3 : ((signedO a && b.kind == 3) || (signedO b && a.kind == 3)) = ((signedO b && a.kind == 3) || (signedO a && b.kind == 3)) := Bool.or_comm _ _
  rw [e1, e2, e3, hc]
  split
  ·rename_i h
   have : b.frm = a.frm := by simp at h; exact h.1.2
   rw [this]
  ·rfl
 ·rw [if_pos (c := a.c ≠ b.c) hc, if_pos (c := b.c ≠ a.c) (fun h => hc h.symm)]
def fkeys (out : List Fault) : List Fault := out.map Fault.key
theorem fkeys_add (out : List Fault) (i k : Int) (a b : Letter) : fkeys (addFault out i k (fault a b)) = if (fault a b).kind = 0 ∨ fault a b ∈ fkeys out then fkeys out else fkeys out ++ [fault a b] := by
 unfold addFault fkeys; split
 ·rfl
 ·rw [List.map_append]
  congr 1
  have := fault_key a b
  generalize fault a b = f at *
  obtain ⟨w, c, k, x, y⟩ := f
  simp only at this
  simp [Fault.key, this]
def told (a : Letter) (f : Fault) (ls : List Letter) : Prop := ∃ b ∈ ls, fault a b = f ∧ f.kind ≠ 0
theorem fkeys_row (a : Letter) (i : Int) (bs : List Letter) : ∀ (k : Int) (out : List Fault), (fkeys out).Nodup → (fkeys (faultsRow i a k bs out)).Nodup ∧ ∀ f, f ∈ fkeys (faultsRow i a k bs out) ↔ f ∈ fkeys out ∨ told a f bs := by
 induction bs with
 | nil => intro k out h; exact ⟨h, fun f => by simp [faultsRow, told]⟩
 | cons b bs ih =>
  intro k out h
  have h1 : (fkeys (addFault out i k (fault a b))).Nodup := by
   rw [fkeys_add]; split
   ·exact h
   ·rename_i hn
    rw [List.nodup_append]; exact ⟨h, by simp, fun x hx y hy => by simp at hy; subst hy; exact fun e => hn (.inr (e ▸ hx))⟩
  obtain ⟨h2, h3⟩ := ih (k + 1) _ h1
  refine ⟨h2, fun f => ?_⟩
  rw [faultsRow, h3, fkeys_add]
  have ht : told a f (b :: bs) ↔ (fault a b = f ∧ f.kind ≠ 0) ∨ told a f bs := by unfold told; simp only [List.mem_cons, exists_eq_or_imp]
  rw [ht, ← or_assoc]
  refine or_congr ?_ Iff.rfl
  split
  ·rename_i hc
   constructor
   ·exact .inl
   ·rintro (h | ⟨rfl, hk⟩)
    ·exact h
    ·exact hc.resolve_left hk
  ·rename_i hc
   rw [List.mem_append, List.mem_singleton]
   constructor
   ·rintro (h | rfl)
    ·exact .inl h
    ·exact .inr ⟨rfl, fun h => hc (.inl h)⟩
   ·rintro (h | ⟨rfl, hk⟩)
    ·exact .inl h
    ·exact .inr rfl
def tells (f : Fault) : List Letter → Prop
 | [] => False
 | a :: ls => told a f ls ∨ tells f ls
theorem fkeys_from (ls : List Letter) : ∀ (i : Int) (out : List Fault), (fkeys out).Nodup → (fkeys (faultsFrom i ls out)).Nodup ∧ ∀ f, f ∈ fkeys (faultsFrom i ls out) ↔ f ∈ fkeys out ∨ tells f ls := by
 induction ls with
 | nil => intro i out h; exact ⟨h, fun f => by simp [faultsFrom, tells]⟩
 | cons a ls ih =>
  intro i out h
  obtain ⟨h1, h2⟩ := fkeys_row a i ls (i + 1) out h
  obtain ⟨h3, h4⟩ := ih (i + 1) _ h1
  exact ⟨h3, fun f => by rw [faultsFrom, h4, h2, tells, or_assoc]⟩
theorem fkeys_faults (ls : List Letter) : (fkeys (faults ls)).Nodup ∧ ∀ f, f ∈ fkeys (faults ls) ↔ tells f ls := by
 obtain ⟨h1, h2⟩ := fkeys_from ls 0 [] (by simp [fkeys])
 exact ⟨h1, fun f => by rw [faults, h2]; simp [fkeys]⟩
theorem tells_app (f : Fault) (xs bs : List Letter) : tells f (xs ++ bs) ↔ tells f xs ∨ tells f bs ∨ ∃ a ∈ xs, told a f bs := by
 induction xs with
 | nil => simp [tells]
 | cons a xs ih =>
  have ht : told a f (xs ++ bs) ↔ told a f xs ∨ told a f bs := by
   unfold told; constructor
   ·rintro ⟨b, hb, h⟩; rcases List.mem_append.1 hb with hb | hb
    ·exact .inl ⟨b, hb, h⟩
    ·exact .inr ⟨b, hb, h⟩
   ·rintro (⟨b, hb, h⟩ | ⟨b, hb, h⟩)
    ·exact ⟨b, List.mem_append_left _ hb, h⟩
    ·exact ⟨b, List.mem_append_right _ hb, h⟩
  rw [List.cons_append, tells, tells, ih, ht]
  simp only [List.mem_cons, exists_eq_or_imp]
  constructor
  ·rintro ((h | h) | h | h | h)
   ·exact .inl (.inl h)
   ·exact .inr (.inr (.inl h))
   ·exact .inl (.inr h)
   ·exact .inr (.inl h)
   ·exact .inr (.inr (.inr h))
  ·rintro ((h | h) | h | h | h)
   ·exact .inl (.inl h)
   ·exact .inr (.inl h)
   ·exact .inr (.inr (.inl h))
   ·exact .inl (.inr h)
   ·exact .inr (.inr (.inr h))
theorem tells_back (f : Fault) (ls : List Letter) : tells f ls.reverse ↔ tells f ls := by
 induction ls with
 | nil => rfl
 | cons a ls ih =>
  rw [List.reverse_cons, tells_app, ih, tells]
  have h0 : ¬ tells f [a] := by simp [tells, told]
  have h1 : (∃ b ∈ ls.reverse, told b f [a]) ↔ told a f ls := by
   simp only [told, List.mem_reverse, List.mem_singleton, exists_eq_left]
   constructor
   ·rintro ⟨b, hb, h, hk⟩; exact ⟨b, hb, (fault_comm a b).trans h, hk⟩
   ·rintro ⟨b, hb, h, hk⟩; exact ⟨b, hb, (fault_comm b a).trans h, hk⟩
  rw [h1]
  constructor
  ·rintro (h | h | h)
   ·exact .inr h
   ·exact absurd h h0
   ·exact .inl h
  ·rintro (h | h)
   ·exact .inr (.inr h)
   ·exact .inl h
theorem faults_back (ls : List Letter) : (faults ls.reverse).length = (faults ls).length := by
 have := nodup_same (fkeys_faults ls.reverse).1 (fkeys_faults ls).1 (fun k => by rw [(fkeys_faults ls.reverse).2, (fkeys_faults ls).2, tells_back])
 simpa [fkeys] using this
theorem faults_more (xs bs : List Letter) : (faults xs).length ≤ (faults (xs ++ bs)).length := by
 have := nodup_len (m := fkeys (faults (xs ++ bs))) (fkeys_faults xs).1 (fun k h => by rw [(fkeys_faults _).2] at h ⊢; rw [tells_app]; exact .inl h)
 simpa [fkeys] using this
end Go.Sp
end
section
open Go Go.SE
namespace Go.Sp
theorem cntAll_app (ts us : List Tree) : cntAll (ts ++ us) = cntAll ts + cntAll us := by
 induction ts with
 | nil => simp [cntAll]
 | cons t ts ih => rw [List.cons_append, cntAll, cntAll, ih]; omega
end Go.Sp
namespace Go.Proofs
attribute [local irreducible] Calls
theorem TreeAt.pairs {S : Nat → Prop} {w : World} {s : Sl} {k f t u : Int} {x : ByteArray} {ks : List Sp.Tree} (h : TreeAt S w s (.mk k f t u x ks)) : ∃ ps : List (Sp.Tree × Sl), ps.map Prod.fst = ks ∧ Lst S w 6 s (ps.map prow) ∧ ∀ p ∈ ps, TreeAt S w p.2 p.1 := by
 cases h with
 | mk _ _ _ _ _ _ _ rs len fit row kid =>
 refine ⟨ks.zipIdx.map fun q => (q.1, rs q.2), by rw [List.map_map]; exact List.zipIdx_map_fst .., ⟨by simpa using len, fun i hi => ?_⟩, fun p hp => ?_⟩
 ·have hi' : i < ks.length := by simpa using hi
  simpa [prow] using row i hi'
 ·obtain ⟨q, hq, rfl⟩ := List.mem_map.1 hp
  obtain ⟨y, i⟩ := q
  rw [List.mem_zipIdx_iff_getElem?] at hq
  obtain ⟨hi, e⟩ := List.getElem?_eq_some_iff.1 hq
  have e : ks[i] = y := e
  show TreeAt S w (rs i) y
  rw [← e]; exact kid i hi
structure MoreAt (w0 : World) (H : Nat → Prop) (w : World) (p1 p2 : Addr) (L : Sp.Pool) (t l s b : Sl) (ids : List Int) (n : Nat) (ls : List Sp.Letter) (F1 F2 : Nat → Prop) : Prop where
 all : Show4 w0 H w p1 p2 L L t l ids ls F1 F2
 hd : Own H w 41 1 s (trows (ids.take n))
 bk : Own H w 41 1 b (trows ids.reverse)
theorem MoreAt.hst {w0 : World} {H : Nat → Prop} {w : World} {p1 p2 : Addr} {L : Sp.Pool} {t l s b : Sl} {ids : List Int} {n : Nat} {ls : List Sp.Letter} {F1 F2 H' : Nat → Prop} {w' : World} (h : MoreAt w0 H w p1 p2 L t l s b ids n ls F1 F2) (hs : Hst w0 H w H' w') : MoreAt w0 H' w' p1 p2 L t l s b ids n ls F1 F2 := ⟨h.all.hst hs, h.hd.hst hs, h.bk.hst hs⟩
theorem MoreAt.pure {w0 : World} {H : Nat → Prop} {w : World} {p1 p2 : Addr} {L : Sp.Pool} {t l s b : Sl} {ids : List Int} {n : Nat} {ls : List Sp.Letter} {F1 F2 : Nat → Prop} {w' : World} (h : MoreAt w0 H w p1 p2 L t l s b ids n ls F1 F2) (E : Pure w w') : MoreAt w0 H w' p1 p2 L t l s b ids n ls F1 F2 := ⟨h.all.pureE E, h.hd.pure E, h.bk.pure E⟩
theorem MoreAt.reads {w0 : World} {H : Nat → Prop} {w : World} {p1 p2 : Addr} {L : Sp.Pool} {t l s b : Sl} {ids : List Int} {n : Nat} {ls : List Sp.Letter} {F1 F2 : Nat → Prop} (h : MoreAt w0 H w p1 p2 L t l s b ids n ls F1 F2) (hok : Sp.Ok L) (hn : ids.length ≤ 80) :
  Reads (some p1) s ((readAll L ids).take n) w ∧ Reads (some p1) t (readAll L ids) w ∧ Reads (some p1) b (readAll L ids).reverse w := by
 refine ⟨?_, reads_pool p1 t ids w h.all.pool1 hok h.all.ts.lst (by omega), ?_⟩
 ·have : (readAll L ids).take n = readAll L (ids.take n) := by simp [readAll, List.map_take]
  rw [this]; exact reads_pool p1 s _ w h.all.pool1 hok h.hd.rows.lst (by rw [List.length_take]; omega)
 ·have : (readAll L ids).reverse = readAll L ids.reverse := by simp [readAll]
  rw [this]; exact reads_pool p1 b _ w h.all.pool1 hok h.bk.rows.lst (by rw [List.length_reverse]; omega)
def bondIs (who c : Int) (x : ByteArray) (y i : Int) (b : Sp.Bond) : Bool := b.who == who && (b.c == c && (decide (b.text = x) && (b.why == y && b.by_ == i)))
theorem c_law13_ArbiterMore {S S' : Nat → Prop} (ts us : List Sp.Tree) (s1 s2 : Sl) (who c : Int) (x : ByteArray) (w0 : World) (hT : TreeAt S w0 s1 (.mk 0 0 0 0 ⟨#[]⟩ ts)) (hU : TreeAt S' w0 s2 (.mk 0 0 0 0 ⟨#[]⟩ us)) (hS : ∀ b, S b → b < w0.heap.size) (hS' : ∀ b, S' b → b < w0.heap.size) :
  Calls Try.prog 4 #[s1.v, s2.v, .agg #[.int .i64 who, .int .u64 c, .string x]] w0 (fun e w' => ∃ r : Bool, e = .returned (.bool r) ∧ (r = true ∧ Pure w0 w')) := by
 refine w_law13_ArbiterMore _ _ _ _ _ w0 (fun r w' => r = true ∧ Pure w0 w') ?_
 unfold m_law13_ArbiterMore
 intro H1 w1 hs1
 have E1 := hs1.first
 have J1t : ∀ w, Pure w0 w → m_law13_ArbiterMore_j1 s1 s2 who c x true w0 H1 w (fun r w' => r = true ∧ Pure w0 w') := by
  intro w E
  unfold m_law13_ArbiterMore_j1
  refine Br.t rfl ?_
  refine (c_live13 w).mono ?_
  rintro _ w3 ⟨r2, rfl, hr2, E3⟩
  exact ⟨_, rfl, E3.keptP, hr2, E.trans E3⟩
 refine (c_law13_large ts s1 w1 (hT.pure E1) (fun b hb => by have := hS b hb; have := E1.size; omega)).mono ?_
 rintro _ w2 ⟨r13, rfl, hlg1, E2⟩
 have E02 := E1.trans E2
 refine ⟨_, rfl, E2.keptP, fun _ => J1t w2 E02, fun h1 => ?_⟩
 obtain ⟨hn1, hc1⟩ := hlg1 h1
 refine (c_law13_large us s2 w2 (hU.pure E02) (fun b hb => by have := hS' b hb; have := E02.size; omega)).mono ?_
 rintro _ w3 ⟨r14, rfl, hlg2, E3⟩
 have E03 := E02.trans E3
 refine ⟨_, rfl, E3.keptP, ?_⟩
 cases r14 with
 | true => exact J1t w3 E03
 | false =>
 obtain ⟨hn2, hc2⟩ := hlg2 rfl
 have hs3 : Hst w0 H1 w3 H1 w3 := (hs1.here.again E2.keptP).again E3.keptP
 unfold m_law13_ArbiterMore_j1
 refine Br.f rfl ?_
 intro p2 w4 h4
 have E4 : Pure w3 w4 := Ext.new h4
 obtain ⟨ps1, hp1, L1, k1⟩ := (hT.pure E03).pairs
 obtain ⟨ps2, hp2, L2, k2⟩ := (hU.pure E03).pairs
 have n1 : ps1.length = ts.length := by rw [← hp1]; simp
 have n2 : ps2.length = us.length := by rw [← hp2]; simp
 have e6 : ∀ ps : List (Sp.Tree × Sl), ∀ q ∈ ps.map prow, q.length = 6 := fun ps q hq => by obtain ⟨y, _, rfl⟩ := List.mem_map.1 hq; rfl
 have e1 : ∀ ps : List (Sp.Tree × Sl), ∀ q ∈ ps.map prow, q.all oneCell = true := fun ps q hq => by obtain ⟨y, _, rfl⟩ := List.mem_map.1 hq; exact trow_one _ _
 have hp2b : p2.block = w3.heap.size := h4.at_size
 obtain ⟨sa, w5, hr5, R5, X5, b5⟩ := (Rws.empty (sz := 6) h4).appendL (P := Try.prog) (ty := 22) slT_tree (L1.pure E4) (e6 _) (e1 _) (by simp; omega) (by simp [maxLen]; omega)
 have b5' : ∀ b, sa.blk b → w3.heap.size ≤ b := fun b hb => (b5 b hb).elim (fun ⟨a, ha, e⟩ => by cases ha; omega) (fun h => by have := E4.size; omega)
 have X35 : Pure w3 w5 := E4.trans' X5 (fun i hi ⟨a, ha, e⟩ => by cases ha; omega)
 have nh : ∀ b, w3.heap.size ≤ b → ¬ H1 b := fun b hb hh => by have := hs3.lt b hh; omega
 refine ⟨sa, w5, hr5, X5.kept (fun b hh ⟨a, ha, e⟩ => by cases ha; exact nh b (by omega) hh), ?_⟩
 obtain ⟨sb, w6, hr6, R6, X6, b6⟩ := R5.appendL (P := Try.prog) (ty := 22) slT_tree (L2.pure X35) (e6 _) (e1 _) (by simp; omega) (by simp [maxLen]; omega)
 have b6' : ∀ b, sb.blk b → w3.heap.size ≤ b := fun b hb => (b6 b hb).elim (b5' b) (fun h => by have := X35.size; omega)
 have X36 : Pure w3 w6 := X35.trans' X6 (fun i hi hb => by have := b5' i hb; omega)
 refine ⟨sb, w6, hr6, X6.kept (fun b hh hb => nh b (b5' b hb) hh), ?_⟩
 have E06 := E03.trans X36
 have R6' : Rws w6 116 6 sb ((ps1 ++ ps2).map prow) := by simpa using R6
 have hTU : TreeAt (fun b => S b ∨ S' b ∨ sb.blk b) w6 sb (.mk 0 0 0 0 ⟨#[]⟩ (ts ++ us)) := by
  have := TreeAt.of_pairs (S := fun b => S b ∨ S' b ∨ sb.blk b) (k := 0) (f := 0) (t := 0) (u := 0) (x := ⟨#[]⟩) R6' (fun b hb => .inr (.inr hb)) (fun p hp => by
   rcases List.mem_append.1 hp with hp | hp
   ·exact ((k1 p hp).pure X36).mono (fun b hb => .inl hb)
   ·exact ((k2 p hp).pure X36).mono (fun b hb => .inr (.inl hb))) (by rw [List.length_append]; omega)
  rwa [List.map_append, hp1, hp2] at this
 refine (c_law13_shown (ts ++ us) sb w6 hTU (fun b hb => ?_) (by rw [List.length_append]; omega) (by rw [Sp.cntAll_app]; omega)).mono ?_
 ·rcases hb with hb | hb | hb
  ·have := hS b hb; have := E06.size; omega
  ·have := hS' b hb; have := E06.size; omega
  ·exact R6.lt hb
 rintro _ w7 ⟨_, t, l, rfl, q1, q2, F1, F2, rfl, hq⟩
 have E67 := hq.pure
 have E07 := E06.trans E67
 refine ⟨_, _, _, rfl, E67.keptP, Br.f rfl ?_⟩
 have hok := (Sp.showAll_wf (ts ++ us)).1.ok
 have hlen : (Sp.showAll (ts ++ us)).2.1.length = ts.length + us.length := by
  have := Sp.show_len (ts ++ us) ([], [], [])
  simpa [Sp.showAll] using this
 generalize (Sp.showAll (ts ++ us)).1 = L at *
 generalize (Sp.showAll (ts ++ us)).2.1 = ids at *
 generalize (Sp.showAll (ts ++ us)).2.2 = ls at *
 have n6 : w3.heap.size ≤ w6.heap.size := X36.size
 have hq7 : Show4 w0 H1 w7 q1 q2 L L t l ids ls F1 F2 := ⟨E07, hq.pool1, hq.pool2, hq.ts, hq.ls,
  fun b hb => ⟨by have := (hq.o1 b hb).1; have := E06.size; omega, nh b (by have := (hq.o1 b hb).1; omega), (hq.o1 b hb).2.2⟩,
  fun b hb => ⟨by have := (hq.o2 b hb).1; have := E06.size; omega, nh b (by have := (hq.o2 b hb).1; omega), (hq.o2 b hb).2.2⟩,
  fun b hb => ⟨by have := (hq.o3 b hb).1; have := E06.size; omega, nh b (by have := (hq.o3 b hb).1; omega), (hq.o3 b hb).2.2⟩,
  fun b hb => ⟨by have := (hq.o4 b hb).1; have := E06.size; omega, nh b (by have := (hq.o4 b hb).1; omega)⟩⟩
 clear hq
 have hs7 : Hst w0 H1 w7 H1 w7 := ((hs3.again X36.keptP).again E67.keptP)
 have hl1 : s1.len = ts.length := by cases hT; assumption
 have htl : t.len = ids.length := by rw [hq7.ts.len]; simp [trows]
 obtain ⟨s3, hr3, R3, hb3⟩ := hq7.ts.hiA (P := Try.prog) slT_term (k := .i64) (n := (s1.len : Int)) (by omega) (by simp [trows]; omega)
 have R3' : Own H1 w7 41 1 s3 (trows (ids.take ts.length)) := ⟨by rw [hl1] at R3; simpa [trows, List.map_take] using R3, fun b hb => (hq7.o3 b ((hb3 b).1 hb)).2.1⟩
 refine ⟨s3, hr3 w7, ?_⟩
 refine ⟨fun back i H w' => ∃ j : Nat, i = (ids.length : Int) - 1 - j ∧ j ≤ ids.length ∧ Pure w0 w' ∧ Show4 w0 H w' q1 q2 L L t l ids ls F1 F2 ∧ Own H w' 41 1 s3 (trows (ids.take ts.length)) ∧ Own H w' 41 1 back (trows (ids.reverse.take j)) ∧ (∀ b, back.blk b → w0.heap.size ≤ b ∧ ¬ F1 b ∧ ¬ F2 b ∧ ¬ t.blk b ∧ ¬ l.blk b ∧ ¬ s3.blk b), fun _ i _ => (i + 1).toNat, ⟨0, ?_, Nat.zero_le _, E07, hq7, R3', Own.nil _ _, fun b ⟨a, h, _⟩ => by cases h⟩, ?_⟩
 ·rw [htl, IntWalk.i64_in _ (by omega)]; omega
 rintro back _ Hl wl hl ⟨j, rfl, hj, El, hQ, O3, OB, hown⟩
 unfold m_law13_ArbiterMore_l2
 refine ⟨fun hc => ?_, fun hc => ?_⟩
 ·have hc := of_decide_eq_true hc
  have hlt : j < ids.length := by omega
  obtain ⟨a1, at1, row1, _⟩ := hQ.ts.at (i := (ids.length : Int) - 1 - j) (by omega) (by simp [trows]; omega)
  have hget : (trows ids)[((ids.length : Int) - 1 - j).toNat]'(by simp [trows]; omega) = [Value.int .i64 (ids.reverse[j]'(by simpa using hlt))] := by
   simp only [trows, List.getElem_map, List.getElem_reverse]
   have : ((ids.length : Int) - 1 - j).toNat = ids.length - 1 - j := by omega
   simp [this]
  rw [hget] at row1
  refine ⟨a1, at1, _, row_cell row1, ?_⟩
  intro p3 w8 h8
  have E8 : Pure wl w8 := Ext.new h8
  have OB8 := OB.pure E8
  obtain ⟨s4, w9, hr9, O9, X9, k9, b9⟩ := OB8.append (P := Try.prog) (ty := 26) (c := 1) slT_term (hl.again E8.keptP) (r := [Value.int .i64 (ids.reverse[j]'(by simpa using hlt))]) (Box.of_new h8).row rfl rfl (by simp [trows]; omega) (by simp [trows, maxLen]; omega)
  refine ⟨s4, w9, hr9, k9, ?_⟩
  have E79 : Pure w0 w9 := (El.trans E8).trans' X9 (fun i hi hb => by have := (hown i hb).1; omega)
  have htk : ids.reverse.take (j + 1) = ids.reverse.take j ++ [ids.reverse[j]'(by simpa using hlt)] := List.take_succ_eq_append_getElem (by simpa using hlt)
  have f1 := hQ.pool1.pure E8
  have f2 := hQ.pool2.pure E8
  have f3 := hQ.ts.pure E8
  have f4 := hQ.ls.pure E8
  have f5 := O3.pure E8
  have z8 : wl.heap.size ≤ w8.heap.size := E8.size
  refine ⟨⟨j + 1, by rw [IntWalk.i64_in _ (by omega)]; omega, hlt, E79, ⟨E79, f1.ext X9 (fun b hb hh => (hown b hh).2.1 hb), f2.ext X9 (fun b hb hh => (hown b hh).2.2.1 hb), f3.ext X9 (fun b hb hh => (hown b hh).2.2.2.1 hb), f4.ext X9 (fun b hb hh => (hown b hh).2.2.2.2.1 hb), hQ.o1, hQ.o2, hQ.o3, hQ.o4⟩, f5.ext X9 (fun b hb hh => (hown b hh).2.2.2.2.2 hb), ?_, fun b hb => ?_⟩, ?_⟩
  ·rw [htk]; simpa [trows] using O9
  ·rcases b9 b hb with h | h
   ·exact hown b h
   ·refine ⟨by have := El.size; omega, fun hh => by have := f1.lt hh; omega, fun hh => by have := f2.lt hh; omega, fun hh => by have := f3.lt hh; omega, fun hh => by have := f4.lt hh; omega, fun hh => by have := f5.rows.lt hh; omega⟩
  ·show ((IntKind.i64.wrap ((ids.length : Int) - 1 - j - 1)) + 1 : Int).toNat < ((ids.length : Int) - 1 - j + 1).toNat
   rw [IntWalk.i64_in _ (by omega)]; omega
 have hc := of_decide_eq_false hc
 have hjl : j = ids.length := by omega
 subst hjl
 have hM : MoreAt w0 Hl wl q1 q2 L t l s3 back ids ts.length ls F1 F2 := ⟨hQ, O3, by rw [List.take_of_length_le (by simp)] at OB; exact OB⟩
 have hi80 : ids.length ≤ 80 := by omega
 have hrl : (readAll L ids).length = ids.length := by simp [readAll]
 clear hQ O3 OB hown hc
 have rd : ∀ {H w}, MoreAt w0 H w q1 q2 L t l s3 back ids ts.length ls F1 F2 → _ := fun h => MoreAt.reads h hok hi80
 generalize hLs : readAll L ids = Ls at *
 have lt1 : (Ls.take ts.length).length ≤ 80 := by rw [List.length_take]; omega
 have lt3 : Ls.reverse.length ≤ 80 := by rw [List.length_reverse]; omega
 refine (c_arb_Judge (some q1) s3 _ who c x wl (rd hM).1 (by omega)).mono ?_
 rintro _ w9 ⟨bx1, y1, i1, rfl, hj1, E9⟩
 refine ⟨_, _, _, rfl, E9.keptP, ?_⟩
 intro H2 w11 hs11
 have hM11 := (hM.pure E9).hst hs11
 refine (c_arb_Judge (some q1) t _ who c x w11 (rd hM11).2.1 (by omega)).mono ?_
 rintro _ w12 ⟨bx2, y2, i2, rfl, hj2, E12⟩
 refine ⟨_, _, _, rfl, E12.keptP, ?_⟩
 intro H3 w14 hs14
 have hM14 := (hM11.pure E12).hst hs14
 refine (c_arb_Judge (some q1) back _ who c x w14 (rd hM14).2.2 (by omega)).mono ?_
 rintro _ w15 ⟨bx3, y3, i3, rfl, hj3, E15⟩
 refine ⟨_, _, _, rfl, E15.keptP, ?_⟩
 have hback := Sp.judge_back who c x Ls
 rw [← hj3, ← hj2] at hback
 simp only at hback
 have hmore : bx1 = true → (bx2, y2, i2) = (bx1, y1, i1) := by
  intro h
  have := Sp.judge_more who c x (Ls.take ts.length) (Ls.drop ts.length) (by rw [← hj1]; exact h)
  rw [List.take_append_drop, ← hj1, ← hj2] at this
  exact this
 rintro _ rfl
 refine Br.f ?_ ?_
 ·rw [hback]
  cases bx1 with
  | false => simp
  | true => have := hmore rfl; simp at this; obtain ⟨rfl, rfl, rfl⟩ := this; simp
 intro H6 w30 hs30
 have hM30 := (hM14.pure E15).hst hs30
 refine (c_arb_Faults (some q1) s3 _ w30 (rd hM30).1 (by omega)).mono ?_
 rintro _ w35 ⟨r11, rfl, h11⟩
 refine ⟨_, rfl, h11.kept, ?_⟩
 have hM35 := hM30.pure h11.pure
 refine (c_arb_Faults (some q1) t _ w35 (rd hM35).2.1 (by omega)).mono ?_
 rintro _ w36 ⟨r12, rfl, h12⟩
 refine ⟨_, rfl, h12.kept, ?_⟩
 have hM36 := hM35.pure h12.pure
 have g1 : decide ((r11.len : Int) > (r12.len : Int)) = false := by
  have := Sp.faults_more (Ls.take ts.length) (Ls.drop ts.length)
  rw [List.take_append_drop] at this
  rw [h11.rows.len, h12.rows.len]; simp; omega
 rw [g1]
 unfold m_law13_ArbiterMore_j7
 refine Br.f rfl ?_
 refine (c_arb_Faults (some q1) t _ w36 (rd hM36).2.1 (by omega)).mono ?_
 rintro _ w37 ⟨r9, rfl, h9⟩
 refine ⟨_, rfl, h9.kept, ?_⟩
 have hM37 := hM36.pure h9.pure
 refine (c_arb_Faults (some q1) back _ w37 (rd hM37).2.2 (by omega)).mono ?_
 rintro _ w38 ⟨r10, rfl, h10⟩
 refine ⟨_, rfl, h10.kept, ?_⟩
 have hM38 := hM37.pure h10.pure
 have g2 : ((r9.len : Int) != (r10.len : Int)) = false := by
  have := Sp.faults_back Ls
  rw [h9.rows.len, h10.rows.len]; simp; omega
 rw [g2]
 unfold m_law13_ArbiterMore_j8
 refine Br.f rfl ?_
 refine (c_arb_Bonds (some q1) t _ w38 (rd hM38).2.1 (by omega)).mono ?_
 rintro _ w39 ⟨r7, rfl, h7⟩
 refine ⟨_, rfl, h7.kept, ?_⟩
 have hM39 := hM38.pure h7.pure
 refine (c_arb_Bonds (some q1) back _ w39 (rd hM39).2.2 (by omega)).mono ?_
 rintro _ w40 ⟨r8, rfl, h8⟩
 refine ⟨_, rfl, h8.kept, ?_⟩
 have hM40 := hM39.pure h8.pure
 have g3 : ((r7.len : Int) != (r8.len : Int)) = false := by
  have := Sp.bonds_back Ls
  rw [h7.rows.len, h8.rows.len]; simp; omega
 rw [g3]
 unfold m_law13_ArbiterMore_j3
 refine Br.f rfl ?_
 refine (c_arb_Bonds (some q1) t _ w40 (rd hM40).2.1 (by omega)).mono ?_
 rintro _ w41 ⟨r5, rfl, h5⟩
 refine ⟨_, rfl, h5.kept, ?_⟩
 have hM41 := hM40.pure h5.pure
 have hs40 : Hst w0 H6 w40 H6 w40 := ((((((hs30.here.again h11.kept).again h12.kept).again h9.kept).again h10.kept).again h7.kept).again h8.kept)
 have hB5 : Own H6 w41 46 5 r5 ((Sp.bonds Ls).map brow) := ⟨h5.rows, fun b hb hh => by have := h5.own b hb; have := hs40.lt b hh; omega⟩
 have hbl : (Sp.bonds Ls).length ≤ 160 := by have := bonds_len (ls := Ls); omega
 have l5 : r5.len = (Sp.bonds Ls).length := by rw [h5.rows.len]; simp
 have hall : bx2 = (Sp.bonds Ls).any (bondIs who c x y2 i2) := by
  have hb := Sp.judge_bonds who c x Ls
  rw [← hj2] at hb
  cases hf : (Sp.bonds Ls).find? (Sp.bsays ⟨who, c, x⟩) with
  | none =>
   rw [hf] at hb; cases hb
   symm; rw [List.any_eq_false]
   intro b hbm hh
   have := List.find?_eq_none.1 hf b hbm
   simp [bondIs] at hh
   simp [Sp.bsays, Sp.Bond.says] at this
   exact this hh.1 hh.2.1 hh.2.2.1
  | some b =>
   rw [hf] at hb; cases hb
   symm; rw [List.any_eq_true]
   refine ⟨b, List.mem_of_find?_eq_some hf, ?_⟩
   have := List.find?_some hf
   simp [Sp.bsays, Sp.Bond.says] at this
   simp [bondIs, this]
 have heach : ∀ b ∈ Sp.bonds Ls, Sp.judgeFrom b.who b.c b.text 0 Ls = (true, b.why, b.by_) := fun b hb => Sp.judge_each hb
 generalize Sp.bonds Ls = B at *
 refine ⟨fun found i H w' => ∃ j : Nat, i = j ∧ j ≤ B.length ∧ found = (B.take j).any (bondIs who c x y2 i2) ∧ Pure w0 w' ∧ MoreAt w0 H w' q1 q2 L t l s3 back ids ts.length ls F1 F2 ∧ Own H w' 46 5 r5 (B.map brow), fun _ i _ => ((B.length : Int) - i).toNat, ⟨0, rfl, Nat.zero_le _, rfl, hM41.all.pure, hM41, hB5⟩, ?_⟩
 rintro fnd _ Hm wm hm ⟨j, rfl, hj, hfd, Em, hMm, hBm⟩
 unfold m_law13_ArbiterMore_l4
 refine ⟨fun hc => ?_, fun hc => ?_⟩
 ·have hlt := lt_of_dec l5 hc
  have htk : B.take (j + 1) = B.take j ++ [B[j]] := List.take_succ_eq_append_getElem hlt
  have hany : (B.take (j + 1)).any (bondIs who c x y2 i2) = (fnd || bondIs who c x y2 i2 B[j]) := by rw [htk, List.any_append, hfd]; simp
  obtain ⟨a, hat, hrow⟩ := hBm.nth hlt
  have cell : ∀ {H w}, Own H w 46 5 r5 (B.map brow) → Row w a (brow B[j]) := fun h => by
   obtain ⟨a', hat', hrow'⟩ := h.nth hlt
   obtain ⟨_, _, b, hb, rfl⟩ := hat
   obtain ⟨_, _, b', hb', rfl⟩ := hat'
   rw [hb] at hb'; cases hb'; exact hrow'
  have hbe := heach _ (List.getElem_mem hlt)
  generalize hBj : B[j] = bj at *
  have J6 : ∀ (fd : Bool) (a2 : Addr) (w : World), Pure w0 w → Hst w0 Hm w Hm w → MoreAt w0 Hm w q1 q2 L t l s3 back ids ts.length ls F1 F2 → Own Hm w 46 5 r5 (B.map brow) → ¬ Hm a2.block → Row w a2 [.bool true, .int .i64 bj.why, .int .i64 bj.by_] → fd = (B.take (j + 1)).any (bondIs who c x y2 i2) →
    m_law13_ArbiterMore_j6 r5 j fd a2 w0 Hm w (fun y'0 y'1 H' w' => (∃ j : Nat, y'1 = j ∧ j ≤ B.length ∧ y'0 = (B.take j).any (bondIs who c x y2 i2) ∧ Pure w0 w' ∧ MoreAt w0 H' w' q1 q2 L t l s3 back ids ts.length ls F1 F2 ∧ Own H' w' 46 5 r5 (B.map brow)) ∧ ((B.length : Int) - y'1).toNat < ((B.length : Int) - (j : Int)).toNat) (fun r w' => r = true ∧ Pure w0 w') := by
   intro fd a2 w E hs hMw hBw ha2 hra hfd'
   unfold m_law13_ArbiterMore_j6
   intro w19 hs19
   have hra9 := row_hst hra ha2 hs19
   have hB9 := hBw.hst hs19
   have hr9 := cell hB9
   refine ⟨_, by simpa [Addr.add] using hra9 0 (by simp), Br.f rfl ?_⟩
   refine ⟨_, hra9 2 (by simp), a, hat, _, hr9 4 (by simp [brow]), Br.f (by simp) ?_⟩
   rw [wrap_succ hlt (by omega)]
   exact ⟨⟨j + 1, rfl, hlt, hfd', E.hst hs19, hMw.hst hs19, hB9⟩, lt_dec hlt⟩
  have J5 : ∀ (fd : Bool) (w : World), Hst w0 Hm wm Hm w → fd = (B.take (j + 1)).any (bondIs who c x y2 i2) →
    m_law13_ArbiterMore_j5 (some q1) t r5 j fd w0 Hm w (fun y'0 y'1 H' w' => (∃ j : Nat, y'1 = j ∧ j ≤ B.length ∧ y'0 = (B.take j).any (bondIs who c x y2 i2) ∧ Pure w0 w' ∧ MoreAt w0 H' w' q1 q2 L t l s3 back ids ts.length ls F1 F2 ∧ Own H' w' 46 5 r5 (B.map brow)) ∧ ((B.length : Int) - y'1).toNat < ((B.length : Int) - (j : Int)).toNat) (fun r w' => r = true ∧ Pure w0 w') := by
   intro fd w hsw hfd'
   unfold m_law13_ArbiterMore_j5
   have Ew := Em.hst hsw
   have hMw := hMm.hst hsw
   have hBw := hBm.hst hsw
   have Ed : Pure w w.drew := Ext.drew w
   have hsd : Hst w0 Hm w.drew Hm w.drew := hsw.here.again Ed.keptP
   refine ⟨fun w' => Own Hm w' 46 5 r5 (B.map brow), hBw.pure Ed, ?_⟩
   rintro _ rfl
   refine ⟨a, hat, _, fun w' h => by simpa [Addr.add, brow] using cell h 0 (by simp [brow]), a, hat, _, fun w' h => cell h 1 (by simp [brow]), a, hat, _, fun w' h => cell h 2 (by simp [brow]), ?_, ?_⟩
   ·refine (c_arb_Judge (some q1) t _ bj.who bj.c bj.text w.drew (rd (hMw.pure Ed)).2.1 (by omega)).mono ?_
    rintro _ w21 ⟨b4, y4, i4, rfl, hj4, E21⟩
    rw [hbe] at hj4; cases hj4
    refine ⟨_, _, _, rfl, E21.keptP, ?_⟩
    intro p7 w22 h22
    have E22 := (Ed.trans E21).trans (Ext.new h22)
    have hnh : ¬ Hm p7.block := fun hh => by have := hsd.lt _ hh; have := h22.at_size; have := E21.size; omega
    have b7 := Box.of_new h22
    refine ⟨hBw.pure E22, b7.canWs (n := 3) (by simp), hnh, ?_⟩
    rintro _ rfl
    have E23 := Ext.storeRow w22 p7 [Value.bool true, .int .i64 bj.why, .int .i64 bj.by_]
    have b23 := b7.store (vs := [Value.bool true, .int .i64 bj.why, .int .i64 bj.by_]) rfl
    have E2 : Pure w (storeRow w22 p7 [Value.bool true, .int .i64 bj.why, .int .i64 bj.by_]) := E22.own (by have := h22.at_size; have := (Ed.trans E21).size; omega) E23
    exact J6 fd p7 _ (Ew.trans E2) (hsw.here.again E2.keptP) (hMw.pure E2) (hBw.pure E2) hnh b23.row hfd'
   ·intro p8 w24 h24
    have E24 := Ed.trans (Ext.new h24)
    have hnh : ¬ Hm p8.block := fun hh => by have := hsd.lt _ hh; have := h24.at_size; omega
    refine ⟨hBw.pure E24, ?_⟩
    refine (c_arb_Judge (some q1) t _ bj.who bj.c bj.text w24 (rd (hMw.pure E24)).2.1 (by omega)).mono ?_
    rintro _ w25 ⟨b4, y4, i4, rfl, hj4, E25⟩
    rw [hbe] at hj4; cases hj4
    have b8 := (Box.of_new h24).pure E25
    refine ⟨_, _, _, rfl, E25.keptP, b8.canWs (n := 3) (by simp), hnh, ?_⟩
    rintro _ rfl
    have E26 := Ext.storeRow w25 p8 [Value.bool true, .int .i64 bj.why, .int .i64 bj.by_]
    have b26 := b8.store (vs := [Value.bool true, .int .i64 bj.why, .int .i64 bj.by_]) rfl
    have E2 : Pure w (storeRow w25 p8 [Value.bool true, .int .i64 bj.why, .int .i64 bj.by_]) := (E24.trans E25).own (by have := h24.at_size; have := Ed.size; omega) E26
    exact J6 fd p8 _ (Ew.trans E2) (hsw.here.again E2.keptP) (hMw.pure E2) (hBw.pure E2) hnh b26.row hfd'
  refine ⟨fun hf => ?_, fun hf => ?_⟩
  ·intro w27 hs27
   exact J5 true w27 hs27 (by rw [hany, hf]; rfl)
  ·refine ⟨a, hat, ?_⟩
   intro w27 hs27
   have hr7 := cell (hBm.hst hs27)
   have hany' : (B.take (j + 1)).any (bondIs who c x y2 i2) = bondIs who c x y2 i2 bj := by rw [hany, hf]; rfl
   refine ⟨_, by simpa [Addr.add, brow] using hr7 0 (by simp [brow]), fun h0 => ⟨a, hat, _, hr7 1 (by simp [brow]), fun h1 => ⟨a, hat, _, hr7 2 (by simp [brow]), fun h2 => ⟨a, hat, _, hr7 3 (by simp [brow]), fun h3 => ⟨a, hat, _, hr7 4 (by simp [brow]), ?_⟩, fun h3 => ?_⟩, fun h2 => ?_⟩, fun h1 => ?_⟩, fun h0 => ?_⟩
   ·exact J5 _ w27 hs27 (by rw [hany', bondIs, h0, h1, h2, h3]; simp)
   ·exact J5 false w27 hs27 (by rw [hany', bondIs, h3]; simp)
   ·exact J5 false w27 hs27 (by rw [hany', bondIs, h2]; simp)
   ·exact J5 false w27 hs27 (by rw [hany', bondIs, h1]; simp)
   ·exact J5 false w27 hs27 (by rw [hany', bondIs, h0]; simp)
 ·have hge := eq_of_dec l5 hj hc
  subst hge
  rw [List.take_length] at hfd
  refine Br.t (by rw [hfd, ← hall]; simp) ?_
  refine (c_live13 wm).mono ?_
  rintro _ w28 ⟨r6, rfl, hr6, E28⟩
  exact ⟨_, rfl, E28.keptP, hr6, Em.trans E28⟩
end Go.Proofs
end
section
namespace Go.SE
open Go.ChangeShapes Go.WideShapes Go.ChangeAt Go.RowKit
section
variable {H : Type} {enc : TypeId × Value → H} {P : Program}
theorem below_trodAll (hl : laidOutB P = true) {W W' : World} (hb : Below W.heap.size W W') : ∀ (ts : List TypeId) (vs : List Value) (ds : List (DataW H)) (ps : List MemPlace), (ts.all fun t => P.readableRec t && decide (t < P.types.size)) = true →
  DataW.TrodAll enc P W 0 (fun _ => true) true ts vs ds ps → (∀ x ∈ ps, x.block < W.heap.size) → DataW.TrodAll enc P W' 0 (fun b => decide (b < W.heap.size)) true ts vs ds ps
 | [], _, _, _, _, h, _ => by
  obtain ⟨rfl, rfl, rfl⟩ := trodAll_nil h
  exact h
 | t :: ts, _, _, _, hr, h, hlt => by
  obtain ⟨v, vs1, d, ds1, a, b, rfl, rfl, rfl, h1, h2⟩ := trodAll_cons h
  simp only [List.all_cons, Bool.and_eq_true, decide_eq_true_eq] at hr
  exact ⟨a, b, Below.trod hl hr.1.1 hr.1.2 h1 hb (fun x hx => hlt x (by simp [hx])), below_trodAll hl hb ts vs1 ds1 b (by simpa using hr.2) h2 (fun x hx => hlt x (by simp [hx])), rfl⟩
theorem law_post {f : Func} {s : ChangeSpec} {W W' : World} {args : Array Value} {ds gs : List (DataW H)} {before : List MemPlace} {t : TypeId} (hl : laidOutB P = true)
  (hv : s.vars = []) (hf : ∀ ds : List (DataW H), ds.length = f.params.size → s.fn H ds = { results := [.lit (.bool true)], args := ds }) (hrt : f.resultTypes = #[t]) (ht : P.underlying t = some .bool)
  (hr : (f.params.toList.all fun t => P.readableRec t && decide (t < P.types.size)) = true)
  (hW : DataW.Whole enc P f.params.toList s.vars false W args.toList ds gs before) (E : Pure W W') :
  s.post enc P f false true false false W args (.bool true) W' := by
 have hW' := hW
 obtain ⟨p, q, hA, hV, rfl, hfz, hnd⟩ := hW
 rw [hv] at hV
 obtain ⟨rfl, rfl⟩ := trodVars_none hV
 have hlen : ds.length = f.params.size := by
  have : ∀ (ts : List TypeId) (vs : List Value) (ds : List (DataW H)) (ps : List MemPlace), DataW.TrodAll enc P W 0 (fun _ => true) true ts vs ds ps → ds.length = ts.length := by
   intro ts
   induction ts with
   | nil => intro vs ds ps h; obtain ⟨_, rfl, _⟩ := trodAll_nil h; rfl
   | cons t ts ih =>
    intro vs ds ps h
    obtain ⟨v, vs1, d, ds1, a, b, _, rfl, _, _, h2⟩ := trodAll_cons h
    simp [ih _ _ _ h2]
  simpa using this _ _ _ _ hA
 have hfn := hf ds hlen
 have hfn' : s.fn H (ds ++ []) = { results := [.lit (.bool true)], args := ds } := by rw [List.append_nil]; exact hfn
 have hlt : ∀ x ∈ p, x.block < W.heap.size := fun x hx => by simpa using hW'.lt x (by simp [hx])
 have bel := E.below
 refine ⟨ds, [], p ++ [], [], p, [], hW', ?_, ?_, ?_, bel.frame _, fun h => by cases h⟩
 ·rw [hfn', hrt]; exact trodAll_mk1 (shut_bool ht _)
 ·rw [hfn']; exact below_trodAll hl bel _ _ _ _ hr hA hlt
 ·rw [hfn', hv]; exact hV
theorem law_lifted {C : Checked} {os : Os} {f : FuncId} {fn : Func} {s : ChangeSpec} {t : TypeId} (hl : laidOutB C.prog = true)
  (hv : s.vars = []) (hf : ∀ ds : List (DataW H), ds.length = fn.params.size → s.fn H ds = { results := [.lit (.bool true)], args := ds }) (hrt : fn.resultTypes = #[t]) (ht : C.prog.underlying t = some .bool)
  (hr : (fn.params.toList.all fun t => C.prog.readableRec t && decide (t < C.prog.types.size)) = true)
  (own : ownKnob C.prog.godebug = none) (started : os.Started) (noInit : C.prog.inits.idxOf? f = none) (hfn : C.prog.funcs[f]? = some fn)
  (witness : ∃ (w : World) (tape : Tape) (i : Input), w.os = os ∧ (w.forCall tape i).Shaped C.prog ∧ i.vars = [] ∧ Input.okWide C.prog (w.forCall tape i) .any w.heap.size f i ∧
   s.pre6 enc C.prog fn [] false (w.forCall tape i).memory i.args ∧ ({} : Assume).holds C.prog (lone (Frame.enter C.prog f i.args .normal) [] (w.forCall tape i)))
  (contract : ∀ (W : World) (base : Nat) (args : Array Value) (ds : List (DataW H)) (p : List MemPlace),
   (∀ (j : Nat) t v, fn.params[j]? = some t → args[j]? = some v → Value.okWide C.prog W .any base t v) →
   DataW.TrodAll enc C.prog W 0 (fun _ => true) true fn.params.toList args.toList ds p → (∀ x ∈ p, x.block < W.heap.size) →
   Calls C.prog f args W (fun e W' => ∃ r : Bool, e = .returned (.bool r) ∧ (r = true ∧ Pure W W'))) :
  ReturnsInHanded {} C os f .any (s.pre6 enc C.prog fn [] false) (s.post enc C.prog fn false true false false) := by
 refine returnsInHanded_of_change own started noInit hfn witness ?_
 intro W base args ds gs before hval hW _ _
 have hW' := hW
 obtain ⟨p, q, hA, hV, rfl, hfz, hnd⟩ := hW
 refine (contract W base args ds p hval hA (fun x hx => by simpa using hW'.lt x (by simp [hx]))).mono fun e W' ⟨r, he, h1, h2⟩ => ?_
 subst h1
 exact ⟨_, he, law_post hl hv hf hrt ht hr hW' h2⟩
end
end Go.SE
namespace Go.SE
open Go.ChangeShapes Go.WideShapes Go.ChangeAt Go.RowKit
section
variable {P : Program} {W : World} {r : Reach} {b0 : Nat} {t : TypeId} {v : Value}
theorem okWide_cells {fs : Array Field} {ts : List TypeId} (ht : P.underlying t = some (.struct fs)) (hc : P.cellTypes P.depth t = some ts) (hn : P.cellsOf t = ts.length) (h : Value.okWide P W r b0 t v) :
  ∃ cs : Array Value, v = .agg cs ∧ cs.size = ts.length ∧ ∀ (i : Nat) (u : TypeId) (c : Value), ts[i]? = some u → cs[i]? = some c → Cell.okWide P W r b0 u c := by
 unfold Value.okWide at h
 rw [ht] at h
 obtain ⟨cs, rfl, hs, ts', hts, _, hall⟩ := h
 rw [hc] at hts
 cases hts
 refine ⟨cs, rfl, hs.trans hn, fun i u c hu hcs => ?_⟩
 obtain ⟨u', hu', hok⟩ := hall i c hcs
 have hlt : i < ts.length := (List.getElem?_eq_some_iff.1 hu).1
 rw [Nat.mod_eq_of_lt hlt, hu] at hu'
 cases hu'
 exact hok
theorem cell_okInt {k : IntKind} (ht : P.underlying t = some (.int k)) (h : Cell.okWide P W r b0 t v) : ∃ n, v = .int k n :=
 okWide_int ht (by unfold Value.okWide; rw [ht]; exact h)
theorem cell_okString (ht : P.underlying t = some .string) (h : Cell.okWide P W r b0 t v) : ∃ x, v = .string x := by
 have : Value.okWide P W r b0 t v := by unfold Value.okWide; rw [ht]; exact h
 unfold Cell.okWide at h
 rw [ht] at h
 cases v <;> simp [Cell.ok, ht] at h
 exact ⟨_, rfl⟩
theorem okWide_sl {e : TypeId} (ht : P.underlying t = some (.slice e)) (h : Value.okWide P W r b0 t v) : ∃ a n c, v = .slice a n c := by
 unfold Value.okWide at h
 rw [ht] at h
 simp only at h
 unfold Cell.okWide at h
 rw [ht] at h
 cases v <;> simp [Cell.ok, ht] at h
 exact ⟨_, _, _, rfl⟩
end
end Go.SE
end
section
open Go Go.SE
namespace Go.Proofs
theorem mapM_facts {α β : Type} {f : α → Option β} : ∀ {l : List α} {r : List β}, l.mapM f = some r → r.length = l.length ∧ ∀ (i : Nat) (a : α), l[i]? = some a → ∃ b, f a = some b ∧ r[i]? = some b
 | [], r, h => by
  have : r = [] := by simpa using h.symm
  subst this
  exact ⟨rfl, fun i a h => by simp at h⟩
 | x :: xs, r, h => by
  rw [List.mapM_cons] at h
  cases hx : f x with
  | none => simp [hx] at h
  | some y =>
   cases hxs : xs.mapM f with
   | none => simp [hx, hxs] at h
   | some ys =>
    have : r = y :: ys := by simpa [hx, hxs] using h.symm
    subst this
    obtain ⟨h1, h2⟩ := mapM_facts hxs
    refine ⟨by simp [h1], fun i a ha => ?_⟩
    cases i with
    | zero => cases ha; exact ⟨y, hx, rfl⟩
    | succ i => exact h2 i a (by simpa using ha)
theorem cells_row {w : World} {base : Nat} {a : Addr} {n : Nat} {cs : List Value} (h : w.cells? base a n = some cs) : cs.length = n ∧ Row w a cs := by
 obtain ⟨_, h1, h2⟩ := World.cells?_some h
 exact ⟨h1, fun j hj => h2 j (by omega)⟩
section
variable {H : Type} {enc : TypeId × Value → H} {P : Program} {W : World} {base : Nat} {sp : Nat → Bool} {held : Bool}
theorem trod_int1 {t : TypeId} {k : IntKind} (ht : P.underlying t = some (.int k)) {n : Nat} {c : Value} {x : DataW H × List MemPlace} (h : DataW.trod enc P W base sp held n t [c] = some x) : ∃ m, c = .int k m := by
 cases n with
 | zero => cases h
 | succ n =>
  rw [DataW.trod_step] at h
  unfold DataW.trodStep at h
  rw [ht] at h
  cases c <;> simp at h
  obtain ⟨⟨rfl, _⟩, _⟩ := h
  exact ⟨_, rfl⟩
theorem trod_str1 {t : TypeId} (ht : P.underlying t = some .string) {n : Nat} {c : Value} {x : DataW H × List MemPlace} (h : DataW.trod enc P W base sp held n t [c] = some x) : ∃ m, c = .string m := by
 cases n with
 | zero => cases h
 | succ n =>
  rw [DataW.trod_step] at h
  unfold DataW.trodStep at h
  rw [ht] at h
  cases c <;> simp at h
  exact ⟨_, rfl⟩
theorem trod_slice1 {t e : TypeId} (ht : P.underlying t = some (.slice e)) {n : Nat} {c : Value} {x : DataW H × List MemPlace} (h : DataW.trod enc P W base sp held (n + 1) t [c] = some x) :
  c = .slice none 0 0 ∨ ∃ a len cap, c = .slice (some a) len cap ∧ len ≤ cap ∧ cap ≤ maxLen ∧ ∀ i, i < len → ∃ cs y, W.cells? base (a.add (i * P.cellsOf e)) (P.cellsOf e) = some cs ∧ DataW.trod enc P W base sp held n e cs = some y := by
 rw [DataW.trod_step] at h
 unfold DataW.trodStep at h
 rw [ht] at h
 cases c with
 | slice a len cap =>
  cases a with
  | none =>
   cases len with
   | zero => cases cap with
    | zero => exact .inl rfl
    | succ c => simp at h
   | succ l => simp at h
  | some a =>
   right
   simp only at h
   split at h
   ·rename_i hc
    refine ⟨a, len, cap, rfl, hc.2.1, hc.2.2, fun i hi => ?_⟩
    cases hm : (List.range len).mapM fun i => (W.cells? base (a.add (i * P.cellsOf e)) (P.cellsOf e)).bind (DataW.trod enc P W base sp held n e) with
    | none => rw [hm] at h; cases h
    | some r =>
     obtain ⟨b, hb, _⟩ := (mapM_facts hm).2 i i (by simp [hi])
     obtain ⟨cs, h1, h2⟩ := Option.bind_eq_some_iff.1 hb
     exact ⟨cs, b, h1, h2⟩
   ·cases h
 | _ => simp at h
structure TreeTypes (P : Program) (tS tT : TypeId) : Prop where
 ex : ∃ ti tu ts : TypeId, ∃ f0 f1 f2 f3 f4 f5 : Field, P.underlying tS = some (.slice tT) ∧ P.underlying tT = some (.struct #[f0, f1, f2, f3, f4, f5]) ∧ P.cellsOf tT = 6 ∧
  (f0.type = ti ∧ f1.type = ti ∧ f2.type = ti ∧ f3.type = tu ∧ f4.type = ts ∧ f5.type = tS) ∧ (f0.offset = 0 ∧ f1.offset = 1 ∧ f2.offset = 2 ∧ f3.offset = 3 ∧ f4.offset = 4 ∧ f5.offset = 5) ∧
  P.underlying ti = some (.int .i64) ∧ P.underlying tu = some (.int .u64) ∧ P.underlying ts = some .string ∧ P.cellsOf ti = 1 ∧ P.cellsOf tu = 1 ∧ P.cellsOf ts = 1 ∧ P.cellsOf tS = 1
theorem trod_tree {tS tT : TypeId} (hTT : TreeTypes P tS tT) : ∀ n : Nat,
  (∀ (c : Value) (x : DataW H × List MemPlace), DataW.trod enc P W base sp held n tS [c] = some x → ∃ s : Sl, ∃ ts : List Sp.Tree, c = s.v ∧ ∀ (k f t u : Int) (tx : ByteArray), TreeAt (fun _ => True) W s (.mk k f t u tx ts)) ∧
  (∀ (cs : List Value) (x : DataW H × List MemPlace), DataW.trod enc P W base sp held n tT cs = some x → ∃ t s, cs = trow t s ∧ TreeAt (fun _ => True) W s t) := by
 obtain ⟨ti, tu, tx, f0, f1, f2, f3, f4, f5, hS, hT, hc6, ⟨e0, e1, e2, e3, e4, e5⟩, ⟨o0, o1, o2, o3, o4, o5⟩, ui, uu, us, ci, cu, cs1, cS⟩ := hTT.ex
 intro n
 induction n with
 | zero => exact ⟨fun c x h => (by cases h), fun cs x h => (by cases h)⟩
 | succ n ih =>
  refine ⟨fun c x h => ?_, fun cs x h => ?_⟩
  ·rcases trod_slice1 hS h with rfl | ⟨a, len, cap, rfl, hle, hcm, hel⟩
   ·exact ⟨Sl.nil, [], rfl, fun k f t u tx => .mk k f t u tx [] Sl.nil (fun _ => Sl.nil) rfl (by simp) (fun i h => by simp at h) (fun i h => by simp at h)⟩
   ·rw [hc6] at hel
    have hex : ∀ i, ∃ q : Sp.Tree × Sl, i < len → Row W (a.add (i * 6)) (trow q.1 q.2) ∧ TreeAt (fun _ => True) W q.2 q.1 := by
     intro i
     by_cases hi : i < len
     ·obtain ⟨cs, y, h1, h2⟩ := hel i hi
      obtain ⟨tr, s, e, hTr⟩ := ih.2 cs y h2
      exact ⟨(tr, s), fun _ => ⟨e ▸ (cells_row h1).2, hTr⟩⟩
     ·exact ⟨(Sp.Tree.mk 0 0 0 0 ⟨#[]⟩ [], Sl.nil), fun h => absurd h hi⟩
    obtain ⟨q, hq⟩ := Classical.axiomOfChoice hex
    refine ⟨⟨some a, len, cap⟩, (List.range len).map fun i => (q i).1, rfl, fun k f t u tx => .mk k f t u tx _ _ (fun i => (q i).2) (by simp) (by simp only [maxLen] at hcm; simp; omega) (fun i h => ?_) (fun i h => ?_)⟩
    ·have hi : i < len := by simpa using h
     refine ⟨a.add (i * 6), ⟨by omega, by simpa using hi, a, rfl, by simp⟩, trivial, ?_⟩
     simpa using (hq i hi).1
    ·have hi : i < len := by simpa using h
     simpa using (hq i hi).2
  ·rw [DataW.trod_step] at h
   unfold DataW.trodStep at h
   rw [hT] at h
   simp only at h
   split at h
   ·rename_i hl
    rw [hc6] at hl
    match cs, hl with
    | [c0, c1, c2, c3, c4, c5], _ =>
     cases hm : ([f0, f1, f2, f3, f4, f5] : List Field).mapM (fun f => DataW.trod enc P W base sp held n f.type ((([c0, c1, c2, c3, c4, c5] : List Value).drop f.offset).take (P.cellsOf f.type))) with
     | none => rw [hm] at h; cases h
     | some r =>
      have hf := (mapM_facts hm).2
      obtain ⟨_, h0, _⟩ := hf 0 f0 rfl
      obtain ⟨_, h1, _⟩ := hf 1 f1 rfl
      obtain ⟨_, h2, _⟩ := hf 2 f2 rfl
      obtain ⟨_, h3, _⟩ := hf 3 f3 rfl
      obtain ⟨_, h4, _⟩ := hf 4 f4 rfl
      obtain ⟨_, h5, _⟩ := hf 5 f5 rfl
      rw [e0, o0, ci] at h0; rw [e1, o1, ci] at h1; rw [e2, o2, ci] at h2; rw [e3, o3, cu] at h3; rw [e4, o4, cs1] at h4; rw [e5, o5, cS] at h5
      obtain ⟨m0, rfl⟩ := trod_int1 ui h0
      obtain ⟨m1, rfl⟩ := trod_int1 ui h1
      obtain ⟨m2, rfl⟩ := trod_int1 ui h2
      obtain ⟨m3, rfl⟩ := trod_int1 uu h3
      obtain ⟨m4, rfl⟩ := trod_str1 us h4
      obtain ⟨s, ts, rfl, hTr⟩ := ih.1 c5 _ h5
      exact ⟨.mk m0 m1 m2 m3 m4 ts, s, rfl, hTr m0 m1 m2 m3 m4⟩
   ·cases h
theorem trees_of_trod {tS tT : TypeId} (hTT : TreeTypes P tS tT) {v : Value} {d : DataW H} {ps : List MemPlace} (h : DataW.Trod enc P W base sp held tS v d ps) (hv : ∃ a n c, v = .slice a n c) :
  ∃ s : Sl, ∃ ts : List Sp.Tree, v = s.v ∧ TreeAt (fun b => b < W.heap.size) W s (.mk 0 0 0 0 ⟨#[]⟩ ts) := by
 obtain ⟨n, h⟩ := h
 obtain ⟨a, m, c, rfl⟩ := hv
 obtain ⟨s, ts, e, hT⟩ := (trod_tree hTT n).1 _ _ h
 exact ⟨s, ts, e, (hT 0 0 0 0 ⟨#[]⟩).lt.mono (fun b hb => hb.2)⟩
end
theorem treeTypes : TreeTypes Try.prog 22 116 :=
 ⟨3, 38, 9, _, _, _, _, _, _, Try.underlying22, Try.underlying116, by kernel_rfl, ⟨rfl, rfl, rfl, rfl, rfl, rfl⟩, ⟨rfl, rfl, rfl, rfl, rfl, rfl⟩, Try.underlying3, Try.underlying38, Try.underlying9, by kernel_rfl, by kernel_rfl, by kernel_rfl, by kernel_rfl⟩
end Go.Proofs
end
