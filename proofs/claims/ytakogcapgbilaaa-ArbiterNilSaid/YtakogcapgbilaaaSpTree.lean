/- Plain: trees, their look, what makes their terms. -/
import Derived.Test.YtakogcapgbilaaaSpPool
namespace Go.Sp
inductive Tree where
  | mk (k f t u : Int) (x : ByteArray) (kids : List Tree)
def Tree.kids : Tree → List Tree | .mk _ _ _ _ _ ks => ks
def Tree.node : Tree → Node | .mk k f t u x _ => ⟨k, f, t, u, x, 0, 0⟩

theorem Tree.ind {P : Tree → Prop} (h : ∀ k f t u x (ks : List Tree), (∀ i (hi : i < ks.length), P ks[i]) → P (.mk k f t u x ks)) (t : Tree) : P t := by
  refine Tree.rec (motive_1 := P) (motive_2 := fun ks => ∀ i (hi : i < ks.length), P ks[i]) ?_ ?_ ?_ t
  · intro k f t u x ks ih; exact h _ _ _ _ _ _ ih
  · intro i hi; simp at hi
  · intro t ks ht hks i hi
    cases i with
    | zero => exact ht
    | succ i => exact hks i (by simpa using hi)

/-- The error of a tree's own node. -/
def ownErr (n : Node) (len : Nat) : Int :=
  let e := if plainErr n = 0 then if (len : Int) ≠ (shapeOf n.kind).kids then 53 else 0 else plainErr n
  if e = 0 then fieldsErr (shapeOf n.kind) n else e
mutual
/-- the first error, nodes seen -/
def looks (inside seen : Int) : Tree → Int × Int
  | .mk k f t u x ks => if 4096 ≤ seen then (52, seen) else if 64 ≤ inside then (52, seen) else looksAll (inside + 1) (ownErr ⟨k, f, t, u, x, 0, 0⟩ ks.length) (seen + 1) ks
def looksAll (inside e seen : Int) : List Tree → Int × Int
  | [] => (e, seen)
  | t :: ts => if e = 0 then looksAll inside (looks inside seen t).1 (looks inside seen t).2 ts else (e, seen)
end
mutual
/-- term, error, the pool behind it -/
def grow (L : Pool) : Tree → Int × Int × Pool
  | .mk k f t u x ks => growAll ⟨k, f, t, u, x, 0, 0⟩ 0 L ks
def growAll (n : Node) (i : Nat) (L : Pool) : List Tree → Int × Int × Pool
  | [] => make L n
  | t :: ts => if (grow L t).2.1 ≠ 0 then (0, (grow L t).2.1, (grow L t).2.2) else growAll (if i = 0 then { n with a := (grow L t).1 } else { n with b := (grow L t).1 }) (i + 1) (grow L t).2.2 ts
end
/-- term, error, the pool behind it -/
def of (L : Pool) (t : Tree) : Int × Int × Pool :=
  if (looks 0 0 t).1 ≠ 0 then (0, (looks 0 0 t).1, L)
  else if (grow L t).2.1 ≠ 0 then (0, (grow L t).2.1, L) else ((grow L t).1, 0, (grow L t).2.2)

theorem make_grows (L : Pool) (n : Node) : ∃ M, (make L n).2.2 = L ++ M := by
  unfold make
  simp only
  by_cases hc : (check L n).2.2 = 0
  · simp only [hc]
    rw [if_neg (by simp)]
    split
    · exact ⟨[], by simp⟩
    · split
      · exact ⟨[], by simp⟩
      · exact ⟨_, rfl⟩
  · rw [if_pos hc]; exact ⟨[], by simp⟩
theorem check_ok {L : Pool} {n : Node} (hok : Ok L) (h : (check L n).2.2 = 0) : 1 ≤ (check L n).1 ∧ (check L n).1 ≤ 4096 ∧ 1 ≤ (check L n).2.1 ∧ (check L n).2.1 ≤ 64 := by
  unfold check at h ⊢
  simp only at h ⊢
  by_cases h1 : plainErr n ≠ 0
  · rw [if_pos h1] at h; exact absurd h h1
  rw [if_neg h1] at h ⊢
  split at h
  · simp at h
  rename_i h2; rw [if_neg h2]
  by_cases h3 : fieldsErr (shapeOf n.kind) n ≠ 0
  · rw [if_pos h3] at h; exact absurd h h3
  rw [if_neg h3] at h ⊢
  split at h
  · simp at h
  rename_i h4; rw [if_neg h4]
  split at h
  · simp at h
  rename_i h5; rw [if_neg h5]
  have hs : ∀ l : List Int, 0 ≤ (l.map (sizeOf L)).sum := by
    intro l
    induction l with
    | nil => simp
    | cons y l ih => have := hok.sizeOf y; simp only [List.map_cons, List.sum_cons]; omega
  have hd : ∀ (l : List Int) (d : Int), 0 ≤ d → 0 ≤ l.foldl (fun d t => max d (depthOf L t)) d := by
    intro l
    induction l with
    | nil => intro d h; exact h
    | cons y l ih => intro d h; exact ih (max d (depthOf L y)) (by omega)
  have := hs (kidsOf n)
  have := hd (kidsOf n) 0 (by omega)
  simp only
  omega
theorem make_ok {L : Pool} (hok : Ok L) (n : Node) : Ok (make L n).2.2 := by
  by_cases hc : (check L n).2.2 = 0
  · have := check_ok hok hc
    unfold make
    simp only [hc]
    rw [if_neg (by simp)]
    split
    · exact hok
    · rename_i hf
      split
      · exact hok
      · rename_i hl
        refine ⟨by simp; omega, ?_, ?_, ?_⟩
        · rw [List.map_append, List.nodup_append]
          refine ⟨hok.nodup, by simp, ?_⟩
          intro a ha b hb
          simp only [List.map_cons, List.map_nil, List.mem_singleton] at hb
          subst hb
          obtain ⟨e, he, rfl⟩ := List.mem_map.1 ha
          unfold find at hf
          rw [List.findIdx?_eq_none_iff] at hf
          simpa using hf e he
        · intro e he
          rcases List.mem_append.1 he with h | h
          · exact hok.size e h
          · simp only [List.mem_singleton] at h; subst h; simp; omega
        · intro e he
          rcases List.mem_append.1 he with h | h
          · exact hok.depth e h
          · simp only [List.mem_singleton] at h; subst h; simp; omega
  · unfold make
    simp only
    rw [if_pos hc]; exact hok
theorem grow_facts (t : Tree) : ∀ L, Ok L → Ok (grow L t).2.2 ∧ ∃ M, (grow L t).2.2 = L ++ M := by
  induction t using Tree.ind with
  | h k f t u x ks ih =>
    have : ∀ (ks : List Tree), (∀ i (hi : i < ks.length), ∀ L, Ok L → Ok (grow L ks[i]).2.2 ∧ ∃ M, (grow L ks[i]).2.2 = L ++ M) → ∀ n i L, Ok L → Ok (growAll n i L ks).2.2 ∧ ∃ M, (growAll n i L ks).2.2 = L ++ M := by
      intro ks
      induction ks with
      | nil => intro _ n i L h; unfold growAll; exact ⟨make_ok h n, make_grows L n⟩
      | cons t ts iht =>
        intro hh n i L h
        have h0 := hh 0 (by simp) L h
        simp only [List.getElem_cons_zero] at h0
        unfold growAll
        split
        · exact h0
        · obtain ⟨ho, M, hM⟩ := h0
          have := iht (fun i hi => hh (i + 1) (by simpa using hi)) (if i = 0 then { n with a := (grow L t).1 } else { n with b := (grow L t).1 }) (i + 1) (grow L t).2.2 ho
          refine ⟨this.1, ?_⟩
          obtain ⟨M2, hM2⟩ := this.2
          exact ⟨M ++ M2, by rw [hM2, hM, List.append_assoc]⟩
    intro L h
    unfold grow
    exact this ks ih _ _ L h
theorem of_ok {L : Pool} (hok : Ok L) (t : Tree) : Ok (of L t).2.2 := by
  unfold of
  split
  · exact hok
  · split
    · exact hok
    · exact (grow_facts t L hok).1
end Go.Sp
