import Derived.Test.YtcldldjildmdlaaPa1
import Derived.Test.YtcldldjildmdlaaPa0
import Derived.Test.YtcldldjildmdlaaProg
import Derived.KernelRfl
import Derived.IntWalk
section
open Go Go.SE
namespace Go.Proofs
attribute [local irreducible] Calls CallsD
section
variable {S : NP} (a q : Addr) (s : Sl) (bs : List UInt8) (r : Rd) (cells : List Value) (w0 : World) (h : RdS S w0 a s bs r) (hat : r.at_ ≤ bs.length) (hS : ∀ b, S b → b < w0.heap.size) (hq : Box w0 q cells 227) (hl : cells.length = 12) (haq : a.block ≠ q.block) (hSq : ∀ b, S b → b ≠ q.block)
include h hat hS hq hl haq hSq
theorem c_getFrom : Calls Try.prog 168 #[.pointer (some a), .pointer (some q)] w0 (fun e w' => e = .returned (.tuple #[]) ∧ RdS S w' a s bs (rNum bs r).2 ∧ Box w' q (cells.set 7 (.int .u64 ((rNum bs r).1 : Int))) 227 ∧ Ext (fun b => b = a.block ∨ b = q.block) w0 w') := by
 refine w_O1 (some a) (some q) w0 (fun w' => RdS S w' a s bs (rNum bs r).2 ∧ Box w' q (cells.set 7 (.int .u64 ((rNum bs r).1 : Int))) 227 ∧ Ext (fun b => b = a.block ∨ b = q.block) w0 w') ?_
 unfold m_O1
 refine (c_RNum a s bs r w0 h hat hS).mono ?_
 rintro e w1 ⟨x, rfl, rfl, hR, hE⟩
 have hq1 := hq.ext hE (fun e => haq e.symm)
 refine ⟨_, rfl, q, rfl, hq1.canW (i := 7) (by omega), ?_⟩
 rintro w2 rfl
 have hx : Ext (· = q.block) w1 (w1.setCell (q.add 7) (.int .u64 ((rNum bs r).1 : Int))) := ext_set
 exact ⟨hR.ext hx (fun b hb e => hSq b hb e) haq, hq1.set 7 _, (hE.mono (fun _ _ e => .inl e)).trans (hx.mono (fun _ _ e => .inr e))⟩
theorem c_getTo : Calls Try.prog 171 #[.pointer (some a), .pointer (some q)] w0 (fun e w' => e = .returned (.tuple #[]) ∧ RdS S w' a s bs (rNum bs r).2 ∧ Box w' q (cells.set 8 (.int .u64 ((rNum bs r).1 : Int))) 227 ∧ Ext (fun b => b = a.block ∨ b = q.block) w0 w') := by
 refine w_Q1 (some a) (some q) w0 (fun w' => RdS S w' a s bs (rNum bs r).2 ∧ Box w' q (cells.set 8 (.int .u64 ((rNum bs r).1 : Int))) 227 ∧ Ext (fun b => b = a.block ∨ b = q.block) w0 w') ?_
 unfold m_Q1
 refine (c_RNum a s bs r w0 h hat hS).mono ?_
 rintro e w1 ⟨x, rfl, rfl, hR, hE⟩
 have hq1 := hq.ext hE (fun e => haq e.symm)
 refine ⟨_, rfl, q, rfl, hq1.canW (i := 8) (by omega), ?_⟩
 rintro w2 rfl
 have hx : Ext (· = q.block) w1 (w1.setCell (q.add 8) (.int .u64 ((rNum bs r).1 : Int))) := ext_set
 exact ⟨hR.ext hx (fun b hb e => hSq b hb e) haq, hq1.set 8 _, (hE.mono (fun _ _ e => .inl e)).trans (hx.mono (fun _ _ e => .inr e))⟩
theorem c_getNum : Calls Try.prog 173 #[.pointer (some a), .pointer (some q)] w0 (fun e w' => e = .returned (.tuple #[]) ∧ RdS S w' a s bs (rNum bs r).2 ∧ Box w' q (cells.set 3 (.int .u64 ((rNum bs r).1 : Int))) 227 ∧ Ext (fun b => b = a.block ∨ b = q.block) w0 w') := by
 refine w_S1 (some a) (some q) w0 (fun w' => RdS S w' a s bs (rNum bs r).2 ∧ Box w' q (cells.set 3 (.int .u64 ((rNum bs r).1 : Int))) 227 ∧ Ext (fun b => b = a.block ∨ b = q.block) w0 w') ?_
 unfold m_S1
 refine (c_RNum a s bs r w0 h hat hS).mono ?_
 rintro e w1 ⟨x, rfl, rfl, hR, hE⟩
 have hq1 := hq.ext hE (fun e => haq e.symm)
 refine ⟨_, rfl, q, rfl, hq1.canW (i := 3) (by omega), ?_⟩
 rintro w2 rfl
 have hx : Ext (· = q.block) w1 (w1.setCell (q.add 3) (.int .u64 ((rNum bs r).1 : Int))) := ext_set
 exact ⟨hR.ext hx (fun b hb e => hSq b hb e) haq, hq1.set 3 _, (hE.mono (fun _ _ e => .inl e)).trans (hx.mono (fun _ _ e => .inr e))⟩
theorem c_getText : Calls Try.prog 176 #[.pointer (some a), .pointer (some q)] w0 (fun e w' => e = .returned (.tuple #[]) ∧ RdS S w' a s bs (rText bs 64 r).2 ∧ Box w' q (cells.set 4 (.string ⟨(rText bs 64 r).1.toArray⟩)) 227 ∧ Ext (fun b => b = a.block ∨ b = q.block) w0 w') := by
 refine w_W1 (some a) (some q) w0 (fun w' => RdS S w' a s bs (rText bs 64 r).2 ∧ Box w' q (cells.set 4 (.string ⟨(rText bs 64 r).1.toArray⟩)) 227 ∧ Ext (fun b => b = a.block ∨ b = q.block) w0 w') ?_
 unfold m_W1
 refine (c_Text a s bs 64 r w0 h hat hS (by omega)).mono ?_
 rintro e w1 ⟨x, rfl, rfl, hR, hE⟩
 have hq1 := hq.ext hE (fun e => haq e.symm)
 refine ⟨_, rfl, q, rfl, hq1.canW (i := 4) (by omega), ?_⟩
 rintro w2 rfl
 have hx : Ext (· = q.block) w1 (w1.setCell (q.add 4) (.string ⟨(rText bs 64 r).1.toArray⟩)) := ext_set
 exact ⟨hR.ext hx (fun b hb e => hSq b hb e) haq, hq1.set 4 _, (hE.mono (fun _ _ e => .inl e)).trans (hx.mono (fun _ _ e => .inr e))⟩
theorem c_getA : Calls Try.prog 179 #[.pointer (some a), .pointer (some q)] w0 (fun e w' => e = .returned (.tuple #[]) ∧ RdS S w' a s bs (rNum bs r).2 ∧ Box w' q ((cells.set 9 (.int .u64 ((rNum bs r).1 : Int))).set 11 (.int .i64 1)) 227 ∧ Ext (fun b => b = a.block ∨ b = q.block) w0 w') := by
 refine w_Y1 (some a) (some q) w0 (fun w' => RdS S w' a s bs (rNum bs r).2 ∧ Box w' q ((cells.set 9 (.int .u64 ((rNum bs r).1 : Int))).set 11 (.int .i64 1)) 227 ∧ Ext (fun b => b = a.block ∨ b = q.block) w0 w') ?_
 unfold m_Y1
 refine (c_RNum a s bs r w0 h hat hS).mono ?_
 rintro e w1 ⟨x, rfl, rfl, hR, hE⟩
 have hq1 := hq.ext hE (fun e => haq e.symm)
 refine ⟨_, rfl, q, rfl, hq1.canW (i := 9) (by omega), ?_⟩
 rintro w2 rfl
 have hx : Ext (· = q.block) w1 ((w1.setCell (q.add 9) (.int .u64 ((rNum bs r).1 : Int))).setCell (q.add 11) (.int .i64 1)) := ext_set.trans ext_set
 have hq2 := hq1.set 9 (.int .u64 ((rNum bs r).1 : Int))
 refine ⟨q, rfl, hq2.canW (i := 11) (by rw [List.length_set]; omega), ?_⟩
 rintro w3 rfl
 exact ⟨hR.ext hx (fun b hb e => hSq b hb e) haq, hq2.set 11 _, (hE.mono (fun _ _ e => .inl e)).trans (hx.mono (fun _ _ e => .inr e))⟩
theorem c_getB : Calls Try.prog 181 #[.pointer (some a), .pointer (some q)] w0 (fun e w' => e = .returned (.tuple #[]) ∧ RdS S w' a s bs (rNum bs r).2 ∧ Box w' q ((cells.set 10 (.int .u64 ((rNum bs r).1 : Int))).set 11 (.int .i64 2)) 227 ∧ Ext (fun b => b = a.block ∨ b = q.block) w0 w') := by
 refine w_A2 (some a) (some q) w0 (fun w' => RdS S w' a s bs (rNum bs r).2 ∧ Box w' q ((cells.set 10 (.int .u64 ((rNum bs r).1 : Int))).set 11 (.int .i64 2)) 227 ∧ Ext (fun b => b = a.block ∨ b = q.block) w0 w') ?_
 unfold m_A2
 refine (c_RNum a s bs r w0 h hat hS).mono ?_
 rintro e w1 ⟨x, rfl, rfl, hR, hE⟩
 have hq1 := hq.ext hE (fun e => haq e.symm)
 refine ⟨_, rfl, q, rfl, hq1.canW (i := 10) (by omega), ?_⟩
 rintro w2 rfl
 have hx : Ext (· = q.block) w1 ((w1.setCell (q.add 10) (.int .u64 ((rNum bs r).1 : Int))).setCell (q.add 11) (.int .i64 2)) := ext_set.trans ext_set
 have hq2 := hq1.set 10 (.int .u64 ((rNum bs r).1 : Int))
 refine ⟨q, rfl, hq2.canW (i := 11) (by rw [List.length_set]; omega), ?_⟩
 rintro w3 rfl
 exact ⟨hR.ext hx (fun b hb e => hSq b hb e) haq, hq2.set 11 _, (hE.mono (fun _ _ e => .inl e)).trans (hx.mono (fun _ _ e => .inr e))⟩
end
end Go.Proofs
end
section
namespace Go.Sp
structure Node where
 kind : Int
 frm : Int
 to : Int
 num : Int
 text : ByteArray
 a : Int
 b : Int
deriving DecidableEq
structure Shape where
 frm : Bool
 to : Bool
 num : Bool
 text : Bool
 kids : Int
deriving DecidableEq
def noShape : Shape := ⟨false, false, false, false, 0⟩
def shapeOf (k : Int) : Shape :=
 if k = 1 then ⟨true, false, false, false, 0⟩ else if k = 2 then ⟨false, false, true, false, 0⟩ else if k = 3 then ⟨false, false, false, true, 0⟩
 else if k = 4 then ⟨false, false, false, false, 2⟩ else if k = 5 then ⟨false, false, false, false, 1⟩ else if k = 6 then ⟨true, false, false, false, 0⟩
 else if k = 7 then ⟨true, false, false, false, 1⟩ else if k = 8 then ⟨true, true, false, false, 1⟩ else if k = 9 then ⟨true, true, false, false, 1⟩ else noShape
def isKind (k : Int) : Bool := decide (1 ≤ k) && decide (k ≤ 9)
def isName (n : Int) : Bool := decide (0 ≤ n) && decide (n < 16)
def plainErr (n : Node) : Int :=
 let s := shapeOf n.kind
 if !isKind n.kind || (!s.frm && n.frm != 0) || (!s.to && n.to != 0) || (!s.num && n.num != 0) || (!s.text && !decide (n.text = ⟨#[]⟩)) then 53 else 0
def fieldsErr (s : Shape) (n : Node) : Int :=
 if (s.frm && !isName n.frm) || (s.to && (!isName n.to || n.to == n.frm)) then 50 else if n.text.size > 64 then 1 else 0
end Go.Sp
end
section
namespace Go.Sp
structure Ent where
 node : Node
 size : Int
 depth : Int
deriving DecidableEq
abbrev Pool := List Ent
def inP (L : Pool) (t : Int) : Bool := decide (1 ≤ t) && decide (t ≤ L.length)
def get (L : Pool) (t : Int) : Option Ent := if inP L t then L[(t - 1).toNat]? else none
def sizeOf (L : Pool) (t : Int) : Int := ((get L t).map (·.size)).getD 0
def depthOf (L : Pool) (t : Int) : Int := ((get L t).map (·.depth)).getD 0
def noNode : Node := ⟨0, 0, 0, 0, ⟨#[]⟩, 0, 0⟩
def nodeOf (L : Pool) (t : Int) : Node := ((get L t).map (·.node)).getD noNode
def kidsOf (n : Node) : List Int := [n.a, n.b].take (shapeOf n.kind).kids.toNat
def check (L : Pool) (n : Node) : Int × Int × Int :=
 let s := shapeOf n.kind
 if plainErr n ≠ 0 then (0, 0, plainErr n)
 else if (decide (s.kids < 1) && n.a != 0) || (decide (s.kids < 2) && n.b != 0) then (0, 0, 53)
 else if fieldsErr s n ≠ 0 then (0, 0, fieldsErr s n)
 else if (kidsOf n).any (fun t => !inP L t) then (0, 0, 51)
 else
  let sz := 1 + ((kidsOf n).map (sizeOf L)).sum
  let d := (kidsOf n).foldl (fun d t => max d (depthOf L t)) 0 + 1
  if sz > 4096 ∨ d > 64 then (0, 0, 52) else (sz, d, 0)
def find (L : Pool) (n : Node) : Option Nat := L.findIdx? (fun e => e.node = n)
def make (L : Pool) (n : Node) : Int × Int × Pool :=
 let c := check L n
 if c.2.2 ≠ 0 then (0, c.2.2, L)
 else match find L n with
  | some i => (i + 1, 0, L)
  | none => if 65536 ≤ L.length then (0, 6, L) else (L.length + 1, 0, L ++ [⟨n, c.1, c.2.1⟩])
structure Ok (L : Pool) : Prop where
 few : L.length ≤ 65536
 nodup : (L.map (·.node)).Nodup
 size : ∀ e ∈ L, 1 ≤ e.size ∧ e.size ≤ 4096
 depth : ∀ e ∈ L, 1 ≤ e.depth ∧ e.depth ≤ 64
theorem inP_iff {L : Pool} {t : Int} : inP L t = true ↔ 1 ≤ t ∧ t ≤ L.length := by simp [inP]
theorem get_some {L : Pool} {t : Int} (h : inP L t = true) : ∃ e, get L t = some e ∧ e ∈ L ∧ ∃ hi : (t - 1).toNat < L.length, L[(t - 1).toNat] = e := by
 obtain ⟨h1, h2⟩ := inP_iff.1 h
 have hi : (t - 1).toNat < L.length := by omega
 exact ⟨L[(t - 1).toNat], by simp [get, h], List.getElem_mem hi, hi, rfl⟩
theorem get_none {L : Pool} {t : Int} (h : inP L t = false) : get L t = none := by simp [get, h]
theorem Ok.sizeOf {L : Pool} (h : Ok L) (t : Int) : 0 ≤ sizeOf L t ∧ sizeOf L t ≤ 4096 := by
 cases ht : inP L t with
 | true => obtain ⟨e, he, hm, _⟩ := get_some ht; have := h.size e hm; simp [Sp.sizeOf, he]; omega
 | false => simp [Sp.sizeOf, get_none ht]
theorem Ok.depthOf {L : Pool} (h : Ok L) (t : Int) : 0 ≤ depthOf L t ∧ depthOf L t ≤ 64 := by
 cases ht : inP L t with
 | true => obtain ⟨e, he, hm, _⟩ := get_some ht; have := h.depth e hm; simp [Sp.depthOf, he]; omega
 | false => simp [Sp.depthOf, get_none ht]
theorem Ok.nil : Ok [] := ⟨by simp, by simp, by simp, by simp⟩
theorem kids_le (k : Int) : (shapeOf k).kids = 0 ∨ (shapeOf k).kids = 1 ∨ (shapeOf k).kids = 2 := by
 unfold shapeOf noShape; repeat' split
 all_goals simp
end Go.Sp
end
section
namespace Go.Sp
inductive Tree where
 | mk (k f t u : Int) (x : ByteArray) (kids : List Tree)
def Tree.kids : Tree → List Tree | .mk _ _ _ _ _ ks => ks
def Tree.node : Tree → Node | .mk k f t u x _ => ⟨k, f, t, u, x, 0, 0⟩
theorem Tree.ind {P : Tree → Prop} (h : ∀ k f t u x (ks : List Tree), (∀ i (hi : i < ks.length), P ks[i]) → P (.mk k f t u x ks)) (t : Tree) : P t := by
 refine Tree.rec (motive_1 := P) (motive_2 := fun ks => ∀ i (hi : i < ks.length), P ks[i]) ?_ ?_ ?_ t
 ·intro k f t u x ks ih; exact h _ _ _ _ _ _ ih
 ·intro i hi; simp at hi
 ·intro t ks ht hks i hi
  cases i with
  | zero => exact ht
  | succ i => exact hks i (by simpa using hi)
def ownErr (n : Node) (len : Nat) : Int :=
 let e := if plainErr n = 0 then if (len : Int) ≠ (shapeOf n.kind).kids then 53 else 0 else plainErr n
 if e = 0 then fieldsErr (shapeOf n.kind) n else e
mutual
def looks (inside seen : Int) : Tree → Int × Int
 | .mk k f t u x ks => if 4096 ≤ seen then (52, seen) else if 64 ≤ inside then (52, seen) else looksAll (inside + 1) (ownErr ⟨k, f, t, u, x, 0, 0⟩ ks.length) (seen + 1) ks
def looksAll (inside e seen : Int) : List Tree → Int × Int
 | [] => (e, seen)
 | t :: ts => if e = 0 then looksAll inside (looks inside seen t).1 (looks inside seen t).2 ts else (e, seen)
end
mutual
def grow (L : Pool) : Tree → Int × Int × Pool
 | .mk k f t u x ks => growAll ⟨k, f, t, u, x, 0, 0⟩ 0 L ks
def growAll (n : Node) (i : Nat) (L : Pool) : List Tree → Int × Int × Pool
 | [] => make L n
 | t :: ts => if (grow L t).2.1 ≠ 0 then (0, (grow L t).2.1, (grow L t).2.2) else growAll (if i = 0 then { n with a := (grow L t).1 } else { n with b := (grow L t).1 }) (i + 1) (grow L t).2.2 ts
end
def of (L : Pool) (t : Tree) : Int × Int × Pool :=
 if (looks 0 0 t).1 ≠ 0 then (0, (looks 0 0 t).1, L)
 else if (grow L t).2.1 ≠ 0 then (0, (grow L t).2.1, L) else ((grow L t).1, 0, (grow L t).2.2)
theorem make_grows (L : Pool) (n : Node) : ∃ M, (make L n).2.2 = L ++ M := by
 unfold make
 simp only
 by_cases hc : (check L n).2.2 = 0
 ·simp only [hc]
  rw [if_neg (by simp)]
  split
  ·exact ⟨[], by simp⟩
  ·split
   ·exact ⟨[], by simp⟩
   ·exact ⟨_, rfl⟩
 ·rw [if_pos hc]; exact ⟨[], by simp⟩
theorem check_ok {L : Pool} {n : Node} (hok : Ok L) (h : (check L n).2.2 = 0) : 1 ≤ (check L n).1 ∧ (check L n).1 ≤ 4096 ∧ 1 ≤ (check L n).2.1 ∧ (check L n).2.1 ≤ 64 := by
 unfold check at h ⊢
 simp only at h ⊢
 by_cases h1 : plainErr n ≠ 0
 ·rw [if_pos h1] at h; exact absurd h h1
 rw [if_neg h1] at h ⊢
 split at h
 ·simp at h
 rename_i h2; rw [if_neg h2]
 by_cases h3 : fieldsErr (shapeOf n.kind) n ≠ 0
 ·rw [if_pos h3] at h; exact absurd h h3
 rw [if_neg h3] at h ⊢
 split at h
 ·simp at h
 rename_i h4; rw [if_neg h4]
 split at h
 ·simp at h
 rename_i h5; rw [if_neg h5]
 have hs : ∀ l : List Int, 0 ≤ (l.map (sizeOf L)).sum := by
  intro l
  induction l with
  | nil => simp
  | cons y l ih => have := hok.sizeOf y; simp only [List.map_cons, List.sum_cons]; omega
 have hd : ∀ (l : List Int) (d : Int), 0 ≤ d → 0 ≤ l.foldl (fun d t => max d (depthOf L t)) d := by
  intro l
  induction l with
  | nil => intro d h; exact h
  | cons y l ih => intro d h; exact ih (max d (depthOf L y)) (by omega)
 have := hs (kidsOf n)
 have := hd (kidsOf n) 0 (by omega)
 simp only
 omega
theorem make_ok {L : Pool} (hok : Ok L) (n : Node) : Ok (make L n).2.2 := by
 by_cases hc : (check L n).2.2 = 0
 ·have := check_ok hok hc
  unfold make
  simp only [hc]
  rw [if_neg (by simp)]
  split
  ·exact hok
  ·rename_i hf
   split
   ·exact hok
   ·rename_i hl
    refine ⟨by simp; omega, ?_, ?_, ?_⟩
    ·rw [List.map_append, List.nodup_append]
     refine ⟨hok.nodup, by simp, ?_⟩
     intro a ha b hb
     simp only [List.map_cons, List.map_nil, List.mem_singleton] at hb
     subst hb
     obtain ⟨e, he, rfl⟩ := List.mem_map.1 ha
     unfold find at hf
     rw [List.findIdx?_eq_none_iff] at hf
     simpa using hf e he
    ·intro e he
     rcases List.mem_append.1 he with h | h
     ·exact hok.size e h
     ·simp only [List.mem_singleton] at h; subst h; simp; omega
    ·intro e he
     rcases List.mem_append.1 he with h | h
     ·exact hok.depth e h
     ·simp only [List.mem_singleton] at h; subst h; simp; omega
 ·unfold make
  simp only
  rw [if_pos hc]; exact hok
theorem grow_facts (t : Tree) : ∀ L, Ok L → Ok (grow L t).2.2 ∧ ∃ M, (grow L t).2.2 = L ++ M := by
 induction t using Tree.ind with
 | h k f t u x ks ih =>
  have : ∀ (ks : List Tree), (∀ i (hi : i < ks.length), ∀ L, Ok L → Ok (grow L ks[i]).2.2 ∧ ∃ M, (grow L ks[i]).2.2 = L ++ M) → ∀ n i L, Ok L → Ok (growAll n i L ks).2.2 ∧ ∃ M, (growAll n i L ks).2.2 = L ++ M := by
   intro ks
   induction ks with
   | nil => intro _ n i L h; unfold growAll; exact ⟨make_ok h n, make_grows L n⟩
   | cons t ts iht =>
    intro hh n i L h
    have h0 := hh 0 (by simp) L h
    simp only [List.getElem_cons_zero] at h0
    unfold growAll
    split
    ·exact h0
    ·obtain ⟨ho, M, hM⟩ := h0
     have := iht (fun i hi => hh (i + 1) (by simpa using hi)) (if i = 0 then { n with a := (grow L t).1 } else { n with b := (grow L t).1 }) (i + 1) (grow L t).2.2 ho
     refine ⟨this.1, ?_⟩
     obtain ⟨M2, hM2⟩ := this.2
     exact ⟨M ++ M2, by rw [hM2, hM, List.append_assoc]⟩
  intro L h
  unfold grow
  exact this ks ih _ _ L h
def isNum (n : Int) : Prop := 0 ≤ n ∧ n < 18446744073709551616
inductive NumT : Tree → Prop
 | mk (k f t u : Int) (x : ByteArray) (ks : List Tree) (own : isNum u) (kids : ∀ i (hi : i < ks.length), NumT ks[i]) : NumT (.mk k f t u x ks)
end Go.Sp
end
section
namespace Go.Sp
theorem nodeOf_lt {L : Pool} {i : Nat} (hi : i < L.length) : nodeOf L ((i : Int) + 1) = L[i].node := by
 have h : inP L ((i : Int) + 1) = true := inP_iff.2 ⟨by omega, by omega⟩
 have e : ((i : Int) + 1 - 1).toNat = i := by omega
 simp [nodeOf, get, h, e, hi]
theorem inP_at {L : Pool} {t : Int} (h : inP L t = true) : ∃ i : Nat, i < L.length ∧ t = (i : Int) + 1 := by
 have := inP_iff.1 h
 exact ⟨(t - 1).toNat, by omega, by omega⟩
theorem get_at {L : Pool} {i : Nat} (hi : i < L.length) : get L ((i : Int) + 1) = some L[i] := by
 have h : inP L ((i : Int) + 1) = true := inP_iff.2 ⟨by omega, by omega⟩
 have e : ((i : Int) + 1 - 1).toNat = i := by omega
 simp [get, h, e, hi]
structure Wf (L : Pool) : Prop where
 ok : Ok L
 each : ∀ i (hi : i < L.length), check (L.take i) L[i].node = (L[i].size, L[i].depth, 0)
theorem Wf.nil : Wf [] := ⟨Ok.nil, fun i hi => by simp at hi⟩
theorem check_zero {L : Pool} {n : Node} (h : (check L n).2.2 = 0) : plainErr n = 0 ∧ ((shapeOf n.kind).kids < 1 → n.a = 0) ∧ ((shapeOf n.kind).kids < 2 → n.b = 0) ∧ fieldsErr (shapeOf n.kind) n = 0 ∧ (∀ t ∈ kidsOf n, inP L t = true) ∧
  (check L n).1 = 1 + ((kidsOf n).map (sizeOf L)).sum ∧ (check L n).2.1 = (kidsOf n).foldl (fun d t => max d (depthOf L t)) 0 + 1 ∧ (check L n).1 ≤ 4096 ∧ (check L n).2.1 ≤ 64 := by
 unfold check at h ⊢
 simp only at h ⊢
 by_cases h1 : plainErr n ≠ 0
 ·rw [if_pos h1] at h; exact absurd h h1
 rw [if_neg h1] at h ⊢
 split at h
 ·simp at h
 rename_i h2; rw [if_neg h2]
 by_cases h3 : fieldsErr (shapeOf n.kind) n ≠ 0
 ·rw [if_pos h3] at h; exact absurd h h3
 rw [if_neg h3] at h ⊢
 split at h
 ·simp at h
 rename_i h4; rw [if_neg h4]
 split at h
 ·simp at h
 rename_i h5; rw [if_neg h5]
 simp only [Bool.or_eq_true, Bool.and_eq_true, decide_eq_true_eq, bne_iff_ne, ne_eq, not_or, not_and, Classical.not_not] at h2
 refine ⟨by simpa using h1, h2.1, h2.2, by simpa using h3, fun t ht => ?_, rfl, rfl, by simp only; omega, by simp only; omega⟩
 cases hi : inP L t with
 | true => rfl
 | false => exact absurd (List.any_eq_true.2 ⟨t, ht, by simp [hi]⟩) h4
theorem make_pool (L : Pool) (n : Node) : (make L n).2.2 = L ∨ ((check L n).2.2 = 0 ∧ (make L n).2.2 = L ++ [⟨n, (check L n).1, (check L n).2.1⟩]) := by
 by_cases hc : (check L n).2.2 = 0
 ·unfold make
  simp only [hc]
  rw [if_neg (by simp)]
  split
  ·exact .inl rfl
  ·split
   ·exact .inl rfl
   ·exact .inr ⟨trivial, rfl⟩
 ·unfold make; simp only; rw [if_pos hc]; exact .inl rfl
theorem snoc_each {L : Pool} {e : Ent} (h : ∀ i (hi : i < L.length), check (L.take i) L[i].node = (L[i].size, L[i].depth, 0)) (he : check L e.node = (e.size, e.depth, 0)) : ∀ i (hi : i < (L ++ [e]).length), check ((L ++ [e]).take i) (L ++ [e])[i].node = ((L ++ [e])[i].size, (L ++ [e])[i].depth, 0) := by
 intro i hi
 simp only [List.length_append, List.length_cons, List.length_nil] at hi
 by_cases hlt : i < L.length
 ·simp only [List.getElem_append_left hlt]
  rw [List.take_append_of_le_length (by omega)]
  exact h i hlt
 ·have : i = L.length := by omega
  subst this
  simp only [List.getElem_append_right (Nat.le_refl _), Nat.sub_self, List.getElem_cons_zero]
  rw [List.take_left' rfl]
  exact he
theorem make_wf {L : Pool} (h : Wf L) (n : Node) : Wf (make L n).2.2 := by
 have ho := make_ok h.ok n
 rcases make_pool L n with e | ⟨hc, e⟩
 ·rw [e]; exact h
 ·rw [e] at ho ⊢
  exact ⟨ho, snoc_each h.each (by rw [← hc])⟩
theorem grow_wf (t : Tree) : ∀ L, Wf L → Wf (grow L t).2.2 := by
 induction t using Tree.ind with
 | h k f t u x ks ih =>
  have : ∀ (ks : List Tree), (∀ i (hi : i < ks.length), ∀ L, Wf L → Wf (grow L ks[i]).2.2) → ∀ n i L, Wf L → Wf (growAll n i L ks).2.2 := by
   intro ks
   induction ks with
   | nil => intro _ n i L h; unfold growAll; exact make_wf h n
   | cons t ts iht =>
    intro hh n i L h
    have h0 := hh 0 (by simp) L h
    simp only [List.getElem_cons_zero] at h0
    unfold growAll
    split
    ·exact h0
    ·exact iht (fun i hi => hh (i + 1) (by simpa using hi)) _ _ _ h0
  intro L h
  unfold grow
  exact this ks ih _ _ L h
theorem of_wf {L : Pool} (h : Wf L) (t : Tree) : Wf (of L t).2.2 := by
 unfold of
 split
 ·exact h
 ·split
  ·exact h
  ·exact grow_wf t L h
theorem inP_app {L M : Pool} {t : Int} (h : inP L t = true) : inP (L ++ M) t = true := by
 have := inP_iff.1 h
 exact inP_iff.2 ⟨this.1, by rw [List.length_append]; omega⟩
theorem get_app {L M : Pool} {t : Int} (h : inP L t = true) : get (L ++ M) t = get L t := by
 obtain ⟨i, hi, rfl⟩ := inP_at h
 rw [get_at hi, get_at (by rw [List.length_append]; omega), List.getElem_append_left hi]
theorem nodeOf_app {L M : Pool} {t : Int} (h : inP L t = true) : nodeOf (L ++ M) t = nodeOf L t := by unfold nodeOf; rw [get_app h]
theorem sizeOf_app {L M : Pool} {t : Int} (h : inP L t = true) : sizeOf (L ++ M) t = sizeOf L t := by unfold sizeOf; rw [get_app h]
theorem depthOf_app {L M : Pool} {t : Int} (h : inP L t = true) : depthOf (L ++ M) t = depthOf L t := by unfold depthOf; rw [get_app h]
theorem Wf.node {L : Pool} (h : Wf L) {t : Int} (ht : inP L t = true) : plainErr (nodeOf L t) = 0 ∧ ((shapeOf (nodeOf L t).kind).kids < 1 → (nodeOf L t).a = 0) ∧ ((shapeOf (nodeOf L t).kind).kids < 2 → (nodeOf L t).b = 0) ∧ fieldsErr (shapeOf (nodeOf L t).kind) (nodeOf L t) = 0 ∧
  (∀ k ∈ kidsOf (nodeOf L t), inP L k = true ∧ k < t) ∧ sizeOf L t = 1 + ((kidsOf (nodeOf L t)).map (sizeOf L)).sum ∧ depthOf L t = (kidsOf (nodeOf L t)).foldl (fun d k => max d (depthOf L k)) 0 + 1 := by
 obtain ⟨i, hi, rfl⟩ := inP_at ht
 have he := h.each i hi
 have hz := check_zero (L := L.take i) (n := L[i].node) (by rw [he])
 rw [nodeOf_lt hi]
 obtain ⟨h1, h2, h3, h4, h5, h6, h7, _, _⟩ := hz
 have hin : ∀ k ∈ kidsOf L[i].node, inP (L.take i) k = true ∧ inP L k = true ∧ k < (i : Int) + 1 := by
  intro k hk
  have hk' := h5 k hk
  have hk2 := inP_iff.1 hk'
  have : L.take i ++ L.drop i = L := List.take_append_drop i L
  refine ⟨hk', by rw [← this]; exact inP_app hk', ?_⟩
  rw [List.length_take] at hk2; omega
 have hsz : ∀ k ∈ kidsOf L[i].node, sizeOf (L.take i) k = sizeOf L k ∧ depthOf (L.take i) k = depthOf L k := by
  intro k hk
  have hk' := (hin k hk).1
  have : L.take i ++ L.drop i = L := List.take_append_drop i L
  exact ⟨by rw [← sizeOf_app (M := L.drop i) hk', this], by rw [← depthOf_app (M := L.drop i) hk', this]⟩
 refine ⟨h1, h2, h3, h4, fun k hk => ⟨(hin k hk).2.1, (hin k hk).2.2⟩, ?_, ?_⟩
 ·have : sizeOf L ((i : Int) + 1) = L[i].size := by simp [sizeOf, get_at hi]
  rw [this]
  rw [he] at h6
  simp only at h6
  rw [h6]
  congr 2
  exact List.map_congr_left (fun k hk => (hsz k hk).1)
 ·have : depthOf L ((i : Int) + 1) = L[i].depth := by simp [depthOf, get_at hi]
  rw [this]
  rw [he] at h7
  simp only at h7
  rw [h7]
  congr 1
  have : ∀ (l : List Int) (d : Int), (∀ k ∈ l, depthOf (L.take i) k = depthOf L k) → l.foldl (fun d t => max d (depthOf (L.take i) t)) d = l.foldl (fun d k => max d (depthOf L k)) d := by
   intro l
   induction l with
   | nil => intro d _; rfl
   | cons a l ih => intro d hh; simp only [List.foldl_cons]; rw [hh a (by simp)]; exact ih _ (fun k hk => hh k (by simp [hk]))
  exact this _ _ (fun k hk => (hsz k hk).2)
def noTree : Tree := .mk 0 0 0 0 ⟨#[]⟩ []
def treeF (L : Pool) : Nat → Int → Tree
 | 0, _ => noTree
 | fuel + 1, t => if inP L t = true then .mk (nodeOf L t).kind (nodeOf L t).frm (nodeOf L t).to (nodeOf L t).num (nodeOf L t).text ((kidsOf (nodeOf L t)).map (treeF L fuel)) else noTree
def treeOf (L : Pool) (t : Int) : Tree := treeF L t.toNat t
theorem treeF_none {L : Pool} {t : Int} (h : inP L t = false) (f : Nat) : treeF L f t = noTree := by
 cases f <;> simp [treeF, h]
theorem treeF_fuel {L : Pool} (h : Wf L) : ∀ (f : Nat) (t : Int), t.toNat ≤ f → treeF L f t = treeOf L t := by
 have key : ∀ (f g : Nat) (t : Int), t.toNat ≤ f → t.toNat ≤ g → treeF L f t = treeF L g t := by
  intro f
  induction f with
  | zero =>
   intro g t hf hg
   have : inP L t = false := by
    apply Bool.eq_false_iff.2; intro hi; have := inP_iff.1 hi; omega
   rw [treeF_none this, treeF_none this]
  | succ f ih =>
   intro g t hf hg
   cases hi : inP L t with
   | false => rw [treeF_none hi, treeF_none hi]
   | true =>
    have hpos := inP_iff.1 hi
    cases g with
    | zero => omega
    | succ g =>
     simp only [treeF, hi, if_true]
     congr 1
     refine List.map_congr_left (fun k hk => ih g k ?_ ?_)
     ·have := ((h.node hi).2.2.2.2.1 k hk).2; omega
     ·have := ((h.node hi).2.2.2.2.1 k hk).2; omega
 intro f t hf
 exact key f t.toNat t hf (Nat.le_refl _)
theorem treeOf_none {L : Pool} {t : Int} (h : inP L t = false) : treeOf L t = noTree := treeF_none h _
theorem treeOf_in {L : Pool} (h : Wf L) {t : Int} (ht : inP L t = true) : treeOf L t = .mk (nodeOf L t).kind (nodeOf L t).frm (nodeOf L t).to (nodeOf L t).num (nodeOf L t).text ((kidsOf (nodeOf L t)).map (treeOf L)) := by
 have hpos := inP_iff.1 ht
 have e : t.toNat = (t.toNat - 1) + 1 := by omega
 unfold treeOf
 rw [e]
 simp only [treeF, ht, if_true]
 congr 1
 refine List.map_congr_left (fun k hk => ?_)
 have := ((h.node ht).2.2.2.2.1 k hk).2
 exact treeF_fuel h _ k (by omega)
theorem Wf.first {L M : Pool} (h : Wf (L ++ M)) : Wf L := by
 refine ⟨⟨by have := h.ok.few; rw [List.length_append] at this; omega, ?_, fun e he => h.ok.size e (by simp [he]), fun e he => h.ok.depth e (by simp [he])⟩, fun i hi => ?_⟩
 ·have := h.ok.nodup; rw [List.map_append] at this; exact (List.nodup_append.1 this).1
 ·have := h.each i (by rw [List.length_append]; omega)
  rw [List.getElem_append_left hi, List.take_append_of_le_length (by omega)] at this
  exact this
theorem treeOf_app {L M : Pool} (h : Wf (L ++ M)) : ∀ (n : Nat) (t : Int), t.toNat = n → inP L t = true → treeOf (L ++ M) t = treeOf L t := by
 have hL := h.first
 intro n
 induction n using Nat.strongRecOn with
 | _ n ih =>
  intro t hn ht
  rw [treeOf_in h (inP_app ht), treeOf_in hL ht, nodeOf_app ht]
  congr 1
  refine List.map_congr_left (fun k hk => ?_)
  have hk' := (hL.node ht).2.2.2.2.1 k hk
  have := inP_iff.1 hk'.1
  exact ih k.toNat (by omega) k rfl hk'.1
end Go.Sp
end
section
namespace Go.Sp
def showsK (k : Int) : Bool := k == 7 || k == 8 || k == 9
def freeK (k : Int) : Bool := k == 1 || k == 2 || k == 3
def keyNode (n : Int) : Node := ⟨6, n, 0, 0, ⟨#[]⟩, 0, 0⟩
def whoOf (n : Node) : Int := if n.kind = 9 then n.to else n.frm
def Arises (L : Pool) (r u t : Int) : Prop :=
 (r = 1 ∧ (nodeOf L u).kind = 4 ∧ (nodeOf L u).a = t) ∨ (r = 2 ∧ (nodeOf L u).kind = 4 ∧ (nodeOf L u).b = t) ∨ (r = 3 ∧ showsK (nodeOf L u).kind = true ∧ (nodeOf L u).a = t)
inductive Seen (L : Pool) (G : List Int) : Int → Prop
 | given {t : Int} : t ∈ G → Seen L G t
 | «from» {r u t : Int} : Seen L G u → Arises L r u t → Seen L G t
inductive Drv (L : Pool) (K : Int → Prop) : Int → Prop
 | seen {t : Int} : K t → Drv L K t
 | free {t : Int} : freeK (nodeOf L t).kind = true → Drv L K t
 | pair {t : Int} : (nodeOf L t).kind = 4 → Drv L K (nodeOf L t).a → Drv L K (nodeOf L t).b → Drv L K t
 | hash {t : Int} : (nodeOf L t).kind = 5 → Drv L K (nodeOf L t).a → Drv L K t
 | sign {t : Int} {i : Nat} : showsK (nodeOf L t).kind = true → Drv L K (nodeOf L t).a → find L (keyNode (whoOf (nodeOf L t))) = some i → K ((i : Int) + 1) → Drv L K t
structure Way where
 t : Int
 rule : Int
 frm : Int
deriving DecidableEq
def wkeys (S : List Way) : List Int := S.map Way.t
def WayOk (L : Pool) (G : List Int) (pre : List Way) (v : Way) : Prop := (v.rule = 0 ∧ v.frm = 0 ∧ v.t ∈ G) ∨ (v.rule ≠ 0 ∧ Arises L v.rule v.frm v.t ∧ v.frm ∈ wkeys pre)
structure WaysOk (L : Pool) (G : List Int) (S : List Way) : Prop where
 nodup : (wkeys S).Nodup
 inp : ∀ t ∈ wkeys S, inP L t = true
 way : ∀ i (h : i < S.length), WayOk L G (S.take i) S[i]
def Shown (L : Pool) (S : List Way) (u : Int) : Prop := ∀ r t, Arises L r u t → t ∈ wkeys S
theorem wkeys_len (S : List Way) : (wkeys S).length = S.length := by simp [wkeys]
theorem WayOk.mono {L : Pool} {G G' : List Int} {pre : List Way} {v : Way} (h : WayOk L G pre v) (hG : ∀ t ∈ G, t ∈ G') : WayOk L G' pre v := by
 rcases h with ⟨a, b, c⟩ | h
 ·exact .inl ⟨a, b, hG _ c⟩
 ·exact .inr h
theorem WaysOk.mono {L : Pool} {G G' : List Int} {S : List Way} (h : WaysOk L G S) (hG : ∀ t ∈ G, t ∈ G') : WaysOk L G' S := ⟨h.nodup, h.inp, fun i hi => (h.way i hi).mono hG⟩
theorem WaysOk.snoc {L : Pool} {G : List Int} {S : List Way} (h : WaysOk L G S) {v : Way} (hn : v.t ∉ wkeys S) (hi : inP L v.t = true) (hv : WayOk L G S v) : WaysOk L G (S ++ [v]) := by
 refine ⟨?_, ?_, fun i hlt => ?_⟩
 ·unfold wkeys at hn ⊢
  rw [List.map_append, List.nodup_append]
  exact ⟨h.nodup, by simp, fun x hx y hy e => by simp at hy; subst hy; exact hn (e ▸ hx)⟩
 ·intro t ht
  unfold wkeys at ht
  rw [List.map_append, List.mem_append] at ht
  rcases ht with ht | ht
  ·exact h.inp t ht
  ·simp at ht; rw [ht]; exact hi
 ·rw [List.length_append] at hlt
  simp only [List.length_cons, List.length_nil] at hlt
  by_cases hl : i < S.length
  ·rw [List.getElem_append_left hl, List.take_append_of_le_length (by omega)]; exact h.way i hl
  ·have : i = S.length := by omega
   subst this
   rw [List.getElem_append_right (Nat.le_refl _), List.take_left]
   simpa using hv
theorem Shown.snoc {L : Pool} {S : List Way} {u : Int} {v : Way} (h : Shown L S u) : Shown L (S ++ [v]) u := fun r t ha => by
 unfold wkeys; rw [List.map_append]; exact List.mem_append_left _ (h r t ha)
theorem Seen.mono {L : Pool} {G G' : List Int} (hG : ∀ t ∈ G, t ∈ G') {t : Int} (h : Seen L G t) : Seen L G' t := by
 induction h with
 | given hg => exact .given (hG _ hg)
 | «from» _ ha ih => exact .from ih ha
theorem Drv.mono {L : Pool} {K K' : Int → Prop} (hK : ∀ t, K t → K' t) {t : Int} (h : Drv L K t) : Drv L K' t := by
 induction h with
 | seen h => exact .seen (hK _ h)
 | free h => exact .free h
 | pair h _ _ iha ihb => exact .pair h iha ihb
 | hash h _ ih => exact .hash h ih
 | sign h _ hf hk ih => exact .sign h ih hf (hK _ hk)
structure Step where
 rule : Int
 a : Int
 b : Int
 t : Int
deriving DecidableEq
def ahead (i : Nat) (v : Int) : Bool := decide (0 ≤ v) && decide (v < i)
def tAt (pre : List Step) (v : Int) : Int := (pre[v.toNat]?.map Step.t).getD 0
def arisesB (L : Pool) (r u t : Int) : Bool :=
 if r = 1 then (nodeOf L u).kind == 4 && (nodeOf L u).a == t else if r = 2 then (nodeOf L u).kind == 4 && (nodeOf L u).b == t else showsK (nodeOf L u).kind && (nodeOf L u).a == t
def fol (L : Pool) (G : List Int) (pre : List Step) (s : Step) : Bool :=
 if inP L s.t = false then false
 else if s.rule = 0 then s.a == 0 && s.b == 0 && decide (s.t ∈ G)
 else if s.rule = 1 ∨ s.rule = 2 ∨ s.rule = 3 then ahead pre.length s.a && s.b == 0 && arisesB L s.rule (tAt pre s.a) s.t
 else if s.rule = 4 then s.a == 0 && s.b == 0 && freeK (nodeOf L s.t).kind
 else if s.rule = 5 then
  if (nodeOf L s.t).kind = 4 then ahead pre.length s.a && ahead pre.length s.b && tAt pre s.a == (nodeOf L s.t).a && tAt pre s.b == (nodeOf L s.t).b
  else if (nodeOf L s.t).kind = 5 then ahead pre.length s.a && s.b == 0 && tAt pre s.a == (nodeOf L s.t).a
  else if showsK (nodeOf L s.t).kind = true then ahead pre.length s.a && ahead pre.length s.b && tAt pre s.a == (nodeOf L s.t).a && (nodeOf L (tAt pre s.b)).kind == 6 && (nodeOf L (tAt pre s.b)).frm == whoOf (nodeOf L s.t)
  else false
 else false
end Go.Sp
namespace Go.Sp
theorem nodup_few {α : Type} [DecidableEq α] : ∀ {l m : List α}, l.Nodup → (∀ x ∈ l, x ∈ m) → l.length ≤ m.length
 | [], m, _, _ => by simp
 | x :: l, m, hn, hs => by
  have hx := hs x (by simp)
  rw [List.nodup_cons] at hn
  have := nodup_few (m := m.erase x) hn.2 (fun y hy => (List.mem_erase_of_ne (fun h => hn.1 (by rw [← h]; exact hy))).2 (hs y (List.mem_cons_of_mem _ hy)))
  rw [List.length_erase_of_mem hx] at this
  have := List.length_pos_of_mem hx
  simp only [List.length_cons]; omega
theorem pool_few {L : Pool} {l : List Int} (hn : l.Nodup) (hi : ∀ t ∈ l, inP L t = true) : l.length ≤ L.length := by
 have := nodup_few (m := (List.range L.length).map fun i : Nat => (i : Int) + 1) hn (fun t ht => by
  obtain ⟨i, h1, h2⟩ := inP_at (hi t ht)
  exact List.mem_map.2 ⟨i, List.mem_range.2 h1, h2.symm⟩)
 simpa using this
theorem WaysOk.few {L : Pool} {G : List Int} {S : List Way} (h : WaysOk L G S) : S.length ≤ L.length := by
 have := pool_few h.nodup h.inp
 rwa [wkeys_len] at this
theorem kids4 {L : Pool} (h : Wf L) {t : Int} (ht : inP L t = true) (hk : (nodeOf L t).kind = 4) : (inP L (nodeOf L t).a = true ∧ (nodeOf L t).a < t) ∧ (inP L (nodeOf L t).b = true ∧ (nodeOf L t).b < t) := by
 have := (h.node ht).2.2.2.2.1
 simp only [kidsOf, hk, shapeOf] at this
 exact ⟨this _ (by simp), this _ (by simp)⟩
theorem kids7 {L : Pool} (h : Wf L) {t : Int} (ht : inP L t = true) (hk : showsK (nodeOf L t).kind = true) : inP L (nodeOf L t).a = true ∧ (nodeOf L t).a < t := by
 have := (h.node ht).2.2.2.2.1
 simp only [showsK, Bool.or_eq_true, beq_iff_eq] at hk
 rcases hk with (hk | hk) | hk <;> simp only [kidsOf, hk, shapeOf] at this <;> exact this _ (by simp)
theorem Arises.inp {L : Pool} (h : Wf L) {r u t : Int} (hu : inP L u = true) (ha : Arises L r u t) : inP L t = true ∧ t < u := by
 rcases ha with ⟨_, hk, rfl⟩ | ⟨_, hk, rfl⟩ | ⟨_, hk, rfl⟩
 ·exact (kids4 h hu hk).1
 ·exact (kids4 h hu hk).2
 ·exact kids7 h hu hk
def addWay (S : List Way) (v : Way) : List Way := if v.t ∈ wkeys S then S else S ++ [v]
theorem WaysOk.add {L : Pool} {G : List Int} {S : List Way} (h : WaysOk L G S) {v : Way} (hi : inP L v.t = true) (hv : WayOk L G S v) : WaysOk L G (addWay S v) := by
 unfold addWay; split
 ·exact h
 ·rename_i hn; exact h.snoc hn hi hv
end Go.Sp
end
section
open Go.SE
namespace Go.Sp
def keyOf (L : Pool) (n : Int) : Int × Bool := match find L (keyNode n) with
 | some i => ((i : Int) + 1, true)
 | none => (0, false)
theorem find_node {L : Pool} {n : Node} {i : Nat} (h : find L n = some i) : i < L.length ∧ nodeOf L ((i : Int) + 1) = n := by
 unfold find at h
 rw [List.findIdx?_eq_some_iff_getElem] at h
 obtain ⟨hi, h1, _⟩ := h
 refine ⟨hi, ?_⟩
 rw [nodeOf_lt hi]; simpa using h1
theorem keyOf_ok {L : Pool} {n : Int} (h : (keyOf L n).2 = true) : inP L (keyOf L n).1 = true ∧ nodeOf L (keyOf L n).1 = keyNode n ∧ ∃ i, find L (keyNode n) = some i ∧ (keyOf L n).1 = (i : Int) + 1 := by
 unfold keyOf at h ⊢
 cases hf : find L (keyNode n) with
 | none => rw [hf] at h; cases h
 | some i =>
  obtain ⟨hi, hn⟩ := find_node hf
  exact ⟨inP_iff.2 ⟨by simp only; omega, by simp only; omega⟩, hn, i, rfl, rfl⟩
theorem keyOf_find {L : Pool} {n : Int} {i : Nat} (h : find L (keyNode n) = some i) : keyOf L n = ((i : Int) + 1, true) := by unfold keyOf; rw [h]
theorem Drv.inv {L : Pool} {K : Int → Prop} {t : Int} (h : Drv L K t) : K t ∨ freeK (nodeOf L t).kind = true ∨ ((nodeOf L t).kind = 4 ∧ Drv L K (nodeOf L t).a ∧ Drv L K (nodeOf L t).b) ∨ ((nodeOf L t).kind = 5 ∧ Drv L K (nodeOf L t).a) ∨
  (showsK (nodeOf L t).kind = true ∧ Drv L K (nodeOf L t).a ∧ (keyOf L (whoOf (nodeOf L t))).2 = true ∧ K (keyOf L (whoOf (nodeOf L t))).1) := by
 cases h with
 | seen h => exact .inl h
 | free h => exact .inr (.inl h)
 | pair h a b => exact .inr (.inr (.inl ⟨h, a, b⟩))
 | hash h a => exact .inr (.inr (.inr (.inl ⟨h, a⟩)))
 | sign h a hf hk => rw [keyOf_find hf]; exact .inr (.inr (.inr (.inr ⟨h, a, rfl, hk⟩)))
theorem Drv.signed {L : Pool} {K : Int → Prop} {t : Int} (h : showsK (nodeOf L t).kind = true) (ha : Drv L K (nodeOf L t).a) (hk : (keyOf L (whoOf (nodeOf L t))).2 = true) (hK : K (keyOf L (whoOf (nodeOf L t))).1) : Drv L K t := by
 obtain ⟨_, _, i, hf, e⟩ := keyOf_ok hk
 rw [e] at hK
 exact .sign h ha hf hK
inductive Sub (L : Pool) : Int → Int → Prop
 | refl (t : Int) : Sub L t t
 | kid {t u k : Int} : Sub L t u → k ∈ kidsOf (nodeOf L u) → Sub L t k
theorem Sub.trans {L : Pool} {a b c : Int} (h : Sub L a b) (k : Sub L b c) : Sub L a c := by
 induction k with
 | refl => exact h
 | kid _ hk ih => exact .kid ih hk
theorem kids_a {n : Node} (h : n.kind = 4 ∨ n.kind = 5 ∨ showsK n.kind = true) : n.a ∈ kidsOf n := by
 simp only [showsK, Bool.or_eq_true, beq_iff_eq] at h
 rcases h with h | h | (h | h) | h <;> simp [kidsOf, h, shapeOf]
theorem kids_b {n : Node} (h : n.kind = 4) : n.b ∈ kidsOf n := by simp [kidsOf, h, shapeOf]
theorem Arises.sub {L : Pool} {r u t : Int} (h : Arises L r u t) : Sub L u t := by
 rcases h with ⟨_, hk, rfl⟩ | ⟨_, hk, rfl⟩ | ⟨_, hk, rfl⟩
 ·exact .kid (.refl u) (kids_a (.inl hk))
 ·exact .kid (.refl u) (kids_b hk)
 ·exact .kid (.refl u) (kids_a (.inr (.inr hk)))
theorem Seen.sub {L : Pool} {G : List Int} {t : Int} (h : Seen L G t) : ∃ g ∈ G, Sub L g t := by
 induction h with
 | given hg => exact ⟨_, hg, .refl _⟩
 | «from» _ ha ih => obtain ⟨g, hg, hs⟩ := ih; exact ⟨g, hg, hs.trans ha.sub⟩
def rank (S : List Way) (t : Int) : Nat := (wkeys S).idxOf t + if t ∈ wkeys S then 0 else t.toNat
theorem Arises.rule {L : Pool} {r u t : Int} (h : Arises L r u t) : r = 1 ∨ r = 2 ∨ r = 3 := by
 rcases h with ⟨h, _⟩ | ⟨h, _⟩ | ⟨h, _⟩
 ·exact .inl h
 ·exact .inr (.inl h)
 ·exact .inr (.inr h)
def amap (l : List Step) : List (Int × Int) := l.zipIdx.map fun p => (p.1.t, (p.2 : Int))
structure PrfOk (L : Pool) (G : List Int) (K : Int → Prop) (l : List Step) (B : List Int) : Prop where
 fol : ∀ i (hi : i < l.length), fol L G (l.take i) l[i] = true
 nd : (l.map Step.t).Nodup
 drv : ∀ s ∈ l, Drv L K s.t
 bar : ∀ t ∈ B, ¬ Drv L K t
theorem PrfOk.nil (L : Pool) (G : List Int) (K : Int → Prop) : PrfOk L G K [] [] := ⟨fun i hi => by simp at hi, by simp, by simp, by simp⟩
theorem PrfOk.snoc {L : Pool} {G : List Int} {K : Int → Prop} {l : List Step} {B : List Int} (h : PrfOk L G K l B) {s : Step} (hf : Sp.fol L G l s = true) (hn : s.t ∉ l.map Step.t) (hd : Drv L K s.t) : PrfOk L G K (l ++ [s]) B := by
 refine ⟨fun i hi => ?_, ?_, fun x hx => ?_, h.bar⟩
 ·rw [List.length_append] at hi
  simp only [List.length_cons, List.length_nil] at hi
  by_cases hl : i < l.length
  ·rw [List.getElem_append_left hl, List.take_append_of_le_length (by omega)]; exact h.fol i hl
  ·have : i = l.length := by omega
   subst this
   rw [List.getElem_append_right (Nat.le_refl _), List.take_left]
   simpa using hf
 ·rw [List.map_append, List.nodup_append]
  exact ⟨h.nd, by simp, fun x hx y hy e => by simp at hy; subst hy; exact hn (e ▸ hx)⟩
 ·rcases List.mem_append.1 hx with hx | hx
  ·exact h.drv x hx
  ·simp at hx; subst hx; exact hd
theorem fol_in {L : Pool} {G : List Int} {pre : List Step} {s : Step} (h : fol L G pre s = true) : inP L s.t = true := by
 unfold fol at h
 split at h
 ·cases h
 ·rename_i hh; simpa using hh
theorem PrfOk.few {L : Pool} {G : List Int} {K : Int → Prop} {l : List Step} {B : List Int} (h : PrfOk L G K l B) : l.length ≤ L.length := by
 have := pool_few h.nd (fun t ht => by
  obtain ⟨s, hs, rfl⟩ := List.mem_map.1 ht
  obtain ⟨i, hi, rfl⟩ := List.getElem_of_mem hs
  exact fol_in (h.fol i hi))
 simpa using this
end Go.Sp
end
section
open Go.SE
namespace Go.Sp
def upd (V : Int → Bool) (t : Int) (b : Bool) : Int → Bool := fun x => if x = t then b else V x
def overS (L : Pool) : Nat → Int → (Int → Bool) × List Int → (Int → Bool) × List Int
 | 0, _, st => st
 | n + 1, t, st => if inP L t = true ∧ st.1 t = false then
   let s2 := overS L n (nodeOf L t).b (overS L n (nodeOf L t).a (upd st.1 t true, st.2))
   (s2.1, s2.2 ++ [t])
  else st
def subs (L : Pool) (t : Int) : List Int := (overS L (t.toNat + 1) t (fun _ => false, [])).2
theorem Sub.head {L : Pool} {t y : Int} (h : Sub L t y) : y = t ∨ ∃ k ∈ kidsOf (nodeOf L t), Sub L k y := by
 induction h with
 | refl => exact .inl rfl
 | kid _ hk ih =>
  rcases ih with rfl | ⟨k, h1, h2⟩
  ·exact .inr ⟨_, hk, .refl _⟩
  ·exact .inr ⟨k, h1, h2.kid hk⟩
theorem Sub.le {L : Pool} (hW : Wf L) {t y : Int} (ht : inP L t = true) (h : Sub L t y) : inP L y = true ∧ y ≤ t := by
 induction h with
 | refl => exact ⟨ht, Int.le_refl _⟩
 | kid _ hk ih =>
  have := (hW.node ih.1).2.2.2.2.1 _ hk
  exact ⟨this.1, by omega⟩
theorem kid_ab {n : Node} {k : Int} (h : k ∈ kidsOf n) : k = n.a ∨ k = n.b := by
 unfold kidsOf at h
 have := List.mem_of_mem_take h
 simpa using this
theorem kid_of {L : Pool} (hW : Wf L) {t k : Int} (ht : inP L t = true) (h : k = (nodeOf L t).a ∨ k = (nodeOf L t).b) (hk : inP L k = true) : k ∈ kidsOf (nodeOf L t) := by
 have h1 := (hW.node ht).2.1
 have h2 := (hW.node ht).2.2.1
 have hk0 : k ≠ 0 := by have := (inP_iff.1 hk).1; omega
 unfold kidsOf
 rcases kids_le (nodeOf L t).kind with e | e | e
 ·have a0 := h1 (by omega); have b0 := h2 (by omega)
  rcases h with h | h
  ·exact absurd (h.trans a0) hk0
  ·exact absurd (h.trans b0) hk0
 ·have b0 := h2 (by omega)
  rcases h with h | h
  ·rw [e, h]; simp
  ·exact absurd (h.trans b0) hk0
 ·rw [e]; rcases h with h | h <;> simp [h]
structure OvOk (L : Pool) (st : (Int → Bool) × List Int) : Prop where
 marked : ∀ x ∈ st.2, st.1 x = true
 closed : ∀ x ∈ st.2, ∀ y, Sub L x y → y ∈ st.2
 nd : st.2.Nodup
 inp : ∀ x ∈ st.2, inP L x = true
structure OvRes (L : Pool) (t : Int) (st st' : (Int → Bool) × List Int) : Prop extends OvOk L st' where
 app : ∃ M, st'.2 = st.2 ++ M ∧ ∀ x ∈ M, Sub L t x ∧ inP L t = true
 keep : ∀ x, st.1 x = true → st'.1 x = true
 back : ∀ x, st'.1 x = true → st.1 x = true ∨ x ∈ st'.2
 all : inP L t = true → ∀ y, Sub L t y → y ∈ st'.2
theorem over_ok {L : Pool} (hW : Wf L) : ∀ (n : Nat) (t : Int) (st : (Int → Bool) × List Int), t.toNat < n → OvOk L st → (∀ x, st.1 x = true → x ≤ t → x ∈ st.2) → OvRes L t st (overS L n t st) := by
 intro n
 induction n with
 | zero => intro t st h; omega
 | succ n ih =>
  intro t st hn hst hm
  rw [overS]
  by_cases hc : inP L t = true ∧ st.1 t = false
  ·rw [if_pos hc]
   obtain ⟨hin, hv⟩ := hc
   have ht1 := (inP_iff.1 hin).1
   have hkid := (hW.node hin).2.2.2.2.1
   have low : ∀ k, k = (nodeOf L t).a ∨ k = (nodeOf L t).b → k < t := by
    intro k hk
    cases hp : inP L k with
    | true => exact (hkid k (kid_of hW hin hk hp)).2
    | false =>
     have h1 := (hW.node hin).2.1
     have h2 := (hW.node hin).2.2.1
     rcases kids_le (nodeOf L t).kind with e | e | e
     ·have := h1 (by omega); have := h2 (by omega); rcases hk with hk | hk <;> omega
     ·have b0 := h2 (by omega)
      rcases hk with hk | hk
      ·have := (hkid k (by unfold kidsOf; rw [e, hk]; simp)).2; exact this
      ·omega
     ·exact (hkid k (by unfold kidsOf; rw [e]; rcases hk with hk | hk <;> simp [hk])).2
   have o1 : OvOk L (upd st.1 t true, st.2) := ⟨fun x hx => by simp only [upd]; split <;> simp [hst.marked x hx], hst.closed, hst.nd, hst.inp⟩
   have r1 := ih (nodeOf L t).a (upd st.1 t true, st.2) (by have := low _ (.inl rfl); omega) o1 (fun x hx hle => by
    have := low _ (.inl rfl)
    simp only [upd] at hx
    rw [if_neg (by omega)] at hx
    exact hm x hx (by omega))
   generalize overS L n (nodeOf L t).a (upd st.1 t true, st.2) = s1 at *
   have r2 := ih (nodeOf L t).b s1 (by have := low _ (.inr rfl); omega) r1.toOvOk (fun x hx hle => by
    have := low _ (.inr rfl)
    rcases r1.back x hx with h | h
    ·simp only [upd] at h
     rw [if_neg (by omega)] at h
     have := hm x h (by omega)
     obtain ⟨M, e, _⟩ := r1.app
     simp only at e
     rw [e]; exact List.mem_append_left _ this
    ·exact h)
   generalize overS L n (nodeOf L t).b s1 = s2 at *
   obtain ⟨M1, e1, m1⟩ := r1.app
   obtain ⟨M2, e2, m2⟩ := r2.app
   simp only at e1
   have hvt : s2.1 t = true := r2.keep t (r1.keep t (by simp [upd]))
   have hto : t ∉ s2.2 := by
    rw [e2, e1]
    intro h
    rcases List.mem_append.1 h with h | h
    ·rcases List.mem_append.1 h with h | h
     ·have := hst.marked t h; rw [hv] at this; cases this
     ·obtain ⟨h1, h2⟩ := m1 t h
      have := (h1.le hW h2).2; have := low _ (.inl rfl); omega
    ·obtain ⟨h1, h2⟩ := m2 t h
     have := (h1.le hW h2).2; have := low _ (.inr rfl); omega
   have hall : ∀ y, Sub L t y → y ∈ s2.2 ++ [t] := by
    intro y hy
    rcases hy.head with rfl | ⟨k, hk, hs⟩
    ·simp
    ·refine List.mem_append_left _ ?_
     have hki := (hkid k hk).1
     rcases kid_ab hk with rfl | rfl
     ·rw [e2]; exact List.mem_append_left _ (r1.all hki y hs)
     ·exact r2.all hki y hs
   refine ⟨⟨fun x hx => ?_, fun x hx y hy => ?_, ?_, fun x hx => ?_⟩, ⟨M1 ++ M2 ++ [t], by simp [e2, e1], fun x hx => ?_⟩, fun x hx => ?_, fun x hx => ?_, fun _ => hall⟩
   ·simp only [List.mem_append, List.mem_singleton] at hx
    rcases hx with hx | rfl
    ·exact r2.marked x hx
    ·exact hvt
   ·simp only [List.mem_append, List.mem_singleton] at hx
    rcases hx with hx | rfl
    ·exact List.mem_append_left _ (r2.closed x hx y hy)
    ·exact hall y hy
   ·rw [List.nodup_append]
    exact ⟨r2.nd, by simp, fun x hx y hy e => by simp at hy; subst hy; exact hto (e ▸ hx)⟩
   ·simp only [List.mem_append, List.mem_singleton] at hx
    rcases hx with hx | rfl
    ·exact r2.inp x hx
    ·exact hin
   ·refine ⟨?_, hin⟩
    simp only [List.mem_append, List.mem_singleton] at hx
    rcases hx with (hx | hx) | rfl
    ·obtain ⟨h1, h2⟩ := m1 x hx
     exact (Sub.kid (.refl t) (kid_of hW hin (.inl rfl) h2)).trans h1
    ·obtain ⟨h1, h2⟩ := m2 x hx
     exact (Sub.kid (.refl t) (kid_of hW hin (.inr rfl) h2)).trans h1
    ·exact .refl _
   ·exact r2.keep x (r1.keep x (by simp only [upd]; split <;> simp [hx]))
   ·rcases r2.back x hx with h | h
    ·rcases r1.back x h with h' | h'
     ·simp only [upd] at h'
      split at h'
      ·rename_i e; subst e; right; simp
      ·exact .inl h'
     ·right; show x ∈ s2.2 ++ [t]; rw [e2]; exact List.mem_append_left _ (List.mem_append_left _ h')
    ·exact .inr (List.mem_append_left _ h)
  ·rw [if_neg hc]
   refine ⟨hst, ⟨[], by simp, by simp⟩, fun x h => h, fun x h => .inl h, fun hin y hy => ?_⟩
   have hv : st.1 t = true := by
    cases h : st.1 t with
    | true => rfl
    | false => exact absurd ⟨hin, h⟩ hc
   exact hst.closed t (hm t hv (Int.le_refl _)) y hy
theorem subs_mem {L : Pool} (hW : Wf L) {t x : Int} : x ∈ subs L t ↔ inP L t = true ∧ Sub L t x := by
 have r := over_ok hW (t.toNat + 1) t (fun _ => false, []) (by omega) ⟨by simp, by simp, by simp, by simp⟩ (by simp)
 constructor
 ·intro h
  obtain ⟨M, e, hm⟩ := r.app
  unfold subs at h
  rw [e] at h
  simp only [List.nil_append] at h
  exact ⟨(hm x h).2, (hm x h).1⟩
 ·intro h; exact r.all h.1 x h.2
theorem subs_few {L : Pool} (hW : Wf L) (t : Int) : (subs L t).length ≤ L.length := by
 have r := over_ok hW (t.toNat + 1) t (fun _ => false, []) (by omega) ⟨by simp, by simp, by simp, by simp⟩ (by simp)
 exact pool_few r.nd r.inp
end Go.Sp
end
section
namespace Go.Sp
def Ord (L : Pool) (l : List Int) : Prop := ∀ pre z post, l = pre ++ z :: post → ∀ k ∈ kidsOf (nodeOf L z), k ∈ pre
theorem Ord.snoc {L : Pool} {l : List Int} {t : Int} (h : Ord L l) (ht : ∀ k ∈ kidsOf (nodeOf L t), k ∈ l) : Ord L (l ++ [t]) := by
 intro pre z post e k hk
 rcases List.eq_nil_or_concat post with rfl | ⟨post', y, rfl⟩
 ·have := List.append_inj' e rfl
  obtain ⟨rfl, e2⟩ := this
  simp only [List.cons.injEq, and_true] at e2
  subst e2; exact ht k hk
 ·have e' : l ++ [t] = (pre ++ z :: post') ++ [y] := by rw [e]; simp
  have := List.append_inj' e' rfl
  exact h pre z post' this.1 k hk
theorem over_ord {L : Pool} (hW : Wf L) : ∀ (n : Nat) (t : Int) (st : (Int → Bool) × List Int), t.toNat < n → OvOk L st → (∀ x, st.1 x = true → x ≤ t → x ∈ st.2) → Ord L st.2 → Ord L (overS L n t st).2 := by
 intro n
 induction n with
 | zero => intro t st h; omega
 | succ n ih =>
  intro t st hn hst hm ho
  rw [overS]
  by_cases hc : inP L t = true ∧ st.1 t = false
  ·rw [if_pos hc]
   obtain ⟨hin, hv⟩ := hc
   have ht1 := (inP_iff.1 hin).1
   have hkid := (hW.node hin).2.2.2.2.1
   have low : ∀ k, k = (nodeOf L t).a ∨ k = (nodeOf L t).b → k < t := by
    intro k hk
    cases hp : inP L k with
    | true => exact (hkid k (kid_of hW hin hk hp)).2
    | false =>
     have h1 := (hW.node hin).2.1
     have h2 := (hW.node hin).2.2.1
     rcases kids_le (nodeOf L t).kind with e | e | e
     ·have := h1 (by omega); have := h2 (by omega); rcases hk with hk | hk <;> omega
     ·have b0 := h2 (by omega)
      rcases hk with hk | hk
      ·have := (hkid k (by unfold kidsOf; rw [e, hk]; simp)).2; exact this
      ·omega
     ·exact (hkid k (by unfold kidsOf; rw [e]; rcases hk with hk | hk <;> simp [hk])).2
   have o1 : OvOk L (upd st.1 t true, st.2) := ⟨fun x hx => by simp only [upd]; split <;> simp [hst.marked x hx], hst.closed, hst.nd, hst.inp⟩
   have m1 : ∀ x, (upd st.1 t true, st.2).1 x = true → x ≤ (nodeOf L t).a → x ∈ (upd st.1 t true, st.2).2 := fun x hx hle => by
    have := low _ (.inl rfl)
    simp only [upd] at hx
    rw [if_neg (by omega)] at hx
    exact hm x hx (by omega)
   have n1 : (nodeOf L t).a.toNat < n := by have := low _ (.inl rfl); omega
   have n2 : (nodeOf L t).b.toNat < n := by have := low _ (.inr rfl); omega
   have r1 := over_ok hW n (nodeOf L t).a (upd st.1 t true, st.2) n1 o1 m1
   have d1 := ih (nodeOf L t).a (upd st.1 t true, st.2) n1 o1 m1 ho
   generalize overS L n (nodeOf L t).a (upd st.1 t true, st.2) = s1 at *
   have m2 : ∀ x, s1.1 x = true → x ≤ (nodeOf L t).b → x ∈ s1.2 := fun x hx hle => by
    have := low _ (.inr rfl)
    rcases r1.back x hx with h | h
    ·simp only [upd] at h
     rw [if_neg (by omega)] at h
     have := hm x h (by omega)
     obtain ⟨M, e, _⟩ := r1.app
     simp only at e
     rw [e]; exact List.mem_append_left _ this
    ·exact h
   have r2 := over_ok hW n (nodeOf L t).b s1 n2 r1.toOvOk m2
   have d2 := ih (nodeOf L t).b s1 n2 r1.toOvOk m2 d1
   generalize overS L n (nodeOf L t).b s1 = s2 at *
   obtain ⟨M2, e2, _⟩ := r2.app
   refine d2.snoc fun k hk => ?_
   have hki := (hkid k hk).1
   rcases kid_ab hk with rfl | rfl
   ·rw [e2]; exact List.mem_append_left _ (r1.all hki _ (.refl _))
   ·exact r2.all hki _ (.refl _)
  ·rw [if_neg hc]; exact ho
theorem subs_ord {L : Pool} (hW : Wf L) (t : Int) : Ord L (subs L t) :=
 over_ord hW (t.toNat + 1) t (fun _ => false, []) (by omega) ⟨by simp, by simp, by simp, by simp⟩ (by simp) (fun pre z post e => by simp at e)
theorem subs_nodup {L : Pool} (hW : Wf L) (t : Int) : (subs L t).Nodup :=
 (over_ok hW (t.toNat + 1) t (fun _ => false, []) (by omega) ⟨by simp, by simp, by simp, by simp⟩ (by simp)).nd
end Go.Sp
end
section
namespace Go.Proofs
inductive Fld | from_ | to_ | num | text | fst | snd
deriving DecidableEq
def flds (k : Int) : List Fld :=
 if k = 1 then [.from_] else if k = 2 then [.num] else if k = 3 then [.text] else if k = 4 then [.fst, .snd] else if k = 5 then [.fst] else if k = 6 then [.from_] else if k = 7 then [.from_, .fst] else if k = 8 then [.from_, .to_, .fst] else if k = 9 then [.from_, .to_, .fst] else []
def Fld.bytes (n : Sp.Node) (na nb : Nat) : Fld → List UInt8
 | .from_ => varint n.frm.toNat | .to_ => varint n.to.toNat | .num => varint n.num.toNat | .text => textBytes n.text | .fst => varint na | .snd => varint nb
def posOf (seen : List Int) (t : Int) : Nat := seen.idxOf t
def nodeText (L : Sp.Pool) (seen : List Int) (t : Int) : List UInt8 :=
 UInt8.ofNat (Sp.nodeOf L t).kind.toNat :: (flds (Sp.nodeOf L t).kind).flatMap (Fld.bytes (Sp.nodeOf L t) (posOf seen (Sp.nodeOf L t).a) (posOf seen (Sp.nodeOf L t).b))
def textFrom (L : Sp.Pool) : List Int → List Int → List UInt8
 | _, [] => []
 | seen, t :: l => nodeText L seen t ++ textFrom L (seen ++ [t]) l
theorem textFrom_snoc (L : Sp.Pool) (l : List Int) (t : Int) : ∀ seen, textFrom L seen (l ++ [t]) = textFrom L seen l ++ nodeText L (seen ++ l) t := by
 induction l with
 | nil => intro seen; simp [textFrom]
 | cons x l ih => intro seen; simp only [List.cons_append, textFrom]; rw [ih]; simp
def textOf (L : Sp.Pool) (t : Int) : List UInt8 := textFrom L [] (Sp.subs L t)
theorem posOf_app {l l' : List Int} {u : Int} (h : u ∈ l) : posOf (l ++ l') u = posOf l u := by unfold posOf; rw [List.idxOf_append, if_pos h]
theorem posOf_new {l : List Int} {z : Int} (h : z ∉ l) : posOf (l ++ [z]) z = l.length := by unfold posOf; rw [List.idxOf_append, if_neg h]; simp
theorem posOf_lt {l : List Int} {t : Int} (ht : t ∈ l) : posOf l t < l.length := List.idxOf_lt_length_of_mem ht
def encS (L : Sp.Pool) (t : Int) : List UInt8 × Int := if Sp.inP L t then (if (textOf L t).length > 4096 then ([], 1) else (textOf L t, 0)) else ([], 51)
end Go.Proofs
end
section
open Go Go.SE
namespace Go.Proofs
attribute [local irreducible] Calls CallsD
def Fld.put : Fld → FuncId
 | .from_ => 166 | .to_ => 170 | .num => 172 | .text => 174 | .fst => 178 | .snd => 180
def Fld.get : Fld → FuncId
 | .from_ => 168 | .to_ => 171 | .num => 173 | .text => 176 | .fst => 179 | .snd => 181
def Fld.row (f : Fld) : List Value := [.func (.func f.put) #[] #[], .func (.func f.get) #[] #[]]
structure PartsAt (w0 w : World) (m : Nat) (Bs : List (Addr × Fld)) (M : List (Int × Sl)) : Prop where
 box : ∀ b ∈ Bs, Box w b.1 b.2.row 195 ∧ b.1.block ≠ m
 map : IMap Sl.v w m M
 lst : ∀ p ∈ M, Lst (fun b => w0.heap.size ≤ b ∧ b ≠ m) w 2 p.2 ((flds p.1).map Fld.row)
 pure : Pure w0 w
 own : w0.heap.size ≤ m
theorem PartsAt.step {w0 w w1 : World} {m : Nat} {Bs : List (Addr × Fld)} {M : List (Int × Sl)} (h : PartsAt w0 w m Bs M) {cs : Array Value} {p : Addr} (n1 : New w (.cells cs 195) p w1) (k : Int) (n : Nat) (hn : (flds k).length = n) (hcs : cs.toList = ((flds k).map Fld.row).flatten) (hk : SE.look M k = none) :
  ∃ w2, (Instr.mapUpdate 189 (.map (some m)) (.int .i64 k) (Sl.mk (some p) n n).v).run Try.prog w1 = .ok () w2 ∧ PartsAt w0 w2 m Bs (M ++ [(k, Sl.mk (some p) n n)]) := by
 have E1 : Pure w w1 := Ext.new n1
 obtain ⟨w2, hr, hM, hE⟩ := (h.map.pure E1).put (P := Try.prog) (T := 189) Try.underlying189 Try.underlying3 hk (Sl.mk (some p) n n)
 have B1 := Box.of_newA n1
 have hb := n1.at_size
 have hm := h.map.lt
 refine ⟨w2, hr, ⟨fun b hb => ⟨((h.box b hb).1.pure E1).ext hE (h.box b hb).2, (h.box b hb).2⟩, hM, ?_, (h.pure.trans E1).trans' hE (fun i hi e => by have := h.own; omega), h.own⟩⟩
 intro q hq
 rcases List.mem_append.1 hq with hq | hq
 ·exact ((h.lst q hq).pure E1).ext hE (fun b hb => hb.2)
 ·simp only [List.mem_singleton] at hq
  subst hq
  refine ⟨by simp [hn], fun i hi => ?_⟩
  have hi' : i < (flds k).length := by simpa using hi
  refine ⟨p.add (i * 2), ⟨by omega, by simp; omega, p, rfl, by simp⟩, ?_, ?_⟩
  ·rw [add_block]; exact ⟨by have := h.pure.size; omega, by omega⟩
  ·have hrow : Row w2 p cs.toList := hE.row (B1.row) (by omega)
   intro j hj
   rw [add_add]
   have hlen : ∀ r ∈ (flds k).map Fld.row, r.length = 2 := by intro r hr; obtain ⟨f, _, rfl⟩ := List.mem_map.1 hr; rfl
   have hj2 : j < 2 := by rw [hlen _ (List.getElem_mem hi)] at hj; exact hj
   have hg := flatten_get hlen hi hj2
   have hlt : i * 2 + j < cs.toList.length := by rw [hcs, flatten_len hlen, List.length_map]; omega
   rw [hrow _ hlt, hcs, hg]
structure BxsAt (w0 w : World) (Bs : List (Addr × Fld)) : Prop where
 box : ∀ b ∈ Bs, Box w b.1 b.2.row 195
 pure : Pure w0 w
theorem BxsAt.step {w0 w w1 : World} {Bs : List (Addr × Fld)} (h : BxsAt w0 w Bs) {p : Addr} (n1 : New w (.cells #[.nilFunc, .nilFunc] 195) p w1) (f : Fld) {A : WP} (k : ∀ w', BxsAt w0 w' (Bs ++ [(p, f)]) → A w') : (∀ j, j < 2 → CanW w1 (p.add j)) ∧ ∀ w', w' = storeRow w1 p f.row → A w' := by
 have E1 : Pure w w1 := Ext.new n1
 refine bx 2 (Box.of_newA n1) rfl rfl (fun w2 b E => k w2 ⟨fun c hc => ?_, h.pure.own (p := p) (by rw [n1.at_size]; exact h.pure.size) ((Ext.pure E1).trans E)⟩)
 rcases List.mem_append.1 hc with hc | hc
 ·have hB := h.box c hc
  exact (hB.pure E1).ext E (fun e => by have := World.block_lt_of_cell? w c.1 hB.cell0; have := n1.at_size; omega)
 ·simp only [List.mem_singleton] at hc; subst hc; exact b
theorem PartsAt.get {w0 w : World} {m : Nat} {Bs : List (Addr × Fld)} {M : List (Int × Sl)} (h : PartsAt w0 w m Bs M) {p : Addr} {f : Fld} (hb : (p, f) ∈ Bs) : Row w p [.func (.func f.put) #[] #[], .func (.func f.get) #[] #[]] := (h.box _ hb).1.row
theorem c_parts (w0 : World) : Calls Try.prog 125 #[] w0 (fun e w' => ∃ x : Option Nat, e = .returned (.map x) ∧ ∃ m M, x = some m ∧ (∃ Bs, PartsAt w0 w' m Bs M) ∧ M.map Prod.fst = [1, 2, 3, 4, 5, 6, 7, 8, 9]) := by
 refine w_C1 w0 (fun x w' => ∃ m M, x = some m ∧ (∃ Bs, PartsAt w0 w' m Bs M) ∧ M.map Prod.fst = [1, 2, 3, 4, 5, 6, 7, 8, 9]) ?_
 unfold m_C1
 have h0 : BxsAt w0 w0 [] := ⟨fun b hb => (by cases hb), Ext.refl _⟩
 intro p1 v1 n1
 refine h0.step n1 .from_ (fun u1 h1 => ?_)
 intro p2 v2 n2
 refine h1.step n2 .to_ (fun u2 h2 => ?_)
 intro p3 v3 n3
 refine h2.step n3 .num (fun u3 h3 => ?_)
 intro p4 v4 n4
 refine h3.step n4 .text (fun u4 h4 => ?_)
 intro p5 v5 n5
 refine h4.step n5 .fst (fun u5 h5 => ?_)
 intro p6 v6 n6
 refine h5.step n6 .snd (fun u6 h6 => ?_)
 intro p7 w1 n7
 have g0 : PartsAt w0 w1 p7.block _ [] := ⟨fun b hb => ⟨(h6.box b hb).pure (Ext.new n7), fun e => by have := World.block_lt_of_cell? u6 b.1 (h6.box b hb).cell0; have := n7.at_size; omega⟩, IMap.of_new n7, fun p hp => (by cases hp), h6.pure.trans (Ext.new n7), by rw [n7.at_size]; exact h6.pure.size⟩
 refine ⟨_, _, g0.get (f := .from_) (by simp), ?_⟩
 intro q1 x1 y1
 obtain ⟨z1, r1, g1⟩ := g0.step y1 1 1 rfl rfl (by simp [SE.look])
 refine ⟨z1, r1, ?_⟩
 refine ⟨_, _, g1.get (f := .num) (by simp), ?_⟩
 intro q2 x2 y2
 obtain ⟨z2, r2, g2⟩ := g1.step y2 2 1 rfl rfl (by simp [SE.look])
 refine ⟨z2, r2, ?_⟩
 refine ⟨_, _, g2.get (f := .text) (by simp), ?_⟩
 intro q3 x3 y3
 obtain ⟨z3, r3, g3⟩ := g2.step y3 3 1 rfl rfl (by simp [SE.look])
 refine ⟨z3, r3, ?_⟩
 refine ⟨_, _, g3.get (f := .fst) (by simp), ?_⟩
 refine ⟨_, _, g3.get (f := .snd) (by simp), ?_⟩
 intro q4 x4 y4
 obtain ⟨z4, r4, g4⟩ := g3.step y4 4 2 rfl rfl (by simp [SE.look])
 refine ⟨z4, r4, ?_⟩
 refine ⟨_, _, g4.get (f := .fst) (by simp), ?_⟩
 intro q5 x5 y5
 obtain ⟨z5, r5, g5⟩ := g4.step y5 5 1 rfl rfl (by simp [SE.look])
 refine ⟨z5, r5, ?_⟩
 refine ⟨_, _, g5.get (f := .from_) (by simp), ?_⟩
 intro q6 x6 y6
 obtain ⟨z6, r6, g6⟩ := g5.step y6 6 1 rfl rfl (by simp [SE.look])
 refine ⟨z6, r6, ?_⟩
 refine ⟨_, _, g6.get (f := .from_) (by simp), ?_⟩
 refine ⟨_, _, g6.get (f := .fst) (by simp), ?_⟩
 intro q7 x7 y7
 obtain ⟨z7, r7, g7⟩ := g6.step y7 7 2 rfl rfl (by simp [SE.look])
 refine ⟨z7, r7, ?_⟩
 refine ⟨_, _, g7.get (f := .from_) (by simp), ?_⟩
 refine ⟨_, _, g7.get (f := .to_) (by simp), ?_⟩
 refine ⟨_, _, g7.get (f := .fst) (by simp), ?_⟩
 intro q8 x8 y8
 obtain ⟨z8, r8, g8⟩ := g7.step y8 8 3 rfl rfl (by simp [SE.look])
 refine ⟨z8, r8, ?_⟩
 refine ⟨_, _, g8.get (f := .from_) (by simp), ?_⟩
 refine ⟨_, _, g8.get (f := .to_) (by simp), ?_⟩
 refine ⟨_, _, g8.get (f := .fst) (by simp), ?_⟩
 intro q9 x9 y9
 obtain ⟨z9, r9, g9⟩ := g8.step y9 9 3 rfl rfl (by simp [SE.look])
 refine ⟨z9, r9, ?_⟩
 exact ⟨p7.block, _, rfl, ⟨_, g9⟩, rfl⟩
end Go.Proofs
end
section
namespace Go.Proofs
def Fld.rd (bs : List UInt8) (r : Rd) : Fld → Rd
 | .text => (rText bs 64 r).2
 | _ => (rNum bs r).2
structure Raw where
 num : Nat
 text : List UInt8
 frm : Nat
 to : Nat
 a : Nat
 b : Nat
 kids : Nat
def noRaw : Raw := ⟨0, [], 0, 0, 0, 0, 0⟩
def Fld.raw (bs : List UInt8) (r : Rd) (x : Raw) : Fld → Raw
 | .from_ => { x with frm := (rNum bs r).1 }
 | .to_ => { x with to := (rNum bs r).1 }
 | .num => { x with num := (rNum bs r).1 }
 | .text => { x with text := (rText bs 64 r).1 }
 | .fst => { x with a := (rNum bs r).1, kids := 1 }
 | .snd => { x with b := (rNum bs r).1, kids := 2 }
def rdFlds (bs : List UInt8) : List Fld → Raw × Rd → Raw × Rd
 | [], s => s
 | f :: l, (x, r) => rdFlds bs l (f.raw bs r x, f.rd bs r)
def nodeErr (k n : Nat) (x : Raw) (e : Nat) : Nat :=
 if e ≠ 0 then e
 else if 16 ≤ x.frm ∨ 16 ≤ x.to ∨ ((k = 8 ∨ k = 9) ∧ x.frm = x.to) then 50
 else if (0 < x.kids ∧ n ≤ x.a) ∨ (1 < x.kids ∧ n ≤ x.b) then 71
 else 0
def Raw.node (k : Nat) (x : Raw) : Sp.Node := ⟨k, x.frm, x.to, x.num, ⟨x.text.toArray⟩, if 0 < x.kids then (x.a : Int) + 1 else 0, if 1 < x.kids then (x.b : Int) + 1 else 0⟩
def isKindN (k : Nat) : Bool := decide (1 ≤ k) && decide (k ≤ 9)
def rdIn (L : Sp.Pool) (k : Nat) (s : Raw × Rd) : Sp.Pool × Int × Rd :=
 if nodeErr k L.length s.1 s.2.err ≠ 0 then (L, ((nodeErr k L.length s.1 s.2.err : Nat) : Int), s.2)
 else if (Sp.find L (s.1.node k)).isSome = true then (L, 72, s.2)
 else ((Sp.make L (s.1.node k)).2.2, (Sp.make L (s.1.node k)).2.1, s.2)
def rdStep (bs : List UInt8) (L : Sp.Pool) (r : Rd) : Sp.Pool × Int × Rd :=
 if isKindN (rByte bs r).1 = true then rdIn L (rByte bs r).1 (rdFlds bs (flds (rByte bs r).1) (noRaw, (rByte bs r).2))
 else (L, 70, (rByte bs r).2)
def inRow : Nat → List Int → Nat
 | i, [] => i
 | i, s :: l => if s = (i : Int) + 1 then inRow (i + 1) l else i
def rdEnd (L : Sp.Pool) (ps : List Nat) : Option Sp.Pool × Int × Nat :=
 let i := inRow 0 (Sp.subs L L.length)
 if h : i < ps.length then (none, 73, ps[i]) else (some L, 0, 0)
def rdGo (bs : List UInt8) : Nat → Sp.Pool → Rd → List Nat → Option Sp.Pool × Int × Nat
 | 0, L, _, ps => rdEnd L ps
 | n + 1, L, r, ps =>
  if r.at_ < bs.length then
   if (rdStep bs L r).2.1 ≠ 0 then (none, (rdStep bs L r).2.1, r.at_)
   else rdGo bs n (rdStep bs L r).1 (rdStep bs L r).2.2 (ps ++ [r.at_])
  else rdEnd L ps
def rdText (bs : List UInt8) : Option Sp.Pool × Int × Nat :=
 if 4096 < bs.length then (none, 1, 0) else if bs.length = 0 then (none, 3, 0) else rdGo bs bs.length [] ⟨0, 0, 0⟩ []
def copyGo (Lq : Sp.Pool) : List Int → Sp.Pool → (Int → Int) → Sp.Pool × Int × (Int → Int)
 | [], L, own => (L, 0, own)
 | s :: l, L, own =>
  let m := Sp.make L { Sp.nodeOf Lq s with a := own (Sp.nodeOf Lq s).a, b := own (Sp.nodeOf Lq s).b }
  if m.2.1 ≠ 0 then (L, m.2.1, own) else copyGo Lq l m.2.2 (fun x => if x = s then m.1 else own x)
def copyS (L Lq : Sp.Pool) (t : Int) : Int × Int × Sp.Pool :=
 if Sp.inP Lq t = true then
  let c := copyGo Lq (Sp.subs Lq t) L (fun _ => 0)
  if c.2.1 ≠ 0 then (0, c.2.1, L) else (c.2.2 t, 0, c.1)
 else (0, 51, L)
def decS (L : Sp.Pool) (bs : List UInt8) : Int × Int × Nat × Sp.Pool :=
 match (rdText bs).1 with
 | none => (0, (rdText bs).2.1, (rdText bs).2.2, L)
 | some q => ((copyS L q q.length).1, (copyS L q q.length).2.1, 0, (copyS L q q.length).2.2)
theorem rNum_at (bs : List UInt8) (r : Rd) (h : r.at_ ≤ bs.length) : r.at_ ≤ (rNum bs r).2.at_ ∧ (rNum bs r).2.at_ ≤ bs.length := by
 have key : ∀ (l : List UInt8) (i n : Nat) (m k : Nat), rdNum i n l = .ok (m, k) → k ≤ i + l.length ∧ i < k := by
  intro l
  induction l with
  | nil => intro i n m k h; simp [rdNum] at h
  | cons c l ih =>
   intro i n m k h
   rw [rdNum_cons] at h
   split at h
   ·cases h
   ·split at h
    ·split at h
     ·cases h
     ·cases h; simp
    ·have := ih _ _ _ _ h
     rw [List.length_cons]; omega
 unfold rNum
 split
 ·split
  ·rename_i n k hk
   have := key _ _ _ _ _ hk
   rw [List.length_drop] at this
   simp only; omega
  ·exact ⟨Nat.le_refl _, h⟩
 ·exact ⟨Nat.le_refl _, h⟩
theorem rText_at (bs : List UInt8) (m : Nat) (r : Rd) (h : r.at_ ≤ bs.length) : r.at_ ≤ (rText bs m r).2.at_ ∧ (rText bs m r).2.at_ ≤ bs.length := by
 have hn := rNum_at bs r h
 unfold rNum at hn
 unfold rText
 split
 ·rename_i he
  rw [if_pos he] at hn
  split
  ·rename_i n k hk
   rw [hk] at hn
   simp only at hn
   split
   ·exact ⟨Nat.le_refl _, h⟩
   ·split
    ·exact ⟨Nat.le_refl _, h⟩
    ·simp only; omega
  ·exact ⟨Nat.le_refl _, h⟩
 ·exact ⟨Nat.le_refl _, h⟩
theorem Fld.rd_at (bs : List UInt8) (r : Rd) (f : Fld) (h : r.at_ ≤ bs.length) : r.at_ ≤ (f.rd bs r).at_ ∧ (f.rd bs r).at_ ≤ bs.length := by
 cases f <;> first | exact rText_at bs 64 r h | exact rNum_at bs r h
theorem rdFlds_at (bs : List UInt8) : ∀ (l : List Fld) (x : Raw) (r : Rd), r.at_ ≤ bs.length → r.at_ ≤ (rdFlds bs l (x, r)).2.at_ ∧ (rdFlds bs l (x, r)).2.at_ ≤ bs.length := by
 intro l
 induction l with
 | nil => intro x r h; exact ⟨Nat.le_refl _, h⟩
 | cons f l ih =>
  intro x r h
  have h1 := f.rd_at bs r h
  have h2 := ih (f.raw bs r x) (f.rd bs r) h1.2
  rw [rdFlds]; omega
theorem rByte_ok (bs : List UInt8) (r : Rd) (h : r.at_ < bs.length) (he : r.err = 0) : rByte bs r = (bs[r.at_].toNat, ⟨r.at_ + 1, 0, r.spot⟩) := by
 unfold rByte; rw [if_pos he, dif_pos h]
theorem rdStep_eq (bs : List UInt8) (L : Sp.Pool) (r : Rd) (h : r.at_ < bs.length) (he : r.err = 0) : rdStep bs L r =
  (if isKindN bs[r.at_].toNat = true then rdIn L bs[r.at_].toNat (rdFlds bs (flds bs[r.at_].toNat) (noRaw, ⟨r.at_ + 1, 0, r.spot⟩)) else (L, 70, ⟨r.at_ + 1, 0, r.spot⟩)) := by
 unfold rdStep
 rw [rByte_ok bs r h he]
theorem rdIn_zero {L : Sp.Pool} {k : Nat} {s : Raw × Rd} (h : (rdIn L k s).2.1 = 0) : s.2.err = 0 ∧ nodeErr k L.length s.1 s.2.err = 0 ∧ Sp.find L (s.1.node k) = none ∧ (Sp.make L (s.1.node k)).2.1 = 0 ∧ rdIn L k s = ((Sp.make L (s.1.node k)).2.2, 0, s.2) := by
 unfold rdIn at *
 split at h
 ·rename_i h1; exact absurd (by simpa using h) h1
 ·rename_i h1
  rw [if_neg h1]
  have h1 : nodeErr k L.length s.1 s.2.err = 0 := by omega
  have he' : s.2.err = 0 := by
   by_cases h2 : s.2.err = 0
   ·exact h2
   ·exfalso; unfold nodeErr at h1; rw [if_pos h2] at h1; exact h2 h1
  split at h
  ·simp at h
  ·rename_i h3
   rw [if_neg h3]
   simp only at h
   exact ⟨he', h1, by simpa using h3, h, by rw [h]⟩
theorem rdStep_at (bs : List UInt8) (L : Sp.Pool) (r : Rd) (h : r.at_ < bs.length) (he : r.err = 0) (h0 : (rdStep bs L r).2.1 = 0) : r.at_ < (rdStep bs L r).2.2.at_ ∧ (rdStep bs L r).2.2.at_ ≤ bs.length ∧ (rdStep bs L r).2.2.err = 0 := by
 have hl := rdFlds_at bs (flds bs[r.at_].toNat) noRaw ⟨r.at_ + 1, 0, r.spot⟩ (by simp only; omega)
 simp only at hl
 rw [rdStep_eq bs L r h he] at *
 split at h0
 ·rename_i hk
  rw [if_pos hk]
  obtain ⟨h1, _, _, _, h5⟩ := rdIn_zero h0
  rw [h5]; exact ⟨by simp only; omega, hl.2, h1⟩
 ·simp at h0
theorem rdGo_end {bs : List UInt8} {L : Sp.Pool} {r : Rd} {ps : List Nat} (h : ¬ r.at_ < bs.length) : ∀ n, rdGo bs n L r ps = rdEnd L ps := by
 intro n; cases n with
 | zero => rfl
 | succ n => rw [rdGo, if_neg h]
end Go.Proofs
end
section
open Go Go.SE
open Go.IntKind renaming i64 → q6
namespace Go.Proofs
set_option maxRecDepth 100000
set_option maxHeartbeats 4000000
attribute [local irreducible] wpL wpX opE wpE Calls
def m_D2  (w : World) (K : (Option Addr) → WP) : Prop :=
 ∀ (p1 : Addr) (w1 : World), New w (.map #[] 0) p1 w1 →
 ∀ (p2 : Addr) (w2 : World), New w1 (.cells #[Sl.nil.v, (.map (some p1.block))] 132) p2 w2 →
 K (some p2) w2
theorem w_D2  (w : World) (K : (Option Addr) → WP) (h : m_D2  w K) :
  Calls Try.prog 27 #[] w (fun e w' => ∃ r1 : Option Addr, e = .returned (vp r1) ∧ K r1 w') := by
 unfold m_D2 at h
 refine cw (args := []) Try.func27 Try.ntmps27 (wpE_seq (rg (q0 (vp none) (wpL_nil (th_n (wpE_seq (rg (st_new (O := (.map #[] 0)) (fun p => .map (some p.block)) (want0 rfl) (by kernel_rfl) ?_))))))))
 intro p1 w1 hn2
 have h := h p1 w1 hn2
 refine q0 (.agg #[Sl.nil.v, (.map (some p1.block))]) (sn (O := (.cells #[Sl.nil.v, (.map (some p1.block))] 132)) xb ?_)
 intro p2 w2 hn1
 have h := h p2 w2 hn1
 refine q0 (vp (some p2)) (wpL_nil (th_n (wpE_ret (rs1 Try.results27 (v := (vp (some p2))) ?_))))
 exact ⟨(some p2), rfl, h⟩
def m_Z (p1 : Option Addr) (bA bB : Int) (bC bD : Int) (bE : ByteArray) (bF : Sl) (w : World) (K : Int → Int → WP) : Prop :=
 ∀ (p2 : Addr) (w1 : World), New w (.cells #[(vi bA), (vi bB), (vi bC), (vu bD), (vs bE), bF.v] 52) p2 w1 →
 Br (Option.isNone p1)
  (K 0 0 w1)
  (∀ (p3 : Addr) (w2 : World), New w1 (.cells #[(vi 0)] 3) p3 w2 →
  CanW w2 p3 ∧ ∀ w3 : World, w3 = w2.setCell p3 (vi 0) →
  ∃ aA aB : Int, ∃ aC aD : Int, ∃ aE : ByteArray, ∃ bG : Sl, Row w3 p2 [(vi aA), (vi aB), (vi aC), (vu aD), (vs aE), bG.v] ∧
  Calls Try.prog 82 #[(.agg #[(vi aA), (vi aB), (vi aC), (vu aD), (vs aE), bG.v]), (vi 0), (vp (some p3))] w3 (fun e w4 => ∃ r1 : Int, e = .returned (vi r1) ∧ 
   Br (r1 != 0)
    (K 0 r1 w4)
    (∃ a1 : Addr, p1 = some a1 ∧
    ∃ v1 : Sl, w4.cell? a1 = some v1.v ∧
    ∃ aO aP : Int, ∃ aQ aR : Int, ∃ aS : ByteArray, ∃ bR : Sl, Row w4 p2 [(vi aO), (vi aP), (vi aQ), (vu aR), (vs aS), bR.v] ∧
    Calls Try.prog 83 #[(vp p1), (.agg #[(vi aO), (vi aP), (vi aQ), (vu aR), (vs aS), bR.v])] w4 (fun e w5 => ∃ r2 r3 : Int, e = .returned (.tuple #[(vi r2), (vi r3)]) ∧ 
     Br (r3 != 0)
      (Calls Try.prog 84 #[(vp p1), (vi (v1.len : Int))] w5 (fun e w6 => e = .returned (.tuple #[]) ∧ 
       K 0 r3 w6))
      (K r2 0 w5)))))
theorem w_Z (p1 : Option Addr) (bA bB : Int) (bC bD : Int) (bE : ByteArray) (bF : Sl) (w : World) (K : Int → Int → WP) (h : m_Z p1 bA bB bC bD bE bF w K) :
  Calls Try.prog 28 #[(vp p1), (.agg #[(vi bA), (vi bB), (vi bC), (vu bD), (vs bE), bF.v])] w (fun e w' => ∃ r4 r5 : Int, e = .returned (.tuple #[(vi r4), (vi r5)]) ∧ K r4 r5 w') := by
 unfold m_Z at h
 refine cw (args := [(vp p1), (.agg #[(vi bA), (vi bB), (vi bC), (vu bD), (vs bE), bF.v])]) Try.func28 Try.ntmps28 (wpE_seq (rg (sn (O := (.cells #[(vi bA), (vi bB), (vi bC), (vu bD), (vs bE), bF.v] 52)) xb ?_)))
 intro p2 w1 hn3
 have h := h p2 w1 hn3
 refine q0 (vi 0) (q0 (vi 0) (wpL_nil (th_n (wpE_seq (wpE_seq (rg (q0 (vp p1) (q2 (vb (Option.isNone p1)) (x_ptreq (by kernel_rfl) rfl Try.underlying36) (wpL_nil (th_n ?_))))))))))
 refine wpE_cond (t := (Option.isNone p1)) (by kernel_rfl) (fun hc1 => ?_) (fun hc1 => ?_)
 ·have h := h.1 hc1
  refine wpE_seq (rg (q0 (vi 0) (q0 (vi 0) (wpL_nil (th_n (wpE_ret (th_r (res2 (.inl rfl) Try.results28 (v := (vi 0)) (by kernel_rfl) (v' := (vi 0)) (by kernel_rfl) ?_))))))))
  exact ⟨0, 0, rfl, h⟩
 ·have h := h.2 hc1
  refine wpE_skip (th_n (wpE_seq (rg (sn (O := (.cells #[(vi 0)] 3)) (x_alloc (Try.zeroValue3 _) rfl) ?_))))
  intro p3 w2 hn2
  have h := h p3 w2 hn2
  obtain ⟨hp1, h⟩ := h
  refine st_set (want0 rfl) (x_store (a := p3) (v := (vi 0)) (by kernel_rfl) (by kernel_rfl) rfl (Try.sizeOf3 _) hp1) ?_
  intro w3 hn1
  have h := h w3 hn1
  refine wpL_nil (th_n (wpE_seq (wpE_seq (rg ?_))))
  obtain ⟨aA, aB, aC, aD, aE, bG, hv3, h⟩ := h
  refine q2 (.agg #[(vi aA), (vi aB), (vi aC), (vu aD), (vs aE), bG.v]) (x_loadA (a := p2) (vs := [(vi aA), (vi aB), (vi aC), (vu aD), (vs aE), bG.v]) (by kernel_rfl) (Try.isAgg52 _) (Try.sizeOf52 _) rfl hv3) ?_
  refine sc Try.call82 (h.mono ?_)
  rintro e w4 ⟨r1, rfl, h⟩
  refine ⟨_, rfl, ?_⟩
  refine q0 (vi r1) (wpL_nil (th_n (wpE_seq (rg (q0 (vi r1) (q0 (vb (r1 != 0)) (wpL_nil (th_n ?_))))))))
  refine wpE_cond (t := (r1 != 0)) (by kernel_rfl) (fun hc2 => ?_) (fun hc2 => ?_)
  ·have h := h.1 hc2
   refine wpE_seq (rg (q0 (vi r1) (q0 (vi 0) (q0 (vi r1) (wpL_nil (th_n (wpE_ret (th_r (res2 (.inl rfl) Try.results28 (v := (vi 0)) (by kernel_rfl) (v' := (vi r1)) (by kernel_rfl) ?_)))))))))
   exact ⟨0, r1, rfl, h⟩
  ·have h := h.2 hc2
   refine wpE_skip (th_n (wpE_seq (rg (q0 (vp p1) ?_))))
   obtain ⟨a1, hp2, h⟩ := h
   refine q2 (vp (some a1)) (x_nilCheck (p := p1) (by kernel_rfl) hp2) (q0 (vp (some a1)) ?_)
   obtain ⟨v1, hv2, h⟩ := h
   refine q2 v1.v (xl (Try.isAgg130 _) hv2) (q0 (vi (v1.len : Int)) (q0 (vi (v1.len : Int)) (wpL_nil (th_n (wpE_seq (rg (q0 (vp p1) ?_)))))))
   obtain ⟨aO, aP, aQ, aR, aS, bR, hv1, h⟩ := h
   refine q2 (.agg #[(vi aO), (vi aP), (vi aQ), (vu aR), (vs aS), bR.v]) (x_loadA (a := p2) (vs := [(vi aO), (vi aP), (vi aQ), (vu aR), (vs aS), bR.v]) (by kernel_rfl) (Try.isAgg52 _) (Try.sizeOf52 _) rfl hv1) ?_
   refine sc Try.call83 (h.mono ?_)
   rintro e w5 ⟨r2, r3, rfl, h⟩
   refine ⟨_, rfl, ?_⟩
   refine q0 (.tuple #[(vi r2), (vi r3)]) (q0 (vi r2) (q0 (vi r3) (q0 (vi r2) (q0 (vi r3) (wpL_nil (th_n (wpE_seq (wpE_seq (rg (q0 (vi r3) (q0 (vb (r3 != 0)) ?_)))))))))))
   refine wpL_nil (th_n ?_)
   refine wpE_cond (t := (r3 != 0)) (by kernel_rfl) (fun hc3 => ?_) (fun hc3 => ?_)
   ·have h := h.1 hc3
    refine wpE_seq (rg (q0 (vp p1) (q0 (vi (v1.len : Int)) ?_)))
    refine sc Try.call84 (h.mono ?_)
    rintro e w6 ⟨rfl, h⟩
    refine ⟨_, rfl, ?_⟩
    refine wpL_nil (th_n (wpE_seq (rg (q0 (vi r3) (q0 (vi 0) (q0 (vi r3) (wpL_nil (th_n (wpE_ret (th_r (res2 (.inl rfl) Try.results28 (v := (vi 0)) (by kernel_rfl) (v' := (vi r3)) (by kernel_rfl) ?_)))))))))))
    exact ⟨0, r3, rfl, h⟩
   ·have h := h.2 hc3
    refine wpE_skip (th_n (wpE_seq (rg (q0 (vi r2) (q0 (vi r2) (q0 (vi 0) (wpL_nil (th_n (wpE_ret (res2 (.inl rfl) Try.results28 (v := (vi r2)) (by kernel_rfl) (v' := (vi 0)) (by kernel_rfl) ?_))))))))))
    exact ⟨r2, 0, rfl, h⟩
def m_E2 (p1 : Option Addr) (t1 : Int) (w : World) (K : Value → WP) : Prop :=
 ∀ (p2 : Addr) (w1 : World), New w (.cells #[(vp p1)] 36) p2 w1 →
 ∀ (p3 : Addr) (w2 : World), New w1 (.cells #[(vi t1)] 32) p3 w2 →
 K (.func (.func 85) #[] #[(vp (some p2)), (vp (some p3))]) w2
theorem w_E2 (p1 : Option Addr) (t1 : Int) (w : World) (K : Value → WP) (h : m_E2 p1 t1 w K) :
  Calls Try.prog 30 #[(vp p1), (vi t1)] w (fun e w' => ∃ r1 : Value, e = .returned r1 ∧ K r1 w') := by
 unfold m_E2 at h
 refine cw (args := [(vp p1), (vi t1)]) Try.func30 Try.ntmps30 (wpE_seq (rg (sn (O := (.cells #[(vp p1)] 36)) xb ?_)))
 intro p2 w1 hn2
 have h := h p2 w1 hn2
 refine sn (O := (.cells #[(vi t1)] 32)) xb ?_
 intro p3 w2 hn1
 have h := h p3 w2 hn1
 refine q0 (.nilFunc : Value) (wpL_nil (th_n (wpE_seq (rg (q0 (.func (.func 85) #[] #[(vp (some p2)), (vp (some p3))]) (q0 (.func (.func 85) #[] #[(vp (some p2)), (vp (some p3))]) (wpL_nil (th_n (wpE_ret (rs1 Try.results30 (v := (.func (.func 85) #[] #[(vp (some p2)), (vp (some p3))])) ?_))))))))))
 exact ⟨(.func (.func 85) #[] #[(vp (some p2)), (vp (some p3))]), rfl, h⟩
def m_F2 (p1 : Option Addr) (w : World) (K : Int → WP) : Prop :=
 Br (Option.isNone p1)
  (K 0 w)
  (∃ a1 : Addr, p1 = some a1 ∧
  ∃ v1 : Sl, w.cell? a1 = some v1.v ∧
  K (v1.len : Int) w)
theorem w_F2 (p1 : Option Addr) (w : World) (K : Int → WP) (h : m_F2 p1 w K) :
  Calls Try.prog 35 #[(vp p1)] w (fun e w' => ∃ r1 : Int, e = .returned (vi r1) ∧ K r1 w') := by
 unfold m_F2 at h
 refine cw (args := [(vp p1)]) Try.func35 Try.ntmps35 (wpE_seq (rg (q0 (vi 0) (wpL_nil (th_n (wpE_seq (wpE_seq (rg (q0 (vp p1) (q2 (vb (Option.isNone p1)) (x_ptreq (by kernel_rfl) rfl Try.underlying36) (wpL_nil ?_)))))))))))
 refine th_n ?_
 refine wpE_cond (t := (Option.isNone p1)) (by kernel_rfl) (fun hc1 => ?_) (fun hc1 => ?_)
 ·have h := h.1 hc1
  refine wpE_seq (rg (q0 (vi 0) (wpL_nil (th_n (wpE_ret (th_r (rs1 Try.results35 (v := (vi 0)) ?_)))))))
  exact ⟨0, rfl, h⟩
 ·have h := h.2 hc1
  refine wpE_skip (th_n (wpE_seq (rg (q0 (vp p1) ?_))))
  obtain ⟨a1, hp1, h⟩ := h
  refine q2 (vp (some a1)) (x_nilCheck (p := p1) (by kernel_rfl) hp1) (q0 (vp (some a1)) ?_)
  obtain ⟨v1, hv1, h⟩ := h
  refine q2 v1.v (xl (Try.isAgg130 _) hv1) (q0 (vi (v1.len : Int)) (q0 (vi (v1.len : Int)) (wpL_nil (th_n (wpE_ret (rs1 Try.results35 (v := (vi (v1.len : Int))) ?_))))))
  exact ⟨(v1.len : Int), rfl, h⟩
def m_Q_l1 (p1 : Option Addr) (p2 p4 : Addr) (r2 : Sl) (x1 : Int) (wl1 : World) (Kc1 : Int → WP) (K : Int → Int → Int → Int → ByteArray → Sl → WP) : Prop :=
 Br (decide (x1 < (r2.len : Int)))
  (∃ a1 : Addr, At r2 x1 1 a1 ∧
  ∃ v6 : Int, wl1.cell? a1 = some (vi v6) ∧
  ∃ C1 : WP, C1 wl1.drew ∧ ∀ w9, w9 = wl1.drew →
  ∃ v7 : Sl, (∀ w', C1 w' → w'.cell? (p4.add 5) = some v7.v) ∧
  Calls Try.prog 37 #[(vp p1), (vi v6)] w9 (fun e w10 => ∃ cM cN : Int, ∃ cO cP : Int, ∃ cQ : ByteArray, ∃ cR : Sl, e = .returned (.agg #[(vi cM), (vi cN), (vi cO), (vu cP), (vs cQ), cR.v]) ∧ C1 w10 ∧ 
   ∀ (p5 : Addr) (w11 : World), New w10 (.cells #[(vi cM), (vi cN), (vi cO), (vu cP), (vs cQ), cR.v] 52) p5 w11 → C1 w11 ∧
   ∃ s1 : Sl, ∃ w12 : World, (Builtin.append_ #[22, 22] 22 #[v7.v, (Sl.mk (some p5) 1 1).v]).run Try.prog w11 = .ok s1.v w12 ∧ C1 w12 ∧
   CanW w12 (p4.add 5) ∧ ∀ w13 : World, w13 = w12.setCell (p4.add 5) s1.v →
   Kc1 (q6.wrap (x1 + 1)) w13))
  (∃ aA aB : Int, ∃ aC aD : Int, ∃ aE : ByteArray, ∃ bG : Sl, Row wl1 p4 [(vi aA), (vi aB), (vi aC), (vu aD), (vs aE), bG.v] ∧
  (∀ j, j < 6 → CanW wl1 (p2.add j)) ∧ ∀ w14 : World, w14 = storeRow wl1 p2 [(vi aA), (vi aB), (vi aC), (vu aD), (vs aE), bG.v] →
  ∃ bZ cA : Int, ∃ cB cC : Int, ∃ cD : ByteArray, ∃ cI : Sl, Row w14 p2 [(vi bZ), (vi cA), (vi cB), (vu cC), (vs cD), cI.v] ∧
  K bZ cA cB cC cD cI w14)
def m_Q (p1 : Option Addr) (t1 : Int) (w : World) (K : Int → Int → Int → Int → ByteArray → Sl → WP) : Prop :=
 ∀ (p2 : Addr) (w1 : World), New w (.cells #[(vi 0), (vi 0), (vi 0), (vu 0), (vs ⟨#[]⟩), Sl.nil.v] 52) p2 w1 →
 Calls Try.prog 67 #[(vp p1), (vi t1)] w1 (fun e w2 => ∃ aT aU : Int, ∃ aV aW : Int, ∃ aX : ByteArray, ∃ aY aZ : Int, ∃ r1 : Bool, e = .returned (.tuple #[(.agg #[(vi aT), (vi aU), (vi aV), (vu aW), (vs aX), (vi aY), (vi aZ)]), (vb r1)]) ∧ 
  ∀ (p3 : Addr) (w3 : World), New w2 (.cells #[(vi 0), (vi 0), (vi 0), (vu 0), (vs ⟨#[]⟩), (vi 0), (vi 0)] 106) p3 w3 →
  (∀ j, j < 7 → CanW w3 (p3.add j)) ∧ ∀ w4 : World, w4 = storeRow w3 p3 [(vi aT), (vi aU), (vi aV), (vu aW), (vs aX), (vi aY), (vi aZ)] →
  Br (!r1)
   ((∀ j, j < 6 → CanW w4 (p2.add j)) ∧ ∀ w5 : World, w5 = storeRow w4 p2 [(vi 0), (vi 0), (vi 0), (vu 0), (vs ⟨#[]⟩), Sl.nil.v] →
   ∃ bH bI : Int, ∃ bJ bK : Int, ∃ bL : ByteArray, ∃ cJ : Sl, Row w5 p2 [(vi bH), (vi bI), (vi bJ), (vu bK), (vs bL), cJ.v] ∧
   K bH bI bJ bK bL cJ w5)
   (∃ v1 : Int, w4.cell? p3 = some (vi v1) ∧
   ∃ v2 : Int, w4.cell? (p3.add 1) = some (vi v2) ∧
   ∃ v3 : Int, w4.cell? (p3.add 2) = some (vi v3) ∧
   ∃ v4 : Int, w4.cell? (p3.add 3) = some (vu v4) ∧
   ∃ v5 : ByteArray, w4.cell? (p3.add 4) = some (vs v5) ∧
   ∀ (p4 : Addr) (w6 : World), New w4 (.cells #[(vi 0), (vi 0), (vi 0), (vu 0), (vs ⟨#[]⟩), Sl.nil.v] 52) p4 w6 →
   (∀ j, j < 6 → CanW w6 (p4.add j)) ∧ ∀ w7 : World, w7 = storeRow w6 p4 [(vi v1), (vi v2), (vi v3), (vu v4), (vs v5), Sl.nil.v] →
   Calls Try.prog 91 #[(vp p1), (vi t1)] w7 (fun e w8 => ∃ r2 : Sl, e = .returned r2.v ∧ 
    ∃ (I1 : Int → WP) (mu1 : Int → World → Nat), I1 0 w8 ∧
     ∀ (x1 : Int) (wl1 : World), I1 x1 wl1 → m_Q_l1 p1 p2 p4 r2 x1 wl1 (fun y'0 w' => I1 y'0 w' ∧ mu1 y'0 w' < mu1 x1 wl1) K)))
theorem w_Q (p1 : Option Addr) (t1 : Int) (w : World) (K : Int → Int → Int → Int → ByteArray → Sl → WP) (h : m_Q p1 t1 w K) :
  Calls Try.prog 37 #[(vp p1), (vi t1)] w (fun e w' => ∃ cV cW : Int, ∃ cX cY : Int, ∃ cZ : ByteArray, ∃ dA : Sl, e = .returned (.agg #[(vi cV), (vi cW), (vi cX), (vu cY), (vs cZ), dA.v]) ∧ K cV cW cX cY cZ dA w') := by
 unfold m_Q at h
 refine cw (args := [(vp p1), (vi t1)]) Try.func37 Try.ntmps37 (wpE_seq (rg (sn (O := (.cells #[(vi 0), (vi 0), (vi 0), (vu 0), (vs ⟨#[]⟩), Sl.nil.v] 52)) (x_alloc (Try.zeroValue52 _) rfl) ?_)))
 intro p2 w1 hn9
 have h := h p2 w1 hn9
 refine wpL_nil (th_n (wpE_seq (rg (q0 (vp p1) (q0 (vi t1) ?_)))))
 refine sc Try.call67 (h.mono ?_)
 rintro e w2 ⟨aT, aU, aV, aW, aX, aY, aZ, r1, rfl, h⟩
 refine ⟨_, rfl, ?_⟩
 refine q0 (.tuple #[(.agg #[(vi aT), (vi aU), (vi aV), (vu aW), (vs aX), (vi aY), (vi aZ)]), (vb r1)]) (q0 (.agg #[(vi aT), (vi aU), (vi aV), (vu aW), (vs aX), (vi aY), (vi aZ)]) (q0 (vb r1) (sn (O := (.cells #[(vi 0), (vi 0), (vi 0), (vu 0), (vs ⟨#[]⟩), (vi 0), (vi 0)] 106)) (x_alloc (Try.zeroValue106 _) rfl) ?_)))
 intro p3 w3 hn8
 have h := h p3 w3 hn8
 obtain ⟨hp1, h⟩ := h
 refine st_set (want0 rfl) (x_storeA (a := p3) (vs := [(vi aT), (vi aU), (vi aV), (vu aW), (vs aX), (vi aY), (vi aZ)]) (by kernel_rfl) (by kernel_rfl) rfl (Try.sizeOf106 _) rfl hp1) ?_
 intro w4 hn1
 have h := h w4 hn1
 refine q0 (vb r1) (wpL_nil (th_n (wpE_seq (wpE_seq (rg (q0 (vb r1) (q0 (vb (!r1)) (wpL_nil (th_n ?_)))))))))
 refine wpE_cond (t := (!r1)) (by kernel_rfl) (fun hc1 => ?_) (fun hc1 => ?_)
 ·have h := h.1 hc1
  refine wpE_seq (rg (q0 (.agg #[(vi 0), (vi 0), (vi 0), (vu 0), (vs ⟨#[]⟩), Sl.nil.v]) ?_))
  obtain ⟨hp2, h⟩ := h
  refine st_set (want0 rfl) (x_storeA (a := p2) (vs := [(vi 0), (vi 0), (vi 0), (vu 0), (vs ⟨#[]⟩), Sl.nil.v]) (by kernel_rfl) (by kernel_rfl) rfl (Try.sizeOf52 _) rfl hp2) ?_
  intro w5 hn2
  have h := h w5 hn2
  refine wpL_nil (th_n (wpE_ret (th_r ?_)))
  obtain ⟨bH, bI, bJ, bK, bL, cJ, hv1, h⟩ := h
  refine resG (.inl rfl) (vs := [(.agg #[(vi bH), (vi bI), (vi bJ), (vu bK), (vs bL), cJ.v])]) (v := (.agg #[(vi bH), (vi bI), (vi bJ), (vu bK), (vs bL), cJ.v])) Try.results37 ⟨(RV.cellA (by kernel_rfl) (Try.isAgg52 _) (Try.sizeOf52 _) rfl hv1), trivial⟩ (by kernel_rfl) ?_
  exact ⟨bH, bI, bJ, bK, bL, cJ, rfl, h⟩
 ·have h := h.2 hc1
  refine wpE_skip (th_n (wpE_seq (rg (q0 (vp (some p3)) ?_))))
  obtain ⟨v1, hv12, h⟩ := h
  refine q2 (vi v1) (xl (Try.isAgg3 _) hv12) (q0 (vp (some (p3.add 1))) ?_)
  obtain ⟨v2, hv11, h⟩ := h
  refine q2 (vi v2) (xl (Try.isAgg3 _) hv11) (q0 (vp (some (p3.add 2))) ?_)
  obtain ⟨v3, hv10, h⟩ := h
  refine q2 (vi v3) (xl (Try.isAgg3 _) hv10) (q0 (vp (some (p3.add 3))) ?_)
  obtain ⟨v4, hv9, h⟩ := h
  refine q2 (vu v4) (xl (Try.isAgg50 _) hv9) (q0 (vp (some (p3.add 4))) ?_)
  obtain ⟨v5, hv8, h⟩ := h
  refine q2 (vs v5) (xl (Try.isAgg9 _) hv8) (q0 (.agg #[(vi v1), (vi v2), (vi v3), (vu v4), (vs v5), Sl.nil.v]) (sn (O := (.cells #[(vi 0), (vi 0), (vi 0), (vu 0), (vs ⟨#[]⟩), Sl.nil.v] 52)) (x_alloc (Try.zeroValue52 _) rfl) ?_))
  intro p4 w6 hn7
  have h := h p4 w6 hn7
  obtain ⟨hp3, h⟩ := h
  refine st_set (want0 rfl) (x_storeA (a := p4) (vs := [(vi v1), (vi v2), (vi v3), (vu v4), (vs v5), Sl.nil.v]) (by kernel_rfl) (by kernel_rfl) rfl (Try.sizeOf52 _) rfl hp3) ?_
  intro w7 hn3
  have h := h w7 hn3
  refine wpL_nil (th_n (wpE_seq (wpE_seq (rg (q0 (vp p1) (q0 (vi t1) ?_))))))
  refine sc Try.call91 (h.mono ?_)
  rintro e w8 ⟨r2, rfl, h⟩
  refine ⟨_, rfl, ?_⟩
  refine q0 (vi (r2.len : Int)) (q0 (vi 0) (wpL_nil (th_n (wpE_block ?_))))
  obtain ⟨I1, mu1, h0, hr⟩ := h
  refine wpE_loop (σ := Int × World) (fun s ρ w => w = s.2 ∧ Has ρ [(0, (vp p1)), (4, (vp (some p2))), (7, (vp (some p4))), (32, r2.v), (33, (vi (r2.len : Int))), (34, (vi s.1))] ∧ I1 s.1 s.2) (fun s => mu1 s.1 s.2) (0, w8) ⟨rfl, hm, h0⟩ ?_
  rintro ⟨x1, wl1⟩ ρ w ⟨hw, hH, hI⟩
  obtain rfl : wl1 = w := (show w = wl1 from hw).symm
  have hH : Has ρ [(0, (vp p1)), (4, (vp (some p2))), (7, (vp (some p4))), (32, r2.v), (33, (vi (r2.len : Int))), (34, (vi x1))] := hH
  have h := hr x1 wl1 hI
  unfold m_Q_l1 at h
  refine wpE_has hH ?_
  refine wpE_seq (rg (q0 (vb (decide (x1 < (r2.len : Int)))) (wpL_nil (th_n (wpE_seq ?_)))))
  refine wpE_cond (t := (decide (x1 < (r2.len : Int)))) (by kernel_rfl) (fun hc2 => ?_) (fun hc2 => ?_)
  ·have h := h.1 hc2
   refine wpE_skip (th_n (wpE_seq (wpE_block (wpE_seq (rg ?_)))))
   obtain ⟨a1, hv5, h⟩ := h
   refine q2 (vp (some a1)) (xi (Try.runUnderlying39 _) (Try.sizeOf32 _) hv5) ?_
   obtain ⟨v6, hv4, h⟩ := h
   refine q2 (vi v6) (xl (Try.isAgg32 _) hv4) (q0 (vi v6) (wpL_nil (th_n ?_)))
   obtain ⟨C1, hC, h⟩ := h
   refine wpE_drawnC C1 [4, 5, 6, 8] [8] (by kernel_rfl) (by kernel_rfl) (by kernel_rfl) (by kernel_rfl) hC ?_
   intro w9 hw9
   have h := h w9 hw9
   refine qx 0 (vp (some (p4.add 5))) Kp0 (qg 1 ?_)
   obtain ⟨v7, hv3, h⟩ := h
   refine sy (v := v7.v) Kp1 (fun w' hw' => (xl (Try.isAgg22 _) (hv3 w' hw'))) (qx 2 (vp p1) Kp2 (qx 3 (vi v6) Kp3 (lg 4 ?_)))
   refine sl_call Kp4 (want0 rfl) (by kernel_rfl) (xc Try.call37) (h.mono ?_)
   rintro e w10 ⟨cM, cN, cO, cP, cQ, cR, rfl, hC, h⟩
   refine ⟨_, rfl, .inr hC, ?_⟩
   refine lg 5 (sl_new (O := (.cells #[(vi cM), (vi cN), (vi cO), (vu cP), (vs cQ), cR.v] 52)) (fun p => (Sl.mk (some p) 1 1).v) Kp5 (want0 rfl) (by kernel_rfl) (x_buildSlice (vs := #[(0, (.agg #[(vi cM), (vi cN), (vi cO), (vu cP), (vs cQ), cR.v]))]) (by kernel_rfl) (by kernel_rfl)) ?_)
   intro p5 w11 hn5
   have h := h p5 w11 hn5
   refine ⟨.inr h.1, ?_⟩
   have h := h.2
   refine lg 6 ?_
   obtain ⟨s1, w12, hv2, hC, h⟩ := h
   refine sl (v := s1.v) Kp6 (want0 rfl) (by kernel_rfl) (x_builtin (args := #[v7.v, (Sl.mk (some p5) 1 1).v]) (by kernel_rfl) (fun _ => rfl) hv2) (.inr hC) ?_
   refine qx 7 (vp (some (p4.add 5))) Kp7 (lg 8 ?_)
   obtain ⟨hp4, h⟩ := h
   refine sl_t Kp8 (xs (v := s1.v) (Try.sizeOf22 _) hp4) ?_
   intro w13 hn4
   have h := h w13 hn4
   refine ⟨.inl (by kernel_rfl), ?_⟩
   refine wn (bl_n (th_n (rg (q0 (vi (q6.wrap (x1 + 1))) (q0 (vi (q6.wrap (x1 + 1))) (wpL_nil (th_n ?_)))))))
   exact ⟨((q6.wrap (x1 + 1)), w13), ⟨rfl, hm, h.1⟩, h.2⟩
  ·have h := h.2 hc2
   refine wpE_exit (th_x (th_x (bl_eq (th_n (wpE_seq (rg ?_))))))
   obtain ⟨aA, aB, aC, aD, aE, bG, hv7, h⟩ := h
   refine q2 (.agg #[(vi aA), (vi aB), (vi aC), (vu aD), (vs aE), bG.v]) (x_loadA (a := p4) (vs := [(vi aA), (vi aB), (vi aC), (vu aD), (vs aE), bG.v]) (by kernel_rfl) (Try.isAgg52 _) (Try.sizeOf52 _) rfl hv7) ?_
   obtain ⟨hp5, h⟩ := h
   refine st_set (want0 rfl) (x_storeA (a := p2) (vs := [(vi aA), (vi aB), (vi aC), (vu aD), (vs aE), bG.v]) (by kernel_rfl) (by kernel_rfl) rfl (Try.sizeOf52 _) rfl hp5) ?_
   intro w14 hn6
   have h := h w14 hn6
   refine wpL_nil (th_n (wpE_ret ?_))
   obtain ⟨bZ, cA, cB, cC, cD, cI, hv6, h⟩ := h
   refine resG (.inl rfl) (vs := [(.agg #[(vi bZ), (vi cA), (vi cB), (vu cC), (vs cD), cI.v])]) (v := (.agg #[(vi bZ), (vi cA), (vi cB), (vu cC), (vs cD), cI.v])) Try.results37 ⟨(RV.cellA (by kernel_rfl) (Try.isAgg52 _) (Try.sizeOf52 _) rfl hv6), trivial⟩ (by kernel_rfl) ?_
   exact ⟨bZ, cA, cB, cC, cD, cI, rfl, h⟩
def m_G2 (p1 : Option Addr) (t1 : Int) (w : World) (K : Int → Int → Int → Int → ByteArray → Int → Int → Bool → WP) : Prop :=
 ∀ (p2 : Addr) (w1 : World), New w (.cells #[(vi 0), (vi 0), (vi 0), (vu 0), (vs ⟨#[]⟩), (vi 0), (vi 0)] 106) p2 w1 →
 Calls Try.prog 119 #[(vp p1), (vi t1)] w1 (fun e w2 => ∃ r1 : Bool, e = .returned (vb r1) ∧ 
  Br (!r1)
   ((∀ j, j < 7 → CanW w2 (p2.add j)) ∧ ∀ w3 : World, w3 = storeRow w2 p2 [(vi 0), (vi 0), (vi 0), (vu 0), (vs ⟨#[]⟩), (vi 0), (vi 0)] →
   ∃ bH bI : Int, ∃ bJ bK : Int, ∃ bL : ByteArray, ∃ cE cF : Int, Row w3 p2 [(vi bH), (vi bI), (vi bJ), (vu bK), (vs bL), (vi cE), (vi cF)] ∧
   K bH bI bJ bK bL cE cF false w3)
   (∃ a1 : Addr, p1 = some a1 ∧
   ∃ v1 : Sl, w2.cell? a1 = some v1.v ∧
   ∃ a2 : Addr, At v1 (q6.wrap (t1 - 1)) 9 a2 ∧
   ∃ aA aB : Int, ∃ aC aD : Int, ∃ aE : ByteArray, ∃ aF aG : Int, Row w2 a2 [(vi aA), (vi aB), (vi aC), (vu aD), (vs aE), (vi aF), (vi aG)] ∧
   (∀ j, j < 7 → CanW w2 (p2.add j)) ∧ ∀ w4 : World, w4 = storeRow w2 p2 [(vi aA), (vi aB), (vi aC), (vu aD), (vs aE), (vi aF), (vi aG)] →
   ∃ bZ cA : Int, ∃ cB cC : Int, ∃ cD : ByteArray, ∃ cK cL : Int, Row w4 p2 [(vi bZ), (vi cA), (vi cB), (vu cC), (vs cD), (vi cK), (vi cL)] ∧
   K bZ cA cB cC cD cK cL true w4))
theorem w_G2 (p1 : Option Addr) (t1 : Int) (w : World) (K : Int → Int → Int → Int → ByteArray → Int → Int → Bool → WP) (h : m_G2 p1 t1 w K) :
  Calls Try.prog 67 #[(vp p1), (vi t1)] w (fun e w' => ∃ aT aU : Int, ∃ aV aW : Int, ∃ aX : ByteArray, ∃ aY aZ : Int, ∃ r2 : Bool, e = .returned (.tuple #[(.agg #[(vi aT), (vi aU), (vi aV), (vu aW), (vs aX), (vi aY), (vi aZ)]), (vb r2)]) ∧ K aT aU aV aW aX aY aZ r2 w') := by
 unfold m_G2 at h
 refine cw (args := [(vp p1), (vi t1)]) Try.func67 Try.ntmps67 (wpE_seq (rg (sn (O := (.cells #[(vi 0), (vi 0), (vi 0), (vu 0), (vs ⟨#[]⟩), (vi 0), (vi 0)] 106)) (x_alloc (Try.zeroValue106 _) rfl) ?_)))
 intro p2 w1 hn3
 have h := h p2 w1 hn3
 refine q0 (vb false) (wpL_nil (th_n (wpE_seq (wpE_seq (rg (q0 (vp p1) (q0 (vi t1) ?_)))))))
 refine sc Try.call119 (h.mono ?_)
 rintro e w2 ⟨r1, rfl, h⟩
 refine ⟨_, rfl, ?_⟩
 refine q0 (vb (!r1)) (wpL_nil (th_n ?_))
 refine wpE_cond (t := (!r1)) (by kernel_rfl) (fun hc1 => ?_) (fun hc1 => ?_)
 ·have h := h.1 hc1
  refine wpE_seq (rg (q0 (.agg #[(vi 0), (vi 0), (vi 0), (vu 0), (vs ⟨#[]⟩), (vi 0), (vi 0)]) ?_))
  obtain ⟨hp1, h⟩ := h
  refine st_set (want0 rfl) (x_storeA (a := p2) (vs := [(vi 0), (vi 0), (vi 0), (vu 0), (vs ⟨#[]⟩), (vi 0), (vi 0)]) (by kernel_rfl) (by kernel_rfl) rfl (Try.sizeOf106 _) rfl hp1) ?_
  intro w3 hn1
  have h := h w3 hn1
  refine q0 (vb false) (wpL_nil (th_n (wpE_ret (th_r ?_))))
  obtain ⟨bH, bI, bJ, bK, bL, cE, cF, hv1, h⟩ := h
  refine resG (.inl rfl) (vs := [(.agg #[(vi bH), (vi bI), (vi bJ), (vu bK), (vs bL), (vi cE), (vi cF)]), (vb false)]) (v := (.tuple #[(.agg #[(vi bH), (vi bI), (vi bJ), (vu bK), (vs bL), (vi cE), (vi cF)]), (vb false)])) Try.results67 ⟨(RV.cellA (by kernel_rfl) (Try.isAgg106 _) (Try.sizeOf106 _) rfl hv1), (rvT (by kernel_rfl)), trivial⟩ (by kernel_rfl) ?_
  exact ⟨bH, bI, bJ, bK, bL, cE, cF, false, rfl, h⟩
 ·have h := h.2 hc1
  refine wpE_skip (th_n (wpE_seq (rg (q0 (vp p1) ?_))))
  obtain ⟨a1, hp2, h⟩ := h
  refine q2 (vp (some a1)) (x_nilCheck (p := p1) (by kernel_rfl) hp2) (q0 (vp (some a1)) ?_)
  obtain ⟨v1, hv5, h⟩ := h
  refine q2 v1.v (xl (Try.isAgg130 _) hv5) (q0 (vi t1) (q0 (vi (q6.wrap (t1 - 1))) ?_))
  obtain ⟨a2, hv4, h⟩ := h
  refine q2 (vp (some a2)) (xi (Try.runUnderlying130 _) (Try.sizeOf178 _) hv4) (q0 (vp (some a2)) ?_)
  obtain ⟨aA, aB, aC, aD, aE, aF, aG, hv3, h⟩ := h
  refine q2 (.agg #[(vi aA), (vi aB), (vi aC), (vu aD), (vs aE), (vi aF), (vi aG)]) (x_loadA (a := a2) (vs := [(vi aA), (vi aB), (vi aC), (vu aD), (vs aE), (vi aF), (vi aG)]) (by kernel_rfl) (Try.isAgg106 _) (Try.sizeOf106 _) rfl hv3) ?_
  obtain ⟨hp3, h⟩ := h
  refine st_set (want0 rfl) (x_storeA (a := p2) (vs := [(vi aA), (vi aB), (vi aC), (vu aD), (vs aE), (vi aF), (vi aG)]) (by kernel_rfl) (by kernel_rfl) rfl (Try.sizeOf106 _) rfl hp3) ?_
  intro w4 hn2
  have h := h w4 hn2
  refine q0 (vb true) (wpL_nil (th_n (wpE_ret ?_)))
  obtain ⟨bZ, cA, cB, cC, cD, cK, cL, hv2, h⟩ := h
  refine resG (.inl rfl) (vs := [(.agg #[(vi bZ), (vi cA), (vi cB), (vu cC), (vs cD), (vi cK), (vi cL)]), (vb true)]) (v := (.tuple #[(.agg #[(vi bZ), (vi cA), (vi cB), (vu cC), (vs cD), (vi cK), (vi cL)]), (vb true)])) Try.results67 ⟨(RV.cellA (by kernel_rfl) (Try.isAgg106 _) (Try.sizeOf106 _) rfl hv2), (rvT (by kernel_rfl)), trivial⟩ (by kernel_rfl) ?_
  exact ⟨bZ, cA, cB, cC, cD, cK, cL, true, rfl, h⟩
def m_H2 (p1 : Option Addr) (n1 : Int) (w : World) (K : Int → Int → WP) : Prop :=
 Calls Try.prog 130 #[(vp p1), (.agg #[(vi 1), (vi n1), (vi 0), (vu 0), (vs ⟨#[]⟩), (vi 0), (vi 0)])] w (fun e w1 => ∃ r1 r2 : Int, e = .returned (.tuple #[(vi r1), (vi r2)]) ∧ 
  K r1 r2 w1)
theorem w_H2 (p1 : Option Addr) (n1 : Int) (w : World) (K : Int → Int → WP) (h : m_H2 p1 n1 w K) :
  Calls Try.prog 79 #[(vp p1), (vi n1)] w (fun e w' => ∃ r3 r4 : Int, e = .returned (.tuple #[(vi r3), (vi r4)]) ∧ K r3 r4 w') := by
 unfold m_H2 at h
 refine cw (args := [(vp p1), (vi n1)]) Try.func79 Try.ntmps79 (wpE_seq (rg (q0 (vi 0) (q0 (vi 0) (wpL_nil (th_n (wpE_seq (rg (q0 (vp p1) (q0 (vi n1) (q0 (.agg #[(vi 1), (vi n1), (vi 0), (vu 0), (vs ⟨#[]⟩), (vi 0), (vi 0)]) ?_)))))))))))
 refine sc Try.call130 (h.mono ?_)
 rintro e w1 ⟨r1, r2, rfl, h⟩
 refine ⟨_, rfl, ?_⟩
 refine q0 (vi r1) (q0 (vi r2) (q0 (vi r1) (q0 (vi r2) (wpL_nil (th_n (wpE_ret (res2 (.inl rfl) Try.results79 (v := (vi r1)) (by kernel_rfl) (v' := (vi r2)) (by kernel_rfl) ?_)))))))
 exact ⟨r1, r2, rfl, h⟩
def m_I2 (p1 : Option Addr) (a1 b1 : Int) (w : World) (K : Int → Int → WP) : Prop :=
 Calls Try.prog 130 #[(vp p1), (.agg #[(vi 4), (vi 0), (vi 0), (vu 0), (vs ⟨#[]⟩), (vi a1), (vi b1)])] w (fun e w1 => ∃ r1 r2 : Int, e = .returned (.tuple #[(vi r1), (vi r2)]) ∧ 
  K r1 r2 w1)
theorem w_I2 (p1 : Option Addr) (a1 b1 : Int) (w : World) (K : Int → Int → WP) (h : m_I2 p1 a1 b1 w K) :
  Calls Try.prog 80 #[(vp p1), (vi a1), (vi b1)] w (fun e w' => ∃ r3 r4 : Int, e = .returned (.tuple #[(vi r3), (vi r4)]) ∧ K r3 r4 w') := by
 unfold m_I2 at h
 refine cw (args := [(vp p1), (vi a1), (vi b1)]) Try.func80 Try.ntmps80 (wpE_seq (rg (q0 (vi 0) (q0 (vi 0) (wpL_nil (th_n (wpE_seq (rg (q0 (vp p1) (q0 (vi a1) (q0 (vi b1) ?_)))))))))))
 refine q0 (.agg #[(vi 4), (vi 0), (vi 0), (vu 0), (vs ⟨#[]⟩), (vi a1), (vi b1)]) ?_
 refine sc Try.call130 (h.mono ?_)
 rintro e w1 ⟨r1, r2, rfl, h⟩
 refine ⟨_, rfl, ?_⟩
 refine q0 (vi r1) (q0 (vi r2) (q0 (vi r1) (q0 (vi r2) (wpL_nil (th_n (wpE_ret (res2 (.inl rfl) Try.results80 (v := (vi r1)) (by kernel_rfl) (v' := (vi r2)) (by kernel_rfl) ?_)))))))
 exact ⟨r1, r2, rfl, h⟩
def m_D_l4 (inside1 : Int) (seen1 : Option Addr) (p1 : Addr) (e3 i1 : Int) (wl1 : World) (Kc4 : Int → Int → WP) (K : Int → WP) : Prop :=
 ∃ v2 : Sl, wl1.cell? (p1.add 5) = some v2.v ∧
 Br (decide (i1 < (v2.len : Int)))
  (Br (e3 == 0)
   (∃ v3 : Sl, wl1.cell? (p1.add 5) = some v3.v ∧
   ∃ a3 : Addr, At v3 i1 6 a3 ∧
   ∃ bM bN : Int, ∃ bO bP : Int, ∃ bQ : ByteArray, ∃ bR : Sl, Row wl1 a3 [(vi bM), (vi bN), (vi bO), (vu bP), (vs bQ), bR.v] ∧
   Calls Try.prog 82 #[(.agg #[(vi bM), (vi bN), (vi bO), (vu bP), (vs bQ), bR.v]), (vi (q6.wrap (inside1 + 1))), (vp seen1)] wl1 (fun e w9 => ∃ r2 : Int, e = .returned (vi r2) ∧ 
    Kc4 r2 (q6.wrap (i1 + 1)) w9))
   (K e3 wl1))
  (K e3 wl1)
def m_D_j3 (inside1 : Int) (seen1 : Option Addr) (p1 : Addr) (e2 : Int) (w : World) (K : Int → WP) : Prop :=
 ∃ (I1 : Int → Int → WP) (mu1 : Int → Int → World → Nat), I1 e2 0 w ∧
  ∀ (e3 i1 : Int) (wl1 : World), I1 e3 i1 wl1 → m_D_l4 inside1 seen1 p1 e3 i1 wl1 (fun y'0 y'1 w' => I1 y'0 y'1 w' ∧ mu1 y'0 y'1 w' < mu1 e3 i1 wl1) K
def m_D_j2 (inside1 : Int) (seen1 : Option Addr) (p1 p2 p3 : Addr) (e1 : Int) (w : World) (K : Int → WP) : Prop :=
 Br (e1 == 0)
  (∃ vfrom1 vto1 : Bool, ∃ vnum1 vtext1 : Bool, ∃ vkids1 : Int, Row w p3 [(vb vfrom1), (vb vto1), (vb vnum1), (vb vtext1), (vi vkids1)] ∧
  ∃ bS bT : Int, ∃ bU bV : Int, ∃ bW : ByteArray, ∃ bX bY : Int, Row w p2 [(vi bS), (vi bT), (vi bU), (vu bV), (vs bW), (vi bX), (vi bY)] ∧
  Calls Try.prog 133 #[(.agg #[(vb vfrom1), (vb vto1), (vb vnum1), (vb vtext1), (vi vkids1)]), (.agg #[(vi bS), (vi bT), (vi bU), (vu bV), (vs bW), (vi bX), (vi bY)])] w (fun e w10 => ∃ r3 : Int, e = .returned (vi r3) ∧ 
   m_D_j3 inside1 seen1 p1 r3 w10 K))
  (m_D_j3 inside1 seen1 p1 e1 w K)
def m_D_j1 (inside1 : Int) (seen1 : Option Addr) (p1 : Addr) (w : World) (K : Int → WP) : Prop :=
 ∃ a1 : Addr, seen1 = some a1 ∧
 ∃ v1 : Int, w.cell? a1 = some (vi v1) ∧
 ∃ a2 : Addr, seen1 = some a2 ∧
 CanW w a2 ∧ ∀ w2 : World, w2 = w.setCell a2 (vi (q6.wrap (v1 + 1))) →
 ∃ aA aB : Int, ∃ aC aD : Int, ∃ aE : ByteArray, ∃ bG : Sl, Row w2 p1 [(vi aA), (vi aB), (vi aC), (vu aD), (vs aE), bG.v] ∧
 Calls Try.prog 131 #[(.agg #[(vi aA), (vi aB), (vi aC), (vu aD), (vs aE), bG.v])] w2 (fun e w3 => ∃ aT aU : Int, ∃ aV aW : Int, ∃ aX : ByteArray, ∃ aY aZ : Int, e = .returned (.agg #[(vi aT), (vi aU), (vi aV), (vu aW), (vs aX), (vi aY), (vi aZ)]) ∧ 
  ∀ (p2 : Addr) (w4 : World), New w3 (.cells #[(vi 0), (vi 0), (vi 0), (vu 0), (vs ⟨#[]⟩), (vi 0), (vi 0)] 106) p2 w4 →
  (∀ j, j < 7 → CanW w4 (p2.add j)) ∧ ∀ w5 : World, w5 = storeRow w4 p2 [(vi aT), (vi aU), (vi aV), (vu aW), (vs aX), (vi aY), (vi aZ)] →
  ∃ aO aP : Int, ∃ aQ aR : Int, ∃ aS : ByteArray, ∃ aF aG : Int, Row w5 p2 [(vi aO), (vi aP), (vi aQ), (vu aR), (vs aS), (vi aF), (vi aG)] ∧
  Calls Try.prog 132 #[(.agg #[(vi aO), (vi aP), (vi aQ), (vu aR), (vs aS), (vi aF), (vi aG)])] w5 (fun e w6 => ∃ rfrom1 rto1 : Bool, ∃ rnum1 rtext1 : Bool, ∃ rkids1 r1 : Int, e = .returned (.tuple #[(.agg #[(vb rfrom1), (vb rto1), (vb rnum1), (vb rtext1), (vi rkids1)]), (vi r1)]) ∧ 
   ∀ (p3 : Addr) (w7 : World), New w6 (.cells #[(vb false), (vb false), (vb false), (vb false), (vi 0)] 202) p3 w7 →
   (∀ j, j < 5 → CanW w7 (p3.add j)) ∧ ∀ w8 : World, w8 = storeRow w7 p3 [(vb rfrom1), (vb rto1), (vb rnum1), (vb rtext1), (vi rkids1)] →
   Br (r1 == 0)
    (∃ v4 : Sl, w8.cell? (p1.add 5) = some v4.v ∧
    ∃ v5 : Int, w8.cell? (p3.add 4) = some (vi v5) ∧
    Br (((v4.len : Int) : Int) != v5)
     (m_D_j2 inside1 seen1 p1 p2 p3 53 w8 K)
     (m_D_j2 inside1 seen1 p1 p2 p3 r1 w8 K))
    (m_D_j2 inside1 seen1 p1 p2 p3 r1 w8 K)))
def m_D (bA bB : Int) (bC bD : Int) (bE : ByteArray) (bF : Sl) (inside1 : Int) (seen1 : Option Addr) (w : World) (K : Int → WP) : Prop :=
 ∀ (p1 : Addr) (w1 : World), New w (.cells #[(vi bA), (vi bB), (vi bC), (vu bD), (vs bE), bF.v] 52) p1 w1 →
 ∃ a4 : Addr, seen1 = some a4 ∧
 ∃ v6 : Int, w1.cell? a4 = some (vi v6) ∧
 Br (decide (v6 ≥ 4096))
  (K 52 w1)
  (Br (decide (inside1 ≥ 64))
   (K 52 w1)
   (m_D_j1 inside1 seen1 p1 w1 K))
theorem w_D (bA bB : Int) (bC bD : Int) (bE : ByteArray) (bF : Sl) (inside1 : Int) (seen1 : Option Addr) (w : World) (K : Int → WP) (h : m_D bA bB bC bD bE bF inside1 seen1 w K) :
  Calls Try.prog 82 #[(.agg #[(vi bA), (vi bB), (vi bC), (vu bD), (vs bE), bF.v]), (vi inside1), (vp seen1)] w (fun e w' => ∃ r4 : Int, e = .returned (vi r4) ∧ K r4 w') := by
 unfold m_D at h
 refine cw (args := [(.agg #[(vi bA), (vi bB), (vi bC), (vu bD), (vs bE), bF.v]), (vi inside1), (vp seen1)]) Try.func82 Try.ntmps82 (wpE_seq (rg (sn (O := (.cells #[(vi bA), (vi bB), (vi bC), (vu bD), (vs bE), bF.v] 52)) xb ?_)))
 intro p1 w1 hn6
 have h := h p1 w1 hn6
 refine q0 (vi 0) (wpL_nil (th_n ?_))
 refine wpE_join (fun ρ w => Has ρ [(1, (vi inside1)), (2, (vp seen1)), (3, (vp (some p1)))] ∧ m_D_j1 inside1 seen1 p1 w K) ?_ ?_
 ·rintro ρ w ⟨hH, h⟩
  unfold m_D_j1 at h
  refine wpE_has hH ?_
  refine wpE_seq (rg (q0 (vp seen1) ?_))
  obtain ⟨a1, hp1, h⟩ := h
  refine q2 (vp (some a1)) (x_nilCheck (p := seen1) (by kernel_rfl) hp1) ?_
  obtain ⟨v1, hv11, h⟩ := h
  refine q2 (vi v1) (xl (Try.isAgg3 _) hv11) (q0 (vi (q6.wrap (v1 + 1))) ?_)
  obtain ⟨a2, hp2, h⟩ := h
  refine q2 (vp (some a2)) (x_nilCheck (p := seen1) (by kernel_rfl) hp2) ?_
  obtain ⟨hp3, h⟩ := h
  refine st_set (want0 rfl) (x_store (a := a2) (v := (vi (q6.wrap (v1 + 1)))) (by kernel_rfl) (by kernel_rfl) rfl (Try.sizeOf3 _) hp3) ?_
  intro w2 hn1
  have h := h w2 hn1
  refine wpL_nil (th_n (wpE_seq (rg ?_)))
  obtain ⟨aA, aB, aC, aD, aE, bG, hv10, h⟩ := h
  refine q2 (.agg #[(vi aA), (vi aB), (vi aC), (vu aD), (vs aE), bG.v]) (x_loadA (a := p1) (vs := [(vi aA), (vi aB), (vi aC), (vu aD), (vs aE), bG.v]) (by kernel_rfl) (Try.isAgg52 _) (Try.sizeOf52 _) rfl hv10) ?_
  refine sc Try.call131 (h.mono ?_)
  rintro e w3 ⟨aT, aU, aV, aW, aX, aY, aZ, rfl, h⟩
  refine ⟨_, rfl, ?_⟩
  refine sn (O := (.cells #[(vi 0), (vi 0), (vi 0), (vu 0), (vs ⟨#[]⟩), (vi 0), (vi 0)] 106)) (x_alloc (Try.zeroValue106 _) rfl) ?_
  intro p2 w4 hn5
  have h := h p2 w4 hn5
  obtain ⟨hp4, h⟩ := h
  refine st_set (want0 rfl) (x_storeA (a := p2) (vs := [(vi aT), (vi aU), (vi aV), (vu aW), (vs aX), (vi aY), (vi aZ)]) (by kernel_rfl) (by kernel_rfl) rfl (Try.sizeOf106 _) rfl hp4) ?_
  intro w5 hn2
  have h := h w5 hn2
  refine wpL_nil (th_n (wpE_seq (rg ?_)))
  obtain ⟨aO, aP, aQ, aR, aS, aF, aG, hv9, h⟩ := h
  refine q2 (.agg #[(vi aO), (vi aP), (vi aQ), (vu aR), (vs aS), (vi aF), (vi aG)]) (x_loadA (a := p2) (vs := [(vi aO), (vi aP), (vi aQ), (vu aR), (vs aS), (vi aF), (vi aG)]) (by kernel_rfl) (Try.isAgg106 _) (Try.sizeOf106 _) rfl hv9) ?_
  refine sc Try.call132 (h.mono ?_)
  rintro e w6 ⟨rfrom1, rto1, rnum1, rtext1, rkids1, r1, rfl, h⟩
  refine ⟨_, rfl, ?_⟩
  refine q0 (.tuple #[(.agg #[(vb rfrom1), (vb rto1), (vb rnum1), (vb rtext1), (vi rkids1)]), (vi r1)]) (q0 (.agg #[(vb rfrom1), (vb rto1), (vb rnum1), (vb rtext1), (vi rkids1)]) (q0 (vi r1) (sn (O := (.cells #[(vb false), (vb false), (vb false), (vb false), (vi 0)] 202)) (x_alloc (Try.zeroValue202 _) rfl) ?_)))
  intro p3 w7 hn4
  have h := h p3 w7 hn4
  obtain ⟨hp5, h⟩ := h
  refine st_set (want0 rfl) (x_storeA (a := p3) (vs := [(vb rfrom1), (vb rto1), (vb rnum1), (vb rtext1), (vi rkids1)]) (by kernel_rfl) (by kernel_rfl) rfl (Try.sizeOf202 _) rfl hp5) ?_
  intro w8 hn3
  have h := h w8 hn3
  refine q0 (vi r1) (wpL_nil (th_n ?_))
  refine wpE_join (fun ρ w => ∃ e1 : Int, Has ρ [(1, (vi inside1)), (2, (vp seen1)), (3, (vp (some p1))), (7, (vp (some p2))), (8, (vp (some p3))), (9, (vi e1))] ∧ m_D_j2 inside1 seen1 p1 p2 p3 e1 w K) ?_ ?_
  ·rintro ρ w ⟨e1, hH, h⟩
   unfold m_D_j2 at h
   refine wpE_has hH ?_
   refine wpE_join (fun ρ w => ∃ e2 : Int, Has ρ [(1, (vi inside1)), (2, (vp seen1)), (3, (vp (some p1))), (9, (vi e2))] ∧ m_D_j3 inside1 seen1 p1 e2 w K) ?_ ?_
   ·rintro ρ w ⟨e2, hH, h⟩
    unfold m_D_j3 at h
    refine wpE_has hH ?_
    refine wpE_seq (wpE_seq (rg (q0 (vi 0) (wpL_nil (th_n (wpE_block ?_))))))
    obtain ⟨I1, mu1, h0, hr⟩ := h
    refine wpE_loop (σ := Int × Int × World) (fun s ρ w => w = s.2.2 ∧ Has ρ [(1, (vi inside1)), (2, (vp seen1)), (3, (vp (some p1))), (9, (vi s.1)), (10, (vi s.2.1))] ∧ I1 s.1 s.2.1 s.2.2) (fun s => mu1 s.1 s.2.1 s.2.2) (e2, 0, w) ⟨rfl, hm, h0⟩ ?_
    rintro ⟨e3, i1, wl1⟩ ρ w ⟨hw, hH, hI⟩
    obtain rfl : wl1 = w := (show w = wl1 from hw).symm
    have hH : Has ρ [(1, (vi inside1)), (2, (vp seen1)), (3, (vp (some p1))), (9, (vi e3)), (10, (vi i1))] := hH
    have h := hr e3 i1 wl1 hI
    unfold m_D_l4 at h
    refine wpE_has hH ?_
    refine wpE_seq (wpE_seq (rg (q0 (vi i1) (q0 (vp (some (p1.add 5))) ?_))))
    obtain ⟨v2, hv4, h⟩ := h
    refine q2 v2.v (xl (Try.isAgg22 _) hv4) (q0 (vi (v2.len : Int)) (q0 (vb (decide (i1 < (v2.len : Int)))) (q0 (vb (decide (i1 < (v2.len : Int)))) ?_)))
    rcases Bool.eq_false_or_eq_true (decide (i1 < (v2.len : Int))) with hg1 | hg1
    ·have h := h.1 hg1
     refine q1 (vi e3) (want1 rfl (yD 51 hg1)) (q1 (vb (e3 == 0)) (want1 rfl (yD 51 hg1)) (q2 (vb (e3 == 0)) (xT hg1) (wpL_nil (th_n ?_))))
     refine wpE_cond (t := (e3 == 0)) (by kernel_rfl) (fun hc1 => ?_) (fun hc1 => ?_)
     ·have h := h.1 hc1
      refine wpE_skip (th_n (wpE_seq (wpE_block (rg (q0 (vp (some (p1.add 5))) ?_)))))
      obtain ⟨v3, hv3, h⟩ := h
      refine q2 v3.v (xl (Try.isAgg22 _) hv3) (q0 (vi i1) ?_)
      obtain ⟨a3, hv2, h⟩ := h
      refine q2 (vp (some a3)) (xi (Try.runUnderlying22 _) (Try.sizeOf52 _) hv2) ?_
      obtain ⟨bM, bN, bO, bP, bQ, bR, hv1, h⟩ := h
      refine q2 (.agg #[(vi bM), (vi bN), (vi bO), (vu bP), (vs bQ), bR.v]) (x_loadA (a := a3) (vs := [(vi bM), (vi bN), (vi bO), (vu bP), (vs bQ), bR.v]) (by kernel_rfl) (Try.isAgg52 _) (Try.sizeOf52 _) rfl hv1) (q0 (vi inside1) (q0 (vi (q6.wrap (inside1 + 1))) (q0 (vp seen1) ?_)))
      refine sc Try.call82 (h.mono ?_)
      rintro e w9 ⟨r2, rfl, h⟩
      refine ⟨_, rfl, ?_⟩
      refine q0 (vi r2) (wpL_nil (bl_n (th_n (rg (q0 (vi i1) (q0 (vi (q6.wrap (i1 + 1))) (q0 (vi (q6.wrap (i1 + 1))) (wpL_nil (th_n ?_)))))))))
      exact ⟨(r2, (q6.wrap (i1 + 1)), w9), ⟨rfl, hm, h.1⟩, h.2⟩
     ·have h := h.2 hc1
      refine wpE_exit (th_x (th_x (bl_eq (th_n (wpE_seq (rg (q0 (vi e3) (q0 (vi e3) (wpL_nil (th_n (wpE_ret ?_)))))))))))
      refine rs1 Try.results82 (v := (vi e3)) ?_
      exact ⟨e3, rfl, h⟩
    ·have h := h.2 hg1
     refine sk (yD 51 hg1) (sk (yD 51 hg1) (q2 (vb false) (xF hg1) (wpL_nil (th_n (wpE_condF (by kernel_rfl) (wpE_exit (th_x (th_x (bl_eq (th_n (wpE_seq ?_)))))))))))
     refine rg (q0 (vi e3) (q0 (vi e3) (wpL_nil (th_n (wpE_ret (rs1 Try.results82 (v := (vi e3)) ?_))))))
     exact ⟨e3, rfl, h⟩
   ·refine wpE_seq (rg (q0 (vi e1) (q0 (vb (e1 == 0)) (wpL_nil (th_n ?_)))))
    refine wpE_cond (t := (e1 == 0)) (by kernel_rfl) (fun hc2 => ?_) (fun hc2 => ?_)
    ·have h := h.1 hc2
     refine rg ?_
     obtain ⟨vfrom1, vto1, vnum1, vtext1, vkids1, hv6, h⟩ := h
     refine q2 (.agg #[(vb vfrom1), (vb vto1), (vb vnum1), (vb vtext1), (vi vkids1)]) (x_loadA (a := p3) (vs := [(vb vfrom1), (vb vto1), (vb vnum1), (vb vtext1), (vi vkids1)]) (by kernel_rfl) (Try.isAgg202 _) (Try.sizeOf202 _) rfl hv6) ?_
     obtain ⟨bS, bT, bU, bV, bW, bX, bY, hv5, h⟩ := h
     refine q2 (.agg #[(vi bS), (vi bT), (vi bU), (vu bV), (vs bW), (vi bX), (vi bY)]) (x_loadA (a := p2) (vs := [(vi bS), (vi bT), (vi bU), (vu bV), (vs bW), (vi bX), (vi bY)]) (by kernel_rfl) (Try.isAgg106 _) (Try.sizeOf106 _) rfl hv5) ?_
     refine sc Try.call133 (h.mono ?_)
     rintro e w10 ⟨r3, rfl, h⟩
     refine ⟨_, rfl, ?_⟩
     refine q0 (vi r3) (wpL_nil (th_n ?_))
     exact ⟨r3, hm, h⟩
    ·have h := h.2 hc2
     refine wpE_skip (th_n ?_)
     exact ⟨e1, hm, h⟩
  ·refine wpE_seq (rg (q0 (vi r1) (q0 (vb (r1 == 0)) (q0 (vb (r1 == 0)) ?_))))
   rcases Bool.eq_false_or_eq_true (r1 == 0) with hg2 | hg2
   ·have h := h.1 hg2
    refine q1 (vp (some (p1.add 5))) (want1 rfl (yD 33 hg2)) ?_
    obtain ⟨v4, hv8, h⟩ := h
    refine stp (v := v4.v) (want1 rfl (yD 33 hg2)) (xl (Try.isAgg22 _) hv8) (q1 (vi (v4.len : Int)) (want1 rfl (yD 33 hg2)) (q1 (vp (some (p3.add 4))) (want1 rfl (yD 33 hg2)) ?_))
    obtain ⟨v5, hv7, h⟩ := h
    refine stp (v := (vi v5)) (want1 rfl (yD 33 hg2)) (xl (Try.isAgg3 _) hv7) (q1 (vb (((v4.len : Int) : Int) != v5)) (want1 rfl (yD 33 hg2)) (q2 (vb (((v4.len : Int) : Int) != v5)) (xT hg2) (wpL_nil (th_n ?_))))
    refine wpE_cond (t := (((v4.len : Int) : Int) != v5)) (by kernel_rfl) (fun hc3 => ?_) (fun hc3 => ?_)
    ·have h := h.1 hc3
     refine rg (q0 (vi 53) (wpL_nil (th_n ?_)))
     exact ⟨53, hm, h⟩
    ·have h := h.2 hc3
     refine wpE_skip (th_n ?_)
     exact ⟨r1, hm, h⟩
   ·have h := h.2 hg2
    refine sk (yD 33 hg2) (sk (yD 33 hg2) (sk (yD 33 hg2) (sk (yD 33 hg2) (sk (yD 33 hg2) (sk (yD 33 hg2) (q2 (vb false) (xF hg2) (wpL_nil (th_n (wpE_condF (by kernel_rfl) (wpE_skip (th_n ?_)))))))))))
    exact ⟨r1, hm, h⟩
 ·refine wpE_seq (rg (q0 (vp seen1) ?_))
  obtain ⟨a4, hp6, h⟩ := h
  refine q2 (vp (some a4)) (x_nilCheck (p := seen1) (by kernel_rfl) hp6) ?_
  obtain ⟨v6, hv12, h⟩ := h
  refine q2 (vi v6) (xl (Try.isAgg3 _) hv12) (q0 (vb (decide (v6 ≥ 4096))) (q0 (vb (decide (v6 ≥ 4096))) ?_))
  rcases Bool.eq_false_or_eq_true (decide (v6 ≥ 4096)) with hg3 | hg3
  ·have h := h.1 hg3
   refine sk (yD 15 hg3) (sk (yD 15 hg3) (q2 (vb true) (xT hg3) (wpL_nil (th_n (wpE_condT (by kernel_rfl) (wpE_seq (rg (q0 (vi 52) (wpL_nil (th_n (wpE_ret ?_)))))))))))
   refine th_r (rs1 Try.results82 (v := (vi 52)) ?_)
   exact ⟨52, rfl, h⟩
  ·have h := h.2 hg3
   refine q1 (vi inside1) (want1 rfl (yD 15 hg3)) (q1 (vb (decide (inside1 ≥ 64))) (want1 rfl (yD 15 hg3)) (q2 (vb (decide (inside1 ≥ 64))) (xF hg3) (wpL_nil (th_n ?_))))
   refine wpE_cond (t := (decide (inside1 ≥ 64))) (by kernel_rfl) (fun hc4 => ?_) (fun hc4 => ?_)
   ·have h := h.1 hc4
    refine wpE_seq (rg (q0 (vi 52) (wpL_nil (th_n (wpE_ret (th_r (rs1 Try.results82 (v := (vi 52)) ?_)))))))
    exact ⟨52, rfl, h⟩
   ·have h := h.2 hc4
    refine wpE_skip (th_n ?_)
    exact ⟨hm, h⟩
def m_R_l1 (p1 : Option Addr) (p3 p4 : Addr) (v1 : Sl) (x1 : Int) (wl1 : World) (Kc1 : Int → WP) (K : Int → Int → WP) : Prop :=
 Br (decide (x1 < (v1.len : Int)))
  (∃ a1 : Addr, At v1 x1 6 a1 ∧
  ∃ aO aP : Int, ∃ aQ aR : Int, ∃ aS : ByteArray, ∃ bR : Sl, Row wl1 a1 [(vi aO), (vi aP), (vi aQ), (vu aR), (vs aS), bR.v] ∧
  ∀ (p5 : Addr) (w6 : World), New wl1 (.cells #[(vi 0), (vi 0), (vi 0), (vu 0), (vs ⟨#[]⟩), Sl.nil.v] 52) p5 w6 →
  (∀ j, j < 6 → CanW w6 (p5.add j)) ∧ ∀ w7 : World, w7 = storeRow w6 p5 [(vi aO), (vi aP), (vi aQ), (vu aR), (vs aS), bR.v] →
  ∃ bM bN : Int, ∃ bO bP : Int, ∃ bQ : ByteArray, ∃ cS : Sl, Row w7 p5 [(vi bM), (vi bN), (vi bO), (vu bP), (vs bQ), cS.v] ∧
  Calls Try.prog 83 #[(vp p1), (.agg #[(vi bM), (vi bN), (vi bO), (vu bP), (vs bQ), cS.v])] w7 (fun e w8 => ∃ r1 r2 : Int, e = .returned (.tuple #[(vi r1), (vi r2)]) ∧ 
   Br (r2 != 0)
    (K 0 r2 w8)
    (∃ a2 : Addr, At (Sl.mk (some p4) 2 2) x1 1 a2 ∧
    ∃ v2 : Option Addr, w8.cell? a2 = some (vp v2) ∧
    ∃ a3 : Addr, v2 = some a3 ∧
    CanW w8 a3 ∧ ∀ w9 : World, w9 = w8.setCell a3 (vi r1) →
    Kc1 (q6.wrap (x1 + 1)) w9)))
  (∃ bS bT : Int, ∃ bU bV : Int, ∃ bW : ByteArray, ∃ aF aG : Int, Row wl1 p3 [(vi bS), (vi bT), (vi bU), (vu bV), (vs bW), (vi aF), (vi aG)] ∧
  Calls Try.prog 130 #[(vp p1), (.agg #[(vi bS), (vi bT), (vi bU), (vu bV), (vs bW), (vi aF), (vi aG)])] wl1 (fun e w10 => ∃ r3 r4 : Int, e = .returned (.tuple #[(vi r3), (vi r4)]) ∧ 
   K r3 r4 w10))
def m_R (p1 : Option Addr) (bA bB : Int) (bC bD : Int) (bE : ByteArray) (bF : Sl) (w : World) (K : Int → Int → WP) : Prop :=
 ∀ (p2 : Addr) (w1 : World), New w (.cells #[(vi bA), (vi bB), (vi bC), (vu bD), (vs bE), bF.v] 52) p2 w1 →
 ∃ aA aB : Int, ∃ aC aD : Int, ∃ aE : ByteArray, ∃ bG : Sl, Row w1 p2 [(vi aA), (vi aB), (vi aC), (vu aD), (vs aE), bG.v] ∧
 Calls Try.prog 131 #[(.agg #[(vi aA), (vi aB), (vi aC), (vu aD), (vs aE), bG.v])] w1 (fun e w2 => ∃ aT aU : Int, ∃ aV aW : Int, ∃ aX : ByteArray, ∃ aY aZ : Int, e = .returned (.agg #[(vi aT), (vi aU), (vi aV), (vu aW), (vs aX), (vi aY), (vi aZ)]) ∧ 
  ∀ (p3 : Addr) (w3 : World), New w2 (.cells #[(vi 0), (vi 0), (vi 0), (vu 0), (vs ⟨#[]⟩), (vi 0), (vi 0)] 106) p3 w3 →
  (∀ j, j < 7 → CanW w3 (p3.add j)) ∧ ∀ w4 : World, w4 = storeRow w3 p3 [(vi aT), (vi aU), (vi aV), (vu aW), (vs aX), (vi aY), (vi aZ)] →
  ∀ (p4 : Addr) (w5 : World), New w4 (.cells #[(vp (some (p3.add 5))), (vp (some (p3.add 6)))] 206) p4 w5 →
  ∃ v1 : Sl, w5.cell? (p2.add 5) = some v1.v ∧
  ∃ (I1 : Int → WP) (mu1 : Int → World → Nat), I1 0 w5 ∧
   ∀ (x1 : Int) (wl1 : World), I1 x1 wl1 → m_R_l1 p1 p3 p4 v1 x1 wl1 (fun y'0 w' => I1 y'0 w' ∧ mu1 y'0 w' < mu1 x1 wl1) K)
theorem w_R (p1 : Option Addr) (bA bB : Int) (bC bD : Int) (bE : ByteArray) (bF : Sl) (w : World) (K : Int → Int → WP) (h : m_R p1 bA bB bC bD bE bF w K) :
  Calls Try.prog 83 #[(vp p1), (.agg #[(vi bA), (vi bB), (vi bC), (vu bD), (vs bE), bF.v])] w (fun e w' => ∃ r5 r6 : Int, e = .returned (.tuple #[(vi r5), (vi r6)]) ∧ K r5 r6 w') := by
 unfold m_R at h
 refine cw (args := [(vp p1), (.agg #[(vi bA), (vi bB), (vi bC), (vu bD), (vs bE), bF.v])]) Try.func83 Try.ntmps83 (wpE_seq (rg (sn (O := (.cells #[(vi bA), (vi bB), (vi bC), (vu bD), (vs bE), bF.v] 52)) xb ?_)))
 intro p2 w1 hn7
 have h := h p2 w1 hn7
 refine q0 (vi 0) (q0 (vi 0) (wpL_nil (th_n (wpE_seq (rg ?_)))))
 obtain ⟨aA, aB, aC, aD, aE, bG, hv8, h⟩ := h
 refine q2 (.agg #[(vi aA), (vi aB), (vi aC), (vu aD), (vs aE), bG.v]) (x_loadA (a := p2) (vs := [(vi aA), (vi aB), (vi aC), (vu aD), (vs aE), bG.v]) (by kernel_rfl) (Try.isAgg52 _) (Try.sizeOf52 _) rfl hv8) ?_
 refine sc Try.call131 (h.mono ?_)
 rintro e w2 ⟨aT, aU, aV, aW, aX, aY, aZ, rfl, h⟩
 refine ⟨_, rfl, ?_⟩
 refine sn (O := (.cells #[(vi 0), (vi 0), (vi 0), (vu 0), (vs ⟨#[]⟩), (vi 0), (vi 0)] 106)) (x_alloc (Try.zeroValue106 _) rfl) ?_
 intro p3 w3 hn6
 have h := h p3 w3 hn6
 obtain ⟨hp1, h⟩ := h
 refine st_set (want0 rfl) (x_storeA (a := p3) (vs := [(vi aT), (vi aU), (vi aV), (vu aW), (vs aX), (vi aY), (vi aZ)]) (by kernel_rfl) (by kernel_rfl) rfl (Try.sizeOf106 _) rfl hp1) ?_
 intro w4 hn1
 have h := h w4 hn1
 refine wpL_nil (th_n (wpE_seq (rg (q0 (vp (some (p3.add 5))) (q0 (vp (some (p3.add 6))) (st_new (O := (.cells #[(vp (some (p3.add 5))), (vp (some (p3.add 6)))] 206)) (fun p => (Sl.mk (some p) 2 2).v) (want0 rfl) (x_buildSlice (vs := #[(0, (vp (some (p3.add 5)))), (1, (vp (some (p3.add 6))))]) (by kernel_rfl) (by kernel_rfl)) ?_))))))
 intro p4 w5 hn5
 have h := h p4 w5 hn5
 refine q0 ((Sl.mk (some p4) 2 2).v) (wpL_nil (th_n (wpE_seq (wpE_seq (rg (q0 (vp (some (p2.add 5))) ?_))))))
 obtain ⟨v1, hv7, h⟩ := h
 refine q2 v1.v (xl (Try.isAgg22 _) hv7) (q0 (vi (v1.len : Int)) (q0 (vi 0) (wpL_nil (th_n (wpE_block ?_)))))
 obtain ⟨I1, mu1, h0, hr⟩ := h
 refine wpE_loop (σ := Int × World) (fun s ρ w => w = s.2 ∧ Has ρ [(0, (vp p1)), (6, (vp (some p3))), (7, (Sl.mk (some p4) 2 2).v), (18, v1.v), (19, (vi (v1.len : Int))), (20, (vi s.1))] ∧ I1 s.1 s.2) (fun s => mu1 s.1 s.2) (0, w5) ⟨rfl, hm, h0⟩ ?_
 rintro ⟨x1, wl1⟩ ρ w ⟨hw, hH, hI⟩
 obtain rfl : wl1 = w := (show w = wl1 from hw).symm
 have hH : Has ρ [(0, (vp p1)), (6, (vp (some p3))), (7, (Sl.mk (some p4) 2 2).v), (18, v1.v), (19, (vi (v1.len : Int))), (20, (vi x1))] := hH
 have h := hr x1 wl1 hI
 unfold m_R_l1 at h
 refine wpE_has hH ?_
 refine wpE_seq (rg (q0 (vb (decide (x1 < (v1.len : Int)))) (wpL_nil (th_n (wpE_seq ?_)))))
 refine wpE_cond (t := (decide (x1 < (v1.len : Int)))) (by kernel_rfl) (fun hc1 => ?_) (fun hc1 => ?_)
 ·have h := h.1 hc1
  refine wpE_skip (th_n (wpE_seq (wpE_block (wpE_seq (rg (q0 (vi x1) ?_))))))
  obtain ⟨a1, hv5, h⟩ := h
  refine q2 (vp (some a1)) (xi (Try.runUnderlying22 _) (Try.sizeOf52 _) hv5) ?_
  obtain ⟨aO, aP, aQ, aR, aS, bR, hv4, h⟩ := h
  refine q2 (.agg #[(vi aO), (vi aP), (vi aQ), (vu aR), (vs aS), bR.v]) (x_loadA (a := a1) (vs := [(vi aO), (vi aP), (vi aQ), (vu aR), (vs aS), bR.v]) (by kernel_rfl) (Try.isAgg52 _) (Try.sizeOf52 _) rfl hv4) (sn (O := (.cells #[(vi 0), (vi 0), (vi 0), (vu 0), (vs ⟨#[]⟩), Sl.nil.v] 52)) (x_alloc (Try.zeroValue52 _) rfl) ?_)
  intro p5 w6 hn4
  have h := h p5 w6 hn4
  refine q0 (vi x1) ?_
  obtain ⟨hp2, h⟩ := h
  refine st_set (want0 rfl) (x_storeA (a := p5) (vs := [(vi aO), (vi aP), (vi aQ), (vu aR), (vs aS), bR.v]) (by kernel_rfl) (by kernel_rfl) rfl (Try.sizeOf52 _) rfl hp2) ?_
  intro w7 hn2
  have h := h w7 hn2
  refine wpL_nil (th_n (wpE_seq (rg (q0 (vp p1) ?_))))
  obtain ⟨bM, bN, bO, bP, bQ, cS, hv3, h⟩ := h
  refine q2 (.agg #[(vi bM), (vi bN), (vi bO), (vu bP), (vs bQ), cS.v]) (x_loadA (a := p5) (vs := [(vi bM), (vi bN), (vi bO), (vu bP), (vs bQ), cS.v]) (by kernel_rfl) (Try.isAgg52 _) (Try.sizeOf52 _) rfl hv3) ?_
  refine sc Try.call83 (h.mono ?_)
  rintro e w8 ⟨r1, r2, rfl, h⟩
  refine ⟨_, rfl, ?_⟩
  refine q0 (.tuple #[(vi r1), (vi r2)]) (q0 (vi r1) (q0 (vi r2) (q0 (vi r1) (q0 (vi r2) (wpL_nil (th_n (wpE_seq (wpE_seq (rg (q0 (vi r2) (q0 (vb (r2 != 0)) ?_)))))))))))
  refine wpL_nil (th_n ?_)
  refine wpE_cond (t := (r2 != 0)) (by kernel_rfl) (fun hc2 => ?_) (fun hc2 => ?_)
  ·have h := h.1 hc2
   refine wpE_seq (rg (q0 (vi r2) (q0 (vi 0) (q0 (vi r2) (wpL_nil (th_n (wpE_ret (th_r (bl_r (th_r (th_r ?_)))))))))))
   refine bl_r (th_r (res2 (.inl rfl) Try.results83 (v := (vi 0)) (by kernel_rfl) (v' := (vi r2)) (by kernel_rfl) ?_))
   exact ⟨0, r2, rfl, h⟩
  ·have h := h.2 hc2
   refine wpE_skip (th_n (rg (q0 ((Sl.mk (some p4) 2 2).v) (q0 (vi x1) ?_))))
   obtain ⟨a2, hv2, h⟩ := h
   refine q2 (vp (some a2)) (xi (Try.runUnderlying207 _) (Try.sizeOf206 _) hv2) ?_
   obtain ⟨v2, hv1, h⟩ := h
   refine q2 (vp v2) (xl (Try.isAgg206 _) hv1) (q0 (vi r1) ?_)
   obtain ⟨a3, hp3, h⟩ := h
   refine q2 (vp (some a3)) (x_nilCheck (p := v2) (by kernel_rfl) hp3) ?_
   obtain ⟨hp4, h⟩ := h
   refine st_set (want0 rfl) (x_store (a := a3) (v := (vi r1)) (by kernel_rfl) (by kernel_rfl) rfl (Try.sizeOf32 _) hp4) ?_
   intro w9 hn3
   have h := h w9 hn3
   refine wpL_nil (bl_n (th_n (rg (q0 (vi (q6.wrap (x1 + 1))) (q0 (vi (q6.wrap (x1 + 1))) (wpL_nil (th_n ?_)))))))
   exact ⟨((q6.wrap (x1 + 1)), w9), ⟨rfl, hm, h.1⟩, h.2⟩
 ·have h := h.2 hc1
  refine wpE_exit (th_x (th_x (bl_eq (th_n (wpE_seq (rg (q0 (vp p1) ?_)))))))
  obtain ⟨bS, bT, bU, bV, bW, aF, aG, hv6, h⟩ := h
  refine q2 (.agg #[(vi bS), (vi bT), (vi bU), (vu bV), (vs bW), (vi aF), (vi aG)]) (x_loadA (a := p3) (vs := [(vi bS), (vi bT), (vi bU), (vu bV), (vs bW), (vi aF), (vi aG)]) (by kernel_rfl) (Try.isAgg106 _) (Try.sizeOf106 _) rfl hv6) ?_
  refine sc Try.call130 (h.mono ?_)
  rintro e w10 ⟨r3, r4, rfl, h⟩
  refine ⟨_, rfl, ?_⟩
  refine q0 (vi r3) (q0 (vi r4) (q0 (vi r3) (q0 (vi r4) (wpL_nil (th_n (wpE_ret (res2 (.inl rfl) Try.results83 (v := (vi r3)) (by kernel_rfl) (v' := (vi r4)) (by kernel_rfl) ?_)))))))
  exact ⟨r3, r4, rfl, h⟩
def m_S_l1 (p1 : Option Addr) (n1 : Int) (s1 : Sl) (x1 : Int) (wl1 : World) (Kc1 : Int → WP) (K : WP) : Prop :=
 Br (decide (x1 < (s1.len : Int)))
  (∃ a2 : Addr, At s1 x1 9 a2 ∧
  ∃ vnodeKind1 vnodeFrom1 : Int, ∃ vnodeTo1 vnodeNum1 : Int, ∃ vnodeText1 : ByteArray, ∃ vnodeA1 vnodeB1 : Int, ∃ vsize1 vdepth1 : Int, Row wl1 a2 [(vi vnodeKind1), (vi vnodeFrom1), (vi vnodeTo1), (vu vnodeNum1), (vs vnodeText1), (vi vnodeA1), (vi vnodeB1), (vi vsize1), (vi vdepth1)] ∧
  ∀ (p2 : Addr) (w1 : World), New wl1 (.cells #[(vi 0), (vi 0), (vi 0), (vu 0), (vs ⟨#[]⟩), (vi 0), (vi 0), (vi 0), (vi 0)] 178) p2 w1 →
  (∀ j, j < 9 → CanW w1 (p2.add j)) ∧ ∀ w2 : World, w2 = storeRow w1 p2 [(vi vnodeKind1), (vi vnodeFrom1), (vi vnodeTo1), (vu vnodeNum1), (vs vnodeText1), (vi vnodeA1), (vi vnodeB1), (vi vsize1), (vi vdepth1)] →
  ∃ C1 : WP, C1 w2.drew ∧ ∀ w3, w3 = w2.drew →
  ∃ a3 : Addr, p1 = some a3 ∧
  ∃ v2 : Option Nat, (∀ w', C1 w' → w'.cell? (a3.add 1) = some (.map v2)) ∧
  ∃ aA aB : Int, ∃ aC aD : Int, ∃ aE : ByteArray, ∃ aF aG : Int, (∀ w', C1 w' → Row w' p2 [(vi aA), (vi aB), (vi aC), (vu aD), (vs aE), (vi aF), (vi aG)]) ∧
  ∃ w4 : World, (Builtin.delete_ #[129, 106] 0 #[(.map v2), (.agg #[(vi aA), (vi aB), (vi aC), (vu aD), (vs aE), (vi aF), (vi aG)])]).run Try.prog w3 = .ok (.tuple #[]) w4 ∧
  Kc1 (q6.wrap (x1 + 1)) w4)
  (∃ a4 : Addr, p1 = some a4 ∧
  ∃ v3 : Sl, wl1.cell? a4 = some v3.v ∧
  ∃ s2 : Sl, (Instr.sliceAt 130 v3.v none (some (vi n1)) none).run Try.prog wl1 = .ok s2.v wl1 ∧
  ∃ a5 : Addr, p1 = some a5 ∧
  CanW wl1 a5 ∧ ∀ w5 : World, w5 = wl1.setCell a5 s2.v →
  K w5)
def m_S (p1 : Option Addr) (n1 : Int) (w : World) (K : WP) : Prop :=
 ∃ a1 : Addr, p1 = some a1 ∧
 ∃ v1 : Sl, w.cell? a1 = some v1.v ∧
 ∃ s1 : Sl, (Instr.sliceAt 130 v1.v (some (vi n1)) none none).run Try.prog w = .ok s1.v w ∧
 ∃ (I1 : Int → WP) (mu1 : Int → World → Nat), I1 0 w ∧
  ∀ (x1 : Int) (wl1 : World), I1 x1 wl1 → m_S_l1 p1 n1 s1 x1 wl1 (fun y'0 w' => I1 y'0 w' ∧ mu1 y'0 w' < mu1 x1 wl1) K
theorem w_S (p1 : Option Addr) (n1 : Int) (w : World) (K : WP) (h : m_S p1 n1 w K) :
  Calls Try.prog 84 #[(vp p1), (vi n1)] w (fun e w' => e = .returned (.tuple #[]) ∧ K  w') := by
 unfold m_S at h
 refine cw (args := [(vp p1), (vi n1)]) Try.func84 Try.ntmps84 (wpE_seq (wpE_seq (rg (q0 (vp p1) ?_))))
 obtain ⟨a1, hp1, h⟩ := h
 refine q2 (vp (some a1)) (x_nilCheck (p := p1) (by kernel_rfl) hp1) (q0 (vp (some a1)) ?_)
 obtain ⟨v1, hv9, h⟩ := h
 refine q2 v1.v (xl (Try.isAgg130 _) hv9) (q0 (vi n1) ?_)
 obtain ⟨s1, hv8, h⟩ := h
 refine q2 s1.v (x_slice (by kernel_rfl) (by kernel_rfl) (by kernel_rfl) (by kernel_rfl) hv8) (q0 (vi (s1.len : Int)) (q0 (vi 0) (wpL_nil (th_n (wpE_block ?_)))))
 obtain ⟨I1, mu1, h0, hr⟩ := h
 refine wpE_loop (σ := Int × World) (fun s ρ w => w = s.2 ∧ Has ρ [(0, (vp p1)), (1, (vi n1)), (11, s1.v), (12, (vi (s1.len : Int))), (13, (vi s.1))] ∧ I1 s.1 s.2) (fun s => mu1 s.1 s.2) (0, w) ⟨rfl, hm, h0⟩ ?_
 rintro ⟨x1, wl1⟩ ρ w ⟨hw, hH, hI⟩
 obtain rfl : wl1 = w := (show w = wl1 from hw).symm
 have hH : Has ρ [(0, (vp p1)), (1, (vi n1)), (11, s1.v), (12, (vi (s1.len : Int))), (13, (vi x1))] := hH
 have h := hr x1 wl1 hI
 unfold m_S_l1 at h
 refine wpE_has hH ?_
 refine wpE_seq (rg (q0 (vb (decide (x1 < (s1.len : Int)))) (wpL_nil (th_n (wpE_seq ?_)))))
 refine wpE_cond (t := (decide (x1 < (s1.len : Int)))) (by kernel_rfl) (fun hc1 => ?_) (fun hc1 => ?_)
 ·have h := h.1 hc1
  refine wpE_skip (th_n (wpE_seq (wpE_block (wpE_seq (rg ?_)))))
  obtain ⟨a2, hv5, h⟩ := h
  refine q2 (vp (some a2)) (xi (Try.runUnderlying130 _) (Try.sizeOf178 _) hv5) ?_
  obtain ⟨vnodeKind1, vnodeFrom1, vnodeTo1, vnodeNum1, vnodeText1, vnodeA1, vnodeB1, vsize1, vdepth1, hv4, h⟩ := h
  refine q2 (.agg #[(vi vnodeKind1), (vi vnodeFrom1), (vi vnodeTo1), (vu vnodeNum1), (vs vnodeText1), (vi vnodeA1), (vi vnodeB1), (vi vsize1), (vi vdepth1)]) (x_loadA (a := a2) (vs := [(vi vnodeKind1), (vi vnodeFrom1), (vi vnodeTo1), (vu vnodeNum1), (vs vnodeText1), (vi vnodeA1), (vi vnodeB1), (vi vsize1), (vi vdepth1)]) (by kernel_rfl) (Try.isAgg178 _) (Try.sizeOf178 _) rfl hv4) (sn (O := (.cells #[(vi 0), (vi 0), (vi 0), (vu 0), (vs ⟨#[]⟩), (vi 0), (vi 0), (vi 0), (vi 0)] 178)) (x_alloc (Try.zeroValue178 _) rfl) ?_)
  intro p2 w1 hn2
  have h := h p2 w1 hn2
  obtain ⟨hp2, h⟩ := h
  refine st_set (want0 rfl) (x_storeA (a := p2) (vs := [(vi vnodeKind1), (vi vnodeFrom1), (vi vnodeTo1), (vu vnodeNum1), (vs vnodeText1), (vi vnodeA1), (vi vnodeB1), (vi vsize1), (vi vdepth1)]) (by kernel_rfl) (by kernel_rfl) rfl (Try.sizeOf178 _) rfl hp2) ?_
  intro w2 hn1
  have h := h w2 hn1
  refine wpL_nil (th_n ?_)
  obtain ⟨C1, hC, h⟩ := h
  refine wpE_drawnC C1 [6] [6] (by kernel_rfl) (by kernel_rfl) (by kernel_rfl) (by kernel_rfl) hC ?_
  intro w3 hw3
  have h := h w3 hw3
  refine qx 0 (vp p1) Kp0 (qg 1 ?_)
  obtain ⟨a3, hp3, h⟩ := h
  refine sy (v := (vp (some a3))) Kp1 (fun _ _ => (x_nilCheck (p := p1) (by kernel_rfl) hp3)) (qx 2 (vp (some (a3.add 1))) Kp2 (qg 3 ?_))
  obtain ⟨v2, hv3, h⟩ := h
  refine sy (v := (.map v2)) Kp3 (fun w' hw' => (xl (Try.isAgg129 _) (hv3 w' hw'))) (qx 4 (vp (some p2)) Kp4 (qg 5 ?_))
  obtain ⟨aA, aB, aC, aD, aE, aF, aG, hv2, h⟩ := h
  refine sy (v := (.agg #[(vi aA), (vi aB), (vi aC), (vu aD), (vs aE), (vi aF), (vi aG)])) Kp5 (fun w' hw' => (x_loadA (a := p2) (vs := [(vi aA), (vi aB), (vi aC), (vu aD), (vs aE), (vi aF), (vi aG)]) (by kernel_rfl) (Try.isAgg106 _) (Try.sizeOf106 _) rfl (hv2 w' hw'))) (lg 6 ?_)
  obtain ⟨w4, hv1, h⟩ := h
  refine sl (v := (.tuple #[])) Kp6 (want0 rfl) (by kernel_rfl) (x_builtin (args := #[(.map v2), (.agg #[(vi aA), (vi aB), (vi aC), (vu aD), (vs aE), (vi aF), (vi aG)])]) (by kernel_rfl) (fun _ => rfl) hv1) (.inl (by kernel_rfl)) (wn (bl_n (th_n (rg (q0 (vi (q6.wrap (x1 + 1))) (q0 (vi (q6.wrap (x1 + 1))) (wpL_nil (th_n ?_))))))))
  exact ⟨((q6.wrap (x1 + 1)), w4), ⟨rfl, hm, h.1⟩, h.2⟩
 ·have h := h.2 hc1
  refine wpE_exit (th_x (th_x (bl_eq (th_n (rg (q0 (vp p1) (q0 (vp p1) ?_)))))))
  obtain ⟨a4, hp4, h⟩ := h
  refine q2 (vp (some a4)) (x_nilCheck (p := p1) (by kernel_rfl) hp4) (q0 (vp (some a4)) ?_)
  obtain ⟨v3, hv7, h⟩ := h
  refine q2 v3.v (xl (Try.isAgg130 _) hv7) (q0 (vi n1) ?_)
  obtain ⟨s2, hv6, h⟩ := h
  refine q2 s2.v (x_slice (by kernel_rfl) (by kernel_rfl) (by kernel_rfl) (by kernel_rfl) hv6) ?_
  obtain ⟨a5, hp5, h⟩ := h
  refine q2 (vp (some a5)) (x_nilCheck (p := p1) (by kernel_rfl) hp5) (q0 (vp (some a5)) ?_)
  obtain ⟨hp6, h⟩ := h
  refine st_set (want0 rfl) (x_store (a := a5) (v := s2.v) (by kernel_rfl) (by kernel_rfl) rfl (Try.sizeOf130 _) hp6) ?_
  intro w5 hn3
  have h := h w5 hn3
  refine wpL_nil (res0 (.inr rfl) Try.results84 ?_)
  exact ⟨rfl, h⟩
def m_J2 (p1 : Option Addr) (t1 : Int) (w : World) (K : Sl → WP) : Prop :=
 ∀ (p2 : Addr) (w1 : World), New w (.cells #[(vp p1)] 36) p2 w1 →
 ∀ (p3 : Addr) (w2 : World), New w1 (.cells #[Sl.nil.v] 39) p3 w2 →
 ∀ (p4 : Addr) (w3 : World), New w2 (.map #[] 0) p4 w3 →
 ∀ (p5 : Addr) (w4 : World), New w3 (.cells #[(.map none)] 155) p5 w4 →
 CanW w4 p5 ∧ ∀ w5 : World, w5 = w4.setCell p5 (.map (some p4.block)) →
 ∀ (p6 : Addr) (w6 : World), New w5 (.cells #[(.nilFunc : Value)] 153) p6 w6 →
 CanW w6 p6 ∧ ∀ w7 : World, w7 = w6.setCell p6 (.func (.func 134) #[] #[(vp (some p5)), (vp (some p2)), (vp (some p6)), (vp (some p3))]) →
 ∃ v1 : Option Addr, w7.cell? p2 = some (vp v1) ∧
 Calls Try.prog 119 #[(vp v1), (vi t1)] w7 (fun e w8 => ∃ r1 : Bool, e = .returned (vb r1) ∧ 
  Br r1
   (∃ v2 : Value, w8.cell? p6 = some v2 ∧
   ∃ (f1 : FuncId) (fs1 cs1 : Array Value), v2 = .func (.func f1) fs1 cs1 ∧
   (∀ args w, (callFunc f1 args).run Try.prog w = .ok (.enter f1 args) w) ∧ Calls Try.prog f1 (fs1 ++ #[(vi t1)] ++ cs1) w8 (fun e w9 => e = .returned (.tuple #[]) ∧ 
    ∃ v3 : Sl, w9.cell? p3 = some v3.v ∧
    K v3 w9))
   (∃ v4 : Sl, w8.cell? p3 = some v4.v ∧
   K v4 w8))
theorem w_J2 (p1 : Option Addr) (t1 : Int) (w : World) (K : Sl → WP) (h : m_J2 p1 t1 w K) :
  Calls Try.prog 86 #[(vp p1), (vi t1)] w (fun e w' => ∃ r2 : Sl, e = .returned r2.v ∧ K r2 w') := by
 unfold m_J2 at h
 refine cw (args := [(vp p1), (vi t1)]) Try.func86 Try.ntmps86 (wpE_seq (rg (sn (O := (.cells #[(vp p1)] 36)) xb ?_)))
 intro p2 w1 hn7
 have h := h p2 w1 hn7
 refine q0 Sl.nil.v (wpL_nil (th_n (wpE_seq (rg (sn (O := (.cells #[Sl.nil.v] 39)) (x_alloc (Try.zeroValue39 _) rfl) ?_)))))
 intro p3 w2 hn6
 have h := h p3 w2 hn6
 refine wpL_nil (th_n (wpE_seq (rg (st_new (O := (.map #[] 0)) (fun p => .map (some p.block)) (want0 rfl) (by kernel_rfl) ?_))))
 intro p4 w3 hn5
 have h := h p4 w3 hn5
 refine sn (O := (.cells #[(.map none)] 155)) (x_alloc (Try.zeroValue155 _) rfl) ?_
 intro p5 w4 hn4
 have h := h p5 w4 hn4
 obtain ⟨hp1, h⟩ := h
 refine st_set (want0 rfl) (x_store (a := p5) (v := (.map (some p4.block))) (by kernel_rfl) (by kernel_rfl) rfl (Try.sizeOf155 _) hp1) ?_
 intro w5 hn1
 have h := h w5 hn1
 refine wpL_nil (th_n (wpE_seq (rg (sn (O := (.cells #[(.nilFunc : Value)] 153)) (x_alloc (Try.zeroValue153 _) rfl) ?_))))
 intro p6 w6 hn3
 have h := h p6 w6 hn3
 refine wpL_nil (th_n (wpE_seq (rg (q0 (.func (.func 134) #[] #[(vp (some p5)), (vp (some p2)), (vp (some p6)), (vp (some p3))]) ?_))))
 obtain ⟨hp2, h⟩ := h
 refine st_set (want0 rfl) (x_store (a := p6) (v := (.func (.func 134) #[] #[(vp (some p5)), (vp (some p2)), (vp (some p6)), (vp (some p3))])) (by kernel_rfl) (by kernel_rfl) rfl (Try.sizeOf153 _) hp2) ?_
 intro w7 hn2
 have h := h w7 hn2
 refine wpL_nil (th_n (wpE_seq (wpE_seq (rg ?_))))
 obtain ⟨v1, hv4, h⟩ := h
 refine q2 (vp v1) (xl (Try.isAgg36 _) hv4) (q0 (vi t1) ?_)
 refine sc Try.call119 (h.mono ?_)
 rintro e w8 ⟨r1, rfl, h⟩
 refine ⟨_, rfl, ?_⟩
 refine wpL_nil (th_n ?_)
 refine wpE_cond (t := r1) (by kernel_rfl) (fun hc1 => ?_) (fun hc1 => ?_)
 ·have h := h.1 hc1
  refine rg ?_
  obtain ⟨v2, hv2, h⟩ := h
  refine q2 v2 (xl (Try.isAgg153 _) hv2) (q0 (vi t1) ?_)
  obtain ⟨f1, fs1, cs1, hp3, h⟩ := h
  obtain ⟨hf1, h⟩ := h
  refine st_call (want0 rfl) (x_callmE (fs := fs1) (caps := cs1) (args := #[(vi t1)]) (by kernel_rfl) hp3 hf1 (by kernel_rfl) rfl) (h.mono ?_)
  rintro e w9 ⟨rfl, h⟩
  refine ⟨_, rfl, ?_⟩
  refine wpL_nil (th_n (wpE_seq (rg ?_)))
  obtain ⟨v3, hv1, h⟩ := h
  refine q2 v3.v (xl (Try.isAgg39 _) hv1) (q0 v3.v (wpL_nil (th_n (wpE_ret (rs1 Try.results86 (v := v3.v) ?_)))))
  exact ⟨v3, rfl, h⟩
 ·have h := h.2 hc1
  refine wpE_skip (th_n (wpE_seq (rg ?_)))
  obtain ⟨v4, hv3, h⟩ := h
  refine q2 v4.v (xl (Try.isAgg39 _) hv3) (q0 v4.v (wpL_nil (th_n (wpE_ret (rs1 Try.results86 (v := v4.v) ?_)))))
  exact ⟨v4, rfl, h⟩
def m_K2 (p1 : Option Addr) (t1 : Int) (w : World) (K : Sl → WP) : Prop :=
 Calls Try.prog 67 #[(vp p1), (vi t1)] w (fun e w1 => ∃ aT aU : Int, ∃ aV aW : Int, ∃ aX : ByteArray, ∃ aY aZ : Int, ∃ r1 : Bool, e = .returned (.tuple #[(.agg #[(vi aT), (vi aU), (vi aV), (vu aW), (vs aX), (vi aY), (vi aZ)]), (vb r1)]) ∧ 
  ∀ (p2 : Addr) (w2 : World), New w1 (.cells #[(vi 0), (vi 0), (vi 0), (vu 0), (vs ⟨#[]⟩), (vi 0), (vi 0)] 106) p2 w2 →
  (∀ j, j < 7 → CanW w2 (p2.add j)) ∧ ∀ w3 : World, w3 = storeRow w2 p2 [(vi aT), (vi aU), (vi aV), (vu aW), (vs aX), (vi aY), (vi aZ)] →
  ∃ v1 : Int, w3.cell? p2 = some (vi v1) ∧
  Calls Try.prog 135 #[(vi v1)] w3 (fun e w4 => ∃ rfrom1 rto1 : Bool, ∃ rnum1 rtext1 : Bool, ∃ rkids1 : Int, ∃ r2 : Bool, e = .returned (.tuple #[(.agg #[(vb rfrom1), (vb rto1), (vb rnum1), (vb rtext1), (vi rkids1)]), (vb r2)]) ∧ 
   ∀ (p3 : Addr) (w5 : World), New w4 (.cells #[(vb false), (vb false), (vb false), (vb false), (vi 0)] 202) p3 w5 →
   (∀ j, j < 5 → CanW w5 (p3.add j)) ∧ ∀ w6 : World, w6 = storeRow w5 p3 [(vb rfrom1), (vb rto1), (vb rnum1), (vb rtext1), (vi rkids1)] →
   ∃ v2 : Int, w6.cell? (p2.add 5) = some (vi v2) ∧
   ∃ v3 : Int, w6.cell? (p2.add 6) = some (vi v3) ∧
   ∀ (p4 : Addr) (w7 : World), New w6 (.cells #[(vi v2), (vi v3)] 32) p4 w7 →
   ∃ v4 : Int, w7.cell? (p3.add 4) = some (vi v4) ∧
   ∃ s1 : Sl, (Instr.sliceAt 39 (Sl.mk (some p4) 2 2).v none (some (vi v4)) none).run Try.prog w7 = .ok s1.v w7 ∧
   K s1 w7))
theorem w_K2 (p1 : Option Addr) (t1 : Int) (w : World) (K : Sl → WP) (h : m_K2 p1 t1 w K) :
  Calls Try.prog 91 #[(vp p1), (vi t1)] w (fun e w' => ∃ r3 : Sl, e = .returned r3.v ∧ K r3 w') := by
 unfold m_K2 at h
 refine cw (args := [(vp p1), (vi t1)]) Try.func91 Try.ntmps91 (wpE_seq (rg (q0 Sl.nil.v (wpL_nil (th_n (wpE_seq (rg (q0 (vp p1) (q0 (vi t1) ?_)))))))))
 refine sc Try.call67 (h.mono ?_)
 rintro e w1 ⟨aT, aU, aV, aW, aX, aY, aZ, r1, rfl, h⟩
 refine ⟨_, rfl, ?_⟩
 refine q0 (.tuple #[(.agg #[(vi aT), (vi aU), (vi aV), (vu aW), (vs aX), (vi aY), (vi aZ)]), (vb r1)]) (q0 (.agg #[(vi aT), (vi aU), (vi aV), (vu aW), (vs aX), (vi aY), (vi aZ)]) (q0 (vb r1) (sn (O := (.cells #[(vi 0), (vi 0), (vi 0), (vu 0), (vs ⟨#[]⟩), (vi 0), (vi 0)] 106)) (x_alloc (Try.zeroValue106 _) rfl) ?_)))
 intro p2 w2 hn5
 have h := h p2 w2 hn5
 obtain ⟨hp1, h⟩ := h
 refine st_set (want0 rfl) (x_storeA (a := p2) (vs := [(vi aT), (vi aU), (vi aV), (vu aW), (vs aX), (vi aY), (vi aZ)]) (by kernel_rfl) (by kernel_rfl) rfl (Try.sizeOf106 _) rfl hp1) ?_
 intro w3 hn1
 have h := h w3 hn1
 refine q0 (vb r1) (wpL_nil (th_n (wpE_seq (rg (q0 (vp (some p2)) ?_)))))
 obtain ⟨v1, hv5, h⟩ := h
 refine q2 (vi v1) (xl (Try.isAgg3 _) hv5) ?_
 refine sc Try.call135 (h.mono ?_)
 rintro e w4 ⟨rfrom1, rto1, rnum1, rtext1, rkids1, r2, rfl, h⟩
 refine ⟨_, rfl, ?_⟩
 refine q0 (.tuple #[(.agg #[(vb rfrom1), (vb rto1), (vb rnum1), (vb rtext1), (vi rkids1)]), (vb r2)]) (q0 (.agg #[(vb rfrom1), (vb rto1), (vb rnum1), (vb rtext1), (vi rkids1)]) (q0 (vb r2) (sn (O := (.cells #[(vb false), (vb false), (vb false), (vb false), (vi 0)] 202)) (x_alloc (Try.zeroValue202 _) rfl) ?_)))
 intro p3 w5 hn4
 have h := h p3 w5 hn4
 obtain ⟨hp2, h⟩ := h
 refine st_set (want0 rfl) (x_storeA (a := p3) (vs := [(vb rfrom1), (vb rto1), (vb rnum1), (vb rtext1), (vi rkids1)]) (by kernel_rfl) (by kernel_rfl) rfl (Try.sizeOf202 _) rfl hp2) ?_
 intro w6 hn2
 have h := h w6 hn2
 refine q0 (vb r2) (wpL_nil (th_n (wpE_seq (rg (q0 (vp (some (p2.add 5))) ?_)))))
 obtain ⟨v2, hv4, h⟩ := h
 refine q2 (vi v2) (xl (Try.isAgg32 _) hv4) (q0 (vp (some (p2.add 6))) ?_)
 obtain ⟨v3, hv3, h⟩ := h
 refine q2 (vi v3) (xl (Try.isAgg32 _) hv3) (st_new (O := (.cells #[(vi v2), (vi v3)] 32)) (fun p => (Sl.mk (some p) 2 2).v) (want0 rfl) (x_buildSlice (vs := #[(0, (vi v2)), (1, (vi v3))]) (by kernel_rfl) (by kernel_rfl)) ?_)
 intro p4 w7 hn3
 have h := h p4 w7 hn3
 refine q0 (vp (some (p3.add 4))) ?_
 obtain ⟨v4, hv2, h⟩ := h
 refine q2 (vi v4) (xl (Try.isAgg3 _) hv2) ?_
 obtain ⟨s1, hv1, h⟩ := h
 refine q2 s1.v (x_slice (by kernel_rfl) (by kernel_rfl) (by kernel_rfl) (by kernel_rfl) hv1) (q0 s1.v (wpL_nil (th_n (wpE_ret (rs1 Try.results91 (v := s1.v) ?_)))))
 exact ⟨s1, rfl, h⟩
def m_T_j1 (p1 : Option Addr) (t1 : Int) (x1 : Bool) (w : World) (K : Bool → WP) : Prop :=
 Br x1
  (∃ a1 : Addr, p1 = some a1 ∧
  ∃ v1 : Sl, w.cell? a1 = some v1.v ∧
  K (decide (t1 ≤ (v1.len : Int))) w)
  (K false w)
def m_T (p1 : Option Addr) (t1 : Int) (w : World) (K : Bool → WP) : Prop :=
 Br (!(Option.isNone p1))
  (m_T_j1 p1 t1 (decide (t1 ≥ 1)) w K)
  (m_T_j1 p1 t1 false w K)
theorem w_T (p1 : Option Addr) (t1 : Int) (w : World) (K : Bool → WP) (h : m_T p1 t1 w K) :
  Calls Try.prog 119 #[(vp p1), (vi t1)] w (fun e w' => ∃ r1 : Bool, e = .returned (vb r1) ∧ K r1 w') := by
 unfold m_T at h
 refine cw (args := [(vp p1), (vi t1)]) Try.func119 Try.ntmps119 (wpE_seq (rg (q0 (vb false) (wpL_nil (th_n (wpE_seq (rg (q0 (vp p1) (q2 (vb (!(Option.isNone p1))) (x_ptrneq (by kernel_rfl) rfl Try.underlying36) (q0 (vb (!(Option.isNone p1))) ?_))))))))))
 refine wpL_join 3 (fun ρ w => ∃ x1 : Bool, Has ρ [(0, (vp p1)), (1, (vi t1)), (10, (vb x1))] ∧ m_T_j1 p1 t1 x1 w K) ?_ ?_
 ·rintro ρ w ⟨x1, hH, h⟩
  unfold m_T_j1 at h
  refine wpL_has hH ?_
  refine q0 (vb x1) ?_
  rcases Bool.eq_false_or_eq_true x1 with hg1 | hg1
  ·have h := h.1 hg1
   refine q1 (vi t1) (want1 rfl (yD 11 hg1)) (q1 (vp p1) (want1 rfl (yD 11 hg1)) ?_)
   obtain ⟨a1, hp1, h⟩ := h
   refine stp (v := (vp (some a1))) (want1 rfl (yD 11 hg1)) (x_nilCheck (p := p1) (by kernel_rfl) hp1) (q1 (vp (some a1)) (want1 rfl (yD 11 hg1)) ?_)
   obtain ⟨v1, hv1, h⟩ := h
   refine stp (v := v1.v) (want1 rfl (yD 11 hg1)) (xl (Try.isAgg130 _) hv1) (q1 (vi (v1.len : Int)) (want1 rfl (yD 11 hg1)) (q1 (vb (decide (t1 ≤ (v1.len : Int)))) (want1 rfl (yD 11 hg1)) (q2 (vb (decide (t1 ≤ (v1.len : Int)))) (xT hg1) (q0 (vb (decide (t1 ≤ (v1.len : Int)))) (wpL_nil (th_n (wpE_ret (rs1 Try.results119 (v := (vb (decide (t1 ≤ (v1.len : Int))))) ?_))))))))
   exact ⟨(decide (t1 ≤ (v1.len : Int))), rfl, h⟩
  ·have h := h.2 hg1
   refine sk (yD 11 hg1) (sk (yD 11 hg1) (sk (yD 11 hg1) (sk (yD 11 hg1) (sk (yD 11 hg1) (sk (yD 11 hg1) (sk (yD 11 hg1) (q2 (vb false) (xF hg1) (q0 (vb false) (wpL_nil (th_n (wpE_ret ?_)))))))))))
   refine rs1 Try.results119 (v := (vb false)) ?_
   exact ⟨false, rfl, h⟩
 ·rcases Bool.eq_false_or_eq_true (!(Option.isNone p1)) with hg2 | hg2
  ·have h := h.1 hg2
   refine q1 (vi t1) (want1 rfl (yD 7 hg2)) (q1 (vb (decide (t1 ≥ 1))) (want1 rfl (yD 7 hg2)) (q2 (vb (decide (t1 ≥ 1))) (xT hg2) (wpL_nil ?_)))
   exact ⟨(decide (t1 ≥ 1)), hm, h⟩
  ·have h := h.2 hg2
   refine sk (yD 7 hg2) (sk (yD 7 hg2) (q2 (vb false) (xF hg2) (wpL_nil ?_)))
   exact ⟨false, hm, h⟩
def m_A1 (p1 : Option Addr) (aH aI : Int) (aJ aK : Int) (aL : ByteArray) (aM aN : Int) (w : World) (K : Int → Int → WP) : Prop :=
 ∀ (p2 : Addr) (w1 : World), New w (.cells #[(vi aH), (vi aI), (vi aJ), (vu aK), (vs aL), (vi aM), (vi aN)] 106) p2 w1 →
 Br (Option.isNone p1)
  (K 0 0 w1)
  (∃ aA aB : Int, ∃ aC aD : Int, ∃ aE : ByteArray, ∃ aF aG : Int, Row w1 p2 [(vi aA), (vi aB), (vi aC), (vu aD), (vs aE), (vi aF), (vi aG)] ∧
  Calls Try.prog 187 #[(vp p1), (.agg #[(vi aA), (vi aB), (vi aC), (vu aD), (vs aE), (vi aF), (vi aG)])] w1 (fun e w2 => ∃ r1 r2 r3 : Int, e = .returned (.tuple #[(vi r1), (vi r2), (vi r3)]) ∧ 
   Br (r3 != 0)
    (K 0 r3 w2)
    (∀ w3, w3 = w2.drew →
    ∃ a1 : Addr, p1 = some a1 ∧
    ∃ v1 : Option Nat, w3.cell? (a1.add 1) = some (.map v1) ∧
    ∃ aO aP : Int, ∃ aQ aR : Int, ∃ aS : ByteArray, ∃ bX bY : Int, Row w3 p2 [(vi aO), (vi aP), (vi aQ), (vu aR), (vs aS), (vi bX), (vi bY)] ∧
    ∃ v2 : Int, ∃ ok1 : Bool, (Instr.lookup 129 (.map v1) (.agg #[(vi aO), (vi aP), (vi aQ), (vu aR), (vs aS), (vi bX), (vi bY)]) true).run Try.prog w3 = .ok (.tuple #[(vi v2), (vb ok1)]) w3 ∧
    Br ok1
     (K v2 0 w3)
     (∃ a2 : Addr, p1 = some a2 ∧
     ∃ v3 : Sl, w3.cell? a2 = some v3.v ∧
     Br (decide ((v3.len : Int) ≥ 65536))
      (K 0 6 w3)
      (∃ C1 : WP, C1 w3.drew ∧ ∀ w4, w4 = w3.drew →
      ∃ a3 : Addr, p1 = some a3 ∧
      ∃ v4 : Sl, (∀ w', C1 w' → w'.cell? a3 = some v4.v) ∧
      ∃ bM bN : Int, ∃ bO bP : Int, ∃ bQ : ByteArray, ∃ cG cH : Int, (∀ w', C1 w' → Row w' p2 [(vi bM), (vi bN), (vi bO), (vu bP), (vs bQ), (vi cG), (vi cH)]) ∧
      ∀ (p3 : Addr) (w5 : World), New w4 (.cells #[(vi bM), (vi bN), (vi bO), (vu bP), (vs bQ), (vi cG), (vi cH), (vi r1), (vi r2)] 178) p3 w5 → C1 w5 ∧
      ∃ s1 : Sl, ∃ w6 : World, (Builtin.append_ #[130, 130] 130 #[v4.v, (Sl.mk (some p3) 1 1).v]).run Try.prog w5 = .ok s1.v w6 ∧ C1 w6 ∧
      ∃ a4 : Addr, p1 = some a4 ∧
      CanW w6 a4 ∧ ∀ w7 : World, w7 = w6.setCell a4 s1.v →
      ∃ a5 : Addr, p1 = some a5 ∧
      ∃ v5 : Sl, w7.cell? a5 = some v5.v ∧
      ∃ C2 : WP, C2 w7.drew ∧ ∀ w8, w8 = w7.drew →
      ∃ a6 : Addr, p1 = some a6 ∧
      ∃ v6 : Option Nat, (∀ w', C2 w' → w'.cell? (a6.add 1) = some (.map v6)) ∧
      ∃ bS bT : Int, ∃ bU bV : Int, ∃ bW : ByteArray, ∃ cT cU : Int, (∀ w', C2 w' → Row w' p2 [(vi bS), (vi bT), (vi bU), (vu bV), (vs bW), (vi cT), (vi cU)]) ∧
      ∃ w9 : World, (Instr.mapUpdate 129 (.map v6) (.agg #[(vi bS), (vi bT), (vi bU), (vu bV), (vs bW), (vi cT), (vi cU)]) (vi (v5.len : Int))).run Try.prog w8 = .ok () w9 ∧
      K (v5.len : Int) 0 w9)))))
theorem w_A1 (p1 : Option Addr) (aH aI : Int) (aJ aK : Int) (aL : ByteArray) (aM aN : Int) (w : World) (K : Int → Int → WP) (h : m_A1 p1 aH aI aJ aK aL aM aN w K) :
  Calls Try.prog 130 #[(vp p1), (.agg #[(vi aH), (vi aI), (vi aJ), (vu aK), (vs aL), (vi aM), (vi aN)])] w (fun e w' => ∃ r4 r5 : Int, e = .returned (.tuple #[(vi r4), (vi r5)]) ∧ K r4 r5 w') := by
 unfold m_A1 at h
 refine cw (args := [(vp p1), (.agg #[(vi aH), (vi aI), (vi aJ), (vu aK), (vs aL), (vi aM), (vi aN)])]) Try.func130 Try.ntmps130 (wpE_seq (rg (sn (O := (.cells #[(vi aH), (vi aI), (vi aJ), (vu aK), (vs aL), (vi aM), (vi aN)] 106)) xb ?_)))
 intro p2 w1 hn3
 have h := h p2 w1 hn3
 refine q0 (vi 0) (q0 (vi 0) (wpL_nil (th_n (wpE_seq (wpE_seq (rg (q0 (vp p1) (q2 (vb (Option.isNone p1)) (x_ptreq (by kernel_rfl) rfl Try.underlying36) (wpL_nil (th_n ?_))))))))))
 refine wpE_cond (t := (Option.isNone p1)) (by kernel_rfl) (fun hc1 => ?_) (fun hc1 => ?_)
 ·have h := h.1 hc1
  refine wpE_seq (rg (q0 (vi 0) (q0 (vi 0) (wpL_nil (th_n (wpE_ret (th_r (res2 (.inl rfl) Try.results130 (v := (vi 0)) (by kernel_rfl) (v' := (vi 0)) (by kernel_rfl) ?_))))))))
  exact ⟨0, 0, rfl, h⟩
 ·have h := h.2 hc1
  refine wpE_skip (th_n (wpE_seq (rg (q0 (vp p1) ?_))))
  obtain ⟨aA, aB, aC, aD, aE, aF, aG, hv12, h⟩ := h
  refine q2 (.agg #[(vi aA), (vi aB), (vi aC), (vu aD), (vs aE), (vi aF), (vi aG)]) (x_loadA (a := p2) (vs := [(vi aA), (vi aB), (vi aC), (vu aD), (vs aE), (vi aF), (vi aG)]) (by kernel_rfl) (Try.isAgg106 _) (Try.sizeOf106 _) rfl hv12) ?_
  refine sc Try.call187 (h.mono ?_)
  rintro e w2 ⟨r1, r2, r3, rfl, h⟩
  refine ⟨_, rfl, ?_⟩
  refine q0 (.tuple #[(vi r1), (vi r2), (vi r3)]) (q0 (vi r1) (q0 (vi r2) (q0 (vi r3) (q0 (vi r1) (q0 (vi r2) (q0 (vi r3) (wpL_nil (th_n (wpE_seq (wpE_seq (rg ?_)))))))))))
  refine q0 (vi r3) (q0 (vb (r3 != 0)) (wpL_nil (th_n ?_)))
  refine wpE_cond (t := (r3 != 0)) (by kernel_rfl) (fun hc2 => ?_) (fun hc2 => ?_)
  ·have h := h.1 hc2
   refine wpE_seq (rg (q0 (vi r3) (q0 (vi 0) (q0 (vi r3) (wpL_nil (th_n (wpE_ret (th_r (res2 (.inl rfl) Try.results130 (v := (vi 0)) (by kernel_rfl) (v' := (vi r3)) (by kernel_rfl) ?_)))))))))
   exact ⟨0, r3, rfl, h⟩
  ·have h := h.2 hc2
   refine wpE_skip (th_n (wpE_seq (wpE_seq (wpE_drawnQ (by kernel_rfl) (by kernel_rfl) (by kernel_rfl) (by kernel_rfl) ?_))))
   intro w3 hw3
   have h := h w3 hw3
   refine qq 0 (vp p1) Kp0 (qg 1 ?_)
   obtain ⟨a1, hp1, h⟩ := h
   refine sxQ (v := (vp (some a1))) Kp1 (want0 rfl) rfl (x_nilCheck (p := p1) (by kernel_rfl) hp1) (qq 2 (vp (some (a1.add 1))) Kp2 (qg 3 ?_))
   obtain ⟨v1, hv11, h⟩ := h
   refine sxQ (v := (.map v1)) Kp3 (want0 rfl) rfl (xl (Try.isAgg129 _) hv11) (qg 4 ?_)
   obtain ⟨aO, aP, aQ, aR, aS, bX, bY, hv10, h⟩ := h
   refine sxQ (v := (.agg #[(vi aO), (vi aP), (vi aQ), (vu aR), (vs aS), (vi bX), (vi bY)])) Kp4 (want0 rfl) rfl (x_loadA (a := p2) (vs := [(vi aO), (vi aP), (vi aQ), (vu aR), (vs aS), (vi bX), (vi bY)]) (by kernel_rfl) (Try.isAgg106 _) (Try.sizeOf106 _) rfl hv10) (qg 5 ?_)
   obtain ⟨v2, ok1, hv9, h⟩ := h
   refine sxQ (v := (.tuple #[(vi v2), (vb ok1)])) Kp5 (want0 rfl) rfl (x_lookup (by kernel_rfl) (by kernel_rfl) hv9) (qq 6 (.tuple #[(vi v2), (vb ok1)]) Kp6 (qq 7 (vi v2) Kp7 (qq 8 (vb ok1) Kp8 (qq 9 (vi v2) Kp9 (qq 10 (vb ok1) (pickA (S8 (pickS (pickS pickZ)))) (wn (th_n (wpE_seq (rg (q0 (vb ok1) (wpL_nil ?_)))))))))))
   refine th_n ?_
   refine wpE_cond (t := ok1) (by kernel_rfl) (fun hc3 => ?_) (fun hc3 => ?_)
   ·have h := h.1 hc3
    refine wpE_seq (rg (q0 (vi v2) (q0 (vi v2) (q0 (vi 0) (wpL_nil (th_n (wpE_ret (th_r (res2 (.inl rfl) Try.results130 (v := (vi v2)) (by kernel_rfl) (v' := (vi 0)) (by kernel_rfl) ?_)))))))))
    exact ⟨v2, 0, rfl, h⟩
   ·have h := h.2 hc3
    refine wpE_skip (th_n (wpE_seq (wpE_seq (rg (q0 (vp p1) ?_)))))
    obtain ⟨a2, hp2, h⟩ := h
    refine q2 (vp (some a2)) (x_nilCheck (p := p1) (by kernel_rfl) hp2) (q0 (vp (some a2)) ?_)
    obtain ⟨v3, hv8, h⟩ := h
    refine q2 v3.v (xl (Try.isAgg130 _) hv8) (q0 (vi (v3.len : Int)) (q0 (vb (decide ((v3.len : Int) ≥ 65536))) (wpL_nil (th_n ?_))))
    refine wpE_cond (t := (decide ((v3.len : Int) ≥ 65536))) (by kernel_rfl) (fun hc4 => ?_) (fun hc4 => ?_)
    ·have h := h.1 hc4
     refine wpE_seq (rg (q0 (vi 0) (q0 (vi 6) (wpL_nil (th_n (wpE_ret (th_r (res2 (.inl rfl) Try.results130 (v := (vi 0)) (by kernel_rfl) (v' := (vi 6)) (by kernel_rfl) ?_))))))))
     exact ⟨0, 6, rfl, h⟩
    ·have h := h.2 hc4
     refine wpE_skip (th_n (wpE_seq ?_))
     obtain ⟨C1, hC, h⟩ := h
     refine wpE_drawnC C1 [9, 10, 13] [13] (by kernel_rfl) (by kernel_rfl) (by kernel_rfl) (by kernel_rfl) hC ?_
     intro w4 hw4
     have h := h w4 hw4
     refine qx 0 (vp p1) Kp0 (qx 1 (vp p1) Kp1 (qg 2 ?_))
     obtain ⟨a3, hp3, h⟩ := h
     refine sy (v := (vp (some a3))) Kp2 (fun _ _ => (x_nilCheck (p := p1) (by kernel_rfl) hp3)) (qx 3 (vp (some a3)) Kp3 (qg 4 ?_))
     obtain ⟨v4, hv7, h⟩ := h
     refine sy (v := v4.v) Kp4 (fun w' hw' => (xl (Try.isAgg130 _) (hv7 w' hw'))) (qg 5 ?_)
     obtain ⟨bM, bN, bO, bP, bQ, cG, cH, hv6, h⟩ := h
     refine sy (v := (.agg #[(vi bM), (vi bN), (vi bO), (vu bP), (vs bQ), (vi cG), (vi cH)])) Kp5 (fun w' hw' => (x_loadA (a := p2) (vs := [(vi bM), (vi bN), (vi bO), (vu bP), (vs bQ), (vi cG), (vi cH)]) (by kernel_rfl) (Try.isAgg106 _) (Try.sizeOf106 _) rfl (hv6 w' hw'))) (qx 6 (vi r1) Kp6 (qx 7 (vi r2) Kp7 (qx 8 (.agg #[(vi bM), (vi bN), (vi bO), (vu bP), (vs bQ), (vi cG), (vi cH), (vi r1), (vi r2)]) Kp8 (lg 9 (sl_new (O := (.cells #[(vi bM), (vi bN), (vi bO), (vu bP), (vs bQ), (vi cG), (vi cH), (vi r1), (vi r2)] 178)) (fun p => (Sl.mk (some p) 1 1).v) Kp9 (want0 rfl) (by kernel_rfl) (x_buildSlice (vs := #[(0, (.agg #[(vi bM), (vi bN), (vi bO), (vu bP), (vs bQ), (vi cG), (vi cH), (vi r1), (vi r2)]))]) (by kernel_rfl) (by kernel_rfl)) ?_)))))
     intro p3 w5 hn2
     have h := h p3 w5 hn2
     refine ⟨.inr h.1, ?_⟩
     have h := h.2
     refine lg 10 ?_
     obtain ⟨s1, w6, hv5, hC, h⟩ := h
     refine sl (v := s1.v) (pickA (S8 (pickS (pickS pickZ)))) (want0 rfl) (by kernel_rfl) (x_builtin (args := #[v4.v, (Sl.mk (some p3) 1 1).v]) (by kernel_rfl) (fun _ => rfl) hv5) (.inr hC) ?_
     refine qg 11 ?_
     obtain ⟨a4, hp4, h⟩ := h
     refine sy (v := (vp (some a4))) (pickA (S8 (pickS (pickS (pickS pickZ))))) (fun _ _ => (x_nilCheck (p := p1) (by kernel_rfl) hp4)) (qx 12 (vp (some a4)) (pickA (S8 (S4 pickZ))) (lg 13 ?_))
     obtain ⟨hp5, h⟩ := h
     refine sl_t (pickA (S8 (S4 (pickS pickZ)))) (xs (v := s1.v) (Try.sizeOf130 _) hp5) ?_
     intro w7 hn1
     have h := h w7 hn1
     refine ⟨.inl (by kernel_rfl), ?_⟩
     refine wn (th_n (wpE_seq (rg (q0 (vp p1) ?_))))
     obtain ⟨a5, hp6, h⟩ := h
     refine q2 (vp (some a5)) (x_nilCheck (p := p1) (by kernel_rfl) hp6) (q0 (vp (some a5)) ?_)
     obtain ⟨v5, hv4, h⟩ := h
     refine q2 v5.v (xl (Try.isAgg130 _) hv4) (q0 (vi (v5.len : Int)) (q0 (vi (v5.len : Int)) (wpL_nil (th_n (wpE_seq ?_)))))
     obtain ⟨C2, hC, h⟩ := h
     refine wpE_drawnC C2 [6] [6] (by kernel_rfl) (by kernel_rfl) (by kernel_rfl) (by kernel_rfl) hC ?_
     intro w8 hw8
     have h := h w8 hw8
     refine qx 0 (vp p1) Kp0 (qg 1 ?_)
     obtain ⟨a6, hp7, h⟩ := h
     refine sy (v := (vp (some a6))) Kp1 (fun _ _ => (x_nilCheck (p := p1) (by kernel_rfl) hp7)) (qx 2 (vp (some (a6.add 1))) Kp2 (qg 3 ?_))
     obtain ⟨v6, hv3, h⟩ := h
     refine sy (v := (.map v6)) Kp3 (fun w' hw' => (xl (Try.isAgg129 _) (hv3 w' hw'))) (qg 4 ?_)
     obtain ⟨bS, bT, bU, bV, bW, cT, cU, hv2, h⟩ := h
     refine sy (v := (.agg #[(vi bS), (vi bT), (vi bU), (vu bV), (vs bW), (vi cT), (vi cU)])) Kp4 (fun w' hw' => (x_loadA (a := p2) (vs := [(vi bS), (vi bT), (vi bU), (vu bV), (vs bW), (vi cT), (vi cU)]) (by kernel_rfl) (Try.isAgg106 _) (Try.sizeOf106 _) rfl (hv2 w' hw'))) (qx 5 (vi (v5.len : Int)) Kp5 (lg 6 ?_))
     obtain ⟨w9, hv1, h⟩ := h
     refine sl_skip Kp6 (want0 rfl) (by kernel_rfl) (x_mapUpdate (by kernel_rfl) (by kernel_rfl) (by kernel_rfl) hv1) (.inl (by kernel_rfl)) (wn (th_n (wpE_seq (rg (q0 (vi (v5.len : Int)) (q0 (vi (v5.len : Int)) (q0 (vi 0) (wpL_nil (th_n (wpE_ret (res2 (.inl rfl) Try.results130 (v := (vi (v5.len : Int))) (by kernel_rfl) (v' := (vi 0)) (by kernel_rfl) ?_)))))))))))
     exact ⟨(v5.len : Int), 0, rfl, h⟩
def m_L2 (bA bB : Int) (bC bD : Int) (bE : ByteArray) (bF : Sl) (w : World) (K : Int → Int → Int → Int → ByteArray → Int → Int → WP) : Prop :=
 ∀ (p1 : Addr) (w1 : World), New w (.cells #[(vi bA), (vi bB), (vi bC), (vu bD), (vs bE), bF.v] 52) p1 w1 →
 ∀ (p2 : Addr) (w2 : World), New w1 (.cells #[(vi 0), (vi 0), (vi 0), (vu 0), (vs ⟨#[]⟩), (vi 0), (vi 0)] 106) p2 w2 →
 ∃ v1 : Int, w2.cell? p1 = some (vi v1) ∧
 ∃ v2 : Int, w2.cell? (p1.add 1) = some (vi v2) ∧
 ∃ v3 : Int, w2.cell? (p1.add 2) = some (vi v3) ∧
 ∃ v4 : Int, w2.cell? (p1.add 3) = some (vu v4) ∧
 ∃ v5 : ByteArray, w2.cell? (p1.add 4) = some (vs v5) ∧
 (∀ j, j < 7 → CanW w2 (p2.add j)) ∧ ∀ w3 : World, w3 = storeRow w2 p2 [(vi v1), (vi v2), (vi v3), (vu v4), (vs v5), (vi 0), (vi 0)] →
 ∃ bH bI : Int, ∃ bJ bK : Int, ∃ bL : ByteArray, ∃ cE cF : Int, Row w3 p2 [(vi bH), (vi bI), (vi bJ), (vu bK), (vs bL), (vi cE), (vi cF)] ∧
 K bH bI bJ bK bL cE cF w3
theorem w_L2 (bA bB : Int) (bC bD : Int) (bE : ByteArray) (bF : Sl) (w : World) (K : Int → Int → Int → Int → ByteArray → Int → Int → WP) (h : m_L2 bA bB bC bD bE bF w K) :
  Calls Try.prog 131 #[(.agg #[(vi bA), (vi bB), (vi bC), (vu bD), (vs bE), bF.v])] w (fun e w' => ∃ aT aU : Int, ∃ aV aW : Int, ∃ aX : ByteArray, ∃ aY aZ : Int, e = .returned (.agg #[(vi aT), (vi aU), (vi aV), (vu aW), (vs aX), (vi aY), (vi aZ)]) ∧ K aT aU aV aW aX aY aZ w') := by
 unfold m_L2 at h
 refine cw (args := [(.agg #[(vi bA), (vi bB), (vi bC), (vu bD), (vs bE), bF.v])]) Try.func131 Try.ntmps131 (wpE_seq (rg (sn (O := (.cells #[(vi bA), (vi bB), (vi bC), (vu bD), (vs bE), bF.v] 52)) xb ?_)))
 intro p1 w1 hn3
 have h := h p1 w1 hn3
 refine sn (O := (.cells #[(vi 0), (vi 0), (vi 0), (vu 0), (vs ⟨#[]⟩), (vi 0), (vi 0)] 106)) (x_alloc (Try.zeroValue106 _) rfl) ?_
 intro p2 w2 hn2
 have h := h p2 w2 hn2
 refine wpL_nil (th_n (wpE_seq (rg (q0 (vp (some p1)) ?_))))
 obtain ⟨v1, hv6, h⟩ := h
 refine q2 (vi v1) (xl (Try.isAgg3 _) hv6) (q0 (vp (some (p1.add 1))) ?_)
 obtain ⟨v2, hv5, h⟩ := h
 refine q2 (vi v2) (xl (Try.isAgg3 _) hv5) (q0 (vp (some (p1.add 2))) ?_)
 obtain ⟨v3, hv4, h⟩ := h
 refine q2 (vi v3) (xl (Try.isAgg3 _) hv4) (q0 (vp (some (p1.add 3))) ?_)
 obtain ⟨v4, hv3, h⟩ := h
 refine q2 (vu v4) (xl (Try.isAgg50 _) hv3) (q0 (vp (some (p1.add 4))) ?_)
 obtain ⟨v5, hv2, h⟩ := h
 refine q2 (vs v5) (xl (Try.isAgg9 _) hv2) (q0 (.agg #[(vi v1), (vi v2), (vi v3), (vu v4), (vs v5), (vi 0), (vi 0)]) ?_)
 obtain ⟨hp1, h⟩ := h
 refine st_set (want0 rfl) (x_storeA (a := p2) (vs := [(vi v1), (vi v2), (vi v3), (vu v4), (vs v5), (vi 0), (vi 0)]) (by kernel_rfl) (by kernel_rfl) rfl (Try.sizeOf106 _) rfl hp1) ?_
 intro w3 hn1
 have h := h w3 hn1
 refine wpL_nil (th_n (wpE_ret ?_))
 obtain ⟨bH, bI, bJ, bK, bL, cE, cF, hv1, h⟩ := h
 refine resG (.inl rfl) (vs := [(.agg #[(vi bH), (vi bI), (vi bJ), (vu bK), (vs bL), (vi cE), (vi cF)])]) (v := (.agg #[(vi bH), (vi bI), (vi bJ), (vu bK), (vs bL), (vi cE), (vi cF)])) Try.results131 ⟨(RV.cellA (by kernel_rfl) (Try.isAgg106 _) (Try.sizeOf106 _) rfl hv1), trivial⟩ (by kernel_rfl) ?_
 exact ⟨bH, bI, bJ, bK, bL, cE, cF, rfl, h⟩
def m_A_j3 (p1 p2 p3 : Addr) (x3 : Bool) (w : World) (K : Bool → Bool → Bool → Bool → Int → Int → WP) : Prop :=
 Br x3
  (∃ vfrom1 vto1 : Bool, ∃ vnum1 vtext1 : Bool, ∃ vkids1 : Int, Row w p3 [(vb vfrom1), (vb vto1), (vb vnum1), (vb vtext1), (vi vkids1)] ∧
  (∀ j, j < 5 → CanW w (p2.add j)) ∧ ∀ w6 : World, w6 = storeRow w p2 [(vb vfrom1), (vb vto1), (vb vnum1), (vb vtext1), (vi vkids1)] →
  ∃ qfrom1 qto1 : Bool, ∃ qnum1 qtext1 : Bool, ∃ qkids1 : Int, Row w6 p2 [(vb qfrom1), (vb qto1), (vb qnum1), (vb qtext1), (vi qkids1)] ∧
  K qfrom1 qto1 qnum1 qtext1 qkids1 53 w6)
  (∃ v2 : Bool, w.cell? (p3.add 3) = some (vb v2) ∧
  Br (!v2)
   (∃ v3 : ByteArray, w.cell? (p1.add 4) = some (vs v3) ∧
   Br (!(decide (v3 = ⟨#[]⟩)))
    (∃ vfrom2 vto2 : Bool, ∃ vnum2 vtext2 : Bool, ∃ vkids2 : Int, Row w p3 [(vb vfrom2), (vb vto2), (vb vnum2), (vb vtext2), (vi vkids2)] ∧
    (∀ j, j < 5 → CanW w (p2.add j)) ∧ ∀ w7 : World, w7 = storeRow w p2 [(vb vfrom2), (vb vto2), (vb vnum2), (vb vtext2), (vi vkids2)] →
    ∃ qfrom2 qto2 : Bool, ∃ qnum2 qtext2 : Bool, ∃ qkids2 : Int, Row w7 p2 [(vb qfrom2), (vb qto2), (vb qnum2), (vb qtext2), (vi qkids2)] ∧
    K qfrom2 qto2 qnum2 qtext2 qkids2 53 w7)
    (∃ vfrom3 vto3 : Bool, ∃ vnum3 vtext3 : Bool, ∃ vkids3 : Int, Row w p3 [(vb vfrom3), (vb vto3), (vb vnum3), (vb vtext3), (vi vkids3)] ∧
    (∀ j, j < 5 → CanW w (p2.add j)) ∧ ∀ w8 : World, w8 = storeRow w p2 [(vb vfrom3), (vb vto3), (vb vnum3), (vb vtext3), (vi vkids3)] →
    ∃ qfrom3 qto3 : Bool, ∃ qnum3 qtext3 : Bool, ∃ qkids3 : Int, Row w8 p2 [(vb qfrom3), (vb qto3), (vb qnum3), (vb qtext3), (vi qkids3)] ∧
    K qfrom3 qto3 qnum3 qtext3 qkids3 0 w8))
   (∃ vfrom4 vto4 : Bool, ∃ vnum4 vtext4 : Bool, ∃ vkids4 : Int, Row w p3 [(vb vfrom4), (vb vto4), (vb vnum4), (vb vtext4), (vi vkids4)] ∧
   (∀ j, j < 5 → CanW w (p2.add j)) ∧ ∀ w9 : World, w9 = storeRow w p2 [(vb vfrom4), (vb vto4), (vb vnum4), (vb vtext4), (vi vkids4)] →
   ∃ qfrom4 qto4 : Bool, ∃ qnum4 qtext4 : Bool, ∃ qkids4 : Int, Row w9 p2 [(vb qfrom4), (vb qto4), (vb qnum4), (vb qtext4), (vi qkids4)] ∧
   K qfrom4 qto4 qnum4 qtext4 qkids4 0 w9))
def m_A_j4 (p1 p2 p3 : Addr) (x2 x4 : Bool) (w : World) (K : Bool → Bool → Bool → Bool → Int → Int → WP) : Prop :=
 Br x2
  (m_A_j3 p1 p2 p3 true w K)
  (m_A_j3 p1 p2 p3 x4 w K)
def m_A_j2 (p1 p2 p3 : Addr) (x2 : Bool) (w : World) (K : Bool → Bool → Bool → Bool → Int → Int → WP) : Prop :=
 Br x2
  (m_A_j3 p1 p2 p3 true w K)
  (∃ v4 : Bool, w.cell? (p3.add 2) = some (vb v4) ∧
  Br (!v4)
   (∃ v5 : Int, w.cell? (p1.add 3) = some (vu v5) ∧
   m_A_j4 p1 p2 p3 x2 (v5 != 0) w K)
   (m_A_j4 p1 p2 p3 x2 false w K))
def m_A_j5 (p1 p2 p3 : Addr) (x1 x5 : Bool) (w : World) (K : Bool → Bool → Bool → Bool → Int → Int → WP) : Prop :=
 Br x1
  (m_A_j2 p1 p2 p3 true w K)
  (m_A_j2 p1 p2 p3 x5 w K)
def m_A_j1 (p1 p2 p3 : Addr) (x1 : Bool) (w : World) (K : Bool → Bool → Bool → Bool → Int → Int → WP) : Prop :=
 Br x1
  (m_A_j2 p1 p2 p3 true w K)
  (∃ v6 : Bool, w.cell? (p3.add 1) = some (vb v6) ∧
  Br (!v6)
   (∃ v7 : Int, w.cell? (p1.add 2) = some (vi v7) ∧
   m_A_j5 p1 p2 p3 x1 (v7 != 0) w K)
   (m_A_j5 p1 p2 p3 x1 false w K))
def m_A_j6 (p1 p2 : Addr) (r1 : Bool) (p3 : Addr) (x6 : Bool) (w : World) (K : Bool → Bool → Bool → Bool → Int → Int → WP) : Prop :=
 Br (!r1)
  (m_A_j1 p1 p2 p3 true w K)
  (m_A_j1 p1 p2 p3 x6 w K)
def m_A (aH aI : Int) (aJ aK : Int) (aL : ByteArray) (aM aN : Int) (w : World) (K : Bool → Bool → Bool → Bool → Int → Int → WP) : Prop :=
 ∀ (p1 : Addr) (w1 : World), New w (.cells #[(vi aH), (vi aI), (vi aJ), (vu aK), (vs aL), (vi aM), (vi aN)] 106) p1 w1 →
 ∀ (p2 : Addr) (w2 : World), New w1 (.cells #[(vb false), (vb false), (vb false), (vb false), (vi 0)] 202) p2 w2 →
 ∃ v1 : Int, w2.cell? p1 = some (vi v1) ∧
 Calls Try.prog 135 #[(vi v1)] w2 (fun e w3 => ∃ rfrom1 rto1 : Bool, ∃ rnum1 rtext1 : Bool, ∃ rkids1 : Int, ∃ r1 : Bool, e = .returned (.tuple #[(.agg #[(vb rfrom1), (vb rto1), (vb rnum1), (vb rtext1), (vi rkids1)]), (vb r1)]) ∧ 
  ∀ (p3 : Addr) (w4 : World), New w3 (.cells #[(vb false), (vb false), (vb false), (vb false), (vi 0)] 202) p3 w4 →
  (∀ j, j < 5 → CanW w4 (p3.add j)) ∧ ∀ w5 : World, w5 = storeRow w4 p3 [(vb rfrom1), (vb rto1), (vb rnum1), (vb rtext1), (vi rkids1)] →
  Br (!r1)
   (m_A_j1 p1 p2 p3 true w5 K)
   (∃ v8 : Bool, w5.cell? p3 = some (vb v8) ∧
   Br (!v8)
    (∃ v9 : Int, w5.cell? (p1.add 1) = some (vi v9) ∧
    m_A_j6 p1 p2 r1 p3 (v9 != 0) w5 K)
    (m_A_j6 p1 p2 r1 p3 false w5 K)))
theorem w_A (aH aI : Int) (aJ aK : Int) (aL : ByteArray) (aM aN : Int) (w : World) (K : Bool → Bool → Bool → Bool → Int → Int → WP) (h : m_A aH aI aJ aK aL aM aN w K) :
  Calls Try.prog 132 #[(.agg #[(vi aH), (vi aI), (vi aJ), (vu aK), (vs aL), (vi aM), (vi aN)])] w (fun e w' => ∃ rfrom2 rto2 : Bool, ∃ rnum2 rtext2 : Bool, ∃ rkids2 r2 : Int, e = .returned (.tuple #[(.agg #[(vb rfrom2), (vb rto2), (vb rnum2), (vb rtext2), (vi rkids2)]), (vi r2)]) ∧ K rfrom2 rto2 rnum2 rtext2 rkids2 r2 w') := by
 unfold m_A at h
 refine cw (args := [(.agg #[(vi aH), (vi aI), (vi aJ), (vu aK), (vs aL), (vi aM), (vi aN)])]) Try.func132 Try.ntmps132 (wpE_seq (rg (sn (O := (.cells #[(vi aH), (vi aI), (vi aJ), (vu aK), (vs aL), (vi aM), (vi aN)] 106)) xb ?_)))
 intro p1 w1 hn8
 have h := h p1 w1 hn8
 refine sn (O := (.cells #[(vb false), (vb false), (vb false), (vb false), (vi 0)] 202)) (x_alloc (Try.zeroValue202 _) rfl) ?_
 intro p2 w2 hn7
 have h := h p2 w2 hn7
 refine q0 (vi 0) (wpL_nil (th_n (wpE_seq (rg (q0 (vp (some p1)) ?_)))))
 obtain ⟨v1, hv17, h⟩ := h
 refine q2 (vi v1) (xl (Try.isAgg3 _) hv17) ?_
 refine sc Try.call135 (h.mono ?_)
 rintro e w3 ⟨rfrom1, rto1, rnum1, rtext1, rkids1, r1, rfl, h⟩
 refine ⟨_, rfl, ?_⟩
 refine q0 (.tuple #[(.agg #[(vb rfrom1), (vb rto1), (vb rnum1), (vb rtext1), (vi rkids1)]), (vb r1)]) (q0 (.agg #[(vb rfrom1), (vb rto1), (vb rnum1), (vb rtext1), (vi rkids1)]) (q0 (vb r1) (sn (O := (.cells #[(vb false), (vb false), (vb false), (vb false), (vi 0)] 202)) (x_alloc (Try.zeroValue202 _) rfl) ?_)))
 intro p3 w4 hn6
 have h := h p3 w4 hn6
 obtain ⟨hp1, h⟩ := h
 refine st_set (want0 rfl) (x_storeA (a := p3) (vs := [(vb rfrom1), (vb rto1), (vb rnum1), (vb rtext1), (vi rkids1)]) (by kernel_rfl) (by kernel_rfl) rfl (Try.sizeOf202 _) rfl hp1) ?_
 intro w5 hn1
 have h := h w5 hn1
 refine q0 (vb r1) (wpL_nil (th_n (wpE_seq (wpE_seq (rg (q0 (vb r1) (q0 (vb (!r1)) (q0 (vb (!r1)) ?_))))))))
 refine wpL_join 9 (fun ρ w => ∃ x1 : Bool, Has ρ [(1, (vp (some p1))), (2, (vp (some p2))), (4, (vp (some p3))), (23, (vb x1))] ∧ m_A_j1 p1 p2 p3 x1 w K) ?_ ?_
 ·rintro ρ w ⟨x1, hH, h⟩
  unfold m_A_j1 at h
  refine wpL_has hH ?_
  refine q0 (vb x1) ?_
  refine wpL_join 9 (fun ρ w => ∃ x2 : Bool, Has ρ [(1, (vp (some p1))), (2, (vp (some p2))), (4, (vp (some p3))), (33, (vb x2))] ∧ m_A_j2 p1 p2 p3 x2 w K) ?_ ?_
  ·rintro ρ w ⟨x2, hH, h⟩
   unfold m_A_j2 at h
   refine wpL_has hH ?_
   refine q0 (vb x2) ?_
   refine wpL_join 9 (fun ρ w => ∃ x3 : Bool, Has ρ [(1, (vp (some p1))), (2, (vp (some p2))), (4, (vp (some p3))), (43, (vb x3))] ∧ m_A_j3 p1 p2 p3 x3 w K) ?_ ?_
   ·rintro ρ w ⟨x3, hH, h⟩
    unfold m_A_j3 at h
    refine wpL_has hH ?_
    refine q0 (vb x3) ?_
    rcases Bool.eq_false_or_eq_true x3 with hg1 | hg1
    ·have h := h.1 hg1
     refine sk (yD 44 hg1) (sk (yD 44 hg1) (sk (yD 44 hg1) (sk (yD 44 hg1) (sm (sm (sm (sk (yD 44 hg1) (q2 (vb true) (xT hg1) (wpL_nil (th_n (wpE_condT (by kernel_rfl) ?_)))))))))))
     refine wpE_seq (rg ?_)
     obtain ⟨vfrom1, vto1, vnum1, vtext1, vkids1, hv2, h⟩ := h
     refine q2 (.agg #[(vb vfrom1), (vb vto1), (vb vnum1), (vb vtext1), (vi vkids1)]) (x_loadA (a := p3) (vs := [(vb vfrom1), (vb vto1), (vb vnum1), (vb vtext1), (vi vkids1)]) (by kernel_rfl) (Try.isAgg202 _) (Try.sizeOf202 _) rfl hv2) ?_
     obtain ⟨hp2, h⟩ := h
     refine st_set (want0 rfl) (x_storeA (a := p2) (vs := [(vb vfrom1), (vb vto1), (vb vnum1), (vb vtext1), (vi vkids1)]) (by kernel_rfl) (by kernel_rfl) rfl (Try.sizeOf202 _) rfl hp2) ?_
     intro w6 hn2
     have h := h w6 hn2
     refine q0 (vi 53) (wpL_nil (th_n (wpE_ret (th_r ?_))))
     obtain ⟨qfrom1, qto1, qnum1, qtext1, qkids1, hv1, h⟩ := h
     refine resG (.inl rfl) (vs := [(.agg #[(vb qfrom1), (vb qto1), (vb qnum1), (vb qtext1), (vi qkids1)]), (vi 53)]) (v := (.tuple #[(.agg #[(vb qfrom1), (vb qto1), (vb qnum1), (vb qtext1), (vi qkids1)]), (vi 53)])) Try.results132 ⟨(RV.cellA (by kernel_rfl) (Try.isAgg202 _) (Try.sizeOf202 _) rfl hv1), (rvT (by kernel_rfl)), trivial⟩ (by kernel_rfl) ?_
     exact ⟨qfrom1, qto1, qnum1, qtext1, qkids1, 53, rfl, h⟩
    ·have h := h.2 hg1
     refine q1 (vp (some (p3.add 3))) (want1 rfl (yD 44 hg1)) ?_
     obtain ⟨v2, hv10, h⟩ := h
     refine stp (v := (vb v2)) (want1 rfl (yD 44 hg1)) (xl (Try.isAgg4 _) hv10) (q1 (vb (!v2)) (want1 rfl (yD 44 hg1)) (q1 (vb (!v2)) (want1 rfl (yD 44 hg1)) ?_))
     rcases Bool.eq_false_or_eq_true (!v2) with hg2 | hg2
     ·have h := h.1 hg2
      refine q1 (vp (some (p1.add 4))) (want1 rfl (yD 48 hg2)) ?_
      obtain ⟨v3, hv7, h⟩ := h
      refine stp (v := (vs v3)) (want1 rfl (yD 48 hg2)) (xl (Try.isAgg9 _) hv7) (stp (v := (vb (!(decide (v3 = ⟨#[]⟩))))) (want1 rfl (yD 48 hg2)) (x_strneq (by kernel_rfl) (by kernel_rfl)) (stp (v := (vb (!(decide (v3 = ⟨#[]⟩))))) (want1 rfl (yD 44 hg1)) (xT hg2) (q2 (vb (!(decide (v3 = ⟨#[]⟩)))) (xF hg1) (wpL_nil (th_n ?_)))))
      refine wpE_cond (t := (!(decide (v3 = ⟨#[]⟩)))) (by kernel_rfl) (fun hc1 => ?_) (fun hc1 => ?_)
      ·have h := h.1 hc1
       refine wpE_seq (rg ?_)
       obtain ⟨vfrom2, vto2, vnum2, vtext2, vkids2, hv4, h⟩ := h
       refine q2 (.agg #[(vb vfrom2), (vb vto2), (vb vnum2), (vb vtext2), (vi vkids2)]) (x_loadA (a := p3) (vs := [(vb vfrom2), (vb vto2), (vb vnum2), (vb vtext2), (vi vkids2)]) (by kernel_rfl) (Try.isAgg202 _) (Try.sizeOf202 _) rfl hv4) ?_
       obtain ⟨hp3, h⟩ := h
       refine st_set (want0 rfl) (x_storeA (a := p2) (vs := [(vb vfrom2), (vb vto2), (vb vnum2), (vb vtext2), (vi vkids2)]) (by kernel_rfl) (by kernel_rfl) rfl (Try.sizeOf202 _) rfl hp3) ?_
       intro w7 hn3
       have h := h w7 hn3
       refine q0 (vi 53) (wpL_nil (th_n (wpE_ret (th_r ?_))))
       obtain ⟨qfrom2, qto2, qnum2, qtext2, qkids2, hv3, h⟩ := h
       refine resG (.inl rfl) (vs := [(.agg #[(vb qfrom2), (vb qto2), (vb qnum2), (vb qtext2), (vi qkids2)]), (vi 53)]) (v := (.tuple #[(.agg #[(vb qfrom2), (vb qto2), (vb qnum2), (vb qtext2), (vi qkids2)]), (vi 53)])) Try.results132 ⟨(RV.cellA (by kernel_rfl) (Try.isAgg202 _) (Try.sizeOf202 _) rfl hv3), (rvT (by kernel_rfl)), trivial⟩ (by kernel_rfl) ?_
       exact ⟨qfrom2, qto2, qnum2, qtext2, qkids2, 53, rfl, h⟩
      ·have h := h.2 hc1
       refine wpE_skip (th_n (wpE_seq (rg ?_)))
       obtain ⟨vfrom3, vto3, vnum3, vtext3, vkids3, hv6, h⟩ := h
       refine q2 (.agg #[(vb vfrom3), (vb vto3), (vb vnum3), (vb vtext3), (vi vkids3)]) (x_loadA (a := p3) (vs := [(vb vfrom3), (vb vto3), (vb vnum3), (vb vtext3), (vi vkids3)]) (by kernel_rfl) (Try.isAgg202 _) (Try.sizeOf202 _) rfl hv6) ?_
       obtain ⟨hp4, h⟩ := h
       refine st_set (want0 rfl) (x_storeA (a := p2) (vs := [(vb vfrom3), (vb vto3), (vb vnum3), (vb vtext3), (vi vkids3)]) (by kernel_rfl) (by kernel_rfl) rfl (Try.sizeOf202 _) rfl hp4) ?_
       intro w8 hn4
       have h := h w8 hn4
       refine q0 (vi 0) (wpL_nil (th_n (wpE_ret ?_)))
       obtain ⟨qfrom3, qto3, qnum3, qtext3, qkids3, hv5, h⟩ := h
       refine resG (.inl rfl) (vs := [(.agg #[(vb qfrom3), (vb qto3), (vb qnum3), (vb qtext3), (vi qkids3)]), (vi 0)]) (v := (.tuple #[(.agg #[(vb qfrom3), (vb qto3), (vb qnum3), (vb qtext3), (vi qkids3)]), (vi 0)])) Try.results132 ⟨(RV.cellA (by kernel_rfl) (Try.isAgg202 _) (Try.sizeOf202 _) rfl hv5), (rvT (by kernel_rfl)), trivial⟩ (by kernel_rfl) ?_
       exact ⟨qfrom3, qto3, qnum3, qtext3, qkids3, 0, rfl, h⟩
     ·have h := h.2 hg2
      refine sk (yD 48 hg2) (sk (yD 48 hg2) (sk (yD 48 hg2) (stp (v := (vb false)) (want1 rfl (yD 44 hg1)) (xF hg2) (q2 (vb false) (xF hg1) (wpL_nil (th_n (wpE_condF (by kernel_rfl) (wpE_skip (th_n (wpE_seq (rg ?_)))))))))))
      obtain ⟨vfrom4, vto4, vnum4, vtext4, vkids4, hv9, h⟩ := h
      refine q2 (.agg #[(vb vfrom4), (vb vto4), (vb vnum4), (vb vtext4), (vi vkids4)]) (x_loadA (a := p3) (vs := [(vb vfrom4), (vb vto4), (vb vnum4), (vb vtext4), (vi vkids4)]) (by kernel_rfl) (Try.isAgg202 _) (Try.sizeOf202 _) rfl hv9) ?_
      obtain ⟨hp5, h⟩ := h
      refine st_set (want0 rfl) (x_storeA (a := p2) (vs := [(vb vfrom4), (vb vto4), (vb vnum4), (vb vtext4), (vi vkids4)]) (by kernel_rfl) (by kernel_rfl) rfl (Try.sizeOf202 _) rfl hp5) ?_
      intro w9 hn5
      have h := h w9 hn5
      refine q0 (vi 0) (wpL_nil (th_n (wpE_ret ?_)))
      obtain ⟨qfrom4, qto4, qnum4, qtext4, qkids4, hv8, h⟩ := h
      refine resG (.inl rfl) (vs := [(.agg #[(vb qfrom4), (vb qto4), (vb qnum4), (vb qtext4), (vi qkids4)]), (vi 0)]) (v := (.tuple #[(.agg #[(vb qfrom4), (vb qto4), (vb qnum4), (vb qtext4), (vi qkids4)]), (vi 0)])) Try.results132 ⟨(RV.cellA (by kernel_rfl) (Try.isAgg202 _) (Try.sizeOf202 _) rfl hv8), (rvT (by kernel_rfl)), trivial⟩ (by kernel_rfl) ?_
      exact ⟨qfrom4, qto4, qnum4, qtext4, qkids4, 0, rfl, h⟩
   ·rcases Bool.eq_false_or_eq_true x2 with hg3 | hg3
    ·have h := h.1 hg3
     refine sk (yD 34 hg3) (sk (yD 34 hg3) (sk (yD 34 hg3) (sk (yD 34 hg3) (sm (sm (sm (sk (yD 34 hg3) (q2 (vb true) (xT hg3) (wpL_nil ?_)))))))))
     exact ⟨true, hm, h⟩
    ·have h := h.2 hg3
     refine q1 (vp (some (p3.add 2))) (want1 rfl (yD 34 hg3)) ?_
     obtain ⟨v4, hv12, h⟩ := h
     refine stp (v := (vb v4)) (want1 rfl (yD 34 hg3)) (xl (Try.isAgg4 _) hv12) (q1 (vb (!v4)) (want1 rfl (yD 34 hg3)) (q1 (vb (!v4)) (want1 rfl (yD 34 hg3)) ?_))
     refine wpL_join 4 (fun ρ w => ∃ x4 : Bool, Has ρ [(1, (vp (some p1))), (2, (vp (some p2))), (4, (vp (some p3))), (34, (vb x2)), (42, (vb x4))] ∧ m_A_j4 p1 p2 p3 x2 x4 w K) ?_ ?_
     ·rintro ρ w ⟨x4, hH, h⟩
      unfold m_A_j4 at h
      refine wpL_has hH ?_
      rcases Bool.eq_false_or_eq_true x2 with hg4 | hg4
      ·have h := h.1 hg4
       refine q2 (vb true) (xT hg4) (wpL_nil ?_)
       exact ⟨true, hm, h⟩
      ·have h := h.2 hg4
       refine q2 (vb x4) (xF hg4) (wpL_nil ?_)
       exact ⟨x4, hm, h⟩
     ·rcases Bool.eq_false_or_eq_true (!v4) with hg5 | hg5
      ·have h := h.1 hg5
       refine q1 (vp (some (p1.add 3))) (want1 rfl (yD 38 hg5)) ?_
       obtain ⟨v5, hv11, h⟩ := h
       refine stp (v := (vu v5)) (want1 rfl (yD 38 hg5)) (xl (Try.isAgg50 _) hv11) (q1 (vb (v5 != 0)) (want1 rfl (yD 38 hg5)) (stp (v := (vb (v5 != 0))) (want1 rfl (yD 34 hg3)) (xT hg5) (wpL_nil ?_)))
       exact ⟨(v5 != 0), hm, h⟩
      ·have h := h.2 hg5
       refine sk (yD 38 hg5) (sk (yD 38 hg5) (sk (yD 38 hg5) (stp (v := (vb false)) (want1 rfl (yD 34 hg3)) (xF hg5) (wpL_nil ?_))))
       exact ⟨false, hm, h⟩
  ·rcases Bool.eq_false_or_eq_true x1 with hg6 | hg6
   ·have h := h.1 hg6
    refine sk (yD 24 hg6) (sk (yD 24 hg6) (sk (yD 24 hg6) (sk (yD 24 hg6) (sm (sm (sm (sk (yD 24 hg6) (q2 (vb true) (xT hg6) (wpL_nil ?_)))))))))
    exact ⟨true, hm, h⟩
   ·have h := h.2 hg6
    refine q1 (vp (some (p3.add 1))) (want1 rfl (yD 24 hg6)) ?_
    obtain ⟨v6, hv14, h⟩ := h
    refine stp (v := (vb v6)) (want1 rfl (yD 24 hg6)) (xl (Try.isAgg4 _) hv14) (q1 (vb (!v6)) (want1 rfl (yD 24 hg6)) (q1 (vb (!v6)) (want1 rfl (yD 24 hg6)) ?_))
    refine wpL_join 4 (fun ρ w => ∃ x5 : Bool, Has ρ [(1, (vp (some p1))), (2, (vp (some p2))), (4, (vp (some p3))), (24, (vb x1)), (32, (vb x5))] ∧ m_A_j5 p1 p2 p3 x1 x5 w K) ?_ ?_
    ·rintro ρ w ⟨x5, hH, h⟩
     unfold m_A_j5 at h
     refine wpL_has hH ?_
     rcases Bool.eq_false_or_eq_true x1 with hg7 | hg7
     ·have h := h.1 hg7
      refine q2 (vb true) (xT hg7) (wpL_nil ?_)
      exact ⟨true, hm, h⟩
     ·have h := h.2 hg7
      refine q2 (vb x5) (xF hg7) (wpL_nil ?_)
      exact ⟨x5, hm, h⟩
    ·rcases Bool.eq_false_or_eq_true (!v6) with hg8 | hg8
     ·have h := h.1 hg8
      refine q1 (vp (some (p1.add 2))) (want1 rfl (yD 28 hg8)) ?_
      obtain ⟨v7, hv13, h⟩ := h
      refine stp (v := (vi v7)) (want1 rfl (yD 28 hg8)) (xl (Try.isAgg3 _) hv13) (q1 (vb (v7 != 0)) (want1 rfl (yD 28 hg8)) (stp (v := (vb (v7 != 0))) (want1 rfl (yD 24 hg6)) (xT hg8) (wpL_nil ?_)))
      exact ⟨(v7 != 0), hm, h⟩
     ·have h := h.2 hg8
      refine sk (yD 28 hg8) (sk (yD 28 hg8) (sk (yD 28 hg8) (stp (v := (vb false)) (want1 rfl (yD 24 hg6)) (xF hg8) (wpL_nil ?_))))
      exact ⟨false, hm, h⟩
 ·rcases Bool.eq_false_or_eq_true (!r1) with hg9 | hg9
  ·have h := h.1 hg9
   refine sk (yD 14 hg9) (sk (yD 14 hg9) (sk (yD 14 hg9) (sk (yD 14 hg9) (sm (sm (sm (sk (yD 14 hg9) (q2 (vb true) (xT hg9) (wpL_nil ?_)))))))))
   exact ⟨true, hm, h⟩
  ·have h := h.2 hg9
   refine q1 (vp (some p3)) (want1 rfl (yD 14 hg9)) ?_
   obtain ⟨v8, hv16, h⟩ := h
   refine stp (v := (vb v8)) (want1 rfl (yD 14 hg9)) (xl (Try.isAgg4 _) hv16) (q1 (vb (!v8)) (want1 rfl (yD 14 hg9)) (q1 (vb (!v8)) (want1 rfl (yD 14 hg9)) ?_))
   refine wpL_join 4 (fun ρ w => ∃ x6 : Bool, Has ρ [(1, (vp (some p1))), (2, (vp (some p2))), (4, (vp (some p3))), (14, (vb (!r1))), (22, (vb x6))] ∧ m_A_j6 p1 p2 r1 p3 x6 w K) ?_ ?_
   ·rintro ρ w ⟨x6, hH, h⟩
    unfold m_A_j6 at h
    refine wpL_has hH ?_
    rcases Bool.eq_false_or_eq_true (!r1) with hg10 | hg10
    ·have h := h.1 hg10
     refine q2 (vb true) (xT hg10) (wpL_nil ?_)
     exact ⟨true, hm, h⟩
    ·have h := h.2 hg10
     refine q2 (vb x6) (xF hg10) (wpL_nil ?_)
     exact ⟨x6, hm, h⟩
   ·rcases Bool.eq_false_or_eq_true (!v8) with hg11 | hg11
    ·have h := h.1 hg11
     refine q1 (vp (some (p1.add 1))) (want1 rfl (yD 18 hg11)) ?_
     obtain ⟨v9, hv15, h⟩ := h
     refine stp (v := (vi v9)) (want1 rfl (yD 18 hg11)) (xl (Try.isAgg3 _) hv15) (q1 (vb (v9 != 0)) (want1 rfl (yD 18 hg11)) (stp (v := (vb (v9 != 0))) (want1 rfl (yD 14 hg9)) (xT hg11) (wpL_nil ?_)))
     exact ⟨(v9 != 0), hm, h⟩
    ·have h := h.2 hg11
     refine sk (yD 18 hg11) (sk (yD 18 hg11) (sk (yD 18 hg11) (stp (v := (vb false)) (want1 rfl (yD 14 hg9)) (xF hg11) (wpL_nil ?_))))
     exact ⟨false, hm, h⟩
def m_K_j1 (p1 p2 : Addr) (x1 : Bool) (w : World) (K : Int → WP) : Prop :=
 Br x1
  (K 50 w)
  (∃ v1 : Bool, w.cell? (p1.add 1) = some (vb v1) ∧
  Br v1
   (∃ v2 : Int, w.cell? (p2.add 2) = some (vi v2) ∧
   Calls Try.prog 188 #[(vi v2)] w (fun e w3 => ∃ r1 : Bool, e = .returned (vb r1) ∧ 
    Br (!r1)
     (K 50 w3)
     (∃ v3 : Int, w3.cell? (p2.add 2) = some (vi v3) ∧
     ∃ v4 : Int, w3.cell? (p2.add 1) = some (vi v4) ∧
     Br (v3 == v4)
      (K 50 w3)
      (∃ v5 : ByteArray, w3.cell? (p2.add 4) = some (vs v5) ∧
      Br (decide ((v5.size : Int) > 64))
       (K 1 w3)
       (K 0 w3)))))
   (∃ v6 : ByteArray, w.cell? (p2.add 4) = some (vs v6) ∧
   Br (decide ((v6.size : Int) > 64))
    (K 1 w)
    (K 0 w)))
def m_K (sfrom1 sto1 : Bool) (snum1 stext1 : Bool) (skids1 aH : Int) (aI aJ aK : Int) (aL : ByteArray) (aM aN : Int) (w : World) (K : Int → WP) : Prop :=
 ∀ (p1 : Addr) (w1 : World), New w (.cells #[(vb sfrom1), (vb sto1), (vb snum1), (vb stext1), (vi skids1)] 202) p1 w1 →
 ∀ (p2 : Addr) (w2 : World), New w1 (.cells #[(vi aH), (vi aI), (vi aJ), (vu aK), (vs aL), (vi aM), (vi aN)] 106) p2 w2 →
 ∃ v7 : Bool, w2.cell? p1 = some (vb v7) ∧
 Br v7
  (∃ v8 : Int, w2.cell? (p2.add 1) = some (vi v8) ∧
  Calls Try.prog 188 #[(vi v8)] w2 (fun e w4 => ∃ r2 : Bool, e = .returned (vb r2) ∧ 
   m_K_j1 p1 p2 (!r2) w4 K))
  (m_K_j1 p1 p2 false w2 K)
theorem w_K (sfrom1 sto1 : Bool) (snum1 stext1 : Bool) (skids1 aH : Int) (aI aJ aK : Int) (aL : ByteArray) (aM aN : Int) (w : World) (K : Int → WP) (h : m_K sfrom1 sto1 snum1 stext1 skids1 aH aI aJ aK aL aM aN w K) :
  Calls Try.prog 133 #[(.agg #[(vb sfrom1), (vb sto1), (vb snum1), (vb stext1), (vi skids1)]), (.agg #[(vi aH), (vi aI), (vi aJ), (vu aK), (vs aL), (vi aM), (vi aN)])] w (fun e w' => ∃ r3 : Int, e = .returned (vi r3) ∧ K r3 w') := by
 unfold m_K at h
 refine cw (args := [(.agg #[(vb sfrom1), (vb sto1), (vb snum1), (vb stext1), (vi skids1)]), (.agg #[(vi aH), (vi aI), (vi aJ), (vu aK), (vs aL), (vi aM), (vi aN)])]) Try.func133 Try.ntmps133 (wpE_seq (rg (sn (O := (.cells #[(vb sfrom1), (vb sto1), (vb snum1), (vb stext1), (vi skids1)] 202)) xb ?_)))
 intro p1 w1 hn2
 have h := h p1 w1 hn2
 refine sn (O := (.cells #[(vi aH), (vi aI), (vi aJ), (vu aK), (vs aL), (vi aM), (vi aN)] 106)) xb ?_
 intro p2 w2 hn1
 have h := h p2 w2 hn1
 refine q0 (vi 0) (wpL_nil (th_n (wpE_seq (wpE_block (wpE_seq ?_)))))
 refine wpE_join (fun ρ w => ∃ x1 : Bool, Has ρ [(2, (vp (some p1))), (3, (vp (some p2))), (5, (vb x1))] ∧ m_K_j1 p1 p2 x1 w K) ?_ ?_
 ·rintro ρ w ⟨x1, hH, h⟩
  unfold m_K_j1 at h
  refine wpE_has hH ?_
  refine wpE_cond (t := x1) (by kernel_rfl) (fun hc1 => ?_) (fun hc1 => ?_)
  ·have h := h.1 hc1
   refine wpE_skip (th_n (wpE_condT' (t := x1) (by kernel_rfl) hc1 (wpE_seq (rg (q0 (vi 50) (wpL_nil (th_n (wpE_ret (bl_r (th_r (rs1 Try.results133 (v := (vi 50)) ?_)))))))))))
   exact ⟨50, rfl, h⟩
  ·have h := h.2 hc1
   refine rg (q0 (vp (some (p1.add 1))) ?_)
   obtain ⟨v1, hv6, h⟩ := h
   refine q2 (vb v1) (xl (Try.isAgg4 _) hv6) (q0 (vb v1) ?_)
   rcases Bool.eq_false_or_eq_true v1 with hg1 | hg1
   ·have h := h.1 hg1
    refine q1 (vp (some (p2.add 2))) (want1 rfl (yD 16 hg1)) ?_
    obtain ⟨v2, hv4, h⟩ := h
    refine stp (v := (vi v2)) (want1 rfl (yD 16 hg1)) (xl (Try.isAgg3 _) hv4) ?_
    refine st_call (want1 rfl (yD 16 hg1)) (xc Try.call188) (h.mono ?_)
    rintro e w3 ⟨r1, rfl, h⟩
    refine ⟨_, rfl, ?_⟩
    refine q1 (vb (!r1)) (want1 rfl (yD 16 hg1)) (q1 (vb (!r1)) (want1 rfl (yD 16 hg1)) ?_)
    rcases Bool.eq_false_or_eq_true (!r1) with hg2 | hg2
    ·have h := h.1 hg2
     refine sk (yD 21 hg2) (sk (yD 21 hg2) (sk (yD 21 hg2) (sk (yD 21 hg2) (sk (yD 21 hg2) (stp (v := (vb true)) (want1 rfl (yD 16 hg1)) (xT hg2) (q2 (vb true) (xT hg1) (q0 (vb true) (wpL_nil (th_n (wpE_condT (by kernel_rfl) (wpE_seq ?_)))))))))))
     refine rg (q0 (vi 50) (wpL_nil (th_n (wpE_ret (bl_r (th_r (rs1 Try.results133 (v := (vi 50)) ?_)))))))
     exact ⟨50, rfl, h⟩
    ·have h := h.2 hg2
     refine q1 (vp (some (p2.add 2))) (want1 rfl (yD 21 hg2)) ?_
     obtain ⟨v3, hv3, h⟩ := h
     refine stp (v := (vi v3)) (want1 rfl (yD 21 hg2)) (xl (Try.isAgg3 _) hv3) (q1 (vp (some (p2.add 1))) (want1 rfl (yD 21 hg2)) ?_)
     obtain ⟨v4, hv2, h⟩ := h
     refine stp (v := (vi v4)) (want1 rfl (yD 21 hg2)) (xl (Try.isAgg3 _) hv2) (q1 (vb (v3 == v4)) (want1 rfl (yD 21 hg2)) (stp (v := (vb (v3 == v4))) (want1 rfl (yD 16 hg1)) (xF hg2) (q2 (vb (v3 == v4)) (xT hg1) (q0 (vb (v3 == v4)) (wpL_nil (th_n ?_))))))
     refine wpE_cond (t := (v3 == v4)) (by kernel_rfl) (fun hc2 => ?_) (fun hc2 => ?_)
     ·have h := h.1 hc2
      refine wpE_seq (rg (q0 (vi 50) (wpL_nil (th_n (wpE_ret (bl_r (th_r (rs1 Try.results133 (v := (vi 50)) ?_))))))))
      exact ⟨50, rfl, h⟩
     ·have h := h.2 hc2
      refine wpE_seq (rg (q0 (vp (some (p2.add 4))) ?_))
      obtain ⟨v5, hv1, h⟩ := h
      refine q2 (vs v5) (xl (Try.isAgg9 _) hv1) (q0 (vi (v5.size : Int)) (q0 (vb (decide ((v5.size : Int) > 64))) (q0 (vb (decide ((v5.size : Int) > 64))) (wpL_nil (th_n ?_)))))
      refine wpE_cond (t := (decide ((v5.size : Int) > 64))) (by kernel_rfl) (fun hc3 => ?_) (fun hc3 => ?_)
      ·have h := h.1 hc3
       refine wpE_seq (rg (q0 (vi 1) (wpL_nil (th_n (wpE_ret (bl_r (th_r (rs1 Try.results133 (v := (vi 1)) ?_))))))))
       exact ⟨1, rfl, h⟩
      ·have h := h.2 hc3
       refine wpE_skip (bl_n (th_n (wpE_seq (rg (q0 (vi 0) (wpL_nil (th_n (wpE_ret (rs1 Try.results133 (v := (vi 0)) ?_)))))))))
       exact ⟨0, rfl, h⟩
   ·have h := h.2 hg1
    refine sk (yD 16 hg1) (sk (yD 16 hg1) (sk (yD 16 hg1) (sk (yD 16 hg1) (sk (yD 16 hg1) (sm (sm (sm (sm (sm (sk (yD 16 hg1) (q2 (vb false) (xF hg1) ?_)))))))))))
    refine q0 (vb false) (wpL_nil (th_n (wpE_condF (by kernel_rfl) (wpE_seq (rg (q0 (vp (some (p2.add 4))) ?_))))))
    obtain ⟨v6, hv5, h⟩ := h
    refine q2 (vs v6) (xl (Try.isAgg9 _) hv5) (q0 (vi (v6.size : Int)) (q0 (vb (decide ((v6.size : Int) > 64))) (q0 (vb (decide ((v6.size : Int) > 64))) (wpL_nil (th_n ?_)))))
    refine wpE_cond (t := (decide ((v6.size : Int) > 64))) (by kernel_rfl) (fun hc4 => ?_) (fun hc4 => ?_)
    ·have h := h.1 hc4
     refine wpE_seq (rg (q0 (vi 1) (wpL_nil (th_n (wpE_ret (bl_r (th_r (rs1 Try.results133 (v := (vi 1)) ?_))))))))
     exact ⟨1, rfl, h⟩
    ·have h := h.2 hc4
     refine wpE_skip (bl_n (th_n (wpE_seq (rg (q0 (vi 0) (wpL_nil (th_n (wpE_ret (rs1 Try.results133 (v := (vi 0)) ?_)))))))))
     exact ⟨0, rfl, h⟩
 ·refine rg (q0 (vp (some p1)) ?_)
  obtain ⟨v7, hv8, h⟩ := h
  refine q2 (vb v7) (xl (Try.isAgg4 _) hv8) (q0 (vb v7) ?_)
  rcases Bool.eq_false_or_eq_true v7 with hg3 | hg3
  ·have h := h.1 hg3
   refine q1 (vp (some (p2.add 1))) (want1 rfl (yD 8 hg3)) ?_
   obtain ⟨v8, hv7, h⟩ := h
   refine stp (v := (vi v8)) (want1 rfl (yD 8 hg3)) (xl (Try.isAgg3 _) hv7) ?_
   refine st_call (want1 rfl (yD 8 hg3)) (xc Try.call188) (h.mono ?_)
   rintro e w4 ⟨r2, rfl, h⟩
   refine ⟨_, rfl, ?_⟩
   refine q1 (vb (!r2)) (want1 rfl (yD 8 hg3)) (q2 (vb (!r2)) (xT hg3) (q0 (vb (!r2)) (wpL_nil (th_n ?_))))
   exact ⟨(!r2), hm, h⟩
  ·have h := h.2 hg3
   refine sk (yD 8 hg3) (sk (yD 8 hg3) (sk (yD 8 hg3) (sk (yD 8 hg3) (q2 (vb false) (xF hg3) (q0 (vb false) (wpL_nil (th_n ?_)))))))
   exact ⟨false, hm, h⟩
def m_U_l1 (t1 : Int) (cap3 cap4 : Addr) (r1 : Sl) (x1 : Int) (wl1 : World) (Kc1 : Int → WP) (K : WP) : Prop :=
 Br (decide (x1 < (r1.len : Int)))
  (∃ a1 : Addr, At r1 x1 1 a1 ∧
  ∃ v6 : Int, wl1.cell? a1 = some (vi v6) ∧
  ∃ v7 : Value, wl1.cell? cap3 = some v7 ∧
  ∃ (f1 : FuncId) (fs1 cs1 : Array Value), v7 = .func (.func f1) fs1 cs1 ∧
  (∀ args w, (callFunc f1 args).run Try.prog w = .ok (.enter f1 args) w) ∧ Calls Try.prog f1 (fs1 ++ #[(vi v6)] ++ cs1) wl1 (fun e w3 => e = .returned (.tuple #[]) ∧ 
   Kc1 (q6.wrap (x1 + 1)) w3))
  (∃ v8 : Sl, wl1.cell? cap4 = some v8.v ∧
  ∀ (p1 : Addr) (w4 : World), New wl1 (.cells #[(vi t1)] 32) p1 w4 →
  ∃ s1 : Sl, ∃ w5 : World, (Builtin.append_ #[39, 39] 39 #[v8.v, (Sl.mk (some p1) 1 1).v]).run Try.prog w4 = .ok s1.v w5 ∧
  CanW w5 cap4 ∧ ∀ w6 : World, w6 = w5.setCell cap4 s1.v →
  K w6)
def m_U (t1 : Int) (cap1 cap2 : Addr) (cap3 cap4 : Addr) (w : World) (K : WP) : Prop :=
 ∃ v1 : Option Nat, w.cell? cap1 = some (.map v1) ∧
 ∃ v2 : Int, (Instr.lookup 155 (.map v1) (vi t1) false).run Try.prog w = .ok (vi v2) w ∧
 Br (decide (v2 > 0))
  (K w)
  (∃ v3 : Option Nat, w.cell? cap1 = some (.map v3) ∧
  ∃ v4 : Int, (Instr.lookup 155 (.map v3) (vi t1) false).run Try.prog w = .ok (vi v4) w ∧
  ∃ w1 : World, (Instr.mapUpdate 155 (.map v3) (vi t1) (vi (q6.wrap (v4 + 1)))).run Try.prog w = .ok () w1 ∧
  ∃ v5 : Option Addr, w1.cell? cap2 = some (vp v5) ∧
  Calls Try.prog 91 #[(vp v5), (vi t1)] w1 (fun e w2 => ∃ r1 : Sl, e = .returned r1.v ∧ 
   ∃ (I1 : Int → WP) (mu1 : Int → World → Nat), I1 0 w2 ∧
    ∀ (x1 : Int) (wl1 : World), I1 x1 wl1 → m_U_l1 t1 cap3 cap4 r1 x1 wl1 (fun y'0 w' => I1 y'0 w' ∧ mu1 y'0 w' < mu1 x1 wl1) K))
theorem w_U (t1 : Int) (cap1 cap2 : Addr) (cap3 cap4 : Addr) (w : World) (K : WP) (h : m_U t1 cap1 cap2 cap3 cap4 w K) :
  Calls Try.prog 134 #[(vi t1), (vp (some cap1)), (vp (some cap2)), (vp (some cap3)), (vp (some cap4))] w (fun e w' => e = .returned (.tuple #[]) ∧ K  w') := by
 unfold m_U at h
 refine cw (args := [(vi t1), (vp (some cap1)), (vp (some cap2)), (vp (some cap3)), (vp (some cap4))]) Try.func134 Try.ntmps134 (wpE_seq (wpE_seq (rg ?_)))
 obtain ⟨v1, hv11, h⟩ := h
 refine q2 (.map v1) (xl (Try.isAgg155 _) hv11) (q0 (vi t1) ?_)
 obtain ⟨v2, hv10, h⟩ := h
 refine q2 (vi v2) (x_lookup (by kernel_rfl) (by kernel_rfl) hv10) (q0 (vb (decide (v2 > 0))) (wpL_nil (th_n ?_)))
 refine wpE_cond (t := (decide (v2 > 0))) (by kernel_rfl) (fun hc1 => ?_) (fun hc1 => ?_)
 ·have h := h.1 hc1
  refine wpE_ret (th_r (res0 (.inl rfl) Try.results134 ?_))
  exact ⟨rfl, h⟩
 ·have h := h.2 hc1
  refine wpE_skip (th_n (wpE_seq (rg ?_)))
  obtain ⟨v3, hv9, h⟩ := h
  refine q2 (.map v3) (xl (Try.isAgg155 _) hv9) (q0 (vi t1) ?_)
  obtain ⟨v4, hv8, h⟩ := h
  refine q2 (vi v4) (x_lookup (by kernel_rfl) (by kernel_rfl) hv8) (q0 (vi (q6.wrap (v4 + 1))) ?_)
  obtain ⟨w1, hv7, h⟩ := h
  refine st_skip (want0 rfl) (x_mapUpdate (by kernel_rfl) (by kernel_rfl) (by kernel_rfl) hv7) (wpL_nil (th_n (wpE_seq (wpE_seq (rg ?_)))))
  obtain ⟨v5, hv6, h⟩ := h
  refine q2 (vp v5) (xl (Try.isAgg36 _) hv6) (q0 (vi t1) ?_)
  refine sc Try.call91 (h.mono ?_)
  rintro e w2 ⟨r1, rfl, h⟩
  refine ⟨_, rfl, ?_⟩
  refine q0 (vi (r1.len : Int)) (q0 (vi 0) (wpL_nil (th_n (wpE_block ?_))))
  obtain ⟨I1, mu1, h0, hr⟩ := h
  refine wpE_loop (σ := Int × World) (fun s ρ w => w = s.2 ∧ Has ρ [(0, (vi t1)), (3, (vp (some cap3))), (4, (vp (some cap4))), (18, r1.v), (19, (vi (r1.len : Int))), (20, (vi s.1))] ∧ I1 s.1 s.2) (fun s => mu1 s.1 s.2) (0, w2) ⟨rfl, hm, h0⟩ ?_
  rintro ⟨x1, wl1⟩ ρ w ⟨hw, hH, hI⟩
  obtain rfl : wl1 = w := (show w = wl1 from hw).symm
  have hH : Has ρ [(0, (vi t1)), (3, (vp (some cap3))), (4, (vp (some cap4))), (18, r1.v), (19, (vi (r1.len : Int))), (20, (vi x1))] := hH
  have h := hr x1 wl1 hI
  unfold m_U_l1 at h
  refine wpE_has hH ?_
  refine wpE_seq (rg (q0 (vb (decide (x1 < (r1.len : Int)))) (wpL_nil (th_n (wpE_seq ?_)))))
  refine wpE_cond (t := (decide (x1 < (r1.len : Int)))) (by kernel_rfl) (fun hc2 => ?_) (fun hc2 => ?_)
  ·have h := h.1 hc2
   refine wpE_skip (th_n (wpE_seq (wpE_block (wpE_seq (rg ?_)))))
   obtain ⟨a1, hv3, h⟩ := h
   refine q2 (vp (some a1)) (xi (Try.runUnderlying39 _) (Try.sizeOf32 _) hv3) ?_
   obtain ⟨v6, hv2, h⟩ := h
   refine q2 (vi v6) (xl (Try.isAgg32 _) hv2) (q0 (vi v6) (wpL_nil (th_n (rg ?_))))
   obtain ⟨v7, hv1, h⟩ := h
   refine q2 v7 (xl (Try.isAgg153 _) hv1) (q0 (vi v6) ?_)
   obtain ⟨f1, fs1, cs1, hp1, h⟩ := h
   obtain ⟨hf1, h⟩ := h
   refine st_call (want0 rfl) (x_callmE (fs := fs1) (caps := cs1) (args := #[(vi v6)]) (by kernel_rfl) hp1 hf1 (by kernel_rfl) rfl) (h.mono ?_)
   rintro e w3 ⟨rfl, h⟩
   refine ⟨_, rfl, ?_⟩
   refine wpL_nil (bl_n (th_n (rg (q0 (vi (q6.wrap (x1 + 1))) (q0 (vi (q6.wrap (x1 + 1))) (wpL_nil (th_n ?_)))))))
   exact ⟨((q6.wrap (x1 + 1)), w3), ⟨rfl, hm, h.1⟩, h.2⟩
  ·have h := h.2 hc2
   refine wpE_exit (th_x (th_x (bl_eq (th_n (rg ?_)))))
   obtain ⟨v8, hv5, h⟩ := h
   refine q2 v8.v (xl (Try.isAgg39 _) hv5) (q0 (vi t1) (st_new (O := (.cells #[(vi t1)] 32)) (fun p => (Sl.mk (some p) 1 1).v) (want0 rfl) (x_buildSlice (vs := #[(0, (vi t1))]) (by kernel_rfl) (by kernel_rfl)) ?_))
   intro p1 w4 hn2
   have h := h p1 w4 hn2
   obtain ⟨s1, w5, hv4, h⟩ := h
   refine st (v := s1.v) (want0 rfl) (x_builtin (args := #[v8.v, (Sl.mk (some p1) 1 1).v]) (by kernel_rfl) (fun _ => rfl) hv4) ?_
   obtain ⟨hp2, h⟩ := h
   refine st_set (want0 rfl) (x_store (a := cap4) (v := s1.v) (by kernel_rfl) (by kernel_rfl) rfl (Try.sizeOf39 _) hp2) ?_
   intro w6 hn1
   have h := h w6 hn1
   refine wpL_nil (res0 (.inr rfl) Try.results134 ?_)
   exact ⟨rfl, h⟩
def m_M2 (kind1 : Int) (w : World) (K : Bool → Bool → Bool → Bool → Int → Bool → WP) : Prop :=
 ∀ (p1 : Addr) (w1 : World), New w (.cells #[(vb false), (vb false), (vb false), (vb false), (vi 0)] 202) p1 w1 →
 Br (decide (kind1 < 1))
  ((∀ j, j < 5 → CanW w1 (p1.add j)) ∧ ∀ w2 : World, w2 = storeRow w1 p1 [(vb false), (vb false), (vb false), (vb false), (vi 0)] →
  ∃ qfrom1 qto1 : Bool, ∃ qnum1 qtext1 : Bool, ∃ qkids1 : Int, Row w2 p1 [(vb qfrom1), (vb qto1), (vb qnum1), (vb qtext1), (vi qkids1)] ∧
  K qfrom1 qto1 qnum1 qtext1 qkids1 false w2)
  (Br (decide (kind1 > 9))
   ((∀ j, j < 5 → CanW w1 (p1.add j)) ∧ ∀ w3 : World, w3 = storeRow w1 p1 [(vb false), (vb false), (vb false), (vb false), (vi 0)] →
   ∃ qfrom2 qto2 : Bool, ∃ qnum2 qtext2 : Bool, ∃ qkids2 : Int, Row w3 p1 [(vb qfrom2), (vb qto2), (vb qnum2), (vb qtext2), (vi qkids2)] ∧
   K qfrom2 qto2 qnum2 qtext2 qkids2 false w3)
   (Calls Try.prog 189 #[] w1 (fun e w4 => ∃ r1 : Array Value, e = .returned (.agg r1) ∧ 
    ∃ efrom1 eto1 : Bool, ∃ enum1 etext1 : Bool, ∃ ekids1 : Int, (Instr.index 238 (.agg r1) (vi kind1)).run Try.prog w4 = .ok (.agg #[(vb efrom1), (vb eto1), (vb enum1), (vb etext1), (vi ekids1)]) w4 ∧
    (∀ j, j < 5 → CanW w4 (p1.add j)) ∧ ∀ w5 : World, w5 = storeRow w4 p1 [(vb efrom1), (vb eto1), (vb enum1), (vb etext1), (vi ekids1)] →
    ∃ qfrom3 qto3 : Bool, ∃ qnum3 qtext3 : Bool, ∃ qkids3 : Int, Row w5 p1 [(vb qfrom3), (vb qto3), (vb qnum3), (vb qtext3), (vi qkids3)] ∧
    K qfrom3 qto3 qnum3 qtext3 qkids3 true w5)))
theorem w_M2 (kind1 : Int) (w : World) (K : Bool → Bool → Bool → Bool → Int → Bool → WP) (h : m_M2 kind1 w K) :
  Calls Try.prog 135 #[(vi kind1)] w (fun e w' => ∃ rfrom1 rto1 : Bool, ∃ rnum1 rtext1 : Bool, ∃ rkids1 : Int, ∃ r2 : Bool, e = .returned (.tuple #[(.agg #[(vb rfrom1), (vb rto1), (vb rnum1), (vb rtext1), (vi rkids1)]), (vb r2)]) ∧ K rfrom1 rto1 rnum1 rtext1 rkids1 r2 w') := by
 unfold m_M2 at h
 refine cw (args := [(vi kind1)]) Try.func135 Try.ntmps135 (wpE_seq (rg (sn (O := (.cells #[(vb false), (vb false), (vb false), (vb false), (vi 0)] 202)) (x_alloc (Try.zeroValue202 _) rfl) ?_)))
 intro p1 w1 hn4
 have h := h p1 w1 hn4
 refine q0 (vb false) (wpL_nil (th_n (wpE_seq (wpE_seq (rg (q0 (vi kind1) (q0 (vb (decide (kind1 < 1))) (q0 (vb (decide (kind1 < 1))) ?_))))))))
 rcases Bool.eq_false_or_eq_true (decide (kind1 < 1)) with hg1 | hg1
 ·have h := h.1 hg1
  refine sk (yD 6 hg1) (sk (yD 6 hg1) (q2 (vb true) (xT hg1) (wpL_nil (th_n (wpE_condT (by kernel_rfl) (wpE_seq (rg (q0 (.agg #[(vb false), (vb false), (vb false), (vb false), (vi 0)]) ?_))))))))
  obtain ⟨hp1, h⟩ := h
  refine st_set (want0 rfl) (x_storeA (a := p1) (vs := [(vb false), (vb false), (vb false), (vb false), (vi 0)]) (by kernel_rfl) (by kernel_rfl) rfl (Try.sizeOf202 _) rfl hp1) ?_
  intro w2 hn1
  have h := h w2 hn1
  refine q0 (vb false) (wpL_nil (th_n (wpE_ret (th_r ?_))))
  obtain ⟨qfrom1, qto1, qnum1, qtext1, qkids1, hv1, h⟩ := h
  refine resG (.inl rfl) (vs := [(.agg #[(vb qfrom1), (vb qto1), (vb qnum1), (vb qtext1), (vi qkids1)]), (vb false)]) (v := (.tuple #[(.agg #[(vb qfrom1), (vb qto1), (vb qnum1), (vb qtext1), (vi qkids1)]), (vb false)])) Try.results135 ⟨(RV.cellA (by kernel_rfl) (Try.isAgg202 _) (Try.sizeOf202 _) rfl hv1), (rvT (by kernel_rfl)), trivial⟩ (by kernel_rfl) ?_
  exact ⟨qfrom1, qto1, qnum1, qtext1, qkids1, false, rfl, h⟩
 ·have h := h.2 hg1
  refine q1 (vi kind1) (want1 rfl (yD 6 hg1)) (q1 (vb (decide (kind1 > 9))) (want1 rfl (yD 6 hg1)) (q2 (vb (decide (kind1 > 9))) (xF hg1) (wpL_nil (th_n ?_))))
  refine wpE_cond (t := (decide (kind1 > 9))) (by kernel_rfl) (fun hc1 => ?_) (fun hc1 => ?_)
  ·have h := h.1 hc1
   refine wpE_seq (rg (q0 (.agg #[(vb false), (vb false), (vb false), (vb false), (vi 0)]) ?_))
   obtain ⟨hp2, h⟩ := h
   refine st_set (want0 rfl) (x_storeA (a := p1) (vs := [(vb false), (vb false), (vb false), (vb false), (vi 0)]) (by kernel_rfl) (by kernel_rfl) rfl (Try.sizeOf202 _) rfl hp2) ?_
   intro w3 hn2
   have h := h w3 hn2
   refine q0 (vb false) (wpL_nil (th_n (wpE_ret (th_r ?_))))
   obtain ⟨qfrom2, qto2, qnum2, qtext2, qkids2, hv2, h⟩ := h
   refine resG (.inl rfl) (vs := [(.agg #[(vb qfrom2), (vb qto2), (vb qnum2), (vb qtext2), (vi qkids2)]), (vb false)]) (v := (.tuple #[(.agg #[(vb qfrom2), (vb qto2), (vb qnum2), (vb qtext2), (vi qkids2)]), (vb false)])) Try.results135 ⟨(RV.cellA (by kernel_rfl) (Try.isAgg202 _) (Try.sizeOf202 _) rfl hv2), (rvT (by kernel_rfl)), trivial⟩ (by kernel_rfl) ?_
   exact ⟨qfrom2, qto2, qnum2, qtext2, qkids2, false, rfl, h⟩
  ·have h := h.2 hc1
   refine wpE_skip (th_n (wpE_seq (rg ?_)))
   refine sc Try.call189 (h.mono ?_)
   rintro e w4 ⟨r1, rfl, h⟩
   refine ⟨_, rfl, ?_⟩
   refine q0 (vi kind1) ?_
   obtain ⟨efrom1, eto1, enum1, etext1, ekids1, hv4, h⟩ := h
   refine q2 (.agg #[(vb efrom1), (vb eto1), (vb enum1), (vb etext1), (vi ekids1)]) (x_index (by kernel_rfl) (by kernel_rfl) hv4) ?_
   obtain ⟨hp3, h⟩ := h
   refine st_set (want0 rfl) (x_storeA (a := p1) (vs := [(vb efrom1), (vb eto1), (vb enum1), (vb etext1), (vi ekids1)]) (by kernel_rfl) (by kernel_rfl) rfl (Try.sizeOf202 _) rfl hp3) ?_
   intro w5 hn3
   have h := h w5 hn3
   refine q0 (vb true) (wpL_nil (th_n (wpE_ret ?_)))
   obtain ⟨qfrom3, qto3, qnum3, qtext3, qkids3, hv3, h⟩ := h
   refine resG (.inl rfl) (vs := [(.agg #[(vb qfrom3), (vb qto3), (vb qnum3), (vb qtext3), (vi qkids3)]), (vb true)]) (v := (.tuple #[(.agg #[(vb qfrom3), (vb qto3), (vb qnum3), (vb qtext3), (vi qkids3)]), (vb true)])) Try.results135 ⟨(RV.cellA (by kernel_rfl) (Try.isAgg202 _) (Try.sizeOf202 _) rfl hv3), (rvT (by kernel_rfl)), trivial⟩ (by kernel_rfl) ?_
   exact ⟨qfrom3, qto3, qnum3, qtext3, qkids3, true, rfl, h⟩
def m_N2 (p1 : Option Addr) (aH aI : Int) (aJ aK : Int) (aL : ByteArray) (aM aN : Int) (w : World) (K : Int → Bool → WP) : Prop :=
 ∀ (p2 : Addr) (w1 : World), New w (.cells #[(vi aH), (vi aI), (vi aJ), (vu aK), (vs aL), (vi aM), (vi aN)] 106) p2 w1 →
 Br (Option.isNone p1)
  (K 0 false w1)
  (∀ w2, w2 = w1.drew →
  ∃ a1 : Addr, p1 = some a1 ∧
  ∃ v1 : Option Nat, w2.cell? (a1.add 1) = some (.map v1) ∧
  ∃ aA aB : Int, ∃ aC aD : Int, ∃ aE : ByteArray, ∃ aF aG : Int, Row w2 p2 [(vi aA), (vi aB), (vi aC), (vu aD), (vs aE), (vi aF), (vi aG)] ∧
  ∃ v2 : Int, ∃ ok1 : Bool, (Instr.lookup 129 (.map v1) (.agg #[(vi aA), (vi aB), (vi aC), (vu aD), (vs aE), (vi aF), (vi aG)]) true).run Try.prog w2 = .ok (.tuple #[(vi v2), (vb ok1)]) w2 ∧
  K v2 ok1 w2)
theorem w_N2 (p1 : Option Addr) (aH aI : Int) (aJ aK : Int) (aL : ByteArray) (aM aN : Int) (w : World) (K : Int → Bool → WP) (h : m_N2 p1 aH aI aJ aK aL aM aN w K) :
  Calls Try.prog 138 #[(vp p1), (.agg #[(vi aH), (vi aI), (vi aJ), (vu aK), (vs aL), (vi aM), (vi aN)])] w (fun e w' => ∃ r1 : Int, ∃ r2 : Bool, e = .returned (.tuple #[(vi r1), (vb r2)]) ∧ K r1 r2 w') := by
 unfold m_N2 at h
 refine cw (args := [(vp p1), (.agg #[(vi aH), (vi aI), (vi aJ), (vu aK), (vs aL), (vi aM), (vi aN)])]) Try.func138 Try.ntmps138 (wpE_seq (rg (sn (O := (.cells #[(vi aH), (vi aI), (vi aJ), (vu aK), (vs aL), (vi aM), (vi aN)] 106)) xb ?_)))
 intro p2 w1 hn1
 have h := h p2 w1 hn1
 refine q0 (vi 0) (q0 (vb false) (wpL_nil (th_n (wpE_seq (wpE_seq (rg (q0 (vp p1) (q2 (vb (Option.isNone p1)) (x_ptreq (by kernel_rfl) rfl Try.underlying36) (wpL_nil (th_n ?_))))))))))
 refine wpE_cond (t := (Option.isNone p1)) (by kernel_rfl) (fun hc1 => ?_) (fun hc1 => ?_)
 ·have h := h.1 hc1
  refine wpE_seq (rg (q0 (vi 0) (q0 (vb false) (wpL_nil (th_n (wpE_ret (th_r (res2 (.inl rfl) Try.results138 (v := (vi 0)) (by kernel_rfl) (v' := (vb false)) (by kernel_rfl) ?_))))))))
  exact ⟨0, false, rfl, h⟩
 ·have h := h.2 hc1
  refine wpE_skip (th_n (wpE_seq (wpE_drawnQ (by kernel_rfl) (by kernel_rfl) (by kernel_rfl) (by kernel_rfl) ?_)))
  intro w2 hw2
  have h := h w2 hw2
  refine qq 0 (vp p1) Kp0 (qg 1 ?_)
  obtain ⟨a1, hp1, h⟩ := h
  refine sxQ (v := (vp (some a1))) Kp1 (want0 rfl) rfl (x_nilCheck (p := p1) (by kernel_rfl) hp1) (qq 2 (vp (some (a1.add 1))) Kp2 (qg 3 ?_))
  obtain ⟨v1, hv3, h⟩ := h
  refine sxQ (v := (.map v1)) Kp3 (want0 rfl) rfl (xl (Try.isAgg129 _) hv3) (qg 4 ?_)
  obtain ⟨aA, aB, aC, aD, aE, aF, aG, hv2, h⟩ := h
  refine sxQ (v := (.agg #[(vi aA), (vi aB), (vi aC), (vu aD), (vs aE), (vi aF), (vi aG)])) Kp4 (want0 rfl) rfl (x_loadA (a := p2) (vs := [(vi aA), (vi aB), (vi aC), (vu aD), (vs aE), (vi aF), (vi aG)]) (by kernel_rfl) (Try.isAgg106 _) (Try.sizeOf106 _) rfl hv2) (qg 5 ?_)
  obtain ⟨v2, ok1, hv1, h⟩ := h
  refine sxQ (v := (.tuple #[(vi v2), (vb ok1)])) Kp5 (want0 rfl) rfl (x_lookup (by kernel_rfl) (by kernel_rfl) hv1) (qq 6 (.tuple #[(vi v2), (vb ok1)]) Kp6 (qq 7 (vi v2) Kp7 (qq 8 (vb ok1) Kp8 (qq 9 (vi v2) Kp9 (qq 10 (vb ok1) (pickA (S8 (pickS (pickS pickZ)))) (wn (th_n (wpE_seq (rg (q0 (vi v2) (q0 (vb ok1) ?_)))))))))))
  refine q0 (vi v2) (q0 (vb ok1) (wpL_nil (th_n (wpE_ret (res2 (.inl rfl) Try.results138 (v := (vi v2)) (by kernel_rfl) (v' := (vb ok1)) (by kernel_rfl) ?_)))))
  exact ⟨v2, ok1, rfl, h⟩
def m_B_l3 (p1 : Option Addr) (s1 : Sl) (size1 depth1 x1 : Int) (wl1 : World) (Kc3 : Int → Int → Int → WP) (K : Int → Int → Int → WP) : Prop :=
 Br (decide (x1 < (s1.len : Int)))
  (∃ a1 : Addr, At s1 x1 1 a1 ∧
  ∃ v4 : Int, wl1.cell? a1 = some (vi v4) ∧
  Calls Try.prog 119 #[(vp p1), (vi v4)] wl1 (fun e w6 => ∃ r2 : Bool, e = .returned (vb r2) ∧ 
   Br (!r2)
    (K 0 0 51 w6)
    (Calls Try.prog 213 #[(vp p1), (vi v4)] w6 (fun e w7 => ∃ r3 : Int, e = .returned (vi r3) ∧ 
     Calls Try.prog 214 #[(vp p1), (vi v4)] w7 (fun e w8 => ∃ r4 : Int, e = .returned (vi r4) ∧ 
      ∃ z1 : Int, (Builtin.max_ #[3, 3] 3 #[(vi depth1), (vi r4)]).run Try.prog w8 = .ok (vi z1) w8 ∧
      Kc3 (q6.wrap (size1 + r3)) z1 (q6.wrap (x1 + 1)) w8)))))
  (Br (decide (size1 > 4096))
   (K 0 0 52 wl1)
   (Br (decide ((q6.wrap (depth1 + 1)) > 64))
    (K 0 0 52 wl1)
    (K size1 (q6.wrap (depth1 + 1)) 0 wl1)))
def m_B_j2 (p1 : Option Addr) (p2 p3 : Addr) (e2 : Int) (w : World) (K : Int → Int → Int → WP) : Prop :=
 Br (e2 != 0)
  (K 0 0 e2 w)
  (∃ v1 : Int, w.cell? (p2.add 5) = some (vi v1) ∧
  ∃ v2 : Int, w.cell? (p2.add 6) = some (vi v2) ∧
  ∀ (p4 : Addr) (w5 : World), New w (.cells #[(vi v1), (vi v2)] 32) p4 w5 →
  ∃ v3 : Int, w5.cell? (p3.add 4) = some (vi v3) ∧
  ∃ s1 : Sl, (Instr.sliceAt 39 (Sl.mk (some p4) 2 2).v none (some (vi v3)) none).run Try.prog w5 = .ok s1.v w5 ∧
  ∃ (I1 : Int → Int → Int → WP) (mu1 : Int → Int → Int → World → Nat), I1 1 0 0 w5 ∧
   ∀ (size1 depth1 x1 : Int) (wl1 : World), I1 size1 depth1 x1 wl1 → m_B_l3 p1 s1 size1 depth1 x1 wl1 (fun y'0 y'1 y'2 w' => I1 y'0 y'1 y'2 w' ∧ mu1 y'0 y'1 y'2 w' < mu1 size1 depth1 x1 wl1) K)
def m_B_j1 (p1 : Option Addr) (p2 p3 : Addr) (e1 : Int) (w : World) (K : Int → Int → Int → WP) : Prop :=
 Br (e1 == 0)
  (∃ vfrom1 vto1 : Bool, ∃ vnum1 vtext1 : Bool, ∃ vkids1 : Int, Row w p3 [(vb vfrom1), (vb vto1), (vb vnum1), (vb vtext1), (vi vkids1)] ∧
  ∃ aO aP : Int, ∃ aQ aR : Int, ∃ aS : ByteArray, ∃ bX bY : Int, Row w p2 [(vi aO), (vi aP), (vi aQ), (vu aR), (vs aS), (vi bX), (vi bY)] ∧
  Calls Try.prog 133 #[(.agg #[(vb vfrom1), (vb vto1), (vb vnum1), (vb vtext1), (vi vkids1)]), (.agg #[(vi aO), (vi aP), (vi aQ), (vu aR), (vs aS), (vi bX), (vi bY)])] w (fun e w9 => ∃ r5 : Int, e = .returned (vi r5) ∧ 
   m_B_j2 p1 p2 p3 r5 w9 K))
  (m_B_j2 p1 p2 p3 e1 w K)
def m_B_j5 (p1 : Option Addr) (p2 : Addr) (r1 : Int) (p3 : Addr) (x2 x3 : Bool) (w : World) (K : Int → Int → Int → WP) : Prop :=
 Br (r1 == 0)
  (Br x2
   (m_B_j1 p1 p2 p3 53 w K)
   (Br x3
    (m_B_j1 p1 p2 p3 53 w K)
    (m_B_j1 p1 p2 p3 r1 w K)))
  (m_B_j1 p1 p2 p3 r1 w K)
def m_B_j4 (p1 : Option Addr) (p2 : Addr) (r1 : Int) (p3 : Addr) (x2 : Bool) (w : World) (K : Int → Int → Int → WP) : Prop :=
 Br (r1 == 0)
  (Br x2
   (m_B_j1 p1 p2 p3 53 w K)
   (∃ v6 : Int, w.cell? (p3.add 4) = some (vi v6) ∧
   Br (decide (v6 < 2))
    (∃ v7 : Int, w.cell? (p2.add 6) = some (vi v7) ∧
    m_B_j5 p1 p2 r1 p3 x2 (v7 != 0) w K)
    (m_B_j5 p1 p2 r1 p3 x2 false w K)))
  (m_B_j1 p1 p2 p3 r1 w K)
def m_B (p1 : Option Addr) (aH aI : Int) (aJ aK : Int) (aL : ByteArray) (aM aN : Int) (w : World) (K : Int → Int → Int → WP) : Prop :=
 ∀ (p2 : Addr) (w1 : World), New w (.cells #[(vi aH), (vi aI), (vi aJ), (vu aK), (vs aL), (vi aM), (vi aN)] 106) p2 w1 →
 ∃ aA aB : Int, ∃ aC aD : Int, ∃ aE : ByteArray, ∃ aF aG : Int, Row w1 p2 [(vi aA), (vi aB), (vi aC), (vu aD), (vs aE), (vi aF), (vi aG)] ∧
 Calls Try.prog 132 #[(.agg #[(vi aA), (vi aB), (vi aC), (vu aD), (vs aE), (vi aF), (vi aG)])] w1 (fun e w2 => ∃ rfrom1 rto1 : Bool, ∃ rnum1 rtext1 : Bool, ∃ rkids1 r1 : Int, e = .returned (.tuple #[(.agg #[(vb rfrom1), (vb rto1), (vb rnum1), (vb rtext1), (vi rkids1)]), (vi r1)]) ∧ 
  ∀ (p3 : Addr) (w3 : World), New w2 (.cells #[(vb false), (vb false), (vb false), (vb false), (vi 0)] 202) p3 w3 →
  (∀ j, j < 5 → CanW w3 (p3.add j)) ∧ ∀ w4 : World, w4 = storeRow w3 p3 [(vb rfrom1), (vb rto1), (vb rnum1), (vb rtext1), (vi rkids1)] →
  Br (r1 == 0)
   (∃ v5 : Int, w4.cell? (p3.add 4) = some (vi v5) ∧
   Br (decide (v5 < 1))
    (∃ v8 : Int, w4.cell? (p2.add 5) = some (vi v8) ∧
    m_B_j4 p1 p2 r1 p3 (v8 != 0) w4 K)
    (m_B_j4 p1 p2 r1 p3 false w4 K))
   (m_B_j1 p1 p2 p3 r1 w4 K))
theorem w_B (p1 : Option Addr) (aH aI : Int) (aJ aK : Int) (aL : ByteArray) (aM aN : Int) (w : World) (K : Int → Int → Int → WP) (h : m_B p1 aH aI aJ aK aL aM aN w K) :
  Calls Try.prog 187 #[(vp p1), (.agg #[(vi aH), (vi aI), (vi aJ), (vu aK), (vs aL), (vi aM), (vi aN)])] w (fun e w' => ∃ r6 r7 r8 : Int, e = .returned (.tuple #[(vi r6), (vi r7), (vi r8)]) ∧ K r6 r7 r8 w') := by
 unfold m_B at h
 refine cw (args := [(vp p1), (.agg #[(vi aH), (vi aI), (vi aJ), (vu aK), (vs aL), (vi aM), (vi aN)])]) Try.func187 Try.ntmps187 (wpE_seq (rg (sn (O := (.cells #[(vi aH), (vi aI), (vi aJ), (vu aK), (vs aL), (vi aM), (vi aN)] 106)) xb ?_)))
 intro p2 w1 hn4
 have h := h p2 w1 hn4
 refine q0 (vi 0) (q0 (vi 0) (q0 (vi 0) (wpL_nil (th_n (wpE_seq (rg ?_))))))
 obtain ⟨aA, aB, aC, aD, aE, aF, aG, hv14, h⟩ := h
 refine q2 (.agg #[(vi aA), (vi aB), (vi aC), (vu aD), (vs aE), (vi aF), (vi aG)]) (x_loadA (a := p2) (vs := [(vi aA), (vi aB), (vi aC), (vu aD), (vs aE), (vi aF), (vi aG)]) (by kernel_rfl) (Try.isAgg106 _) (Try.sizeOf106 _) rfl hv14) ?_
 refine sc Try.call132 (h.mono ?_)
 rintro e w2 ⟨rfrom1, rto1, rnum1, rtext1, rkids1, r1, rfl, h⟩
 refine ⟨_, rfl, ?_⟩
 refine q0 (.tuple #[(.agg #[(vb rfrom1), (vb rto1), (vb rnum1), (vb rtext1), (vi rkids1)]), (vi r1)]) (q0 (.agg #[(vb rfrom1), (vb rto1), (vb rnum1), (vb rtext1), (vi rkids1)]) (q0 (vi r1) (sn (O := (.cells #[(vb false), (vb false), (vb false), (vb false), (vi 0)] 202)) (x_alloc (Try.zeroValue202 _) rfl) ?_)))
 intro p3 w3 hn3
 have h := h p3 w3 hn3
 obtain ⟨hp1, h⟩ := h
 refine st_set (want0 rfl) (x_storeA (a := p3) (vs := [(vb rfrom1), (vb rto1), (vb rnum1), (vb rtext1), (vi rkids1)]) (by kernel_rfl) (by kernel_rfl) rfl (Try.sizeOf202 _) rfl hp1) ?_
 intro w4 hn1
 have h := h w4 hn1
 refine q0 (vi r1) (wpL_nil (th_n ?_))
 refine wpE_join (fun ρ w => ∃ e1 : Int, Has ρ [(0, (vp p1)), (3, (vp (some p2))), (7, (vp (some p3))), (8, (vi e1))] ∧ m_B_j1 p1 p2 p3 e1 w K) ?_ ?_
 ·rintro ρ w ⟨e1, hH, h⟩
  unfold m_B_j1 at h
  refine wpE_has hH ?_
  refine wpE_join (fun ρ w => ∃ e2 : Int, Has ρ [(0, (vp p1)), (3, (vp (some p2))), (7, (vp (some p3))), (8, (vi e2))] ∧ m_B_j2 p1 p2 p3 e2 w K) ?_ ?_
  ·rintro ρ w ⟨e2, hH, h⟩
   unfold m_B_j2 at h
   refine wpE_has hH ?_
   refine wpE_seq (wpE_seq (rg (q0 (vi e2) (q0 (vb (e2 != 0)) (wpL_nil (th_n ?_))))))
   refine wpE_cond (t := (e2 != 0)) (by kernel_rfl) (fun hc1 => ?_) (fun hc1 => ?_)
   ·have h := h.1 hc1
    refine wpE_seq (rg (q0 (vi e2) (q0 (vi 0) (q0 (vi 0) (q0 (vi e2) (wpL_nil (th_n (wpE_ret (th_r (res3 (.inl rfl) Try.results187 (v := (vi 0)) (by kernel_rfl) (v' := (vi 0)) (by kernel_rfl) (v'' := (vi e2)) (by kernel_rfl) ?_))))))))))
    exact ⟨0, 0, e2, rfl, h⟩
   ·have h := h.2 hc1
    refine wpE_skip (th_n (wpE_seq (rg (q0 (vi 1) (q0 (vi 0) (wpL_nil (th_n (wpE_seq (wpE_seq (rg (q0 (vp (some (p2.add 5))) ?_)))))))))))
    obtain ⟨v1, hv7, h⟩ := h
    refine q2 (vi v1) (xl (Try.isAgg32 _) hv7) (q0 (vp (some (p2.add 6))) ?_)
    obtain ⟨v2, hv6, h⟩ := h
    refine q2 (vi v2) (xl (Try.isAgg32 _) hv6) (st_new (O := (.cells #[(vi v1), (vi v2)] 32)) (fun p => (Sl.mk (some p) 2 2).v) (want0 rfl) (x_buildSlice (vs := #[(0, (vi v1)), (1, (vi v2))]) (by kernel_rfl) (by kernel_rfl)) ?_)
    intro p4 w5 hn2
    have h := h p4 w5 hn2
    refine q0 (vp (some (p3.add 4))) ?_
    obtain ⟨v3, hv5, h⟩ := h
    refine q2 (vi v3) (xl (Try.isAgg3 _) hv5) ?_
    obtain ⟨s1, hv4, h⟩ := h
    refine q2 s1.v (x_slice (by kernel_rfl) (by kernel_rfl) (by kernel_rfl) (by kernel_rfl) hv4) (q0 (vi (s1.len : Int)) (q0 (vi 0) (wpL_nil (th_n (wpE_block ?_)))))
    obtain ⟨I1, mu1, h0, hr⟩ := h
    refine wpE_loop (σ := Int × Int × Int × World) (fun s ρ w => w = s.2.2.2 ∧ Has ρ [(0, (vp p1)), (9, (vi s.1)), (10, (vi s.2.1)), (55, s1.v), (56, (vi (s1.len : Int))), (57, (vi s.2.2.1))] ∧ I1 s.1 s.2.1 s.2.2.1 s.2.2.2) (fun s => mu1 s.1 s.2.1 s.2.2.1 s.2.2.2) (1, 0, 0, w5) ⟨rfl, hm, h0⟩ ?_
    rintro ⟨size1, depth1, x1, wl1⟩ ρ w ⟨hw, hH, hI⟩
    obtain rfl : wl1 = w := (show w = wl1 from hw).symm
    have hH : Has ρ [(0, (vp p1)), (9, (vi size1)), (10, (vi depth1)), (55, s1.v), (56, (vi (s1.len : Int))), (57, (vi x1))] := hH
    have h := hr size1 depth1 x1 wl1 hI
    unfold m_B_l3 at h
    refine wpE_has hH ?_
    refine wpE_seq (rg (q0 (vb (decide (x1 < (s1.len : Int)))) (wpL_nil (th_n (wpE_seq ?_)))))
    refine wpE_cond (t := (decide (x1 < (s1.len : Int)))) (by kernel_rfl) (fun hc2 => ?_) (fun hc2 => ?_)
    ·have h := h.1 hc2
     refine wpE_skip (th_n (wpE_seq (wpE_block (wpE_seq (rg ?_)))))
     obtain ⟨a1, hv3, h⟩ := h
     refine q2 (vp (some a1)) (xi (Try.runUnderlying39 _) (Try.sizeOf32 _) hv3) ?_
     obtain ⟨v4, hv2, h⟩ := h
     refine q2 (vi v4) (xl (Try.isAgg32 _) hv2) (q0 (vi v4) (wpL_nil (th_n (wpE_seq (wpE_seq (rg (q0 (vp p1) (q0 (vi v4) ?_))))))))
     refine sc Try.call119 (h.mono ?_)
     rintro e w6 ⟨r2, rfl, h⟩
     refine ⟨_, rfl, ?_⟩
     refine q0 (vb (!r2)) (wpL_nil (th_n ?_))
     refine wpE_cond (t := (!r2)) (by kernel_rfl) (fun hc3 => ?_) (fun hc3 => ?_)
     ·have h := h.1 hc3
      refine wpE_seq (rg (q0 (vi 0) (q0 (vi 0) (q0 (vi 51) (wpL_nil (th_n (wpE_ret (th_r (bl_r (th_r (th_r ?_)))))))))))
      refine bl_r (th_r (res3 (.inl rfl) Try.results187 (v := (vi 0)) (by kernel_rfl) (v' := (vi 0)) (by kernel_rfl) (v'' := (vi 51)) (by kernel_rfl) ?_))
      exact ⟨0, 0, 51, rfl, h⟩
     ·have h := h.2 hc3
      refine wpE_skip (th_n (wpE_seq (rg (q0 (vi size1) (q0 (vp p1) (q0 (vi v4) ?_))))))
      refine sc Try.call213 (h.mono ?_)
      rintro e w7 ⟨r3, rfl, h⟩
      refine ⟨_, rfl, ?_⟩
      refine q0 (vi (q6.wrap (size1 + r3))) (q0 (vi (q6.wrap (size1 + r3))) (wpL_nil (th_n (rg (q0 (vi depth1) (q0 (vp p1) (q0 (vi v4) ?_)))))))
      refine sc Try.call214 (h.mono ?_)
      rintro e w8 ⟨r4, rfl, h⟩
      refine ⟨_, rfl, ?_⟩
      obtain ⟨z1, hv1, h⟩ := h
      refine q2 (vi z1) (x_builtin (args := #[(vi depth1), (vi r4)]) (by kernel_rfl) (fun _ => rfl) hv1) (q0 (vi z1) (wpL_nil (bl_n (th_n (rg (q0 (vi (q6.wrap (x1 + 1))) (q0 (vi (q6.wrap (x1 + 1))) (wpL_nil (th_n ?_)))))))))
      exact ⟨((q6.wrap (size1 + r3)), z1, (q6.wrap (x1 + 1)), w8), ⟨rfl, hm, h.1⟩, h.2⟩
    ·have h := h.2 hc2
     refine wpE_exit (th_x (th_x (bl_eq (th_n (wpE_seq (rg (q0 (vi depth1) (q0 (vi (q6.wrap (depth1 + 1))) (q0 (vi (q6.wrap (depth1 + 1))) (wpL_nil (th_n ?_)))))))))))
     refine wpE_seq (wpE_seq (rg (q0 (vi size1) (q0 (vb (decide (size1 > 4096))) (q0 (vb (decide (size1 > 4096))) ?_)))))
     rcases Bool.eq_false_or_eq_true (decide (size1 > 4096)) with hg1 | hg1
     ·have h := h.1 hg1
      refine sk (yD 80 hg1) (sk (yD 80 hg1) (q2 (vb true) (xT hg1) (wpL_nil (th_n (wpE_condT (by kernel_rfl) (wpE_seq (rg (q0 (vi 0) (q0 (vi 0) (q0 (vi 52) (wpL_nil ?_)))))))))))
      refine th_n (wpE_ret (th_r (res3 (.inl rfl) Try.results187 (v := (vi 0)) (by kernel_rfl) (v' := (vi 0)) (by kernel_rfl) (v'' := (vi 52)) (by kernel_rfl) ?_)))
      exact ⟨0, 0, 52, rfl, h⟩
     ·have h := h.2 hg1
      refine q1 (vi (q6.wrap (depth1 + 1))) (want1 rfl (yD 80 hg1)) (q1 (vb (decide ((q6.wrap (depth1 + 1)) > 64))) (want1 rfl (yD 80 hg1)) (q2 (vb (decide ((q6.wrap (depth1 + 1)) > 64))) (xF hg1) (wpL_nil (th_n ?_))))
      refine wpE_cond (t := (decide ((q6.wrap (depth1 + 1)) > 64))) (by kernel_rfl) (fun hc4 => ?_) (fun hc4 => ?_)
      ·have h := h.1 hc4
       refine wpE_seq (rg (q0 (vi 0) (q0 (vi 0) (q0 (vi 52) (wpL_nil (th_n (wpE_ret (th_r (res3 (.inl rfl) Try.results187 (v := (vi 0)) (by kernel_rfl) (v' := (vi 0)) (by kernel_rfl) (v'' := (vi 52)) (by kernel_rfl) ?_)))))))))
       exact ⟨0, 0, 52, rfl, h⟩
      ·have h := h.2 hc4
       refine wpE_skip (th_n (wpE_seq (rg (q0 (vi size1) (q0 (vi (q6.wrap (depth1 + 1))) (q0 (vi size1) (q0 (vi (q6.wrap (depth1 + 1))) (q0 (vi 0) (wpL_nil (th_n (wpE_ret ?_)))))))))))
       refine res3 (.inl rfl) Try.results187 (v := (vi size1)) (by kernel_rfl) (v' := (vi (q6.wrap (depth1 + 1)))) (by kernel_rfl) (v'' := (vi 0)) (by kernel_rfl) ?_
       exact ⟨size1, (q6.wrap (depth1 + 1)), 0, rfl, h⟩
  ·refine wpE_seq (rg (q0 (vi e1) (q0 (vb (e1 == 0)) (wpL_nil (th_n ?_)))))
   refine wpE_cond (t := (e1 == 0)) (by kernel_rfl) (fun hc5 => ?_) (fun hc5 => ?_)
   ·have h := h.1 hc5
    refine rg ?_
    obtain ⟨vfrom1, vto1, vnum1, vtext1, vkids1, hv9, h⟩ := h
    refine q2 (.agg #[(vb vfrom1), (vb vto1), (vb vnum1), (vb vtext1), (vi vkids1)]) (x_loadA (a := p3) (vs := [(vb vfrom1), (vb vto1), (vb vnum1), (vb vtext1), (vi vkids1)]) (by kernel_rfl) (Try.isAgg202 _) (Try.sizeOf202 _) rfl hv9) ?_
    obtain ⟨aO, aP, aQ, aR, aS, bX, bY, hv8, h⟩ := h
    refine q2 (.agg #[(vi aO), (vi aP), (vi aQ), (vu aR), (vs aS), (vi bX), (vi bY)]) (x_loadA (a := p2) (vs := [(vi aO), (vi aP), (vi aQ), (vu aR), (vs aS), (vi bX), (vi bY)]) (by kernel_rfl) (Try.isAgg106 _) (Try.sizeOf106 _) rfl hv8) ?_
    refine sc Try.call133 (h.mono ?_)
    rintro e w9 ⟨r5, rfl, h⟩
    refine ⟨_, rfl, ?_⟩
    refine q0 (vi r5) (wpL_nil (th_n ?_))
    exact ⟨r5, hm, h⟩
   ·have h := h.2 hc5
    refine wpE_skip (th_n ?_)
    exact ⟨e1, hm, h⟩
 ·refine wpE_seq (rg (q0 (vi r1) (q0 (vb (r1 == 0)) (q0 (vb (r1 == 0)) ?_))))
  rcases Bool.eq_false_or_eq_true (r1 == 0) with hg2 | hg2
  ·have h := h.1 hg2
   refine q1 (vp (some (p3.add 4))) (want1 rfl (yD 20 hg2)) ?_
   obtain ⟨v5, hv13, h⟩ := h
   refine stp (v := (vi v5)) (want1 rfl (yD 20 hg2)) (xl (Try.isAgg3 _) hv13) (q1 (vb (decide (v5 < 1))) (want1 rfl (yD 20 hg2)) (q1 (vb (decide (v5 < 1))) (want1 rfl (yD 20 hg2)) ?_))
   refine wpL_join 4 (fun ρ w => ∃ x2 : Bool, Has ρ [(0, (vp p1)), (3, (vp (some p2))), (7, (vp (some p3))), (8, (vi r1)), (20, (vb (r1 == 0))), (28, (vb x2))] ∧ m_B_j4 p1 p2 r1 p3 x2 w K) ?_ ?_
   ·rintro ρ w ⟨x2, hH, h⟩
    unfold m_B_j4 at h
    refine wpL_has hH ?_
    rcases Bool.eq_false_or_eq_true (r1 == 0) with hg3 | hg3
    ·have h := h.1 hg3
     refine q1 (vb x2) (want1 rfl (yD 20 hg3)) ?_
     rcases Bool.eq_false_or_eq_true x2 with hg4 | hg4
     ·have h := h.1 hg4
      refine sk (yD 29 hg4) (sk (yD 29 hg4) (sk (yD 29 hg4) (sk (yD 29 hg4) (sm (sm (sm (sk (yD 29 hg4) (stp (v := (vb true)) (want1 rfl (yD 20 hg3)) (xT hg4) (q2 (vb true) (xT hg3) (wpL_nil (th_n ?_)))))))))))
      refine wpE_condT (by kernel_rfl) (rg (q0 (vi 53) (wpL_nil (th_n ?_))))
      exact ⟨53, hm, h⟩
     ·have h := h.2 hg4
      refine q1 (vp (some (p3.add 4))) (want1 rfl (yD 29 hg4)) ?_
      obtain ⟨v6, hv11, h⟩ := h
      refine stp (v := (vi v6)) (want1 rfl (yD 29 hg4)) (xl (Try.isAgg3 _) hv11) (q1 (vb (decide (v6 < 2))) (want1 rfl (yD 29 hg4)) (q1 (vb (decide (v6 < 2))) (want1 rfl (yD 29 hg4)) ?_))
      refine wpL_join 4 (fun ρ w => ∃ x3 : Bool, Has ρ [(0, (vp p1)), (3, (vp (some p2))), (7, (vp (some p3))), (8, (vi r1)), (20, (vb (r1 == 0))), (29, (vb x2)), (37, (vb x3))] ∧ m_B_j5 p1 p2 r1 p3 x2 x3 w K) ?_ ?_
      ·rintro ρ w ⟨x3, hH, h⟩
       unfold m_B_j5 at h
       refine wpL_has hH ?_
       rcases Bool.eq_false_or_eq_true (r1 == 0) with hg5 | hg5
       ·have h := h.1 hg5
        rcases Bool.eq_false_or_eq_true x2 with hg6 | hg6
        ·have h := h.1 hg6
         refine stp (v := (vb true)) (want1 rfl (yD 20 hg5)) (xT hg6) (q2 (vb true) (xT hg5) (wpL_nil (th_n (wpE_condT (by kernel_rfl) (rg (q0 (vi 53) (wpL_nil (th_n ?_))))))))
         exact ⟨53, hm, h⟩
        ·have h := h.2 hg6
         refine stp (v := (vb x3)) (want1 rfl (yD 20 hg5)) (xF hg6) (q2 (vb x3) (xT hg5) (wpL_nil (th_n ?_)))
         refine wpE_cond (t := x3) (by kernel_rfl) (fun hc6 => ?_) (fun hc6 => ?_)
         ·have h := h.1 hc6
          refine rg (q0 (vi 53) (wpL_nil (th_n ?_)))
          exact ⟨53, hm, h⟩
         ·have h := h.2 hc6
          refine wpE_skip (th_n ?_)
          exact ⟨r1, hm, h⟩
       ·have h := h.2 hg5
        refine sk (yD 20 hg5) (q2 (vb false) (xF hg5) (wpL_nil (th_n (wpE_condF (by kernel_rfl) (wpE_skip (th_n ?_))))))
        exact ⟨r1, hm, h⟩
      ·rcases Bool.eq_false_or_eq_true (decide (v6 < 2)) with hg7 | hg7
       ·have h := h.1 hg7
        refine q1 (vp (some (p2.add 6))) (want1 rfl (yD 33 hg7)) ?_
        obtain ⟨v7, hv10, h⟩ := h
        refine stp (v := (vi v7)) (want1 rfl (yD 33 hg7)) (xl (Try.isAgg32 _) hv10) (q1 (vb (v7 != 0)) (want1 rfl (yD 33 hg7)) (stp (v := (vb (v7 != 0))) (want1 rfl (yD 29 hg4)) (xT hg7) (wpL_nil ?_)))
        exact ⟨(v7 != 0), hm, h⟩
       ·have h := h.2 hg7
        refine sk (yD 33 hg7) (sk (yD 33 hg7) (sk (yD 33 hg7) (stp (v := (vb false)) (want1 rfl (yD 29 hg4)) (xF hg7) (wpL_nil ?_))))
        exact ⟨false, hm, h⟩
    ·have h := h.2 hg3
     refine sk (yD 20 hg3) (sm (sm (sm (sm (sm (sm (sm (sm (sk (yD 20 hg3) (q2 (vb false) (xF hg3) (wpL_nil ?_)))))))))))
     refine th_n (wpE_condF (by kernel_rfl) (wpE_skip (th_n ?_)))
     exact ⟨r1, hm, h⟩
   ·rcases Bool.eq_false_or_eq_true (decide (v5 < 1)) with hg8 | hg8
    ·have h := h.1 hg8
     refine q1 (vp (some (p2.add 5))) (want1 rfl (yD 24 hg8)) ?_
     obtain ⟨v8, hv12, h⟩ := h
     refine stp (v := (vi v8)) (want1 rfl (yD 24 hg8)) (xl (Try.isAgg32 _) hv12) (q1 (vb (v8 != 0)) (want1 rfl (yD 24 hg8)) (stp (v := (vb (v8 != 0))) (want1 rfl (yD 20 hg2)) (xT hg8) (wpL_nil ?_)))
     exact ⟨(v8 != 0), hm, h⟩
    ·have h := h.2 hg8
     refine sk (yD 24 hg8) (sk (yD 24 hg8) (sk (yD 24 hg8) (stp (v := (vb false)) (want1 rfl (yD 20 hg2)) (xF hg8) (wpL_nil ?_))))
     exact ⟨false, hm, h⟩
  ·have h := h.2 hg2
   refine sk (yD 20 hg2) (sk (yD 20 hg2) (sk (yD 20 hg2) (sk (yD 20 hg2) (sm (sm (sm (sk (yD 20 hg2) (sk (yD 20 hg2) (sm (sm (sm ?_)))))))))))
   refine sm (sm (sm (sm (sm (sk (yD 20 hg2) (q2 (vb false) (xF hg2) (wpL_nil (th_n (wpE_condF (by kernel_rfl) (wpE_skip (th_n ?_)))))))))))
   exact ⟨r1, hm, h⟩
def m_O2 (n1 : Int) (w : World) (K : Bool → WP) : Prop :=
 Br (decide (n1 ≥ 0))
  (K (decide (n1 < 16)) w)
  (K false w)
theorem w_O2 (n1 : Int) (w : World) (K : Bool → WP) (h : m_O2 n1 w K) :
  Calls Try.prog 188 #[(vi n1)] w (fun e w' => ∃ r1 : Bool, e = .returned (vb r1) ∧ K r1 w') := by
 unfold m_O2 at h
 refine cw (args := [(vi n1)]) Try.func188 Try.ntmps188 (wpE_seq (rg (q0 (vb false) (wpL_nil (th_n (wpE_seq (rg (q0 (vi n1) (q0 (vb (decide (n1 ≥ 0))) (q0 (vb (decide (n1 ≥ 0))) ?_))))))))))
 rcases Bool.eq_false_or_eq_true (decide (n1 ≥ 0)) with hg1 | hg1
 ·have h := h.1 hg1
  refine q1 (vi n1) (want1 rfl (yD 5 hg1)) (q1 (vb (decide (n1 < 16))) (want1 rfl (yD 5 hg1)) (q2 (vb (decide (n1 < 16))) (xT hg1) (q0 (vb (decide (n1 < 16))) (wpL_nil (th_n (wpE_ret (rs1 Try.results188 (v := (vb (decide (n1 < 16)))) ?_)))))))
  exact ⟨(decide (n1 < 16)), rfl, h⟩
 ·have h := h.2 hg1
  refine sk (yD 5 hg1) (sk (yD 5 hg1) (q2 (vb false) (xF hg1) (q0 (vb false) (wpL_nil (th_n (wpE_ret (rs1 Try.results188 (v := (vb false)) ?_)))))))
  exact ⟨false, rfl, h⟩
def m_P2  (w : World) (K : (Array Value) → WP) : Prop :=
 ∀ (p1 : Addr) (w1 : World), New w (.cells #[(vb false), (vb false), (vb false), (vb false), (vi 0), (vb false), (vb false), (vb false), (vb false), (vi 0), (vb false), (vb false), (vb false), (vb false), (vi 0), (vb false), (vb false), (vb false), (vb false), (vi 0), (vb false), (vb false), (vb false), (vb false), (vi 0), (vb false), (vb false), (vb false), (vb false), (vi 0), (vb false), (vb false), (vb false), (vb false), (vi 0), (vb false), (vb false), (vb false), (vb false), (vi 0), (vb false), (vb false), (vb false), (vb false), (vi 0), (vb false), (vb false), (vb false), (vb false), (vi 0)] 238) p1 w1 →
 (∀ j, j < 50 → CanW w1 (p1.add j)) ∧ ∀ w2 : World, w2 = storeRow w1 p1 [(vb false), (vb false), (vb false), (vb false), (vi 0), (vb true), (vb false), (vb false), (vb false), (vi 0), (vb false), (vb false), (vb true), (vb false), (vi 0), (vb false), (vb false), (vb false), (vb true), (vi 0), (vb false), (vb false), (vb false), (vb false), (vi 2), (vb false), (vb false), (vb false), (vb false), (vi 1), (vb true), (vb false), (vb false), (vb false), (vi 0), (vb true), (vb false), (vb false), (vb false), (vi 1), (vb true), (vb true), (vb false), (vb false), (vi 1), (vb true), (vb true), (vb false), (vb false), (vi 1)] →
 ∃ q1 : Array Value, (q1.size = 50 ∧ Row w2 p1 q1.toList) ∧
 K q1 w2
theorem w_P2  (w : World) (K : (Array Value) → WP) (h : m_P2  w K) :
  Calls Try.prog 189 #[] w (fun e w' => ∃ r1 : Array Value, e = .returned (.agg r1) ∧ K r1 w') := by
 unfold m_P2 at h
 refine cw (args := []) Try.func189 Try.ntmps189 (wpE_seq (rg (sn (O := (.cells #[(vb false), (vb false), (vb false), (vb false), (vi 0), (vb false), (vb false), (vb false), (vb false), (vi 0), (vb false), (vb false), (vb false), (vb false), (vi 0), (vb false), (vb false), (vb false), (vb false), (vi 0), (vb false), (vb false), (vb false), (vb false), (vi 0), (vb false), (vb false), (vb false), (vb false), (vi 0), (vb false), (vb false), (vb false), (vb false), (vi 0), (vb false), (vb false), (vb false), (vb false), (vi 0), (vb false), (vb false), (vb false), (vb false), (vi 0), (vb false), (vb false), (vb false), (vb false), (vi 0)] 238)) (x_alloc (Try.zeroValue238 _) rfl) ?_)))
 intro p1 w1 hn2
 have h := h p1 w1 hn2
 refine wpL_nil (th_n (wpE_seq (rg (q0 (.agg #[(vb true), (vb false), (vb false), (vb false), (vi 0)]) (q0 (.agg #[(vb false), (vb false), (vb true), (vb false), (vi 0)]) (q0 (.agg #[(vb false), (vb false), (vb false), (vb true), (vi 0)]) (q0 (.agg #[(vb false), (vb false), (vb false), (vb false), (vi 2)]) (q0 (.agg #[(vb false), (vb false), (vb false), (vb false), (vi 1)]) (q0 (.agg #[(vb true), (vb false), (vb false), (vb false), (vi 0)]) (q0 (.agg #[(vb true), (vb false), (vb false), (vb false), (vi 1)]) (q0 (.agg #[(vb true), (vb true), (vb false), (vb false), (vi 1)]) ?_)))))))))))
 refine q0 (.agg #[(vb true), (vb true), (vb false), (vb false), (vi 1)]) (q0 (.agg #[(vb false), (vb false), (vb false), (vb false), (vi 0), (vb true), (vb false), (vb false), (vb false), (vi 0), (vb false), (vb false), (vb true), (vb false), (vi 0), (vb false), (vb false), (vb false), (vb true), (vi 0), (vb false), (vb false), (vb false), (vb false), (vi 2), (vb false), (vb false), (vb false), (vb false), (vi 1), (vb true), (vb false), (vb false), (vb false), (vi 0), (vb true), (vb false), (vb false), (vb false), (vi 1), (vb true), (vb true), (vb false), (vb false), (vi 1), (vb true), (vb true), (vb false), (vb false), (vi 1)]) ?_)
 obtain ⟨hp1, h⟩ := h
 refine st_set (want0 rfl) (x_storeA (a := p1) (vs := [(vb false), (vb false), (vb false), (vb false), (vi 0), (vb true), (vb false), (vb false), (vb false), (vi 0), (vb false), (vb false), (vb true), (vb false), (vi 0), (vb false), (vb false), (vb false), (vb true), (vi 0), (vb false), (vb false), (vb false), (vb false), (vi 2), (vb false), (vb false), (vb false), (vb false), (vi 1), (vb true), (vb false), (vb false), (vb false), (vi 0), (vb true), (vb false), (vb false), (vb false), (vi 1), (vb true), (vb true), (vb false), (vb false), (vi 1), (vb true), (vb true), (vb false), (vb false), (vi 1)]) (by kernel_rfl) (by kernel_rfl) rfl (Try.sizeOf238 _) rfl hp1) ?_
 intro w2 hn1
 have h := h w2 hn1
 refine wpL_nil (th_n (wpE_ret ?_))
 obtain ⟨q1, hv1, h⟩ := h
 refine resG (.inl rfl) (vs := [(.agg q1)]) (v := (.agg q1)) Try.results189 ⟨(RV.cellAr (A := p1) (vs := q1) (by kernel_rfl) (Try.isAgg238 _) (Try.sizeOf238 _) hv1), trivial⟩ (by kernel_rfl) ?_
 exact ⟨q1, rfl, h⟩
def m_Q2 (p1 : Option Addr) (t1 : Int) (w : World) (K : Int → WP) : Prop :=
 Calls Try.prog 119 #[(vp p1), (vi t1)] w (fun e w1 => ∃ r1 : Bool, e = .returned (vb r1) ∧ 
  Br (!r1)
   (K 0 w1)
   (∃ a1 : Addr, p1 = some a1 ∧
   ∃ v1 : Sl, w1.cell? a1 = some v1.v ∧
   ∃ a2 : Addr, At v1 (q6.wrap (t1 - 1)) 9 a2 ∧
   ∃ v2 : Int, w1.cell? (a2.add 7) = some (vi v2) ∧
   K v2 w1))
theorem w_Q2 (p1 : Option Addr) (t1 : Int) (w : World) (K : Int → WP) (h : m_Q2 p1 t1 w K) :
  Calls Try.prog 213 #[(vp p1), (vi t1)] w (fun e w' => ∃ r2 : Int, e = .returned (vi r2) ∧ K r2 w') := by
 unfold m_Q2 at h
 refine cw (args := [(vp p1), (vi t1)]) Try.func213 Try.ntmps213 (wpE_seq (rg (q0 (vi 0) (wpL_nil (th_n (wpE_seq (wpE_seq (rg (q0 (vp p1) (q0 (vi t1) ?_))))))))))
 refine sc Try.call119 (h.mono ?_)
 rintro e w1 ⟨r1, rfl, h⟩
 refine ⟨_, rfl, ?_⟩
 refine q0 (vb (!r1)) (wpL_nil (th_n ?_))
 refine wpE_cond (t := (!r1)) (by kernel_rfl) (fun hc1 => ?_) (fun hc1 => ?_)
 ·have h := h.1 hc1
  refine wpE_seq (rg (q0 (vi 0) (wpL_nil (th_n (wpE_ret (th_r (rs1 Try.results213 (v := (vi 0)) ?_)))))))
  exact ⟨0, rfl, h⟩
 ·have h := h.2 hc1
  refine wpE_skip (th_n (wpE_seq (rg (q0 (vp p1) ?_))))
  obtain ⟨a1, hp1, h⟩ := h
  refine q2 (vp (some a1)) (x_nilCheck (p := p1) (by kernel_rfl) hp1) (q0 (vp (some a1)) ?_)
  obtain ⟨v1, hv3, h⟩ := h
  refine q2 v1.v (xl (Try.isAgg130 _) hv3) (q0 (vi t1) (q0 (vi (q6.wrap (t1 - 1))) ?_))
  obtain ⟨a2, hv2, h⟩ := h
  refine q2 (vp (some a2)) (xi (Try.runUnderlying130 _) (Try.sizeOf178 _) hv2) (q0 (vp (some (a2.add 7))) ?_)
  obtain ⟨v2, hv1, h⟩ := h
  refine q2 (vi v2) (xl (Try.isAgg3 _) hv1) (q0 (vi v2) (wpL_nil (th_n (wpE_ret (rs1 Try.results213 (v := (vi v2)) ?_)))))
  exact ⟨v2, rfl, h⟩
def m_R2 (p1 : Option Addr) (t1 : Int) (w : World) (K : Int → WP) : Prop :=
 Calls Try.prog 119 #[(vp p1), (vi t1)] w (fun e w1 => ∃ r1 : Bool, e = .returned (vb r1) ∧ 
  Br (!r1)
   (K 0 w1)
   (∃ a1 : Addr, p1 = some a1 ∧
   ∃ v1 : Sl, w1.cell? a1 = some v1.v ∧
   ∃ a2 : Addr, At v1 (q6.wrap (t1 - 1)) 9 a2 ∧
   ∃ v2 : Int, w1.cell? (a2.add 8) = some (vi v2) ∧
   K v2 w1))
theorem w_R2 (p1 : Option Addr) (t1 : Int) (w : World) (K : Int → WP) (h : m_R2 p1 t1 w K) :
  Calls Try.prog 214 #[(vp p1), (vi t1)] w (fun e w' => ∃ r2 : Int, e = .returned (vi r2) ∧ K r2 w') := by
 unfold m_R2 at h
 refine cw (args := [(vp p1), (vi t1)]) Try.func214 Try.ntmps214 (wpE_seq (rg (q0 (vi 0) (wpL_nil (th_n (wpE_seq (wpE_seq (rg (q0 (vp p1) (q0 (vi t1) ?_))))))))))
 refine sc Try.call119 (h.mono ?_)
 rintro e w1 ⟨r1, rfl, h⟩
 refine ⟨_, rfl, ?_⟩
 refine q0 (vb (!r1)) (wpL_nil (th_n ?_))
 refine wpE_cond (t := (!r1)) (by kernel_rfl) (fun hc1 => ?_) (fun hc1 => ?_)
 ·have h := h.1 hc1
  refine wpE_seq (rg (q0 (vi 0) (wpL_nil (th_n (wpE_ret (th_r (rs1 Try.results214 (v := (vi 0)) ?_)))))))
  exact ⟨0, rfl, h⟩
 ·have h := h.2 hc1
  refine wpE_skip (th_n (wpE_seq (rg (q0 (vp p1) ?_))))
  obtain ⟨a1, hp1, h⟩ := h
  refine q2 (vp (some a1)) (x_nilCheck (p := p1) (by kernel_rfl) hp1) (q0 (vp (some a1)) ?_)
  obtain ⟨v1, hv3, h⟩ := h
  refine q2 v1.v (xl (Try.isAgg130 _) hv3) (q0 (vi t1) (q0 (vi (q6.wrap (t1 - 1))) ?_))
  obtain ⟨a2, hv2, h⟩ := h
  refine q2 (vp (some a2)) (xi (Try.runUnderlying130 _) (Try.sizeOf178 _) hv2) (q0 (vp (some (a2.add 8))) ?_)
  obtain ⟨v2, hv1, h⟩ := h
  refine q2 (vi v2) (xl (Try.isAgg3 _) hv1) (q0 (vi v2) (wpL_nil (th_n (wpE_ret (rs1 Try.results214 (v := (vi v2)) ?_)))))
  exact ⟨v2, rfl, h⟩
end Go.Proofs
end
section
open Go Go.SE
namespace Go.Proofs
attribute [local irreducible] Calls
theorem c_isName (n : Int) (w : World) : Calls Try.prog 188 #[.int .i64 n] w (fun e w' => ∃ r, e = .returned (.bool r) ∧ (r = Sp.isName n ∧ w' = w)) := by
 refine w_O2 n w (fun r w' => r = Sp.isName n ∧ w' = w) ?_
 unfold m_O2
 refine ⟨fun h => ⟨?_, rfl⟩, fun h => ⟨?_, rfl⟩⟩
 ·have : 0 ≤ n := by simpa using h
  simp [Sp.isName, this]
 ·have : ¬ 0 ≤ n := by simpa using h
  simp [Sp.isName, this]
theorem c_fields (s1 s2 s3 s4 : Bool) (s5 k f t u : Int) (x : ByteArray) (a b : Int) (w : World) :
  Calls Try.prog 133 #[.agg #[.bool s1, .bool s2, .bool s3, .bool s4, .int .i64 s5], .agg #[.int .i64 k, .int .i64 f, .int .i64 t, .int .u64 u, .string x, .int .i64 a, .int .i64 b]] w
   (fun e w' => ∃ r, e = .returned (.int .i64 r) ∧ (r = Sp.fieldsErr ⟨s1, s2, s3, s4, s5⟩ ⟨k, f, t, u, x, a, b⟩ ∧ Pure w w')) := by
 refine w_K _ _ _ _ _ _ _ _ _ _ _ _ w (fun r w' => r = Sp.fieldsErr ⟨s1, s2, s3, s4, s5⟩ ⟨k, f, t, u, x, a, b⟩ ∧ Pure w w') ?_
 unfold m_K
 intro p1 w1 h1 p2 w2 h2
 have b1 := (Box.of_new h1).pure (Ext.new h2)
 have b2 := Box.of_new h2
 have E : Pure w w2 := (Ext.new h1).trans (Ext.new h2)
 have J : ∀ c : Bool, c = (s1 && !Sp.isName f) → m_K_j1 p1 p2 c w2 (fun r w' => r = Sp.fieldsErr ⟨s1, s2, s3, s4, s5⟩ ⟨k, f, t, u, x, a, b⟩ ∧ Pure w w') := by
  intro c hc
  unfold m_K_j1
  refine ⟨fun h => ⟨?_, E⟩, fun h => ⟨_, b1.cell rfl, fun h' => ⟨_, b2.cell rfl, ?_⟩, fun h' => ⟨_, b2.cell rfl, fun h3 => ⟨?_, E⟩, fun h3 => ⟨?_, E⟩⟩⟩⟩
  ·rw [hc] at h; simp [Sp.fieldsErr, h]
  ·refine (c_isName _ _).mono ?_
   rintro _ _ ⟨r, rfl, rfl, rfl⟩
   rw [hc] at h
   refine ⟨_, rfl, fun h2 => ⟨?_, E⟩, fun h2 => ⟨_, b2.cell rfl, _, b2.cell rfl, fun h3 => ⟨?_, E⟩, fun h3 => ⟨_, b2.cell rfl, fun h4 => ⟨?_, E⟩, fun h4 => ⟨?_, E⟩⟩⟩⟩
   ·simp [Sp.fieldsErr, h', h2]
   ·simp [Sp.fieldsErr, h', h3]
   ·simp only [Sp.fieldsErr, h, h', h3]; simp at h2 h4; simp [h2]; omega
   ·simp only [Sp.fieldsErr, h, h', h3]; simp at h2 h4; simp [h2]; omega
  ·rw [hc] at h; simp only [Sp.fieldsErr, h, h']; simp at h3; simp; omega
  ·rw [hc] at h; simp only [Sp.fieldsErr, h, h']; simp at h3; simp; omega
 refine ⟨_, b1.cell0, fun h => ⟨_, b2.cell rfl, ?_⟩, fun h => J _ (by simp [h])⟩
 refine (c_isName _ _).mono ?_
 rintro _ _ ⟨r, rfl, rfl, rfl⟩
 exact ⟨_, rfl, J _ (by simp [h])⟩
end Go.Proofs
end
section
open Go Go.SE
namespace Go.Proofs
attribute [local irreducible] Calls
def shapesT : Array Value := #[.bool false, .bool false, .bool false, .bool false, .int .i64 0, .bool true, .bool false, .bool false, .bool false, .int .i64 0, .bool false, .bool false, .bool true, .bool false, .int .i64 0, .bool false, .bool false, .bool false, .bool true, .int .i64 0, .bool false, .bool false, .bool false, .bool false, .int .i64 2, .bool false, .bool false, .bool false, .bool false, .int .i64 1, .bool true, .bool false, .bool false, .bool false, .int .i64 0, .bool true, .bool false, .bool false, .bool false, .int .i64 1, .bool true, .bool true, .bool false, .bool false, .int .i64 1, .bool true, .bool true, .bool false, .bool false, .int .i64 1]
theorem c_shapes (w : World) : Calls Try.prog 189 #[] w (fun e w' => ∃ r, e = .returned (.agg r) ∧ (r = shapesT ∧ Pure w w')) := by
 refine w_P2 w (fun r w' => r = shapesT ∧ Pure w w') ?_
 unfold m_P2
 intro p1 w1 h1
 have E1 : Pure w w1 := Ext.new h1
 have hp := New.own (Ext.refl w) h1
 have b1 := Box.of_newA h1
 clear h1
 refine bx 50 b1 (by kernel_rfl) (by kernel_rfl) (fun w' b E => ?_)
 refine ⟨shapesT, ⟨by kernel_rfl, b.row_eq (by kernel_rfl)⟩, rfl, E1.own hp E⟩
theorem c_shapeOf (k : Int) (w : World) : Calls Try.prog 135 #[.int .i64 k] w (fun e w' => ∃ r1 : Bool, ∃ r2 : Bool, ∃ r3 : Bool, ∃ r4 : Bool, ∃ r5 : Int, ∃ r : Bool, e = .returned (.tuple #[.agg #[.bool r1, .bool r2, .bool r3, .bool r4, .int .i64 r5], .bool r]) ∧ (((⟨r1, r2, r3, r4, r5⟩ : Sp.Shape) = Sp.shapeOf k ∧ r = Sp.isKind k) ∧ Pure w w')) := by
 refine w_M2 k w (fun r1 r2 r3 r4 r5 r w' => ((⟨r1, r2, r3, r4, r5⟩ : Sp.Shape) = Sp.shapeOf k ∧ r = Sp.isKind k) ∧ Pure w w') ?_
 unfold m_M2
 intro p1 w1 h1
 have E1 : Pure w w1 := Ext.new h1
 have b1 := Box.of_new h1
 have hp := New.own (Ext.refl w) h1
 refine ⟨fun h => bx 5 b1 rfl rfl (fun w' b E => ⟨_, _, _, _, _, b.row, ⟨?_, ?_⟩, E1.own hp E⟩), fun h => ⟨fun h2 => bx 5 b1 rfl rfl (fun w' b E => ⟨_, _, _, _, _, b.row, ⟨?_, ?_⟩, E1.own hp E⟩), fun h2 => ?_⟩⟩
 ·have : k < 1 := by simpa using h
  simp only [Sp.shapeOf, Sp.noShape]; repeat rw [if_neg (by omega)]
 ·have : k < 1 := by simpa using h
  simp [Sp.isKind]; omega
 ·have : 9 < k := by simpa using h2
  simp only [Sp.shapeOf, Sp.noShape]; repeat rw [if_neg (by omega)]
 ·have : 9 < k := by simpa using h2
  simp [Sp.isKind]; omega
 ·have h3 : ¬ k < 1 := by simpa using h
  have h4 : ¬ 9 < k := by simpa using h2
  refine (c_shapes _).mono ?_
  rintro _ w4 ⟨_, rfl, rfl, E4⟩
  refine ⟨_, rfl, ?_⟩
  have b4 := b1.pure E4
  have E5 : Pure w w4 := E1.trans E4
  have hk : k = 1 ∨ k = 2 ∨ k = 3 ∨ k = 4 ∨ k = 5 ∨ k = 6 ∨ k = 7 ∨ k = 8 ∨ k = 9 := by omega
  rcases hk with rfl | rfl | rfl | rfl | rfl | rfl | rfl | rfl | rfl
  ·exact ⟨true, false, false, false, 0, by kernel_rfl, bx 5 b4 rfl rfl (fun w' b E => ⟨_, _, _, _, _, b.row, ⟨by decide, by decide⟩, E5.own hp E⟩)⟩
  ·exact ⟨false, false, true, false, 0, by kernel_rfl, bx 5 b4 rfl rfl (fun w' b E => ⟨_, _, _, _, _, b.row, ⟨by decide, by decide⟩, E5.own hp E⟩)⟩
  ·exact ⟨false, false, false, true, 0, by kernel_rfl, bx 5 b4 rfl rfl (fun w' b E => ⟨_, _, _, _, _, b.row, ⟨by decide, by decide⟩, E5.own hp E⟩)⟩
  ·exact ⟨false, false, false, false, 2, by kernel_rfl, bx 5 b4 rfl rfl (fun w' b E => ⟨_, _, _, _, _, b.row, ⟨by decide, by decide⟩, E5.own hp E⟩)⟩
  ·exact ⟨false, false, false, false, 1, by kernel_rfl, bx 5 b4 rfl rfl (fun w' b E => ⟨_, _, _, _, _, b.row, ⟨by decide, by decide⟩, E5.own hp E⟩)⟩
  ·exact ⟨true, false, false, false, 0, by kernel_rfl, bx 5 b4 rfl rfl (fun w' b E => ⟨_, _, _, _, _, b.row, ⟨by decide, by decide⟩, E5.own hp E⟩)⟩
  ·exact ⟨true, false, false, false, 1, by kernel_rfl, bx 5 b4 rfl rfl (fun w' b E => ⟨_, _, _, _, _, b.row, ⟨by decide, by decide⟩, E5.own hp E⟩)⟩
  ·exact ⟨true, true, false, false, 1, by kernel_rfl, bx 5 b4 rfl rfl (fun w' b E => ⟨_, _, _, _, _, b.row, ⟨by decide, by decide⟩, E5.own hp E⟩)⟩
  ·exact ⟨true, true, false, false, 1, by kernel_rfl, bx 5 b4 rfl rfl (fun w' b E => ⟨_, _, _, _, _, b.row, ⟨by decide, by decide⟩, E5.own hp E⟩)⟩
theorem c_plain (k f t u : Int) (x : ByteArray) (a b : Int) (w : World) :
  Calls Try.prog 132 #[.agg #[.int .i64 k, .int .i64 f, .int .i64 t, .int .u64 u, .string x, .int .i64 a, .int .i64 b]] w
   (fun e w' => ∃ r1 : Bool, ∃ r2 : Bool, ∃ r3 : Bool, ∃ r4 : Bool, ∃ r5 : Int, ∃ r : Int, e = .returned (.tuple #[.agg #[.bool r1, .bool r2, .bool r3, .bool r4, .int .i64 r5], .int .i64 r]) ∧ (((⟨r1, r2, r3, r4, r5⟩ : Sp.Shape) = Sp.shapeOf k ∧ r = Sp.plainErr ⟨k, f, t, u, x, a, b⟩) ∧ Pure w w')) := by
 suffices key : ∀ K : Bool → Bool → Bool → Bool → Int → Int → WP, (∀ r1 r2 r3 r4 r5 r w', ((⟨r1, r2, r3, r4, r5⟩ : Sp.Shape) = Sp.shapeOf k ∧ r = Sp.plainErr ⟨k, f, t, u, x, a, b⟩) ∧ Pure w w' → K r1 r2 r3 r4 r5 r w') → m_A k f t u x a b w K from
  w_A _ _ _ _ _ _ _ w _ (key _ (fun _ _ _ _ _ _ _ h => h))
 intro K hK
 unfold m_A
 intro p1 w1 h1 p2 w2 h2
 have a1 := (Box.of_new h1).pure (Ext.new h2)
 have a2 := Box.of_new h2
 have E2 : Pure w w2 := (Ext.new h1).trans (Ext.new h2)
 have o2 := New.own (Ext.new h1 : Pure w w1) h2
 have n12 : p1.block ≠ p2.block := New.ne h2 (Box.of_new h1).blk
 refine ⟨_, a1.cell0, ?_⟩
 refine (c_shapeOf _ _).mono ?_
 rintro _ w3 ⟨s1, s2, s3, s4, s5, ok, rfl, ⟨hs, hok⟩, E3⟩
 refine ⟨_, _, _, _, _, _, rfl, ?_⟩
 intro p3 w4 h3
 have E4 : Pure w w4 := (E2.trans E3).trans (Ext.new h3)
 have o3 := New.own (E2.trans E3) h3
 have n13 : p1.block ≠ p3.block := New.ne h3 (a1.pure E3).blk
 have n23 : p2.block ≠ p3.block := New.ne h3 (a2.pure E3).blk
 refine bx 5 (Box.of_new h3) rfl rfl (fun w5 b3 E => ?_)
 have b1 := ((a1.pure E3).pure (Ext.new h3)).ext E n13
 have b2 := ((a2.pure E3).pure (Ext.new h3)).ext E n23
 have E5 := E4.own o3 E
 clear E E4 E3 E2 a1 a2 h1 h2 h3
 have fin : ∀ v : Int, v = Sp.plainErr ⟨k, f, t, u, x, a, b⟩ → (∀ j, j < 5 → CanW w5 (p2.add j)) ∧ ∀ w', w' = storeRow w5 p2 [.bool s1, .bool s2, .bool s3, .bool s4, .int .i64 s5] →
   ∃ q1 : Bool, ∃ q2 : Bool, ∃ q3 : Bool, ∃ q4 : Bool, ∃ q5 : Int, Row w' p2 [.bool q1, .bool q2, .bool q3, .bool q4, .int .i64 q5] ∧ K q1 q2 q3 q4 q5 v w' := fun v hv =>
  bx 5 b2 rfl rfl (fun w' b E => ⟨_, _, _, _, _, b.row, hK _ _ _ _ _ _ _ ⟨⟨hs, hv⟩, E5.own o2 E⟩⟩)
 obtain ⟨e1, e2, e3, e4, e5⟩ : s1 = (Sp.shapeOf k).frm ∧ s2 = (Sp.shapeOf k).to ∧ s3 = (Sp.shapeOf k).num ∧ s4 = (Sp.shapeOf k).text ∧ s5 = (Sp.shapeOf k).kids := by rw [← hs]; simp
 have J3 : ∀ c : Bool, c = (!ok || (!s1 && f != 0) || (!s2 && t != 0) || (!s3 && u != 0)) → m_A_j3 p1 p2 p3 c w5 K := by
  intro c hc
  unfold m_A_j3
  refine ⟨fun h => ⟨_, _, _, _, _, b3.row, fin _ ?_⟩, fun h => ⟨_, b3.cell rfl, fun h4 => ⟨_, b1.cell rfl, fun h5 => ⟨_, _, _, _, _, b3.row, fin _ ?_⟩, fun h5 => ⟨_, _, _, _, _, b3.row, fin _ ?_⟩⟩, fun h4 => ⟨_, _, _, _, _, b3.row, fin _ ?_⟩⟩⟩
  ·rw [h] at hc
   simp only [Sp.plainErr, ← e1, ← e2, ← e3, ← e4, ← hok, ← hc]; simp
  ·rw [h] at hc
   simp only [Sp.plainErr, ← e1, ← e2, ← e3, ← e4, ← hok, ← hc]; simp at h4 h5; simp [h4, h5]
  ·rw [h] at hc
   simp only [Sp.plainErr, ← e1, ← e2, ← e3, ← e4, ← hok, ← hc]; simp at h4 h5; simp [h4, h5]
  ·rw [h] at hc
   simp only [Sp.plainErr, ← e1, ← e2, ← e3, ← e4, ← hok, ← hc]; simp at h4; simp [h4]
 have J2 : ∀ c : Bool, c = (!ok || (!s1 && f != 0) || (!s2 && t != 0)) → m_A_j2 p1 p2 p3 c w5 K := by
  intro c hc
  have J4 : ∀ d : Bool, d = (!s3 && u != 0) → m_A_j4 p1 p2 p3 c d w5 K := fun d hd => ⟨fun h => J3 _ (by rw [← hc, h]; rfl), fun h => J3 _ (by rw [← hc, h]; simpa using hd)⟩
  exact ⟨fun h => J3 _ (by rw [← hc, h]; rfl), fun h => ⟨_, b3.cell rfl, fun h4 => ⟨_, b1.cell rfl, J4 _ (by rw [h4]; rfl)⟩, fun h4 => J4 _ (by rw [h4]; rfl)⟩⟩
 have J1 : ∀ c : Bool, c = (!ok || (!s1 && f != 0)) → m_A_j1 p1 p2 p3 c w5 K := by
  intro c hc
  have J5 : ∀ d : Bool, d = (!s2 && t != 0) → m_A_j5 p1 p2 p3 c d w5 K := fun d hd => ⟨fun h => J2 _ (by rw [← hc, h]; rfl), fun h => J2 _ (by rw [← hc, h]; simpa using hd)⟩
  exact ⟨fun h => J2 _ (by rw [← hc, h]; rfl), fun h => ⟨_, b3.cell rfl, fun h4 => ⟨_, b1.cell rfl, J5 _ (by rw [h4]; rfl)⟩, fun h4 => J5 _ (by rw [h4]; rfl)⟩⟩
 have J6 : ∀ d : Bool, d = (!s1 && f != 0) → m_A_j6 p1 p2 ok p3 d w5 K := fun d hd => ⟨fun h => J1 _ (by rw [h]; rfl), fun h => J1 _ (by rw [h]; simpa using hd)⟩
 exact ⟨fun h => J1 _ (by rw [h]; rfl), fun h => ⟨_, b3.cell0, fun h4 => ⟨_, b1.cell rfl, J6 _ (by rw [h4]; rfl)⟩, fun h4 => J6 _ (by rw [h4]; rfl)⟩⟩
end Go.Proofs
end
section
open Go Go.SE
namespace Go.Proofs
attribute [local irreducible] Calls
def nrow (n : Sp.Node) : List Value := [.int .i64 n.kind, .int .i64 n.frm, .int .i64 n.to, .int .u64 n.num, .string n.text, .int .i64 n.a, .int .i64 n.b]
def erow (e : Sp.Ent) : List Value := nrow e.node ++ [.int .i64 e.size, .int .i64 e.depth]
def nkey (n : Sp.Node) : Value := .agg (nrow n).toArray
def pmap (L : Sp.Pool) : List (Value × Value) := L.zipIdx.map fun p => (nkey p.1.node, .int .i64 (p.2 + 1 : Nat))
structure PoolS (w : World) (p : Addr) (L : Sp.Pool) (s : Sl) (m : Nat) : Prop where
 box : Box w p [s.v, .map (some m)] 132
 rows : Rws w 178 9 s (L.map erow)
 map : CMap w m (pmap L)
 n1 : m ≠ p.block
 n2 : ¬ s.blk p.block
 n3 : ¬ s.blk m
def PoolAt (w : World) (p : Addr) (L : Sp.Pool) (F : NP) : Prop := ∃ s m, PoolS w p L s m ∧ ∀ b, F b ↔ (b = p.block ∨ s.blk b ∨ b = m)
theorem PoolAt.ext {G : NP} {w w' : World} {p : Addr} {L : Sp.Pool} {F : NP} (h : PoolAt w p L F) (hE : Ext G w w') (hd : ∀ b, F b → ¬ G b) : PoolAt w' p L F := by
 obtain ⟨s, m, h, hF⟩ := h
 exact ⟨s, m, ⟨h.box.ext hE (hd _ ((hF _).2 (.inl rfl))), h.rows.ext hE (fun b hb => hd _ ((hF _).2 (.inr (.inl hb)))), h.map.ext hE (hd _ ((hF _).2 (.inr (.inr rfl)))), h.n1, h.n2, h.n3⟩, hF⟩
theorem PoolAt.pure {w w' : World} {p : Addr} {L : Sp.Pool} {F : NP} (h : PoolAt w p L F) (hE : Pure w w') : PoolAt w' p L F := h.ext hE (fun _ _ h => h)
theorem PoolAt.lt {w : World} {p : Addr} {L : Sp.Pool} {F : NP} (h : PoolAt w p L F) {b : Nat} (hb : F b) : b < w.heap.size := by
 obtain ⟨s, m, h, hF⟩ := h
 rcases (hF b).1 hb with rfl | hb | rfl
 ·exact h.box.lt
 ·exact h.rows.lt hb
 ·exact h.map.lt
theorem i64 {n : Int} (h : -9223372036854775808 ≤ n) (h' : n ≤ 9223372036854775807) : IntKind.i64.wrap n = n := IntWalk.i64_in n ⟨h, h'⟩
theorem c_in (p : Addr) (t : Int) (w : World) {L : Sp.Pool} {F : NP} (hP : PoolAt w p L F) : Calls Try.prog 119 #[.pointer (some p), .int .i64 t] w (fun e w' => ∃ r, e = .returned (.bool r) ∧ (r = Sp.inP L t ∧ w = w')) := by
 obtain ⟨s, m, h, _⟩ := hP
 refine w_T (some p) t w (fun r w' => r = Sp.inP L t ∧ w = w') ?_
 unfold m_T
 have hl : (s.len : Int) = L.length := by rw [h.rows.len]; simp
 refine Br.t rfl ⟨fun h1 => ⟨p, rfl, s, h.box.cell0, ?_, rfl⟩, fun h1 => ⟨?_, rfl⟩⟩
 ·have : 1 ≤ t := by simpa using h1
  simp [Sp.inP, hl, this]
 ·have : ¬ 1 ≤ t := by simpa using h1
  simp [Sp.inP, this]
theorem PoolS.at {w : World} {p : Addr} {L : Sp.Pool} {s : Sl} {m : Nat} (h : PoolS w p L s m) {t : Int} (ht : Sp.inP L t = true) (hok : Sp.Ok L) : ∃ a e, At s (IntKind.i64.wrap (t - 1)) 9 a ∧ Row w a (erow e) ∧ s.blk a.block ∧ Sp.get L t = some e := by
 obtain ⟨h1, h2⟩ := Sp.inP_iff.1 ht
 obtain ⟨e, hg, _, hi, he⟩ := Sp.get_some ht
 have := hok.few
 rw [i64 (by omega) (by omega)]
 obtain ⟨a, hat, hr, hb⟩ := h.rows.at (i := t - 1) (by omega) (by simpa using hi)
 exact ⟨a, e, hat, (by rw [List.getElem_map, he] at hr; exact hr), hb, hg⟩
theorem c_Size (p : Addr) (t : Int) (w : World) {L : Sp.Pool} {F : NP} (hP : PoolAt w p L F) (hok : Sp.Ok L) : Calls Try.prog 213 #[.pointer (some p), .int .i64 t] w (fun e w' => ∃ r, e = .returned (.int .i64 r) ∧ (r = Sp.sizeOf L t ∧ w = w')) := by
 refine w_Q2 (some p) t w (fun r w' => r = Sp.sizeOf L t ∧ w = w') ?_
 unfold m_Q2
 refine (c_in p t w hP).mono ?_
 rintro _ _ ⟨_, rfl, rfl, rfl⟩
 obtain ⟨s, m, h, _⟩ := hP
 refine ⟨_, rfl, fun h1 => ⟨?_, rfl⟩, fun h1 => ?_⟩
 ·simp [Sp.sizeOf, Sp.get_none (show Sp.inP L t = false by simpa using h1)]
 ·obtain ⟨a, e, hat, hr, _, hg⟩ := h.at (show Sp.inP L t = true by simpa using h1) hok
  exact ⟨p, rfl, s, h.box.cell0, a, hat, e.size, hr 7 (by simp [erow, nrow]), by simp [Sp.sizeOf, hg], rfl⟩
theorem c_Depth (p : Addr) (t : Int) (w : World) {L : Sp.Pool} {F : NP} (hP : PoolAt w p L F) (hok : Sp.Ok L) : Calls Try.prog 214 #[.pointer (some p), .int .i64 t] w (fun e w' => ∃ r, e = .returned (.int .i64 r) ∧ (r = Sp.depthOf L t ∧ w = w')) := by
 refine w_R2 (some p) t w (fun r w' => r = Sp.depthOf L t ∧ w = w') ?_
 unfold m_R2
 refine (c_in p t w hP).mono ?_
 rintro _ _ ⟨_, rfl, rfl, rfl⟩
 obtain ⟨s, m, h, _⟩ := hP
 refine ⟨_, rfl, fun h1 => ⟨?_, rfl⟩, fun h1 => ?_⟩
 ·simp [Sp.depthOf, Sp.get_none (show Sp.inP L t = false by simpa using h1)]
 ·obtain ⟨a, e, hat, hr, _, hg⟩ := h.at (show Sp.inP L t = true by simpa using h1) hok
  exact ⟨p, rfl, s, h.box.cell0, a, hat, e.depth, hr 8 (by simp [erow, nrow]), by simp [Sp.depthOf, hg], rfl⟩
theorem c_Node (p : Addr) (t : Int) (w : World) {L : Sp.Pool} {F : NP} (hP : PoolAt w p L F) (hok : Sp.Ok L) : Calls Try.prog 67 #[.pointer (some p), .int .i64 t] w
  (fun e w' => ∃ k : Int, ∃ f : Int, ∃ t' : Int, ∃ u : Int, ∃ x : ByteArray, ∃ a : Int, ∃ b : Int, ∃ r : Bool, e = .returned (.tuple #[.agg #[.int .i64 k, .int .i64 f, .int .i64 t', .int .u64 u, .string x, .int .i64 a, .int .i64 b], .bool r]) ∧ (((⟨k, f, t', u, x, a, b⟩ : Sp.Node) = Sp.nodeOf L t ∧ r = Sp.inP L t) ∧ Pure w w')) := by
 refine w_G2 (some p) t w (fun k f t' u x a b r w' => ((⟨k, f, t', u, x, a, b⟩ : Sp.Node) = Sp.nodeOf L t ∧ r = Sp.inP L t) ∧ Pure w w') ?_
 unfold m_G2
 intro p1 w1 h1
 have E1 : Pure w w1 := Ext.new h1
 have b1 := Box.of_new h1
 have hp := New.own (Ext.refl w) h1
 refine (c_in p t w1 (hP.pure E1)).mono ?_
 rintro _ _ ⟨_, rfl, rfl, rfl⟩
 obtain ⟨s, m, h, _⟩ := hP.pure E1
 refine ⟨_, rfl, fun h1 => bx 7 b1 rfl rfl (fun w' b E => ⟨_, _, _, _, _, _, _, b.row, ⟨?_, ?_⟩, E1.own hp E⟩), fun h1 => ?_⟩
 ·simp [Sp.nodeOf, Sp.get_none (show Sp.inP L t = false by simpa using h1), Sp.noNode]
 ·symm; simpa using h1
 ·have ht : Sp.inP L t = true := by simpa using h1
  obtain ⟨a, e, hat, hr, _, hg⟩ := h.at ht hok
  have hn : Row w1 a (nrow e.node) := fun i hi => by
   have := hr i (by simp [erow]; omega)
   rw [this]; unfold erow; rw [List.getElem?_append_left hi]
  exact ⟨p, rfl, s, h.box.cell0, a, hat, _, _, _, _, _, _, _, hn, bx 7 b1 rfl rfl (fun w' b E => ⟨_, _, _, _, _, _, _, b.row, ⟨by simp [Sp.nodeOf, hg], ht.symm⟩, E1.own hp E⟩)⟩
end Go.Proofs
end
section
open Go Go.SE
namespace Go.Proofs
attribute [local irreducible] Calls CallsD
theorem c_put {S : NP} (f : Fld) (s : Sl) (bs : List UInt8) (n : Sp.Node) (na nb mb : Nat) (M : List (Int × Int)) (w0 : World) (hs : Lst S w0 1 s (byr bs)) (hz : s.a = none → s = Sl.nil) (hn : bs.length ≤ 10000000000)
  (h1 : 0 ≤ n.frm ∧ n.frm < 9223372036854775808) (h2 : 0 ≤ n.to ∧ n.to < 9223372036854775808) (h3 : 0 ≤ n.num ∧ n.num < 18446744073709551616) (h4 : n.text.size ≤ 10000000000) (hM : IMap (fun i : Int => .int .i64 i) w0 mb M)
  (ha : f = .fst → SE.look M n.a = some (na : Int) ∧ na < 9223372036854775808) (hb : f = .snd → SE.look M n.b = some (nb : Int) ∧ nb < 9223372036854775808) :
  Calls Try.prog f.put #[s.v, .agg #[.int .i64 n.kind, .int .i64 n.frm, .int .i64 n.to, .int .u64 n.num, .string n.text, .int .i64 n.a, .int .i64 n.b], .map (some mb)] w0 (fun e w' => ∃ r : Sl, e = .returned r.v ∧ RetO w0 5 1 (byr (bs ++ f.bytes n na nb)) r w') := by
 cases f
 ·exact c_putFrom s bs _ _ _ _ _ _ _ _ w0 hs hz hn n.frm.toNat (by omega) (by omega)
 ·exact c_putTo s bs _ _ _ _ _ _ _ _ w0 hs hz hn n.to.toNat (by omega) (by omega)
 ·exact c_putNumF s bs _ _ _ _ _ _ _ _ w0 hs hz hn n.num.toNat (by omega) (by omega)
 ·exact c_putTextF s bs _ _ _ _ _ _ _ _ w0 hs hz hn h4
 ·exact c_putA s bs _ _ _ _ _ _ _ w0 hs hz hn mb M na hM (ha rfl).1 (ha rfl).2
 ·exact c_putB s bs _ _ _ _ _ _ _ w0 hs hz hn mb M nb hM (hb rfl).1 (hb rfl).2
def Fld.upd (bs : List UInt8) (r : Rd) (cells : List Value) : Fld → List Value
 | .from_ => cells.set 7 (.int .u64 ((rNum bs r).1 : Int))
 | .to_ => cells.set 8 (.int .u64 ((rNum bs r).1 : Int))
 | .num => cells.set 3 (.int .u64 ((rNum bs r).1 : Int))
 | .text => cells.set 4 (.string ⟨(rText bs 64 r).1.toArray⟩)
 | .fst => (cells.set 9 (.int .u64 ((rNum bs r).1 : Int))).set 11 (.int .i64 1)
 | .snd => (cells.set 10 (.int .u64 ((rNum bs r).1 : Int))).set 11 (.int .i64 2)
theorem c_get {S : NP} (f : Fld) (a q : Addr) (s : Sl) (bs : List UInt8) (r : Rd) (cells : List Value) (w0 : World) (h : RdS S w0 a s bs r) (hat : r.at_ ≤ bs.length) (hS : ∀ b, S b → b < w0.heap.size) (hq : Box w0 q cells 227) (hl : cells.length = 12) (haq : a.block ≠ q.block) (hSq : ∀ b, S b → b ≠ q.block) :
  Calls Try.prog f.get #[.pointer (some a), .pointer (some q)] w0 (fun e w' => e = .returned (.tuple #[]) ∧ RdS S w' a s bs (f.rd bs r) ∧ Box w' q (f.upd bs r cells) 227 ∧ Ext (fun b => b = a.block ∨ b = q.block) w0 w') := by
 cases f
 ·exact c_getFrom a q s bs r cells w0 h hat hS hq hl haq hSq
 ·exact c_getTo a q s bs r cells w0 h hat hS hq hl haq hSq
 ·exact c_getNum a q s bs r cells w0 h hat hS hq hl haq hSq
 ·exact c_getText a q s bs r cells w0 h hat hS hq hl haq hSq
 ·exact c_getA a q s bs r cells w0 h hat hS hq hl haq hSq
 ·exact c_getB a q s bs r cells w0 h hat hS hq hl haq hSq
end Go.Proofs
end
section
open Go Go.SE
namespace Go.Proofs
attribute [local irreducible] Calls CallsD
structure Kinds (w : World) (m : Nat) (F : NP) : Prop where
 ex : ∃ M : List (Int × Sl), IMap Sl.v w m M ∧ (∀ p ∈ M, Lst F w 2 p.2 ((flds p.1).map Fld.row)) ∧ M.map Prod.fst = [1, 2, 3, 4, 5, 6, 7, 8, 9]
 lt : ∀ b, F b → b < w.heap.size
 ne : ∀ b, F b → b ≠ m
theorem Kinds.ext {w w' : World} {m : Nat} {F G : NP} (h : Kinds w m F) (E : Ext G w w') (hG : ∀ b, F b ∨ b = m → ¬ G b) : Kinds w' m F := by
 obtain ⟨M, h1, h2, h3⟩ := h.ex
 exact ⟨⟨M, h1.ext E (hG m (.inr rfl)), fun p hp => (h2 p hp).ext E (fun b hb => hG b (.inl hb)), h3⟩, fun b hb => Nat.lt_of_lt_of_le (h.lt b hb) E.size, h.ne⟩
theorem Kinds.pure {w w' : World} {m : Nat} {F : NP} (h : Kinds w m F) (E : Pure w w') : Kinds w' m F := h.ext E (fun _ _ h => h)
theorem Kinds.mlt {w : World} {m : Nat} {F : NP} (h : Kinds w m F) : m < w.heap.size := by obtain ⟨M, h1, _⟩ := h.ex; exact h1.lt
theorem lst_lt {S : NP} {w : World} {s : Sl} {rs : List (List Value)} {sz : Nat} (h : Lst S w sz s rs) (hr : ∀ r ∈ rs, 0 < r.length) : Lst (fun b => S b ∧ b < w.heap.size) w sz s rs :=
 ⟨h.len, fun i hi => let ⟨a, h1, h2, h3⟩ := h.at_ i hi; ⟨a, h1, ⟨h2, by
  have h0 := hr _ (List.getElem_mem hi)
  have := h3 0 h0
  rw [List.getElem?_eq_getElem h0] at this
  have := World.block_lt_of_cell? w (a.add 0) this
  rwa [add_block] at this⟩, h3⟩⟩
theorem c_kinds (w0 : World) : Calls Try.prog 125 #[] w0 (fun e w' => ∃ x : Option Nat, e = .returned (.map x) ∧ ∃ m F, x = some m ∧ Kinds w' m F ∧ Pure w0 w' ∧ w0.heap.size ≤ m ∧ ∀ b, F b → w0.heap.size ≤ b) := by
 refine (c_parts w0).mono ?_
 rintro _ w' ⟨x, rfl, m, M, rfl, ⟨Bs, h⟩, hM⟩
 refine ⟨_, rfl, m, fun b => (w0.heap.size ≤ b ∧ b ≠ m) ∧ b < w'.heap.size, rfl, ⟨⟨M, h.map, fun p hp => lst_lt (h.lst p hp) (fun r hr => by obtain ⟨f, _, rfl⟩ := List.mem_map.1 hr; simp [Fld.row]), hM⟩, fun b hb => hb.2, fun b hb => hb.1.2⟩, h.pure, h.own, fun b hb => hb.1.1⟩
theorem Kinds.get {w : World} {m : Nat} {F : NP} (h : Kinds w m F) (k : Int) (h1 : 1 ≤ k) (h9 : k ≤ 9) (ok : Bool) :
  ∃ s : Sl, (Instr.lookup 189 (.map (some m)) (.int .i64 k) ok).run Try.prog w = .ok (if ok then .tuple #[s.v, .bool true] else s.v) w ∧ Lst F w 2 s ((flds k).map Fld.row) := by
 obtain ⟨M, hM, hL, hk⟩ := h.ex
 rcases hM.get (P := Try.prog) (T := 189) Try.underlying189 Try.underlying3 (Try.zeroValue191 _) k ok with ⟨hn, _⟩ | ⟨s, hs, hr⟩
 ·have := look_none.1 hn
  rw [hk] at this
  simp at this; omega
 ·exact ⟨s, hr, hL _ (look_mem hs)⟩
theorem Kinds.none {w : World} {m : Nat} {F : NP} (h : Kinds w m F) (k : Int) (hk : ¬ (1 ≤ k ∧ k ≤ 9)) : (Instr.lookup 189 (.map (some m)) (.int .i64 k) true).run Try.prog w = .ok (.tuple #[Sl.nil.v, .bool false]) w := by
 obtain ⟨M, hM, hL, hks⟩ := h.ex
 rcases hM.get (P := Try.prog) (T := 189) Try.underlying189 Try.underlying3 (Try.zeroValue191 _) k true with ⟨_, hr⟩ | ⟨s, hs, _⟩
 ·exact hr
 ·have : k ∈ M.map Prod.fst := List.mem_map.2 ⟨_, look_mem hs, rfl⟩
  rw [hks] at this
  simp at this; omega
def numFrom : Nat → List Int → List (Int × Int)
 | _, [] => []
 | i, t :: l => (t, (i : Int)) :: numFrom (i + 1) l
theorem numFrom_snoc (l : List Int) (t : Int) : ∀ i, numFrom i (l ++ [t]) = numFrom i l ++ [(t, ((i + l.length : Nat) : Int))] := by
 induction l with
 | nil => intro i; simp [numFrom]
 | cons x l ih => intro i; simp only [List.cons_append, numFrom, ih, List.length_cons]; congr 3; simp; omega
theorem numFrom_keys (l : List Int) : ∀ i, (numFrom i l).map Prod.fst = l := by
 induction l with
 | nil => intro i; rfl
 | cons x l ih => intro i; simp [numFrom, ih]
theorem numFrom_len (l : List Int) : ∀ i, (numFrom i l).length = l.length := by
 induction l with
 | nil => intro i; rfl
 | cons x l ih => intro i; simp [numFrom, ih]
theorem numFrom_look (l : List Int) (t : Int) (ht : t ∈ l) : ∀ i, SE.look (numFrom i l) t = some ((i + posOf l t : Nat) : Int) := by
 induction l with
 | nil => cases ht
 | cons x l ih =>
  intro i
  rw [numFrom, SE.look]
  by_cases e : x = t
  ·subst e; rw [if_pos rfl]; simp [posOf]
  ·rw [if_neg e]
   have ht' : t ∈ l := (List.mem_cons.1 ht).resolve_left (fun h => e h.symm)
   rw [ih ht']
   have : posOf (x :: l) t = posOf l t + 1 := by
    have e0 : (x == t) = false := by simpa using e
    simp [posOf, List.idxOf_cons, e0]
   rw [this]; congr 2; omega
end Go.Proofs
end
section
open Go Go.SE
open Go.IntKind renaming i64 → q6
namespace Go.Proofs
set_option maxRecDepth 100000
set_option maxHeartbeats 4000000
attribute [local irreducible] wpL wpX opE wpE Calls
end Go.Proofs
end
section
open Go Go.SE
namespace Go.Proofs
attribute [local irreducible] Calls
def wayv (p : Int × Int) : Value := .agg #[.int .i64 p.1, .int .i64 p.2]
def wmap (S : List Sp.Way) : List (Int × (Int × Int)) := S.map fun v => (v.t, (v.rule, v.frm))
theorem wmap_keys (S : List Sp.Way) : (wmap S).map Prod.fst = Sp.wkeys S := by simp [wmap, Sp.wkeys]
theorem wmap_snoc (S : List Sp.Way) (v : Sp.Way) : wmap (S ++ [v]) = wmap S ++ [(v.t, (v.rule, v.frm))] := by simp [wmap]
structure KnowS (w : World) (k p : Addr) (G : List Int) (S : List Sp.Way) (ks : List Int) (sg : Sl) (m : Nat) (sl : Sl) : Prop where
 box : Box w k [.pointer (some p), sg.v, .map (some m), sl.v] 165
 giv : Rws w 32 1 sg (tmr G)
 seen : IMap wayv w m (wmap S)
 list : Rws w 32 1 sl (tmr ks)
 n1 : m ≠ k.block
 n2 : ¬ sg.blk k.block
 n3 : ¬ sl.blk k.block
 n4 : ¬ sg.blk m
 n5 : ¬ sl.blk m
 n6 : ∀ b, sg.blk b → ¬ sl.blk b
def KF (k : Addr) (sg : Sl) (m : Nat) (sl : Sl) (b : Nat) : Prop := b = k.block ∨ sg.blk b ∨ b = m ∨ sl.blk b
def KnowAt (w : World) (k p : Addr) (G : List Int) (S : List Sp.Way) (F : NP) : Prop := ∃ sg m sl, KnowS w k p G S (Sp.wkeys S) sg m sl ∧ ∀ b, F b ↔ KF k sg m sl b
section
variable {w w' : World} {k p : Addr} {G : List Int} {S : List Sp.Way} {ks : List Int} {sg sl : Sl} {m : Nat} {F : NP}
theorem KnowS.ext {X : NP} (h : KnowS w k p G S ks sg m sl) (hE : Ext X w w') (hd : ∀ b, KF k sg m sl b → ¬ X b) : KnowS w' k p G S ks sg m sl :=
 ⟨h.box.ext hE (hd _ (.inl rfl)), h.giv.ext hE (fun b hb => hd _ (.inr (.inl hb))), h.seen.ext hE (hd _ (.inr (.inr (.inl rfl)))), h.list.ext hE (fun b hb => hd _ (.inr (.inr (.inr hb)))), h.n1, h.n2, h.n3, h.n4, h.n5, h.n6⟩
theorem KnowS.pure (h : KnowS w k p G S ks sg m sl) (hE : Pure w w') : KnowS w' k p G S ks sg m sl := h.ext hE (fun _ _ h => h)
theorem KnowS.lt (h : KnowS w k p G S ks sg m sl) {b : Nat} (hb : KF k sg m sl b) : b < w.heap.size := by
 rcases hb with rfl | hb | rfl | hb
 ·exact h.box.lt
 ·exact h.giv.lt hb
 ·exact h.seen.lt
 ·exact h.list.lt hb
theorem KnowAt.ext {X : NP} (h : KnowAt w k p G S F) (hE : Ext X w w') (hd : ∀ b, F b → ¬ X b) : KnowAt w' k p G S F := by
 obtain ⟨sg, m, sl, h, hF⟩ := h
 exact ⟨sg, m, sl, h.ext hE (fun b hb => hd b ((hF b).2 hb)), hF⟩
theorem KnowAt.pure (h : KnowAt w k p G S F) (hE : Pure w w') : KnowAt w' k p G S F := h.ext hE (fun _ _ h => h)
theorem KnowAt.lt (h : KnowAt w k p G S F) {b : Nat} (hb : F b) : b < w.heap.size := by
 obtain ⟨sg, m, sl, h, hF⟩ := h; exact h.lt ((hF b).1 hb)
theorem KnowS.look (h : KnowS w k p G S ks sg m sl) (t : Int) : ∃ r f : Int, (Instr.lookup 163 (.map (some m)) (.int .i64 t) true).run Try.prog w = .ok (.tuple #[.agg #[.int .i64 r, .int .i64 f], .bool (decide (t ∈ Sp.wkeys S))]) w ∧ (t ∈ Sp.wkeys S → SE.look (wmap S) t = some (r, f)) := by
 rcases h.seen.get (P := Try.prog) (T := 163) Try.underlying163 Try.underlying32 (Try.zeroValue161 _) t true with ⟨h1, h2⟩ | ⟨⟨r, f⟩, h1, h2⟩
 ·have hn : t ∉ Sp.wkeys S := by have := look_none.1 h1; rwa [wmap_keys] at this
  exact ⟨0, 0, by rw [decide_eq_false hn]; exact h2, fun h => absurd h hn⟩
 ·have hy : t ∈ Sp.wkeys S := by
   have := look_mem h1
   rw [← wmap_keys]; exact List.mem_map.2 ⟨_, this, rfl⟩
  exact ⟨r, f, by rw [decide_eq_true hy]; exact h2, fun _ => h1⟩
theorem KnowS.put (h : KnowS w k p G S ks sg m sl) {v : Sp.Way} (hn : v.t ∉ Sp.wkeys S) : ∃ w', (Instr.mapUpdate 163 (.map (some m)) (.int .i64 v.t) (.agg #[.int .i64 v.rule, .int .i64 v.frm])).run Try.prog w = .ok () w' ∧ KnowS w' k p G (S ++ [v]) ks sg m sl ∧ Ext (· = m) w w' := by
 obtain ⟨w', h1, h2, h3⟩ := h.seen.put (P := Try.prog) (T := 163) (K := 32) Try.underlying163 Try.underlying32 (k := v.t) (look_none.2 (by rw [wmap_keys]; exact hn)) (v.rule, v.frm)
 exact ⟨w', h1, ⟨h.box.ext h3 (fun e => h.n1 e.symm), h.giv.ext h3 (fun b hb e => h.n4 (e ▸ hb)), by rw [wmap_snoc]; exact h2, h.list.ext h3 (fun b hb e => h.n5 (e ▸ hb)), h.n1, h.n2, h.n3, h.n4, h.n5, h.n6⟩, h3⟩
theorem KnowS.app (h : KnowS w k p G S ks sg m sl) {t : Int} {q : Addr} {w1 : World} (hq : New w (.cells #[.int .i64 t] 32) q w1) (hn : ks.length ≤ 1000000) : ∃ s1 w2, (Builtin.append_ #[39, 39] 39 #[sl.v, (Sl.mk (some q) 1 1).v]).run Try.prog w1 = .ok s1.v w2 ∧ Ext sl.blk w1 w2 ∧ Box w2 k [.pointer (some p), sg.v, .map (some m), sl.v] 165 ∧
  KnowS (w2.setCell (k.add 3) s1.v) k p G S (ks ++ [t]) sg m s1 ∧ Ext (KF k sg m sl) w (w2.setCell (k.add 3) s1.v) ∧ ∀ b, KF k sg m s1 b → KF k sg m sl b ∨ w.heap.size ≤ b := by
 have E1 : Pure w w1 := Ext.new hq
 have h1 := h.pure E1
 obtain ⟨s1, w2, hr, hR, hE, hb⟩ := h1.list.append (P := Try.prog) (ty := 39) (c := 1) slT_tm (r := [.int .i64 t]) (Box.of_new hq).row rfl rfl (by rw [tmr_len]; omega) (by rw [tmr_len]; simp [maxLen]; omega)
 have hbx := h1.box.ext hE h1.n3
 have hs1 : ∀ b, s1.blk b → sl.blk b ∨ w.heap.size ≤ b := fun b h => (hb b h).imp_right (fun h => by have := E1.size; omega)
 have nk : ¬ s1.blk k.block := fun hh => (hs1 _ hh).elim h.n3 (fun hh => by have := h.box.lt; omega)
 have nm : ¬ s1.blk m := fun hh => (hs1 _ hh).elim h.n5 (fun hh => by have := h.seen.lt; omega)
 have E3 := Ext.setCell (w := w2) (k.add 3) s1.v
 rw [add_block] at E3
 refine ⟨s1, w2, hr, hE, hbx, ⟨hbx.set 3 s1.v, ((h1.giv.ext hE h.n6).ext E3 (fun b hb e => h.n2 (e ▸ hb))), ((h1.seen.ext hE h.n5).ext E3 h.n1), by rw [show tmr (ks ++ [t]) = tmr ks ++ [[.int .i64 t]] by simp [tmr]]; exact hR.ext E3 (fun b hb e => nk (e ▸ hb)), h.n1, h.n2, nk, h.n4, nm, fun b h1 h2 => (hs1 b h2).elim (h.n6 b h1) (fun hh => by have := h.giv.lt h1; omega)⟩, ?_, ?_⟩
 ·exact ((E1.pure (F := KF k sg m sl)).trans (hE.mono (fun b _ hb => .inr (.inr (.inr hb))))).trans (E3.mono (fun b _ hb => .inl hb))
 ·rintro b (hb | hb | hb | hb)
  ·exact .inl (.inl hb)
  ·exact .inl (.inr (.inl hb))
  ·exact .inl (.inr (.inr (.inl hb)))
  ·exact (hs1 b hb).imp_left (fun h => .inr (.inr (.inr h)))
end
end Go.Proofs
end
section
open Go Go.SE
namespace Go.Proofs
attribute [local irreducible] Calls
section
variable {w w' : World} {k p : Addr} {G : List Int} {S : List Sp.Way} {F : NP}
theorem KnowAt.hst {w0 : World} {H H' : NP} (h : KnowAt w k p G S F) (hs : Hst w0 H w H' w') (hd : ∀ b, F b → ¬ H b) : KnowAt w' k p G S F ∧ ∀ b, F b → ¬ H' b := by
 have hd' := hs.disj (G := F) (fun b hb => ⟨h.lt hb, hd b hb⟩)
 exact ⟨h.ext hs.ext hd', hd'⟩
end
structure SeesAt (w0 : World) (H : NP) (w : World) (k p p1 : Addr) (L : Sp.Pool) (G : List Int) (S : List Sp.Way) (F F0 FP : NP) : Prop where
 know : KnowAt w k p G S F
 pool : PoolAt w p L FP
 cap : w.cell? p1 = some (.pointer (some k))
 ext : Ext F0 w0 w
 own : ∀ b, F b → F0 b ∨ w0.heap.size ≤ b
 h1 : ∀ b, F b → ¬ H b
 h2 : ∀ b, FP b → ¬ H b
 h3 : ¬ H p1.block
 d1 : ¬ F p1.block
 d2 : ∀ b, F b → ¬ FP b
section
variable {w0 w w' : World} {H H' : NP} {k p p1 : Addr} {L : Sp.Pool} {G : List Int} {S S' : List Sp.Way} {F F' F0 FP : NP}
theorem SeesAt.pure (h : SeesAt w0 H w k p p1 L G S F F0 FP) (E : Pure w w') : SeesAt w0 H w' k p p1 L G S F F0 FP :=
 ⟨h.know.pure E, h.pool.pure E, E.cell h.cap (fun h => h), h.ext.thenPure E, h.own, h.h1, h.h2, h.h3, h.d1, h.d2⟩
theorem SeesAt.hst (h : SeesAt w0 H w k p p1 L G S F F0 FP) (hs : Hst w0 H w H' w') : SeesAt w0 H' w' k p p1 L G S F F0 FP := by
 have x1 := hs.disj (G := F) (fun b hb => ⟨h.know.lt hb, h.h1 b hb⟩)
 have x2 := hs.disj (G := FP) (fun b hb => ⟨h.pool.lt hb, h.h2 b hb⟩)
 have x3 := hs.disj (G := (· = p1.block)) (fun b hb => by subst hb; exact ⟨World.block_lt_of_cell? w p1 h.cap, h.h3⟩) _ rfl
 exact ⟨h.know.ext hs.ext x1, h.pool.ext hs.ext x2, hs.ext.cell h.cap x3, h.ext.trans' hs.ext (fun i hi hb => by have := hs.old i hb; omega), h.own, x1, x2, x3, h.d1, h.d2⟩
theorem SeesAt.step (h : SeesAt w0 H w k p p1 L G S F F0 FP) (hH : ∀ b, H b → b < w.heap.size) (hK : KnowAt w' k p G S' F') (E : Ext F w w') (hF : ∀ b, F' b → F b ∨ w.heap.size ≤ b) : SeesAt w0 H w' k p p1 L G S' F' F0 FP := by
 have hb := h.ext.size
 refine ⟨hK, h.pool.ext E (fun b hb hf => h.d2 b hf hb), E.cell h.cap h.d1, h.ext.trans' E (fun i hi hf => (h.own i hf).elim id (fun hh => by omega)), fun b hb => ?_, fun b hb hh => ?_, h.h2, h.h3, fun hh => ?_, fun b hb hh => ?_⟩
 ·rcases hF b hb with h1 | h1
  ·exact h.own b h1
  ·right; omega
 ·rcases hF b hb with h1 | h1
  ·exact h.h1 b h1 hh
  ·have := hH b hh; omega
 ·rcases hF _ hh with h1 | h1
  ·exact h.d1 h1
  ·have := World.block_lt_of_cell? w p1 h.cap; omega
 ·rcases hF b hb with h1 | h1
  ·exact h.d2 b h1 hh
  ·have := h.pool.lt hh; omega
end
end Go.Proofs
end
section
open Go Go.SE
namespace Go.Proofs
attribute [local irreducible] Calls
theorem run_cut2 (p : Addr) (k : Int) (w : World) (hk : k = 0 ∨ k = 1 ∨ k = 2) : (Instr.sliceAt 39 (Sl.mk (some p) 2 2).v .none (some (.int .i64 k)) .none).run Try.prog w = .ok (Sl.mk (some p) k.toNat 2).v w := by
 rcases hk with rfl | rfl | rfl <;> kernel_rfl
theorem c_check (p : Addr) (k f t u : Int) (x : ByteArray) (a b : Int) (w : World) {L : Sp.Pool} {F : NP} (hP : PoolAt w p L F) (hok : Sp.Ok L) :
  Calls Try.prog 187 #[.pointer (some p), .agg #[.int .i64 k, .int .i64 f, .int .i64 t, .int .u64 u, .string x, .int .i64 a, .int .i64 b]] w
   (fun e w' => ∃ r1 : Int, ∃ r2 : Int, ∃ r3 : Int, e = .returned (.tuple #[.int .i64 r1, .int .i64 r2, .int .i64 r3]) ∧ ((r1, r2, r3) = Sp.check L ⟨k, f, t, u, x, a, b⟩ ∧ Pure w w')) := by
 suffices key : ∀ K : Int → Int → Int → WP, (∀ r1 r2 r3 w', (r1, r2, r3) = Sp.check L ⟨k, f, t, u, x, a, b⟩ ∧ Pure w w' → K r1 r2 r3 w') → m_B (some p) k f t u x a b w K from
  w_B _ _ _ _ _ _ _ _ w _ (key _ (fun _ _ _ _ h => h))
 intro K hK
 unfold m_B
 intro p2 w1 h1
 have b1 := Box.of_new h1
 have E1 : Pure w w1 := Ext.new h1
 refine ⟨_, _, _, _, _, _, _, b1.row, ?_⟩
 refine (c_plain _ _ _ _ _ _ _ _).mono ?_
 rintro _ w2 ⟨s1, s2, s3, s4, s5, pe, rfl, ⟨hs, hpe⟩, E2⟩
 refine ⟨_, _, _, _, _, _, rfl, ?_⟩
 intro p3 w3 h3
 have b2 := (b1.pure E2).pure (Ext.new h3)
 have n23 : p2.block ≠ p3.block := New.ne h3 (b1.pure E2).blk
 have E3 : Pure w w3 := (E1.trans E2).trans (Ext.new h3)
 have o3 := New.own (E1.trans E2) h3
 refine bx 5 (Box.of_new h3) rfl rfl (fun w4 b3 E => ?_)
 have b2 := b2.ext E n23
 have E4 : Pure w w4 := E3.own o3 E
 clear E E3 E2 E1 b1 h1 h3
 have hsh : Sp.shapeOf k = ⟨s1, s2, s3, s4, s5⟩ := hs.symm
 have hk5 : s5 = 0 ∨ s5 = 1 ∨ s5 = 2 := by have := Sp.kids_le k; rw [hsh] at this; exact this
 generalize hn : (⟨k, f, t, u, x, a, b⟩ : Sp.Node) = n at *
 have hnk : n.kind = k := by rw [← hn]
 have hna : n.a = a := by rw [← hn]
 have hnb : n.b = b := by rw [← hn]
 have J2 : ∀ e2 w', Pure w4 w' → (e2 ≠ 0 → Sp.check L n = (0, 0, e2)) → (e2 = 0 → pe = 0 ∧ ((decide (s5 < 1) && a != 0) || (decide (s5 < 2) && b != 0)) = false ∧ Sp.fieldsErr ⟨s1, s2, s3, s4, s5⟩ n = 0) → m_B_j2 (some p) p2 p3 e2 w' K := by
  intro e2 w' E' hne heq
  have b2 := b2.pure E'
  have b3 := b3.pure E'
  have E5 := E4.trans E'
  have hP' := hP.pure E5
  unfold m_B_j2
  refine ⟨fun h => hK _ _ _ _ ⟨(hne (by simpa using h)).symm, E5⟩, fun h => ⟨_, b2.cell rfl, _, b2.cell rfl, ?_⟩⟩
  intro p4 w5 h5
  obtain ⟨hp0, hc0, hf0⟩ := heq (by simpa using h)
  have b4 := Box.of_new h5
  have E6 := E5.trans (Ext.new h5)
  have hP6 := hP.pure E6
  refine ⟨_, (b3.pure (Ext.new h5)).cell rfl, _, run_cut2 p4 s5 w5 hk5, ?_⟩
  have hks : Sp.kidsOf n = [a, b].take s5.toNat := by simp [Sp.kidsOf, hnk, hsh, hna, hnb]
  have hlen : (Sp.kidsOf n).length = s5.toNat := by rw [hks]; rcases hk5 with rfl | rfl | rfl <;> rfl
  have hget : ∀ j (hj : j < (Sp.kidsOf n).length), w5.cell? (p4.add (j * 1)) = some (.int .i64 (Sp.kidsOf n)[j]) := by
   intro j hj
   have hj2 : j < s5.toNat := by omega
   have : (Sp.kidsOf n)[j] = [a, b][j]'(by simp; omega) := by simp only [hks, List.getElem_take]
   rw [this, Nat.mul_one]
   refine b4.cell ?_
   have h2 : j = 0 ∨ j = 1 := by omega
   rcases h2 with rfl | rfl <;> rfl
  have hrest : Sp.check L n = if (Sp.kidsOf n).any (fun t => !Sp.inP L t) then (0, 0, 51) else if 1 + ((Sp.kidsOf n).map (Sp.sizeOf L)).sum > 4096 ∨ (Sp.kidsOf n).foldl (fun d t => max d (Sp.depthOf L t)) 0 + 1 > 64 then (0, 0, 52) else (1 + ((Sp.kidsOf n).map (Sp.sizeOf L)).sum, (Sp.kidsOf n).foldl (fun d t => max d (Sp.depthOf L t)) 0 + 1, 0) := by
   unfold Sp.check
   simp only [hnk, hsh, hna, hnb, ← hpe, hp0, hc0, hf0]
   simp
  generalize hkk : Sp.kidsOf n = ks at *
  have hl2 : ks.length ≤ 2 := by omega
  have hsum : ∀ j, 0 ≤ ((ks.take j).map (Sp.sizeOf L)).sum ∧ ((ks.take j).map (Sp.sizeOf L)).sum ≤ 4096 * (ks.take j).length := by
   intro j
   generalize ks.take j = l
   induction l with
   | nil => simp
   | cons y l ih => have := hok.sizeOf y; simp only [List.map_cons, List.sum_cons, List.length_cons]; omega
  have hdep : ∀ (l : List Int) (d : Int), 0 ≤ d → d ≤ 64 → 0 ≤ l.foldl (fun d t => max d (Sp.depthOf L t)) d ∧ l.foldl (fun d t => max d (Sp.depthOf L t)) d ≤ 64 := by
   intro l
   induction l with
   | nil => intro d h1 h2; exact ⟨h1, h2⟩
   | cons y l ih => intro d h1 h2; have := hok.depthOf y; exact ih (max d (Sp.depthOf L y)) (by omega) (by omega)
  refine ⟨fun sz d x w' => ∃ j : Nat, x = j ∧ j ≤ ks.length ∧ sz = 1 + ((ks.take j).map (Sp.sizeOf L)).sum ∧ d = (ks.take j).foldl (fun d t => max d (Sp.depthOf L t)) 0 ∧ (ks.take j).any (fun t => !Sp.inP L t) = false ∧ w5 = w', fun _ _ x _ => (2 - x).toNat, ⟨0, rfl, Nat.zero_le _, by simp, by simp, by simp, rfl⟩, ?_⟩
  rintro sz d _ _ ⟨j, rfl, hj, rfl, rfl, hin, rfl⟩
  unfold m_B_l3
  have hs1 := hsum j
  have hd1 := hdep (ks.take j) 0 (by omega) (by omega)
  have htl : (ks.take j).length ≤ 2 := by rw [List.length_take]; omega
  refine ⟨fun h => ?_, fun h => ?_⟩
  ·have hlt : j < ks.length := by have h := of_decide_eq_true h; simp only at h; omega
   refine ⟨p4.add (j * 1), ⟨by omega, of_decide_eq_true h, p4, rfl, by simp⟩, ks[j], hget j hlt, ?_⟩
   have htk : ks.take (j + 1) = ks.take j ++ [ks[j]] := List.take_succ_eq_append_getElem hlt
   refine (c_in p _ w5 hP6).mono ?_
   rintro _ _ ⟨_, rfl, rfl, rfl⟩
   refine ⟨_, rfl, fun h => ?_, fun h => ?_⟩
   ·refine hK _ _ _ _ ⟨?_, E6⟩
    rw [hrest, if_pos]
    exact List.any_eq_true.2 ⟨ks[j], List.getElem_mem hlt, h⟩
   ·refine (c_Size p _ w5 hP6 hok).mono ?_
    rintro _ _ ⟨_, rfl, rfl, rfl⟩
    refine ⟨_, rfl, ?_⟩
    refine (c_Depth p _ w5 hP6 hok).mono ?_
    rintro _ _ ⟨_, rfl, rfl, rfl⟩
    refine ⟨_, rfl, _, run_max_int2 _ _ _ _ _ _ _, ⟨j + 1, ?_, hlt, ?_, ?_, ?_, rfl⟩, ?_⟩
    ·rw [i64 (by omega) (by omega)]; omega
    ·have := hok.sizeOf ks[j]
     rw [i64 (by omega) (by omega), htk, List.map_append, List.sum_append]; simp only [List.map_cons, List.map_nil, List.sum_cons, List.sum_nil]; omega
    ·rw [htk, List.foldl_append]; simp only [List.foldl_cons, List.foldl_nil]; split <;> omega
    ·rw [htk, List.any_append, hin]; simpa using h
    ·show (2 - IntKind.i64.wrap ((j : Int) + 1)).toNat < (2 - (j : Int)).toNat
     rw [i64 (by omega) (by omega)]; omega
  ·have hge : j = ks.length := by have h := of_decide_eq_false h; simp only at h; omega
   subst hge
   rw [List.take_length] at hs1 hd1 hin ⊢
   have hlt : (ks.length : Int) ≤ 2 := by omega
   refine ⟨fun h => hK _ _ _ _ ⟨?_, E6⟩, fun h => ?_⟩
   ·rw [hrest, hin, if_neg (by simp), if_pos (.inl (by simpa using h))]
   ·rw [i64 (by omega) (by omega)]
    refine ⟨fun h' => hK _ _ _ _ ⟨?_, E6⟩, fun h' => hK _ _ _ _ ⟨?_, E6⟩⟩
    ·rw [hrest, hin, if_neg (by simp), if_pos (.inr (by simpa using h'))]
    ·rw [hrest, hin, if_neg (by simp), if_neg (by simp at h h'; omega)]
 have J1 : ∀ e1, (e1 ≠ 0 → Sp.check L n = (0, 0, e1)) → (e1 = 0 → pe = 0 ∧ ((decide (s5 < 1) && a != 0) || (decide (s5 < 2) && b != 0)) = false) → m_B_j1 (some p) p2 p3 e1 w4 K := by
  intro e1 hne heq
  unfold m_B_j1
  refine ⟨fun h => ⟨_, _, _, _, _, b3.row, _, _, _, _, _, _, _, b2.row, ?_⟩, fun h => J2 _ _ (Ext.refl _) hne (fun e => by rw [e] at h; cases h)⟩
  obtain ⟨hp0, hc0⟩ := heq (by simpa using h)
  refine (c_fields _ _ _ _ _ _ _ _ _ _ _ _ _).mono ?_
  rintro _ w9 ⟨_, rfl, rfl, E9⟩
  rw [hn]
  refine ⟨_, rfl, J2 _ _ E9 (fun hf => ?_) (fun hf => ⟨hp0, hc0, hf⟩)⟩
  unfold Sp.check
  simp only [hnk, hsh, hna, hnb, ← hpe, hp0, hc0]
  simp [hf]
 have J53 : pe = 0 → ((decide (s5 < 1) && a != 0) || (decide (s5 < 2) && b != 0)) = true → m_B_j1 (some p) p2 p3 53 w4 K := fun hp0 hc => J1 53 (fun _ => by
  unfold Sp.check
  simp only [hnk, hsh, hna, hnb, ← hpe, hp0, hc]
  simp) (fun e => by cases e)
 have Jpe : pe ≠ 0 → m_B_j1 (some p) p2 p3 pe w4 K := fun hp => J1 pe (fun _ => by
  unfold Sp.check
  simp only [← hpe]
  rw [if_pos hp]) (fun e => absurd e hp)
 have J5 : ∀ x2 x3, x2 = (decide (s5 < 1) && a != 0) → x3 = (decide (s5 < 2) && b != 0) → m_B_j5 (some p) p2 pe p3 x2 x3 w4 K := by
  intro x2 x3 h2 h3
  unfold m_B_j5
  refine ⟨fun h => ⟨fun hx => J53 (by simpa using h) (by rw [← h2, hx]; rfl), fun hx => ⟨fun hy => J53 (by simpa using h) (by rw [← h2, ← h3, hy]; simp), fun hy => J1 pe (fun e => absurd (by simpa using h) e) (fun e => ⟨e, by rw [← h2, ← h3, hx, hy]; rfl⟩)⟩⟩, fun h => Jpe (by simpa using h)⟩
 have J4 : ∀ x2, x2 = (decide (s5 < 1) && a != 0) → m_B_j4 (some p) p2 pe p3 x2 w4 K := by
  intro x2 h2
  unfold m_B_j4
  refine ⟨fun h => ⟨fun hx => J53 (by simpa using h) (by rw [← h2, hx]; rfl), fun hx => ⟨_, b3.cell rfl, fun h5 => ⟨_, b2.cell rfl, J5 _ _ h2 (by rw [h5]; rfl)⟩, fun h5 => J5 _ _ h2 (by rw [h5]; rfl)⟩⟩, fun h => Jpe (by simpa using h)⟩
 exact ⟨fun h => ⟨_, b3.cell rfl, fun h5 => ⟨_, b2.cell rfl, J4 _ (by rw [h5]; rfl)⟩, fun h5 => J4 _ (by rw [h5]; rfl)⟩, fun h => Jpe (by simpa using h)⟩
end Go.Proofs
end
