/- Plain: a pool's terms, and what makes one more. -/
import Derived.Test.YtakogcapgbilaaaSpTerm
namespace Go.Sp
structure Ent where
  node : Node
  size : Int
  depth : Int
deriving DecidableEq
abbrev Pool := List Ent

def inP (L : Pool) (t : Int) : Bool := decide (1 ≤ t) && decide (t ≤ L.length)
def get (L : Pool) (t : Int) : Option Ent := if inP L t then L[(t - 1).toNat]? else none
def sizeOf (L : Pool) (t : Int) : Int := ((get L t).map (·.size)).getD 0
def depthOf (L : Pool) (t : Int) : Int := ((get L t).map (·.depth)).getD 0
def noNode : Node := ⟨0, 0, 0, 0, ⟨#[]⟩, 0, 0⟩
def nodeOf (L : Pool) (t : Int) : Node := ((get L t).map (·.node)).getD noNode
def kidsOf (n : Node) : List Int := [n.a, n.b].take (shapeOf n.kind).kids.toNat
/-- size, depth, error -/
def check (L : Pool) (n : Node) : Int × Int × Int :=
  let s := shapeOf n.kind
  if plainErr n ≠ 0 then (0, 0, plainErr n)
  else if (decide (s.kids < 1) && n.a != 0) || (decide (s.kids < 2) && n.b != 0) then (0, 0, 53)
  else if fieldsErr s n ≠ 0 then (0, 0, fieldsErr s n)
  else if (kidsOf n).any (fun t => !inP L t) then (0, 0, 51)
  else
    let sz := 1 + ((kidsOf n).map (sizeOf L)).sum
    let d := (kidsOf n).foldl (fun d t => max d (depthOf L t)) 0 + 1
    if sz > 4096 ∨ d > 64 then (0, 0, 52) else (sz, d, 0)
def find (L : Pool) (n : Node) : Option Nat := L.findIdx? (fun e => e.node = n)
/-- term, error, the pool behind it -/
def make (L : Pool) (n : Node) : Int × Int × Pool :=
  let c := check L n
  if c.2.2 ≠ 0 then (0, c.2.2, L)
  else match find L n with
    | some i => (i + 1, 0, L)
    | none => if 65536 ≤ L.length then (0, 6, L) else (L.length + 1, 0, L ++ [⟨n, c.1, c.2.1⟩])

structure Ok (L : Pool) : Prop where
  few : L.length ≤ 65536
  nodup : (L.map (·.node)).Nodup
  size : ∀ e ∈ L, 1 ≤ e.size ∧ e.size ≤ 4096
  depth : ∀ e ∈ L, 1 ≤ e.depth ∧ e.depth ≤ 64

theorem inP_iff {L : Pool} {t : Int} : inP L t = true ↔ 1 ≤ t ∧ t ≤ L.length := by simp [inP]
theorem get_some {L : Pool} {t : Int} (h : inP L t = true) : ∃ e, get L t = some e ∧ e ∈ L ∧ ∃ hi : (t - 1).toNat < L.length, L[(t - 1).toNat] = e := by
  obtain ⟨h1, h2⟩ := inP_iff.1 h
  have hi : (t - 1).toNat < L.length := by omega
  exact ⟨L[(t - 1).toNat], by simp [get, h], List.getElem_mem hi, hi, rfl⟩
theorem get_none {L : Pool} {t : Int} (h : inP L t = false) : get L t = none := by simp [get, h]
theorem Ok.sizeOf {L : Pool} (h : Ok L) (t : Int) : 0 ≤ sizeOf L t ∧ sizeOf L t ≤ 4096 := by
  cases ht : inP L t with
  | true => obtain ⟨e, he, hm, _⟩ := get_some ht; have := h.size e hm; simp [Sp.sizeOf, he]; omega
  | false => simp [Sp.sizeOf, get_none ht]
theorem Ok.depthOf {L : Pool} (h : Ok L) (t : Int) : 0 ≤ depthOf L t ∧ depthOf L t ≤ 64 := by
  cases ht : inP L t with
  | true => obtain ⟨e, he, hm, _⟩ := get_some ht; have := h.depth e hm; simp [Sp.depthOf, he]; omega
  | false => simp [Sp.depthOf, get_none ht]
theorem Ok.nil : Ok [] := ⟨by simp, by simp, by simp, by simp⟩
theorem kids_le (k : Int) : (shapeOf k).kids = 0 ∨ (shapeOf k).kids = 1 ∨ (shapeOf k).kids = 2 := by
  unfold shapeOf noShape; repeat' split
  all_goals simp
end Go.Sp
