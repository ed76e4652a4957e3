/- Plain: nodes, pools, what makes a term. -/
namespace Go.Sp
structure Node where
  kind : Int
  frm : Int
  to : Int
  num : Int
  text : ByteArray
  a : Int
  b : Int
deriving DecidableEq

structure Shape where
  frm : Bool
  to : Bool
  num : Bool
  text : Bool
  kids : Int
deriving DecidableEq

def noShape : Shape := ⟨false, false, false, false, 0⟩
def shapeOf (k : Int) : Shape :=
  if k = 1 then ⟨true, false, false, false, 0⟩ else if k = 2 then ⟨false, false, true, false, 0⟩ else if k = 3 then ⟨false, false, false, true, 0⟩
  else if k = 4 then ⟨false, false, false, false, 2⟩ else if k = 5 then ⟨false, false, false, false, 1⟩ else if k = 6 then ⟨true, false, false, false, 0⟩
  else if k = 7 then ⟨true, false, false, false, 1⟩ else if k = 8 then ⟨true, true, false, false, 1⟩ else if k = 9 then ⟨true, true, false, false, 1⟩ else noShape
def isKind (k : Int) : Bool := decide (1 ≤ k) && decide (k ≤ 9)
def isName (n : Int) : Bool := decide (0 ≤ n) && decide (n < 16)
/-- The error of a node's own fields (but A, B). -/
def plainErr (n : Node) : Int :=
  let s := shapeOf n.kind
  if !isKind n.kind || (!s.frm && n.frm != 0) || (!s.to && n.to != 0) || (!s.num && n.num != 0) || (!s.text && !decide (n.text = ⟨#[]⟩)) then 53 else 0
/-- The error of what a node's fields hold. -/
def fieldsErr (s : Shape) (n : Node) : Int :=
  if (s.frm && !isName n.frm) || (s.to && (!isName n.to || n.to == n.frm)) then 50 else if n.text.size > 64 then 1 else 0
end Go.Sp
