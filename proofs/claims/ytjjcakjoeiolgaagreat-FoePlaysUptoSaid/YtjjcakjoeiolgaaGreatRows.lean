/-
  NARROWER THAN 'FOR EVERY INPUT', by the rows' own cells (each row's printed sentence says how): FoePlays: loops.
  DERIVED. THE GIVEN ROWS OF THIS SEAT. 4 by the template 'for every input the law returns true; each argument reads behind the call as it read before'; 0 by the template 'total and deterministic' (their statements: YtjjcakjoeiolgaaGreatTotals.lean).
  GIVEN WITH THE SEED: the statements are not yours to turn. If you find one false, say at which input.
  Laid BY PROGRAM, IN A SANDBOX (cutbox-rows.mjs): the forced cells as the released guide's own fill.sh prints them over the translation 1096d0758aa1e45e… (all of the seat's roots in one cut). By AI agents, Wed Nov 11 2026. No macro, syntax, notation, axiom, sorry.
-/
import Derived.Test.YtjjcakjoeiolgaaGreatChecked
import GoSem.Claim
import GoSem.ClaimJoined
import GoSem.ClaimMapViews
import Derived.JoinedTies
import Derived.KernelRfl
namespace Go.Proofs.YtjjcakjoeiolgaaGreat
/- THE CELL 'sum', in the pinned program and in every row, IS THE sha256 OF THE DUMP (.gsa) THAT YtjjcakjoeiolgaaGreatProg.lean LOADS. Nothing in Lean hashes anything: it is a label: what it is worth is what the hold of that sum in a sandbox is worth. -/
noncomputable def Tryz.pinned : Pinned := { name := "ytjjcakjoeiolgaagreat", sum := "1096d0758aa1e45e491263001ab6a7b22655bf2ba3406be8da2c9bf4ae53b03c", checked := Tryz.checked }
namespace Rows
def none {H : Type} : Left H := { results := [], args := [] }

/-- 'escrowlaw23.FoeReaches': WHATEVER THE INPUT: true; the input reads as it did. -/
def foeReachesSpec : ChangeSpec := { name := "foeReaches", fn := fun _ => fun
  | [d1, d2] => { results := [.lit (.bool true)], args := [d1, d2] }
  | _ => none }
def foeReachesRow : OpenClaim := { program := "ytjjcakjoeiolgaagreat", sum := "1096d0758aa1e45e491263001ab6a7b22655bf2ba3406be8da2c9bf4ae53b03c", func := "escrow/escrowlaw23.FoeReaches", spec := "foeReaches", unfollowed := true, recurses := true, plainKeys := false, apart := false }
def FoeReachesSaid : Prop := foeReachesRow.holds Tryz.pinned (OpenSpec.ofChange foeReachesSpec)

/-- ITS FALSE NEIGHBOUR: 'it returns false'. Refute it at one input. -/
def foeReachesWrong : ChangeSpec := { name := "foeReaches", fn := fun _ => fun
  | [d1, d2] => { results := [.lit (.bool false)], args := [d1, d2] }
  | _ => none }
def FoeReachesWrongFalsely : Prop := foeReachesRow.holds Tryz.pinned (OpenSpec.ofChange foeReachesWrong)

/-- 'escrowlaw23.FoeSays': WHATEVER THE INPUT: true; the input reads as it did. -/
def foeSaysSpec : ChangeSpec := { name := "foeSays", fn := fun _ => fun
  | [d1, d2, d3] => { results := [.lit (.bool true)], args := [d1, d2, d3] }
  | _ => none }
def foeSaysRow : OpenClaim := { program := "ytjjcakjoeiolgaagreat", sum := "1096d0758aa1e45e491263001ab6a7b22655bf2ba3406be8da2c9bf4ae53b03c", func := "escrow/escrowlaw23.FoeSays", spec := "foeSays", unfollowed := true, recurses := true, plainKeys := false, apart := false }
def FoeSaysSaid : Prop := foeSaysRow.holds Tryz.pinned (OpenSpec.ofChange foeSaysSpec)

/-- ITS FALSE NEIGHBOUR: 'it returns false'. Refute it at one input. -/
def foeSaysWrong : ChangeSpec := { name := "foeSays", fn := fun _ => fun
  | [d1, d2, d3] => { results := [.lit (.bool false)], args := [d1, d2, d3] }
  | _ => none }
def FoeSaysWrongFalsely : Prop := foeSaysRow.holds Tryz.pinned (OpenSpec.ofChange foeSaysWrong)

/-- 'escrowlaw23.FoeFree': WHATEVER THE INPUT: true; the input reads as it did. -/
def foeFreeSpec : ChangeSpec := { name := "foeFree", fn := fun _ => fun
  | [d1, d2] => { results := [.lit (.bool true)], args := [d1, d2] }
  | _ => none }
def foeFreeRow : OpenClaim := { program := "ytjjcakjoeiolgaagreat", sum := "1096d0758aa1e45e491263001ab6a7b22655bf2ba3406be8da2c9bf4ae53b03c", func := "escrow/escrowlaw23.FoeFree", spec := "foeFree", unfollowed := true, recurses := true, plainKeys := false, apart := false }
def FoeFreeSaid : Prop := foeFreeRow.holds Tryz.pinned (OpenSpec.ofChange foeFreeSpec)

/-- ITS FALSE NEIGHBOUR: 'it returns false'. Refute it at one input. -/
def foeFreeWrong : ChangeSpec := { name := "foeFree", fn := fun _ => fun
  | [d1, d2] => { results := [.lit (.bool false)], args := [d1, d2] }
  | _ => none }
def FoeFreeWrongFalsely : Prop := foeFreeRow.holds Tryz.pinned (OpenSpec.ofChange foeFreeWrong)

/-- 'escrowlaw23.FoePlays': WHATEVER THE INPUT: true; the input reads as it did. -/
def foePlaysSpec : ChangeSpec := { name := "foePlays", fn := fun _ => fun
  | [d1, d2, d3] => { results := [.lit (.bool true)], args := [d1, d2, d3] }
  | _ => none }
def foePlaysRow : OpenClaim := { program := "ytjjcakjoeiolgaagreat", sum := "1096d0758aa1e45e491263001ab6a7b22655bf2ba3406be8da2c9bf4ae53b03c", func := "escrow/escrowlaw23.FoePlays", spec := "foePlays", unfollowed := true, recurses := true, loops := true, plainKeys := false, apart := false }
def FoePlaysSaid : Prop := foePlaysRow.holds Tryz.pinned (OpenSpec.ofChange foePlaysSpec)

/-- ITS FALSE NEIGHBOUR: 'it returns false'. Refute it at one input. -/
def foePlaysWrong : ChangeSpec := { name := "foePlays", fn := fun _ => fun
  | [d1, d2, d3] => { results := [.lit (.bool false)], args := [d1, d2, d3] }
  | _ => none }
def FoePlaysWrongFalsely : Prop := foePlaysRow.holds Tryz.pinned (OpenSpec.ofChange foePlaysWrong)

/- THE SECOND FORM. 'bulk': how many values and letters a reading holds, each counted each time it is reached (what is shared counts as often as it is met; a slice's spare places count too). A statement '..UptoSaid' is the law's where the arguments, and the package variables that the reading takes, are together of bulk at most 1048576: NARROWER than '..Said'. Prove '..Said' where nothing that the law and all that it calls make is longer than what came in: it says more and counts as full. Else prove '..UptoSaid'. A law counts once. -/
mutual
def uptoBulk {H : Type} : DataW H → Nat
  | .lit (.string bytes) => bytes.length + 1
  | .lit _ => 1
  | .nil => 1
  | .ptr d => uptoBulk d + 1
  | .slice elems spare => uptoBulkAll elems + uptoBulkAll spare + 1
  | .agg parts => uptoBulkAll parts + 1
  | .iface _ d => uptoBulk d + 1
  | .map entries => uptoBulkEntries entries + 1
  | .held _ => 1
def uptoBulkAll {H : Type} : List (DataW H) → Nat
  | [] => 0
  | d :: r => uptoBulk d + uptoBulkAll r
def uptoBulkEntries {H : Type} : List (Lit × DataW H) → Nat
  | [] => 0
  | x :: r => uptoBulkEntry x + uptoBulkEntries r
def uptoBulkEntry {H : Type} : Lit × DataW H → Nat
  | (.string bytes, d) => bytes.length + uptoBulk d + 1
  | (_, d) => uptoBulk d + 1
 end
def uptoSmall : (H : Type) → List (DataW H) → Bool := fun _ ds => decide (uptoBulkAll ds ≤ 1048576)
def OpenSpec.upto (s : _root_.Go.ChangeSpec) : _root_.Go.OpenSpec := { _root_.Go.OpenSpec.ofChange s with cond := some uptoSmall }

/-- 'escrowlaw23.FoeReaches', WHERE WHAT IT READS IS OF BULK AT MOST 1048576: true; the input reads as it did. -/
def foeReachesUptoRow : OpenClaim := { program := "ytjjcakjoeiolgaagreat", sum := "1096d0758aa1e45e491263001ab6a7b22655bf2ba3406be8da2c9bf4ae53b03c", func := "escrow/escrowlaw23.FoeReaches", spec := "foeReaches", unfollowed := true, recurses := true, plainKeys := false, apart := false, narrowed := true }
def FoeReachesUptoSaid : Prop := foeReachesUptoRow.holds Tryz.pinned (OpenSpec.upto foeReachesSpec)

/-- 'escrowlaw23.FoeSays', WHERE WHAT IT READS IS OF BULK AT MOST 1048576: true; the input reads as it did. -/
def foeSaysUptoRow : OpenClaim := { program := "ytjjcakjoeiolgaagreat", sum := "1096d0758aa1e45e491263001ab6a7b22655bf2ba3406be8da2c9bf4ae53b03c", func := "escrow/escrowlaw23.FoeSays", spec := "foeSays", unfollowed := true, recurses := true, plainKeys := false, apart := false, narrowed := true }
def FoeSaysUptoSaid : Prop := foeSaysUptoRow.holds Tryz.pinned (OpenSpec.upto foeSaysSpec)

/-- 'escrowlaw23.FoeFree', WHERE WHAT IT READS IS OF BULK AT MOST 1048576: true; the input reads as it did. -/
def foeFreeUptoRow : OpenClaim := { program := "ytjjcakjoeiolgaagreat", sum := "1096d0758aa1e45e491263001ab6a7b22655bf2ba3406be8da2c9bf4ae53b03c", func := "escrow/escrowlaw23.FoeFree", spec := "foeFree", unfollowed := true, recurses := true, plainKeys := false, apart := false, narrowed := true }
def FoeFreeUptoSaid : Prop := foeFreeUptoRow.holds Tryz.pinned (OpenSpec.upto foeFreeSpec)

/-- 'escrowlaw23.FoePlays', WHERE WHAT IT READS IS OF BULK AT MOST 1048576: true; the input reads as it did. -/
def foePlaysUptoRow : OpenClaim := { program := "ytjjcakjoeiolgaagreat", sum := "1096d0758aa1e45e491263001ab6a7b22655bf2ba3406be8da2c9bf4ae53b03c", func := "escrow/escrowlaw23.FoePlays", spec := "foePlays", unfollowed := true, recurses := true, loops := true, plainKeys := false, apart := false, narrowed := true }
def FoePlaysUptoSaid : Prop := foePlaysUptoRow.holds Tryz.pinned (OpenSpec.upto foePlaysSpec)

end Rows
end Go.Proofs.YtjjcakjoeiolgaaGreat
