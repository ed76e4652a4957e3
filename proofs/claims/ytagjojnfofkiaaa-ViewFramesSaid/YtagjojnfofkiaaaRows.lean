/-
  NARROWER THAN 'FOR EVERY INPUT', by the rows' own cells (each row's printed sentence says how): ViewFree: loops · ViewAlike: loops · ViewSees: loops · ViewFrames: loops.
  DERIVED. THE GIVEN ROWS OF THIS SEAT. 4 by the template 'for every input the law returns true; each argument reads behind the call as it read before'; 0 by the template 'total and deterministic' (their statements: YtagjojnfofkiaaaTotals.lean).
  GIVEN WITH THE SEED: the statements are not yours to turn. If you find one false, say at which input.
  Laid BY PROGRAM, IN A SANDBOX (cutbox-rows.mjs): the forced cells as the released guide's own fill.sh prints them over the translation ff5a626a4fd7ede2… (all of the seat's roots in one cut). By AI agents, Wed Nov 11 2026. No macro, syntax, notation, axiom, sorry.
-/
import Derived.Test.YtagjojnfofkiaaaChecked
import GoSem.Claim
import GoSem.ClaimJoined
import GoSem.ClaimMapViews
import Derived.JoinedTies
import Derived.KernelRfl
namespace Go.Proofs.Ytagjojnfofkiaaa
/- THE CELL 'sum', in the pinned program and in every row, IS THE sha256 OF THE DUMP (.gsa) THAT YtagjojnfofkiaaaProg.lean LOADS. Nothing in Lean hashes anything: it is a label: what it is worth is what the hold of that sum in a sandbox is worth. -/
noncomputable def Try.pinned : Pinned := { name := "ytagjojnfofkiaaa", sum := "ff5a626a4fd7ede2a515c7f09df5d4563203a3a4a5831c5a2498a1cced05fe3b", checked := Try.checked }
namespace Rows
def none {H : Type} : Left H := { results := [], args := [] }

/-- 'escrowlaw10.ViewFree': WHATEVER THE INPUT: true; the input reads as it did. -/
def viewFreeSpec : ChangeSpec := { name := "viewFree", fn := fun _ => fun
  | [d] => { results := [.lit (.bool true)], args := [d] }
  | _ => none }
def viewFreeRow : OpenClaim := { program := "ytagjojnfofkiaaa", sum := "ff5a626a4fd7ede2a515c7f09df5d4563203a3a4a5831c5a2498a1cced05fe3b", func := "escrow/escrowlaw10.ViewFree", spec := "viewFree", unfollowed := true, recurses := true, loops := true, plainKeys := false, apart := false }
def ViewFreeSaid : Prop := viewFreeRow.holds Try.pinned (OpenSpec.ofChange viewFreeSpec)

/-- ITS FALSE NEIGHBOUR: 'it returns false'. Refute it at one input. -/
def viewFreeWrong : ChangeSpec := { name := "viewFree", fn := fun _ => fun
  | [d] => { results := [.lit (.bool false)], args := [d] }
  | _ => none }
def ViewFreeWrongFalsely : Prop := viewFreeRow.holds Try.pinned (OpenSpec.ofChange viewFreeWrong)

/-- 'escrowlaw10.ViewAlike': WHATEVER THE INPUT: true; the input reads as it did. -/
def viewAlikeSpec : ChangeSpec := { name := "viewAlike", fn := fun _ => fun
  | [d] => { results := [.lit (.bool true)], args := [d] }
  | _ => none }
def viewAlikeRow : OpenClaim := { program := "ytagjojnfofkiaaa", sum := "ff5a626a4fd7ede2a515c7f09df5d4563203a3a4a5831c5a2498a1cced05fe3b", func := "escrow/escrowlaw10.ViewAlike", spec := "viewAlike", unfollowed := true, recurses := true, loops := true, plainKeys := false, apart := false }
def ViewAlikeSaid : Prop := viewAlikeRow.holds Try.pinned (OpenSpec.ofChange viewAlikeSpec)

/-- ITS FALSE NEIGHBOUR: 'it returns false'. Refute it at one input. -/
def viewAlikeWrong : ChangeSpec := { name := "viewAlike", fn := fun _ => fun
  | [d] => { results := [.lit (.bool false)], args := [d] }
  | _ => none }
def ViewAlikeWrongFalsely : Prop := viewAlikeRow.holds Try.pinned (OpenSpec.ofChange viewAlikeWrong)

/-- 'escrowlaw10.ViewSees': WHATEVER THE INPUT: true; the input reads as it did. -/
def viewSeesSpec : ChangeSpec := { name := "viewSees", fn := fun _ => fun
  | [d1, d2, d3] => { results := [.lit (.bool true)], args := [d1, d2, d3] }
  | _ => none }
def viewSeesRow : OpenClaim := { program := "ytagjojnfofkiaaa", sum := "ff5a626a4fd7ede2a515c7f09df5d4563203a3a4a5831c5a2498a1cced05fe3b", func := "escrow/escrowlaw10.ViewSees", spec := "viewSees", unfollowed := true, recurses := true, loops := true, plainKeys := false, apart := false }
def ViewSeesSaid : Prop := viewSeesRow.holds Try.pinned (OpenSpec.ofChange viewSeesSpec)

/-- ITS FALSE NEIGHBOUR: 'it returns false'. Refute it at one input. -/
def viewSeesWrong : ChangeSpec := { name := "viewSees", fn := fun _ => fun
  | [d1, d2, d3] => { results := [.lit (.bool false)], args := [d1, d2, d3] }
  | _ => none }
def ViewSeesWrongFalsely : Prop := viewSeesRow.holds Try.pinned (OpenSpec.ofChange viewSeesWrong)

/-- 'escrowlaw10.ViewFrames': WHATEVER THE INPUT: true; the input reads as it did. -/
def viewFramesSpec : ChangeSpec := { name := "viewFrames", fn := fun _ => fun
  | [d] => { results := [.lit (.bool true)], args := [d] }
  | _ => none }
def viewFramesRow : OpenClaim := { program := "ytagjojnfofkiaaa", sum := "ff5a626a4fd7ede2a515c7f09df5d4563203a3a4a5831c5a2498a1cced05fe3b", func := "escrow/escrowlaw10.ViewFrames", spec := "viewFrames", unfollowed := true, recurses := true, loops := true, plainKeys := false, apart := false }
def ViewFramesSaid : Prop := viewFramesRow.holds Try.pinned (OpenSpec.ofChange viewFramesSpec)

/-- ITS FALSE NEIGHBOUR: 'it returns false'. Refute it at one input. -/
def viewFramesWrong : ChangeSpec := { name := "viewFrames", fn := fun _ => fun
  | [d] => { results := [.lit (.bool false)], args := [d] }
  | _ => none }
def ViewFramesWrongFalsely : Prop := viewFramesRow.holds Try.pinned (OpenSpec.ofChange viewFramesWrong)

/- THE SECOND FORM. 'bulk': how many values and letters a reading holds, each counted each time it is reached (what is shared counts as often as it is met; a slice's spare places count too). A statement '..UptoSaid' is the law's where the arguments, and the package variables that the reading takes, are together of bulk at most 1048576: NARROWER than '..Said'. Prove '..Said' where nothing that the law and all that it calls make is longer than what came in: it says more and counts as full. Else prove '..UptoSaid'. A law counts once. -/
mutual
def uptoBulk {H : Type} : DataW H → Nat
  | .lit (.string bytes) => bytes.length + 1
  | .lit _ => 1
  | .nil => 1
  | .ptr d => uptoBulk d + 1
  | .slice elems spare => uptoBulkAll elems + uptoBulkAll spare + 1
  | .agg parts => uptoBulkAll parts + 1
  | .iface _ d => uptoBulk d + 1
  | .map entries => uptoBulkEntries entries + 1
  | .held _ => 1
def uptoBulkAll {H : Type} : List (DataW H) → Nat
  | [] => 0
  | d :: r => uptoBulk d + uptoBulkAll r
def uptoBulkEntries {H : Type} : List (Lit × DataW H) → Nat
  | [] => 0
  | x :: r => uptoBulkEntry x + uptoBulkEntries r
def uptoBulkEntry {H : Type} : Lit × DataW H → Nat
  | (.string bytes, d) => bytes.length + uptoBulk d + 1
  | (_, d) => uptoBulk d + 1
 end
def uptoSmall : (H : Type) → List (DataW H) → Bool := fun _ ds => decide (uptoBulkAll ds ≤ 1048576)
def OpenSpec.upto (s : _root_.Go.ChangeSpec) : _root_.Go.OpenSpec := { _root_.Go.OpenSpec.ofChange s with cond := some uptoSmall }

/-- 'escrowlaw10.ViewFree', WHERE WHAT IT READS IS OF BULK AT MOST 1048576: true; the input reads as it did. -/
def viewFreeUptoRow : OpenClaim := { program := "ytagjojnfofkiaaa", sum := "ff5a626a4fd7ede2a515c7f09df5d4563203a3a4a5831c5a2498a1cced05fe3b", func := "escrow/escrowlaw10.ViewFree", spec := "viewFree", unfollowed := true, recurses := true, loops := true, plainKeys := false, apart := false, narrowed := true }
def ViewFreeUptoSaid : Prop := viewFreeUptoRow.holds Try.pinned (OpenSpec.upto viewFreeSpec)

/-- 'escrowlaw10.ViewAlike', WHERE WHAT IT READS IS OF BULK AT MOST 1048576: true; the input reads as it did. -/
def viewAlikeUptoRow : OpenClaim := { program := "ytagjojnfofkiaaa", sum := "ff5a626a4fd7ede2a515c7f09df5d4563203a3a4a5831c5a2498a1cced05fe3b", func := "escrow/escrowlaw10.ViewAlike", spec := "viewAlike", unfollowed := true, recurses := true, loops := true, plainKeys := false, apart := false, narrowed := true }
def ViewAlikeUptoSaid : Prop := viewAlikeUptoRow.holds Try.pinned (OpenSpec.upto viewAlikeSpec)

/-- 'escrowlaw10.ViewSees', WHERE WHAT IT READS IS OF BULK AT MOST 1048576: true; the input reads as it did. -/
def viewSeesUptoRow : OpenClaim := { program := "ytagjojnfofkiaaa", sum := "ff5a626a4fd7ede2a515c7f09df5d4563203a3a4a5831c5a2498a1cced05fe3b", func := "escrow/escrowlaw10.ViewSees", spec := "viewSees", unfollowed := true, recurses := true, loops := true, plainKeys := false, apart := false, narrowed := true }
def ViewSeesUptoSaid : Prop := viewSeesUptoRow.holds Try.pinned (OpenSpec.upto viewSeesSpec)

/-- 'escrowlaw10.ViewFrames', WHERE WHAT IT READS IS OF BULK AT MOST 1048576: true; the input reads as it did. -/
def viewFramesUptoRow : OpenClaim := { program := "ytagjojnfofkiaaa", sum := "ff5a626a4fd7ede2a515c7f09df5d4563203a3a4a5831c5a2498a1cced05fe3b", func := "escrow/escrowlaw10.ViewFrames", spec := "viewFrames", unfollowed := true, recurses := true, loops := true, plainKeys := false, apart := false, narrowed := true }
def ViewFramesUptoSaid : Prop := viewFramesUptoRow.holds Try.pinned (OpenSpec.upto viewFramesSpec)

end Rows
end Go.Proofs.Ytagjojnfofkiaaa
