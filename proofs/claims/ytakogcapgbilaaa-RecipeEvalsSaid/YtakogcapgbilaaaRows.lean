/-
  NARROWER THAN 'FOR EVERY INPUT', by the rows' own cells (each row's printed sentence says how): ArbiterLists: loops · ArbiterMore: loops · ArbiterJudges: loops · DeduceProofs: loops · DeduceChecks: loops · DeduceMore: loops · DeduceKeys: loops · DeduceClosed: loops · RecipeEvals: loops · RecipeTrims: loops.
  DERIVED. THE GIVEN ROWS OF THIS SEAT. 12 by the template 'for every input the law returns true; each argument reads behind the call as it read before'; 0 by the template 'total and deterministic' (their statements: YtakogcapgbilaaaTotals.lean).
  GIVEN WITH THE SEED: the statements are not yours to turn. If you find one false, say at which input.
  Laid BY PROGRAM, IN A SANDBOX (cutbox-rows.mjs): the forced cells as the released guide's own fill.sh prints them over the translation 6eaedd19f55c7b67… (all of the seat's roots in one cut). By AI agents, Wed Nov 11 2026. No macro, syntax, notation, axiom, sorry.
-/
import Derived.Test.YtakogcapgbilaaaChecked
import GoSem.Claim
import GoSem.ClaimJoined
import GoSem.ClaimMapViews
import Derived.JoinedTies
import Derived.KernelRfl
namespace Go.Proofs.Ytakogcapgbilaaa
/- THE CELL 'sum', in the pinned program and in every row, IS THE sha256 OF THE DUMP (.gsa) THAT YtakogcapgbilaaaProg.lean LOADS. Nothing in Lean hashes anything: it is a label: what it is worth is what the hold of that sum in a sandbox is worth. -/
noncomputable def Try.pinned : Pinned := { name := "ytakogcapgbilaaa", sum := "6eaedd19f55c7b67da626e2f370b514b5b3ff67a7dc90b4d476e48f4289435df", checked := Try.checked }
namespace Rows
def none {H : Type} : Left H := { results := [], args := [] }

/-- 'escrowlaw13.ArbiterLists': WHATEVER THE INPUT: true; the input reads as it did. -/
def arbiterListsSpec : ChangeSpec := { name := "arbiterLists", fn := fun _ => fun
  | [d] => { results := [.lit (.bool true)], args := [d] }
  | _ => none }
def arbiterListsRow : OpenClaim := { program := "ytakogcapgbilaaa", sum := "6eaedd19f55c7b67da626e2f370b514b5b3ff67a7dc90b4d476e48f4289435df", func := "escrow/escrowlaw13.ArbiterLists", spec := "arbiterLists", unfollowed := true, recurses := true, loops := true, plainKeys := false, apart := false }
def ArbiterListsSaid : Prop := arbiterListsRow.holds Try.pinned (OpenSpec.ofChange arbiterListsSpec)

/-- ITS FALSE NEIGHBOUR: 'it returns false'. Refute it at one input. -/
def arbiterListsWrong : ChangeSpec := { name := "arbiterLists", fn := fun _ => fun
  | [d] => { results := [.lit (.bool false)], args := [d] }
  | _ => none }
def ArbiterListsWrongFalsely : Prop := arbiterListsRow.holds Try.pinned (OpenSpec.ofChange arbiterListsWrong)

/-- 'escrowlaw13.ArbiterMore': WHATEVER THE INPUT: true; the input reads as it did. -/
def arbiterMoreSpec : ChangeSpec := { name := "arbiterMore", fn := fun _ => fun
  | [d1, d2, d3] => { results := [.lit (.bool true)], args := [d1, d2, d3] }
  | _ => none }
def arbiterMoreRow : OpenClaim := { program := "ytakogcapgbilaaa", sum := "6eaedd19f55c7b67da626e2f370b514b5b3ff67a7dc90b4d476e48f4289435df", func := "escrow/escrowlaw13.ArbiterMore", spec := "arbiterMore", unfollowed := true, recurses := true, loops := true, plainKeys := false, apart := false }
def ArbiterMoreSaid : Prop := arbiterMoreRow.holds Try.pinned (OpenSpec.ofChange arbiterMoreSpec)

/-- ITS FALSE NEIGHBOUR: 'it returns false'. Refute it at one input. -/
def arbiterMoreWrong : ChangeSpec := { name := "arbiterMore", fn := fun _ => fun
  | [d1, d2, d3] => { results := [.lit (.bool false)], args := [d1, d2, d3] }
  | _ => none }
def ArbiterMoreWrongFalsely : Prop := arbiterMoreRow.holds Try.pinned (OpenSpec.ofChange arbiterMoreWrong)

/-- 'escrowlaw13.ArbiterJudges': WHATEVER THE INPUT: true; the input reads as it did. -/
def arbiterJudgesSpec : ChangeSpec := { name := "arbiterJudges", fn := fun _ => fun
  | [d1, d2] => { results := [.lit (.bool true)], args := [d1, d2] }
  | _ => none }
def arbiterJudgesRow : OpenClaim := { program := "ytakogcapgbilaaa", sum := "6eaedd19f55c7b67da626e2f370b514b5b3ff67a7dc90b4d476e48f4289435df", func := "escrow/escrowlaw13.ArbiterJudges", spec := "arbiterJudges", unfollowed := true, recurses := true, loops := true, plainKeys := false, apart := false }
def ArbiterJudgesSaid : Prop := arbiterJudgesRow.holds Try.pinned (OpenSpec.ofChange arbiterJudgesSpec)

/-- ITS FALSE NEIGHBOUR: 'it returns false'. Refute it at one input. -/
def arbiterJudgesWrong : ChangeSpec := { name := "arbiterJudges", fn := fun _ => fun
  | [d1, d2] => { results := [.lit (.bool false)], args := [d1, d2] }
  | _ => none }
def ArbiterJudgesWrongFalsely : Prop := arbiterJudgesRow.holds Try.pinned (OpenSpec.ofChange arbiterJudgesWrong)

/-- 'escrowlaw13.ArbiterNil': WHATEVER THE INPUT: true; the input reads as it did. -/
def arbiterNilSpec : ChangeSpec := { name := "arbiterNil", fn := fun _ => fun
  | [d1, d2] => { results := [.lit (.bool true)], args := [d1, d2] }
  | _ => none }
def arbiterNilRow : OpenClaim := { program := "ytakogcapgbilaaa", sum := "6eaedd19f55c7b67da626e2f370b514b5b3ff67a7dc90b4d476e48f4289435df", func := "escrow/escrowlaw13.ArbiterNil", spec := "arbiterNil", unfollowed := true, recurses := true, plainKeys := false, apart := false }
def ArbiterNilSaid : Prop := arbiterNilRow.holds Try.pinned (OpenSpec.ofChange arbiterNilSpec)

/-- ITS FALSE NEIGHBOUR: 'it returns false'. Refute it at one input. -/
def arbiterNilWrong : ChangeSpec := { name := "arbiterNil", fn := fun _ => fun
  | [d1, d2] => { results := [.lit (.bool false)], args := [d1, d2] }
  | _ => none }
def ArbiterNilWrongFalsely : Prop := arbiterNilRow.holds Try.pinned (OpenSpec.ofChange arbiterNilWrong)

/-- 'escrowlaw08.DeduceProofs': WHATEVER THE INPUT: true; the input reads as it did. -/
def deduceProofsSpec : ChangeSpec := { name := "deduceProofs", fn := fun _ => fun
  | [d1, d2] => { results := [.lit (.bool true)], args := [d1, d2] }
  | _ => none }
def deduceProofsRow : OpenClaim := { program := "ytakogcapgbilaaa", sum := "6eaedd19f55c7b67da626e2f370b514b5b3ff67a7dc90b4d476e48f4289435df", func := "escrow/escrowlaw08.DeduceProofs", spec := "deduceProofs", unfollowed := true, recurses := true, loops := true, plainKeys := false, apart := false }
def DeduceProofsSaid : Prop := deduceProofsRow.holds Try.pinned (OpenSpec.ofChange deduceProofsSpec)

/-- ITS FALSE NEIGHBOUR: 'it returns false'. Refute it at one input. -/
def deduceProofsWrong : ChangeSpec := { name := "deduceProofs", fn := fun _ => fun
  | [d1, d2] => { results := [.lit (.bool false)], args := [d1, d2] }
  | _ => none }
def DeduceProofsWrongFalsely : Prop := deduceProofsRow.holds Try.pinned (OpenSpec.ofChange deduceProofsWrong)

/-- 'escrowlaw08.DeduceChecks': WHATEVER THE INPUT: true; the input reads as it did. -/
def deduceChecksSpec : ChangeSpec := { name := "deduceChecks", fn := fun _ => fun
  | [d] => { results := [.lit (.bool true)], args := [d] }
  | _ => none }
def deduceChecksRow : OpenClaim := { program := "ytakogcapgbilaaa", sum := "6eaedd19f55c7b67da626e2f370b514b5b3ff67a7dc90b4d476e48f4289435df", func := "escrow/escrowlaw08.DeduceChecks", spec := "deduceChecks", unfollowed := true, recurses := true, loops := true, plainKeys := false, apart := false }
def DeduceChecksSaid : Prop := deduceChecksRow.holds Try.pinned (OpenSpec.ofChange deduceChecksSpec)

/-- ITS FALSE NEIGHBOUR: 'it returns false'. Refute it at one input. -/
def deduceChecksWrong : ChangeSpec := { name := "deduceChecks", fn := fun _ => fun
  | [d] => { results := [.lit (.bool false)], args := [d] }
  | _ => none }
def DeduceChecksWrongFalsely : Prop := deduceChecksRow.holds Try.pinned (OpenSpec.ofChange deduceChecksWrong)

/-- 'escrowlaw08.DeduceMore': WHATEVER THE INPUT: true; the input reads as it did. -/
def deduceMoreSpec : ChangeSpec := { name := "deduceMore", fn := fun _ => fun
  | [d1, d2, d3] => { results := [.lit (.bool true)], args := [d1, d2, d3] }
  | _ => none }
def deduceMoreRow : OpenClaim := { program := "ytakogcapgbilaaa", sum := "6eaedd19f55c7b67da626e2f370b514b5b3ff67a7dc90b4d476e48f4289435df", func := "escrow/escrowlaw08.DeduceMore", spec := "deduceMore", unfollowed := true, recurses := true, loops := true, plainKeys := false, apart := false }
def DeduceMoreSaid : Prop := deduceMoreRow.holds Try.pinned (OpenSpec.ofChange deduceMoreSpec)

/-- ITS FALSE NEIGHBOUR: 'it returns false'. Refute it at one input. -/
def deduceMoreWrong : ChangeSpec := { name := "deduceMore", fn := fun _ => fun
  | [d1, d2, d3] => { results := [.lit (.bool false)], args := [d1, d2, d3] }
  | _ => none }
def DeduceMoreWrongFalsely : Prop := deduceMoreRow.holds Try.pinned (OpenSpec.ofChange deduceMoreWrong)

/-- 'escrowlaw08.DeduceKeys': WHATEVER THE INPUT: true; the input reads as it did. -/
def deduceKeysSpec : ChangeSpec := { name := "deduceKeys", fn := fun _ => fun
  | [d1, d2] => { results := [.lit (.bool true)], args := [d1, d2] }
  | _ => none }
def deduceKeysRow : OpenClaim := { program := "ytakogcapgbilaaa", sum := "6eaedd19f55c7b67da626e2f370b514b5b3ff67a7dc90b4d476e48f4289435df", func := "escrow/escrowlaw08.DeduceKeys", spec := "deduceKeys", unfollowed := true, recurses := true, loops := true, plainKeys := false, apart := false }
def DeduceKeysSaid : Prop := deduceKeysRow.holds Try.pinned (OpenSpec.ofChange deduceKeysSpec)

/-- ITS FALSE NEIGHBOUR: 'it returns false'. Refute it at one input. -/
def deduceKeysWrong : ChangeSpec := { name := "deduceKeys", fn := fun _ => fun
  | [d1, d2] => { results := [.lit (.bool false)], args := [d1, d2] }
  | _ => none }
def DeduceKeysWrongFalsely : Prop := deduceKeysRow.holds Try.pinned (OpenSpec.ofChange deduceKeysWrong)

/-- 'escrowlaw08.DeduceClosed': WHATEVER THE INPUT: true; the input reads as it did. -/
def deduceClosedSpec : ChangeSpec := { name := "deduceClosed", fn := fun _ => fun
  | [d1, d2] => { results := [.lit (.bool true)], args := [d1, d2] }
  | _ => none }
def deduceClosedRow : OpenClaim := { program := "ytakogcapgbilaaa", sum := "6eaedd19f55c7b67da626e2f370b514b5b3ff67a7dc90b4d476e48f4289435df", func := "escrow/escrowlaw08.DeduceClosed", spec := "deduceClosed", unfollowed := true, recurses := true, loops := true, plainKeys := false, apart := false }
def DeduceClosedSaid : Prop := deduceClosedRow.holds Try.pinned (OpenSpec.ofChange deduceClosedSpec)

/-- ITS FALSE NEIGHBOUR: 'it returns false'. Refute it at one input. -/
def deduceClosedWrong : ChangeSpec := { name := "deduceClosed", fn := fun _ => fun
  | [d1, d2] => { results := [.lit (.bool false)], args := [d1, d2] }
  | _ => none }
def DeduceClosedWrongFalsely : Prop := deduceClosedRow.holds Try.pinned (OpenSpec.ofChange deduceClosedWrong)

/-- 'escrowlaw09.RecipeEvals': WHATEVER THE INPUT: true; the input reads as it did. -/
def recipeEvalsSpec : ChangeSpec := { name := "recipeEvals", fn := fun _ => fun
  | [d1, d2] => { results := [.lit (.bool true)], args := [d1, d2] }
  | _ => none }
def recipeEvalsRow : OpenClaim := { program := "ytakogcapgbilaaa", sum := "6eaedd19f55c7b67da626e2f370b514b5b3ff67a7dc90b4d476e48f4289435df", func := "escrow/escrowlaw09.RecipeEvals", spec := "recipeEvals", unfollowed := true, recurses := true, loops := true, plainKeys := false, apart := false }
def RecipeEvalsSaid : Prop := recipeEvalsRow.holds Try.pinned (OpenSpec.ofChange recipeEvalsSpec)

/-- ITS FALSE NEIGHBOUR: 'it returns false'. Refute it at one input. -/
def recipeEvalsWrong : ChangeSpec := { name := "recipeEvals", fn := fun _ => fun
  | [d1, d2] => { results := [.lit (.bool false)], args := [d1, d2] }
  | _ => none }
def RecipeEvalsWrongFalsely : Prop := recipeEvalsRow.holds Try.pinned (OpenSpec.ofChange recipeEvalsWrong)

/-- 'escrowlaw09.RecipeTrims': WHATEVER THE INPUT: true; the input reads as it did. -/
def recipeTrimsSpec : ChangeSpec := { name := "recipeTrims", fn := fun _ => fun
  | [d1, d2] => { results := [.lit (.bool true)], args := [d1, d2] }
  | _ => none }
def recipeTrimsRow : OpenClaim := { program := "ytakogcapgbilaaa", sum := "6eaedd19f55c7b67da626e2f370b514b5b3ff67a7dc90b4d476e48f4289435df", func := "escrow/escrowlaw09.RecipeTrims", spec := "recipeTrims", unfollowed := true, recurses := true, loops := true, plainKeys := false, apart := false }
def RecipeTrimsSaid : Prop := recipeTrimsRow.holds Try.pinned (OpenSpec.ofChange recipeTrimsSpec)

/-- ITS FALSE NEIGHBOUR: 'it returns false'. Refute it at one input. -/
def recipeTrimsWrong : ChangeSpec := { name := "recipeTrims", fn := fun _ => fun
  | [d1, d2] => { results := [.lit (.bool false)], args := [d1, d2] }
  | _ => none }
def RecipeTrimsWrongFalsely : Prop := recipeTrimsRow.holds Try.pinned (OpenSpec.ofChange recipeTrimsWrong)

/-- 'escrowlaw07.WireNil': WHATEVER THE INPUT: true; the input reads as it did. -/
def wireNilSpec : ChangeSpec := { name := "wireNil", fn := fun _ => fun
  | [d1, d2] => { results := [.lit (.bool true)], args := [d1, d2] }
  | _ => none }
def wireNilRow : OpenClaim := { program := "ytakogcapgbilaaa", sum := "6eaedd19f55c7b67da626e2f370b514b5b3ff67a7dc90b4d476e48f4289435df", func := "escrow/escrowlaw07.WireNil", spec := "wireNil", unfollowed := true, recurses := true, plainKeys := false, apart := false }
def WireNilSaid : Prop := wireNilRow.holds Try.pinned (OpenSpec.ofChange wireNilSpec)

/-- ITS FALSE NEIGHBOUR: 'it returns false'. Refute it at one input. -/
def wireNilWrong : ChangeSpec := { name := "wireNil", fn := fun _ => fun
  | [d1, d2] => { results := [.lit (.bool false)], args := [d1, d2] }
  | _ => none }
def WireNilWrongFalsely : Prop := wireNilRow.holds Try.pinned (OpenSpec.ofChange wireNilWrong)

/- THE SECOND FORM. 'bulk': how many values and letters a reading holds, each counted each time it is reached (what is shared counts as often as it is met; a slice's spare places count too). A statement '..UptoSaid' is the law's where the arguments, and the package variables that the reading takes, are together of bulk at most 1048576: NARROWER than '..Said'. Prove '..Said' where nothing that the law and all that it calls make is longer than what came in: it says more and counts as full. Else prove '..UptoSaid'. A law counts once. -/
mutual
def uptoBulk {H : Type} : DataW H → Nat
  | .lit (.string bytes) => bytes.length + 1
  | .lit _ => 1
  | .nil => 1
  | .ptr d => uptoBulk d + 1
  | .slice elems spare => uptoBulkAll elems + uptoBulkAll spare + 1
  | .agg parts => uptoBulkAll parts + 1
  | .iface _ d => uptoBulk d + 1
  | .map entries => uptoBulkEntries entries + 1
  | .held _ => 1
def uptoBulkAll {H : Type} : List (DataW H) → Nat
  | [] => 0
  | d :: r => uptoBulk d + uptoBulkAll r
def uptoBulkEntries {H : Type} : List (Lit × DataW H) → Nat
  | [] => 0
  | x :: r => uptoBulkEntry x + uptoBulkEntries r
def uptoBulkEntry {H : Type} : Lit × DataW H → Nat
  | (.string bytes, d) => bytes.length + uptoBulk d + 1
  | (_, d) => uptoBulk d + 1
 end
def uptoSmall : (H : Type) → List (DataW H) → Bool := fun _ ds => decide (uptoBulkAll ds ≤ 1048576)
def OpenSpec.upto (s : _root_.Go.ChangeSpec) : _root_.Go.OpenSpec := { _root_.Go.OpenSpec.ofChange s with cond := some uptoSmall }

/-- 'escrowlaw13.ArbiterLists', WHERE WHAT IT READS IS OF BULK AT MOST 1048576: true; the input reads as it did. -/
def arbiterListsUptoRow : OpenClaim := { program := "ytakogcapgbilaaa", sum := "6eaedd19f55c7b67da626e2f370b514b5b3ff67a7dc90b4d476e48f4289435df", func := "escrow/escrowlaw13.ArbiterLists", spec := "arbiterLists", unfollowed := true, recurses := true, loops := true, plainKeys := false, apart := false, narrowed := true }
def ArbiterListsUptoSaid : Prop := arbiterListsUptoRow.holds Try.pinned (OpenSpec.upto arbiterListsSpec)

/-- 'escrowlaw13.ArbiterMore', WHERE WHAT IT READS IS OF BULK AT MOST 1048576: true; the input reads as it did. -/
def arbiterMoreUptoRow : OpenClaim := { program := "ytakogcapgbilaaa", sum := "6eaedd19f55c7b67da626e2f370b514b5b3ff67a7dc90b4d476e48f4289435df", func := "escrow/escrowlaw13.ArbiterMore", spec := "arbiterMore", unfollowed := true, recurses := true, loops := true, plainKeys := false, apart := false, narrowed := true }
def ArbiterMoreUptoSaid : Prop := arbiterMoreUptoRow.holds Try.pinned (OpenSpec.upto arbiterMoreSpec)

/-- 'escrowlaw13.ArbiterJudges', WHERE WHAT IT READS IS OF BULK AT MOST 1048576: true; the input reads as it did. -/
def arbiterJudgesUptoRow : OpenClaim := { program := "ytakogcapgbilaaa", sum := "6eaedd19f55c7b67da626e2f370b514b5b3ff67a7dc90b4d476e48f4289435df", func := "escrow/escrowlaw13.ArbiterJudges", spec := "arbiterJudges", unfollowed := true, recurses := true, loops := true, plainKeys := false, apart := false, narrowed := true }
def ArbiterJudgesUptoSaid : Prop := arbiterJudgesUptoRow.holds Try.pinned (OpenSpec.upto arbiterJudgesSpec)

/-- 'escrowlaw13.ArbiterNil', WHERE WHAT IT READS IS OF BULK AT MOST 1048576: true; the input reads as it did. -/
def arbiterNilUptoRow : OpenClaim := { program := "ytakogcapgbilaaa", sum := "6eaedd19f55c7b67da626e2f370b514b5b3ff67a7dc90b4d476e48f4289435df", func := "escrow/escrowlaw13.ArbiterNil", spec := "arbiterNil", unfollowed := true, recurses := true, plainKeys := false, apart := false, narrowed := true }
def ArbiterNilUptoSaid : Prop := arbiterNilUptoRow.holds Try.pinned (OpenSpec.upto arbiterNilSpec)

/-- 'escrowlaw08.DeduceProofs', WHERE WHAT IT READS IS OF BULK AT MOST 1048576: true; the input reads as it did. -/
def deduceProofsUptoRow : OpenClaim := { program := "ytakogcapgbilaaa", sum := "6eaedd19f55c7b67da626e2f370b514b5b3ff67a7dc90b4d476e48f4289435df", func := "escrow/escrowlaw08.DeduceProofs", spec := "deduceProofs", unfollowed := true, recurses := true, loops := true, plainKeys := false, apart := false, narrowed := true }
def DeduceProofsUptoSaid : Prop := deduceProofsUptoRow.holds Try.pinned (OpenSpec.upto deduceProofsSpec)

/-- 'escrowlaw08.DeduceChecks', WHERE WHAT IT READS IS OF BULK AT MOST 1048576: true; the input reads as it did. -/
def deduceChecksUptoRow : OpenClaim := { program := "ytakogcapgbilaaa", sum := "6eaedd19f55c7b67da626e2f370b514b5b3ff67a7dc90b4d476e48f4289435df", func := "escrow/escrowlaw08.DeduceChecks", spec := "deduceChecks", unfollowed := true, recurses := true, loops := true, plainKeys := false, apart := false, narrowed := true }
def DeduceChecksUptoSaid : Prop := deduceChecksUptoRow.holds Try.pinned (OpenSpec.upto deduceChecksSpec)

/-- 'escrowlaw08.DeduceMore', WHERE WHAT IT READS IS OF BULK AT MOST 1048576: true; the input reads as it did. -/
def deduceMoreUptoRow : OpenClaim := { program := "ytakogcapgbilaaa", sum := "6eaedd19f55c7b67da626e2f370b514b5b3ff67a7dc90b4d476e48f4289435df", func := "escrow/escrowlaw08.DeduceMore", spec := "deduceMore", unfollowed := true, recurses := true, loops := true, plainKeys := false, apart := false, narrowed := true }
def DeduceMoreUptoSaid : Prop := deduceMoreUptoRow.holds Try.pinned (OpenSpec.upto deduceMoreSpec)

/-- 'escrowlaw08.DeduceKeys', WHERE WHAT IT READS IS OF BULK AT MOST 1048576: true; the input reads as it did. -/
def deduceKeysUptoRow : OpenClaim := { program := "ytakogcapgbilaaa", sum := "6eaedd19f55c7b67da626e2f370b514b5b3ff67a7dc90b4d476e48f4289435df", func := "escrow/escrowlaw08.DeduceKeys", spec := "deduceKeys", unfollowed := true, recurses := true, loops := true, plainKeys := false, apart := false, narrowed := true }
def DeduceKeysUptoSaid : Prop := deduceKeysUptoRow.holds Try.pinned (OpenSpec.upto deduceKeysSpec)

/-- 'escrowlaw08.DeduceClosed', WHERE WHAT IT READS IS OF BULK AT MOST 1048576: true; the input reads as it did. -/
def deduceClosedUptoRow : OpenClaim := { program := "ytakogcapgbilaaa", sum := "6eaedd19f55c7b67da626e2f370b514b5b3ff67a7dc90b4d476e48f4289435df", func := "escrow/escrowlaw08.DeduceClosed", spec := "deduceClosed", unfollowed := true, recurses := true, loops := true, plainKeys := false, apart := false, narrowed := true }
def DeduceClosedUptoSaid : Prop := deduceClosedUptoRow.holds Try.pinned (OpenSpec.upto deduceClosedSpec)

/-- 'escrowlaw09.RecipeEvals', WHERE WHAT IT READS IS OF BULK AT MOST 1048576: true; the input reads as it did. -/
def recipeEvalsUptoRow : OpenClaim := { program := "ytakogcapgbilaaa", sum := "6eaedd19f55c7b67da626e2f370b514b5b3ff67a7dc90b4d476e48f4289435df", func := "escrow/escrowlaw09.RecipeEvals", spec := "recipeEvals", unfollowed := true, recurses := true, loops := true, plainKeys := false, apart := false, narrowed := true }
def RecipeEvalsUptoSaid : Prop := recipeEvalsUptoRow.holds Try.pinned (OpenSpec.upto recipeEvalsSpec)

/-- 'escrowlaw09.RecipeTrims', WHERE WHAT IT READS IS OF BULK AT MOST 1048576: true; the input reads as it did. -/
def recipeTrimsUptoRow : OpenClaim := { program := "ytakogcapgbilaaa", sum := "6eaedd19f55c7b67da626e2f370b514b5b3ff67a7dc90b4d476e48f4289435df", func := "escrow/escrowlaw09.RecipeTrims", spec := "recipeTrims", unfollowed := true, recurses := true, loops := true, plainKeys := false, apart := false, narrowed := true }
def RecipeTrimsUptoSaid : Prop := recipeTrimsUptoRow.holds Try.pinned (OpenSpec.upto recipeTrimsSpec)

/-- 'escrowlaw07.WireNil', WHERE WHAT IT READS IS OF BULK AT MOST 1048576: true; the input reads as it did. -/
def wireNilUptoRow : OpenClaim := { program := "ytakogcapgbilaaa", sum := "6eaedd19f55c7b67da626e2f370b514b5b3ff67a7dc90b4d476e48f4289435df", func := "escrow/escrowlaw07.WireNil", spec := "wireNil", unfollowed := true, recurses := true, plainKeys := false, apart := false, narrowed := true }
def WireNilUptoSaid : Prop := wireNilUptoRow.holds Try.pinned (OpenSpec.upto wireNilSpec)

end Rows
end Go.Proofs.Ytakogcapgbilaaa
