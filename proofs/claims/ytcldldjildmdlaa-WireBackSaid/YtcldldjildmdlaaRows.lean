/-
  NARROWER THAN 'FOR EVERY INPUT', by the rows' own cells (each row's printed sentence says how): RecipeTrims: loops · WireApart: loops · WireEncodes: loops · WireBack: loops · ViewEquals: loops · ViewOnce: loops.
  DERIVED. THE GIVEN ROWS OF THIS SEAT. 9 by the template 'for every input the law returns true; each argument reads behind the call as it read before'; 0 by the template 'total and deterministic' (their statements: YtcldldjildmdlaaTotals.lean).
  GIVEN WITH THE SEED: the statements are not yours to turn. If you find one false, say at which input.
  Laid BY PROGRAM, IN A SANDBOX (cutbox-rows.mjs): the forced cells as the released guide's own fill.sh prints them over the translation 4a3d9db87c3c25a1… (all of the seat's roots in one cut). By AI agents, Wed Nov 11 2026. No macro, syntax, notation, axiom, sorry.
-/
import Derived.Test.YtcldldjildmdlaaChecked
import GoSem.Claim
import GoSem.ClaimJoined
import GoSem.ClaimMapViews
import Derived.JoinedTies
import Derived.KernelRfl
namespace Go.Proofs.Ytcldldjildmdlaa
/- THE CELL 'sum', in the pinned program and in every row, IS THE sha256 OF THE DUMP (.gsa) THAT YtcldldjildmdlaaProg.lean LOADS. Nothing in Lean hashes anything: it is a label: what it is worth is what the hold of that sum in a sandbox is worth. -/
noncomputable def Try.pinned : Pinned := { name := "ytcldldjildmdlaa", sum := "4a3d9db87c3c25a1a5a0a780e59c414e55b385f8d35cd668c1fc7939b4f3801f", checked := Try.checked }
namespace Rows
def none {H : Type} : Left H := { results := [], args := [] }

/-- 'escrowlaw09.RecipeTrims': WHATEVER THE INPUT: true; the input reads as it did. -/
def recipeTrimsSpec : ChangeSpec := { name := "recipeTrims", fn := fun _ => fun
  | [d1, d2] => { results := [.lit (.bool true)], args := [d1, d2] }
  | _ => none }
def recipeTrimsRow : OpenClaim := { program := "ytcldldjildmdlaa", sum := "4a3d9db87c3c25a1a5a0a780e59c414e55b385f8d35cd668c1fc7939b4f3801f", func := "escrow/escrowlaw09.RecipeTrims", spec := "recipeTrims", unfollowed := true, recurses := true, loops := true, plainKeys := false, apart := false }
def RecipeTrimsSaid : Prop := recipeTrimsRow.holds Try.pinned (OpenSpec.ofChange recipeTrimsSpec)

/-- ITS FALSE NEIGHBOUR: 'it returns false'. Refute it at one input. -/
def recipeTrimsWrong : ChangeSpec := { name := "recipeTrims", fn := fun _ => fun
  | [d1, d2] => { results := [.lit (.bool false)], args := [d1, d2] }
  | _ => none }
def RecipeTrimsWrongFalsely : Prop := recipeTrimsRow.holds Try.pinned (OpenSpec.ofChange recipeTrimsWrong)

/-- 'escrowlaw07.WireNil': WHATEVER THE INPUT: true; the input reads as it did. -/
def wireNilSpec : ChangeSpec := { name := "wireNil", fn := fun _ => fun
  | [d1, d2] => { results := [.lit (.bool true)], args := [d1, d2] }
  | _ => none }
def wireNilRow : OpenClaim := { program := "ytcldldjildmdlaa", sum := "4a3d9db87c3c25a1a5a0a780e59c414e55b385f8d35cd668c1fc7939b4f3801f", func := "escrow/escrowlaw07.WireNil", spec := "wireNil", unfollowed := true, recurses := true, plainKeys := false, apart := false }
def WireNilSaid : Prop := wireNilRow.holds Try.pinned (OpenSpec.ofChange wireNilSpec)

/-- ITS FALSE NEIGHBOUR: 'it returns false'. Refute it at one input. -/
def wireNilWrong : ChangeSpec := { name := "wireNil", fn := fun _ => fun
  | [d1, d2] => { results := [.lit (.bool false)], args := [d1, d2] }
  | _ => none }
def WireNilWrongFalsely : Prop := wireNilRow.holds Try.pinned (OpenSpec.ofChange wireNilWrong)

/-- 'escrowlaw07.WireApart': WHATEVER THE INPUT: true; the input reads as it did. -/
def wireApartSpec : ChangeSpec := { name := "wireApart", fn := fun _ => fun
  | [d1, d2] => { results := [.lit (.bool true)], args := [d1, d2] }
  | _ => none }
def wireApartRow : OpenClaim := { program := "ytcldldjildmdlaa", sum := "4a3d9db87c3c25a1a5a0a780e59c414e55b385f8d35cd668c1fc7939b4f3801f", func := "escrow/escrowlaw07.WireApart", spec := "wireApart", unfollowed := true, recurses := true, loops := true, plainKeys := false, apart := false }
def WireApartSaid : Prop := wireApartRow.holds Try.pinned (OpenSpec.ofChange wireApartSpec)

/-- ITS FALSE NEIGHBOUR: 'it returns false'. Refute it at one input. -/
def wireApartWrong : ChangeSpec := { name := "wireApart", fn := fun _ => fun
  | [d1, d2] => { results := [.lit (.bool false)], args := [d1, d2] }
  | _ => none }
def WireApartWrongFalsely : Prop := wireApartRow.holds Try.pinned (OpenSpec.ofChange wireApartWrong)

/-- 'escrowlaw07.WireEncodes': WHATEVER THE INPUT: true; the input reads as it did. -/
def wireEncodesSpec : ChangeSpec := { name := "wireEncodes", fn := fun _ => fun
  | [d1, d2] => { results := [.lit (.bool true)], args := [d1, d2] }
  | _ => none }
def wireEncodesRow : OpenClaim := { program := "ytcldldjildmdlaa", sum := "4a3d9db87c3c25a1a5a0a780e59c414e55b385f8d35cd668c1fc7939b4f3801f", func := "escrow/escrowlaw07.WireEncodes", spec := "wireEncodes", unfollowed := true, recurses := true, loops := true, plainKeys := false, apart := false }
def WireEncodesSaid : Prop := wireEncodesRow.holds Try.pinned (OpenSpec.ofChange wireEncodesSpec)

/-- ITS FALSE NEIGHBOUR: 'it returns false'. Refute it at one input. -/
def wireEncodesWrong : ChangeSpec := { name := "wireEncodes", fn := fun _ => fun
  | [d1, d2] => { results := [.lit (.bool false)], args := [d1, d2] }
  | _ => none }
def WireEncodesWrongFalsely : Prop := wireEncodesRow.holds Try.pinned (OpenSpec.ofChange wireEncodesWrong)

/-- 'escrowlaw07.WireBack': WHATEVER THE INPUT: true; the input reads as it did. -/
def wireBackSpec : ChangeSpec := { name := "wireBack", fn := fun _ => fun
  | [d1, d2] => { results := [.lit (.bool true)], args := [d1, d2] }
  | _ => none }
def wireBackRow : OpenClaim := { program := "ytcldldjildmdlaa", sum := "4a3d9db87c3c25a1a5a0a780e59c414e55b385f8d35cd668c1fc7939b4f3801f", func := "escrow/escrowlaw07.WireBack", spec := "wireBack", unfollowed := true, recurses := true, loops := true, plainKeys := false, apart := false }
def WireBackSaid : Prop := wireBackRow.holds Try.pinned (OpenSpec.ofChange wireBackSpec)

/-- ITS FALSE NEIGHBOUR: 'it returns false'. Refute it at one input. -/
def wireBackWrong : ChangeSpec := { name := "wireBack", fn := fun _ => fun
  | [d1, d2] => { results := [.lit (.bool false)], args := [d1, d2] }
  | _ => none }
def WireBackWrongFalsely : Prop := wireBackRow.holds Try.pinned (OpenSpec.ofChange wireBackWrong)

/-- 'escrowlaw10.ViewNil': WHATEVER THE INPUT: true; the input reads as it did. -/
def viewNilSpec : ChangeSpec := { name := "viewNil", fn := fun _ => fun
  | [] => { results := [.lit (.bool true)], args := [] }
  | _ => none }
def viewNilRow : OpenClaim := { program := "ytcldldjildmdlaa", sum := "4a3d9db87c3c25a1a5a0a780e59c414e55b385f8d35cd668c1fc7939b4f3801f", func := "escrow/escrowlaw10.ViewNil", spec := "viewNil", unfollowed := true, recurses := true, plainKeys := false, apart := false }
def ViewNilSaid : Prop := viewNilRow.holds Try.pinned (OpenSpec.ofChange viewNilSpec)

/-- ITS FALSE NEIGHBOUR: 'it returns false'. Refute it at one input. -/
def viewNilWrong : ChangeSpec := { name := "viewNil", fn := fun _ => fun
  | [] => { results := [.lit (.bool false)], args := [] }
  | _ => none }
def ViewNilWrongFalsely : Prop := viewNilRow.holds Try.pinned (OpenSpec.ofChange viewNilWrong)

/-- 'escrowlaw10.ViewEquals': WHATEVER THE INPUT: true; the input reads as it did. -/
def viewEqualsSpec : ChangeSpec := { name := "viewEquals", fn := fun _ => fun
  | [d] => { results := [.lit (.bool true)], args := [d] }
  | _ => none }
def viewEqualsRow : OpenClaim := { program := "ytcldldjildmdlaa", sum := "4a3d9db87c3c25a1a5a0a780e59c414e55b385f8d35cd668c1fc7939b4f3801f", func := "escrow/escrowlaw10.ViewEquals", spec := "viewEquals", unfollowed := true, recurses := true, loops := true, plainKeys := false, apart := false }
def ViewEqualsSaid : Prop := viewEqualsRow.holds Try.pinned (OpenSpec.ofChange viewEqualsSpec)

/-- ITS FALSE NEIGHBOUR: 'it returns false'. Refute it at one input. -/
def viewEqualsWrong : ChangeSpec := { name := "viewEquals", fn := fun _ => fun
  | [d] => { results := [.lit (.bool false)], args := [d] }
  | _ => none }
def ViewEqualsWrongFalsely : Prop := viewEqualsRow.holds Try.pinned (OpenSpec.ofChange viewEqualsWrong)

/-- 'escrowlaw10.ViewOnce': WHATEVER THE INPUT: true; the input reads as it did. -/
def viewOnceSpec : ChangeSpec := { name := "viewOnce", fn := fun _ => fun
  | [d1, d2, d3] => { results := [.lit (.bool true)], args := [d1, d2, d3] }
  | _ => none }
def viewOnceRow : OpenClaim := { program := "ytcldldjildmdlaa", sum := "4a3d9db87c3c25a1a5a0a780e59c414e55b385f8d35cd668c1fc7939b4f3801f", func := "escrow/escrowlaw10.ViewOnce", spec := "viewOnce", unfollowed := true, recurses := true, loops := true, plainKeys := false, apart := false }
def ViewOnceSaid : Prop := viewOnceRow.holds Try.pinned (OpenSpec.ofChange viewOnceSpec)

/-- ITS FALSE NEIGHBOUR: 'it returns false'. Refute it at one input. -/
def viewOnceWrong : ChangeSpec := { name := "viewOnce", fn := fun _ => fun
  | [d1, d2, d3] => { results := [.lit (.bool false)], args := [d1, d2, d3] }
  | _ => none }
def ViewOnceWrongFalsely : Prop := viewOnceRow.holds Try.pinned (OpenSpec.ofChange viewOnceWrong)

/-- 'escrowlaw08.DeduceNil': WHATEVER THE INPUT: true; the input reads as it did. -/
def deduceNilSpec : ChangeSpec := { name := "deduceNil", fn := fun _ => fun
  | [] => { results := [.lit (.bool true)], args := [] }
  | _ => none }
def deduceNilRow : OpenClaim := { program := "ytcldldjildmdlaa", sum := "4a3d9db87c3c25a1a5a0a780e59c414e55b385f8d35cd668c1fc7939b4f3801f", func := "escrow/escrowlaw08.DeduceNil", spec := "deduceNil", inPlace := ["maps.clone"], unfollowed := true, recurses := true, plainKeys := false, apart := false }
def DeduceNilSaid : Prop := deduceNilRow.holds Try.pinned (OpenSpec.ofChange deduceNilSpec)

/-- ITS FALSE NEIGHBOUR: 'it returns false'. Refute it at one input. -/
def deduceNilWrong : ChangeSpec := { name := "deduceNil", fn := fun _ => fun
  | [] => { results := [.lit (.bool false)], args := [] }
  | _ => none }
def DeduceNilWrongFalsely : Prop := deduceNilRow.holds Try.pinned (OpenSpec.ofChange deduceNilWrong)

/- THE SECOND FORM. 'bulk': how many values and letters a reading holds, each counted each time it is reached (what is shared counts as often as it is met; a slice's spare places count too). A statement '..UptoSaid' is the law's where the arguments, and the package variables that the reading takes, are together of bulk at most 1048576: NARROWER than '..Said'. Prove '..Said' where nothing that the law and all that it calls make is longer than what came in: it says more and counts as full. Else prove '..UptoSaid'. A law counts once. -/
mutual
def uptoBulk {H : Type} : DataW H → Nat
  | .lit (.string bytes) => bytes.length + 1
  | .lit _ => 1
  | .nil => 1
  | .ptr d => uptoBulk d + 1
  | .slice elems spare => uptoBulkAll elems + uptoBulkAll spare + 1
  | .agg parts => uptoBulkAll parts + 1
  | .iface _ d => uptoBulk d + 1
  | .map entries => uptoBulkEntries entries + 1
  | .held _ => 1
def uptoBulkAll {H : Type} : List (DataW H) → Nat
  | [] => 0
  | d :: r => uptoBulk d + uptoBulkAll r
def uptoBulkEntries {H : Type} : List (Lit × DataW H) → Nat
  | [] => 0
  | x :: r => uptoBulkEntry x + uptoBulkEntries r
def uptoBulkEntry {H : Type} : Lit × DataW H → Nat
  | (.string bytes, d) => bytes.length + uptoBulk d + 1
  | (_, d) => uptoBulk d + 1
 end
def uptoSmall : (H : Type) → List (DataW H) → Bool := fun _ ds => decide (uptoBulkAll ds ≤ 1048576)
def OpenSpec.upto (s : _root_.Go.ChangeSpec) : _root_.Go.OpenSpec := { _root_.Go.OpenSpec.ofChange s with cond := some uptoSmall }

/-- 'escrowlaw09.RecipeTrims', WHERE WHAT IT READS IS OF BULK AT MOST 1048576: true; the input reads as it did. -/
def recipeTrimsUptoRow : OpenClaim := { program := "ytcldldjildmdlaa", sum := "4a3d9db87c3c25a1a5a0a780e59c414e55b385f8d35cd668c1fc7939b4f3801f", func := "escrow/escrowlaw09.RecipeTrims", spec := "recipeTrims", unfollowed := true, recurses := true, loops := true, plainKeys := false, apart := false, narrowed := true }
def RecipeTrimsUptoSaid : Prop := recipeTrimsUptoRow.holds Try.pinned (OpenSpec.upto recipeTrimsSpec)

/-- 'escrowlaw07.WireNil', WHERE WHAT IT READS IS OF BULK AT MOST 1048576: true; the input reads as it did. -/
def wireNilUptoRow : OpenClaim := { program := "ytcldldjildmdlaa", sum := "4a3d9db87c3c25a1a5a0a780e59c414e55b385f8d35cd668c1fc7939b4f3801f", func := "escrow/escrowlaw07.WireNil", spec := "wireNil", unfollowed := true, recurses := true, plainKeys := false, apart := false, narrowed := true }
def WireNilUptoSaid : Prop := wireNilUptoRow.holds Try.pinned (OpenSpec.upto wireNilSpec)

/-- 'escrowlaw07.WireApart', WHERE WHAT IT READS IS OF BULK AT MOST 1048576: true; the input reads as it did. -/
def wireApartUptoRow : OpenClaim := { program := "ytcldldjildmdlaa", sum := "4a3d9db87c3c25a1a5a0a780e59c414e55b385f8d35cd668c1fc7939b4f3801f", func := "escrow/escrowlaw07.WireApart", spec := "wireApart", unfollowed := true, recurses := true, loops := true, plainKeys := false, apart := false, narrowed := true }
def WireApartUptoSaid : Prop := wireApartUptoRow.holds Try.pinned (OpenSpec.upto wireApartSpec)

/-- 'escrowlaw07.WireEncodes', WHERE WHAT IT READS IS OF BULK AT MOST 1048576: true; the input reads as it did. -/
def wireEncodesUptoRow : OpenClaim := { program := "ytcldldjildmdlaa", sum := "4a3d9db87c3c25a1a5a0a780e59c414e55b385f8d35cd668c1fc7939b4f3801f", func := "escrow/escrowlaw07.WireEncodes", spec := "wireEncodes", unfollowed := true, recurses := true, loops := true, plainKeys := false, apart := false, narrowed := true }
def WireEncodesUptoSaid : Prop := wireEncodesUptoRow.holds Try.pinned (OpenSpec.upto wireEncodesSpec)

/-- 'escrowlaw07.WireBack', WHERE WHAT IT READS IS OF BULK AT MOST 1048576: true; the input reads as it did. -/
def wireBackUptoRow : OpenClaim := { program := "ytcldldjildmdlaa", sum := "4a3d9db87c3c25a1a5a0a780e59c414e55b385f8d35cd668c1fc7939b4f3801f", func := "escrow/escrowlaw07.WireBack", spec := "wireBack", unfollowed := true, recurses := true, loops := true, plainKeys := false, apart := false, narrowed := true }
def WireBackUptoSaid : Prop := wireBackUptoRow.holds Try.pinned (OpenSpec.upto wireBackSpec)

/-- 'escrowlaw10.ViewNil', WHERE WHAT IT READS IS OF BULK AT MOST 1048576: true; the input reads as it did. -/
def viewNilUptoRow : OpenClaim := { program := "ytcldldjildmdlaa", sum := "4a3d9db87c3c25a1a5a0a780e59c414e55b385f8d35cd668c1fc7939b4f3801f", func := "escrow/escrowlaw10.ViewNil", spec := "viewNil", unfollowed := true, recurses := true, plainKeys := false, apart := false, narrowed := true }
def ViewNilUptoSaid : Prop := viewNilUptoRow.holds Try.pinned (OpenSpec.upto viewNilSpec)

/-- 'escrowlaw10.ViewEquals', WHERE WHAT IT READS IS OF BULK AT MOST 1048576: true; the input reads as it did. -/
def viewEqualsUptoRow : OpenClaim := { program := "ytcldldjildmdlaa", sum := "4a3d9db87c3c25a1a5a0a780e59c414e55b385f8d35cd668c1fc7939b4f3801f", func := "escrow/escrowlaw10.ViewEquals", spec := "viewEquals", unfollowed := true, recurses := true, loops := true, plainKeys := false, apart := false, narrowed := true }
def ViewEqualsUptoSaid : Prop := viewEqualsUptoRow.holds Try.pinned (OpenSpec.upto viewEqualsSpec)

/-- 'escrowlaw10.ViewOnce', WHERE WHAT IT READS IS OF BULK AT MOST 1048576: true; the input reads as it did. -/
def viewOnceUptoRow : OpenClaim := { program := "ytcldldjildmdlaa", sum := "4a3d9db87c3c25a1a5a0a780e59c414e55b385f8d35cd668c1fc7939b4f3801f", func := "escrow/escrowlaw10.ViewOnce", spec := "viewOnce", unfollowed := true, recurses := true, loops := true, plainKeys := false, apart := false, narrowed := true }
def ViewOnceUptoSaid : Prop := viewOnceUptoRow.holds Try.pinned (OpenSpec.upto viewOnceSpec)

/-- 'escrowlaw08.DeduceNil', WHERE WHAT IT READS IS OF BULK AT MOST 1048576: true; the input reads as it did. -/
def deduceNilUptoRow : OpenClaim := { program := "ytcldldjildmdlaa", sum := "4a3d9db87c3c25a1a5a0a780e59c414e55b385f8d35cd668c1fc7939b4f3801f", func := "escrow/escrowlaw08.DeduceNil", spec := "deduceNil", inPlace := ["maps.clone"], unfollowed := true, recurses := true, plainKeys := false, apart := false, narrowed := true }
def DeduceNilUptoSaid : Prop := deduceNilUptoRow.holds Try.pinned (OpenSpec.upto deduceNilSpec)

end Rows
end Go.Proofs.Ytcldldjildmdlaa
