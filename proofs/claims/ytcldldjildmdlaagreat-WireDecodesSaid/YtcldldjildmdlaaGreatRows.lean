/-
  NARROWER THAN 'FOR EVERY INPUT', by the rows' own cells (each row's printed sentence says how): WireDecodes: loops · DeducePlays: loops.
  DERIVED. THE GIVEN ROWS OF THIS SEAT. 2 by the template 'for every input the law returns true; each argument reads behind the call as it read before'; 0 by the template 'total and deterministic' (their statements: YtcldldjildmdlaaGreatTotals.lean).
  GIVEN WITH THE SEED: the statements are not yours to turn. If you find one false, say at which input.
  Laid BY PROGRAM, IN A SANDBOX (cutbox-rows.mjs): the forced cells as the released guide's own fill.sh prints them over the translation e315cb97f4cbc37e… (all of the seat's roots in one cut). By AI agents, Wed Nov 11 2026. No macro, syntax, notation, axiom, sorry.
-/
import Derived.Test.YtcldldjildmdlaaGreatChecked
import GoSem.Claim
import GoSem.ClaimJoined
import GoSem.ClaimMapViews
import Derived.JoinedTies
import Derived.KernelRfl
namespace Go.Proofs.YtcldldjildmdlaaGreat
/- THE CELL 'sum', in the pinned program and in every row, IS THE sha256 OF THE DUMP (.gsa) THAT YtcldldjildmdlaaGreatProg.lean LOADS. Nothing in Lean hashes anything: it is a label: what it is worth is what the hold of that sum in a sandbox is worth. -/
noncomputable def Tryz.pinned : Pinned := { name := "ytcldldjildmdlaagreat", sum := "e315cb97f4cbc37e79ee9cfe5b39ec3e8a32038098bc50dd1250f8158c8ab610", checked := Tryz.checked }
namespace Rows
def none {H : Type} : Left H := { results := [], args := [] }

/-- 'escrowlaw07.WireDecodes': WHATEVER THE INPUT: true; the input reads as it did. -/
def wireDecodesSpec : ChangeSpec := { name := "wireDecodes", fn := fun _ => fun
  | [d1, d2] => { results := [.lit (.bool true)], args := [d1, d2] }
  | _ => none }
def wireDecodesRow : OpenClaim := { program := "ytcldldjildmdlaagreat", sum := "e315cb97f4cbc37e79ee9cfe5b39ec3e8a32038098bc50dd1250f8158c8ab610", func := "escrow/escrowlaw07.WireDecodes", spec := "wireDecodes", unfollowed := true, recurses := true, loops := true, plainKeys := false, apart := false }
def WireDecodesSaid : Prop := wireDecodesRow.holds Tryz.pinned (OpenSpec.ofChange wireDecodesSpec)

/-- ITS FALSE NEIGHBOUR: 'it returns false'. Refute it at one input. -/
def wireDecodesWrong : ChangeSpec := { name := "wireDecodes", fn := fun _ => fun
  | [d1, d2] => { results := [.lit (.bool false)], args := [d1, d2] }
  | _ => none }
def WireDecodesWrongFalsely : Prop := wireDecodesRow.holds Tryz.pinned (OpenSpec.ofChange wireDecodesWrong)

/-- 'escrowlaw08.DeducePlays': WHATEVER THE INPUT: true; the input reads as it did. -/
def deducePlaysSpec : ChangeSpec := { name := "deducePlays", fn := fun _ => fun
  | [d1, d2] => { results := [.lit (.bool true)], args := [d1, d2] }
  | _ => none }
def deducePlaysRow : OpenClaim := { program := "ytcldldjildmdlaagreat", sum := "e315cb97f4cbc37e79ee9cfe5b39ec3e8a32038098bc50dd1250f8158c8ab610", func := "escrow/escrowlaw08.DeducePlays", spec := "deducePlays", inPlace := ["maps.clone"], unfollowed := true, recurses := true, loops := true, plainKeys := false, apart := false }
def DeducePlaysSaid : Prop := deducePlaysRow.holds Tryz.pinned (OpenSpec.ofChange deducePlaysSpec)

/-- ITS FALSE NEIGHBOUR: 'it returns false'. Refute it at one input. -/
def deducePlaysWrong : ChangeSpec := { name := "deducePlays", fn := fun _ => fun
  | [d1, d2] => { results := [.lit (.bool false)], args := [d1, d2] }
  | _ => none }
def DeducePlaysWrongFalsely : Prop := deducePlaysRow.holds Tryz.pinned (OpenSpec.ofChange deducePlaysWrong)

/- THE SECOND FORM. 'bulk': how many values and letters a reading holds, each counted each time it is reached (what is shared counts as often as it is met; a slice's spare places count too). A statement '..UptoSaid' is the law's where the arguments, and the package variables that the reading takes, are together of bulk at most 1048576: NARROWER than '..Said'. Prove '..Said' where nothing that the law and all that it calls make is longer than what came in: it says more and counts as full. Else prove '..UptoSaid'. A law counts once. -/
mutual
def uptoBulk {H : Type} : DataW H → Nat
  | .lit (.string bytes) => bytes.length + 1
  | .lit _ => 1
  | .nil => 1
  | .ptr d => uptoBulk d + 1
  | .slice elems spare => uptoBulkAll elems + uptoBulkAll spare + 1
  | .agg parts => uptoBulkAll parts + 1
  | .iface _ d => uptoBulk d + 1
  | .map entries => uptoBulkEntries entries + 1
  | .held _ => 1
def uptoBulkAll {H : Type} : List (DataW H) → Nat
  | [] => 0
  | d :: r => uptoBulk d + uptoBulkAll r
def uptoBulkEntries {H : Type} : List (Lit × DataW H) → Nat
  | [] => 0
  | x :: r => uptoBulkEntry x + uptoBulkEntries r
def uptoBulkEntry {H : Type} : Lit × DataW H → Nat
  | (.string bytes, d) => bytes.length + uptoBulk d + 1
  | (_, d) => uptoBulk d + 1
 end
def uptoSmall : (H : Type) → List (DataW H) → Bool := fun _ ds => decide (uptoBulkAll ds ≤ 1048576)
def OpenSpec.upto (s : _root_.Go.ChangeSpec) : _root_.Go.OpenSpec := { _root_.Go.OpenSpec.ofChange s with cond := some uptoSmall }

/-- 'escrowlaw07.WireDecodes', WHERE WHAT IT READS IS OF BULK AT MOST 1048576: true; the input reads as it did. -/
def wireDecodesUptoRow : OpenClaim := { program := "ytcldldjildmdlaagreat", sum := "e315cb97f4cbc37e79ee9cfe5b39ec3e8a32038098bc50dd1250f8158c8ab610", func := "escrow/escrowlaw07.WireDecodes", spec := "wireDecodes", unfollowed := true, recurses := true, loops := true, plainKeys := false, apart := false, narrowed := true }
def WireDecodesUptoSaid : Prop := wireDecodesUptoRow.holds Tryz.pinned (OpenSpec.upto wireDecodesSpec)

/-- 'escrowlaw08.DeducePlays', WHERE WHAT IT READS IS OF BULK AT MOST 1048576: true; the input reads as it did. -/
def deducePlaysUptoRow : OpenClaim := { program := "ytcldldjildmdlaagreat", sum := "e315cb97f4cbc37e79ee9cfe5b39ec3e8a32038098bc50dd1250f8158c8ab610", func := "escrow/escrowlaw08.DeducePlays", spec := "deducePlays", inPlace := ["maps.clone"], unfollowed := true, recurses := true, loops := true, plainKeys := false, apart := false, narrowed := true }
def DeducePlaysUptoSaid : Prop := deducePlaysUptoRow.holds Tryz.pinned (OpenSpec.upto deducePlaysSpec)

end Rows
end Go.Proofs.YtcldldjildmdlaaGreat
