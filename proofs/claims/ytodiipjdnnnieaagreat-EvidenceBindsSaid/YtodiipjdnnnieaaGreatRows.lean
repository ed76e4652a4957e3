/-
  NARROWER THAN 'FOR EVERY INPUT', by the rows' own cells (each row's printed sentence says how): EvidenceMore: loops · EvidenceAll: loops · EvidenceBinds: loops · EvidenceOf: loops · EvidenceMakes: loops.
  DERIVED. THE GIVEN ROWS OF THIS SEAT. 9 by the template 'for every input the law returns true; each argument reads behind the call as it read before'; 0 by the template 'total and deterministic' (their statements: YtodiipjdnnnieaaGreatTotals.lean).
  GIVEN WITH THE SEED: the statements are not yours to turn. If you find one false, say at which input.
  Laid BY PROGRAM, IN A SANDBOX (cutbox-rows.mjs): the forced cells as the released guide's own fill.sh prints them over the translation 11067075b49d6aab… (all of the seat's roots in one cut). By AI agents, Wed Nov 11 2026. No macro, syntax, notation, axiom, sorry.
-/
import Derived.Test.YtodiipjdnnnieaaGreatChecked
import GoSem.Claim
import GoSem.ClaimJoined
import GoSem.ClaimMapViews
import Derived.JoinedTies
import Derived.KernelRfl
namespace Go.Proofs.YtodiipjdnnnieaaGreat
/- THE CELL 'sum', in the pinned program and in every row, IS THE sha256 OF THE DUMP (.gsa) THAT YtodiipjdnnnieaaGreatProg.lean LOADS. Nothing in Lean hashes anything: it is a label: what it is worth is what the hold of that sum in a sandbox is worth. -/
noncomputable def Tryz.pinned : Pinned := { name := "ytodiipjdnnnieaagreat", sum := "11067075b49d6aab8686b2f39cebc57e6b6596d5658c16bbfd4c301cd22d7fe1", checked := Tryz.checked }
namespace Rows
def none {H : Type} : Left H := { results := [], args := [] }

/-- 'escrowlaw23.FoeReaches': WHATEVER THE INPUT: true; the input reads as it did. -/
def foeReachesSpec : ChangeSpec := { name := "foeReaches", fn := fun _ => fun
  | [d1, d2] => { results := [.lit (.bool true)], args := [d1, d2] }
  | _ => none }
def foeReachesRow : OpenClaim := { program := "ytodiipjdnnnieaagreat", sum := "11067075b49d6aab8686b2f39cebc57e6b6596d5658c16bbfd4c301cd22d7fe1", func := "escrow/escrowlaw23.FoeReaches", spec := "foeReaches", unfollowed := true, recurses := true, plainKeys := false, apart := false }
def FoeReachesSaid : Prop := foeReachesRow.holds Tryz.pinned (OpenSpec.ofChange foeReachesSpec)

/-- ITS FALSE NEIGHBOUR: 'it returns false'. Refute it at one input. -/
def foeReachesWrong : ChangeSpec := { name := "foeReaches", fn := fun _ => fun
  | [d1, d2] => { results := [.lit (.bool false)], args := [d1, d2] }
  | _ => none }
def FoeReachesWrongFalsely : Prop := foeReachesRow.holds Tryz.pinned (OpenSpec.ofChange foeReachesWrong)

/-- 'escrowlaw12.EvidenceMore': WHATEVER THE INPUT: true; the input reads as it did. -/
def evidenceMoreSpec : ChangeSpec := { name := "evidenceMore", fn := fun _ => fun
  | [d1, d2, d3] => { results := [.lit (.bool true)], args := [d1, d2, d3] }
  | _ => none }
def evidenceMoreRow : OpenClaim := { program := "ytodiipjdnnnieaagreat", sum := "11067075b49d6aab8686b2f39cebc57e6b6596d5658c16bbfd4c301cd22d7fe1", func := "escrow/escrowlaw12.EvidenceMore", spec := "evidenceMore", unfollowed := true, recurses := true, loops := true, plainKeys := false, apart := false }
def EvidenceMoreSaid : Prop := evidenceMoreRow.holds Tryz.pinned (OpenSpec.ofChange evidenceMoreSpec)

/-- ITS FALSE NEIGHBOUR: 'it returns false'. Refute it at one input. -/
def evidenceMoreWrong : ChangeSpec := { name := "evidenceMore", fn := fun _ => fun
  | [d1, d2, d3] => { results := [.lit (.bool false)], args := [d1, d2, d3] }
  | _ => none }
def EvidenceMoreWrongFalsely : Prop := evidenceMoreRow.holds Tryz.pinned (OpenSpec.ofChange evidenceMoreWrong)

/-- 'escrowlaw12.EvidenceNil': WHATEVER THE INPUT: true; the input reads as it did. -/
def evidenceNilSpec : ChangeSpec := { name := "evidenceNil", fn := fun _ => fun
  | [] => { results := [.lit (.bool true)], args := [] }
  | _ => none }
def evidenceNilRow : OpenClaim := { program := "ytodiipjdnnnieaagreat", sum := "11067075b49d6aab8686b2f39cebc57e6b6596d5658c16bbfd4c301cd22d7fe1", func := "escrow/escrowlaw12.EvidenceNil", spec := "evidenceNil", unfollowed := true, recurses := true, plainKeys := false, apart := false }
def EvidenceNilSaid : Prop := evidenceNilRow.holds Tryz.pinned (OpenSpec.ofChange evidenceNilSpec)

/-- ITS FALSE NEIGHBOUR: 'it returns false'. Refute it at one input. -/
def evidenceNilWrong : ChangeSpec := { name := "evidenceNil", fn := fun _ => fun
  | [] => { results := [.lit (.bool false)], args := [] }
  | _ => none }
def EvidenceNilWrongFalsely : Prop := evidenceNilRow.holds Tryz.pinned (OpenSpec.ofChange evidenceNilWrong)

/-- 'escrowlaw12.EvidenceAll': WHATEVER THE INPUT: true; the input reads as it did. -/
def evidenceAllSpec : ChangeSpec := { name := "evidenceAll", fn := fun _ => fun
  | [d1, d2] => { results := [.lit (.bool true)], args := [d1, d2] }
  | _ => none }
def evidenceAllRow : OpenClaim := { program := "ytodiipjdnnnieaagreat", sum := "11067075b49d6aab8686b2f39cebc57e6b6596d5658c16bbfd4c301cd22d7fe1", func := "escrow/escrowlaw12.EvidenceAll", spec := "evidenceAll", unfollowed := true, recurses := true, loops := true, plainKeys := false, apart := false }
def EvidenceAllSaid : Prop := evidenceAllRow.holds Tryz.pinned (OpenSpec.ofChange evidenceAllSpec)

/-- ITS FALSE NEIGHBOUR: 'it returns false'. Refute it at one input. -/
def evidenceAllWrong : ChangeSpec := { name := "evidenceAll", fn := fun _ => fun
  | [d1, d2] => { results := [.lit (.bool false)], args := [d1, d2] }
  | _ => none }
def EvidenceAllWrongFalsely : Prop := evidenceAllRow.holds Tryz.pinned (OpenSpec.ofChange evidenceAllWrong)

/-- 'escrowlaw12.EvidenceOrder': WHATEVER THE INPUT: true; the input reads as it did. -/
def evidenceOrderSpec : ChangeSpec := { name := "evidenceOrder", fn := fun _ => fun
  | [d] => { results := [.lit (.bool true)], args := [d] }
  | _ => none }
def evidenceOrderRow : OpenClaim := { program := "ytodiipjdnnnieaagreat", sum := "11067075b49d6aab8686b2f39cebc57e6b6596d5658c16bbfd4c301cd22d7fe1", func := "escrow/escrowlaw12.EvidenceOrder", spec := "evidenceOrder", unfollowed := true, recurses := true, plainKeys := false, apart := false }
def EvidenceOrderSaid : Prop := evidenceOrderRow.holds Tryz.pinned (OpenSpec.ofChange evidenceOrderSpec)

/-- ITS FALSE NEIGHBOUR: 'it returns false'. Refute it at one input. -/
def evidenceOrderWrong : ChangeSpec := { name := "evidenceOrder", fn := fun _ => fun
  | [d] => { results := [.lit (.bool false)], args := [d] }
  | _ => none }
def EvidenceOrderWrongFalsely : Prop := evidenceOrderRow.holds Tryz.pinned (OpenSpec.ofChange evidenceOrderWrong)

/-- 'escrowlaw12.EvidenceBinds': WHATEVER THE INPUT: true; the input reads as it did. -/
def evidenceBindsSpec : ChangeSpec := { name := "evidenceBinds", fn := fun _ => fun
  | [d1, d2] => { results := [.lit (.bool true)], args := [d1, d2] }
  | _ => none }
def evidenceBindsRow : OpenClaim := { program := "ytodiipjdnnnieaagreat", sum := "11067075b49d6aab8686b2f39cebc57e6b6596d5658c16bbfd4c301cd22d7fe1", func := "escrow/escrowlaw12.EvidenceBinds", spec := "evidenceBinds", unfollowed := true, recurses := true, loops := true, plainKeys := false, apart := false }
def EvidenceBindsSaid : Prop := evidenceBindsRow.holds Tryz.pinned (OpenSpec.ofChange evidenceBindsSpec)

/-- ITS FALSE NEIGHBOUR: 'it returns false'. Refute it at one input. -/
def evidenceBindsWrong : ChangeSpec := { name := "evidenceBinds", fn := fun _ => fun
  | [d1, d2] => { results := [.lit (.bool false)], args := [d1, d2] }
  | _ => none }
def EvidenceBindsWrongFalsely : Prop := evidenceBindsRow.holds Tryz.pinned (OpenSpec.ofChange evidenceBindsWrong)

/-- 'escrowlaw12.EvidenceOf': WHATEVER THE INPUT: true; the input reads as it did. -/
def evidenceOfSpec : ChangeSpec := { name := "evidenceOf", fn := fun _ => fun
  | [d] => { results := [.lit (.bool true)], args := [d] }
  | _ => none }
def evidenceOfRow : OpenClaim := { program := "ytodiipjdnnnieaagreat", sum := "11067075b49d6aab8686b2f39cebc57e6b6596d5658c16bbfd4c301cd22d7fe1", func := "escrow/escrowlaw12.EvidenceOf", spec := "evidenceOf", unfollowed := true, recurses := true, loops := true, plainKeys := false, apart := false }
def EvidenceOfSaid : Prop := evidenceOfRow.holds Tryz.pinned (OpenSpec.ofChange evidenceOfSpec)

/-- ITS FALSE NEIGHBOUR: 'it returns false'. Refute it at one input. -/
def evidenceOfWrong : ChangeSpec := { name := "evidenceOf", fn := fun _ => fun
  | [d] => { results := [.lit (.bool false)], args := [d] }
  | _ => none }
def EvidenceOfWrongFalsely : Prop := evidenceOfRow.holds Tryz.pinned (OpenSpec.ofChange evidenceOfWrong)

/-- 'escrowlaw12.EvidenceMakes': WHATEVER THE INPUT: true; the input reads as it did. -/
def evidenceMakesSpec : ChangeSpec := { name := "evidenceMakes", fn := fun _ => fun
  | [d] => { results := [.lit (.bool true)], args := [d] }
  | _ => none }
def evidenceMakesRow : OpenClaim := { program := "ytodiipjdnnnieaagreat", sum := "11067075b49d6aab8686b2f39cebc57e6b6596d5658c16bbfd4c301cd22d7fe1", func := "escrow/escrowlaw12.EvidenceMakes", spec := "evidenceMakes", unfollowed := true, recurses := true, loops := true, plainKeys := false, apart := false }
def EvidenceMakesSaid : Prop := evidenceMakesRow.holds Tryz.pinned (OpenSpec.ofChange evidenceMakesSpec)

/-- ITS FALSE NEIGHBOUR: 'it returns false'. Refute it at one input. -/
def evidenceMakesWrong : ChangeSpec := { name := "evidenceMakes", fn := fun _ => fun
  | [d] => { results := [.lit (.bool false)], args := [d] }
  | _ => none }
def EvidenceMakesWrongFalsely : Prop := evidenceMakesRow.holds Tryz.pinned (OpenSpec.ofChange evidenceMakesWrong)

/-- 'escrowlaw23.FoeSays': WHATEVER THE INPUT: true; the input reads as it did. -/
def foeSaysSpec : ChangeSpec := { name := "foeSays", fn := fun _ => fun
  | [d1, d2, d3] => { results := [.lit (.bool true)], args := [d1, d2, d3] }
  | _ => none }
def foeSaysRow : OpenClaim := { program := "ytodiipjdnnnieaagreat", sum := "11067075b49d6aab8686b2f39cebc57e6b6596d5658c16bbfd4c301cd22d7fe1", func := "escrow/escrowlaw23.FoeSays", spec := "foeSays", unfollowed := true, recurses := true, plainKeys := false, apart := false }
def FoeSaysSaid : Prop := foeSaysRow.holds Tryz.pinned (OpenSpec.ofChange foeSaysSpec)

/-- ITS FALSE NEIGHBOUR: 'it returns false'. Refute it at one input. -/
def foeSaysWrong : ChangeSpec := { name := "foeSays", fn := fun _ => fun
  | [d1, d2, d3] => { results := [.lit (.bool false)], args := [d1, d2, d3] }
  | _ => none }
def FoeSaysWrongFalsely : Prop := foeSaysRow.holds Tryz.pinned (OpenSpec.ofChange foeSaysWrong)

/- THE SECOND FORM. 'bulk': how many values and letters a reading holds, each counted each time it is reached (what is shared counts as often as it is met; a slice's spare places count too). A statement '..UptoSaid' is the law's where the arguments, and the package variables that the reading takes, are together of bulk at most 1048576: NARROWER than '..Said'. Prove '..Said' where nothing that the law and all that it calls make is longer than what came in: it says more and counts as full. Else prove '..UptoSaid'. A law counts once. -/
mutual
def uptoBulk {H : Type} : DataW H → Nat
  | .lit (.string bytes) => bytes.length + 1
  | .lit _ => 1
  | .nil => 1
  | .ptr d => uptoBulk d + 1
  | .slice elems spare => uptoBulkAll elems + uptoBulkAll spare + 1
  | .agg parts => uptoBulkAll parts + 1
  | .iface _ d => uptoBulk d + 1
  | .map entries => uptoBulkEntries entries + 1
  | .held _ => 1
def uptoBulkAll {H : Type} : List (DataW H) → Nat
  | [] => 0
  | d :: r => uptoBulk d + uptoBulkAll r
def uptoBulkEntries {H : Type} : List (Lit × DataW H) → Nat
  | [] => 0
  | x :: r => uptoBulkEntry x + uptoBulkEntries r
def uptoBulkEntry {H : Type} : Lit × DataW H → Nat
  | (.string bytes, d) => bytes.length + uptoBulk d + 1
  | (_, d) => uptoBulk d + 1
 end
def uptoSmall : (H : Type) → List (DataW H) → Bool := fun _ ds => decide (uptoBulkAll ds ≤ 1048576)
def OpenSpec.upto (s : _root_.Go.ChangeSpec) : _root_.Go.OpenSpec := { _root_.Go.OpenSpec.ofChange s with cond := some uptoSmall }

/-- 'escrowlaw23.FoeReaches', WHERE WHAT IT READS IS OF BULK AT MOST 1048576: true; the input reads as it did. -/
def foeReachesUptoRow : OpenClaim := { program := "ytodiipjdnnnieaagreat", sum := "11067075b49d6aab8686b2f39cebc57e6b6596d5658c16bbfd4c301cd22d7fe1", func := "escrow/escrowlaw23.FoeReaches", spec := "foeReaches", unfollowed := true, recurses := true, plainKeys := false, apart := false, narrowed := true }
def FoeReachesUptoSaid : Prop := foeReachesUptoRow.holds Tryz.pinned (OpenSpec.upto foeReachesSpec)

/-- 'escrowlaw12.EvidenceMore', WHERE WHAT IT READS IS OF BULK AT MOST 1048576: true; the input reads as it did. -/
def evidenceMoreUptoRow : OpenClaim := { program := "ytodiipjdnnnieaagreat", sum := "11067075b49d6aab8686b2f39cebc57e6b6596d5658c16bbfd4c301cd22d7fe1", func := "escrow/escrowlaw12.EvidenceMore", spec := "evidenceMore", unfollowed := true, recurses := true, loops := true, plainKeys := false, apart := false, narrowed := true }
def EvidenceMoreUptoSaid : Prop := evidenceMoreUptoRow.holds Tryz.pinned (OpenSpec.upto evidenceMoreSpec)

/-- 'escrowlaw12.EvidenceNil', WHERE WHAT IT READS IS OF BULK AT MOST 1048576: true; the input reads as it did. -/
def evidenceNilUptoRow : OpenClaim := { program := "ytodiipjdnnnieaagreat", sum := "11067075b49d6aab8686b2f39cebc57e6b6596d5658c16bbfd4c301cd22d7fe1", func := "escrow/escrowlaw12.EvidenceNil", spec := "evidenceNil", unfollowed := true, recurses := true, plainKeys := false, apart := false, narrowed := true }
def EvidenceNilUptoSaid : Prop := evidenceNilUptoRow.holds Tryz.pinned (OpenSpec.upto evidenceNilSpec)

/-- 'escrowlaw12.EvidenceAll', WHERE WHAT IT READS IS OF BULK AT MOST 1048576: true; the input reads as it did. -/
def evidenceAllUptoRow : OpenClaim := { program := "ytodiipjdnnnieaagreat", sum := "11067075b49d6aab8686b2f39cebc57e6b6596d5658c16bbfd4c301cd22d7fe1", func := "escrow/escrowlaw12.EvidenceAll", spec := "evidenceAll", unfollowed := true, recurses := true, loops := true, plainKeys := false, apart := false, narrowed := true }
def EvidenceAllUptoSaid : Prop := evidenceAllUptoRow.holds Tryz.pinned (OpenSpec.upto evidenceAllSpec)

/-- 'escrowlaw12.EvidenceOrder', WHERE WHAT IT READS IS OF BULK AT MOST 1048576: true; the input reads as it did. -/
def evidenceOrderUptoRow : OpenClaim := { program := "ytodiipjdnnnieaagreat", sum := "11067075b49d6aab8686b2f39cebc57e6b6596d5658c16bbfd4c301cd22d7fe1", func := "escrow/escrowlaw12.EvidenceOrder", spec := "evidenceOrder", unfollowed := true, recurses := true, plainKeys := false, apart := false, narrowed := true }
def EvidenceOrderUptoSaid : Prop := evidenceOrderUptoRow.holds Tryz.pinned (OpenSpec.upto evidenceOrderSpec)

/-- 'escrowlaw12.EvidenceBinds', WHERE WHAT IT READS IS OF BULK AT MOST 1048576: true; the input reads as it did. -/
def evidenceBindsUptoRow : OpenClaim := { program := "ytodiipjdnnnieaagreat", sum := "11067075b49d6aab8686b2f39cebc57e6b6596d5658c16bbfd4c301cd22d7fe1", func := "escrow/escrowlaw12.EvidenceBinds", spec := "evidenceBinds", unfollowed := true, recurses := true, loops := true, plainKeys := false, apart := false, narrowed := true }
def EvidenceBindsUptoSaid : Prop := evidenceBindsUptoRow.holds Tryz.pinned (OpenSpec.upto evidenceBindsSpec)

/-- 'escrowlaw12.EvidenceOf', WHERE WHAT IT READS IS OF BULK AT MOST 1048576: true; the input reads as it did. -/
def evidenceOfUptoRow : OpenClaim := { program := "ytodiipjdnnnieaagreat", sum := "11067075b49d6aab8686b2f39cebc57e6b6596d5658c16bbfd4c301cd22d7fe1", func := "escrow/escrowlaw12.EvidenceOf", spec := "evidenceOf", unfollowed := true, recurses := true, loops := true, plainKeys := false, apart := false, narrowed := true }
def EvidenceOfUptoSaid : Prop := evidenceOfUptoRow.holds Tryz.pinned (OpenSpec.upto evidenceOfSpec)

/-- 'escrowlaw12.EvidenceMakes', WHERE WHAT IT READS IS OF BULK AT MOST 1048576: true; the input reads as it did. -/
def evidenceMakesUptoRow : OpenClaim := { program := "ytodiipjdnnnieaagreat", sum := "11067075b49d6aab8686b2f39cebc57e6b6596d5658c16bbfd4c301cd22d7fe1", func := "escrow/escrowlaw12.EvidenceMakes", spec := "evidenceMakes", unfollowed := true, recurses := true, loops := true, plainKeys := false, apart := false, narrowed := true }
def EvidenceMakesUptoSaid : Prop := evidenceMakesUptoRow.holds Tryz.pinned (OpenSpec.upto evidenceMakesSpec)

/-- 'escrowlaw23.FoeSays', WHERE WHAT IT READS IS OF BULK AT MOST 1048576: true; the input reads as it did. -/
def foeSaysUptoRow : OpenClaim := { program := "ytodiipjdnnnieaagreat", sum := "11067075b49d6aab8686b2f39cebc57e6b6596d5658c16bbfd4c301cd22d7fe1", func := "escrow/escrowlaw23.FoeSays", spec := "foeSays", unfollowed := true, recurses := true, plainKeys := false, apart := false, narrowed := true }
def FoeSaysUptoSaid : Prop := foeSaysUptoRow.holds Tryz.pinned (OpenSpec.upto foeSaysSpec)

end Rows
end Go.Proofs.YtodiipjdnnnieaaGreat
