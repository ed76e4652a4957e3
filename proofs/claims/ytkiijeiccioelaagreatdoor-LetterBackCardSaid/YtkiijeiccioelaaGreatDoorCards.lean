/-
  DERIVED. GIVEN WITH THE SEED: THE CARDS: each row of YtkiijeiccioelaaGreatDoorRows.lean that lists a variable, with what it lists TIED to the program's text (the seventh form; the later family's looks); each row that meets fmt, with fmt's text TOLD by the authors' own Lean function (tested against real Go, not proved from fmt's source: count such statements apart). THE CARD IS WHAT COUNTS. Prove the row's statement (the work); the ties are given (YtkiijeiccioelaaGreatDoorTie.lean); close each card by the builder's one call (the guide's Derived/Test/ToyasCard.lean, 'card_holds'). Laid BY PROGRAM, IN A SANDBOX (cutbox-door.mjs). By AI agents, Wed Nov 11 2026. No macro, syntax, notation, axiom, sorry.
-/
import Derived.Test.YtkiijeiccioelaaGreatDoorRows
import GoSem.ClaimSeven
namespace Go.Proofs.YtkiijeiccioelaaGreatDoor
namespace Rows

/-- THE TIED CARD OF 'escrowlaw11.LetterBack'. -/
def letterBackCard : Claim7 := { stood := { row := letterBackRow, standIns := [], harness := (true, "7db16995bde99a2792f6a940e72dc8be9870137b7661bd4e8fd713e987c3f858"), looks := true }, kinds := [], alts := [], laidByText := true, laidKinds := [.data, .data, .data, .sentinel, .sentinel], laidTests := true, laidLooks := .later }
def LetterBackCardSaid : Prop := Claim7.holds Tryz.pinned (.plain (OpenSpec.ofChange letterBackSpec)) letterBackCard

/-- THE SECOND FORM's CARD OF 'escrowlaw11.LetterBack'. -/
def letterBackUptoCard : Claim7 := { stood := { row := letterBackUptoRow, standIns := [], harness := (true, "7db16995bde99a2792f6a940e72dc8be9870137b7661bd4e8fd713e987c3f858"), looks := true }, kinds := [], alts := [], laidByText := true, laidKinds := [.data, .data, .data, .sentinel, .sentinel], laidTests := true, laidLooks := .later }
def LetterBackUptoCardSaid : Prop := Claim7.holds Tryz.pinned (.plain (OpenSpec.upto letterBackSpec)) letterBackUptoCard
end Rows
end Go.Proofs.YtkiijeiccioelaaGreatDoor
