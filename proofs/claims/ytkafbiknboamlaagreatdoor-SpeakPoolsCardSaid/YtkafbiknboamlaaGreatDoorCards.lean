/-
  DERIVED. GIVEN WITH THE SEED: THE CARDS: each row of YtkafbiknboamlaaGreatDoorRows.lean that lists a variable, with what it lists TIED to the program's text (the seventh form; the later family's looks); each row that meets fmt, with fmt's text TOLD by the authors' own Lean function (tested against real Go, not proved from fmt's source: count such statements apart). THE CARD IS WHAT COUNTS. Prove the row's statement (the work); the ties are given (YtkafbiknboamlaaGreatDoorTie.lean); close each card by the builder's one call (the guide's Derived/Test/ToyasCard.lean, 'card_holds'). Laid BY PROGRAM, IN A SANDBOX (cutbox-door.mjs). By AI agents, Wed Nov 11 2026. No macro, syntax, notation, axiom, sorry.
-/
import Derived.Test.YtkafbiknboamlaaGreatDoorRows
import GoSem.ClaimSeven
namespace Go.Proofs.YtkafbiknboamlaaGreatDoor
namespace Rows

/-- THE TIED CARD OF 'escrowlaw06.SpeakPools'. -/
def speakPoolsCard : Claim7 := { stood := { row := speakPoolsRow, standIns := [], harness := (true, "4f776dc674820cb18d6276dbbf3048a2b8c04d60b608ec1645a705a9ac8f1837"), looks := true }, kinds := [], alts := [], laidByText := true, laidKinds := [.data, .data, .data, .sentinel, .sentinel], laidTests := true, laidLooks := .later }
def SpeakPoolsCardSaid : Prop := Claim7.holds Tryz.pinned (.plain (OpenSpec.ofChange speakPoolsSpec)) speakPoolsCard

/-- THE TIED CARD OF 'escrowlaw11.LetterBytes'. -/
def letterBytesCard : Claim7 := { stood := { row := letterBytesRow, standIns := [], harness := (true, "4f776dc674820cb18d6276dbbf3048a2b8c04d60b608ec1645a705a9ac8f1837"), looks := true }, kinds := [], alts := [], laidByText := true, laidKinds := [.data, .data, .data], laidTests := true, laidLooks := .later }
def LetterBytesCardSaid : Prop := Claim7.holds Tryz.pinned (.plain (OpenSpec.ofChange letterBytesSpec)) letterBytesCard

/-- THE TIED CARD OF 'escrowlaw11.LetterBuilds'. -/
def letterBuildsCard : Claim7 := { stood := { row := letterBuildsRow, standIns := [], harness := (true, "4f776dc674820cb18d6276dbbf3048a2b8c04d60b608ec1645a705a9ac8f1837"), looks := true }, kinds := [], alts := [], laidByText := true, laidKinds := [.data, .data, .data], laidTests := true, laidLooks := .later }
def LetterBuildsCardSaid : Prop := Claim7.holds Tryz.pinned (.plain (OpenSpec.ofChange letterBuildsSpec)) letterBuildsCard

/-- THE TIED CARD OF 'escrowlaw11.LetterReads'. -/
def letterReadsCard : Claim7 := { stood := { row := letterReadsRow, standIns := [], harness := (true, "4f776dc674820cb18d6276dbbf3048a2b8c04d60b608ec1645a705a9ac8f1837"), looks := true }, kinds := [], alts := [], laidByText := true, laidKinds := [.data, .data, .data], laidTests := true, laidLooks := .later }
def LetterReadsCardSaid : Prop := Claim7.holds Tryz.pinned (.plain (OpenSpec.ofChange letterReadsSpec)) letterReadsCard

/-- THE TIED CARD OF 'escrowlaw11.LetterNil'. -/
def letterNilCard : Claim7 := { stood := { row := letterNilRow, standIns := [], harness := (true, "4f776dc674820cb18d6276dbbf3048a2b8c04d60b608ec1645a705a9ac8f1837"), looks := true }, kinds := [], alts := [], laidByText := true, laidKinds := [.data, .data, .data], laidTests := true, laidLooks := .later }
def LetterNilCardSaid : Prop := Claim7.holds Tryz.pinned (.plain (OpenSpec.ofChange letterNilSpec)) letterNilCard

/-- THE TIED CARD OF 'escrowlaw11.LetterBack'. -/
def letterBackCard : Claim7 := { stood := { row := letterBackRow, standIns := [], harness := (true, "4f776dc674820cb18d6276dbbf3048a2b8c04d60b608ec1645a705a9ac8f1837"), looks := true }, kinds := [], alts := [], laidByText := true, laidKinds := [.data, .data, .data, .sentinel, .sentinel], laidTests := true, laidLooks := .later }
def LetterBackCardSaid : Prop := Claim7.holds Tryz.pinned (.plain (OpenSpec.ofChange letterBackSpec)) letterBackCard

/-- THE SECOND FORM's CARD OF 'escrowlaw06.SpeakPools'. -/
def speakPoolsUptoCard : Claim7 := { stood := { row := speakPoolsUptoRow, standIns := [], harness := (true, "4f776dc674820cb18d6276dbbf3048a2b8c04d60b608ec1645a705a9ac8f1837"), looks := true }, kinds := [], alts := [], laidByText := true, laidKinds := [.data, .data, .data, .sentinel, .sentinel], laidTests := true, laidLooks := .later }
def SpeakPoolsUptoCardSaid : Prop := Claim7.holds Tryz.pinned (.plain (OpenSpec.upto speakPoolsSpec)) speakPoolsUptoCard

/-- THE SECOND FORM's CARD OF 'escrowlaw11.LetterBytes'. -/
def letterBytesUptoCard : Claim7 := { stood := { row := letterBytesUptoRow, standIns := [], harness := (true, "4f776dc674820cb18d6276dbbf3048a2b8c04d60b608ec1645a705a9ac8f1837"), looks := true }, kinds := [], alts := [], laidByText := true, laidKinds := [.data, .data, .data], laidTests := true, laidLooks := .later }
def LetterBytesUptoCardSaid : Prop := Claim7.holds Tryz.pinned (.plain (OpenSpec.upto letterBytesSpec)) letterBytesUptoCard

/-- THE SECOND FORM's CARD OF 'escrowlaw11.LetterBuilds'. -/
def letterBuildsUptoCard : Claim7 := { stood := { row := letterBuildsUptoRow, standIns := [], harness := (true, "4f776dc674820cb18d6276dbbf3048a2b8c04d60b608ec1645a705a9ac8f1837"), looks := true }, kinds := [], alts := [], laidByText := true, laidKinds := [.data, .data, .data], laidTests := true, laidLooks := .later }
def LetterBuildsUptoCardSaid : Prop := Claim7.holds Tryz.pinned (.plain (OpenSpec.upto letterBuildsSpec)) letterBuildsUptoCard

/-- THE SECOND FORM's CARD OF 'escrowlaw11.LetterReads'. -/
def letterReadsUptoCard : Claim7 := { stood := { row := letterReadsUptoRow, standIns := [], harness := (true, "4f776dc674820cb18d6276dbbf3048a2b8c04d60b608ec1645a705a9ac8f1837"), looks := true }, kinds := [], alts := [], laidByText := true, laidKinds := [.data, .data, .data], laidTests := true, laidLooks := .later }
def LetterReadsUptoCardSaid : Prop := Claim7.holds Tryz.pinned (.plain (OpenSpec.upto letterReadsSpec)) letterReadsUptoCard

/-- THE SECOND FORM's CARD OF 'escrowlaw11.LetterNil'. -/
def letterNilUptoCard : Claim7 := { stood := { row := letterNilUptoRow, standIns := [], harness := (true, "4f776dc674820cb18d6276dbbf3048a2b8c04d60b608ec1645a705a9ac8f1837"), looks := true }, kinds := [], alts := [], laidByText := true, laidKinds := [.data, .data, .data], laidTests := true, laidLooks := .later }
def LetterNilUptoCardSaid : Prop := Claim7.holds Tryz.pinned (.plain (OpenSpec.upto letterNilSpec)) letterNilUptoCard

/-- THE SECOND FORM's CARD OF 'escrowlaw11.LetterBack'. -/
def letterBackUptoCard : Claim7 := { stood := { row := letterBackUptoRow, standIns := [], harness := (true, "4f776dc674820cb18d6276dbbf3048a2b8c04d60b608ec1645a705a9ac8f1837"), looks := true }, kinds := [], alts := [], laidByText := true, laidKinds := [.data, .data, .data, .sentinel, .sentinel], laidTests := true, laidLooks := .later }
def LetterBackUptoCardSaid : Prop := Claim7.holds Tryz.pinned (.plain (OpenSpec.upto letterBackSpec)) letterBackUptoCard
end Rows
end Go.Proofs.YtkafbiknboamlaaGreatDoor
