/-
  DERIVED. GIVEN WITH THE SEED: THE CARDS: each row of YtkafbiknboamlaaDoorRows.lean that lists a variable, with what it lists TIED to the program's text (the seventh form; the later family's looks); each row that meets fmt, with fmt's text TOLD by the authors' own Lean function (tested against real Go, not proved from fmt's source: count such statements apart). THE CARD IS WHAT COUNTS. Prove the row's statement (the work); the ties are given (YtkafbiknboamlaaDoorTie.lean); close each card by the builder's one call (the guide's Derived/Test/ToyasCard.lean, 'card_holds'). Laid BY PROGRAM, IN A SANDBOX (cutbox-door.mjs). By AI agents, Wed Nov 11 2026. No macro, syntax, notation, axiom, sorry.
-/
import Derived.Test.YtkafbiknboamlaaDoorRows
import GoSem.ClaimSeven
namespace Go.Proofs.YtkafbiknboamlaaDoor
namespace Rows

/-- THE TIED CARD OF 'escrowlaw06.SpeakShows'. -/
def speakShowsCard : Claim7 := { stood := { row := speakShowsRow, standIns := [], harness := (true, "b393b2dbd6022c40a9661ebea20a39d21c21cadcfec6f6d94862fde367496748"), looks := true }, kinds := [], alts := [], laidByText := true, laidKinds := [.data, .data, .data, .sentinel, .sentinel], laidTests := true, laidLooks := .later }
def SpeakShowsCardSaid : Prop := Claim7.holds Tryd.pinned (.plain (OpenSpec.ofChange speakShowsSpec)) speakShowsCard

/-- THE TIED CARD OF 'escrowlaw06.SpeakReads'. -/
def speakReadsCard : Claim7 := { stood := { row := speakReadsRow, standIns := [], harness := (true, "b393b2dbd6022c40a9661ebea20a39d21c21cadcfec6f6d94862fde367496748"), looks := true }, kinds := [], alts := [], laidByText := true, laidKinds := [.data, .data, .data, .sentinel, .sentinel], laidTests := true, laidLooks := .later }
def SpeakReadsCardSaid : Prop := Claim7.holds Tryd.pinned (.plain (OpenSpec.ofChange speakReadsSpec)) speakReadsCard

/-- THE TIED CARD OF 'escrowlaw06.SpeakBack'. -/
def speakBackCard : Claim7 := { stood := { row := speakBackRow, standIns := [], harness := (true, "b393b2dbd6022c40a9661ebea20a39d21c21cadcfec6f6d94862fde367496748"), looks := true }, kinds := [], alts := [], laidByText := true, laidKinds := [.data, .data, .data, .sentinel, .sentinel], laidTests := true, laidLooks := .later }
def SpeakBackCardSaid : Prop := Claim7.holds Tryd.pinned (.plain (OpenSpec.ofChange speakBackSpec)) speakBackCard

/-- THE TIED CARD OF 'escrowlaw06.SpeakBlanks'. -/
def speakBlanksCard : Claim7 := { stood := { row := speakBlanksRow, standIns := [], harness := (true, "b393b2dbd6022c40a9661ebea20a39d21c21cadcfec6f6d94862fde367496748"), looks := true }, kinds := [], alts := [], laidByText := true, laidKinds := [.data, .data, .data, .sentinel, .sentinel], laidTests := true, laidLooks := .later }
def SpeakBlanksCardSaid : Prop := Claim7.holds Tryd.pinned (.plain (OpenSpec.ofChange speakBlanksSpec)) speakBlanksCard

/-- THE SECOND FORM's CARD OF 'escrowlaw06.SpeakShows'. -/
def speakShowsUptoCard : Claim7 := { stood := { row := speakShowsUptoRow, standIns := [], harness := (true, "b393b2dbd6022c40a9661ebea20a39d21c21cadcfec6f6d94862fde367496748"), looks := true }, kinds := [], alts := [], laidByText := true, laidKinds := [.data, .data, .data, .sentinel, .sentinel], laidTests := true, laidLooks := .later }
def SpeakShowsUptoCardSaid : Prop := Claim7.holds Tryd.pinned (.plain (OpenSpec.upto speakShowsSpec)) speakShowsUptoCard

/-- THE SECOND FORM's CARD OF 'escrowlaw06.SpeakReads'. -/
def speakReadsUptoCard : Claim7 := { stood := { row := speakReadsUptoRow, standIns := [], harness := (true, "b393b2dbd6022c40a9661ebea20a39d21c21cadcfec6f6d94862fde367496748"), looks := true }, kinds := [], alts := [], laidByText := true, laidKinds := [.data, .data, .data, .sentinel, .sentinel], laidTests := true, laidLooks := .later }
def SpeakReadsUptoCardSaid : Prop := Claim7.holds Tryd.pinned (.plain (OpenSpec.upto speakReadsSpec)) speakReadsUptoCard

/-- THE SECOND FORM's CARD OF 'escrowlaw06.SpeakBack'. -/
def speakBackUptoCard : Claim7 := { stood := { row := speakBackUptoRow, standIns := [], harness := (true, "b393b2dbd6022c40a9661ebea20a39d21c21cadcfec6f6d94862fde367496748"), looks := true }, kinds := [], alts := [], laidByText := true, laidKinds := [.data, .data, .data, .sentinel, .sentinel], laidTests := true, laidLooks := .later }
def SpeakBackUptoCardSaid : Prop := Claim7.holds Tryd.pinned (.plain (OpenSpec.upto speakBackSpec)) speakBackUptoCard

/-- THE SECOND FORM's CARD OF 'escrowlaw06.SpeakBlanks'. -/
def speakBlanksUptoCard : Claim7 := { stood := { row := speakBlanksUptoRow, standIns := [], harness := (true, "b393b2dbd6022c40a9661ebea20a39d21c21cadcfec6f6d94862fde367496748"), looks := true }, kinds := [], alts := [], laidByText := true, laidKinds := [.data, .data, .data, .sentinel, .sentinel], laidTests := true, laidLooks := .later }
def SpeakBlanksUptoCardSaid : Prop := Claim7.holds Tryd.pinned (.plain (OpenSpec.upto speakBlanksSpec)) speakBlanksUptoCard
end Rows
end Go.Proofs.YtkafbiknboamlaaDoor
