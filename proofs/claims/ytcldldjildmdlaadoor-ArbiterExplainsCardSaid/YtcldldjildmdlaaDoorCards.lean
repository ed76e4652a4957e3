/-
  DERIVED. GIVEN WITH THE SEED: THE CARDS: each row of YtcldldjildmdlaaDoorRows.lean that lists a variable, with what it lists TIED to the program's text (the seventh form; the later family's looks); each row that meets fmt, with fmt's text TOLD by the authors' own Lean function (tested against real Go, not proved from fmt's source: count such statements apart). THE CARD IS WHAT COUNTS. Prove the row's statement (the work); the ties are given (YtcldldjildmdlaaDoorTie.lean); close each card by the builder's one call (the guide's Derived/Test/ToyasCard.lean, 'card_holds'). Laid BY PROGRAM, IN A SANDBOX (cutbox-door.mjs). By AI agents, Wed Nov 11 2026. No macro, syntax, notation, axiom, sorry.
-/
import Derived.Test.YtcldldjildmdlaaDoorRows
import GoSem.ClaimSeven
namespace Go.Proofs.YtcldldjildmdlaaDoor
namespace Rows

/-- THE TIED CARD OF 'escrowlaw13.ArbiterExplains'. -/
def arbiterExplainsCard : Claim7 := { stood := { row := arbiterExplainsRow, standIns := [], harness := (true, "0088c31cfd1a9f6b0883a348d4d910794d0d4c4eff0d5028d7d4cad71074218f"), looks := false }, kinds := [], alts := [], laidByText := true, laidKinds := [.data, .data, .data], laidTests := true, laidLooks := .later }
def ArbiterExplainsCardSaid : Prop := Claim7.holds Tryd.pinned (.plain (OpenSpec.ofChange arbiterExplainsSpec)) arbiterExplainsCard

/-- THE SECOND FORM's CARD OF 'escrowlaw13.ArbiterExplains'. -/
def arbiterExplainsUptoCard : Claim7 := { stood := { row := arbiterExplainsUptoRow, standIns := [], harness := (true, "0088c31cfd1a9f6b0883a348d4d910794d0d4c4eff0d5028d7d4cad71074218f"), looks := false }, kinds := [], alts := [], laidByText := true, laidKinds := [.data, .data, .data], laidTests := true, laidLooks := .later }
def ArbiterExplainsUptoCardSaid : Prop := Claim7.holds Tryd.pinned (.plain (OpenSpec.upto arbiterExplainsSpec)) arbiterExplainsUptoCard
end Rows
end Go.Proofs.YtcldldjildmdlaaDoor
