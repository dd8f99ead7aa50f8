/-
  DERIVED. GIVEN WITH THE SEED: THE CARDS: each row of YtcloppcekbdbaaaDoorRows.lean that lists a variable, with what it lists TIED to the program's text (the seventh form; the later family's looks); each row that meets fmt, with fmt's text TOLD by the authors' own Lean function (tested against real Go, not proved from fmt's source: count such statements apart). THE CARD IS WHAT COUNTS. Prove the row's statement (the work); the ties are given (YtcloppcekbdbaaaDoorTie.lean); close each card by the builder's one call (the guide's Derived/Test/ToyasCard.lean, 'card_holds'). Laid BY PROGRAM, IN A SANDBOX (cutbox-door.mjs). By AI agents, Wed Nov 11 2026. No macro, syntax, notation, axiom, sorry.
-/
import Derived.Test.YtcloppcekbdbaaaDoorRows
import GoSem.ClaimSeven
namespace Go.Proofs.YtcloppcekbdbaaaDoor
namespace Rows

/-- THE TIED CARD OF 'vennlaw2.TextBack'. -/
def textBackCard : Claim7 := { stood := { row := textBackRow, standIns := [], harness := (true, "8c49d6ace743d938e3e8e7f9ed116985f67958594aef0efc6d3f88de69f8921f"), looks := true }, kinds := [], alts := [], laidByText := true, laidKinds := [.data, .data, .data, .data, .sentinel, .sentinel, .data, .data, .pinned], laidTests := true, laidLooks := .later }
def TextBackCardSaid : Prop := Claim7.holds Tryd.pinned (.plain (OpenSpec.ofChange textBackSpec)) textBackCard

/-- THE TIED CARD OF 'vennlaw1.AtomBack'. -/
def atomBackCard : Claim7 := { stood := { row := atomBackRow, standIns := [], harness := (true, "8c49d6ace743d938e3e8e7f9ed116985f67958594aef0efc6d3f88de69f8921f"), looks := true }, kinds := [], alts := [], laidByText := true, laidKinds := [.data, .data, .data, .data, .sentinel, .sentinel, .data, .pinned], laidTests := true, laidLooks := .later }
def AtomBackCardSaid : Prop := Claim7.holds Tryd.pinned (.plain (OpenSpec.ofChange atomBackSpec)) atomBackCard

/-- THE SECOND FORM's CARD OF 'vennlaw2.TextBack'. -/
def textBackUptoCard : Claim7 := { stood := { row := textBackUptoRow, standIns := [], harness := (true, "8c49d6ace743d938e3e8e7f9ed116985f67958594aef0efc6d3f88de69f8921f"), looks := true }, kinds := [], alts := [], laidByText := true, laidKinds := [.data, .data, .data, .data, .sentinel, .sentinel, .data, .data, .pinned], laidTests := true, laidLooks := .later }
def TextBackUptoCardSaid : Prop := Claim7.holds Tryd.pinned (.plain (OpenSpec.upto textBackSpec)) textBackUptoCard

/-- THE SECOND FORM's CARD OF 'vennlaw1.AtomBack'. -/
def atomBackUptoCard : Claim7 := { stood := { row := atomBackUptoRow, standIns := [], harness := (true, "8c49d6ace743d938e3e8e7f9ed116985f67958594aef0efc6d3f88de69f8921f"), looks := true }, kinds := [], alts := [], laidByText := true, laidKinds := [.data, .data, .data, .data, .sentinel, .sentinel, .data, .pinned], laidTests := true, laidLooks := .later }
def AtomBackUptoCardSaid : Prop := Claim7.holds Tryd.pinned (.plain (OpenSpec.upto atomBackSpec)) atomBackUptoCard
end Rows
end Go.Proofs.YtcloppcekbdbaaaDoor
