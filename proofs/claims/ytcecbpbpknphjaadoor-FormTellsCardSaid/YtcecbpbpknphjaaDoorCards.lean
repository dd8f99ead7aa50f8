/-
  DERIVED. GIVEN WITH THE SEED: THE CARDS: each row of YtcecbpbpknphjaaDoorRows.lean that lists a variable, with what it lists TIED to the program's text (the seventh form; the later family's looks); each row that meets fmt, with fmt's text TOLD by the authors' own Lean function (tested against real Go, not proved from fmt's source: count such statements apart). THE CARD IS WHAT COUNTS. Prove the row's statement (the work); the ties are given (YtcecbpbpknphjaaDoorTie.lean); close each card by the builder's one call (the guide's Derived/Test/ToyasCard.lean, 'card_holds'). Laid BY PROGRAM, IN A SANDBOX (cutbox-door.mjs). By AI agents, Wed Nov 11 2026. No macro, syntax, notation, axiom, sorry.
-/
import Derived.Test.YtcecbpbpknphjaaDoorRows
import GoSem.ClaimSeven
namespace Go.Proofs.YtcecbpbpknphjaaDoor
namespace Rows

/-- THE TIED CARD OF 'vennlaw1.FormTurns'. -/
def formTurnsCard : Claim7 := { stood := { row := formTurnsRow, standIns := [], harness := (true, "0c6f84baa8e032f22918d62120de92865e88ffbab002deaa98e34508f307b9fb"), looks := true }, kinds := [], alts := [], laidByText := true, laidKinds := [.data], laidTests := true, laidLooks := .later }
def FormTurnsCardSaid : Prop := Claim7.holds Tryd.pinned (.plain (OpenSpec.ofChange formTurnsSpec)) formTurnsCard

/-- THE TIED CARD OF 'vennlaw2.SomeTells'. -/
def someTellsCard : Claim7 := { stood := { row := someTellsRow, standIns := [], harness := (true, "0c6f84baa8e032f22918d62120de92865e88ffbab002deaa98e34508f307b9fb"), looks := true }, kinds := [], alts := [], laidByText := true, laidKinds := [.handle, .data], laidTests := true, laidLooks := .later }
def SomeTellsCardSaid : Prop := Claim7.holds Tryd.pinned (.plain (OpenSpec.ofChange someTellsSpec)) someTellsCard

/-- THE TIED CARD OF 'vennlaw2.SpanTells'. -/
def spanTellsCard : Claim7 := { stood := { row := spanTellsRow, standIns := [], harness := (true, "0c6f84baa8e032f22918d62120de92865e88ffbab002deaa98e34508f307b9fb"), looks := true }, kinds := [], alts := [], laidByText := true, laidKinds := [.handle, .data], laidTests := true, laidLooks := .later }
def SpanTellsCardSaid : Prop := Claim7.holds Tryd.pinned (.plain (OpenSpec.ofChange spanTellsSpec)) spanTellsCard

/-- THE TIED CARD OF 'vennlaw1.FormTells'. -/
def formTellsCard : Claim7 := { stood := { row := formTellsRow, standIns := [], harness := (true, "0c6f84baa8e032f22918d62120de92865e88ffbab002deaa98e34508f307b9fb"), looks := true }, kinds := [], alts := [], laidByText := true, laidKinds := [.handle, .data], laidTests := true, laidLooks := .later }
def FormTellsCardSaid : Prop := Claim7.holds Tryd.pinned (.plain (OpenSpec.ofChange formTellsSpec)) formTellsCard

/-- THE TIED CARD OF 'vennlaw2.AskTells'. -/
def askTellsCard : Claim7 := { stood := { row := askTellsRow, standIns := [], harness := (true, "0c6f84baa8e032f22918d62120de92865e88ffbab002deaa98e34508f307b9fb"), looks := true }, kinds := [], alts := [], laidByText := true, laidKinds := [.handle, .data], laidTests := true, laidLooks := .later }
def AskTellsCardSaid : Prop := Claim7.holds Tryd.pinned (.plain (OpenSpec.ofChange askTellsSpec)) askTellsCard

/-- THE TIED CARD OF 'vennlaw2.CoreTells'. -/
def coreTellsCard : Claim7 := { stood := { row := coreTellsRow, standIns := [], harness := (true, "0c6f84baa8e032f22918d62120de92865e88ffbab002deaa98e34508f307b9fb"), looks := true }, kinds := [], alts := [], laidByText := true, laidKinds := [.handle, .data], laidTests := true, laidLooks := .later }
def CoreTellsCardSaid : Prop := Claim7.holds Tryd.pinned (.plain (OpenSpec.ofChange coreTellsSpec)) coreTellsCard

/-- THE TIED CARD OF 'vennlaw2.WorldsTell'. -/
def worldsTellCard : Claim7 := { stood := { row := worldsTellRow, standIns := [], harness := (true, "0c6f84baa8e032f22918d62120de92865e88ffbab002deaa98e34508f307b9fb"), looks := true }, kinds := [], alts := [], laidByText := true, laidKinds := [.handle, .data], laidTests := true, laidLooks := .later }
def WorldsTellCardSaid : Prop := Claim7.holds Tryd.pinned (.plain (OpenSpec.ofChange worldsTellSpec)) worldsTellCard

/-- THE TIED CARD OF 'vennlaw2.CoreEnough'. -/
def coreEnoughCard : Claim7 := { stood := { row := coreEnoughRow, standIns := [], harness := (true, "0c6f84baa8e032f22918d62120de92865e88ffbab002deaa98e34508f307b9fb"), looks := true }, kinds := [], alts := [], laidByText := true, laidKinds := [.handle, .data], laidTests := true, laidLooks := .later }
def CoreEnoughCardSaid : Prop := Claim7.holds Tryd.pinned (.plain (OpenSpec.ofChange coreEnoughSpec)) coreEnoughCard

/-- THE TIED CARD OF 'vennlaw4.TurnBack'. -/
def turnBackCard : Claim7 := { stood := { row := turnBackRow, standIns := [], harness := (true, "0c6f84baa8e032f22918d62120de92865e88ffbab002deaa98e34508f307b9fb"), looks := true }, kinds := [], alts := [], laidByText := true, laidKinds := [.data], laidTests := true, laidLooks := .later }
def TurnBackCardSaid : Prop := Claim7.holds Tryd.pinned (.plain (OpenSpec.ofChange turnBackSpec)) turnBackCard

/-- THE TIED CARD OF 'vennlaw2.TurnTells'. -/
def turnTellsCard : Claim7 := { stood := { row := turnTellsRow, standIns := [], harness := (true, "0c6f84baa8e032f22918d62120de92865e88ffbab002deaa98e34508f307b9fb"), looks := true }, kinds := [], alts := [], laidByText := true, laidKinds := [.handle, .data], laidTests := true, laidLooks := .later }
def TurnTellsCardSaid : Prop := Claim7.holds Tryd.pinned (.plain (OpenSpec.ofChange turnTellsSpec)) turnTellsCard

/-- THE TIED CARD OF 'vennlaw2.TurnSame'. -/
def turnSameCard : Claim7 := { stood := { row := turnSameRow, standIns := [], harness := (true, "0c6f84baa8e032f22918d62120de92865e88ffbab002deaa98e34508f307b9fb"), looks := true }, kinds := [], alts := [], laidByText := true, laidKinds := [.data], laidTests := true, laidLooks := .later }
def TurnSameCardSaid : Prop := Claim7.holds Tryd.pinned (.plain (OpenSpec.ofChange turnSameSpec)) turnSameCard

/-- THE SECOND FORM's CARD OF 'vennlaw1.FormTurns'. -/
def formTurnsUptoCard : Claim7 := { stood := { row := formTurnsUptoRow, standIns := [], harness := (true, "0c6f84baa8e032f22918d62120de92865e88ffbab002deaa98e34508f307b9fb"), looks := true }, kinds := [], alts := [], laidByText := true, laidKinds := [.data], laidTests := true, laidLooks := .later }
def FormTurnsUptoCardSaid : Prop := Claim7.holds Tryd.pinned (.plain (OpenSpec.upto formTurnsSpec)) formTurnsUptoCard

/-- THE SECOND FORM's CARD OF 'vennlaw2.SomeTells'. -/
def someTellsUptoCard : Claim7 := { stood := { row := someTellsUptoRow, standIns := [], harness := (true, "0c6f84baa8e032f22918d62120de92865e88ffbab002deaa98e34508f307b9fb"), looks := true }, kinds := [], alts := [], laidByText := true, laidKinds := [.handle, .data], laidTests := true, laidLooks := .later }
def SomeTellsUptoCardSaid : Prop := Claim7.holds Tryd.pinned (.plain (OpenSpec.upto someTellsSpec)) someTellsUptoCard

/-- THE SECOND FORM's CARD OF 'vennlaw2.SpanTells'. -/
def spanTellsUptoCard : Claim7 := { stood := { row := spanTellsUptoRow, standIns := [], harness := (true, "0c6f84baa8e032f22918d62120de92865e88ffbab002deaa98e34508f307b9fb"), looks := true }, kinds := [], alts := [], laidByText := true, laidKinds := [.handle, .data], laidTests := true, laidLooks := .later }
def SpanTellsUptoCardSaid : Prop := Claim7.holds Tryd.pinned (.plain (OpenSpec.upto spanTellsSpec)) spanTellsUptoCard

/-- THE SECOND FORM's CARD OF 'vennlaw1.FormTells'. -/
def formTellsUptoCard : Claim7 := { stood := { row := formTellsUptoRow, standIns := [], harness := (true, "0c6f84baa8e032f22918d62120de92865e88ffbab002deaa98e34508f307b9fb"), looks := true }, kinds := [], alts := [], laidByText := true, laidKinds := [.handle, .data], laidTests := true, laidLooks := .later }
def FormTellsUptoCardSaid : Prop := Claim7.holds Tryd.pinned (.plain (OpenSpec.upto formTellsSpec)) formTellsUptoCard

/-- THE SECOND FORM's CARD OF 'vennlaw2.AskTells'. -/
def askTellsUptoCard : Claim7 := { stood := { row := askTellsUptoRow, standIns := [], harness := (true, "0c6f84baa8e032f22918d62120de92865e88ffbab002deaa98e34508f307b9fb"), looks := true }, kinds := [], alts := [], laidByText := true, laidKinds := [.handle, .data], laidTests := true, laidLooks := .later }
def AskTellsUptoCardSaid : Prop := Claim7.holds Tryd.pinned (.plain (OpenSpec.upto askTellsSpec)) askTellsUptoCard

/-- THE SECOND FORM's CARD OF 'vennlaw2.CoreTells'. -/
def coreTellsUptoCard : Claim7 := { stood := { row := coreTellsUptoRow, standIns := [], harness := (true, "0c6f84baa8e032f22918d62120de92865e88ffbab002deaa98e34508f307b9fb"), looks := true }, kinds := [], alts := [], laidByText := true, laidKinds := [.handle, .data], laidTests := true, laidLooks := .later }
def CoreTellsUptoCardSaid : Prop := Claim7.holds Tryd.pinned (.plain (OpenSpec.upto coreTellsSpec)) coreTellsUptoCard

/-- THE SECOND FORM's CARD OF 'vennlaw2.WorldsTell'. -/
def worldsTellUptoCard : Claim7 := { stood := { row := worldsTellUptoRow, standIns := [], harness := (true, "0c6f84baa8e032f22918d62120de92865e88ffbab002deaa98e34508f307b9fb"), looks := true }, kinds := [], alts := [], laidByText := true, laidKinds := [.handle, .data], laidTests := true, laidLooks := .later }
def WorldsTellUptoCardSaid : Prop := Claim7.holds Tryd.pinned (.plain (OpenSpec.upto worldsTellSpec)) worldsTellUptoCard

/-- THE SECOND FORM's CARD OF 'vennlaw2.CoreEnough'. -/
def coreEnoughUptoCard : Claim7 := { stood := { row := coreEnoughUptoRow, standIns := [], harness := (true, "0c6f84baa8e032f22918d62120de92865e88ffbab002deaa98e34508f307b9fb"), looks := true }, kinds := [], alts := [], laidByText := true, laidKinds := [.handle, .data], laidTests := true, laidLooks := .later }
def CoreEnoughUptoCardSaid : Prop := Claim7.holds Tryd.pinned (.plain (OpenSpec.upto coreEnoughSpec)) coreEnoughUptoCard

/-- THE SECOND FORM's CARD OF 'vennlaw4.TurnBack'. -/
def turnBackUptoCard : Claim7 := { stood := { row := turnBackUptoRow, standIns := [], harness := (true, "0c6f84baa8e032f22918d62120de92865e88ffbab002deaa98e34508f307b9fb"), looks := true }, kinds := [], alts := [], laidByText := true, laidKinds := [.data], laidTests := true, laidLooks := .later }
def TurnBackUptoCardSaid : Prop := Claim7.holds Tryd.pinned (.plain (OpenSpec.upto turnBackSpec)) turnBackUptoCard

/-- THE SECOND FORM's CARD OF 'vennlaw2.TurnTells'. -/
def turnTellsUptoCard : Claim7 := { stood := { row := turnTellsUptoRow, standIns := [], harness := (true, "0c6f84baa8e032f22918d62120de92865e88ffbab002deaa98e34508f307b9fb"), looks := true }, kinds := [], alts := [], laidByText := true, laidKinds := [.handle, .data], laidTests := true, laidLooks := .later }
def TurnTellsUptoCardSaid : Prop := Claim7.holds Tryd.pinned (.plain (OpenSpec.upto turnTellsSpec)) turnTellsUptoCard

/-- THE SECOND FORM's CARD OF 'vennlaw2.TurnSame'. -/
def turnSameUptoCard : Claim7 := { stood := { row := turnSameUptoRow, standIns := [], harness := (true, "0c6f84baa8e032f22918d62120de92865e88ffbab002deaa98e34508f307b9fb"), looks := true }, kinds := [], alts := [], laidByText := true, laidKinds := [.data], laidTests := true, laidLooks := .later }
def TurnSameUptoCardSaid : Prop := Claim7.holds Tryd.pinned (.plain (OpenSpec.upto turnSameSpec)) turnSameUptoCard
end Rows
end Go.Proofs.YtcecbpbpknphjaaDoor
