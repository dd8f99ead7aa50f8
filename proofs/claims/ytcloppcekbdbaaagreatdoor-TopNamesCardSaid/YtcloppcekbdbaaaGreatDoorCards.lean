/-
  DERIVED. GIVEN WITH THE SEED: THE CARDS: each row of YtcloppcekbdbaaaGreatDoorRows.lean that lists a variable, with what it lists TIED to the program's text (the seventh form; the later family's looks); each row that meets fmt, with fmt's text TOLD by the authors' own Lean function (tested against real Go, not proved from fmt's source: count such statements apart). THE CARD IS WHAT COUNTS. Prove the row's statement (the work); the ties are given (YtcloppcekbdbaaaGreatDoorTie.lean); close each card by the builder's one call (the guide's Derived/Test/ToyasCard.lean, 'card_holds'). Laid BY PROGRAM, IN A SANDBOX (cutbox-door.mjs). By AI agents, Wed Nov 11 2026. No macro, syntax, notation, axiom, sorry.
-/
import Derived.Test.YtcloppcekbdbaaaGreatDoorRows
import GoSem.ClaimSeven
namespace Go.Proofs.YtcloppcekbdbaaaGreatDoor
namespace Rows

/-- THE TIED CARD OF 'venntop.TopSaid'. -/
def topSaidCard : Claim7 := { stood := { row := topSaidRow, standIns := [], harness := (true, "c06b5b59dcef6a6d0c80025406aba36daa922ef107be1fac7a08942ddd6db868"), looks := true }, kinds := [], alts := [], laidByText := true, laidKinds := [.data, .data, .data, .handle, .data], laidTests := true, laidLooks := .later }
def TopSaidCardSaid : Prop := Claim7.holds Tryz.pinned (.plain (OpenSpec.ofChange topSaidSpec)) topSaidCard

/-- THE TIED CARD OF 'vennlaw3.LogKeeps'. -/
def logKeepsCard : Claim7 := { stood := { row := logKeepsRow, standIns := [], harness := (true, "c06b5b59dcef6a6d0c80025406aba36daa922ef107be1fac7a08942ddd6db868"), looks := true }, kinds := [], alts := [], laidByText := true, laidKinds := [.data, .data, .data, .handle, .data], laidTests := true, laidLooks := .later }
def LogKeepsCardSaid : Prop := Claim7.holds Tryz.pinned (.plain (OpenSpec.ofChange logKeepsSpec)) logKeepsCard

/-- THE TIED CARD OF 'vennlaw3.LogStops'. -/
def logStopsCard : Claim7 := { stood := { row := logStopsRow, standIns := [], harness := (true, "c06b5b59dcef6a6d0c80025406aba36daa922ef107be1fac7a08942ddd6db868"), looks := true }, kinds := [], alts := [], laidByText := true, laidKinds := [.data, .data, .data, .handle, .data], laidTests := true, laidLooks := .later }
def LogStopsCardSaid : Prop := Claim7.holds Tryz.pinned (.plain (OpenSpec.ofChange logStopsSpec)) logStopsCard

/-- THE TIED CARD OF 'vennlaw2.TextTells'. -/
def textTellsCard : Claim7 := { stood := { row := textTellsRow, standIns := [], harness := (true, "c06b5b59dcef6a6d0c80025406aba36daa922ef107be1fac7a08942ddd6db868"), looks := true }, kinds := [], alts := [], laidByText := true, laidKinds := [.data, .data, .data, .data, .handle, .sentinel, .sentinel, .data, .data, .pinned], laidTests := true, laidLooks := .later }
def TextTellsCardSaid : Prop := Claim7.holds Tryz.pinned (.plain (OpenSpec.ofChange textTellsSpec)) textTellsCard

/-- THE TIED CARD OF 'vennlaw1.AtomTells'. -/
def atomTellsCard : Claim7 := { stood := { row := atomTellsRow, standIns := [], harness := (true, "c06b5b59dcef6a6d0c80025406aba36daa922ef107be1fac7a08942ddd6db868"), looks := true }, kinds := [], alts := [], laidByText := true, laidKinds := [.data, .data, .data, .data, .handle, .sentinel, .sentinel, .data, .pinned], laidTests := true, laidLooks := .later }
def AtomTellsCardSaid : Prop := Claim7.holds Tryz.pinned (.plain (OpenSpec.ofChange atomTellsSpec)) atomTellsCard

/-- THE TIED CARD OF 'venntop.TopNames'. -/
def topNamesCard : Claim7 := { stood := { row := topNamesRow, standIns := [], harness := (true, "c06b5b59dcef6a6d0c80025406aba36daa922ef107be1fac7a08942ddd6db868"), looks := true }, kinds := [], alts := [], laidByText := true, laidKinds := [.data, .data, .data, .data, .handle, .sentinel, .sentinel, .data, .data, .pinned], laidTests := true, laidLooks := .later }
def TopNamesCardSaid : Prop := Claim7.holds Tryz.pinned (.plain (OpenSpec.ofChange topNamesSpec)) topNamesCard

/-- THE SECOND FORM's CARD OF 'venntop.TopSaid'. -/
def topSaidUptoCard : Claim7 := { stood := { row := topSaidUptoRow, standIns := [], harness := (true, "c06b5b59dcef6a6d0c80025406aba36daa922ef107be1fac7a08942ddd6db868"), looks := true }, kinds := [], alts := [], laidByText := true, laidKinds := [.data, .data, .data, .handle, .data], laidTests := true, laidLooks := .later }
def TopSaidUptoCardSaid : Prop := Claim7.holds Tryz.pinned (.plain (OpenSpec.upto topSaidSpec)) topSaidUptoCard

/-- THE SECOND FORM's CARD OF 'vennlaw3.LogKeeps'. -/
def logKeepsUptoCard : Claim7 := { stood := { row := logKeepsUptoRow, standIns := [], harness := (true, "c06b5b59dcef6a6d0c80025406aba36daa922ef107be1fac7a08942ddd6db868"), looks := true }, kinds := [], alts := [], laidByText := true, laidKinds := [.data, .data, .data, .handle, .data], laidTests := true, laidLooks := .later }
def LogKeepsUptoCardSaid : Prop := Claim7.holds Tryz.pinned (.plain (OpenSpec.upto logKeepsSpec)) logKeepsUptoCard

/-- THE SECOND FORM's CARD OF 'vennlaw3.LogStops'. -/
def logStopsUptoCard : Claim7 := { stood := { row := logStopsUptoRow, standIns := [], harness := (true, "c06b5b59dcef6a6d0c80025406aba36daa922ef107be1fac7a08942ddd6db868"), looks := true }, kinds := [], alts := [], laidByText := true, laidKinds := [.data, .data, .data, .handle, .data], laidTests := true, laidLooks := .later }
def LogStopsUptoCardSaid : Prop := Claim7.holds Tryz.pinned (.plain (OpenSpec.upto logStopsSpec)) logStopsUptoCard

/-- THE SECOND FORM's CARD OF 'vennlaw2.TextTells'. -/
def textTellsUptoCard : Claim7 := { stood := { row := textTellsUptoRow, standIns := [], harness := (true, "c06b5b59dcef6a6d0c80025406aba36daa922ef107be1fac7a08942ddd6db868"), looks := true }, kinds := [], alts := [], laidByText := true, laidKinds := [.data, .data, .data, .data, .handle, .sentinel, .sentinel, .data, .data, .pinned], laidTests := true, laidLooks := .later }
def TextTellsUptoCardSaid : Prop := Claim7.holds Tryz.pinned (.plain (OpenSpec.upto textTellsSpec)) textTellsUptoCard

/-- THE SECOND FORM's CARD OF 'vennlaw1.AtomTells'. -/
def atomTellsUptoCard : Claim7 := { stood := { row := atomTellsUptoRow, standIns := [], harness := (true, "c06b5b59dcef6a6d0c80025406aba36daa922ef107be1fac7a08942ddd6db868"), looks := true }, kinds := [], alts := [], laidByText := true, laidKinds := [.data, .data, .data, .data, .handle, .sentinel, .sentinel, .data, .pinned], laidTests := true, laidLooks := .later }
def AtomTellsUptoCardSaid : Prop := Claim7.holds Tryz.pinned (.plain (OpenSpec.upto atomTellsSpec)) atomTellsUptoCard

/-- THE SECOND FORM's CARD OF 'venntop.TopNames'. -/
def topNamesUptoCard : Claim7 := { stood := { row := topNamesUptoRow, standIns := [], harness := (true, "c06b5b59dcef6a6d0c80025406aba36daa922ef107be1fac7a08942ddd6db868"), looks := true }, kinds := [], alts := [], laidByText := true, laidKinds := [.data, .data, .data, .data, .handle, .sentinel, .sentinel, .data, .data, .pinned], laidTests := true, laidLooks := .later }
def TopNamesUptoCardSaid : Prop := Claim7.holds Tryz.pinned (.plain (OpenSpec.upto topNamesSpec)) topNamesUptoCard
end Rows
end Go.Proofs.YtcloppcekbdbaaaGreatDoor
