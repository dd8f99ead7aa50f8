/-
  DERIVED. GIVEN WITH THE SEED: THE CARDS: each row of YtlpfbdejiifbpaaDoorRows.lean that lists a variable, with what it lists TIED to the program's text (the seventh form; the later family's looks); each row that meets fmt, with fmt's text TOLD by the authors' own Lean function (tested against real Go, not proved from fmt's source: count such statements apart). THE CARD IS WHAT COUNTS. Prove the row's statement (the work); the ties are given (YtlpfbdejiifbpaaDoorTie.lean); close each card by the builder's one call (the guide's Derived/Test/ToyasCard.lean, 'card_holds'). Laid BY PROGRAM, IN A SANDBOX (cutbox-door.mjs). By AI agents, Wed Nov 11 2026. No macro, syntax, notation, axiom, sorry.
-/
import Derived.Test.YtlpfbdejiifbpaaDoorRows
import GoSem.ClaimSeven
namespace Go.Proofs.YtlpfbdejiifbpaaDoor
namespace Rows

/-- THE TIED CARD OF 'vennlaw2.TurnTells'. -/
def turnTellsCard : Claim7 := { stood := { row := turnTellsRow, standIns := [], harness := (true, "04f43397b6b08108af6ada57f0e3fa80e8f7bf53e902eb6988f6ef1ea289baf9"), looks := true }, kinds := [], alts := [], laidByText := true, laidKinds := [.handle, .data], laidTests := true, laidLooks := .later }
def TurnTellsCardSaid : Prop := Claim7.holds Tryd.pinned (.plain (OpenSpec.ofChange turnTellsSpec)) turnTellsCard

/-- THE TIED CARD OF 'vennlaw4.CubesOne'. -/
def cubesOneCard : Claim7 := { stood := { row := cubesOneRow, standIns := [], harness := (true, "04f43397b6b08108af6ada57f0e3fa80e8f7bf53e902eb6988f6ef1ea289baf9"), looks := true }, kinds := [], alts := [], laidByText := true, laidKinds := [.data], laidTests := true, laidLooks := .later }
def CubesOneCardSaid : Prop := Claim7.holds Tryd.pinned (.plain (OpenSpec.ofChange cubesOneSpec)) cubesOneCard

/-- THE TIED CARD OF 'vennlaw1.CubesSay'. -/
def cubesSayCard : Claim7 := { stood := { row := cubesSayRow, standIns := [], harness := (true, "04f43397b6b08108af6ada57f0e3fa80e8f7bf53e902eb6988f6ef1ea289baf9"), looks := true }, kinds := [], alts := [], laidByText := true, laidKinds := [.data], laidTests := true, laidLooks := .later }
def CubesSayCardSaid : Prop := Claim7.holds Tryd.pinned (.plain (OpenSpec.ofChange cubesSaySpec)) cubesSayCard

/-- THE SECOND FORM's CARD OF 'vennlaw2.TurnTells'. -/
def turnTellsUptoCard : Claim7 := { stood := { row := turnTellsUptoRow, standIns := [], harness := (true, "04f43397b6b08108af6ada57f0e3fa80e8f7bf53e902eb6988f6ef1ea289baf9"), looks := true }, kinds := [], alts := [], laidByText := true, laidKinds := [.handle, .data], laidTests := true, laidLooks := .later }
def TurnTellsUptoCardSaid : Prop := Claim7.holds Tryd.pinned (.plain (OpenSpec.upto turnTellsSpec)) turnTellsUptoCard

/-- THE SECOND FORM's CARD OF 'vennlaw4.CubesOne'. -/
def cubesOneUptoCard : Claim7 := { stood := { row := cubesOneUptoRow, standIns := [], harness := (true, "04f43397b6b08108af6ada57f0e3fa80e8f7bf53e902eb6988f6ef1ea289baf9"), looks := true }, kinds := [], alts := [], laidByText := true, laidKinds := [.data], laidTests := true, laidLooks := .later }
def CubesOneUptoCardSaid : Prop := Claim7.holds Tryd.pinned (.plain (OpenSpec.upto cubesOneSpec)) cubesOneUptoCard

/-- THE SECOND FORM's CARD OF 'vennlaw1.CubesSay'. -/
def cubesSayUptoCard : Claim7 := { stood := { row := cubesSayUptoRow, standIns := [], harness := (true, "04f43397b6b08108af6ada57f0e3fa80e8f7bf53e902eb6988f6ef1ea289baf9"), looks := true }, kinds := [], alts := [], laidByText := true, laidKinds := [.data], laidTests := true, laidLooks := .later }
def CubesSayUptoCardSaid : Prop := Claim7.holds Tryd.pinned (.plain (OpenSpec.upto cubesSaySpec)) cubesSayUptoCard
end Rows
end Go.Proofs.YtlpfbdejiifbpaaDoor
