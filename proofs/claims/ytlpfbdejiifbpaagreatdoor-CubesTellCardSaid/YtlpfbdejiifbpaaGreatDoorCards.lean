/-
  DERIVED. GIVEN WITH THE SEED: THE CARDS: each row of YtlpfbdejiifbpaaGreatDoorRows.lean that lists a variable, with what it lists TIED to the program's text (the seventh form; the later family's looks); each row that meets fmt, with fmt's text TOLD by the authors' own Lean function (tested against real Go, not proved from fmt's source: count such statements apart). THE CARD IS WHAT COUNTS. Prove the row's statement (the work); the ties are given (YtlpfbdejiifbpaaGreatDoorTie.lean); close each card by the builder's one call (the guide's Derived/Test/ToyasCard.lean, 'card_holds'). Laid BY PROGRAM, IN A SANDBOX (cutbox-door.mjs). By AI agents, Wed Nov 11 2026. No macro, syntax, notation, axiom, sorry.
-/
import Derived.Test.YtlpfbdejiifbpaaGreatDoorRows
import GoSem.ClaimSeven
namespace Go.Proofs.YtlpfbdejiifbpaaGreatDoor
namespace Rows

/-- THE TIED CARD OF 'vennlaw1.CubesTell'. -/
def cubesTellCard : Claim7 := { stood := { row := cubesTellRow, standIns := [], harness := (true, "4d04fbe1db2b31d2ef51f7e65123e1d83202b00cd33f4d539c75f6fa5206dc98"), looks := true }, kinds := [], alts := [], laidByText := true, laidKinds := [.handle, .data], laidTests := true, laidLooks := .later }
def CubesTellCardSaid : Prop := Claim7.holds Tryz.pinned (.plain (OpenSpec.ofChange cubesTellSpec)) cubesTellCard

/-- THE TIED CARD OF 'vennlaw1.ModelTells'. -/
def modelTellsCard : Claim7 := { stood := { row := modelTellsRow, standIns := [], harness := (true, "4d04fbe1db2b31d2ef51f7e65123e1d83202b00cd33f4d539c75f6fa5206dc98"), looks := true }, kinds := [], alts := [], laidByText := true, laidKinds := [.handle, .data], laidTests := true, laidLooks := .later }
def ModelTellsCardSaid : Prop := Claim7.holds Tryz.pinned (.plain (OpenSpec.ofChange modelTellsSpec)) modelTellsCard

/-- THE TIED CARD OF 'vennlaw4.ModelMany'. -/
def modelManyCard : Claim7 := { stood := { row := modelManyRow, standIns := [], harness := (true, "4d04fbe1db2b31d2ef51f7e65123e1d83202b00cd33f4d539c75f6fa5206dc98"), looks := true }, kinds := [], alts := [], laidByText := true, laidKinds := [.handle, .data], laidTests := true, laidLooks := .later }
def ModelManyCardSaid : Prop := Claim7.holds Tryz.pinned (.plain (OpenSpec.ofChange modelManySpec)) modelManyCard

/-- THE TIED CARD OF 'vennlaw1.ModelHolds'. -/
def modelHoldsCard : Claim7 := { stood := { row := modelHoldsRow, standIns := [], harness := (true, "4d04fbe1db2b31d2ef51f7e65123e1d83202b00cd33f4d539c75f6fa5206dc98"), looks := true }, kinds := [], alts := [], laidByText := true, laidKinds := [.handle, .data], laidTests := true, laidLooks := .later }
def ModelHoldsCardSaid : Prop := Claim7.holds Tryz.pinned (.plain (OpenSpec.ofChange modelHoldsSpec)) modelHoldsCard

/-- THE TIED CARD OF 'vennlaw2.LeastTells'. -/
def leastTellsCard : Claim7 := { stood := { row := leastTellsRow, standIns := [], harness := (true, "4d04fbe1db2b31d2ef51f7e65123e1d83202b00cd33f4d539c75f6fa5206dc98"), looks := true }, kinds := [], alts := [], laidByText := true, laidKinds := [.handle, .data], laidTests := true, laidLooks := .later }
def LeastTellsCardSaid : Prop := Claim7.holds Tryz.pinned (.plain (OpenSpec.ofChange leastTellsSpec)) leastTellsCard

/-- THE TIED CARD OF 'vennlaw4.LeastMany'. -/
def leastManyCard : Claim7 := { stood := { row := leastManyRow, standIns := [], harness := (true, "4d04fbe1db2b31d2ef51f7e65123e1d83202b00cd33f4d539c75f6fa5206dc98"), looks := true }, kinds := [], alts := [], laidByText := true, laidKinds := [.handle, .data], laidTests := true, laidLooks := .later }
def LeastManyCardSaid : Prop := Claim7.holds Tryz.pinned (.plain (OpenSpec.ofChange leastManySpec)) leastManyCard

/-- THE TIED CARD OF 'vennlaw2.LeastFew'. -/
def leastFewCard : Claim7 := { stood := { row := leastFewRow, standIns := [], harness := (true, "4d04fbe1db2b31d2ef51f7e65123e1d83202b00cd33f4d539c75f6fa5206dc98"), looks := true }, kinds := [], alts := [], laidByText := true, laidKinds := [.handle, .data], laidTests := true, laidLooks := .later }
def LeastFewCardSaid : Prop := Claim7.holds Tryz.pinned (.plain (OpenSpec.ofChange leastFewSpec)) leastFewCard

/-- THE SECOND FORM's CARD OF 'vennlaw1.CubesTell'. -/
def cubesTellUptoCard : Claim7 := { stood := { row := cubesTellUptoRow, standIns := [], harness := (true, "4d04fbe1db2b31d2ef51f7e65123e1d83202b00cd33f4d539c75f6fa5206dc98"), looks := true }, kinds := [], alts := [], laidByText := true, laidKinds := [.handle, .data], laidTests := true, laidLooks := .later }
def CubesTellUptoCardSaid : Prop := Claim7.holds Tryz.pinned (.plain (OpenSpec.upto cubesTellSpec)) cubesTellUptoCard

/-- THE SECOND FORM's CARD OF 'vennlaw1.ModelTells'. -/
def modelTellsUptoCard : Claim7 := { stood := { row := modelTellsUptoRow, standIns := [], harness := (true, "4d04fbe1db2b31d2ef51f7e65123e1d83202b00cd33f4d539c75f6fa5206dc98"), looks := true }, kinds := [], alts := [], laidByText := true, laidKinds := [.handle, .data], laidTests := true, laidLooks := .later }
def ModelTellsUptoCardSaid : Prop := Claim7.holds Tryz.pinned (.plain (OpenSpec.upto modelTellsSpec)) modelTellsUptoCard

/-- THE SECOND FORM's CARD OF 'vennlaw4.ModelMany'. -/
def modelManyUptoCard : Claim7 := { stood := { row := modelManyUptoRow, standIns := [], harness := (true, "4d04fbe1db2b31d2ef51f7e65123e1d83202b00cd33f4d539c75f6fa5206dc98"), looks := true }, kinds := [], alts := [], laidByText := true, laidKinds := [.handle, .data], laidTests := true, laidLooks := .later }
def ModelManyUptoCardSaid : Prop := Claim7.holds Tryz.pinned (.plain (OpenSpec.upto modelManySpec)) modelManyUptoCard

/-- THE SECOND FORM's CARD OF 'vennlaw1.ModelHolds'. -/
def modelHoldsUptoCard : Claim7 := { stood := { row := modelHoldsUptoRow, standIns := [], harness := (true, "4d04fbe1db2b31d2ef51f7e65123e1d83202b00cd33f4d539c75f6fa5206dc98"), looks := true }, kinds := [], alts := [], laidByText := true, laidKinds := [.handle, .data], laidTests := true, laidLooks := .later }
def ModelHoldsUptoCardSaid : Prop := Claim7.holds Tryz.pinned (.plain (OpenSpec.upto modelHoldsSpec)) modelHoldsUptoCard

/-- THE SECOND FORM's CARD OF 'vennlaw2.LeastTells'. -/
def leastTellsUptoCard : Claim7 := { stood := { row := leastTellsUptoRow, standIns := [], harness := (true, "4d04fbe1db2b31d2ef51f7e65123e1d83202b00cd33f4d539c75f6fa5206dc98"), looks := true }, kinds := [], alts := [], laidByText := true, laidKinds := [.handle, .data], laidTests := true, laidLooks := .later }
def LeastTellsUptoCardSaid : Prop := Claim7.holds Tryz.pinned (.plain (OpenSpec.upto leastTellsSpec)) leastTellsUptoCard

/-- THE SECOND FORM's CARD OF 'vennlaw4.LeastMany'. -/
def leastManyUptoCard : Claim7 := { stood := { row := leastManyUptoRow, standIns := [], harness := (true, "4d04fbe1db2b31d2ef51f7e65123e1d83202b00cd33f4d539c75f6fa5206dc98"), looks := true }, kinds := [], alts := [], laidByText := true, laidKinds := [.handle, .data], laidTests := true, laidLooks := .later }
def LeastManyUptoCardSaid : Prop := Claim7.holds Tryz.pinned (.plain (OpenSpec.upto leastManySpec)) leastManyUptoCard

/-- THE SECOND FORM's CARD OF 'vennlaw2.LeastFew'. -/
def leastFewUptoCard : Claim7 := { stood := { row := leastFewUptoRow, standIns := [], harness := (true, "4d04fbe1db2b31d2ef51f7e65123e1d83202b00cd33f4d539c75f6fa5206dc98"), looks := true }, kinds := [], alts := [], laidByText := true, laidKinds := [.handle, .data], laidTests := true, laidLooks := .later }
def LeastFewUptoCardSaid : Prop := Claim7.holds Tryz.pinned (.plain (OpenSpec.upto leastFewSpec)) leastFewUptoCard
end Rows
end Go.Proofs.YtlpfbdejiifbpaaGreatDoor
