/-
  DERIVED. GIVEN WITH THE SEED: THE CARDS: each row of YtpkleioabinkkaaGreatDoorRows.lean that lists a variable, with what it lists TIED to the program's text (the seventh form; the later family's looks); each row that meets fmt, with fmt's text TOLD by the authors' own Lean function (tested against real Go, not proved from fmt's source: count such statements apart). THE CARD IS WHAT COUNTS. Prove the row's statement (the work); the ties are given (YtpkleioabinkkaaGreatDoorTie.lean); close each card by the builder's one call (the guide's Derived/Test/ToyasCard.lean, 'card_holds'). Laid BY PROGRAM, IN A SANDBOX (cutbox-door.mjs). By AI agents, Wed Nov 11 2026. No macro, syntax, notation, axiom, sorry.
-/
import Derived.Test.YtpkleioabinkkaaGreatDoorRows
import GoSem.ClaimSeven
namespace Go.Proofs.YtpkleioabinkkaaGreatDoor
namespace Rows

/-- THE TIED CARD OF 'vennlaw1.ModelTells'. -/
def modelTellsCard : Claim7 := { stood := { row := modelTellsRow, standIns := [], harness := (true, "52cb8aa0f12a3ff9ca3df5f856a7715efd4f4d6942b40239283f1bc49cbaf079"), looks := true }, kinds := [], alts := [], laidByText := true, laidKinds := [.handle, .data], laidTests := true, laidLooks := .later }
def ModelTellsCardSaid : Prop := Claim7.holds Tryz.pinned (.plain (OpenSpec.ofChange modelTellsSpec)) modelTellsCard

/-- THE TIED CARD OF 'vennlaw4.ModelMany'. -/
def modelManyCard : Claim7 := { stood := { row := modelManyRow, standIns := [], harness := (true, "52cb8aa0f12a3ff9ca3df5f856a7715efd4f4d6942b40239283f1bc49cbaf079"), looks := true }, kinds := [], alts := [], laidByText := true, laidKinds := [.handle, .data], laidTests := true, laidLooks := .later }
def ModelManyCardSaid : Prop := Claim7.holds Tryz.pinned (.plain (OpenSpec.ofChange modelManySpec)) modelManyCard

/-- THE TIED CARD OF 'vennlaw1.ModelHolds'. -/
def modelHoldsCard : Claim7 := { stood := { row := modelHoldsRow, standIns := [], harness := (true, "52cb8aa0f12a3ff9ca3df5f856a7715efd4f4d6942b40239283f1bc49cbaf079"), looks := true }, kinds := [], alts := [], laidByText := true, laidKinds := [.handle, .data], laidTests := true, laidLooks := .later }
def ModelHoldsCardSaid : Prop := Claim7.holds Tryz.pinned (.plain (OpenSpec.ofChange modelHoldsSpec)) modelHoldsCard

/-- THE TIED CARD OF 'vennlaw2.LeastTells'. -/
def leastTellsCard : Claim7 := { stood := { row := leastTellsRow, standIns := [], harness := (true, "52cb8aa0f12a3ff9ca3df5f856a7715efd4f4d6942b40239283f1bc49cbaf079"), looks := true }, kinds := [], alts := [], laidByText := true, laidKinds := [.handle, .data], laidTests := true, laidLooks := .later }
def LeastTellsCardSaid : Prop := Claim7.holds Tryz.pinned (.plain (OpenSpec.ofChange leastTellsSpec)) leastTellsCard

/-- THE TIED CARD OF 'vennlaw4.LeastMany'. -/
def leastManyCard : Claim7 := { stood := { row := leastManyRow, standIns := [], harness := (true, "52cb8aa0f12a3ff9ca3df5f856a7715efd4f4d6942b40239283f1bc49cbaf079"), looks := true }, kinds := [], alts := [], laidByText := true, laidKinds := [.handle, .data], laidTests := true, laidLooks := .later }
def LeastManyCardSaid : Prop := Claim7.holds Tryz.pinned (.plain (OpenSpec.ofChange leastManySpec)) leastManyCard

/-- THE TIED CARD OF 'vennlaw2.LeastFew'. -/
def leastFewCard : Claim7 := { stood := { row := leastFewRow, standIns := [], harness := (true, "52cb8aa0f12a3ff9ca3df5f856a7715efd4f4d6942b40239283f1bc49cbaf079"), looks := true }, kinds := [], alts := [], laidByText := true, laidKinds := [.handle, .data], laidTests := true, laidLooks := .later }
def LeastFewCardSaid : Prop := Claim7.holds Tryz.pinned (.plain (OpenSpec.ofChange leastFewSpec)) leastFewCard

/-- THE TIED CARD OF 'vennlaw2.AlikeWorlds'. -/
def alikeWorldsCard : Claim7 := { stood := { row := alikeWorldsRow, standIns := [], harness := (true, "52cb8aa0f12a3ff9ca3df5f856a7715efd4f4d6942b40239283f1bc49cbaf079"), looks := true }, kinds := [], alts := [], laidByText := true, laidKinds := [.handle, .data], laidTests := true, laidLooks := .later }
def AlikeWorldsCardSaid : Prop := Claim7.holds Tryz.pinned (.plain (OpenSpec.ofChange alikeWorldsSpec)) alikeWorldsCard

/-- THE TIED CARD OF 'vennlaw2.WorldsAll'. -/
def worldsAllCard : Claim7 := { stood := { row := worldsAllRow, standIns := [], harness := (true, "52cb8aa0f12a3ff9ca3df5f856a7715efd4f4d6942b40239283f1bc49cbaf079"), looks := true }, kinds := [], alts := [], laidByText := true, laidKinds := [.handle, .data], laidTests := true, laidLooks := .later }
def WorldsAllCardSaid : Prop := Claim7.holds Tryz.pinned (.plain (OpenSpec.ofChange worldsAllSpec)) worldsAllCard

/-- THE SECOND FORM's CARD OF 'vennlaw1.ModelTells'. -/
def modelTellsUptoCard : Claim7 := { stood := { row := modelTellsUptoRow, standIns := [], harness := (true, "52cb8aa0f12a3ff9ca3df5f856a7715efd4f4d6942b40239283f1bc49cbaf079"), looks := true }, kinds := [], alts := [], laidByText := true, laidKinds := [.handle, .data], laidTests := true, laidLooks := .later }
def ModelTellsUptoCardSaid : Prop := Claim7.holds Tryz.pinned (.plain (OpenSpec.upto modelTellsSpec)) modelTellsUptoCard

/-- THE SECOND FORM's CARD OF 'vennlaw4.ModelMany'. -/
def modelManyUptoCard : Claim7 := { stood := { row := modelManyUptoRow, standIns := [], harness := (true, "52cb8aa0f12a3ff9ca3df5f856a7715efd4f4d6942b40239283f1bc49cbaf079"), looks := true }, kinds := [], alts := [], laidByText := true, laidKinds := [.handle, .data], laidTests := true, laidLooks := .later }
def ModelManyUptoCardSaid : Prop := Claim7.holds Tryz.pinned (.plain (OpenSpec.upto modelManySpec)) modelManyUptoCard

/-- THE SECOND FORM's CARD OF 'vennlaw1.ModelHolds'. -/
def modelHoldsUptoCard : Claim7 := { stood := { row := modelHoldsUptoRow, standIns := [], harness := (true, "52cb8aa0f12a3ff9ca3df5f856a7715efd4f4d6942b40239283f1bc49cbaf079"), looks := true }, kinds := [], alts := [], laidByText := true, laidKinds := [.handle, .data], laidTests := true, laidLooks := .later }
def ModelHoldsUptoCardSaid : Prop := Claim7.holds Tryz.pinned (.plain (OpenSpec.upto modelHoldsSpec)) modelHoldsUptoCard

/-- THE SECOND FORM's CARD OF 'vennlaw2.LeastTells'. -/
def leastTellsUptoCard : Claim7 := { stood := { row := leastTellsUptoRow, standIns := [], harness := (true, "52cb8aa0f12a3ff9ca3df5f856a7715efd4f4d6942b40239283f1bc49cbaf079"), looks := true }, kinds := [], alts := [], laidByText := true, laidKinds := [.handle, .data], laidTests := true, laidLooks := .later }
def LeastTellsUptoCardSaid : Prop := Claim7.holds Tryz.pinned (.plain (OpenSpec.upto leastTellsSpec)) leastTellsUptoCard

/-- THE SECOND FORM's CARD OF 'vennlaw4.LeastMany'. -/
def leastManyUptoCard : Claim7 := { stood := { row := leastManyUptoRow, standIns := [], harness := (true, "52cb8aa0f12a3ff9ca3df5f856a7715efd4f4d6942b40239283f1bc49cbaf079"), looks := true }, kinds := [], alts := [], laidByText := true, laidKinds := [.handle, .data], laidTests := true, laidLooks := .later }
def LeastManyUptoCardSaid : Prop := Claim7.holds Tryz.pinned (.plain (OpenSpec.upto leastManySpec)) leastManyUptoCard

/-- THE SECOND FORM's CARD OF 'vennlaw2.LeastFew'. -/
def leastFewUptoCard : Claim7 := { stood := { row := leastFewUptoRow, standIns := [], harness := (true, "52cb8aa0f12a3ff9ca3df5f856a7715efd4f4d6942b40239283f1bc49cbaf079"), looks := true }, kinds := [], alts := [], laidByText := true, laidKinds := [.handle, .data], laidTests := true, laidLooks := .later }
def LeastFewUptoCardSaid : Prop := Claim7.holds Tryz.pinned (.plain (OpenSpec.upto leastFewSpec)) leastFewUptoCard

/-- THE SECOND FORM's CARD OF 'vennlaw2.AlikeWorlds'. -/
def alikeWorldsUptoCard : Claim7 := { stood := { row := alikeWorldsUptoRow, standIns := [], harness := (true, "52cb8aa0f12a3ff9ca3df5f856a7715efd4f4d6942b40239283f1bc49cbaf079"), looks := true }, kinds := [], alts := [], laidByText := true, laidKinds := [.handle, .data], laidTests := true, laidLooks := .later }
def AlikeWorldsUptoCardSaid : Prop := Claim7.holds Tryz.pinned (.plain (OpenSpec.upto alikeWorldsSpec)) alikeWorldsUptoCard

/-- THE SECOND FORM's CARD OF 'vennlaw2.WorldsAll'. -/
def worldsAllUptoCard : Claim7 := { stood := { row := worldsAllUptoRow, standIns := [], harness := (true, "52cb8aa0f12a3ff9ca3df5f856a7715efd4f4d6942b40239283f1bc49cbaf079"), looks := true }, kinds := [], alts := [], laidByText := true, laidKinds := [.handle, .data], laidTests := true, laidLooks := .later }
def WorldsAllUptoCardSaid : Prop := Claim7.holds Tryz.pinned (.plain (OpenSpec.upto worldsAllSpec)) worldsAllUptoCard
end Rows
end Go.Proofs.YtpkleioabinkkaaGreatDoor
