/-
  DERIVED. GIVEN WITH THE SEED: THE CARDS: each row of YteikjcboehilpaaDoorRows.lean that lists a variable, with what it lists TIED to the program's text (the seventh form; the later family's looks); each row that meets fmt, with fmt's text TOLD by the authors' own Lean function (tested against real Go, not proved from fmt's source: count such statements apart). THE CARD IS WHAT COUNTS. Prove the row's statement (the work); the ties are given (YteikjcboehilpaaDoorTie.lean); close each card by the builder's one call (the guide's Derived/Test/ToyasCard.lean, 'card_holds'). Laid BY PROGRAM, IN A SANDBOX (cutbox-door.mjs). By AI agents, Wed Nov 11 2026. No macro, syntax, notation, axiom, sorry.
-/
import Derived.Test.YteikjcboehilpaaDoorRows
import GoSem.ClaimSeven
namespace Go.Proofs.YteikjcboehilpaaDoor
namespace Rows

/-- THE TIED CARD OF 'vennlaw4.RowsNot'. -/
def rowsNotCard : Claim7 := { stood := { row := rowsNotRow, standIns := [], harness := (true, "62b03d903f0f14e6b39155b7a58d9ab2ccb8cf905d947280524cb51ddb449522"), looks := true }, kinds := [], alts := [], laidByText := true, laidKinds := [.data], laidTests := true, laidLooks := .later }
def RowsNotCardSaid : Prop := Claim7.holds Tryd.pinned (.plain (OpenSpec.ofChange rowsNotSpec)) rowsNotCard

/-- THE TIED CARD OF 'vennlaw4.AtomNone'. -/
def atomNoneCard : Claim7 := { stood := { row := atomNoneRow, standIns := [], harness := (true, "62b03d903f0f14e6b39155b7a58d9ab2ccb8cf905d947280524cb51ddb449522"), looks := true }, kinds := [], alts := [], laidByText := true, laidKinds := [.data], laidTests := true, laidLooks := .later }
def AtomNoneCardSaid : Prop := Claim7.holds Tryd.pinned (.plain (OpenSpec.ofChange atomNoneSpec)) atomNoneCard

/-- THE TIED CARD OF 'vennlaw1.SetsTell'. -/
def setsTellCard : Claim7 := { stood := { row := setsTellRow, standIns := [], harness := (true, "62b03d903f0f14e6b39155b7a58d9ab2ccb8cf905d947280524cb51ddb449522"), looks := true }, kinds := [], alts := [], laidByText := true, laidKinds := [.handle], laidTests := true, laidLooks := .later }
def SetsTellCardSaid : Prop := Claim7.holds Tryd.pinned (.plain (OpenSpec.ofChange setsTellSpec)) setsTellCard

/-- THE TIED CARD OF 'vennlaw4.SetsAll'. -/
def setsAllCard : Claim7 := { stood := { row := setsAllRow, standIns := [], harness := (true, "62b03d903f0f14e6b39155b7a58d9ab2ccb8cf905d947280524cb51ddb449522"), looks := true }, kinds := [], alts := [], laidByText := true, laidKinds := [.handle], laidTests := true, laidLooks := .later }
def SetsAllCardSaid : Prop := Claim7.holds Tryd.pinned (.plain (OpenSpec.ofChange setsAllSpec)) setsAllCard

/-- THE TIED CARD OF 'vennlaw4.FitEnds'. -/
def fitEndsCard : Claim7 := { stood := { row := fitEndsRow, standIns := [], harness := (true, "62b03d903f0f14e6b39155b7a58d9ab2ccb8cf905d947280524cb51ddb449522"), looks := true }, kinds := [], alts := [], laidByText := true, laidKinds := [.handle], laidTests := true, laidLooks := .later }
def FitEndsCardSaid : Prop := Claim7.holds Tryd.pinned (.plain (OpenSpec.ofChange fitEndsSpec)) fitEndsCard

/-- THE TIED CARD OF 'vennlaw1.FitLeast'. -/
def fitLeastCard : Claim7 := { stood := { row := fitLeastRow, standIns := [], harness := (true, "62b03d903f0f14e6b39155b7a58d9ab2ccb8cf905d947280524cb51ddb449522"), looks := true }, kinds := [], alts := [], laidByText := true, laidKinds := [.handle], laidTests := true, laidLooks := .later }
def FitLeastCardSaid : Prop := Claim7.holds Tryd.pinned (.plain (OpenSpec.ofChange fitLeastSpec)) fitLeastCard

/-- THE TIED CARD OF 'vennlaw4.SomeName'. -/
def someNameCard : Claim7 := { stood := { row := someNameRow, standIns := [], harness := (true, "62b03d903f0f14e6b39155b7a58d9ab2ccb8cf905d947280524cb51ddb449522"), looks := true }, kinds := [], alts := [], laidByText := true, laidKinds := [.data], laidTests := true, laidLooks := .later }
def SomeNameCardSaid : Prop := Claim7.holds Tryd.pinned (.plain (OpenSpec.ofChange someNameSpec)) someNameCard

/-- THE SECOND FORM's CARD OF 'vennlaw4.RowsNot'. -/
def rowsNotUptoCard : Claim7 := { stood := { row := rowsNotUptoRow, standIns := [], harness := (true, "62b03d903f0f14e6b39155b7a58d9ab2ccb8cf905d947280524cb51ddb449522"), looks := true }, kinds := [], alts := [], laidByText := true, laidKinds := [.data], laidTests := true, laidLooks := .later }
def RowsNotUptoCardSaid : Prop := Claim7.holds Tryd.pinned (.plain (OpenSpec.upto rowsNotSpec)) rowsNotUptoCard

/-- THE SECOND FORM's CARD OF 'vennlaw4.AtomNone'. -/
def atomNoneUptoCard : Claim7 := { stood := { row := atomNoneUptoRow, standIns := [], harness := (true, "62b03d903f0f14e6b39155b7a58d9ab2ccb8cf905d947280524cb51ddb449522"), looks := true }, kinds := [], alts := [], laidByText := true, laidKinds := [.data], laidTests := true, laidLooks := .later }
def AtomNoneUptoCardSaid : Prop := Claim7.holds Tryd.pinned (.plain (OpenSpec.upto atomNoneSpec)) atomNoneUptoCard

/-- THE SECOND FORM's CARD OF 'vennlaw1.SetsTell'. -/
def setsTellUptoCard : Claim7 := { stood := { row := setsTellUptoRow, standIns := [], harness := (true, "62b03d903f0f14e6b39155b7a58d9ab2ccb8cf905d947280524cb51ddb449522"), looks := true }, kinds := [], alts := [], laidByText := true, laidKinds := [.handle], laidTests := true, laidLooks := .later }
def SetsTellUptoCardSaid : Prop := Claim7.holds Tryd.pinned (.plain (OpenSpec.upto setsTellSpec)) setsTellUptoCard

/-- THE SECOND FORM's CARD OF 'vennlaw4.SetsAll'. -/
def setsAllUptoCard : Claim7 := { stood := { row := setsAllUptoRow, standIns := [], harness := (true, "62b03d903f0f14e6b39155b7a58d9ab2ccb8cf905d947280524cb51ddb449522"), looks := true }, kinds := [], alts := [], laidByText := true, laidKinds := [.handle], laidTests := true, laidLooks := .later }
def SetsAllUptoCardSaid : Prop := Claim7.holds Tryd.pinned (.plain (OpenSpec.upto setsAllSpec)) setsAllUptoCard

/-- THE SECOND FORM's CARD OF 'vennlaw4.FitEnds'. -/
def fitEndsUptoCard : Claim7 := { stood := { row := fitEndsUptoRow, standIns := [], harness := (true, "62b03d903f0f14e6b39155b7a58d9ab2ccb8cf905d947280524cb51ddb449522"), looks := true }, kinds := [], alts := [], laidByText := true, laidKinds := [.handle], laidTests := true, laidLooks := .later }
def FitEndsUptoCardSaid : Prop := Claim7.holds Tryd.pinned (.plain (OpenSpec.upto fitEndsSpec)) fitEndsUptoCard

/-- THE SECOND FORM's CARD OF 'vennlaw1.FitLeast'. -/
def fitLeastUptoCard : Claim7 := { stood := { row := fitLeastUptoRow, standIns := [], harness := (true, "62b03d903f0f14e6b39155b7a58d9ab2ccb8cf905d947280524cb51ddb449522"), looks := true }, kinds := [], alts := [], laidByText := true, laidKinds := [.handle], laidTests := true, laidLooks := .later }
def FitLeastUptoCardSaid : Prop := Claim7.holds Tryd.pinned (.plain (OpenSpec.upto fitLeastSpec)) fitLeastUptoCard

/-- THE SECOND FORM's CARD OF 'vennlaw4.SomeName'. -/
def someNameUptoCard : Claim7 := { stood := { row := someNameUptoRow, standIns := [], harness := (true, "62b03d903f0f14e6b39155b7a58d9ab2ccb8cf905d947280524cb51ddb449522"), looks := true }, kinds := [], alts := [], laidByText := true, laidKinds := [.data], laidTests := true, laidLooks := .later }
def SomeNameUptoCardSaid : Prop := Claim7.holds Tryd.pinned (.plain (OpenSpec.upto someNameSpec)) someNameUptoCard
end Rows
end Go.Proofs.YteikjcboehilpaaDoor
