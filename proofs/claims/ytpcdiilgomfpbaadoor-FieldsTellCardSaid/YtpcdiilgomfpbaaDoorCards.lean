/-
  DERIVED. GIVEN WITH THE SEED: THE CARDS: each row of YtpcdiilgomfpbaaDoorRows.lean that lists a variable, with what it lists TIED to the program's text (the seventh form; the later family's looks); each row that meets fmt, with fmt's text TOLD by the authors' own Lean function (tested against real Go, not proved from fmt's source: count such statements apart). THE CARD IS WHAT COUNTS. Prove the row's statement (the work); the ties are given (YtpcdiilgomfpbaaDoorTie.lean); close each card by the builder's one call (the guide's Derived/Test/ToyasCard.lean, 'card_holds'). Laid BY PROGRAM, IN A SANDBOX (cutbox-door.mjs). By AI agents, Wed Nov 11 2026. No macro, syntax, notation, axiom, sorry.
-/
import Derived.Test.YtpcdiilgomfpbaaDoorRows
import GoSem.ClaimSeven
namespace Go.Proofs.YtpcdiilgomfpbaaDoor
namespace Rows

/-- THE TIED CARD OF 'vennlaw1.FitTells'. -/
def fitTellsCard : Claim7 := { stood := { row := fitTellsRow, standIns := [], harness := (true, "012a3834411bb9d3e9dc90b2ce94aad2bd5a623970209034d10dd5899fee6111"), looks := true }, kinds := [], alts := [], laidByText := true, laidKinds := [.handle], laidTests := true, laidLooks := .later }
def FitTellsCardSaid : Prop := Claim7.holds Tryd.pinned (.plain (OpenSpec.ofChange fitTellsSpec)) fitTellsCard

/-- THE TIED CARD OF 'vennlaw4.TermTwice'. -/
def termTwiceCard : Claim7 := { stood := { row := termTwiceRow, standIns := [], harness := (true, "012a3834411bb9d3e9dc90b2ce94aad2bd5a623970209034d10dd5899fee6111"), looks := true }, kinds := [], alts := [], laidByText := true, laidKinds := [.handle], laidTests := true, laidLooks := .later }
def TermTwiceCardSaid : Prop := Claim7.holds Tryd.pinned (.plain (OpenSpec.ofChange termTwiceSpec)) termTwiceCard

/-- THE TIED CARD OF 'vennlaw4.WorldsHalf'. -/
def worldsHalfCard : Claim7 := { stood := { row := worldsHalfRow, standIns := [], harness := (true, "012a3834411bb9d3e9dc90b2ce94aad2bd5a623970209034d10dd5899fee6111"), looks := true }, kinds := [], alts := [], laidByText := true, laidKinds := [.data], laidTests := true, laidLooks := .later }
def WorldsHalfCardSaid : Prop := Claim7.holds Tryd.pinned (.plain (OpenSpec.ofChange worldsHalfSpec)) worldsHalfCard

/-- THE TIED CARD OF 'vennlaw4.SpanAll'. -/
def spanAllCard : Claim7 := { stood := { row := spanAllRow, standIns := [], harness := (true, "012a3834411bb9d3e9dc90b2ce94aad2bd5a623970209034d10dd5899fee6111"), looks := true }, kinds := [], alts := [], laidByText := true, laidKinds := [.data], laidTests := true, laidLooks := .later }
def SpanAllCardSaid : Prop := Claim7.holds Tryd.pinned (.plain (OpenSpec.ofChange spanAllSpec)) spanAllCard

/-- THE TIED CARD OF 'venntop.TopSome'. -/
def topSomeCard : Claim7 := { stood := { row := topSomeRow, standIns := [], harness := (true, "012a3834411bb9d3e9dc90b2ce94aad2bd5a623970209034d10dd5899fee6111"), looks := true }, kinds := [], alts := [], laidByText := true, laidKinds := [.data], laidTests := true, laidLooks := .later }
def TopSomeCardSaid : Prop := Claim7.holds Tryd.pinned (.plain (OpenSpec.ofChange topSomeSpec)) topSomeCard

/-- THE TIED CARD OF 'vennlaw1.FormTurns'. -/
def formTurnsCard : Claim7 := { stood := { row := formTurnsRow, standIns := [], harness := (true, "012a3834411bb9d3e9dc90b2ce94aad2bd5a623970209034d10dd5899fee6111"), looks := true }, kinds := [], alts := [], laidByText := true, laidKinds := [.data], laidTests := true, laidLooks := .later }
def FormTurnsCardSaid : Prop := Claim7.holds Tryd.pinned (.plain (OpenSpec.ofChange formTurnsSpec)) formTurnsCard

/-- THE TIED CARD OF 'vennlaw2.AlikeTells'. -/
def alikeTellsCard : Claim7 := { stood := { row := alikeTellsRow, standIns := [], harness := (true, "012a3834411bb9d3e9dc90b2ce94aad2bd5a623970209034d10dd5899fee6111"), looks := true }, kinds := [], alts := [], laidByText := true, laidKinds := [.handle], laidTests := true, laidLooks := .later }
def AlikeTellsCardSaid : Prop := Claim7.holds Tryd.pinned (.plain (OpenSpec.ofChange alikeTellsSpec)) alikeTellsCard

/-- THE TIED CARD OF 'vennlaw1.TermTells'. -/
def termTellsCard : Claim7 := { stood := { row := termTellsRow, standIns := [], harness := (true, "012a3834411bb9d3e9dc90b2ce94aad2bd5a623970209034d10dd5899fee6111"), looks := true }, kinds := [], alts := [], laidByText := true, laidKinds := [.handle], laidTests := true, laidLooks := .later }
def TermTellsCardSaid : Prop := Claim7.holds Tryd.pinned (.plain (OpenSpec.ofChange termTellsSpec)) termTellsCard

/-- THE TIED CARD OF 'vennlaw4.AskMany'. -/
def askManyCard : Claim7 := { stood := { row := askManyRow, standIns := [], harness := (true, "012a3834411bb9d3e9dc90b2ce94aad2bd5a623970209034d10dd5899fee6111"), looks := true }, kinds := [], alts := [], laidByText := true, laidKinds := [.data], laidTests := true, laidLooks := .later }
def AskManyCardSaid : Prop := Claim7.holds Tryd.pinned (.plain (OpenSpec.ofChange askManySpec)) askManyCard

/-- THE TIED CARD OF 'vennlaw1.RowsSay'. -/
def rowsSayCard : Claim7 := { stood := { row := rowsSayRow, standIns := [], harness := (true, "012a3834411bb9d3e9dc90b2ce94aad2bd5a623970209034d10dd5899fee6111"), looks := true }, kinds := [], alts := [], laidByText := true, laidKinds := [.data], laidTests := true, laidLooks := .later }
def RowsSayCardSaid : Prop := Claim7.holds Tryd.pinned (.plain (OpenSpec.ofChange rowsSaySpec)) rowsSayCard

/-- THE TIED CARD OF 'vennlaw1.FieldsTell'. -/
def fieldsTellCard : Claim7 := { stood := { row := fieldsTellRow, standIns := [], harness := (true, "012a3834411bb9d3e9dc90b2ce94aad2bd5a623970209034d10dd5899fee6111"), looks := true }, kinds := [], alts := [], laidByText := true, laidKinds := [.handle], laidTests := true, laidLooks := .later }
def FieldsTellCardSaid : Prop := Claim7.holds Tryd.pinned (.plain (OpenSpec.ofChange fieldsTellSpec)) fieldsTellCard

/-- THE TIED CARD OF 'vennlaw4.CoreAlone'. -/
def coreAloneCard : Claim7 := { stood := { row := coreAloneRow, standIns := [], harness := (true, "012a3834411bb9d3e9dc90b2ce94aad2bd5a623970209034d10dd5899fee6111"), looks := true }, kinds := [], alts := [], laidByText := true, laidKinds := [.data], laidTests := true, laidLooks := .later }
def CoreAloneCardSaid : Prop := Claim7.holds Tryd.pinned (.plain (OpenSpec.ofChange coreAloneSpec)) coreAloneCard

/-- THE SECOND FORM's CARD OF 'vennlaw1.FitTells'. -/
def fitTellsUptoCard : Claim7 := { stood := { row := fitTellsUptoRow, standIns := [], harness := (true, "012a3834411bb9d3e9dc90b2ce94aad2bd5a623970209034d10dd5899fee6111"), looks := true }, kinds := [], alts := [], laidByText := true, laidKinds := [.handle], laidTests := true, laidLooks := .later }
def FitTellsUptoCardSaid : Prop := Claim7.holds Tryd.pinned (.plain (OpenSpec.upto fitTellsSpec)) fitTellsUptoCard

/-- THE SECOND FORM's CARD OF 'vennlaw4.TermTwice'. -/
def termTwiceUptoCard : Claim7 := { stood := { row := termTwiceUptoRow, standIns := [], harness := (true, "012a3834411bb9d3e9dc90b2ce94aad2bd5a623970209034d10dd5899fee6111"), looks := true }, kinds := [], alts := [], laidByText := true, laidKinds := [.handle], laidTests := true, laidLooks := .later }
def TermTwiceUptoCardSaid : Prop := Claim7.holds Tryd.pinned (.plain (OpenSpec.upto termTwiceSpec)) termTwiceUptoCard

/-- THE SECOND FORM's CARD OF 'vennlaw4.WorldsHalf'. -/
def worldsHalfUptoCard : Claim7 := { stood := { row := worldsHalfUptoRow, standIns := [], harness := (true, "012a3834411bb9d3e9dc90b2ce94aad2bd5a623970209034d10dd5899fee6111"), looks := true }, kinds := [], alts := [], laidByText := true, laidKinds := [.data], laidTests := true, laidLooks := .later }
def WorldsHalfUptoCardSaid : Prop := Claim7.holds Tryd.pinned (.plain (OpenSpec.upto worldsHalfSpec)) worldsHalfUptoCard

/-- THE SECOND FORM's CARD OF 'vennlaw4.SpanAll'. -/
def spanAllUptoCard : Claim7 := { stood := { row := spanAllUptoRow, standIns := [], harness := (true, "012a3834411bb9d3e9dc90b2ce94aad2bd5a623970209034d10dd5899fee6111"), looks := true }, kinds := [], alts := [], laidByText := true, laidKinds := [.data], laidTests := true, laidLooks := .later }
def SpanAllUptoCardSaid : Prop := Claim7.holds Tryd.pinned (.plain (OpenSpec.upto spanAllSpec)) spanAllUptoCard

/-- THE SECOND FORM's CARD OF 'venntop.TopSome'. -/
def topSomeUptoCard : Claim7 := { stood := { row := topSomeUptoRow, standIns := [], harness := (true, "012a3834411bb9d3e9dc90b2ce94aad2bd5a623970209034d10dd5899fee6111"), looks := true }, kinds := [], alts := [], laidByText := true, laidKinds := [.data], laidTests := true, laidLooks := .later }
def TopSomeUptoCardSaid : Prop := Claim7.holds Tryd.pinned (.plain (OpenSpec.upto topSomeSpec)) topSomeUptoCard

/-- THE SECOND FORM's CARD OF 'vennlaw1.FormTurns'. -/
def formTurnsUptoCard : Claim7 := { stood := { row := formTurnsUptoRow, standIns := [], harness := (true, "012a3834411bb9d3e9dc90b2ce94aad2bd5a623970209034d10dd5899fee6111"), looks := true }, kinds := [], alts := [], laidByText := true, laidKinds := [.data], laidTests := true, laidLooks := .later }
def FormTurnsUptoCardSaid : Prop := Claim7.holds Tryd.pinned (.plain (OpenSpec.upto formTurnsSpec)) formTurnsUptoCard

/-- THE SECOND FORM's CARD OF 'vennlaw2.AlikeTells'. -/
def alikeTellsUptoCard : Claim7 := { stood := { row := alikeTellsUptoRow, standIns := [], harness := (true, "012a3834411bb9d3e9dc90b2ce94aad2bd5a623970209034d10dd5899fee6111"), looks := true }, kinds := [], alts := [], laidByText := true, laidKinds := [.handle], laidTests := true, laidLooks := .later }
def AlikeTellsUptoCardSaid : Prop := Claim7.holds Tryd.pinned (.plain (OpenSpec.upto alikeTellsSpec)) alikeTellsUptoCard

/-- THE SECOND FORM's CARD OF 'vennlaw1.TermTells'. -/
def termTellsUptoCard : Claim7 := { stood := { row := termTellsUptoRow, standIns := [], harness := (true, "012a3834411bb9d3e9dc90b2ce94aad2bd5a623970209034d10dd5899fee6111"), looks := true }, kinds := [], alts := [], laidByText := true, laidKinds := [.handle], laidTests := true, laidLooks := .later }
def TermTellsUptoCardSaid : Prop := Claim7.holds Tryd.pinned (.plain (OpenSpec.upto termTellsSpec)) termTellsUptoCard

/-- THE SECOND FORM's CARD OF 'vennlaw4.AskMany'. -/
def askManyUptoCard : Claim7 := { stood := { row := askManyUptoRow, standIns := [], harness := (true, "012a3834411bb9d3e9dc90b2ce94aad2bd5a623970209034d10dd5899fee6111"), looks := true }, kinds := [], alts := [], laidByText := true, laidKinds := [.data], laidTests := true, laidLooks := .later }
def AskManyUptoCardSaid : Prop := Claim7.holds Tryd.pinned (.plain (OpenSpec.upto askManySpec)) askManyUptoCard

/-- THE SECOND FORM's CARD OF 'vennlaw1.RowsSay'. -/
def rowsSayUptoCard : Claim7 := { stood := { row := rowsSayUptoRow, standIns := [], harness := (true, "012a3834411bb9d3e9dc90b2ce94aad2bd5a623970209034d10dd5899fee6111"), looks := true }, kinds := [], alts := [], laidByText := true, laidKinds := [.data], laidTests := true, laidLooks := .later }
def RowsSayUptoCardSaid : Prop := Claim7.holds Tryd.pinned (.plain (OpenSpec.upto rowsSaySpec)) rowsSayUptoCard

/-- THE SECOND FORM's CARD OF 'vennlaw1.FieldsTell'. -/
def fieldsTellUptoCard : Claim7 := { stood := { row := fieldsTellUptoRow, standIns := [], harness := (true, "012a3834411bb9d3e9dc90b2ce94aad2bd5a623970209034d10dd5899fee6111"), looks := true }, kinds := [], alts := [], laidByText := true, laidKinds := [.handle], laidTests := true, laidLooks := .later }
def FieldsTellUptoCardSaid : Prop := Claim7.holds Tryd.pinned (.plain (OpenSpec.upto fieldsTellSpec)) fieldsTellUptoCard

/-- THE SECOND FORM's CARD OF 'vennlaw4.CoreAlone'. -/
def coreAloneUptoCard : Claim7 := { stood := { row := coreAloneUptoRow, standIns := [], harness := (true, "012a3834411bb9d3e9dc90b2ce94aad2bd5a623970209034d10dd5899fee6111"), looks := true }, kinds := [], alts := [], laidByText := true, laidKinds := [.data], laidTests := true, laidLooks := .later }
def CoreAloneUptoCardSaid : Prop := Claim7.holds Tryd.pinned (.plain (OpenSpec.upto coreAloneSpec)) coreAloneUptoCard
end Rows
end Go.Proofs.YtpcdiilgomfpbaaDoor
