/-
  DERIVED. GIVEN WITH THE SEED: THE CARDS: each row of YtnjamgmaclmlpaaDoorRows.lean that lists a variable, with what it lists TIED to the program's text (the seventh form; the later family's looks); each row that meets fmt, with fmt's text TOLD by the authors' own Lean function (tested against real Go, not proved from fmt's source: count such statements apart). THE CARD IS WHAT COUNTS. Prove the row's statement (the work); the ties are given (YtnjamgmaclmlpaaDoorTie.lean); close each card by the builder's one call (the guide's Derived/Test/ToyasCard.lean, 'card_holds'). Laid BY PROGRAM, IN A SANDBOX (cutbox-door.mjs). By AI agents, Wed Nov 11 2026. No macro, syntax, notation, axiom, sorry.
-/
import Derived.Test.YtnjamgmaclmlpaaDoorRows
import GoSem.ClaimSeven
namespace Go.Proofs.YtnjamgmaclmlpaaDoor
namespace Rows

/-- THE TIED CARD OF 'vennlaw1.FitTells'. -/
def fitTellsCard : Claim7 := { stood := { row := fitTellsRow, standIns := [], harness := (true, "6e3fd137b042bd5a682f70fac73d5245e344dfd5bbbe60edde4edebf4a155723"), looks := true }, kinds := [], alts := [], laidByText := true, laidKinds := [.handle], laidTests := true, laidLooks := .later }
def FitTellsCardSaid : Prop := Claim7.holds Tryd.pinned (.plain (OpenSpec.ofChange fitTellsSpec)) fitTellsCard

/-- THE TIED CARD OF 'venntop.TopSome'. -/
def topSomeCard : Claim7 := { stood := { row := topSomeRow, standIns := [], harness := (true, "6e3fd137b042bd5a682f70fac73d5245e344dfd5bbbe60edde4edebf4a155723"), looks := true }, kinds := [], alts := [], laidByText := true, laidKinds := [.data], laidTests := true, laidLooks := .later }
def TopSomeCardSaid : Prop := Claim7.holds Tryd.pinned (.plain (OpenSpec.ofChange topSomeSpec)) topSomeCard

/-- THE TIED CARD OF 'vennlaw1.FormTurns'. -/
def formTurnsCard : Claim7 := { stood := { row := formTurnsRow, standIns := [], harness := (true, "6e3fd137b042bd5a682f70fac73d5245e344dfd5bbbe60edde4edebf4a155723"), looks := true }, kinds := [], alts := [], laidByText := true, laidKinds := [.data], laidTests := true, laidLooks := .later }
def FormTurnsCardSaid : Prop := Claim7.holds Tryd.pinned (.plain (OpenSpec.ofChange formTurnsSpec)) formTurnsCard

/-- THE TIED CARD OF 'vennlaw4.CoreAlone'. -/
def coreAloneCard : Claim7 := { stood := { row := coreAloneRow, standIns := [], harness := (true, "6e3fd137b042bd5a682f70fac73d5245e344dfd5bbbe60edde4edebf4a155723"), looks := true }, kinds := [], alts := [], laidByText := true, laidKinds := [.data], laidTests := true, laidLooks := .later }
def CoreAloneCardSaid : Prop := Claim7.holds Tryd.pinned (.plain (OpenSpec.ofChange coreAloneSpec)) coreAloneCard

/-- THE TIED CARD OF 'vennlaw1.FieldsAll'. -/
def fieldsAllCard : Claim7 := { stood := { row := fieldsAllRow, standIns := [], harness := (true, "6e3fd137b042bd5a682f70fac73d5245e344dfd5bbbe60edde4edebf4a155723"), looks := true }, kinds := [], alts := [], laidByText := true, laidKinds := [.data], laidTests := true, laidLooks := .later }
def FieldsAllCardSaid : Prop := Claim7.holds Tryd.pinned (.plain (OpenSpec.ofChange fieldsAllSpec)) fieldsAllCard

/-- THE TIED CARD OF 'vennlaw2.SpanReached'. -/
def spanReachedCard : Claim7 := { stood := { row := spanReachedRow, standIns := [], harness := (true, "6e3fd137b042bd5a682f70fac73d5245e344dfd5bbbe60edde4edebf4a155723"), looks := true }, kinds := [], alts := [], laidByText := true, laidKinds := [.data], laidTests := true, laidLooks := .later }
def SpanReachedCardSaid : Prop := Claim7.holds Tryd.pinned (.plain (OpenSpec.ofChange spanReachedSpec)) spanReachedCard

/-- THE TIED CARD OF 'vennlaw1.RowsTell'. -/
def rowsTellCard : Claim7 := { stood := { row := rowsTellRow, standIns := [], harness := (true, "6e3fd137b042bd5a682f70fac73d5245e344dfd5bbbe60edde4edebf4a155723"), looks := true }, kinds := [], alts := [], laidByText := true, laidKinds := [.handle, .data], laidTests := true, laidLooks := .later }
def RowsTellCardSaid : Prop := Claim7.holds Tryd.pinned (.plain (OpenSpec.ofChange rowsTellSpec)) rowsTellCard

/-- THE TIED CARD OF 'vennlaw2.AskFollows'. -/
def askFollowsCard : Claim7 := { stood := { row := askFollowsRow, standIns := [], harness := (true, "6e3fd137b042bd5a682f70fac73d5245e344dfd5bbbe60edde4edebf4a155723"), looks := true }, kinds := [], alts := [], laidByText := true, laidKinds := [.data], laidTests := true, laidLooks := .later }
def AskFollowsCardSaid : Prop := Claim7.holds Tryd.pinned (.plain (OpenSpec.ofChange askFollowsSpec)) askFollowsCard

/-- THE TIED CARD OF 'vennlaw4.FormTwice'. -/
def formTwiceCard : Claim7 := { stood := { row := formTwiceRow, standIns := [], harness := (true, "6e3fd137b042bd5a682f70fac73d5245e344dfd5bbbe60edde4edebf4a155723"), looks := true }, kinds := [], alts := [], laidByText := true, laidKinds := [.handle, .data], laidTests := true, laidLooks := .later }
def FormTwiceCardSaid : Prop := Claim7.holds Tryd.pinned (.plain (OpenSpec.ofChange formTwiceSpec)) formTwiceCard

/-- THE TIED CARD OF 'vennlaw2.SomeTells'. -/
def someTellsCard : Claim7 := { stood := { row := someTellsRow, standIns := [], harness := (true, "6e3fd137b042bd5a682f70fac73d5245e344dfd5bbbe60edde4edebf4a155723"), looks := true }, kinds := [], alts := [], laidByText := true, laidKinds := [.handle, .data], laidTests := true, laidLooks := .later }
def SomeTellsCardSaid : Prop := Claim7.holds Tryd.pinned (.plain (OpenSpec.ofChange someTellsSpec)) someTellsCard

/-- THE TIED CARD OF 'vennlaw2.SpanTells'. -/
def spanTellsCard : Claim7 := { stood := { row := spanTellsRow, standIns := [], harness := (true, "6e3fd137b042bd5a682f70fac73d5245e344dfd5bbbe60edde4edebf4a155723"), looks := true }, kinds := [], alts := [], laidByText := true, laidKinds := [.handle, .data], laidTests := true, laidLooks := .later }
def SpanTellsCardSaid : Prop := Claim7.holds Tryd.pinned (.plain (OpenSpec.ofChange spanTellsSpec)) spanTellsCard

/-- THE TIED CARD OF 'vennlaw2.SomeEach'. -/
def someEachCard : Claim7 := { stood := { row := someEachRow, standIns := [], harness := (true, "6e3fd137b042bd5a682f70fac73d5245e344dfd5bbbe60edde4edebf4a155723"), looks := true }, kinds := [], alts := [], laidByText := true, laidKinds := [.handle, .data], laidTests := true, laidLooks := .later }
def SomeEachCardSaid : Prop := Claim7.holds Tryd.pinned (.plain (OpenSpec.ofChange someEachSpec)) someEachCard

/-- THE SECOND FORM's CARD OF 'vennlaw1.FitTells'. -/
def fitTellsUptoCard : Claim7 := { stood := { row := fitTellsUptoRow, standIns := [], harness := (true, "6e3fd137b042bd5a682f70fac73d5245e344dfd5bbbe60edde4edebf4a155723"), looks := true }, kinds := [], alts := [], laidByText := true, laidKinds := [.handle], laidTests := true, laidLooks := .later }
def FitTellsUptoCardSaid : Prop := Claim7.holds Tryd.pinned (.plain (OpenSpec.upto fitTellsSpec)) fitTellsUptoCard

/-- THE SECOND FORM's CARD OF 'venntop.TopSome'. -/
def topSomeUptoCard : Claim7 := { stood := { row := topSomeUptoRow, standIns := [], harness := (true, "6e3fd137b042bd5a682f70fac73d5245e344dfd5bbbe60edde4edebf4a155723"), looks := true }, kinds := [], alts := [], laidByText := true, laidKinds := [.data], laidTests := true, laidLooks := .later }
def TopSomeUptoCardSaid : Prop := Claim7.holds Tryd.pinned (.plain (OpenSpec.upto topSomeSpec)) topSomeUptoCard

/-- THE SECOND FORM's CARD OF 'vennlaw1.FormTurns'. -/
def formTurnsUptoCard : Claim7 := { stood := { row := formTurnsUptoRow, standIns := [], harness := (true, "6e3fd137b042bd5a682f70fac73d5245e344dfd5bbbe60edde4edebf4a155723"), looks := true }, kinds := [], alts := [], laidByText := true, laidKinds := [.data], laidTests := true, laidLooks := .later }
def FormTurnsUptoCardSaid : Prop := Claim7.holds Tryd.pinned (.plain (OpenSpec.upto formTurnsSpec)) formTurnsUptoCard

/-- THE SECOND FORM's CARD OF 'vennlaw4.CoreAlone'. -/
def coreAloneUptoCard : Claim7 := { stood := { row := coreAloneUptoRow, standIns := [], harness := (true, "6e3fd137b042bd5a682f70fac73d5245e344dfd5bbbe60edde4edebf4a155723"), looks := true }, kinds := [], alts := [], laidByText := true, laidKinds := [.data], laidTests := true, laidLooks := .later }
def CoreAloneUptoCardSaid : Prop := Claim7.holds Tryd.pinned (.plain (OpenSpec.upto coreAloneSpec)) coreAloneUptoCard

/-- THE SECOND FORM's CARD OF 'vennlaw1.FieldsAll'. -/
def fieldsAllUptoCard : Claim7 := { stood := { row := fieldsAllUptoRow, standIns := [], harness := (true, "6e3fd137b042bd5a682f70fac73d5245e344dfd5bbbe60edde4edebf4a155723"), looks := true }, kinds := [], alts := [], laidByText := true, laidKinds := [.data], laidTests := true, laidLooks := .later }
def FieldsAllUptoCardSaid : Prop := Claim7.holds Tryd.pinned (.plain (OpenSpec.upto fieldsAllSpec)) fieldsAllUptoCard

/-- THE SECOND FORM's CARD OF 'vennlaw2.SpanReached'. -/
def spanReachedUptoCard : Claim7 := { stood := { row := spanReachedUptoRow, standIns := [], harness := (true, "6e3fd137b042bd5a682f70fac73d5245e344dfd5bbbe60edde4edebf4a155723"), looks := true }, kinds := [], alts := [], laidByText := true, laidKinds := [.data], laidTests := true, laidLooks := .later }
def SpanReachedUptoCardSaid : Prop := Claim7.holds Tryd.pinned (.plain (OpenSpec.upto spanReachedSpec)) spanReachedUptoCard

/-- THE SECOND FORM's CARD OF 'vennlaw1.RowsTell'. -/
def rowsTellUptoCard : Claim7 := { stood := { row := rowsTellUptoRow, standIns := [], harness := (true, "6e3fd137b042bd5a682f70fac73d5245e344dfd5bbbe60edde4edebf4a155723"), looks := true }, kinds := [], alts := [], laidByText := true, laidKinds := [.handle, .data], laidTests := true, laidLooks := .later }
def RowsTellUptoCardSaid : Prop := Claim7.holds Tryd.pinned (.plain (OpenSpec.upto rowsTellSpec)) rowsTellUptoCard

/-- THE SECOND FORM's CARD OF 'vennlaw2.AskFollows'. -/
def askFollowsUptoCard : Claim7 := { stood := { row := askFollowsUptoRow, standIns := [], harness := (true, "6e3fd137b042bd5a682f70fac73d5245e344dfd5bbbe60edde4edebf4a155723"), looks := true }, kinds := [], alts := [], laidByText := true, laidKinds := [.data], laidTests := true, laidLooks := .later }
def AskFollowsUptoCardSaid : Prop := Claim7.holds Tryd.pinned (.plain (OpenSpec.upto askFollowsSpec)) askFollowsUptoCard

/-- THE SECOND FORM's CARD OF 'vennlaw4.FormTwice'. -/
def formTwiceUptoCard : Claim7 := { stood := { row := formTwiceUptoRow, standIns := [], harness := (true, "6e3fd137b042bd5a682f70fac73d5245e344dfd5bbbe60edde4edebf4a155723"), looks := true }, kinds := [], alts := [], laidByText := true, laidKinds := [.handle, .data], laidTests := true, laidLooks := .later }
def FormTwiceUptoCardSaid : Prop := Claim7.holds Tryd.pinned (.plain (OpenSpec.upto formTwiceSpec)) formTwiceUptoCard

/-- THE SECOND FORM's CARD OF 'vennlaw2.SomeTells'. -/
def someTellsUptoCard : Claim7 := { stood := { row := someTellsUptoRow, standIns := [], harness := (true, "6e3fd137b042bd5a682f70fac73d5245e344dfd5bbbe60edde4edebf4a155723"), looks := true }, kinds := [], alts := [], laidByText := true, laidKinds := [.handle, .data], laidTests := true, laidLooks := .later }
def SomeTellsUptoCardSaid : Prop := Claim7.holds Tryd.pinned (.plain (OpenSpec.upto someTellsSpec)) someTellsUptoCard

/-- THE SECOND FORM's CARD OF 'vennlaw2.SpanTells'. -/
def spanTellsUptoCard : Claim7 := { stood := { row := spanTellsUptoRow, standIns := [], harness := (true, "6e3fd137b042bd5a682f70fac73d5245e344dfd5bbbe60edde4edebf4a155723"), looks := true }, kinds := [], alts := [], laidByText := true, laidKinds := [.handle, .data], laidTests := true, laidLooks := .later }
def SpanTellsUptoCardSaid : Prop := Claim7.holds Tryd.pinned (.plain (OpenSpec.upto spanTellsSpec)) spanTellsUptoCard

/-- THE SECOND FORM's CARD OF 'vennlaw2.SomeEach'. -/
def someEachUptoCard : Claim7 := { stood := { row := someEachUptoRow, standIns := [], harness := (true, "6e3fd137b042bd5a682f70fac73d5245e344dfd5bbbe60edde4edebf4a155723"), looks := true }, kinds := [], alts := [], laidByText := true, laidKinds := [.handle, .data], laidTests := true, laidLooks := .later }
def SomeEachUptoCardSaid : Prop := Claim7.holds Tryd.pinned (.plain (OpenSpec.upto someEachSpec)) someEachUptoCard
end Rows
end Go.Proofs.YtnjamgmaclmlpaaDoor
