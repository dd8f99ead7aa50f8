/-
  NARROWER THAN 'FOR EVERY INPUT', by the rows' own cells (each row's printed sentence says how): FitTells: laid · TopSome: laid · FormTurns: laid · CoreAlone: laid · FieldsAll: laid · SpanReached: laid · RowsTell: laid · AskFollows: laid · FormTwice: laid · SomeTells: laid · SpanTells: laid · SomeEach: laid.
  DERIVED. THE GIVEN ROWS OF THIS SEAT. 12 by the template 'for every input the law returns true; each argument reads behind the call as it read before'; 0 by the template 'total and deterministic' (their statements: YtnjamgmaclmlpaaDoorTotals.lean).
  GIVEN WITH THE SEED: the statements are not yours to turn. If you find one false, say at which input.
  Laid BY PROGRAM, IN A SANDBOX (cutbox-rows.mjs): the forced cells as the released guide's own fill.sh prints them over the translation a71dcc18cd3ad9df… (all of the seat's roots in one cut). By AI agents, Wed Nov 11 2026. No macro, syntax, notation, axiom, sorry.
-/
import Derived.Test.YtnjamgmaclmlpaaDoorChecked
import GoSem.Claim
import GoSem.ClaimJoined
import GoSem.ClaimMapViews
import Derived.JoinedTies
import Derived.KernelRfl
namespace Go.Proofs.YtnjamgmaclmlpaaDoor
/- THE CELL 'sum', in the pinned program and in every row, IS THE sha256 OF THE DUMP (.gsa) THAT YtnjamgmaclmlpaaDoorProg.lean LOADS. Nothing in Lean hashes anything: it is a label: what it is worth is what the hold of that sum in a sandbox is worth. -/
noncomputable def Tryd.pinned : Pinned := { name := "ytnjamgmaclmlpaadoor", sum := "a71dcc18cd3ad9dfe01ce553de38457b27003418122e8520aba8400e62bf13a2", checked := Tryd.checked }
namespace Rows
def none {H : Type} : Left H := { results := [], args := [] }

/- WHAT THE LISTED PACKAGE-LEVEL VARIABLES READ AS WHEN THE CALL BEGINS. Each datum BY PROGRAM (the guide's laid-datum.mjs) off the statement by which the dump's own 'gosem.cut.vars' lays the variable. In a bare row this is a premise. The card (YtnjamgmaclmlpaaDoorCards.lean) ties it to the program's text. -/
def laid_errors_errorType {H : Type} : DataW H := .iface "internal/reflectlite.rtype" (.agg [.ptr (.lit (.string [101, 114, 114, 111, 114]))])
def laid_vennhouse_atom_kinds {H : Type} : DataW H := .agg [.agg [.lit (.string []), .lit (.bool false), .lit (.bool false)], .agg [.lit (.string [115, 117, 98]), .lit (.bool true), .lit (.bool false)], .agg [.lit (.string [115, 97, 109, 101]), .lit (.bool true), .lit (.bool false)], .agg [.lit (.string [108, 101, 97, 115, 116]), .lit (.bool false), .lit (.bool true)], .agg [.lit (.string [109, 111, 115, 116]), .lit (.bool false), .lit (.bool true)], .agg [.lit (.string [110, 111, 109, 111, 114, 101]), .lit (.bool true), .lit (.bool true)]]

/-- 'vennlaw1.FitTells': WHATEVER THE INPUT: true; the input reads as it did. -/
def fitTellsSpec : ChangeSpec := { name := "fitTells", fn := fun _ => fun
  | [d1, d2, d3] => { results := [.lit (.bool true)], args := [d1, d2, d3] }
  | _ => none }
def fitTellsRow : OpenClaim := { program := "ytnjamgmaclmlpaadoor", sum := "a71dcc18cd3ad9dfe01ce553de38457b27003418122e8520aba8400e62bf13a2", func := "vennhouse/vennlaw1.FitTells", spec := "fitTells", inPlace := ["internal/reflectlite.ValueOf", "(internal/reflectlite.Value).Type", "(internal/reflectlite.Value).IsNil", "internal/reflectlite.TypeOf", "(internal/reflectlite.Value).Elem", "(internal/reflectlite.Value).Set"], unfollowed := true, recurses := true, named := ["errors.errorType"], apart := false, laid := [("errors.errorType", laid_errors_errorType)] }
def FitTellsSaid : Prop := fitTellsRow.holds Tryd.pinned (OpenSpec.ofChange fitTellsSpec)

/-- ITS FALSE NEIGHBOUR: 'it returns false'. Refute it at one input. -/
def fitTellsWrong : ChangeSpec := { name := "fitTells", fn := fun _ => fun
  | [d1, d2, d3] => { results := [.lit (.bool false)], args := [d1, d2, d3] }
  | _ => none }
def FitTellsWrongFalsely : Prop := fitTellsRow.holds Tryd.pinned (OpenSpec.ofChange fitTellsWrong)

/-- 'venntop.TopSome': WHATEVER THE INPUT: true; the input reads as it did. -/
def topSomeSpec : ChangeSpec := { name := "topSome", fn := fun _ => fun
  | [d1, d2] => { results := [.lit (.bool true)], args := [d1, d2] }
  | _ => none }
def topSomeRow : OpenClaim := { program := "ytnjamgmaclmlpaadoor", sum := "a71dcc18cd3ad9dfe01ce553de38457b27003418122e8520aba8400e62bf13a2", func := "vennhouse/venntop.TopSome", spec := "topSome", unfollowed := true, recurses := true, named := ["vennhouse/atom.kinds"], apart := false, laid := [("vennhouse/atom.kinds", laid_vennhouse_atom_kinds)] }
def TopSomeSaid : Prop := topSomeRow.holds Tryd.pinned (OpenSpec.ofChange topSomeSpec)

/-- ITS FALSE NEIGHBOUR: 'it returns false'. Refute it at one input. -/
def topSomeWrong : ChangeSpec := { name := "topSome", fn := fun _ => fun
  | [d1, d2] => { results := [.lit (.bool false)], args := [d1, d2] }
  | _ => none }
def TopSomeWrongFalsely : Prop := topSomeRow.holds Tryd.pinned (OpenSpec.ofChange topSomeWrong)

/-- 'vennlaw1.FormTurns': WHATEVER THE INPUT: true; the input reads as it did. -/
def formTurnsSpec : ChangeSpec := { name := "formTurns", fn := fun _ => fun
  | [d1, d2, d3] => { results := [.lit (.bool true)], args := [d1, d2, d3] }
  | _ => none }
def formTurnsRow : OpenClaim := { program := "ytnjamgmaclmlpaadoor", sum := "a71dcc18cd3ad9dfe01ce553de38457b27003418122e8520aba8400e62bf13a2", func := "vennhouse/vennlaw1.FormTurns", spec := "formTurns", unfollowed := true, recurses := true, named := ["vennhouse/atom.kinds"], apart := false, laid := [("vennhouse/atom.kinds", laid_vennhouse_atom_kinds)] }
def FormTurnsSaid : Prop := formTurnsRow.holds Tryd.pinned (OpenSpec.ofChange formTurnsSpec)

/-- ITS FALSE NEIGHBOUR: 'it returns false'. Refute it at one input. -/
def formTurnsWrong : ChangeSpec := { name := "formTurns", fn := fun _ => fun
  | [d1, d2, d3] => { results := [.lit (.bool false)], args := [d1, d2, d3] }
  | _ => none }
def FormTurnsWrongFalsely : Prop := formTurnsRow.holds Tryd.pinned (OpenSpec.ofChange formTurnsWrong)

/-- 'vennlaw4.CoreAlone': WHATEVER THE INPUT: true; the input reads as it did. -/
def coreAloneSpec : ChangeSpec := { name := "coreAlone", fn := fun _ => fun
  | [d1, d2] => { results := [.lit (.bool true)], args := [d1, d2] }
  | _ => none }
def coreAloneRow : OpenClaim := { program := "ytnjamgmaclmlpaadoor", sum := "a71dcc18cd3ad9dfe01ce553de38457b27003418122e8520aba8400e62bf13a2", func := "vennhouse/vennlaw4.CoreAlone", spec := "coreAlone", unfollowed := true, recurses := true, named := ["vennhouse/atom.kinds"], apart := false, laid := [("vennhouse/atom.kinds", laid_vennhouse_atom_kinds)] }
def CoreAloneSaid : Prop := coreAloneRow.holds Tryd.pinned (OpenSpec.ofChange coreAloneSpec)

/-- ITS FALSE NEIGHBOUR: 'it returns false'. Refute it at one input. -/
def coreAloneWrong : ChangeSpec := { name := "coreAlone", fn := fun _ => fun
  | [d1, d2] => { results := [.lit (.bool false)], args := [d1, d2] }
  | _ => none }
def CoreAloneWrongFalsely : Prop := coreAloneRow.holds Tryd.pinned (OpenSpec.ofChange coreAloneWrong)

/-- 'vennlaw1.FieldsAll': WHATEVER THE INPUT: true; the input reads as it did. -/
def fieldsAllSpec : ChangeSpec := { name := "fieldsAll", fn := fun _ => fun
  | [d1, d2, d3, d4] => { results := [.lit (.bool true)], args := [d1, d2, d3, d4] }
  | _ => none }
def fieldsAllRow : OpenClaim := { program := "ytnjamgmaclmlpaadoor", sum := "a71dcc18cd3ad9dfe01ce553de38457b27003418122e8520aba8400e62bf13a2", func := "vennhouse/vennlaw1.FieldsAll", spec := "fieldsAll", unfollowed := true, recurses := true, named := ["vennhouse/atom.kinds"], apart := false, laid := [("vennhouse/atom.kinds", laid_vennhouse_atom_kinds)] }
def FieldsAllSaid : Prop := fieldsAllRow.holds Tryd.pinned (OpenSpec.ofChange fieldsAllSpec)

/-- ITS FALSE NEIGHBOUR: 'it returns false'. Refute it at one input. -/
def fieldsAllWrong : ChangeSpec := { name := "fieldsAll", fn := fun _ => fun
  | [d1, d2, d3, d4] => { results := [.lit (.bool false)], args := [d1, d2, d3, d4] }
  | _ => none }
def FieldsAllWrongFalsely : Prop := fieldsAllRow.holds Tryd.pinned (OpenSpec.ofChange fieldsAllWrong)

/-- 'vennlaw2.SpanReached': WHATEVER THE INPUT: true; the input reads as it did. -/
def spanReachedSpec : ChangeSpec := { name := "spanReached", fn := fun _ => fun
  | [d1, d2, d3, d4] => { results := [.lit (.bool true)], args := [d1, d2, d3, d4] }
  | _ => none }
def spanReachedRow : OpenClaim := { program := "ytnjamgmaclmlpaadoor", sum := "a71dcc18cd3ad9dfe01ce553de38457b27003418122e8520aba8400e62bf13a2", func := "vennhouse/vennlaw2.SpanReached", spec := "spanReached", unfollowed := true, recurses := true, named := ["vennhouse/atom.kinds"], apart := false, laid := [("vennhouse/atom.kinds", laid_vennhouse_atom_kinds)] }
def SpanReachedSaid : Prop := spanReachedRow.holds Tryd.pinned (OpenSpec.ofChange spanReachedSpec)

/-- ITS FALSE NEIGHBOUR: 'it returns false'. Refute it at one input. -/
def spanReachedWrong : ChangeSpec := { name := "spanReached", fn := fun _ => fun
  | [d1, d2, d3, d4] => { results := [.lit (.bool false)], args := [d1, d2, d3, d4] }
  | _ => none }
def SpanReachedWrongFalsely : Prop := spanReachedRow.holds Tryd.pinned (OpenSpec.ofChange spanReachedWrong)

/-- 'vennlaw1.RowsTell': WHATEVER THE INPUT: true; the input reads as it did. -/
def rowsTellSpec : ChangeSpec := { name := "rowsTell", fn := fun _ => fun
  | [d1, d2, d3, d4] => { results := [.lit (.bool true)], args := [d1, d2, d3, d4] }
  | _ => none }
def rowsTellRow : OpenClaim := { program := "ytnjamgmaclmlpaadoor", sum := "a71dcc18cd3ad9dfe01ce553de38457b27003418122e8520aba8400e62bf13a2", func := "vennhouse/vennlaw1.RowsTell", spec := "rowsTell", inPlace := ["internal/reflectlite.ValueOf", "(internal/reflectlite.Value).Type", "(internal/reflectlite.Value).IsNil", "internal/reflectlite.TypeOf", "(internal/reflectlite.Value).Elem", "(internal/reflectlite.Value).Set"], unfollowed := true, recurses := true, named := ["vennhouse/atom.kinds", "errors.errorType"], apart := false, laid := [("errors.errorType", laid_errors_errorType), ("vennhouse/atom.kinds", laid_vennhouse_atom_kinds)] }
def RowsTellSaid : Prop := rowsTellRow.holds Tryd.pinned (OpenSpec.ofChange rowsTellSpec)

/-- ITS FALSE NEIGHBOUR: 'it returns false'. Refute it at one input. -/
def rowsTellWrong : ChangeSpec := { name := "rowsTell", fn := fun _ => fun
  | [d1, d2, d3, d4] => { results := [.lit (.bool false)], args := [d1, d2, d3, d4] }
  | _ => none }
def RowsTellWrongFalsely : Prop := rowsTellRow.holds Tryd.pinned (OpenSpec.ofChange rowsTellWrong)

/-- 'vennlaw2.AskFollows': WHATEVER THE INPUT: true; the input reads as it did. -/
def askFollowsSpec : ChangeSpec := { name := "askFollows", fn := fun _ => fun
  | [d1, d2, d3, d4] => { results := [.lit (.bool true)], args := [d1, d2, d3, d4] }
  | _ => none }
def askFollowsRow : OpenClaim := { program := "ytnjamgmaclmlpaadoor", sum := "a71dcc18cd3ad9dfe01ce553de38457b27003418122e8520aba8400e62bf13a2", func := "vennhouse/vennlaw2.AskFollows", spec := "askFollows", unfollowed := true, recurses := true, named := ["vennhouse/atom.kinds"], apart := false, laid := [("vennhouse/atom.kinds", laid_vennhouse_atom_kinds)] }
def AskFollowsSaid : Prop := askFollowsRow.holds Tryd.pinned (OpenSpec.ofChange askFollowsSpec)

/-- ITS FALSE NEIGHBOUR: 'it returns false'. Refute it at one input. -/
def askFollowsWrong : ChangeSpec := { name := "askFollows", fn := fun _ => fun
  | [d1, d2, d3, d4] => { results := [.lit (.bool false)], args := [d1, d2, d3, d4] }
  | _ => none }
def AskFollowsWrongFalsely : Prop := askFollowsRow.holds Tryd.pinned (OpenSpec.ofChange askFollowsWrong)

/-- 'vennlaw4.FormTwice': WHATEVER THE INPUT: true; the input reads as it did. -/
def formTwiceSpec : ChangeSpec := { name := "formTwice", fn := fun _ => fun
  | [d1, d2] => { results := [.lit (.bool true)], args := [d1, d2] }
  | _ => none }
def formTwiceRow : OpenClaim := { program := "ytnjamgmaclmlpaadoor", sum := "a71dcc18cd3ad9dfe01ce553de38457b27003418122e8520aba8400e62bf13a2", func := "vennhouse/vennlaw4.FormTwice", spec := "formTwice", inPlace := ["internal/reflectlite.ValueOf", "(internal/reflectlite.Value).Type", "(internal/reflectlite.Value).IsNil", "internal/reflectlite.TypeOf", "(internal/reflectlite.Value).Elem", "(internal/reflectlite.Value).Set"], unfollowed := true, recurses := true, named := ["vennhouse/atom.kinds", "errors.errorType"], apart := false, laid := [("errors.errorType", laid_errors_errorType), ("vennhouse/atom.kinds", laid_vennhouse_atom_kinds)] }
def FormTwiceSaid : Prop := formTwiceRow.holds Tryd.pinned (OpenSpec.ofChange formTwiceSpec)

/-- ITS FALSE NEIGHBOUR: 'it returns false'. Refute it at one input. -/
def formTwiceWrong : ChangeSpec := { name := "formTwice", fn := fun _ => fun
  | [d1, d2] => { results := [.lit (.bool false)], args := [d1, d2] }
  | _ => none }
def FormTwiceWrongFalsely : Prop := formTwiceRow.holds Tryd.pinned (OpenSpec.ofChange formTwiceWrong)

/-- 'vennlaw2.SomeTells': WHATEVER THE INPUT: true; the input reads as it did. -/
def someTellsSpec : ChangeSpec := { name := "someTells", fn := fun _ => fun
  | [d1, d2, d3] => { results := [.lit (.bool true)], args := [d1, d2, d3] }
  | _ => none }
def someTellsRow : OpenClaim := { program := "ytnjamgmaclmlpaadoor", sum := "a71dcc18cd3ad9dfe01ce553de38457b27003418122e8520aba8400e62bf13a2", func := "vennhouse/vennlaw2.SomeTells", spec := "someTells", inPlace := ["internal/reflectlite.ValueOf", "(internal/reflectlite.Value).Type", "(internal/reflectlite.Value).IsNil", "internal/reflectlite.TypeOf", "(internal/reflectlite.Value).Elem", "(internal/reflectlite.Value).Set"], unfollowed := true, recurses := true, named := ["vennhouse/atom.kinds", "errors.errorType"], apart := false, laid := [("errors.errorType", laid_errors_errorType), ("vennhouse/atom.kinds", laid_vennhouse_atom_kinds)] }
def SomeTellsSaid : Prop := someTellsRow.holds Tryd.pinned (OpenSpec.ofChange someTellsSpec)

/-- ITS FALSE NEIGHBOUR: 'it returns false'. Refute it at one input. -/
def someTellsWrong : ChangeSpec := { name := "someTells", fn := fun _ => fun
  | [d1, d2, d3] => { results := [.lit (.bool false)], args := [d1, d2, d3] }
  | _ => none }
def SomeTellsWrongFalsely : Prop := someTellsRow.holds Tryd.pinned (OpenSpec.ofChange someTellsWrong)

/-- 'vennlaw2.SpanTells': WHATEVER THE INPUT: true; the input reads as it did. -/
def spanTellsSpec : ChangeSpec := { name := "spanTells", fn := fun _ => fun
  | [d1, d2, d3] => { results := [.lit (.bool true)], args := [d1, d2, d3] }
  | _ => none }
def spanTellsRow : OpenClaim := { program := "ytnjamgmaclmlpaadoor", sum := "a71dcc18cd3ad9dfe01ce553de38457b27003418122e8520aba8400e62bf13a2", func := "vennhouse/vennlaw2.SpanTells", spec := "spanTells", inPlace := ["internal/reflectlite.ValueOf", "(internal/reflectlite.Value).Type", "(internal/reflectlite.Value).IsNil", "internal/reflectlite.TypeOf", "(internal/reflectlite.Value).Elem", "(internal/reflectlite.Value).Set"], unfollowed := true, recurses := true, named := ["vennhouse/atom.kinds", "errors.errorType"], apart := false, laid := [("errors.errorType", laid_errors_errorType), ("vennhouse/atom.kinds", laid_vennhouse_atom_kinds)] }
def SpanTellsSaid : Prop := spanTellsRow.holds Tryd.pinned (OpenSpec.ofChange spanTellsSpec)

/-- ITS FALSE NEIGHBOUR: 'it returns false'. Refute it at one input. -/
def spanTellsWrong : ChangeSpec := { name := "spanTells", fn := fun _ => fun
  | [d1, d2, d3] => { results := [.lit (.bool false)], args := [d1, d2, d3] }
  | _ => none }
def SpanTellsWrongFalsely : Prop := spanTellsRow.holds Tryd.pinned (OpenSpec.ofChange spanTellsWrong)

/-- 'vennlaw2.SomeEach': WHATEVER THE INPUT: true; the input reads as it did. -/
def someEachSpec : ChangeSpec := { name := "someEach", fn := fun _ => fun
  | [d1, d2, d3, d4] => { results := [.lit (.bool true)], args := [d1, d2, d3, d4] }
  | _ => none }
def someEachRow : OpenClaim := { program := "ytnjamgmaclmlpaadoor", sum := "a71dcc18cd3ad9dfe01ce553de38457b27003418122e8520aba8400e62bf13a2", func := "vennhouse/vennlaw2.SomeEach", spec := "someEach", inPlace := ["internal/reflectlite.ValueOf", "(internal/reflectlite.Value).Type", "(internal/reflectlite.Value).IsNil", "internal/reflectlite.TypeOf", "(internal/reflectlite.Value).Elem", "(internal/reflectlite.Value).Set"], unfollowed := true, recurses := true, named := ["vennhouse/atom.kinds", "errors.errorType"], apart := false, laid := [("errors.errorType", laid_errors_errorType), ("vennhouse/atom.kinds", laid_vennhouse_atom_kinds)] }
def SomeEachSaid : Prop := someEachRow.holds Tryd.pinned (OpenSpec.ofChange someEachSpec)

/-- ITS FALSE NEIGHBOUR: 'it returns false'. Refute it at one input. -/
def someEachWrong : ChangeSpec := { name := "someEach", fn := fun _ => fun
  | [d1, d2, d3, d4] => { results := [.lit (.bool false)], args := [d1, d2, d3, d4] }
  | _ => none }
def SomeEachWrongFalsely : Prop := someEachRow.holds Tryd.pinned (OpenSpec.ofChange someEachWrong)

/- THE SECOND FORM. 'bulk': how many values and letters a reading holds, each counted each time it is reached (what is shared counts as often as it is met; a slice's spare places count too). A statement '..UptoSaid' is the law's where the arguments, and the package variables that the reading takes, are together of bulk at most 1048576: NARROWER than '..Said'. Prove '..Said' where nothing that the law and all that it calls make is longer than what came in: it says more and counts as full. Else prove '..UptoSaid'. A law counts once. -/
mutual
def uptoBulk {H : Type} : DataW H → Nat
  | .lit (.string bytes) => bytes.length + 1
  | .lit _ => 1
  | .nil => 1
  | .ptr d => uptoBulk d + 1
  | .slice elems spare => uptoBulkAll elems + uptoBulkAll spare + 1
  | .agg parts => uptoBulkAll parts + 1
  | .iface _ d => uptoBulk d + 1
  | .map entries => uptoBulkEntries entries + 1
  | .held _ => 1
def uptoBulkAll {H : Type} : List (DataW H) → Nat
  | [] => 0
  | d :: r => uptoBulk d + uptoBulkAll r
def uptoBulkEntries {H : Type} : List (Lit × DataW H) → Nat
  | [] => 0
  | x :: r => uptoBulkEntry x + uptoBulkEntries r
def uptoBulkEntry {H : Type} : Lit × DataW H → Nat
  | (.string bytes, d) => bytes.length + uptoBulk d + 1
  | (_, d) => uptoBulk d + 1
 end
def uptoSmall : (H : Type) → List (DataW H) → Bool := fun _ ds => decide (uptoBulkAll ds ≤ 1048576)
def OpenSpec.upto (s : _root_.Go.ChangeSpec) : _root_.Go.OpenSpec := { _root_.Go.OpenSpec.ofChange s with cond := some uptoSmall }

/-- 'vennlaw1.FitTells', WHERE WHAT IT READS IS OF BULK AT MOST 1048576: true; the input reads as it did. -/
def fitTellsUptoRow : OpenClaim := { program := "ytnjamgmaclmlpaadoor", sum := "a71dcc18cd3ad9dfe01ce553de38457b27003418122e8520aba8400e62bf13a2", func := "vennhouse/vennlaw1.FitTells", spec := "fitTells", inPlace := ["internal/reflectlite.ValueOf", "(internal/reflectlite.Value).Type", "(internal/reflectlite.Value).IsNil", "internal/reflectlite.TypeOf", "(internal/reflectlite.Value).Elem", "(internal/reflectlite.Value).Set"], unfollowed := true, recurses := true, named := ["errors.errorType"], apart := false, laid := [("errors.errorType", laid_errors_errorType)], narrowed := true }
def FitTellsUptoSaid : Prop := fitTellsUptoRow.holds Tryd.pinned (OpenSpec.upto fitTellsSpec)

/-- 'venntop.TopSome', WHERE WHAT IT READS IS OF BULK AT MOST 1048576: true; the input reads as it did. -/
def topSomeUptoRow : OpenClaim := { program := "ytnjamgmaclmlpaadoor", sum := "a71dcc18cd3ad9dfe01ce553de38457b27003418122e8520aba8400e62bf13a2", func := "vennhouse/venntop.TopSome", spec := "topSome", unfollowed := true, recurses := true, named := ["vennhouse/atom.kinds"], apart := false, laid := [("vennhouse/atom.kinds", laid_vennhouse_atom_kinds)], narrowed := true }
def TopSomeUptoSaid : Prop := topSomeUptoRow.holds Tryd.pinned (OpenSpec.upto topSomeSpec)

/-- 'vennlaw1.FormTurns', WHERE WHAT IT READS IS OF BULK AT MOST 1048576: true; the input reads as it did. -/
def formTurnsUptoRow : OpenClaim := { program := "ytnjamgmaclmlpaadoor", sum := "a71dcc18cd3ad9dfe01ce553de38457b27003418122e8520aba8400e62bf13a2", func := "vennhouse/vennlaw1.FormTurns", spec := "formTurns", unfollowed := true, recurses := true, named := ["vennhouse/atom.kinds"], apart := false, laid := [("vennhouse/atom.kinds", laid_vennhouse_atom_kinds)], narrowed := true }
def FormTurnsUptoSaid : Prop := formTurnsUptoRow.holds Tryd.pinned (OpenSpec.upto formTurnsSpec)

/-- 'vennlaw4.CoreAlone', WHERE WHAT IT READS IS OF BULK AT MOST 1048576: true; the input reads as it did. -/
def coreAloneUptoRow : OpenClaim := { program := "ytnjamgmaclmlpaadoor", sum := "a71dcc18cd3ad9dfe01ce553de38457b27003418122e8520aba8400e62bf13a2", func := "vennhouse/vennlaw4.CoreAlone", spec := "coreAlone", unfollowed := true, recurses := true, named := ["vennhouse/atom.kinds"], apart := false, laid := [("vennhouse/atom.kinds", laid_vennhouse_atom_kinds)], narrowed := true }
def CoreAloneUptoSaid : Prop := coreAloneUptoRow.holds Tryd.pinned (OpenSpec.upto coreAloneSpec)

/-- 'vennlaw1.FieldsAll', WHERE WHAT IT READS IS OF BULK AT MOST 1048576: true; the input reads as it did. -/
def fieldsAllUptoRow : OpenClaim := { program := "ytnjamgmaclmlpaadoor", sum := "a71dcc18cd3ad9dfe01ce553de38457b27003418122e8520aba8400e62bf13a2", func := "vennhouse/vennlaw1.FieldsAll", spec := "fieldsAll", unfollowed := true, recurses := true, named := ["vennhouse/atom.kinds"], apart := false, laid := [("vennhouse/atom.kinds", laid_vennhouse_atom_kinds)], narrowed := true }
def FieldsAllUptoSaid : Prop := fieldsAllUptoRow.holds Tryd.pinned (OpenSpec.upto fieldsAllSpec)

/-- 'vennlaw2.SpanReached', WHERE WHAT IT READS IS OF BULK AT MOST 1048576: true; the input reads as it did. -/
def spanReachedUptoRow : OpenClaim := { program := "ytnjamgmaclmlpaadoor", sum := "a71dcc18cd3ad9dfe01ce553de38457b27003418122e8520aba8400e62bf13a2", func := "vennhouse/vennlaw2.SpanReached", spec := "spanReached", unfollowed := true, recurses := true, named := ["vennhouse/atom.kinds"], apart := false, laid := [("vennhouse/atom.kinds", laid_vennhouse_atom_kinds)], narrowed := true }
def SpanReachedUptoSaid : Prop := spanReachedUptoRow.holds Tryd.pinned (OpenSpec.upto spanReachedSpec)

/-- 'vennlaw1.RowsTell', WHERE WHAT IT READS IS OF BULK AT MOST 1048576: true; the input reads as it did. -/
def rowsTellUptoRow : OpenClaim := { program := "ytnjamgmaclmlpaadoor", sum := "a71dcc18cd3ad9dfe01ce553de38457b27003418122e8520aba8400e62bf13a2", func := "vennhouse/vennlaw1.RowsTell", spec := "rowsTell", inPlace := ["internal/reflectlite.ValueOf", "(internal/reflectlite.Value).Type", "(internal/reflectlite.Value).IsNil", "internal/reflectlite.TypeOf", "(internal/reflectlite.Value).Elem", "(internal/reflectlite.Value).Set"], unfollowed := true, recurses := true, named := ["vennhouse/atom.kinds", "errors.errorType"], apart := false, laid := [("errors.errorType", laid_errors_errorType), ("vennhouse/atom.kinds", laid_vennhouse_atom_kinds)], narrowed := true }
def RowsTellUptoSaid : Prop := rowsTellUptoRow.holds Tryd.pinned (OpenSpec.upto rowsTellSpec)

/-- 'vennlaw2.AskFollows', WHERE WHAT IT READS IS OF BULK AT MOST 1048576: true; the input reads as it did. -/
def askFollowsUptoRow : OpenClaim := { program := "ytnjamgmaclmlpaadoor", sum := "a71dcc18cd3ad9dfe01ce553de38457b27003418122e8520aba8400e62bf13a2", func := "vennhouse/vennlaw2.AskFollows", spec := "askFollows", unfollowed := true, recurses := true, named := ["vennhouse/atom.kinds"], apart := false, laid := [("vennhouse/atom.kinds", laid_vennhouse_atom_kinds)], narrowed := true }
def AskFollowsUptoSaid : Prop := askFollowsUptoRow.holds Tryd.pinned (OpenSpec.upto askFollowsSpec)

/-- 'vennlaw4.FormTwice', WHERE WHAT IT READS IS OF BULK AT MOST 1048576: true; the input reads as it did. -/
def formTwiceUptoRow : OpenClaim := { program := "ytnjamgmaclmlpaadoor", sum := "a71dcc18cd3ad9dfe01ce553de38457b27003418122e8520aba8400e62bf13a2", func := "vennhouse/vennlaw4.FormTwice", spec := "formTwice", inPlace := ["internal/reflectlite.ValueOf", "(internal/reflectlite.Value).Type", "(internal/reflectlite.Value).IsNil", "internal/reflectlite.TypeOf", "(internal/reflectlite.Value).Elem", "(internal/reflectlite.Value).Set"], unfollowed := true, recurses := true, named := ["vennhouse/atom.kinds", "errors.errorType"], apart := false, laid := [("errors.errorType", laid_errors_errorType), ("vennhouse/atom.kinds", laid_vennhouse_atom_kinds)], narrowed := true }
def FormTwiceUptoSaid : Prop := formTwiceUptoRow.holds Tryd.pinned (OpenSpec.upto formTwiceSpec)

/-- 'vennlaw2.SomeTells', WHERE WHAT IT READS IS OF BULK AT MOST 1048576: true; the input reads as it did. -/
def someTellsUptoRow : OpenClaim := { program := "ytnjamgmaclmlpaadoor", sum := "a71dcc18cd3ad9dfe01ce553de38457b27003418122e8520aba8400e62bf13a2", func := "vennhouse/vennlaw2.SomeTells", spec := "someTells", inPlace := ["internal/reflectlite.ValueOf", "(internal/reflectlite.Value).Type", "(internal/reflectlite.Value).IsNil", "internal/reflectlite.TypeOf", "(internal/reflectlite.Value).Elem", "(internal/reflectlite.Value).Set"], unfollowed := true, recurses := true, named := ["vennhouse/atom.kinds", "errors.errorType"], apart := false, laid := [("errors.errorType", laid_errors_errorType), ("vennhouse/atom.kinds", laid_vennhouse_atom_kinds)], narrowed := true }
def SomeTellsUptoSaid : Prop := someTellsUptoRow.holds Tryd.pinned (OpenSpec.upto someTellsSpec)

/-- 'vennlaw2.SpanTells', WHERE WHAT IT READS IS OF BULK AT MOST 1048576: true; the input reads as it did. -/
def spanTellsUptoRow : OpenClaim := { program := "ytnjamgmaclmlpaadoor", sum := "a71dcc18cd3ad9dfe01ce553de38457b27003418122e8520aba8400e62bf13a2", func := "vennhouse/vennlaw2.SpanTells", spec := "spanTells", inPlace := ["internal/reflectlite.ValueOf", "(internal/reflectlite.Value).Type", "(internal/reflectlite.Value).IsNil", "internal/reflectlite.TypeOf", "(internal/reflectlite.Value).Elem", "(internal/reflectlite.Value).Set"], unfollowed := true, recurses := true, named := ["vennhouse/atom.kinds", "errors.errorType"], apart := false, laid := [("errors.errorType", laid_errors_errorType), ("vennhouse/atom.kinds", laid_vennhouse_atom_kinds)], narrowed := true }
def SpanTellsUptoSaid : Prop := spanTellsUptoRow.holds Tryd.pinned (OpenSpec.upto spanTellsSpec)

/-- 'vennlaw2.SomeEach', WHERE WHAT IT READS IS OF BULK AT MOST 1048576: true; the input reads as it did. -/
def someEachUptoRow : OpenClaim := { program := "ytnjamgmaclmlpaadoor", sum := "a71dcc18cd3ad9dfe01ce553de38457b27003418122e8520aba8400e62bf13a2", func := "vennhouse/vennlaw2.SomeEach", spec := "someEach", inPlace := ["internal/reflectlite.ValueOf", "(internal/reflectlite.Value).Type", "(internal/reflectlite.Value).IsNil", "internal/reflectlite.TypeOf", "(internal/reflectlite.Value).Elem", "(internal/reflectlite.Value).Set"], unfollowed := true, recurses := true, named := ["vennhouse/atom.kinds", "errors.errorType"], apart := false, laid := [("errors.errorType", laid_errors_errorType), ("vennhouse/atom.kinds", laid_vennhouse_atom_kinds)], narrowed := true }
def SomeEachUptoSaid : Prop := someEachUptoRow.holds Tryd.pinned (OpenSpec.upto someEachSpec)

end Rows
end Go.Proofs.YtnjamgmaclmlpaaDoor
