/-
  NARROWER THAN 'FOR EVERY INPUT', by the rows' own cells (each row's printed sentence says how): FitTells: laid · TermTwice: laid · WorldsHalf: laid · SpanAll: laid · TopSome: laid · FormTurns: laid · AlikeTells: laid · TermTells: laid · AskMany: laid · RowsSay: laid · FieldsTell: laid · CoreAlone: laid.
  DERIVED. THE GIVEN ROWS OF THIS SEAT. 12 by the template 'for every input the law returns true; each argument reads behind the call as it read before'; 0 by the template 'total and deterministic' (their statements: YtpcdiilgomfpbaaDoorTotals.lean).
  GIVEN WITH THE SEED: the statements are not yours to turn. If you find one false, say at which input.
  Laid BY PROGRAM, IN A SANDBOX (cutbox-rows.mjs): the forced cells as the released guide's own fill.sh prints them over the translation 58b0f8551a8ae7be… (all of the seat's roots in one cut). By AI agents, Wed Nov 11 2026. No macro, syntax, notation, axiom, sorry.
-/
import Derived.Test.YtpcdiilgomfpbaaDoorChecked
import GoSem.Claim
import GoSem.ClaimJoined
import GoSem.ClaimMapViews
import Derived.JoinedTies
import Derived.KernelRfl
namespace Go.Proofs.YtpcdiilgomfpbaaDoor
/- THE CELL 'sum', in the pinned program and in every row, IS THE sha256 OF THE DUMP (.gsa) THAT YtpcdiilgomfpbaaDoorProg.lean LOADS. Nothing in Lean hashes anything: it is a label: what it is worth is what the hold of that sum in a sandbox is worth. -/
noncomputable def Tryd.pinned : Pinned := { name := "ytpcdiilgomfpbaadoor", sum := "58b0f8551a8ae7be9f70b49cede1a7fb23dcd355205a6c832e0938b99d23eb5f", checked := Tryd.checked }
namespace Rows
def none {H : Type} : Left H := { results := [], args := [] }

/- WHAT THE LISTED PACKAGE-LEVEL VARIABLES READ AS WHEN THE CALL BEGINS. Each datum BY PROGRAM (the guide's laid-datum.mjs) off the statement by which the dump's own 'gosem.cut.vars' lays the variable. In a bare row this is a premise. The card (YtpcdiilgomfpbaaDoorCards.lean) ties it to the program's text. -/
def laid_errors_errorType {H : Type} : DataW H := .iface "internal/reflectlite.rtype" (.agg [.ptr (.lit (.string [101, 114, 114, 111, 114]))])
def laid_vennhouse_atom_kinds {H : Type} : DataW H := .agg [.agg [.lit (.string []), .lit (.bool false), .lit (.bool false)], .agg [.lit (.string [115, 117, 98]), .lit (.bool true), .lit (.bool false)], .agg [.lit (.string [115, 97, 109, 101]), .lit (.bool true), .lit (.bool false)], .agg [.lit (.string [108, 101, 97, 115, 116]), .lit (.bool false), .lit (.bool true)], .agg [.lit (.string [109, 111, 115, 116]), .lit (.bool false), .lit (.bool true)], .agg [.lit (.string [110, 111, 109, 111, 114, 101]), .lit (.bool true), .lit (.bool true)]]

/-- 'vennlaw1.FitTells': WHATEVER THE INPUT: true; the input reads as it did. -/
def fitTellsSpec : ChangeSpec := { name := "fitTells", fn := fun _ => fun
  | [d1, d2, d3] => { results := [.lit (.bool true)], args := [d1, d2, d3] }
  | _ => none }
def fitTellsRow : OpenClaim := { program := "ytpcdiilgomfpbaadoor", sum := "58b0f8551a8ae7be9f70b49cede1a7fb23dcd355205a6c832e0938b99d23eb5f", func := "vennhouse/vennlaw1.FitTells", spec := "fitTells", inPlace := ["internal/reflectlite.ValueOf", "(internal/reflectlite.Value).Type", "(internal/reflectlite.Value).IsNil", "internal/reflectlite.TypeOf", "(internal/reflectlite.Value).Elem", "(internal/reflectlite.Value).Set"], unfollowed := true, recurses := true, named := ["errors.errorType"], apart := false, laid := [("errors.errorType", laid_errors_errorType)] }
def FitTellsSaid : Prop := fitTellsRow.holds Tryd.pinned (OpenSpec.ofChange fitTellsSpec)

/-- ITS FALSE NEIGHBOUR: 'it returns false'. Refute it at one input. -/
def fitTellsWrong : ChangeSpec := { name := "fitTells", fn := fun _ => fun
  | [d1, d2, d3] => { results := [.lit (.bool false)], args := [d1, d2, d3] }
  | _ => none }
def FitTellsWrongFalsely : Prop := fitTellsRow.holds Tryd.pinned (OpenSpec.ofChange fitTellsWrong)

/-- 'vennlaw4.TermTwice': WHATEVER THE INPUT: true; the input reads as it did. -/
def termTwiceSpec : ChangeSpec := { name := "termTwice", fn := fun _ => fun
  | [d1, d2] => { results := [.lit (.bool true)], args := [d1, d2] }
  | _ => none }
def termTwiceRow : OpenClaim := { program := "ytpcdiilgomfpbaadoor", sum := "58b0f8551a8ae7be9f70b49cede1a7fb23dcd355205a6c832e0938b99d23eb5f", func := "vennhouse/vennlaw4.TermTwice", spec := "termTwice", inPlace := ["internal/bytealg.IndexByteString", "internal/reflectlite.ValueOf", "(internal/reflectlite.Value).Type", "(internal/reflectlite.Value).IsNil", "internal/reflectlite.TypeOf", "(internal/reflectlite.Value).Elem", "(internal/reflectlite.Value).Set"], unfollowed := true, recurses := true, named := ["errors.errorType"], apart := false, laid := [("errors.errorType", laid_errors_errorType)] }
def TermTwiceSaid : Prop := termTwiceRow.holds Tryd.pinned (OpenSpec.ofChange termTwiceSpec)

/-- ITS FALSE NEIGHBOUR: 'it returns false'. Refute it at one input. -/
def termTwiceWrong : ChangeSpec := { name := "termTwice", fn := fun _ => fun
  | [d1, d2] => { results := [.lit (.bool false)], args := [d1, d2] }
  | _ => none }
def TermTwiceWrongFalsely : Prop := termTwiceRow.holds Tryd.pinned (OpenSpec.ofChange termTwiceWrong)

/-- 'vennlaw4.WorldsHalf': WHATEVER THE INPUT: true; the input reads as it did. -/
def worldsHalfSpec : ChangeSpec := { name := "worldsHalf", fn := fun _ => fun
  | [d1, d2] => { results := [.lit (.bool true)], args := [d1, d2] }
  | _ => none }
def worldsHalfRow : OpenClaim := { program := "ytpcdiilgomfpbaadoor", sum := "58b0f8551a8ae7be9f70b49cede1a7fb23dcd355205a6c832e0938b99d23eb5f", func := "vennhouse/vennlaw4.WorldsHalf", spec := "worldsHalf", unfollowed := true, recurses := true, named := ["vennhouse/atom.kinds"], apart := false, laid := [("vennhouse/atom.kinds", laid_vennhouse_atom_kinds)] }
def WorldsHalfSaid : Prop := worldsHalfRow.holds Tryd.pinned (OpenSpec.ofChange worldsHalfSpec)

/-- ITS FALSE NEIGHBOUR: 'it returns false'. Refute it at one input. -/
def worldsHalfWrong : ChangeSpec := { name := "worldsHalf", fn := fun _ => fun
  | [d1, d2] => { results := [.lit (.bool false)], args := [d1, d2] }
  | _ => none }
def WorldsHalfWrongFalsely : Prop := worldsHalfRow.holds Tryd.pinned (OpenSpec.ofChange worldsHalfWrong)

/-- 'vennlaw4.SpanAll': WHATEVER THE INPUT: true; the input reads as it did. -/
def spanAllSpec : ChangeSpec := { name := "spanAll", fn := fun _ => fun
  | [d1, d2] => { results := [.lit (.bool true)], args := [d1, d2] }
  | _ => none }
def spanAllRow : OpenClaim := { program := "ytpcdiilgomfpbaadoor", sum := "58b0f8551a8ae7be9f70b49cede1a7fb23dcd355205a6c832e0938b99d23eb5f", func := "vennhouse/vennlaw4.SpanAll", spec := "spanAll", unfollowed := true, recurses := true, named := ["vennhouse/atom.kinds"], apart := false, laid := [("vennhouse/atom.kinds", laid_vennhouse_atom_kinds)] }
def SpanAllSaid : Prop := spanAllRow.holds Tryd.pinned (OpenSpec.ofChange spanAllSpec)

/-- ITS FALSE NEIGHBOUR: 'it returns false'. Refute it at one input. -/
def spanAllWrong : ChangeSpec := { name := "spanAll", fn := fun _ => fun
  | [d1, d2] => { results := [.lit (.bool false)], args := [d1, d2] }
  | _ => none }
def SpanAllWrongFalsely : Prop := spanAllRow.holds Tryd.pinned (OpenSpec.ofChange spanAllWrong)

/-- 'venntop.TopSome': WHATEVER THE INPUT: true; the input reads as it did. -/
def topSomeSpec : ChangeSpec := { name := "topSome", fn := fun _ => fun
  | [d1, d2] => { results := [.lit (.bool true)], args := [d1, d2] }
  | _ => none }
def topSomeRow : OpenClaim := { program := "ytpcdiilgomfpbaadoor", sum := "58b0f8551a8ae7be9f70b49cede1a7fb23dcd355205a6c832e0938b99d23eb5f", func := "vennhouse/venntop.TopSome", spec := "topSome", unfollowed := true, recurses := true, named := ["vennhouse/atom.kinds"], apart := false, laid := [("vennhouse/atom.kinds", laid_vennhouse_atom_kinds)] }
def TopSomeSaid : Prop := topSomeRow.holds Tryd.pinned (OpenSpec.ofChange topSomeSpec)

/-- ITS FALSE NEIGHBOUR: 'it returns false'. Refute it at one input. -/
def topSomeWrong : ChangeSpec := { name := "topSome", fn := fun _ => fun
  | [d1, d2] => { results := [.lit (.bool false)], args := [d1, d2] }
  | _ => none }
def TopSomeWrongFalsely : Prop := topSomeRow.holds Tryd.pinned (OpenSpec.ofChange topSomeWrong)

/-- 'vennlaw1.FormTurns': WHATEVER THE INPUT: true; the input reads as it did. -/
def formTurnsSpec : ChangeSpec := { name := "formTurns", fn := fun _ => fun
  | [d1, d2, d3] => { results := [.lit (.bool true)], args := [d1, d2, d3] }
  | _ => none }
def formTurnsRow : OpenClaim := { program := "ytpcdiilgomfpbaadoor", sum := "58b0f8551a8ae7be9f70b49cede1a7fb23dcd355205a6c832e0938b99d23eb5f", func := "vennhouse/vennlaw1.FormTurns", spec := "formTurns", unfollowed := true, recurses := true, named := ["vennhouse/atom.kinds"], apart := false, laid := [("vennhouse/atom.kinds", laid_vennhouse_atom_kinds)] }
def FormTurnsSaid : Prop := formTurnsRow.holds Tryd.pinned (OpenSpec.ofChange formTurnsSpec)

/-- ITS FALSE NEIGHBOUR: 'it returns false'. Refute it at one input. -/
def formTurnsWrong : ChangeSpec := { name := "formTurns", fn := fun _ => fun
  | [d1, d2, d3] => { results := [.lit (.bool false)], args := [d1, d2, d3] }
  | _ => none }
def FormTurnsWrongFalsely : Prop := formTurnsRow.holds Tryd.pinned (OpenSpec.ofChange formTurnsWrong)

/-- 'vennlaw2.AlikeTells': WHATEVER THE INPUT: true; the input reads as it did. -/
def alikeTellsSpec : ChangeSpec := { name := "alikeTells", fn := fun _ => fun
  | [d1, d2, d3, d4] => { results := [.lit (.bool true)], args := [d1, d2, d3, d4] }
  | _ => none }
def alikeTellsRow : OpenClaim := { program := "ytpcdiilgomfpbaadoor", sum := "58b0f8551a8ae7be9f70b49cede1a7fb23dcd355205a6c832e0938b99d23eb5f", func := "vennhouse/vennlaw2.AlikeTells", spec := "alikeTells", inPlace := ["internal/reflectlite.ValueOf", "(internal/reflectlite.Value).Type", "(internal/reflectlite.Value).IsNil", "internal/reflectlite.TypeOf", "(internal/reflectlite.Value).Elem", "(internal/reflectlite.Value).Set"], unfollowed := true, recurses := true, named := ["errors.errorType"], apart := false, laid := [("errors.errorType", laid_errors_errorType)] }
def AlikeTellsSaid : Prop := alikeTellsRow.holds Tryd.pinned (OpenSpec.ofChange alikeTellsSpec)

/-- ITS FALSE NEIGHBOUR: 'it returns false'. Refute it at one input. -/
def alikeTellsWrong : ChangeSpec := { name := "alikeTells", fn := fun _ => fun
  | [d1, d2, d3, d4] => { results := [.lit (.bool false)], args := [d1, d2, d3, d4] }
  | _ => none }
def AlikeTellsWrongFalsely : Prop := alikeTellsRow.holds Tryd.pinned (OpenSpec.ofChange alikeTellsWrong)

/-- 'vennlaw1.TermTells': WHATEVER THE INPUT: true; the input reads as it did. -/
def termTellsSpec : ChangeSpec := { name := "termTells", fn := fun _ => fun
  | [d1, d2, d3] => { results := [.lit (.bool true)], args := [d1, d2, d3] }
  | _ => none }
def termTellsRow : OpenClaim := { program := "ytpcdiilgomfpbaadoor", sum := "58b0f8551a8ae7be9f70b49cede1a7fb23dcd355205a6c832e0938b99d23eb5f", func := "vennhouse/vennlaw1.TermTells", spec := "termTells", inPlace := ["internal/reflectlite.ValueOf", "(internal/reflectlite.Value).Type", "(internal/reflectlite.Value).IsNil", "internal/reflectlite.TypeOf", "(internal/reflectlite.Value).Elem", "(internal/reflectlite.Value).Set", "internal/abi.NoEscape", "internal/bytealg.IndexByteString"], unfollowed := true, recurses := true, named := ["errors.errorType"], apart := false, laid := [("errors.errorType", laid_errors_errorType)] }
def TermTellsSaid : Prop := termTellsRow.holds Tryd.pinned (OpenSpec.ofChange termTellsSpec)

/-- ITS FALSE NEIGHBOUR: 'it returns false'. Refute it at one input. -/
def termTellsWrong : ChangeSpec := { name := "termTells", fn := fun _ => fun
  | [d1, d2, d3] => { results := [.lit (.bool false)], args := [d1, d2, d3] }
  | _ => none }
def TermTellsWrongFalsely : Prop := termTellsRow.holds Tryd.pinned (OpenSpec.ofChange termTellsWrong)

/-- 'vennlaw4.AskMany': WHATEVER THE INPUT: true; the input reads as it did. -/
def askManySpec : ChangeSpec := { name := "askMany", fn := fun _ => fun
  | [d1, d2, d3, d4] => { results := [.lit (.bool true)], args := [d1, d2, d3, d4] }
  | _ => none }
def askManyRow : OpenClaim := { program := "ytpcdiilgomfpbaadoor", sum := "58b0f8551a8ae7be9f70b49cede1a7fb23dcd355205a6c832e0938b99d23eb5f", func := "vennhouse/vennlaw4.AskMany", spec := "askMany", unfollowed := true, recurses := true, named := ["vennhouse/atom.kinds"], apart := false, laid := [("vennhouse/atom.kinds", laid_vennhouse_atom_kinds)] }
def AskManySaid : Prop := askManyRow.holds Tryd.pinned (OpenSpec.ofChange askManySpec)

/-- ITS FALSE NEIGHBOUR: 'it returns false'. Refute it at one input. -/
def askManyWrong : ChangeSpec := { name := "askMany", fn := fun _ => fun
  | [d1, d2, d3, d4] => { results := [.lit (.bool false)], args := [d1, d2, d3, d4] }
  | _ => none }
def AskManyWrongFalsely : Prop := askManyRow.holds Tryd.pinned (OpenSpec.ofChange askManyWrong)

/-- 'vennlaw1.RowsSay': WHATEVER THE INPUT: true; the input reads as it did. -/
def rowsSaySpec : ChangeSpec := { name := "rowsSay", fn := fun _ => fun
  | [d1, d2] => { results := [.lit (.bool true)], args := [d1, d2] }
  | _ => none }
def rowsSayRow : OpenClaim := { program := "ytpcdiilgomfpbaadoor", sum := "58b0f8551a8ae7be9f70b49cede1a7fb23dcd355205a6c832e0938b99d23eb5f", func := "vennhouse/vennlaw1.RowsSay", spec := "rowsSay", unfollowed := true, recurses := true, named := ["vennhouse/atom.kinds"], apart := false, laid := [("vennhouse/atom.kinds", laid_vennhouse_atom_kinds)] }
def RowsSaySaid : Prop := rowsSayRow.holds Tryd.pinned (OpenSpec.ofChange rowsSaySpec)

/-- ITS FALSE NEIGHBOUR: 'it returns false'. Refute it at one input. -/
def rowsSayWrong : ChangeSpec := { name := "rowsSay", fn := fun _ => fun
  | [d1, d2] => { results := [.lit (.bool false)], args := [d1, d2] }
  | _ => none }
def RowsSayWrongFalsely : Prop := rowsSayRow.holds Tryd.pinned (OpenSpec.ofChange rowsSayWrong)

/-- 'vennlaw1.FieldsTell': WHATEVER THE INPUT: true; the input reads as it did. -/
def fieldsTellSpec : ChangeSpec := { name := "fieldsTell", fn := fun _ => fun
  | [d1, d2, d3] => { results := [.lit (.bool true)], args := [d1, d2, d3] }
  | _ => none }
def fieldsTellRow : OpenClaim := { program := "ytpcdiilgomfpbaadoor", sum := "58b0f8551a8ae7be9f70b49cede1a7fb23dcd355205a6c832e0938b99d23eb5f", func := "vennhouse/vennlaw1.FieldsTell", spec := "fieldsTell", inPlace := ["internal/reflectlite.ValueOf", "(internal/reflectlite.Value).Type", "(internal/reflectlite.Value).IsNil", "internal/reflectlite.TypeOf", "(internal/reflectlite.Value).Elem", "(internal/reflectlite.Value).Set"], unfollowed := true, recurses := true, named := ["errors.errorType"], apart := false, laid := [("errors.errorType", laid_errors_errorType)] }
def FieldsTellSaid : Prop := fieldsTellRow.holds Tryd.pinned (OpenSpec.ofChange fieldsTellSpec)

/-- ITS FALSE NEIGHBOUR: 'it returns false'. Refute it at one input. -/
def fieldsTellWrong : ChangeSpec := { name := "fieldsTell", fn := fun _ => fun
  | [d1, d2, d3] => { results := [.lit (.bool false)], args := [d1, d2, d3] }
  | _ => none }
def FieldsTellWrongFalsely : Prop := fieldsTellRow.holds Tryd.pinned (OpenSpec.ofChange fieldsTellWrong)

/-- 'vennlaw4.CoreAlone': WHATEVER THE INPUT: true; the input reads as it did. -/
def coreAloneSpec : ChangeSpec := { name := "coreAlone", fn := fun _ => fun
  | [d1, d2] => { results := [.lit (.bool true)], args := [d1, d2] }
  | _ => none }
def coreAloneRow : OpenClaim := { program := "ytpcdiilgomfpbaadoor", sum := "58b0f8551a8ae7be9f70b49cede1a7fb23dcd355205a6c832e0938b99d23eb5f", func := "vennhouse/vennlaw4.CoreAlone", spec := "coreAlone", unfollowed := true, recurses := true, named := ["vennhouse/atom.kinds"], apart := false, laid := [("vennhouse/atom.kinds", laid_vennhouse_atom_kinds)] }
def CoreAloneSaid : Prop := coreAloneRow.holds Tryd.pinned (OpenSpec.ofChange coreAloneSpec)

/-- ITS FALSE NEIGHBOUR: 'it returns false'. Refute it at one input. -/
def coreAloneWrong : ChangeSpec := { name := "coreAlone", fn := fun _ => fun
  | [d1, d2] => { results := [.lit (.bool false)], args := [d1, d2] }
  | _ => none }
def CoreAloneWrongFalsely : Prop := coreAloneRow.holds Tryd.pinned (OpenSpec.ofChange coreAloneWrong)

/- THE SECOND FORM. 'bulk': how many values and letters a reading holds, each counted each time it is reached (what is shared counts as often as it is met; a slice's spare places count too). A statement '..UptoSaid' is the law's where the arguments, and the package variables that the reading takes, are together of bulk at most 1048576: NARROWER than '..Said'. Prove '..Said' where nothing that the law and all that it calls make is longer than what came in: it says more and counts as full. Else prove '..UptoSaid'. A law counts once. -/
mutual
def uptoBulk {H : Type} : DataW H → Nat
  | .lit (.string bytes) => bytes.length + 1
  | .lit _ => 1
  | .nil => 1
  | .ptr d => uptoBulk d + 1
  | .slice elems spare => uptoBulkAll elems + uptoBulkAll spare + 1
  | .agg parts => uptoBulkAll parts + 1
  | .iface _ d => uptoBulk d + 1
  | .map entries => uptoBulkEntries entries + 1
  | .held _ => 1
def uptoBulkAll {H : Type} : List (DataW H) → Nat
  | [] => 0
  | d :: r => uptoBulk d + uptoBulkAll r
def uptoBulkEntries {H : Type} : List (Lit × DataW H) → Nat
  | [] => 0
  | x :: r => uptoBulkEntry x + uptoBulkEntries r
def uptoBulkEntry {H : Type} : Lit × DataW H → Nat
  | (.string bytes, d) => bytes.length + uptoBulk d + 1
  | (_, d) => uptoBulk d + 1
 end
def uptoSmall : (H : Type) → List (DataW H) → Bool := fun _ ds => decide (uptoBulkAll ds ≤ 1048576)
def OpenSpec.upto (s : _root_.Go.ChangeSpec) : _root_.Go.OpenSpec := { _root_.Go.OpenSpec.ofChange s with cond := some uptoSmall }

/-- 'vennlaw1.FitTells', WHERE WHAT IT READS IS OF BULK AT MOST 1048576: true; the input reads as it did. -/
def fitTellsUptoRow : OpenClaim := { program := "ytpcdiilgomfpbaadoor", sum := "58b0f8551a8ae7be9f70b49cede1a7fb23dcd355205a6c832e0938b99d23eb5f", func := "vennhouse/vennlaw1.FitTells", spec := "fitTells", inPlace := ["internal/reflectlite.ValueOf", "(internal/reflectlite.Value).Type", "(internal/reflectlite.Value).IsNil", "internal/reflectlite.TypeOf", "(internal/reflectlite.Value).Elem", "(internal/reflectlite.Value).Set"], unfollowed := true, recurses := true, named := ["errors.errorType"], apart := false, laid := [("errors.errorType", laid_errors_errorType)], narrowed := true }
def FitTellsUptoSaid : Prop := fitTellsUptoRow.holds Tryd.pinned (OpenSpec.upto fitTellsSpec)

/-- 'vennlaw4.TermTwice', WHERE WHAT IT READS IS OF BULK AT MOST 1048576: true; the input reads as it did. -/
def termTwiceUptoRow : OpenClaim := { program := "ytpcdiilgomfpbaadoor", sum := "58b0f8551a8ae7be9f70b49cede1a7fb23dcd355205a6c832e0938b99d23eb5f", func := "vennhouse/vennlaw4.TermTwice", spec := "termTwice", inPlace := ["internal/bytealg.IndexByteString", "internal/reflectlite.ValueOf", "(internal/reflectlite.Value).Type", "(internal/reflectlite.Value).IsNil", "internal/reflectlite.TypeOf", "(internal/reflectlite.Value).Elem", "(internal/reflectlite.Value).Set"], unfollowed := true, recurses := true, named := ["errors.errorType"], apart := false, laid := [("errors.errorType", laid_errors_errorType)], narrowed := true }
def TermTwiceUptoSaid : Prop := termTwiceUptoRow.holds Tryd.pinned (OpenSpec.upto termTwiceSpec)

/-- 'vennlaw4.WorldsHalf', WHERE WHAT IT READS IS OF BULK AT MOST 1048576: true; the input reads as it did. -/
def worldsHalfUptoRow : OpenClaim := { program := "ytpcdiilgomfpbaadoor", sum := "58b0f8551a8ae7be9f70b49cede1a7fb23dcd355205a6c832e0938b99d23eb5f", func := "vennhouse/vennlaw4.WorldsHalf", spec := "worldsHalf", unfollowed := true, recurses := true, named := ["vennhouse/atom.kinds"], apart := false, laid := [("vennhouse/atom.kinds", laid_vennhouse_atom_kinds)], narrowed := true }
def WorldsHalfUptoSaid : Prop := worldsHalfUptoRow.holds Tryd.pinned (OpenSpec.upto worldsHalfSpec)

/-- 'vennlaw4.SpanAll', WHERE WHAT IT READS IS OF BULK AT MOST 1048576: true; the input reads as it did. -/
def spanAllUptoRow : OpenClaim := { program := "ytpcdiilgomfpbaadoor", sum := "58b0f8551a8ae7be9f70b49cede1a7fb23dcd355205a6c832e0938b99d23eb5f", func := "vennhouse/vennlaw4.SpanAll", spec := "spanAll", unfollowed := true, recurses := true, named := ["vennhouse/atom.kinds"], apart := false, laid := [("vennhouse/atom.kinds", laid_vennhouse_atom_kinds)], narrowed := true }
def SpanAllUptoSaid : Prop := spanAllUptoRow.holds Tryd.pinned (OpenSpec.upto spanAllSpec)

/-- 'venntop.TopSome', WHERE WHAT IT READS IS OF BULK AT MOST 1048576: true; the input reads as it did. -/
def topSomeUptoRow : OpenClaim := { program := "ytpcdiilgomfpbaadoor", sum := "58b0f8551a8ae7be9f70b49cede1a7fb23dcd355205a6c832e0938b99d23eb5f", func := "vennhouse/venntop.TopSome", spec := "topSome", unfollowed := true, recurses := true, named := ["vennhouse/atom.kinds"], apart := false, laid := [("vennhouse/atom.kinds", laid_vennhouse_atom_kinds)], narrowed := true }
def TopSomeUptoSaid : Prop := topSomeUptoRow.holds Tryd.pinned (OpenSpec.upto topSomeSpec)

/-- 'vennlaw1.FormTurns', WHERE WHAT IT READS IS OF BULK AT MOST 1048576: true; the input reads as it did. -/
def formTurnsUptoRow : OpenClaim := { program := "ytpcdiilgomfpbaadoor", sum := "58b0f8551a8ae7be9f70b49cede1a7fb23dcd355205a6c832e0938b99d23eb5f", func := "vennhouse/vennlaw1.FormTurns", spec := "formTurns", unfollowed := true, recurses := true, named := ["vennhouse/atom.kinds"], apart := false, laid := [("vennhouse/atom.kinds", laid_vennhouse_atom_kinds)], narrowed := true }
def FormTurnsUptoSaid : Prop := formTurnsUptoRow.holds Tryd.pinned (OpenSpec.upto formTurnsSpec)

/-- 'vennlaw2.AlikeTells', WHERE WHAT IT READS IS OF BULK AT MOST 1048576: true; the input reads as it did. -/
def alikeTellsUptoRow : OpenClaim := { program := "ytpcdiilgomfpbaadoor", sum := "58b0f8551a8ae7be9f70b49cede1a7fb23dcd355205a6c832e0938b99d23eb5f", func := "vennhouse/vennlaw2.AlikeTells", spec := "alikeTells", inPlace := ["internal/reflectlite.ValueOf", "(internal/reflectlite.Value).Type", "(internal/reflectlite.Value).IsNil", "internal/reflectlite.TypeOf", "(internal/reflectlite.Value).Elem", "(internal/reflectlite.Value).Set"], unfollowed := true, recurses := true, named := ["errors.errorType"], apart := false, laid := [("errors.errorType", laid_errors_errorType)], narrowed := true }
def AlikeTellsUptoSaid : Prop := alikeTellsUptoRow.holds Tryd.pinned (OpenSpec.upto alikeTellsSpec)

/-- 'vennlaw1.TermTells', WHERE WHAT IT READS IS OF BULK AT MOST 1048576: true; the input reads as it did. -/
def termTellsUptoRow : OpenClaim := { program := "ytpcdiilgomfpbaadoor", sum := "58b0f8551a8ae7be9f70b49cede1a7fb23dcd355205a6c832e0938b99d23eb5f", func := "vennhouse/vennlaw1.TermTells", spec := "termTells", inPlace := ["internal/reflectlite.ValueOf", "(internal/reflectlite.Value).Type", "(internal/reflectlite.Value).IsNil", "internal/reflectlite.TypeOf", "(internal/reflectlite.Value).Elem", "(internal/reflectlite.Value).Set", "internal/abi.NoEscape", "internal/bytealg.IndexByteString"], unfollowed := true, recurses := true, named := ["errors.errorType"], apart := false, laid := [("errors.errorType", laid_errors_errorType)], narrowed := true }
def TermTellsUptoSaid : Prop := termTellsUptoRow.holds Tryd.pinned (OpenSpec.upto termTellsSpec)

/-- 'vennlaw4.AskMany', WHERE WHAT IT READS IS OF BULK AT MOST 1048576: true; the input reads as it did. -/
def askManyUptoRow : OpenClaim := { program := "ytpcdiilgomfpbaadoor", sum := "58b0f8551a8ae7be9f70b49cede1a7fb23dcd355205a6c832e0938b99d23eb5f", func := "vennhouse/vennlaw4.AskMany", spec := "askMany", unfollowed := true, recurses := true, named := ["vennhouse/atom.kinds"], apart := false, laid := [("vennhouse/atom.kinds", laid_vennhouse_atom_kinds)], narrowed := true }
def AskManyUptoSaid : Prop := askManyUptoRow.holds Tryd.pinned (OpenSpec.upto askManySpec)

/-- 'vennlaw1.RowsSay', WHERE WHAT IT READS IS OF BULK AT MOST 1048576: true; the input reads as it did. -/
def rowsSayUptoRow : OpenClaim := { program := "ytpcdiilgomfpbaadoor", sum := "58b0f8551a8ae7be9f70b49cede1a7fb23dcd355205a6c832e0938b99d23eb5f", func := "vennhouse/vennlaw1.RowsSay", spec := "rowsSay", unfollowed := true, recurses := true, named := ["vennhouse/atom.kinds"], apart := false, laid := [("vennhouse/atom.kinds", laid_vennhouse_atom_kinds)], narrowed := true }
def RowsSayUptoSaid : Prop := rowsSayUptoRow.holds Tryd.pinned (OpenSpec.upto rowsSaySpec)

/-- 'vennlaw1.FieldsTell', WHERE WHAT IT READS IS OF BULK AT MOST 1048576: true; the input reads as it did. -/
def fieldsTellUptoRow : OpenClaim := { program := "ytpcdiilgomfpbaadoor", sum := "58b0f8551a8ae7be9f70b49cede1a7fb23dcd355205a6c832e0938b99d23eb5f", func := "vennhouse/vennlaw1.FieldsTell", spec := "fieldsTell", inPlace := ["internal/reflectlite.ValueOf", "(internal/reflectlite.Value).Type", "(internal/reflectlite.Value).IsNil", "internal/reflectlite.TypeOf", "(internal/reflectlite.Value).Elem", "(internal/reflectlite.Value).Set"], unfollowed := true, recurses := true, named := ["errors.errorType"], apart := false, laid := [("errors.errorType", laid_errors_errorType)], narrowed := true }
def FieldsTellUptoSaid : Prop := fieldsTellUptoRow.holds Tryd.pinned (OpenSpec.upto fieldsTellSpec)

/-- 'vennlaw4.CoreAlone', WHERE WHAT IT READS IS OF BULK AT MOST 1048576: true; the input reads as it did. -/
def coreAloneUptoRow : OpenClaim := { program := "ytpcdiilgomfpbaadoor", sum := "58b0f8551a8ae7be9f70b49cede1a7fb23dcd355205a6c832e0938b99d23eb5f", func := "vennhouse/vennlaw4.CoreAlone", spec := "coreAlone", unfollowed := true, recurses := true, named := ["vennhouse/atom.kinds"], apart := false, laid := [("vennhouse/atom.kinds", laid_vennhouse_atom_kinds)], narrowed := true }
def CoreAloneUptoSaid : Prop := coreAloneUptoRow.holds Tryd.pinned (OpenSpec.upto coreAloneSpec)

end Rows
end Go.Proofs.YtpcdiilgomfpbaaDoor
