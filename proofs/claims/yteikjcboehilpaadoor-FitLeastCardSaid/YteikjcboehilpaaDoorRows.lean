/-
  NARROWER THAN 'FOR EVERY INPUT', by the rows' own cells (each row's printed sentence says how): RowsNot: laid · AtomNone: laid · SetsTell: laid · SetsAll: laid · FitEnds: laid · FitLeast: laid · SomeName: laid.
  DERIVED. THE GIVEN ROWS OF THIS SEAT. 7 by the template 'for every input the law returns true; each argument reads behind the call as it read before'; 0 by the template 'total and deterministic' (their statements: YteikjcboehilpaaDoorTotals.lean).
  GIVEN WITH THE SEED: the statements are not yours to turn. If you find one false, say at which input.
  Laid BY PROGRAM, IN A SANDBOX (cutbox-rows.mjs): the forced cells as the released guide's own fill.sh prints them over the translation c018ae2a17881003… (all of the seat's roots in one cut). By AI agents, Wed Nov 11 2026. No macro, syntax, notation, axiom, sorry.
-/
import Derived.Test.YteikjcboehilpaaDoorChecked
import GoSem.Claim
import GoSem.ClaimJoined
import GoSem.ClaimMapViews
import Derived.JoinedTies
import Derived.KernelRfl
namespace Go.Proofs.YteikjcboehilpaaDoor
/- THE CELL 'sum', in the pinned program and in every row, IS THE sha256 OF THE DUMP (.gsa) THAT YteikjcboehilpaaDoorProg.lean LOADS. Nothing in Lean hashes anything: it is a label: what it is worth is what the hold of that sum in a sandbox is worth. -/
noncomputable def Tryd.pinned : Pinned := { name := "yteikjcboehilpaadoor", sum := "c018ae2a178810037bb4a00d6b399a0a74bbe76cdee63d37d0544bd61109f41d", checked := Tryd.checked }
namespace Rows
def none {H : Type} : Left H := { results := [], args := [] }

/- WHAT THE LISTED PACKAGE-LEVEL VARIABLES READ AS WHEN THE CALL BEGINS. Each datum BY PROGRAM (the guide's laid-datum.mjs) off the statement by which the dump's own 'gosem.cut.vars' lays the variable. In a bare row this is a premise. The card (YteikjcboehilpaaDoorCards.lean) ties it to the program's text. -/
def laid_vennhouse_atom_kinds {H : Type} : DataW H := .agg [.agg [.lit (.string []), .lit (.bool false), .lit (.bool false)], .agg [.lit (.string [115, 117, 98]), .lit (.bool true), .lit (.bool false)], .agg [.lit (.string [115, 97, 109, 101]), .lit (.bool true), .lit (.bool false)], .agg [.lit (.string [108, 101, 97, 115, 116]), .lit (.bool false), .lit (.bool true)], .agg [.lit (.string [109, 111, 115, 116]), .lit (.bool false), .lit (.bool true)], .agg [.lit (.string [110, 111, 109, 111, 114, 101]), .lit (.bool true), .lit (.bool true)]]
def laid_errors_errorType {H : Type} : DataW H := .iface "internal/reflectlite.rtype" (.agg [.ptr (.lit (.string [101, 114, 114, 111, 114]))])

/-- 'vennlaw4.RowsNot': WHATEVER THE INPUT: true; the input reads as it did. -/
def rowsNotSpec : ChangeSpec := { name := "rowsNot", fn := fun _ => fun
  | [d] => { results := [.lit (.bool true)], args := [d] }
  | _ => none }
def rowsNotRow : OpenClaim := { program := "yteikjcboehilpaadoor", sum := "c018ae2a178810037bb4a00d6b399a0a74bbe76cdee63d37d0544bd61109f41d", func := "vennhouse/vennlaw4.RowsNot", spec := "rowsNot", unfollowed := true, recurses := true, named := ["vennhouse/atom.kinds"], apart := false, laid := [("vennhouse/atom.kinds", laid_vennhouse_atom_kinds)] }
def RowsNotSaid : Prop := rowsNotRow.holds Tryd.pinned (OpenSpec.ofChange rowsNotSpec)

/-- ITS FALSE NEIGHBOUR: 'it returns false'. Refute it at one input. -/
def rowsNotWrong : ChangeSpec := { name := "rowsNot", fn := fun _ => fun
  | [d] => { results := [.lit (.bool false)], args := [d] }
  | _ => none }
def RowsNotWrongFalsely : Prop := rowsNotRow.holds Tryd.pinned (OpenSpec.ofChange rowsNotWrong)

/-- 'vennlaw4.AtomNone': WHATEVER THE INPUT: true; the input reads as it did. -/
def atomNoneSpec : ChangeSpec := { name := "atomNone", fn := fun _ => fun
  | [d1, d2] => { results := [.lit (.bool true)], args := [d1, d2] }
  | _ => none }
def atomNoneRow : OpenClaim := { program := "yteikjcboehilpaadoor", sum := "c018ae2a178810037bb4a00d6b399a0a74bbe76cdee63d37d0544bd61109f41d", func := "vennhouse/vennlaw4.AtomNone", spec := "atomNone", unfollowed := true, recurses := true, named := ["vennhouse/atom.kinds"], apart := false, laid := [("vennhouse/atom.kinds", laid_vennhouse_atom_kinds)] }
def AtomNoneSaid : Prop := atomNoneRow.holds Tryd.pinned (OpenSpec.ofChange atomNoneSpec)

/-- ITS FALSE NEIGHBOUR: 'it returns false'. Refute it at one input. -/
def atomNoneWrong : ChangeSpec := { name := "atomNone", fn := fun _ => fun
  | [d1, d2] => { results := [.lit (.bool false)], args := [d1, d2] }
  | _ => none }
def AtomNoneWrongFalsely : Prop := atomNoneRow.holds Tryd.pinned (OpenSpec.ofChange atomNoneWrong)

/-- 'vennlaw1.SetsTell': WHATEVER THE INPUT: true; the input reads as it did. -/
def setsTellSpec : ChangeSpec := { name := "setsTell", fn := fun _ => fun
  | [d1, d2, d3, d4, d5] => { results := [.lit (.bool true)], args := [d1, d2, d3, d4, d5] }
  | _ => none }
def setsTellRow : OpenClaim := { program := "yteikjcboehilpaadoor", sum := "c018ae2a178810037bb4a00d6b399a0a74bbe76cdee63d37d0544bd61109f41d", func := "vennhouse/vennlaw1.SetsTell", spec := "setsTell", inPlace := ["internal/reflectlite.ValueOf", "(internal/reflectlite.Value).Type", "(internal/reflectlite.Value).IsNil", "internal/reflectlite.TypeOf", "(internal/reflectlite.Value).Elem", "(internal/reflectlite.Value).Set"], unfollowed := true, recurses := true, named := ["errors.errorType"], apart := false, laid := [("errors.errorType", laid_errors_errorType)] }
def SetsTellSaid : Prop := setsTellRow.holds Tryd.pinned (OpenSpec.ofChange setsTellSpec)

/-- ITS FALSE NEIGHBOUR: 'it returns false'. Refute it at one input. -/
def setsTellWrong : ChangeSpec := { name := "setsTell", fn := fun _ => fun
  | [d1, d2, d3, d4, d5] => { results := [.lit (.bool false)], args := [d1, d2, d3, d4, d5] }
  | _ => none }
def SetsTellWrongFalsely : Prop := setsTellRow.holds Tryd.pinned (OpenSpec.ofChange setsTellWrong)

/-- 'vennlaw4.SetsAll': WHATEVER THE INPUT: true; the input reads as it did. -/
def setsAllSpec : ChangeSpec := { name := "setsAll", fn := fun _ => fun
  | [d1, d2] => { results := [.lit (.bool true)], args := [d1, d2] }
  | _ => none }
def setsAllRow : OpenClaim := { program := "yteikjcboehilpaadoor", sum := "c018ae2a178810037bb4a00d6b399a0a74bbe76cdee63d37d0544bd61109f41d", func := "vennhouse/vennlaw4.SetsAll", spec := "setsAll", inPlace := ["internal/reflectlite.ValueOf", "(internal/reflectlite.Value).Type", "(internal/reflectlite.Value).IsNil", "internal/reflectlite.TypeOf", "(internal/reflectlite.Value).Elem", "(internal/reflectlite.Value).Set"], unfollowed := true, recurses := true, named := ["errors.errorType"], apart := false, laid := [("errors.errorType", laid_errors_errorType)] }
def SetsAllSaid : Prop := setsAllRow.holds Tryd.pinned (OpenSpec.ofChange setsAllSpec)

/-- ITS FALSE NEIGHBOUR: 'it returns false'. Refute it at one input. -/
def setsAllWrong : ChangeSpec := { name := "setsAll", fn := fun _ => fun
  | [d1, d2] => { results := [.lit (.bool false)], args := [d1, d2] }
  | _ => none }
def SetsAllWrongFalsely : Prop := setsAllRow.holds Tryd.pinned (OpenSpec.ofChange setsAllWrong)

/-- 'vennlaw4.FitEnds': WHATEVER THE INPUT: true; the input reads as it did. -/
def fitEndsSpec : ChangeSpec := { name := "fitEnds", fn := fun _ => fun
  | [d] => { results := [.lit (.bool true)], args := [d] }
  | _ => none }
def fitEndsRow : OpenClaim := { program := "yteikjcboehilpaadoor", sum := "c018ae2a178810037bb4a00d6b399a0a74bbe76cdee63d37d0544bd61109f41d", func := "vennhouse/vennlaw4.FitEnds", spec := "fitEnds", inPlace := ["internal/reflectlite.ValueOf", "(internal/reflectlite.Value).Type", "(internal/reflectlite.Value).IsNil", "internal/reflectlite.TypeOf", "(internal/reflectlite.Value).Elem", "(internal/reflectlite.Value).Set"], unfollowed := true, recurses := true, named := ["errors.errorType"], apart := false, laid := [("errors.errorType", laid_errors_errorType)] }
def FitEndsSaid : Prop := fitEndsRow.holds Tryd.pinned (OpenSpec.ofChange fitEndsSpec)

/-- ITS FALSE NEIGHBOUR: 'it returns false'. Refute it at one input. -/
def fitEndsWrong : ChangeSpec := { name := "fitEnds", fn := fun _ => fun
  | [d] => { results := [.lit (.bool false)], args := [d] }
  | _ => none }
def FitEndsWrongFalsely : Prop := fitEndsRow.holds Tryd.pinned (OpenSpec.ofChange fitEndsWrong)

/-- 'vennlaw1.FitLeast': WHATEVER THE INPUT: true; the input reads as it did. -/
def fitLeastSpec : ChangeSpec := { name := "fitLeast", fn := fun _ => fun
  | [d1, d2, d3, d4] => { results := [.lit (.bool true)], args := [d1, d2, d3, d4] }
  | _ => none }
def fitLeastRow : OpenClaim := { program := "yteikjcboehilpaadoor", sum := "c018ae2a178810037bb4a00d6b399a0a74bbe76cdee63d37d0544bd61109f41d", func := "vennhouse/vennlaw1.FitLeast", spec := "fitLeast", inPlace := ["internal/reflectlite.ValueOf", "(internal/reflectlite.Value).Type", "(internal/reflectlite.Value).IsNil", "internal/reflectlite.TypeOf", "(internal/reflectlite.Value).Elem", "(internal/reflectlite.Value).Set"], unfollowed := true, recurses := true, named := ["errors.errorType"], apart := false, laid := [("errors.errorType", laid_errors_errorType)] }
def FitLeastSaid : Prop := fitLeastRow.holds Tryd.pinned (OpenSpec.ofChange fitLeastSpec)

/-- ITS FALSE NEIGHBOUR: 'it returns false'. Refute it at one input. -/
def fitLeastWrong : ChangeSpec := { name := "fitLeast", fn := fun _ => fun
  | [d1, d2, d3, d4] => { results := [.lit (.bool false)], args := [d1, d2, d3, d4] }
  | _ => none }
def FitLeastWrongFalsely : Prop := fitLeastRow.holds Tryd.pinned (OpenSpec.ofChange fitLeastWrong)

/-- 'vennlaw4.SomeName': WHATEVER THE INPUT: true; the input reads as it did. -/
def someNameSpec : ChangeSpec := { name := "someName", fn := fun _ => fun
  | [d1, d2, d3] => { results := [.lit (.bool true)], args := [d1, d2, d3] }
  | _ => none }
def someNameRow : OpenClaim := { program := "yteikjcboehilpaadoor", sum := "c018ae2a178810037bb4a00d6b399a0a74bbe76cdee63d37d0544bd61109f41d", func := "vennhouse/vennlaw4.SomeName", spec := "someName", unfollowed := true, recurses := true, named := ["vennhouse/atom.kinds"], apart := false, laid := [("vennhouse/atom.kinds", laid_vennhouse_atom_kinds)] }
def SomeNameSaid : Prop := someNameRow.holds Tryd.pinned (OpenSpec.ofChange someNameSpec)

/-- ITS FALSE NEIGHBOUR: 'it returns false'. Refute it at one input. -/
def someNameWrong : ChangeSpec := { name := "someName", fn := fun _ => fun
  | [d1, d2, d3] => { results := [.lit (.bool false)], args := [d1, d2, d3] }
  | _ => none }
def SomeNameWrongFalsely : Prop := someNameRow.holds Tryd.pinned (OpenSpec.ofChange someNameWrong)

/- THE SECOND FORM. 'bulk': how many values and letters a reading holds, each counted each time it is reached (what is shared counts as often as it is met; a slice's spare places count too). A statement '..UptoSaid' is the law's where the arguments, and the package variables that the reading takes, are together of bulk at most 1048576: NARROWER than '..Said'. Prove '..Said' where nothing that the law and all that it calls make is longer than what came in: it says more and counts as full. Else prove '..UptoSaid'. A law counts once. -/
mutual
def uptoBulk {H : Type} : DataW H → Nat
  | .lit (.string bytes) => bytes.length + 1
  | .lit _ => 1
  | .nil => 1
  | .ptr d => uptoBulk d + 1
  | .slice elems spare => uptoBulkAll elems + uptoBulkAll spare + 1
  | .agg parts => uptoBulkAll parts + 1
  | .iface _ d => uptoBulk d + 1
  | .map entries => uptoBulkEntries entries + 1
  | .held _ => 1
def uptoBulkAll {H : Type} : List (DataW H) → Nat
  | [] => 0
  | d :: r => uptoBulk d + uptoBulkAll r
def uptoBulkEntries {H : Type} : List (Lit × DataW H) → Nat
  | [] => 0
  | x :: r => uptoBulkEntry x + uptoBulkEntries r
def uptoBulkEntry {H : Type} : Lit × DataW H → Nat
  | (.string bytes, d) => bytes.length + uptoBulk d + 1
  | (_, d) => uptoBulk d + 1
 end
def uptoSmall : (H : Type) → List (DataW H) → Bool := fun _ ds => decide (uptoBulkAll ds ≤ 1048576)
def OpenSpec.upto (s : _root_.Go.ChangeSpec) : _root_.Go.OpenSpec := { _root_.Go.OpenSpec.ofChange s with cond := some uptoSmall }

/-- 'vennlaw4.RowsNot', WHERE WHAT IT READS IS OF BULK AT MOST 1048576: true; the input reads as it did. -/
def rowsNotUptoRow : OpenClaim := { program := "yteikjcboehilpaadoor", sum := "c018ae2a178810037bb4a00d6b399a0a74bbe76cdee63d37d0544bd61109f41d", func := "vennhouse/vennlaw4.RowsNot", spec := "rowsNot", unfollowed := true, recurses := true, named := ["vennhouse/atom.kinds"], apart := false, laid := [("vennhouse/atom.kinds", laid_vennhouse_atom_kinds)], narrowed := true }
def RowsNotUptoSaid : Prop := rowsNotUptoRow.holds Tryd.pinned (OpenSpec.upto rowsNotSpec)

/-- 'vennlaw4.AtomNone', WHERE WHAT IT READS IS OF BULK AT MOST 1048576: true; the input reads as it did. -/
def atomNoneUptoRow : OpenClaim := { program := "yteikjcboehilpaadoor", sum := "c018ae2a178810037bb4a00d6b399a0a74bbe76cdee63d37d0544bd61109f41d", func := "vennhouse/vennlaw4.AtomNone", spec := "atomNone", unfollowed := true, recurses := true, named := ["vennhouse/atom.kinds"], apart := false, laid := [("vennhouse/atom.kinds", laid_vennhouse_atom_kinds)], narrowed := true }
def AtomNoneUptoSaid : Prop := atomNoneUptoRow.holds Tryd.pinned (OpenSpec.upto atomNoneSpec)

/-- 'vennlaw1.SetsTell', WHERE WHAT IT READS IS OF BULK AT MOST 1048576: true; the input reads as it did. -/
def setsTellUptoRow : OpenClaim := { program := "yteikjcboehilpaadoor", sum := "c018ae2a178810037bb4a00d6b399a0a74bbe76cdee63d37d0544bd61109f41d", func := "vennhouse/vennlaw1.SetsTell", spec := "setsTell", inPlace := ["internal/reflectlite.ValueOf", "(internal/reflectlite.Value).Type", "(internal/reflectlite.Value).IsNil", "internal/reflectlite.TypeOf", "(internal/reflectlite.Value).Elem", "(internal/reflectlite.Value).Set"], unfollowed := true, recurses := true, named := ["errors.errorType"], apart := false, laid := [("errors.errorType", laid_errors_errorType)], narrowed := true }
def SetsTellUptoSaid : Prop := setsTellUptoRow.holds Tryd.pinned (OpenSpec.upto setsTellSpec)

/-- 'vennlaw4.SetsAll', WHERE WHAT IT READS IS OF BULK AT MOST 1048576: true; the input reads as it did. -/
def setsAllUptoRow : OpenClaim := { program := "yteikjcboehilpaadoor", sum := "c018ae2a178810037bb4a00d6b399a0a74bbe76cdee63d37d0544bd61109f41d", func := "vennhouse/vennlaw4.SetsAll", spec := "setsAll", inPlace := ["internal/reflectlite.ValueOf", "(internal/reflectlite.Value).Type", "(internal/reflectlite.Value).IsNil", "internal/reflectlite.TypeOf", "(internal/reflectlite.Value).Elem", "(internal/reflectlite.Value).Set"], unfollowed := true, recurses := true, named := ["errors.errorType"], apart := false, laid := [("errors.errorType", laid_errors_errorType)], narrowed := true }
def SetsAllUptoSaid : Prop := setsAllUptoRow.holds Tryd.pinned (OpenSpec.upto setsAllSpec)

/-- 'vennlaw4.FitEnds', WHERE WHAT IT READS IS OF BULK AT MOST 1048576: true; the input reads as it did. -/
def fitEndsUptoRow : OpenClaim := { program := "yteikjcboehilpaadoor", sum := "c018ae2a178810037bb4a00d6b399a0a74bbe76cdee63d37d0544bd61109f41d", func := "vennhouse/vennlaw4.FitEnds", spec := "fitEnds", inPlace := ["internal/reflectlite.ValueOf", "(internal/reflectlite.Value).Type", "(internal/reflectlite.Value).IsNil", "internal/reflectlite.TypeOf", "(internal/reflectlite.Value).Elem", "(internal/reflectlite.Value).Set"], unfollowed := true, recurses := true, named := ["errors.errorType"], apart := false, laid := [("errors.errorType", laid_errors_errorType)], narrowed := true }
def FitEndsUptoSaid : Prop := fitEndsUptoRow.holds Tryd.pinned (OpenSpec.upto fitEndsSpec)

/-- 'vennlaw1.FitLeast', WHERE WHAT IT READS IS OF BULK AT MOST 1048576: true; the input reads as it did. -/
def fitLeastUptoRow : OpenClaim := { program := "yteikjcboehilpaadoor", sum := "c018ae2a178810037bb4a00d6b399a0a74bbe76cdee63d37d0544bd61109f41d", func := "vennhouse/vennlaw1.FitLeast", spec := "fitLeast", inPlace := ["internal/reflectlite.ValueOf", "(internal/reflectlite.Value).Type", "(internal/reflectlite.Value).IsNil", "internal/reflectlite.TypeOf", "(internal/reflectlite.Value).Elem", "(internal/reflectlite.Value).Set"], unfollowed := true, recurses := true, named := ["errors.errorType"], apart := false, laid := [("errors.errorType", laid_errors_errorType)], narrowed := true }
def FitLeastUptoSaid : Prop := fitLeastUptoRow.holds Tryd.pinned (OpenSpec.upto fitLeastSpec)

/-- 'vennlaw4.SomeName', WHERE WHAT IT READS IS OF BULK AT MOST 1048576: true; the input reads as it did. -/
def someNameUptoRow : OpenClaim := { program := "yteikjcboehilpaadoor", sum := "c018ae2a178810037bb4a00d6b399a0a74bbe76cdee63d37d0544bd61109f41d", func := "vennhouse/vennlaw4.SomeName", spec := "someName", unfollowed := true, recurses := true, named := ["vennhouse/atom.kinds"], apart := false, laid := [("vennhouse/atom.kinds", laid_vennhouse_atom_kinds)], narrowed := true }
def SomeNameUptoSaid : Prop := someNameUptoRow.holds Tryd.pinned (OpenSpec.upto someNameSpec)

end Rows
end Go.Proofs.YteikjcboehilpaaDoor
