/-
  NARROWER THAN 'FOR EVERY INPUT', by the rows' own cells (each row's printed sentence says how): TurnTells: laid · CubesOne: laid · CubesSay: laid.
  DERIVED. THE GIVEN ROWS OF THIS SEAT. 3 by the template 'for every input the law returns true; each argument reads behind the call as it read before'; 0 by the template 'total and deterministic' (their statements: YtlpfbdejiifbpaaDoorTotals.lean).
  GIVEN WITH THE SEED: the statements are not yours to turn. If you find one false, say at which input.
  Laid BY PROGRAM, IN A SANDBOX (cutbox-rows.mjs): the forced cells as the released guide's own fill.sh prints them over the translation 7aa3961dc23f1162… (all of the seat's roots in one cut). By AI agents, Wed Nov 11 2026. No macro, syntax, notation, axiom, sorry.
-/
import Derived.Test.YtlpfbdejiifbpaaDoorChecked
import GoSem.Claim
import GoSem.ClaimJoined
import GoSem.ClaimMapViews
import Derived.JoinedTies
import Derived.KernelRfl
namespace Go.Proofs.YtlpfbdejiifbpaaDoor
/- THE CELL 'sum', in the pinned program and in every row, IS THE sha256 OF THE DUMP (.gsa) THAT YtlpfbdejiifbpaaDoorProg.lean LOADS. Nothing in Lean hashes anything: it is a label: what it is worth is what the hold of that sum in a sandbox is worth. -/
noncomputable def Tryd.pinned : Pinned := { name := "ytlpfbdejiifbpaadoor", sum := "7aa3961dc23f1162326f8828c9aa4adf090d7e1d79e9fa7c7de69ec0f03832b1", checked := Tryd.checked }
namespace Rows
def none {H : Type} : Left H := { results := [], args := [] }

/- WHAT THE LISTED PACKAGE-LEVEL VARIABLES READ AS WHEN THE CALL BEGINS. Each datum BY PROGRAM (the guide's laid-datum.mjs) off the statement by which the dump's own 'gosem.cut.vars' lays the variable. In a bare row this is a premise. The card (YtlpfbdejiifbpaaDoorCards.lean) ties it to the program's text. -/
def laid_errors_errorType {H : Type} : DataW H := .iface "internal/reflectlite.rtype" (.agg [.ptr (.lit (.string [101, 114, 114, 111, 114]))])
def laid_vennhouse_atom_kinds {H : Type} : DataW H := .agg [.agg [.lit (.string []), .lit (.bool false), .lit (.bool false)], .agg [.lit (.string [115, 117, 98]), .lit (.bool true), .lit (.bool false)], .agg [.lit (.string [115, 97, 109, 101]), .lit (.bool true), .lit (.bool false)], .agg [.lit (.string [108, 101, 97, 115, 116]), .lit (.bool false), .lit (.bool true)], .agg [.lit (.string [109, 111, 115, 116]), .lit (.bool false), .lit (.bool true)], .agg [.lit (.string [110, 111, 109, 111, 114, 101]), .lit (.bool true), .lit (.bool true)]]

/-- 'vennlaw2.TurnTells': WHATEVER THE INPUT: true; the input reads as it did. -/
def turnTellsSpec : ChangeSpec := { name := "turnTells", fn := fun _ => fun
  | [d1, d2, d3, d4] => { results := [.lit (.bool true)], args := [d1, d2, d3, d4] }
  | _ => none }
def turnTellsRow : OpenClaim := { program := "ytlpfbdejiifbpaadoor", sum := "7aa3961dc23f1162326f8828c9aa4adf090d7e1d79e9fa7c7de69ec0f03832b1", func := "vennhouse/vennlaw2.TurnTells", spec := "turnTells", inPlace := ["internal/reflectlite.ValueOf", "(internal/reflectlite.Value).Type", "(internal/reflectlite.Value).IsNil", "internal/reflectlite.TypeOf", "(internal/reflectlite.Value).Elem", "(internal/reflectlite.Value).Set"], unfollowed := true, recurses := true, named := ["vennhouse/atom.kinds", "errors.errorType"], apart := false, laid := [("errors.errorType", laid_errors_errorType), ("vennhouse/atom.kinds", laid_vennhouse_atom_kinds)] }
def TurnTellsSaid : Prop := turnTellsRow.holds Tryd.pinned (OpenSpec.ofChange turnTellsSpec)

/-- ITS FALSE NEIGHBOUR: 'it returns false'. Refute it at one input. -/
def turnTellsWrong : ChangeSpec := { name := "turnTells", fn := fun _ => fun
  | [d1, d2, d3, d4] => { results := [.lit (.bool false)], args := [d1, d2, d3, d4] }
  | _ => none }
def TurnTellsWrongFalsely : Prop := turnTellsRow.holds Tryd.pinned (OpenSpec.ofChange turnTellsWrong)

/-- 'vennlaw4.CubesOne': WHATEVER THE INPUT: true; the input reads as it did. -/
def cubesOneSpec : ChangeSpec := { name := "cubesOne", fn := fun _ => fun
  | [d] => { results := [.lit (.bool true)], args := [d] }
  | _ => none }
def cubesOneRow : OpenClaim := { program := "ytlpfbdejiifbpaadoor", sum := "7aa3961dc23f1162326f8828c9aa4adf090d7e1d79e9fa7c7de69ec0f03832b1", func := "vennhouse/vennlaw4.CubesOne", spec := "cubesOne", unfollowed := true, recurses := true, named := ["vennhouse/atom.kinds"], apart := false, laid := [("vennhouse/atom.kinds", laid_vennhouse_atom_kinds)] }
def CubesOneSaid : Prop := cubesOneRow.holds Tryd.pinned (OpenSpec.ofChange cubesOneSpec)

/-- ITS FALSE NEIGHBOUR: 'it returns false'. Refute it at one input. -/
def cubesOneWrong : ChangeSpec := { name := "cubesOne", fn := fun _ => fun
  | [d] => { results := [.lit (.bool false)], args := [d] }
  | _ => none }
def CubesOneWrongFalsely : Prop := cubesOneRow.holds Tryd.pinned (OpenSpec.ofChange cubesOneWrong)

/-- 'vennlaw1.CubesSay': WHATEVER THE INPUT: true; the input reads as it did. -/
def cubesSaySpec : ChangeSpec := { name := "cubesSay", fn := fun _ => fun
  | [d1, d2] => { results := [.lit (.bool true)], args := [d1, d2] }
  | _ => none }
def cubesSayRow : OpenClaim := { program := "ytlpfbdejiifbpaadoor", sum := "7aa3961dc23f1162326f8828c9aa4adf090d7e1d79e9fa7c7de69ec0f03832b1", func := "vennhouse/vennlaw1.CubesSay", spec := "cubesSay", unfollowed := true, recurses := true, named := ["vennhouse/atom.kinds"], apart := false, laid := [("vennhouse/atom.kinds", laid_vennhouse_atom_kinds)] }
def CubesSaySaid : Prop := cubesSayRow.holds Tryd.pinned (OpenSpec.ofChange cubesSaySpec)

/-- ITS FALSE NEIGHBOUR: 'it returns false'. Refute it at one input. -/
def cubesSayWrong : ChangeSpec := { name := "cubesSay", fn := fun _ => fun
  | [d1, d2] => { results := [.lit (.bool false)], args := [d1, d2] }
  | _ => none }
def CubesSayWrongFalsely : Prop := cubesSayRow.holds Tryd.pinned (OpenSpec.ofChange cubesSayWrong)

/- THE SECOND FORM. 'bulk': how many values and letters a reading holds, each counted each time it is reached (what is shared counts as often as it is met; a slice's spare places count too). A statement '..UptoSaid' is the law's where the arguments, and the package variables that the reading takes, are together of bulk at most 1048576: NARROWER than '..Said'. Prove '..Said' where nothing that the law and all that it calls make is longer than what came in: it says more and counts as full. Else prove '..UptoSaid'. A law counts once. -/
mutual
def uptoBulk {H : Type} : DataW H → Nat
  | .lit (.string bytes) => bytes.length + 1
  | .lit _ => 1
  | .nil => 1
  | .ptr d => uptoBulk d + 1
  | .slice elems spare => uptoBulkAll elems + uptoBulkAll spare + 1
  | .agg parts => uptoBulkAll parts + 1
  | .iface _ d => uptoBulk d + 1
  | .map entries => uptoBulkEntries entries + 1
  | .held _ => 1
def uptoBulkAll {H : Type} : List (DataW H) → Nat
  | [] => 0
  | d :: r => uptoBulk d + uptoBulkAll r
def uptoBulkEntries {H : Type} : List (Lit × DataW H) → Nat
  | [] => 0
  | x :: r => uptoBulkEntry x + uptoBulkEntries r
def uptoBulkEntry {H : Type} : Lit × DataW H → Nat
  | (.string bytes, d) => bytes.length + uptoBulk d + 1
  | (_, d) => uptoBulk d + 1
 end
def uptoSmall : (H : Type) → List (DataW H) → Bool := fun _ ds => decide (uptoBulkAll ds ≤ 1048576)
def OpenSpec.upto (s : _root_.Go.ChangeSpec) : _root_.Go.OpenSpec := { _root_.Go.OpenSpec.ofChange s with cond := some uptoSmall }

/-- 'vennlaw2.TurnTells', WHERE WHAT IT READS IS OF BULK AT MOST 1048576: true; the input reads as it did. -/
def turnTellsUptoRow : OpenClaim := { program := "ytlpfbdejiifbpaadoor", sum := "7aa3961dc23f1162326f8828c9aa4adf090d7e1d79e9fa7c7de69ec0f03832b1", func := "vennhouse/vennlaw2.TurnTells", spec := "turnTells", inPlace := ["internal/reflectlite.ValueOf", "(internal/reflectlite.Value).Type", "(internal/reflectlite.Value).IsNil", "internal/reflectlite.TypeOf", "(internal/reflectlite.Value).Elem", "(internal/reflectlite.Value).Set"], unfollowed := true, recurses := true, named := ["vennhouse/atom.kinds", "errors.errorType"], apart := false, laid := [("errors.errorType", laid_errors_errorType), ("vennhouse/atom.kinds", laid_vennhouse_atom_kinds)], narrowed := true }
def TurnTellsUptoSaid : Prop := turnTellsUptoRow.holds Tryd.pinned (OpenSpec.upto turnTellsSpec)

/-- 'vennlaw4.CubesOne', WHERE WHAT IT READS IS OF BULK AT MOST 1048576: true; the input reads as it did. -/
def cubesOneUptoRow : OpenClaim := { program := "ytlpfbdejiifbpaadoor", sum := "7aa3961dc23f1162326f8828c9aa4adf090d7e1d79e9fa7c7de69ec0f03832b1", func := "vennhouse/vennlaw4.CubesOne", spec := "cubesOne", unfollowed := true, recurses := true, named := ["vennhouse/atom.kinds"], apart := false, laid := [("vennhouse/atom.kinds", laid_vennhouse_atom_kinds)], narrowed := true }
def CubesOneUptoSaid : Prop := cubesOneUptoRow.holds Tryd.pinned (OpenSpec.upto cubesOneSpec)

/-- 'vennlaw1.CubesSay', WHERE WHAT IT READS IS OF BULK AT MOST 1048576: true; the input reads as it did. -/
def cubesSayUptoRow : OpenClaim := { program := "ytlpfbdejiifbpaadoor", sum := "7aa3961dc23f1162326f8828c9aa4adf090d7e1d79e9fa7c7de69ec0f03832b1", func := "vennhouse/vennlaw1.CubesSay", spec := "cubesSay", unfollowed := true, recurses := true, named := ["vennhouse/atom.kinds"], apart := false, laid := [("vennhouse/atom.kinds", laid_vennhouse_atom_kinds)], narrowed := true }
def CubesSayUptoSaid : Prop := cubesSayUptoRow.holds Tryd.pinned (OpenSpec.upto cubesSaySpec)

end Rows
end Go.Proofs.YtlpfbdejiifbpaaDoor
