/-
  NARROWER THAN 'FOR EVERY INPUT', by the rows' own cells (each row's printed sentence says how): ModelTells: laid · ModelMany: laid · ModelHolds: laid · LeastTells: laid · LeastMany: laid · LeastFew: laid · AlikeWorlds: laid · WorldsAll: laid.
  DERIVED. THE GIVEN ROWS OF THIS SEAT. 8 by the template 'for every input the law returns true; each argument reads behind the call as it read before'; 0 by the template 'total and deterministic' (their statements: YtpkleioabinkkaaGreatDoorTotals.lean).
  GIVEN WITH THE SEED: the statements are not yours to turn. If you find one false, say at which input.
  Laid BY PROGRAM, IN A SANDBOX (cutbox-rows.mjs): the forced cells as the released guide's own fill.sh prints them over the translation 6e930b8f5ab02609… (all of the seat's roots in one cut). By AI agents, Wed Nov 11 2026. No macro, syntax, notation, axiom, sorry.
-/
import Derived.Test.YtpkleioabinkkaaGreatDoorChecked
import GoSem.Claim
import GoSem.ClaimJoined
import GoSem.ClaimMapViews
import Derived.JoinedTies
import Derived.KernelRfl
namespace Go.Proofs.YtpkleioabinkkaaGreatDoor
/- THE CELL 'sum', in the pinned program and in every row, IS THE sha256 OF THE DUMP (.gsa) THAT YtpkleioabinkkaaGreatDoorProg.lean LOADS. Nothing in Lean hashes anything: it is a label: what it is worth is what the hold of that sum in a sandbox is worth. -/
noncomputable def Tryz.pinned : Pinned := { name := "ytpkleioabinkkaagreatdoor", sum := "6e930b8f5ab02609f04bc73dd80f4a259cee07d3f222e411f1b710803e15f734", checked := Tryz.checked }
namespace Rows
def none {H : Type} : Left H := { results := [], args := [] }

/- WHAT THE LISTED PACKAGE-LEVEL VARIABLES READ AS WHEN THE CALL BEGINS. Each datum BY PROGRAM (the guide's laid-datum.mjs) off the statement by which the dump's own 'gosem.cut.vars' lays the variable. In a bare row this is a premise. The card (YtpkleioabinkkaaGreatDoorCards.lean) ties it to the program's text. -/
def laid_errors_errorType {H : Type} : DataW H := .iface "internal/reflectlite.rtype" (.agg [.ptr (.lit (.string [101, 114, 114, 111, 114]))])
def laid_vennhouse_atom_kinds {H : Type} : DataW H := .agg [.agg [.lit (.string []), .lit (.bool false), .lit (.bool false)], .agg [.lit (.string [115, 117, 98]), .lit (.bool true), .lit (.bool false)], .agg [.lit (.string [115, 97, 109, 101]), .lit (.bool true), .lit (.bool false)], .agg [.lit (.string [108, 101, 97, 115, 116]), .lit (.bool false), .lit (.bool true)], .agg [.lit (.string [109, 111, 115, 116]), .lit (.bool false), .lit (.bool true)], .agg [.lit (.string [110, 111, 109, 111, 114, 101]), .lit (.bool true), .lit (.bool true)]]

/-- 'vennlaw1.ModelTells': WHATEVER THE INPUT: true; the input reads as it did. -/
def modelTellsSpec : ChangeSpec := { name := "modelTells", fn := fun _ => fun
  | [d1, d2] => { results := [.lit (.bool true)], args := [d1, d2] }
  | _ => none }
def modelTellsRow : OpenClaim := { program := "ytpkleioabinkkaagreatdoor", sum := "6e930b8f5ab02609f04bc73dd80f4a259cee07d3f222e411f1b710803e15f734", func := "vennhouse/vennlaw1.ModelTells", spec := "modelTells", inPlace := ["internal/reflectlite.ValueOf", "(internal/reflectlite.Value).Type", "(internal/reflectlite.Value).IsNil", "internal/reflectlite.TypeOf", "(internal/reflectlite.Value).Elem", "(internal/reflectlite.Value).Set"], unfollowed := true, recurses := true, named := ["vennhouse/atom.kinds", "errors.errorType"], apart := false, laid := [("errors.errorType", laid_errors_errorType), ("vennhouse/atom.kinds", laid_vennhouse_atom_kinds)] }
def ModelTellsSaid : Prop := modelTellsRow.holds Tryz.pinned (OpenSpec.ofChange modelTellsSpec)

/-- ITS FALSE NEIGHBOUR: 'it returns false'. Refute it at one input. -/
def modelTellsWrong : ChangeSpec := { name := "modelTells", fn := fun _ => fun
  | [d1, d2] => { results := [.lit (.bool false)], args := [d1, d2] }
  | _ => none }
def ModelTellsWrongFalsely : Prop := modelTellsRow.holds Tryz.pinned (OpenSpec.ofChange modelTellsWrong)

/-- 'vennlaw4.ModelMany': WHATEVER THE INPUT: true; the input reads as it did. -/
def modelManySpec : ChangeSpec := { name := "modelMany", fn := fun _ => fun
  | [d1, d2] => { results := [.lit (.bool true)], args := [d1, d2] }
  | _ => none }
def modelManyRow : OpenClaim := { program := "ytpkleioabinkkaagreatdoor", sum := "6e930b8f5ab02609f04bc73dd80f4a259cee07d3f222e411f1b710803e15f734", func := "vennhouse/vennlaw4.ModelMany", spec := "modelMany", inPlace := ["internal/reflectlite.ValueOf", "(internal/reflectlite.Value).Type", "(internal/reflectlite.Value).IsNil", "internal/reflectlite.TypeOf", "(internal/reflectlite.Value).Elem", "(internal/reflectlite.Value).Set"], unfollowed := true, recurses := true, named := ["vennhouse/atom.kinds", "errors.errorType"], apart := false, laid := [("errors.errorType", laid_errors_errorType), ("vennhouse/atom.kinds", laid_vennhouse_atom_kinds)] }
def ModelManySaid : Prop := modelManyRow.holds Tryz.pinned (OpenSpec.ofChange modelManySpec)

/-- ITS FALSE NEIGHBOUR: 'it returns false'. Refute it at one input. -/
def modelManyWrong : ChangeSpec := { name := "modelMany", fn := fun _ => fun
  | [d1, d2] => { results := [.lit (.bool false)], args := [d1, d2] }
  | _ => none }
def ModelManyWrongFalsely : Prop := modelManyRow.holds Tryz.pinned (OpenSpec.ofChange modelManyWrong)

/-- 'vennlaw1.ModelHolds': WHATEVER THE INPUT: true; the input reads as it did. -/
def modelHoldsSpec : ChangeSpec := { name := "modelHolds", fn := fun _ => fun
  | [d1, d2, d3] => { results := [.lit (.bool true)], args := [d1, d2, d3] }
  | _ => none }
def modelHoldsRow : OpenClaim := { program := "ytpkleioabinkkaagreatdoor", sum := "6e930b8f5ab02609f04bc73dd80f4a259cee07d3f222e411f1b710803e15f734", func := "vennhouse/vennlaw1.ModelHolds", spec := "modelHolds", inPlace := ["internal/reflectlite.ValueOf", "(internal/reflectlite.Value).Type", "(internal/reflectlite.Value).IsNil", "internal/reflectlite.TypeOf", "(internal/reflectlite.Value).Elem", "(internal/reflectlite.Value).Set"], unfollowed := true, recurses := true, named := ["vennhouse/atom.kinds", "errors.errorType"], apart := false, laid := [("errors.errorType", laid_errors_errorType), ("vennhouse/atom.kinds", laid_vennhouse_atom_kinds)] }
def ModelHoldsSaid : Prop := modelHoldsRow.holds Tryz.pinned (OpenSpec.ofChange modelHoldsSpec)

/-- ITS FALSE NEIGHBOUR: 'it returns false'. Refute it at one input. -/
def modelHoldsWrong : ChangeSpec := { name := "modelHolds", fn := fun _ => fun
  | [d1, d2, d3] => { results := [.lit (.bool false)], args := [d1, d2, d3] }
  | _ => none }
def ModelHoldsWrongFalsely : Prop := modelHoldsRow.holds Tryz.pinned (OpenSpec.ofChange modelHoldsWrong)

/-- 'vennlaw2.LeastTells': WHATEVER THE INPUT: true; the input reads as it did. -/
def leastTellsSpec : ChangeSpec := { name := "leastTells", fn := fun _ => fun
  | [d] => { results := [.lit (.bool true)], args := [d] }
  | _ => none }
def leastTellsRow : OpenClaim := { program := "ytpkleioabinkkaagreatdoor", sum := "6e930b8f5ab02609f04bc73dd80f4a259cee07d3f222e411f1b710803e15f734", func := "vennhouse/vennlaw2.LeastTells", spec := "leastTells", inPlace := ["internal/reflectlite.ValueOf", "(internal/reflectlite.Value).Type", "(internal/reflectlite.Value).IsNil", "internal/reflectlite.TypeOf", "(internal/reflectlite.Value).Elem", "(internal/reflectlite.Value).Set"], unfollowed := true, recurses := true, named := ["vennhouse/atom.kinds", "errors.errorType"], apart := false, laid := [("errors.errorType", laid_errors_errorType), ("vennhouse/atom.kinds", laid_vennhouse_atom_kinds)] }
def LeastTellsSaid : Prop := leastTellsRow.holds Tryz.pinned (OpenSpec.ofChange leastTellsSpec)

/-- ITS FALSE NEIGHBOUR: 'it returns false'. Refute it at one input. -/
def leastTellsWrong : ChangeSpec := { name := "leastTells", fn := fun _ => fun
  | [d] => { results := [.lit (.bool false)], args := [d] }
  | _ => none }
def LeastTellsWrongFalsely : Prop := leastTellsRow.holds Tryz.pinned (OpenSpec.ofChange leastTellsWrong)

/-- 'vennlaw4.LeastMany': WHATEVER THE INPUT: true; the input reads as it did. -/
def leastManySpec : ChangeSpec := { name := "leastMany", fn := fun _ => fun
  | [d1, d2] => { results := [.lit (.bool true)], args := [d1, d2] }
  | _ => none }
def leastManyRow : OpenClaim := { program := "ytpkleioabinkkaagreatdoor", sum := "6e930b8f5ab02609f04bc73dd80f4a259cee07d3f222e411f1b710803e15f734", func := "vennhouse/vennlaw4.LeastMany", spec := "leastMany", inPlace := ["internal/reflectlite.ValueOf", "(internal/reflectlite.Value).Type", "(internal/reflectlite.Value).IsNil", "internal/reflectlite.TypeOf", "(internal/reflectlite.Value).Elem", "(internal/reflectlite.Value).Set"], unfollowed := true, recurses := true, named := ["vennhouse/atom.kinds", "errors.errorType"], apart := false, laid := [("errors.errorType", laid_errors_errorType), ("vennhouse/atom.kinds", laid_vennhouse_atom_kinds)] }
def LeastManySaid : Prop := leastManyRow.holds Tryz.pinned (OpenSpec.ofChange leastManySpec)

/-- ITS FALSE NEIGHBOUR: 'it returns false'. Refute it at one input. -/
def leastManyWrong : ChangeSpec := { name := "leastMany", fn := fun _ => fun
  | [d1, d2] => { results := [.lit (.bool false)], args := [d1, d2] }
  | _ => none }
def LeastManyWrongFalsely : Prop := leastManyRow.holds Tryz.pinned (OpenSpec.ofChange leastManyWrong)

/-- 'vennlaw2.LeastFew': WHATEVER THE INPUT: true; the input reads as it did. -/
def leastFewSpec : ChangeSpec := { name := "leastFew", fn := fun _ => fun
  | [d1, d2] => { results := [.lit (.bool true)], args := [d1, d2] }
  | _ => none }
def leastFewRow : OpenClaim := { program := "ytpkleioabinkkaagreatdoor", sum := "6e930b8f5ab02609f04bc73dd80f4a259cee07d3f222e411f1b710803e15f734", func := "vennhouse/vennlaw2.LeastFew", spec := "leastFew", inPlace := ["internal/reflectlite.ValueOf", "(internal/reflectlite.Value).Type", "(internal/reflectlite.Value).IsNil", "internal/reflectlite.TypeOf", "(internal/reflectlite.Value).Elem", "(internal/reflectlite.Value).Set"], unfollowed := true, recurses := true, named := ["vennhouse/atom.kinds", "errors.errorType"], apart := false, laid := [("errors.errorType", laid_errors_errorType), ("vennhouse/atom.kinds", laid_vennhouse_atom_kinds)] }
def LeastFewSaid : Prop := leastFewRow.holds Tryz.pinned (OpenSpec.ofChange leastFewSpec)

/-- ITS FALSE NEIGHBOUR: 'it returns false'. Refute it at one input. -/
def leastFewWrong : ChangeSpec := { name := "leastFew", fn := fun _ => fun
  | [d1, d2] => { results := [.lit (.bool false)], args := [d1, d2] }
  | _ => none }
def LeastFewWrongFalsely : Prop := leastFewRow.holds Tryz.pinned (OpenSpec.ofChange leastFewWrong)

/-- 'vennlaw2.AlikeWorlds': WHATEVER THE INPUT: true; the input reads as it did. -/
def alikeWorldsSpec : ChangeSpec := { name := "alikeWorlds", fn := fun _ => fun
  | [d1, d2, d3, d4, d5] => { results := [.lit (.bool true)], args := [d1, d2, d3, d4, d5] }
  | _ => none }
def alikeWorldsRow : OpenClaim := { program := "ytpkleioabinkkaagreatdoor", sum := "6e930b8f5ab02609f04bc73dd80f4a259cee07d3f222e411f1b710803e15f734", func := "vennhouse/vennlaw2.AlikeWorlds", spec := "alikeWorlds", inPlace := ["internal/reflectlite.ValueOf", "(internal/reflectlite.Value).Type", "(internal/reflectlite.Value).IsNil", "internal/reflectlite.TypeOf", "(internal/reflectlite.Value).Elem", "(internal/reflectlite.Value).Set"], unfollowed := true, recurses := true, named := ["vennhouse/atom.kinds", "errors.errorType"], apart := false, laid := [("errors.errorType", laid_errors_errorType), ("vennhouse/atom.kinds", laid_vennhouse_atom_kinds)] }
def AlikeWorldsSaid : Prop := alikeWorldsRow.holds Tryz.pinned (OpenSpec.ofChange alikeWorldsSpec)

/-- ITS FALSE NEIGHBOUR: 'it returns false'. Refute it at one input. -/
def alikeWorldsWrong : ChangeSpec := { name := "alikeWorlds", fn := fun _ => fun
  | [d1, d2, d3, d4, d5] => { results := [.lit (.bool false)], args := [d1, d2, d3, d4, d5] }
  | _ => none }
def AlikeWorldsWrongFalsely : Prop := alikeWorldsRow.holds Tryz.pinned (OpenSpec.ofChange alikeWorldsWrong)

/-- 'vennlaw2.WorldsAll': WHATEVER THE INPUT: true; the input reads as it did. -/
def worldsAllSpec : ChangeSpec := { name := "worldsAll", fn := fun _ => fun
  | [d1, d2, d3] => { results := [.lit (.bool true)], args := [d1, d2, d3] }
  | _ => none }
def worldsAllRow : OpenClaim := { program := "ytpkleioabinkkaagreatdoor", sum := "6e930b8f5ab02609f04bc73dd80f4a259cee07d3f222e411f1b710803e15f734", func := "vennhouse/vennlaw2.WorldsAll", spec := "worldsAll", inPlace := ["internal/reflectlite.ValueOf", "(internal/reflectlite.Value).Type", "(internal/reflectlite.Value).IsNil", "internal/reflectlite.TypeOf", "(internal/reflectlite.Value).Elem", "(internal/reflectlite.Value).Set"], unfollowed := true, recurses := true, named := ["vennhouse/atom.kinds", "errors.errorType"], apart := false, laid := [("errors.errorType", laid_errors_errorType), ("vennhouse/atom.kinds", laid_vennhouse_atom_kinds)] }
def WorldsAllSaid : Prop := worldsAllRow.holds Tryz.pinned (OpenSpec.ofChange worldsAllSpec)

/-- ITS FALSE NEIGHBOUR: 'it returns false'. Refute it at one input. -/
def worldsAllWrong : ChangeSpec := { name := "worldsAll", fn := fun _ => fun
  | [d1, d2, d3] => { results := [.lit (.bool false)], args := [d1, d2, d3] }
  | _ => none }
def WorldsAllWrongFalsely : Prop := worldsAllRow.holds Tryz.pinned (OpenSpec.ofChange worldsAllWrong)

/- THE SECOND FORM. 'bulk': how many values and letters a reading holds, each counted each time it is reached (what is shared counts as often as it is met; a slice's spare places count too). A statement '..UptoSaid' is the law's where the arguments, and the package variables that the reading takes, are together of bulk at most 1048576: NARROWER than '..Said'. Prove '..Said' where nothing that the law and all that it calls make is longer than what came in: it says more and counts as full. Else prove '..UptoSaid'. A law counts once. -/
mutual
def uptoBulk {H : Type} : DataW H → Nat
  | .lit (.string bytes) => bytes.length + 1
  | .lit _ => 1
  | .nil => 1
  | .ptr d => uptoBulk d + 1
  | .slice elems spare => uptoBulkAll elems + uptoBulkAll spare + 1
  | .agg parts => uptoBulkAll parts + 1
  | .iface _ d => uptoBulk d + 1
  | .map entries => uptoBulkEntries entries + 1
  | .held _ => 1
def uptoBulkAll {H : Type} : List (DataW H) → Nat
  | [] => 0
  | d :: r => uptoBulk d + uptoBulkAll r
def uptoBulkEntries {H : Type} : List (Lit × DataW H) → Nat
  | [] => 0
  | x :: r => uptoBulkEntry x + uptoBulkEntries r
def uptoBulkEntry {H : Type} : Lit × DataW H → Nat
  | (.string bytes, d) => bytes.length + uptoBulk d + 1
  | (_, d) => uptoBulk d + 1
 end
def uptoSmall : (H : Type) → List (DataW H) → Bool := fun _ ds => decide (uptoBulkAll ds ≤ 1048576)
def OpenSpec.upto (s : _root_.Go.ChangeSpec) : _root_.Go.OpenSpec := { _root_.Go.OpenSpec.ofChange s with cond := some uptoSmall }

/-- 'vennlaw1.ModelTells', WHERE WHAT IT READS IS OF BULK AT MOST 1048576: true; the input reads as it did. -/
def modelTellsUptoRow : OpenClaim := { program := "ytpkleioabinkkaagreatdoor", sum := "6e930b8f5ab02609f04bc73dd80f4a259cee07d3f222e411f1b710803e15f734", func := "vennhouse/vennlaw1.ModelTells", spec := "modelTells", inPlace := ["internal/reflectlite.ValueOf", "(internal/reflectlite.Value).Type", "(internal/reflectlite.Value).IsNil", "internal/reflectlite.TypeOf", "(internal/reflectlite.Value).Elem", "(internal/reflectlite.Value).Set"], unfollowed := true, recurses := true, named := ["vennhouse/atom.kinds", "errors.errorType"], apart := false, laid := [("errors.errorType", laid_errors_errorType), ("vennhouse/atom.kinds", laid_vennhouse_atom_kinds)], narrowed := true }
def ModelTellsUptoSaid : Prop := modelTellsUptoRow.holds Tryz.pinned (OpenSpec.upto modelTellsSpec)

/-- 'vennlaw4.ModelMany', WHERE WHAT IT READS IS OF BULK AT MOST 1048576: true; the input reads as it did. -/
def modelManyUptoRow : OpenClaim := { program := "ytpkleioabinkkaagreatdoor", sum := "6e930b8f5ab02609f04bc73dd80f4a259cee07d3f222e411f1b710803e15f734", func := "vennhouse/vennlaw4.ModelMany", spec := "modelMany", inPlace := ["internal/reflectlite.ValueOf", "(internal/reflectlite.Value).Type", "(internal/reflectlite.Value).IsNil", "internal/reflectlite.TypeOf", "(internal/reflectlite.Value).Elem", "(internal/reflectlite.Value).Set"], unfollowed := true, recurses := true, named := ["vennhouse/atom.kinds", "errors.errorType"], apart := false, laid := [("errors.errorType", laid_errors_errorType), ("vennhouse/atom.kinds", laid_vennhouse_atom_kinds)], narrowed := true }
def ModelManyUptoSaid : Prop := modelManyUptoRow.holds Tryz.pinned (OpenSpec.upto modelManySpec)

/-- 'vennlaw1.ModelHolds', WHERE WHAT IT READS IS OF BULK AT MOST 1048576: true; the input reads as it did. -/
def modelHoldsUptoRow : OpenClaim := { program := "ytpkleioabinkkaagreatdoor", sum := "6e930b8f5ab02609f04bc73dd80f4a259cee07d3f222e411f1b710803e15f734", func := "vennhouse/vennlaw1.ModelHolds", spec := "modelHolds", inPlace := ["internal/reflectlite.ValueOf", "(internal/reflectlite.Value).Type", "(internal/reflectlite.Value).IsNil", "internal/reflectlite.TypeOf", "(internal/reflectlite.Value).Elem", "(internal/reflectlite.Value).Set"], unfollowed := true, recurses := true, named := ["vennhouse/atom.kinds", "errors.errorType"], apart := false, laid := [("errors.errorType", laid_errors_errorType), ("vennhouse/atom.kinds", laid_vennhouse_atom_kinds)], narrowed := true }
def ModelHoldsUptoSaid : Prop := modelHoldsUptoRow.holds Tryz.pinned (OpenSpec.upto modelHoldsSpec)

/-- 'vennlaw2.LeastTells', WHERE WHAT IT READS IS OF BULK AT MOST 1048576: true; the input reads as it did. -/
def leastTellsUptoRow : OpenClaim := { program := "ytpkleioabinkkaagreatdoor", sum := "6e930b8f5ab02609f04bc73dd80f4a259cee07d3f222e411f1b710803e15f734", func := "vennhouse/vennlaw2.LeastTells", spec := "leastTells", inPlace := ["internal/reflectlite.ValueOf", "(internal/reflectlite.Value).Type", "(internal/reflectlite.Value).IsNil", "internal/reflectlite.TypeOf", "(internal/reflectlite.Value).Elem", "(internal/reflectlite.Value).Set"], unfollowed := true, recurses := true, named := ["vennhouse/atom.kinds", "errors.errorType"], apart := false, laid := [("errors.errorType", laid_errors_errorType), ("vennhouse/atom.kinds", laid_vennhouse_atom_kinds)], narrowed := true }
def LeastTellsUptoSaid : Prop := leastTellsUptoRow.holds Tryz.pinned (OpenSpec.upto leastTellsSpec)

/-- 'vennlaw4.LeastMany', WHERE WHAT IT READS IS OF BULK AT MOST 1048576: true; the input reads as it did. -/
def leastManyUptoRow : OpenClaim := { program := "ytpkleioabinkkaagreatdoor", sum := "6e930b8f5ab02609f04bc73dd80f4a259cee07d3f222e411f1b710803e15f734", func := "vennhouse/vennlaw4.LeastMany", spec := "leastMany", inPlace := ["internal/reflectlite.ValueOf", "(internal/reflectlite.Value).Type", "(internal/reflectlite.Value).IsNil", "internal/reflectlite.TypeOf", "(internal/reflectlite.Value).Elem", "(internal/reflectlite.Value).Set"], unfollowed := true, recurses := true, named := ["vennhouse/atom.kinds", "errors.errorType"], apart := false, laid := [("errors.errorType", laid_errors_errorType), ("vennhouse/atom.kinds", laid_vennhouse_atom_kinds)], narrowed := true }
def LeastManyUptoSaid : Prop := leastManyUptoRow.holds Tryz.pinned (OpenSpec.upto leastManySpec)

/-- 'vennlaw2.LeastFew', WHERE WHAT IT READS IS OF BULK AT MOST 1048576: true; the input reads as it did. -/
def leastFewUptoRow : OpenClaim := { program := "ytpkleioabinkkaagreatdoor", sum := "6e930b8f5ab02609f04bc73dd80f4a259cee07d3f222e411f1b710803e15f734", func := "vennhouse/vennlaw2.LeastFew", spec := "leastFew", inPlace := ["internal/reflectlite.ValueOf", "(internal/reflectlite.Value).Type", "(internal/reflectlite.Value).IsNil", "internal/reflectlite.TypeOf", "(internal/reflectlite.Value).Elem", "(internal/reflectlite.Value).Set"], unfollowed := true, recurses := true, named := ["vennhouse/atom.kinds", "errors.errorType"], apart := false, laid := [("errors.errorType", laid_errors_errorType), ("vennhouse/atom.kinds", laid_vennhouse_atom_kinds)], narrowed := true }
def LeastFewUptoSaid : Prop := leastFewUptoRow.holds Tryz.pinned (OpenSpec.upto leastFewSpec)

/-- 'vennlaw2.AlikeWorlds', WHERE WHAT IT READS IS OF BULK AT MOST 1048576: true; the input reads as it did. -/
def alikeWorldsUptoRow : OpenClaim := { program := "ytpkleioabinkkaagreatdoor", sum := "6e930b8f5ab02609f04bc73dd80f4a259cee07d3f222e411f1b710803e15f734", func := "vennhouse/vennlaw2.AlikeWorlds", spec := "alikeWorlds", inPlace := ["internal/reflectlite.ValueOf", "(internal/reflectlite.Value).Type", "(internal/reflectlite.Value).IsNil", "internal/reflectlite.TypeOf", "(internal/reflectlite.Value).Elem", "(internal/reflectlite.Value).Set"], unfollowed := true, recurses := true, named := ["vennhouse/atom.kinds", "errors.errorType"], apart := false, laid := [("errors.errorType", laid_errors_errorType), ("vennhouse/atom.kinds", laid_vennhouse_atom_kinds)], narrowed := true }
def AlikeWorldsUptoSaid : Prop := alikeWorldsUptoRow.holds Tryz.pinned (OpenSpec.upto alikeWorldsSpec)

/-- 'vennlaw2.WorldsAll', WHERE WHAT IT READS IS OF BULK AT MOST 1048576: true; the input reads as it did. -/
def worldsAllUptoRow : OpenClaim := { program := "ytpkleioabinkkaagreatdoor", sum := "6e930b8f5ab02609f04bc73dd80f4a259cee07d3f222e411f1b710803e15f734", func := "vennhouse/vennlaw2.WorldsAll", spec := "worldsAll", inPlace := ["internal/reflectlite.ValueOf", "(internal/reflectlite.Value).Type", "(internal/reflectlite.Value).IsNil", "internal/reflectlite.TypeOf", "(internal/reflectlite.Value).Elem", "(internal/reflectlite.Value).Set"], unfollowed := true, recurses := true, named := ["vennhouse/atom.kinds", "errors.errorType"], apart := false, laid := [("errors.errorType", laid_errors_errorType), ("vennhouse/atom.kinds", laid_vennhouse_atom_kinds)], narrowed := true }
def WorldsAllUptoSaid : Prop := worldsAllUptoRow.holds Tryz.pinned (OpenSpec.upto worldsAllSpec)

end Rows
end Go.Proofs.YtpkleioabinkkaaGreatDoor
