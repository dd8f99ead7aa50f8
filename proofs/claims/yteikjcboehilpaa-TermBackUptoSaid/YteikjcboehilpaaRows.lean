/-
  No cell of these rows narrows 'for every input' (looked for: loops, veiled, ifaces, maps, wideKeys, modest, calm, conditions, laid).
  DERIVED. THE GIVEN ROWS OF THIS SEAT. 5 by the template 'for every input the law returns true; each argument reads behind the call as it read before'; 0 by the template 'total and deterministic' (their statements: YteikjcboehilpaaTotals.lean).
  GIVEN WITH THE SEED: the statements are not yours to turn. If you find one false, say at which input.
  Laid BY PROGRAM, IN A SANDBOX (cutbox-rows.mjs): the forced cells as the released guide's own fill.sh prints them over the translation 6cc8c69716927ce2… (all of the seat's roots in one cut). By AI agents, Wed Nov 11 2026. No macro, syntax, notation, axiom, sorry.
-/
import Derived.Test.YteikjcboehilpaaChecked
import GoSem.Claim
import GoSem.ClaimJoined
import GoSem.ClaimMapViews
import Derived.JoinedTies
import Derived.KernelRfl
namespace Go.Proofs.Yteikjcboehilpaa
/- THE CELL 'sum', in the pinned program and in every row, IS THE sha256 OF THE DUMP (.gsa) THAT YteikjcboehilpaaProg.lean LOADS. Nothing in Lean hashes anything: it is a label: what it is worth is what the hold of that sum in a sandbox is worth. -/
noncomputable def Try.pinned : Pinned := { name := "yteikjcboehilpaa", sum := "6cc8c69716927ce267fab5b90f041f512871750e0f918b3a2eeda6cad62cd75c", checked := Try.checked }
namespace Rows
def none {H : Type} : Left H := { results := [], args := [] }

/-- 'vennlaw1.Names': WHATEVER THE INPUT: true; the input reads as it did. -/
def namesSpec : ChangeSpec := { name := "names", fn := fun _ => fun
  | [] => { results := [.lit (.bool true)], args := [] }
  | _ => none }
def namesRow : OpenClaim := { program := "yteikjcboehilpaa", sum := "6cc8c69716927ce267fab5b90f041f512871750e0f918b3a2eeda6cad62cd75c", func := "vennhouse/vennlaw1.Names", spec := "names", apart := false }
def NamesSaid : Prop := namesRow.holds Try.pinned (OpenSpec.ofChange namesSpec)

/-- ITS FALSE NEIGHBOUR: 'it returns false'. Refute it at one input. -/
def namesWrong : ChangeSpec := { name := "names", fn := fun _ => fun
  | [] => { results := [.lit (.bool false)], args := [] }
  | _ => none }
def NamesWrongFalsely : Prop := namesRow.holds Try.pinned (OpenSpec.ofChange namesWrong)

/-- 'vennlaw1.SetsTurn': WHATEVER THE INPUT: true; the input reads as it did. -/
def setsTurnSpec : ChangeSpec := { name := "setsTurn", fn := fun _ => fun
  | [d1, d2, d3] => { results := [.lit (.bool true)], args := [d1, d2, d3] }
  | _ => none }
def setsTurnRow : OpenClaim := { program := "yteikjcboehilpaa", sum := "6cc8c69716927ce267fab5b90f041f512871750e0f918b3a2eeda6cad62cd75c", func := "vennhouse/vennlaw1.SetsTurn", spec := "setsTurn", apart := false }
def SetsTurnSaid : Prop := setsTurnRow.holds Try.pinned (OpenSpec.ofChange setsTurnSpec)

/-- ITS FALSE NEIGHBOUR: 'it returns false'. Refute it at one input. -/
def setsTurnWrong : ChangeSpec := { name := "setsTurn", fn := fun _ => fun
  | [d1, d2, d3] => { results := [.lit (.bool false)], args := [d1, d2, d3] }
  | _ => none }
def SetsTurnWrongFalsely : Prop := setsTurnRow.holds Try.pinned (OpenSpec.ofChange setsTurnWrong)

/-- 'vennlaw4.FieldsOne': WHATEVER THE INPUT: true; the input reads as it did. -/
def fieldsOneSpec : ChangeSpec := { name := "fieldsOne", fn := fun _ => fun
  | [d] => { results := [.lit (.bool true)], args := [d] }
  | _ => none }
def fieldsOneRow : OpenClaim := { program := "yteikjcboehilpaa", sum := "6cc8c69716927ce267fab5b90f041f512871750e0f918b3a2eeda6cad62cd75c", func := "vennhouse/vennlaw4.FieldsOne", spec := "fieldsOne", unfollowed := true, recurses := true, apart := false }
def FieldsOneSaid : Prop := fieldsOneRow.holds Try.pinned (OpenSpec.ofChange fieldsOneSpec)

/-- ITS FALSE NEIGHBOUR: 'it returns false'. Refute it at one input. -/
def fieldsOneWrong : ChangeSpec := { name := "fieldsOne", fn := fun _ => fun
  | [d] => { results := [.lit (.bool false)], args := [d] }
  | _ => none }
def FieldsOneWrongFalsely : Prop := fieldsOneRow.holds Try.pinned (OpenSpec.ofChange fieldsOneWrong)

/-- 'vennlaw4.AlikeItself': WHATEVER THE INPUT: true; the input reads as it did. -/
def alikeItselfSpec : ChangeSpec := { name := "alikeItself", fn := fun _ => fun
  | [d] => { results := [.lit (.bool true)], args := [d] }
  | _ => none }
def alikeItselfRow : OpenClaim := { program := "yteikjcboehilpaa", sum := "6cc8c69716927ce267fab5b90f041f512871750e0f918b3a2eeda6cad62cd75c", func := "vennhouse/vennlaw4.AlikeItself", spec := "alikeItself", unfollowed := true, recurses := true, apart := false }
def AlikeItselfSaid : Prop := alikeItselfRow.holds Try.pinned (OpenSpec.ofChange alikeItselfSpec)

/-- ITS FALSE NEIGHBOUR: 'it returns false'. Refute it at one input. -/
def alikeItselfWrong : ChangeSpec := { name := "alikeItself", fn := fun _ => fun
  | [d] => { results := [.lit (.bool false)], args := [d] }
  | _ => none }
def AlikeItselfWrongFalsely : Prop := alikeItselfRow.holds Try.pinned (OpenSpec.ofChange alikeItselfWrong)

/-- 'vennlaw1.TermBack': WHATEVER THE INPUT: true; the input reads as it did. -/
def termBackSpec : ChangeSpec := { name := "termBack", fn := fun _ => fun
  | [d1, d2, d3, d4, d5] => { results := [.lit (.bool true)], args := [d1, d2, d3, d4, d5] }
  | _ => none }
def termBackRow : OpenClaim := { program := "yteikjcboehilpaa", sum := "6cc8c69716927ce267fab5b90f041f512871750e0f918b3a2eeda6cad62cd75c", func := "vennhouse/vennlaw1.TermBack", spec := "termBack", inPlace := ["internal/bytealg.IndexByteString", "internal/abi.NoEscape"], unfollowed := true, recurses := true, apart := false }
def TermBackSaid : Prop := termBackRow.holds Try.pinned (OpenSpec.ofChange termBackSpec)

/-- ITS FALSE NEIGHBOUR: 'it returns false'. Refute it at one input. -/
def termBackWrong : ChangeSpec := { name := "termBack", fn := fun _ => fun
  | [d1, d2, d3, d4, d5] => { results := [.lit (.bool false)], args := [d1, d2, d3, d4, d5] }
  | _ => none }
def TermBackWrongFalsely : Prop := termBackRow.holds Try.pinned (OpenSpec.ofChange termBackWrong)

/- THE SECOND FORM. 'bulk': how many values and letters a reading holds, each counted each time it is reached (what is shared counts as often as it is met; a slice's spare places count too). A statement '..UptoSaid' is the law's where the arguments, and the package variables that the reading takes, are together of bulk at most 1048576: NARROWER than '..Said'. Prove '..Said' where nothing that the law and all that it calls make is longer than what came in: it says more and counts as full. Else prove '..UptoSaid'. A law counts once. -/
mutual
def uptoBulk {H : Type} : DataW H → Nat
  | .lit (.string bytes) => bytes.length + 1
  | .lit _ => 1
  | .nil => 1
  | .ptr d => uptoBulk d + 1
  | .slice elems spare => uptoBulkAll elems + uptoBulkAll spare + 1
  | .agg parts => uptoBulkAll parts + 1
  | .iface _ d => uptoBulk d + 1
  | .map entries => uptoBulkEntries entries + 1
  | .held _ => 1
def uptoBulkAll {H : Type} : List (DataW H) → Nat
  | [] => 0
  | d :: r => uptoBulk d + uptoBulkAll r
def uptoBulkEntries {H : Type} : List (Lit × DataW H) → Nat
  | [] => 0
  | x :: r => uptoBulkEntry x + uptoBulkEntries r
def uptoBulkEntry {H : Type} : Lit × DataW H → Nat
  | (.string bytes, d) => bytes.length + uptoBulk d + 1
  | (_, d) => uptoBulk d + 1
 end
def uptoSmall : (H : Type) → List (DataW H) → Bool := fun _ ds => decide (uptoBulkAll ds ≤ 1048576)
def OpenSpec.upto (s : _root_.Go.ChangeSpec) : _root_.Go.OpenSpec := { _root_.Go.OpenSpec.ofChange s with cond := some uptoSmall }

/-- 'vennlaw1.Names', WHERE WHAT IT READS IS OF BULK AT MOST 1048576: true; the input reads as it did. -/
def namesUptoRow : OpenClaim := { program := "yteikjcboehilpaa", sum := "6cc8c69716927ce267fab5b90f041f512871750e0f918b3a2eeda6cad62cd75c", func := "vennhouse/vennlaw1.Names", spec := "names", apart := false, narrowed := true }
def NamesUptoSaid : Prop := namesUptoRow.holds Try.pinned (OpenSpec.upto namesSpec)

/-- 'vennlaw1.SetsTurn', WHERE WHAT IT READS IS OF BULK AT MOST 1048576: true; the input reads as it did. -/
def setsTurnUptoRow : OpenClaim := { program := "yteikjcboehilpaa", sum := "6cc8c69716927ce267fab5b90f041f512871750e0f918b3a2eeda6cad62cd75c", func := "vennhouse/vennlaw1.SetsTurn", spec := "setsTurn", apart := false, narrowed := true }
def SetsTurnUptoSaid : Prop := setsTurnUptoRow.holds Try.pinned (OpenSpec.upto setsTurnSpec)

/-- 'vennlaw4.FieldsOne', WHERE WHAT IT READS IS OF BULK AT MOST 1048576: true; the input reads as it did. -/
def fieldsOneUptoRow : OpenClaim := { program := "yteikjcboehilpaa", sum := "6cc8c69716927ce267fab5b90f041f512871750e0f918b3a2eeda6cad62cd75c", func := "vennhouse/vennlaw4.FieldsOne", spec := "fieldsOne", unfollowed := true, recurses := true, apart := false, narrowed := true }
def FieldsOneUptoSaid : Prop := fieldsOneUptoRow.holds Try.pinned (OpenSpec.upto fieldsOneSpec)

/-- 'vennlaw4.AlikeItself', WHERE WHAT IT READS IS OF BULK AT MOST 1048576: true; the input reads as it did. -/
def alikeItselfUptoRow : OpenClaim := { program := "yteikjcboehilpaa", sum := "6cc8c69716927ce267fab5b90f041f512871750e0f918b3a2eeda6cad62cd75c", func := "vennhouse/vennlaw4.AlikeItself", spec := "alikeItself", unfollowed := true, recurses := true, apart := false, narrowed := true }
def AlikeItselfUptoSaid : Prop := alikeItselfUptoRow.holds Try.pinned (OpenSpec.upto alikeItselfSpec)

/-- 'vennlaw1.TermBack', WHERE WHAT IT READS IS OF BULK AT MOST 1048576: true; the input reads as it did. -/
def termBackUptoRow : OpenClaim := { program := "yteikjcboehilpaa", sum := "6cc8c69716927ce267fab5b90f041f512871750e0f918b3a2eeda6cad62cd75c", func := "vennhouse/vennlaw1.TermBack", spec := "termBack", inPlace := ["internal/bytealg.IndexByteString", "internal/abi.NoEscape"], unfollowed := true, recurses := true, apart := false, narrowed := true }
def TermBackUptoSaid : Prop := termBackUptoRow.holds Try.pinned (OpenSpec.upto termBackSpec)

end Rows
end Go.Proofs.Yteikjcboehilpaa
