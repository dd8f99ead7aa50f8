/-
  THE WALK of fit.First.
-/
import Derived.Test.YtlpfbdejiifbpaaDoorFitAll
import Derived.Test.YtlpfbdejiifbpaaDoorRowChk
namespace Go.Proofs.YtlpfbdejiifbpaaDoor
open Go.RowKit Go.Shelf
attribute [local go_sem] Oper.semAt_some

section
variable {X Y : World} {C : Nat → Prop}
theorem But.set8 (h : But C X Y) {p : Nat} (hp : C p) (x0 x1 x2 x3 x4 x5 x6 x7 : Value) :
    But C X ((((((((Y.setCell ⟨p, 0, none⟩ x0).setCell ⟨p, 1, none⟩ x1).setCell ⟨p, 2, none⟩ x2).setCell ⟨p, 3, none⟩ x3).setCell ⟨p, 4, none⟩ x4).setCell ⟨p, 5, none⟩ x5).setCell ⟨p, 6, none⟩ x6).setCell ⟨p, 7, none⟩ x7) :=
  (((((((h.set_ (p := ⟨p, 0, none⟩) hp _).set_ (p := ⟨p, 1, none⟩) hp _).set_ (p := ⟨p, 2, none⟩) hp _).set_ (p := ⟨p, 3, none⟩) hp _).set_ (p := ⟨p, 4, none⟩) hp _).set_ (p := ⟨p, 5, none⟩) hp _).set_ (p := ⟨p, 6, none⟩) hp _).set_ (p := ⟨p, 7, none⟩) hp _
theorem Blk.far8 {g : Nat} {t : TypeId} {cs : Array Value} (h : Blk X g t cs) {p : Nat} (hp : g ≠ p) (x0 x1 x2 x3 x4 x5 x6 x7 : Value) :
    Blk ((((((((X.setCell ⟨p, 0, none⟩ x0).setCell ⟨p, 1, none⟩ x1).setCell ⟨p, 2, none⟩ x2).setCell ⟨p, 3, none⟩ x3).setCell ⟨p, 4, none⟩ x4).setCell ⟨p, 5, none⟩ x5).setCell ⟨p, 6, none⟩ x6).setCell ⟨p, 7, none⟩ x7) g t cs :=
  (((((((h.far (p := ⟨p, 0, none⟩) hp _).far (p := ⟨p, 1, none⟩) hp _).far (p := ⟨p, 2, none⟩) hp _).far (p := ⟨p, 3, none⟩) hp _).far (p := ⟨p, 4, none⟩) hp _).far (p := ⟨p, 5, none⟩) hp _).far (p := ⟨p, 6, none⟩) hp _).far (p := ⟨p, 7, none⟩) hp _
theorem hK8 {o : Obj} {D : Nat} (h : X.heap[D]? = some o) {p : Nat} (hp : D ≠ p) (x0 x1 x2 x3 x4 x5 x6 x7 : Value) :
    ((((((((X.setCell ⟨p, 0, none⟩ x0).setCell ⟨p, 1, none⟩ x1).setCell ⟨p, 2, none⟩ x2).setCell ⟨p, 3, none⟩ x3).setCell ⟨p, 4, none⟩ x4).setCell ⟨p, 5, none⟩ x5).setCell ⟨p, 6, none⟩ x6).setCell ⟨p, 7, none⟩ x7).heap[D]? = some o :=
  def_keep (p := ⟨p, 7, none⟩) (def_keep (p := ⟨p, 6, none⟩) (def_keep (p := ⟨p, 5, none⟩) (def_keep (p := ⟨p, 4, none⟩) (def_keep (p := ⟨p, 3, none⟩) (def_keep (p := ⟨p, 2, none⟩) (def_keep (p := ⟨p, 1, none⟩) (def_keep (p := ⟨p, 0, none⟩) h hp _) hp _) hp _) hp _) hp _) hp _) hp _) hp _
end
/-- Counts as cells. -/
abbrev cells (x : List Int) : Array Value := (x.map (Value.int .i64)).toArray
abbrev zero8 : Array Value := #[.int .i64 0, .int .i64 0, .int .i64 0, .int .i64 0, .int .i64 0, .int .i64 0, .int .i64 0, .int .i64 0]
def firstV (o : Option (List Int)) : Value := match o with
  | some x => .tuple #[.agg (cells x), .bool true]
  | none => .tuple #[.agg zero8, .bool false]

end Go.Proofs.YtlpfbdejiifbpaaDoor
