/-
  CONTRACT of strings.Split at this program.
-/
import Derived.Test.YtcloppcekbdbaaaGreatDoorSplitL
import Derived.Test.YtcloppcekbdbaaaGreatDoorMem
namespace Go.Proofs.YtcloppcekbdbaaaGreatDoor
open Go.RowKit

/-- The library's bound on short needles is some number. -/
def MaxOk (w : World) : Prop := ∃ m : Int, w.cell? ⟨2, 0, none⟩ = some (.int .i64 m)
theorem MaxOk.keep {w w' : World} (h : MaxOk w) (hb : Below w.heap.size w w') : MaxOk w' := by
  obtain ⟨m, h⟩ := h
  exact ⟨m, cell_keep hb h⟩
theorem max_of_shaped {w : World} (h : w.ShapedOpen Tryz.prog) : MaxOk w := splitL.s1_3 w h
theorem strings_Split (s sep : ByteArray) (w : World) (hm : MaxOk w) (hs : s.size < 4294967281) (h1 : 1 ≤ sep.size) :
    Calls Tryz.prog 78 #[.string s, .string sep] w (fun e w' => e = .returned (.slice (some ⟨w.heap.size, 0, none⟩) (Lib.countB s sep + 1) (Lib.countB s sep + 1)) ∧ w' = w.alloc (.cells ((Lib.splitB sep 0 (Lib.countB s sep) s).map Value.string).toArray 9)) := by
  obtain ⟨m, hm⟩ := hm
  exact Any.strings_Split { splitL with } splitL.i9 s sep m w hs hm h1
theorem split_line : Lib.countB ⟨#[99, 111, 100, 101, 32, 48, 10]⟩ ⟨#[10]⟩ = 1 ∧ Lib.splitB ⟨#[10]⟩ 0 1 ⟨#[99, 111, 100, 101, 32, 48, 10]⟩ = [⟨#[99, 111, 100, 101, 32, 48]⟩, ⟨#[]⟩] := by decide +kernel
theorem split_word : Lib.countB ⟨#[99, 111, 100, 101, 32, 48]⟩ ⟨#[32]⟩ = 1 ∧ Lib.splitB ⟨#[32]⟩ 0 1 ⟨#[99, 111, 100, 101, 32, 48]⟩ = [⟨#[99, 111, 100, 101]⟩, ⟨#[48]⟩] := by decide +kernel
end Go.Proofs.YtcloppcekbdbaaaGreatDoor
