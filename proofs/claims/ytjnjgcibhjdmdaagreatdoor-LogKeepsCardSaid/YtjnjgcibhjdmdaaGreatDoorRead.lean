/-
  THE WALKS of strings.IndexByte and term.Read.
-/
import Derived.Test.YtjnjgcibhjdmdaaGreatDoorSetsT
import Derived.Test.YtjnjgcibhjdmdaaGreatDoorRowG
import Derived.Lib.Bytealg
import Derived.BigCall
import Derived.BigGuard
import Derived.Laws.Strings3
namespace Go.Proofs.YtjnjgcibhjdmdaaGreatDoor
open Go.RowKit

set_option maxHeartbeats 1000000 in
set_option maxRecDepth 100000 in
theorem stringslite_IndexByte (s : ByteArray) (c : Int) (w : World) : Calls Tryz.prog 109 #[.string s, .int .u8 c] w (Pure (.int .i64 (Lib.indexByte s.data.toList c.toNat.toUInt8)) w) := by
  go_enter Tryz.func109, Tryz.ntmps109
  go_wp2
  rw [run_callFunc_extern Tryz.func129 (by kernel_rfl) (by kernel_rfl) (by kernel_rfl) (e := Extern.BytealgIndexByte.indexByte) (by kernel_rfl), Lib.run_indexByteString]
  simp only [Result.andThen]
  rw [Oper.upon_value]
  go_wp2
  go_ret
  exact ⟨rfl, rfl⟩
/-- The sign that a byte is; below 0: none. -/
def signOf (b : UInt8) : Int := Lib.indexByte [65, 66, 67, 48, 49, 43, 42, 45, 126] b
def readT : List UInt8 → Option (List Int)
  | [] => some []
  | b :: r => if signOf b < 0 then none else (readT r).map (signOf b :: ·)
theorem signOf_range : ∀ b : Fin 256, -1 ≤ signOf b.val.toUInt8 ∧ signOf b.val.toUInt8 ≤ 8 := by decide +kernel
theorem signOf_byte (b : UInt8) : Lib.indexByte (ByteArray.mk #[65, 66, 67, 48, 49, 43, 42, 45, 126]).data.toList ((b.toNat : Nat) : Int).toNat.toUInt8 = signOf b := by
  have : ((b.toNat : Nat) : Int).toNat.toUInt8 = b := by simp
  rw [this]
  rfl
theorem signOf_bound (b : UInt8) : -1 ≤ signOf b ∧ signOf b ≤ 8 := by
  have := signOf_range ⟨b.toNat, b.toNat_lt⟩
  simpa using this
theorem drop_bytes (s : ByteArray) (k : Nat) (h : k < s.size) : s.data.toList.drop k = s[k] :: s.data.toList.drop (k + 1) := by
  rw [List.drop_eq_getElem_cons (by simpa using h)]
  rfl
/-- What term.Read gives. -/
def ReadPost (s : ByteArray) (w : World) (e : Ending) (w' : World) : Prop :=
  ∃ v b, e = .returned (.tuple #[v, .bool b]) ∧ Below w.heap.size w w' ∧ ((∃ l, readT s.data.toList = some l ∧ b = true ∧ IsInts w' v l) ∨ (readT s.data.toList = none ∧ b = false ∧ v = .slice none 0 0))
/-- What is wrong with a text as a term, and the term (none: the empty list). -/
def parseChk (s : List UInt8) : Int := match readT s with
  | none => 2
  | some l => Venn.termChk l
def parseL (s : List UInt8) : List Int := match readT s with
  | none => []
  | some l => if Venn.termChk l = 0 then l else []
def ParsePost (s : ByteArray) (w : World) (e : Ending) (w' : World) : Prop := ∃ v, e = .returned (.tuple #[v, errV (parseChk s.data.toList)]) ∧ Below w.heap.size w w' ∧ IsInts w' v (parseL s.data.toList)
theorem IsInts.empty (w : World) : IsInts w (.slice none 0 0) [] := ⟨none, 0, rfl, Rd.nil _ _, Nat.le_refl _, by simp⟩
end Go.Proofs.YtjnjgcibhjdmdaaGreatDoor
