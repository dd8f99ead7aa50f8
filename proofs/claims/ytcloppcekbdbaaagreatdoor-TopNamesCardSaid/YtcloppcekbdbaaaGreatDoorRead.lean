/-
  THE WALKS of strings.IndexByte and term.Read.
-/
import Derived.Test.YtcloppcekbdbaaaGreatDoorSetsT
import Derived.Test.YtcloppcekbdbaaaGreatDoorRowG
import Derived.Lib.Bytealg
import Derived.BigCall
import Derived.BigGuard
import Derived.Laws.Strings3
namespace Go.Proofs.YtcloppcekbdbaaaGreatDoor
open Go.RowKit

set_option maxHeartbeats 1000000 in
set_option maxRecDepth 100000 in
theorem stringslite_IndexByte (s : ByteArray) (c : Int) (w : World) : Calls Tryz.prog 172 #[.string s, .int .u8 c] w (Pure (.int .i64 (Lib.indexByte s.data.toList c.toNat.toUInt8)) w) := by
  go_enter Tryz.func172, Tryz.ntmps172
  go_wp2
  rw [run_callFunc_extern Tryz.func193 (by kernel_rfl) (by kernel_rfl) (by kernel_rfl) (e := Extern.BytealgIndexByte.indexByte) (by kernel_rfl), Lib.run_indexByteString]
  simp only [Result.andThen]
  rw [Oper.upon_value]
  go_wp2
  go_ret
  exact ⟨rfl, rfl⟩
theorem strings_IndexByte (s : ByteArray) (c : Int) (w : World) : Calls Tryz.prog 183 #[.string s, .int .u8 c] w (Pure (.int .i64 (Lib.indexByte s.data.toList c.toNat.toUInt8)) w) := by
  go_enter Tryz.func183, Tryz.ntmps183
  go_wp2_with (go_at_call 172; refine (stringslite_IndexByte _ _ _).mono ?_; rintro e w' ⟨rfl, rfl⟩)
  go_ret
  exact ⟨rfl, rfl⟩

/-- The sign that a byte is; below 0: none. -/
def signOf (b : UInt8) : Int := Lib.indexByte [65, 66, 67, 48, 49, 43, 42, 45, 126] b
def readT : List UInt8 → Option (List Int)
  | [] => some []
  | b :: r => if signOf b < 0 then none else (readT r).map (signOf b :: ·)
theorem signOf_range : ∀ b : Fin 256, -1 ≤ signOf b.val.toUInt8 ∧ signOf b.val.toUInt8 ≤ 8 := by decide +kernel
theorem signOf_byte (b : UInt8) : Lib.indexByte (ByteArray.mk #[65, 66, 67, 48, 49, 43, 42, 45, 126]).data.toList ((b.toNat : Nat) : Int).toNat.toUInt8 = signOf b := by
  have : ((b.toNat : Nat) : Int).toNat.toUInt8 = b := by simp
  rw [this]
  rfl
theorem signOf_bound (b : UInt8) : -1 ≤ signOf b ∧ signOf b ≤ 8 := by
  have := signOf_range ⟨b.toNat, b.toNat_lt⟩
  simpa using this
theorem drop_bytes (s : ByteArray) (k : Nat) (h : k < s.size) : s.data.toList.drop k = s[k] :: s.data.toList.drop (k + 1) := by
  rw [List.drop_eq_getElem_cons (by simpa using h)]
  rfl
/-- What term.Read gives. -/
def ReadPost (s : ByteArray) (w : World) (e : Ending) (w' : World) : Prop :=
  ∃ v b, e = .returned (.tuple #[v, .bool b]) ∧ Below w.heap.size w w' ∧ ((∃ l, readT s.data.toList = some l ∧ b = true ∧ IsInts w' v l) ∨ (readT s.data.toList = none ∧ b = false ∧ v = .slice none 0 0))
set_option maxHeartbeats 1000000 in
set_option maxRecDepth 100000 in
theorem term_Read (s : ByteArray) (w : World) (hs : s.size < 1099511627776) :
    Calls Tryz.prog 162 #[.string s] w (ReadPost s w) := by
  go_enter Tryz.func162, Tryz.ntmps162
  go_wp2
  go_loopw [4, 9] (fun v i wr => ∃ (k : Nat) (pre : List Int), k ≤ s.size ∧ i = .int .i64 k ∧ pre.length = k ∧ wr.ownsRow w.heap.size 3 1 v k (pre.map (Value.int .i64)) ∧ Below w.heap.size w wr ∧ readT s.data.toList = (readT (s.data.toList.drop k)).map (pre ++ ·))
    (fun _ i _ => s.size - (intOf i).toNat)
  case atStart => exact ⟨0, [], Nat.zero_le _, rfl, rfl, World.ownsRow_nil _ _ _ _, by (repeat' (first | (with_reducible exact Below.refl _ _) | (with_reducible assumption) | (with_reducible refine Below.next ?_ (by with_reducible assumption)) | (with_reducible refine Below.drew ?_) | (with_reducible refine Below.laid ?_ _) | (with_reducible refine Below.setCell ?_ ?_ _) | (with_reducible refine size_of ?_) | (with_reducible refine Nat.le_succ_of_le ?_) | go_size)), by simp⟩
  case round =>
    obtain ⟨k, pre, hk, rfl, hpl, hown, hb, hrest⟩ := hrel
    obtain ⟨wo, rfl⟩ : ∃ wo : World, wo = wr := ⟨_, rfl⟩
    obtain ⟨A5, cp5, rfl⟩ := ownsRow_slice hown
    have HR := Lib.hid hrest
    have HPL := Lib.hid hpl
    clear hrest hpl
    by_cases hlt : k < s.size
    · have hk1 : (k : Int) < (s.size : Int) := by omega
      have hk0 : (0 : Int) ≤ (k : Int) := by omega
      have HD := Lib.hid (drop_bytes s k hlt)
      have hsb := signOf_bound s[k]
      have HSB := Lib.hid (signOf_byte s[k])
      by_cases hneg : signOf s[k] < 0
      · have HV := Lib.hid (show readT s.data.toList = none by rw [HR.out, HD.out, readT, if_pos hneg]; rfl)
        generalize signOf s[k] = sg at hneg hsb HSB
        go_wp2_with (go_at_call 183; refine (strings_IndexByte _ _ _).mono ?_; rintro e w' ⟨rfl, rfl⟩; rw [HSB.out])
        go_ret2
        exact ⟨_, _, rfl, hb, .inr ⟨HV.out, rfl, rfl⟩⟩
      · have HV := Lib.hid (show readT s.data.toList = (readT (s.data.toList.drop (k + 1))).map ((pre ++ [signOf s[k]]) ++ ·) by
          rw [HR.out, HD.out, readT, if_neg hneg, Option.map_map]
          congr 1
          funext x
          simp)
        generalize signOf s[k] = sg at hneg hsb HSB HV
        go_wp2_with (first
          | (go_at_call 183; refine (strings_IndexByte _ _ _).mono ?_; rintro e w' ⟨rfl, rfl⟩; rw [HSB.out])
          | (at_builtin; refine wpList_app1 _ rfl _ _ rfl w.heap.size _ _ _ rfl (hown.alloc _) wo.heap.size 1 sg rfl ?hy1 (by omega) (by have := hb.size; simp; omega) ?_))
        try case hy1 => simp
        intro v' w1 hown' hg'
        go_wp2
        go_roundw
        case rel =>
          refine ⟨k + 1, pre ++ [sg], by omega, by go_num, by simp [HPL.out], by simpa using hown', ?_, HV.out⟩
          have hbs := hb.size
          exact (hb.alloc hbs _).grown hg' (by simp; omega) (fun g h => (hown.lt g h).1)
        case measure => simp [intOf]; omega
    · have hk1 : ¬ (k : Int) < (s.size : Int) := by omega
      have hd : s.data.toList.drop k = [] := List.drop_eq_nil_of_le (by simp; omega)
      have HV := Lib.hid (show readT s.data.toList = some pre by rw [HR.out, hd]; simp [readT])
      clear hd
      go_wp2
      go_ret2
      exact ⟨_, _, rfl, hb, .inl ⟨pre, HV.out, rfl, IsInts.of_own hown⟩⟩

/-- What is wrong with a text as a term, and the term (none: the empty list). -/
def parseChk (s : List UInt8) : Int := match readT s with
  | none => 2
  | some l => Venn.termChk l
def parseL (s : List UInt8) : List Int := match readT s with
  | none => []
  | some l => if Venn.termChk l = 0 then l else []
def ParsePost (s : ByteArray) (w : World) (e : Ending) (w' : World) : Prop := ∃ v, e = .returned (.tuple #[v, errV (parseChk s.data.toList)]) ∧ Below w.heap.size w w' ∧ IsInts w' v (parseL s.data.toList)
theorem IsInts.empty (w : World) : IsInts w (.slice none 0 0) [] := ⟨none, 0, rfl, Rd.nil _ _, Nat.le_refl _, by simp⟩
end Go.Proofs.YtcloppcekbdbaaaGreatDoor
