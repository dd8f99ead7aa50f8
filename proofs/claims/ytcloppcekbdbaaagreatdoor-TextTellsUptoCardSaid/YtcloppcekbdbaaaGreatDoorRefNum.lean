/-
  THE WALKS of the reference's ReadNumber and AtomText (printed by gen_refread.py).
-/
import Derived.Test.YtcloppcekbdbaaaGreatDoorRefCut
import Derived.Test.YtcloppcekbdbaaaGreatDoorVennRead
namespace Go.Proofs.YtcloppcekbdbaaaGreatDoor
open Go.RowKit

/-- A number and whether there is one. -/
def numT (o : Option Int) : Value := .tuple #[.int .i64 (o.getD 0), .bool o.isSome]
theorem two_bytes {s : ByteArray} (h : s.size = 2) (g0 : 0 < s.size) (g1 : 1 < s.size) : ∃ a b, s[0] = a ∧ s[1] = b ∧ s.data.toList = [a, b] := by
  obtain ⟨⟨l⟩⟩ := s
  match l, h with
  | [a, b], _ => exact ⟨a, b, rfl, rfl, rfl⟩
theorem one_byte {s : ByteArray} (h : s.size = 1) (g0 : 0 < s.size) : ∃ a, s[0] = a ∧ s.data.toList = [a] := by
  obtain ⟨⟨l⟩⟩ := s
  match l, h with
  | [a], _ => exact ⟨a, rfl, rfl⟩
theorem num2_long {l : List UInt8} (h : 3 ≤ l.length) : Venn.num2 l = none := by
  match l, h with
  | a :: b :: c :: r, _ => rfl
theorem read_below {l r : List UInt8} {a : UInt8} (h : l = a :: r) (ha : a = 45) : Venn.readNum l = match Venn.num2 r with | some n => if n = 0 then none else some (-(n : Int)) | none => none := by
  subst h ha; rfl
theorem read_above {l r : List UInt8} {a : UInt8} (h : l = a :: r) (ha : a ≠ 45) : Venn.readNum l = (Venn.num2 l).map Int.ofNat := by
  subst h
  unfold Venn.readNum
  rw [if_neg (by simpa using ha)]
theorem num_one (x : UInt8) : Venn.num2 [x] = if 48 ≤ x.toNat ∧ x.toNat ≤ 57 then some (x.toNat - 48) else none := by
  unfold Venn.num2 Venn.dig
  simp
theorem num_two (x y : UInt8) : Venn.num2 [x, y] = if 48 ≤ x.toNat ∧ x.toNat ≤ 57 ∧ 48 ≤ y.toNat ∧ y.toNat ≤ 57 ∧ x.toNat ≠ 48 then some (10 * (x.toNat - 48) + (y.toNat - 48)) else none := by
  unfold Venn.num2 Venn.dig
  simp only [Bool.and_eq_true, decide_eq_true_eq]
  by_cases h : 48 ≤ x.toNat ∧ x.toNat ≤ 57 ∧ 48 ≤ y.toNat ∧ y.toNat ≤ 57 ∧ x.toNat ≠ 48
  · rw [if_pos h, if_pos ⟨⟨⟨h.1, h.2.1⟩, h.2.2.1, h.2.2.2.1⟩, h.2.2.2.2⟩]
  · rw [if_neg h, if_neg fun k => h ⟨k.1.1.1, k.1.1.2, k.1.2.1, k.1.2.2, k.2⟩]
theorem num_zero : Venn.num2 [] = none := rfl

set_option maxHeartbeats 8000000 in
set_option maxRecDepth 100000 in
theorem ref_ReadNumberNeg (s : ByteArray) (w : World) (hs : s.size < 4294967281) (h0 : 0 < s.size) (hb45 : (((s[0].toNat : Nat) : Int) == 45) = true) (r : List UInt8) (hl : s.data.toList = 45 :: r) : Calls Tryz.prog 90 #[.string s] w (Pure (numT (Venn.readNum s.data.toList)) w) := by
  have HB := Lib.hid (read_below hl rfl)
  have hE : (s.extract 1 s.size).data.toList = r := by rw [Lib.extract_to_end, hl, List.drop_one, List.tail_cons]
  rw [← hE] at HB
  have h0i : (0 : Int) < (s.size : Int) := by omega
  have h1 : (1 : Int) ≤ (s.size : Int) := by omega
  clear hl hE
  generalize Venn.readNum s.data.toList = V at HB ⊢
  generalize hE : s.extract 1 s.size = e at HB
  by_cases hn3 : 3 ≤ e.size
  · have hc1 : ¬ ((e.size : Int) < 1) := by omega
    have hc2 : (2 : Int) < (e.size : Int) := by omega
    have HV := Lib.hid (show V = none by rw [HB.out, num2_long (show 3 ≤ e.data.toList.length from hn3)] <;> rfl)
    clear hn3
    rw [HV.out]
    show Calls Tryz.prog 90 #[.string s] w (Pure (.tuple #[.int .i64 (0), .bool false]) w)
    clear HB HV hs
    go_enter Tryz.func90, Tryz.ntmps90
    go_wp2
    go_ret2
    exact ⟨rfl, rfl⟩
  by_cases hn0 : e.size = 0
  · have hc0 : ((e.size : Int) < 1) := by omega
    have hnil : e.data.toList = [] := List.eq_nil_of_length_eq_zero hn0
    have HV := Lib.hid (show V = none by rw [HB.out, hnil] <;> rfl)
    clear hn3 hn0 hnil
    rw [HV.out]
    show Calls Tryz.prog 90 #[.string s] w (Pure (.tuple #[.int .i64 (0), .bool false]) w)
    clear HB HV hs
    go_enter Tryz.func90, Tryz.ntmps90
    go_wp2
    go_ret2
    exact ⟨rfl, rfl⟩
  by_cases hn1 : e.size = 1
  · have g0 : 0 < e.size := by omega
    obtain ⟨a0, ha0, hl⟩ := one_byte hn1 g0
    rw [hl, num_one] at HB
    have hc1 : ¬ ((e.size : Int) < 1) := by omega
    have hc2 : ¬ ((2 : Int) < (e.size : Int)) := by omega
    have hsz : (e.size : Int) = 1 := by omega
    clear hl hn3 hn0 hn1
    generalize hx : a0.toNat = x at HB
    by_cases hx1 : x < 48
    · have hx1i : ((x : Nat) : Int) < 48 := by omega
      have HV := Lib.hid (show V = none by rw [HB.out, if_neg (by omega)] <;> rfl)
      rw [HV.out]
      show Calls Tryz.prog 90 #[.string s] w (Pure (.tuple #[.int .i64 (0), .bool false]) w)
      clear HB HV hs
      go_enter Tryz.func90, Tryz.ntmps90
      go_wp2_with fail
      refine wp_loop_rounds 1 ?_
      rw [rounds_succ]
      go_wp2
      go_ret2
      exact ⟨rfl, rfl⟩
    have hx1i : ¬ ((x : Nat) : Int) < 48 := by omega
    by_cases hx2 : 57 < x
    · have hx2i : (57 : Int) < ((x : Nat) : Int) := by omega
      have HV := Lib.hid (show V = none by rw [HB.out, if_neg (by omega)] <;> rfl)
      rw [HV.out]
      show Calls Tryz.prog 90 #[.string s] w (Pure (.tuple #[.int .i64 (0), .bool false]) w)
      clear HB HV hs
      go_enter Tryz.func90, Tryz.ntmps90
      go_wp2_with fail
      refine wp_loop_rounds 1 ?_
      rw [rounds_succ]
      go_wp2
      go_ret2
      exact ⟨rfl, rfl⟩
    have hx2i : ¬ (57 : Int) < ((x : Nat) : Int) := by omega
    have hw1 : IntKind.i64.wrap (x : Int) = (x : Int) := IntWalk.i64_in _ (by omega)
    have hw2 : IntKind.i64.wrap ((x : Int) - 48) = (x : Int) - 48 := IntWalk.i64_in _ (by omega)
    have hw7 : IntKind.i64.wrap (-((x : Int) - 48)) = -((x : Int) - 48) := IntWalk.i64_in _ (by omega)
    by_cases hx0 : x = 48
    · have hx0i : (((x : Nat) : Int) == 48) = true := by rw [hx0]; rfl
      have HV := Lib.hid (show V = none by rw [HB.out, if_pos (by omega), hx0] <;> rfl)
      rw [HV.out]
      show Calls Tryz.prog 90 #[.string s] w (Pure (.tuple #[.int .i64 (0), .bool false]) w)
      clear HB HV hs
      go_enter Tryz.func90, Tryz.ntmps90
      go_wp2_with fail
      refine wp_loop_rounds 2 ?_
      rw [rounds_succ]
      go_wp2_with fail
      rw [rounds_succ]
      go_wp2
      go_ret2
      exact ⟨rfl, rfl⟩
    · have hx0i : (((x : Nat) : Int) == 48) = false := beq_eq_false_iff_ne.2 (by omega)
      have HV := Lib.hid (show V = some (-((x : Int) - 48)) by rw [HB.out, if_pos (by omega)]; simp only; rw [if_neg (by omega)]; congr 1; omega)
      rw [HV.out]
      show Calls Tryz.prog 90 #[.string s] w (Pure (.tuple #[.int .i64 (-((x : Int) - 48)), .bool true]) w)
      clear HB HV hs
      go_enter Tryz.func90, Tryz.ntmps90
      go_wp2_with fail
      refine wp_loop_rounds 2 ?_
      rw [rounds_succ]
      go_wp2_with fail
      rw [rounds_succ]
      go_wp2
      go_ret2
      exact ⟨rfl, rfl⟩
  · have hn2 : e.size = 2 := by omega
    have g0 : 0 < e.size := by omega
    have g1 : 1 < e.size := by omega
    obtain ⟨a0, a1, ha0, ha1, hl⟩ := two_bytes hn2 g0 g1
    rw [hl, num_two] at HB
    have hc1 : ¬ ((e.size : Int) < 1) := by omega
    have hc2 : ¬ ((2 : Int) < (e.size : Int)) := by omega
    have hsz : (e.size : Int) = 2 := by omega
    clear hl hn3 hn0 hn1 hn2
    generalize hx : a0.toNat = x at HB
    generalize hy : a1.toNat = y at HB
    by_cases hx1 : x < 48
    · have hx1i : ((x : Nat) : Int) < 48 := by omega
      have HV := Lib.hid (show V = none by rw [HB.out, if_neg (by omega)] <;> rfl)
      rw [HV.out]
      show Calls Tryz.prog 90 #[.string s] w (Pure (.tuple #[.int .i64 (0), .bool false]) w)
      clear HB HV hs
      go_enter Tryz.func90, Tryz.ntmps90
      go_wp2_with fail
      refine wp_loop_rounds 1 ?_
      rw [rounds_succ]
      go_wp2
      go_ret2
      exact ⟨rfl, rfl⟩
    have hx1i : ¬ ((x : Nat) : Int) < 48 := by omega
    by_cases hx2 : 57 < x
    · have hx2i : (57 : Int) < ((x : Nat) : Int) := by omega
      have HV := Lib.hid (show V = none by rw [HB.out, if_neg (by omega)] <;> rfl)
      rw [HV.out]
      show Calls Tryz.prog 90 #[.string s] w (Pure (.tuple #[.int .i64 (0), .bool false]) w)
      clear HB HV hs
      go_enter Tryz.func90, Tryz.ntmps90
      go_wp2_with fail
      refine wp_loop_rounds 1 ?_
      rw [rounds_succ]
      go_wp2
      go_ret2
      exact ⟨rfl, rfl⟩
    have hx2i : ¬ (57 : Int) < ((x : Nat) : Int) := by omega
    have hw1 : IntKind.i64.wrap (x : Int) = (x : Int) := IntWalk.i64_in _ (by omega)
    have hw2 : IntKind.i64.wrap ((x : Int) - 48) = (x : Int) - 48 := IntWalk.i64_in _ (by omega)
    have hw3 : IntKind.i64.wrap (10 * ((x : Int) - 48)) = 10 * ((x : Int) - 48) := IntWalk.i64_in _ (by omega)
    by_cases hy1 : y < 48
    · have hy1i : ((y : Nat) : Int) < 48 := by omega
      have HV := Lib.hid (show V = none by rw [HB.out, if_neg (by omega)] <;> rfl)
      rw [HV.out]
      show Calls Tryz.prog 90 #[.string s] w (Pure (.tuple #[.int .i64 (0), .bool false]) w)
      clear HB HV hs
      go_enter Tryz.func90, Tryz.ntmps90
      go_wp2_with fail
      refine wp_loop_rounds 2 ?_
      rw [rounds_succ]
      go_wp2_with fail
      rw [rounds_succ]
      go_wp2
      go_ret2
      exact ⟨rfl, rfl⟩
    have hy1i : ¬ ((y : Nat) : Int) < 48 := by omega
    by_cases hy2 : 57 < y
    · have hy2i : (57 : Int) < ((y : Nat) : Int) := by omega
      have HV := Lib.hid (show V = none by rw [HB.out, if_neg (by omega)] <;> rfl)
      rw [HV.out]
      show Calls Tryz.prog 90 #[.string s] w (Pure (.tuple #[.int .i64 (0), .bool false]) w)
      clear HB HV hs
      go_enter Tryz.func90, Tryz.ntmps90
      go_wp2_with fail
      refine wp_loop_rounds 2 ?_
      rw [rounds_succ]
      go_wp2_with fail
      rw [rounds_succ]
      go_wp2
      go_ret2
      exact ⟨rfl, rfl⟩
    have hy2i : ¬ (57 : Int) < ((y : Nat) : Int) := by omega
    have hw4 : IntKind.i64.wrap (y : Int) = (y : Int) := IntWalk.i64_in _ (by omega)
    have hw5 : IntKind.i64.wrap (10 * ((x : Int) - 48) + (y : Int)) = 10 * ((x : Int) - 48) + (y : Int) := IntWalk.i64_in _ (by omega)
    have hw6 : IntKind.i64.wrap (10 * ((x : Int) - 48) + (y : Int) - 48) = 10 * ((x : Int) - 48) + (y : Int) - 48 := IntWalk.i64_in _ (by omega)
    have hw7 : IntKind.i64.wrap (-(10 * ((x : Int) - 48) + (y : Int) - 48)) = -(10 * ((x : Int) - 48) + (y : Int) - 48) := IntWalk.i64_in _ (by omega)
    by_cases hx0 : x = 48
    · have hx0i : (((x : Nat) : Int) == 48) = true := by rw [hx0]; rfl
      have HV := Lib.hid (show V = none by rw [HB.out, if_neg (by omega)] <;> rfl)
      rw [HV.out]
      show Calls Tryz.prog 90 #[.string s] w (Pure (.tuple #[.int .i64 (0), .bool false]) w)
      clear HB HV hs
      go_enter Tryz.func90, Tryz.ntmps90
      go_wp2_with fail
      refine wp_loop_rounds 3 ?_
      rw [rounds_succ]
      go_wp2_with fail
      rw [rounds_succ]
      go_wp2_with fail
      rw [rounds_succ]
      go_wp2
      go_ret2
      exact ⟨rfl, rfl⟩
    · have hx0i : (((x : Nat) : Int) == 48) = false := beq_eq_false_iff_ne.2 (by omega)
      have HV := Lib.hid (show V = some (-(10 * ((x : Int) - 48) + (y : Int) - 48)) by rw [HB.out, if_pos (by omega)]; simp only; rw [if_neg (by omega)]; congr 1; omega)
      rw [HV.out]
      show Calls Tryz.prog 90 #[.string s] w (Pure (.tuple #[.int .i64 (-(10 * ((x : Int) - 48) + (y : Int) - 48)), .bool true]) w)
      clear HB HV hs
      go_enter Tryz.func90, Tryz.ntmps90
      go_wp2_with fail
      refine wp_loop_rounds 3 ?_
      rw [rounds_succ]
      go_wp2_with fail
      rw [rounds_succ]
      go_wp2_with fail
      rw [rounds_succ]
      go_wp2
      go_ret2
      exact ⟨rfl, rfl⟩
set_option maxHeartbeats 8000000 in
set_option maxRecDepth 100000 in
theorem ref_ReadNumberPos (s : ByteArray) (w : World) (hs : s.size < 4294967281) (h0 : 0 < s.size) (hb45 : (((s[0].toNat : Nat) : Int) == 45) = false) (a : UInt8) (r : List UInt8) (hl : s.data.toList = a :: r) (ha : a ≠ 45) : Calls Tryz.prog 90 #[.string s] w (Pure (numT (Venn.readNum s.data.toList)) w) := by
  have HB := Lib.hid (read_above hl ha)
  have h0i : (0 : Int) < (s.size : Int) := by omega
  clear hl ha
  generalize Venn.readNum s.data.toList = V at HB ⊢
  by_cases hn3 : 3 ≤ s.size
  · have hc1 : ¬ ((s.size : Int) < 1) := by omega
    have hc2 : (2 : Int) < (s.size : Int) := by omega
    have HV := Lib.hid (show V = none by rw [HB.out, num2_long (show 3 ≤ s.data.toList.length from hn3)] <;> rfl)
    clear hn3
    rw [HV.out]
    show Calls Tryz.prog 90 #[.string s] w (Pure (.tuple #[.int .i64 (0), .bool false]) w)
    clear HB HV hs
    go_enter Tryz.func90, Tryz.ntmps90
    go_wp2
    go_ret2
    exact ⟨rfl, rfl⟩
  by_cases hn0 : s.size = 0
  · have hc0 : ((s.size : Int) < 1) := by omega
    have hnil : s.data.toList = [] := List.eq_nil_of_length_eq_zero hn0
    have HV := Lib.hid (show V = none by rw [HB.out, hnil] <;> rfl)
    clear hn3 hn0 hnil
    rw [HV.out]
    show Calls Tryz.prog 90 #[.string s] w (Pure (.tuple #[.int .i64 (0), .bool false]) w)
    clear HB HV hs
    go_enter Tryz.func90, Tryz.ntmps90
    go_wp2
    go_ret2
    exact ⟨rfl, rfl⟩
  by_cases hn1 : s.size = 1
  · have g0 : 0 < s.size := by omega
    obtain ⟨a0, ha0, hl⟩ := one_byte hn1 g0
    rw [hl, num_one] at HB
    have hc1 : ¬ ((s.size : Int) < 1) := by omega
    have hc2 : ¬ ((2 : Int) < (s.size : Int)) := by omega
    have hsz : (s.size : Int) = 1 := by omega
    clear hl hn3 hn0 hn1
    generalize hx : a0.toNat = x at HB
    have hb45x : (((x : Nat) : Int) == 45) = false := by rw [← hx, ← ha0]; exact hb45
    by_cases hx1 : x < 48
    · have hx1i : ((x : Nat) : Int) < 48 := by omega
      have HV := Lib.hid (show V = none by rw [HB.out, if_neg (by omega)] <;> rfl)
      rw [HV.out]
      show Calls Tryz.prog 90 #[.string s] w (Pure (.tuple #[.int .i64 (0), .bool false]) w)
      clear HB HV hs
      go_enter Tryz.func90, Tryz.ntmps90
      go_wp2_with fail
      refine wp_loop_rounds 1 ?_
      rw [rounds_succ]
      go_wp2
      go_ret2
      exact ⟨rfl, rfl⟩
    have hx1i : ¬ ((x : Nat) : Int) < 48 := by omega
    by_cases hx2 : 57 < x
    · have hx2i : (57 : Int) < ((x : Nat) : Int) := by omega
      have HV := Lib.hid (show V = none by rw [HB.out, if_neg (by omega)] <;> rfl)
      rw [HV.out]
      show Calls Tryz.prog 90 #[.string s] w (Pure (.tuple #[.int .i64 (0), .bool false]) w)
      clear HB HV hs
      go_enter Tryz.func90, Tryz.ntmps90
      go_wp2_with fail
      refine wp_loop_rounds 1 ?_
      rw [rounds_succ]
      go_wp2
      go_ret2
      exact ⟨rfl, rfl⟩
    have hx2i : ¬ (57 : Int) < ((x : Nat) : Int) := by omega
    have hw1 : IntKind.i64.wrap (x : Int) = (x : Int) := IntWalk.i64_in _ (by omega)
    have hw2 : IntKind.i64.wrap ((x : Int) - 48) = (x : Int) - 48 := IntWalk.i64_in _ (by omega)
    by_cases hx0 : x = 48
    · have hx0i : (((x : Nat) : Int) == 48) = true := by rw [hx0]; rfl
      have HV := Lib.hid (show V = some (0) by rw [HB.out, if_pos (by omega)]; show some (((x - 48 : Nat) : Int)) = _; congr 1; omega)
      rw [HV.out]
      show Calls Tryz.prog 90 #[.string s] w (Pure (.tuple #[.int .i64 (0), .bool true]) w)
      clear HB HV hs
      go_enter Tryz.func90, Tryz.ntmps90
      go_wp2_with fail
      refine wp_loop_rounds 2 ?_
      rw [rounds_succ]
      go_wp2_with fail
      rw [rounds_succ]
      go_wp2
      go_ret2
      exact ⟨rfl, rfl⟩
    · have hx0i : (((x : Nat) : Int) == 48) = false := beq_eq_false_iff_ne.2 (by omega)
      have HV := Lib.hid (show V = some ((x : Int) - 48) by rw [HB.out, if_pos (by omega)]; show some (((x - 48 : Nat) : Int)) = _; congr 1; omega)
      rw [HV.out]
      show Calls Tryz.prog 90 #[.string s] w (Pure (.tuple #[.int .i64 ((x : Int) - 48), .bool true]) w)
      clear HB HV hs
      go_enter Tryz.func90, Tryz.ntmps90
      go_wp2_with fail
      refine wp_loop_rounds 2 ?_
      rw [rounds_succ]
      go_wp2_with fail
      rw [rounds_succ]
      go_wp2
      go_ret2
      exact ⟨rfl, rfl⟩
  · have hn2 : s.size = 2 := by omega
    have g0 : 0 < s.size := by omega
    have g1 : 1 < s.size := by omega
    obtain ⟨a0, a1, ha0, ha1, hl⟩ := two_bytes hn2 g0 g1
    rw [hl, num_two] at HB
    have hc1 : ¬ ((s.size : Int) < 1) := by omega
    have hc2 : ¬ ((2 : Int) < (s.size : Int)) := by omega
    have hsz : (s.size : Int) = 2 := by omega
    clear hl hn3 hn0 hn1 hn2
    generalize hx : a0.toNat = x at HB
    generalize hy : a1.toNat = y at HB
    have hb45x : (((x : Nat) : Int) == 45) = false := by rw [← hx, ← ha0]; exact hb45
    by_cases hx1 : x < 48
    · have hx1i : ((x : Nat) : Int) < 48 := by omega
      have HV := Lib.hid (show V = none by rw [HB.out, if_neg (by omega)] <;> rfl)
      rw [HV.out]
      show Calls Tryz.prog 90 #[.string s] w (Pure (.tuple #[.int .i64 (0), .bool false]) w)
      clear HB HV hs
      go_enter Tryz.func90, Tryz.ntmps90
      go_wp2_with fail
      refine wp_loop_rounds 1 ?_
      rw [rounds_succ]
      go_wp2
      go_ret2
      exact ⟨rfl, rfl⟩
    have hx1i : ¬ ((x : Nat) : Int) < 48 := by omega
    by_cases hx2 : 57 < x
    · have hx2i : (57 : Int) < ((x : Nat) : Int) := by omega
      have HV := Lib.hid (show V = none by rw [HB.out, if_neg (by omega)] <;> rfl)
      rw [HV.out]
      show Calls Tryz.prog 90 #[.string s] w (Pure (.tuple #[.int .i64 (0), .bool false]) w)
      clear HB HV hs
      go_enter Tryz.func90, Tryz.ntmps90
      go_wp2_with fail
      refine wp_loop_rounds 1 ?_
      rw [rounds_succ]
      go_wp2
      go_ret2
      exact ⟨rfl, rfl⟩
    have hx2i : ¬ (57 : Int) < ((x : Nat) : Int) := by omega
    have hw1 : IntKind.i64.wrap (x : Int) = (x : Int) := IntWalk.i64_in _ (by omega)
    have hw2 : IntKind.i64.wrap ((x : Int) - 48) = (x : Int) - 48 := IntWalk.i64_in _ (by omega)
    have hw3 : IntKind.i64.wrap (10 * ((x : Int) - 48)) = 10 * ((x : Int) - 48) := IntWalk.i64_in _ (by omega)
    by_cases hy1 : y < 48
    · have hy1i : ((y : Nat) : Int) < 48 := by omega
      have HV := Lib.hid (show V = none by rw [HB.out, if_neg (by omega)] <;> rfl)
      rw [HV.out]
      show Calls Tryz.prog 90 #[.string s] w (Pure (.tuple #[.int .i64 (0), .bool false]) w)
      clear HB HV hs
      go_enter Tryz.func90, Tryz.ntmps90
      go_wp2_with fail
      refine wp_loop_rounds 2 ?_
      rw [rounds_succ]
      go_wp2_with fail
      rw [rounds_succ]
      go_wp2
      go_ret2
      exact ⟨rfl, rfl⟩
    have hy1i : ¬ ((y : Nat) : Int) < 48 := by omega
    by_cases hy2 : 57 < y
    · have hy2i : (57 : Int) < ((y : Nat) : Int) := by omega
      have HV := Lib.hid (show V = none by rw [HB.out, if_neg (by omega)] <;> rfl)
      rw [HV.out]
      show Calls Tryz.prog 90 #[.string s] w (Pure (.tuple #[.int .i64 (0), .bool false]) w)
      clear HB HV hs
      go_enter Tryz.func90, Tryz.ntmps90
      go_wp2_with fail
      refine wp_loop_rounds 2 ?_
      rw [rounds_succ]
      go_wp2_with fail
      rw [rounds_succ]
      go_wp2
      go_ret2
      exact ⟨rfl, rfl⟩
    have hy2i : ¬ (57 : Int) < ((y : Nat) : Int) := by omega
    have hw4 : IntKind.i64.wrap (y : Int) = (y : Int) := IntWalk.i64_in _ (by omega)
    have hw5 : IntKind.i64.wrap (10 * ((x : Int) - 48) + (y : Int)) = 10 * ((x : Int) - 48) + (y : Int) := IntWalk.i64_in _ (by omega)
    have hw6 : IntKind.i64.wrap (10 * ((x : Int) - 48) + (y : Int) - 48) = 10 * ((x : Int) - 48) + (y : Int) - 48 := IntWalk.i64_in _ (by omega)
    by_cases hx0 : x = 48
    · have hx0i : (((x : Nat) : Int) == 48) = true := by rw [hx0]; rfl
      have HV := Lib.hid (show V = none by rw [HB.out, if_neg (by omega)] <;> rfl)
      rw [HV.out]
      show Calls Tryz.prog 90 #[.string s] w (Pure (.tuple #[.int .i64 (0), .bool false]) w)
      clear HB HV hs
      go_enter Tryz.func90, Tryz.ntmps90
      go_wp2_with fail
      refine wp_loop_rounds 3 ?_
      rw [rounds_succ]
      go_wp2_with fail
      rw [rounds_succ]
      go_wp2_with fail
      rw [rounds_succ]
      go_wp2
      go_ret2
      exact ⟨rfl, rfl⟩
    · have hx0i : (((x : Nat) : Int) == 48) = false := beq_eq_false_iff_ne.2 (by omega)
      have HV := Lib.hid (show V = some (10 * ((x : Int) - 48) + (y : Int) - 48) by rw [HB.out, if_pos (by omega)]; show some (((10 * (x - 48) + (y - 48) : Nat) : Int)) = _; congr 1; omega)
      rw [HV.out]
      show Calls Tryz.prog 90 #[.string s] w (Pure (.tuple #[.int .i64 (10 * ((x : Int) - 48) + (y : Int) - 48), .bool true]) w)
      clear HB HV hs
      go_enter Tryz.func90, Tryz.ntmps90
      go_wp2_with fail
      refine wp_loop_rounds 3 ?_
      rw [rounds_succ]
      go_wp2_with fail
      rw [rounds_succ]
      go_wp2_with fail
      rw [rounds_succ]
      go_wp2
      go_ret2
      exact ⟨rfl, rfl⟩
set_option maxHeartbeats 8000000 in
set_option maxRecDepth 100000 in
theorem ref_ReadNumber (s : ByteArray) (w : World) (hs : s.size < 4294967281) : Calls Tryz.prog 90 #[.string s] w (Pure (numT (Venn.readNum s.data.toList)) w) := by
  by_cases hz : s.size = 0
  · have HV := Lib.hid (show Venn.readNum s.data.toList = none by
      have : s.data.toList = [] := List.eq_nil_of_length_eq_zero hz
      rw [this]; rfl)
    rw [HV.out]
    have hz1 : ¬ ((0 : Int) < (s.size : Int)) := by omega
    have hz2 : (s.size : Int) < 1 := by omega
    clear hz hs HV
    go_enter Tryz.func90, Tryz.ntmps90
    go_wp2
    go_ret2
    exact ⟨rfl, rfl⟩
  · have h0 : 0 < s.size := by omega
    obtain ⟨a, r, hl⟩ : ∃ a r, s.data.toList = a :: r := by
      cases h : s.data.toList with
      | nil => exact absurd (show s.data.toList.length = 0 by rw [h]; rfl) (by show s.size ≠ 0; exact hz)
      | cons a r => exact ⟨a, r, rfl⟩
    have ha : s[0] = a := by
      have : s.data.toList[0]? = some a := by rw [hl]; rfl
      have h2 : s.data.toList[0]? = some s[0] := by rw [List.getElem?_eq_getElem (show 0 < s.data.toList.length from h0)]; rfl
      exact Option.some.inj (h2.symm.trans this)
    by_cases h45 : a = 45
    · subst h45
      exact ref_ReadNumberNeg s w hs h0 (by rw [ha]; rfl) r hl
    · exact ref_ReadNumberPos s w hs h0 (by
        rw [ha]; apply beq_eq_false_iff_ne.2; intro h; apply h45; apply UInt8.toNat_inj.1; show a.toNat = 45; omega) a r hl h45
end Go.Proofs.YtcloppcekbdbaaaGreatDoor
