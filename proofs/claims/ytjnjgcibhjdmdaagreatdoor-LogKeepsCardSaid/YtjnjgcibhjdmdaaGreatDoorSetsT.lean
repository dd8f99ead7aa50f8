/-
  THE WALKS of package sets: what each call computes.
  THE WALKS of package term: what is wrong with a term.
  THE WALK of term.Set: the stack of sets.
  THE WALKS of term.World, term.Value.
  THE WALK of fields.Made: the world of so many in each field.
  THE WALK of fields.Where.
  THE WALK of term.Value.
-/
import Derived.Test.YtjnjgcibhjdmdaaGreatDoorMem
import Derived.Laws.BitsAllLaws
import Derived.Test.YtjnjgcibhjdmdaaGreatDoorVennP1
import Derived.Deep.RegionLaw
import Derived.Deep.AppendLies
import Derived.StillTailTactics
import Derived.WalkSmall
namespace Go.Proofs.YtjnjgcibhjdmdaaGreatDoor
open Go.RowKit

set_option maxHeartbeats 400000 in
theorem sets_Things (u : Int) (w : World) :
    Calls Tryz.prog 24 #[.int .i64 u] w (Pure (.bool (Venn.things u)) w) := by
  go_enter Tryz.func24, Tryz.ntmps24
  go_wp2
  all_goals
    go_ret
    refine ⟨ret_bool ?_, rfl⟩
    simp [Venn.things, *]
    try omega

theorem allS_wrap (u : Int) (h0 : 0 ≤ u) (h6 : u ≤ 6) : wrap64 (wrap64 (2 ^ u.toNat) - 1) = Venn.allS u := by
  obtain rfl | rfl | rfl | rfl | rfl | rfl | rfl : u = 0 ∨ u = 1 ∨ u = 2 ∨ u = 3 ∨ u = 4 ∨ u = 5 ∨ u = 6 := by omega
  all_goals decide +kernel

set_option maxHeartbeats 400000 in
theorem sets_All (u : Int) (w : World) (h : Venn.things u = true) :
    Calls Tryz.prog 119 #[.int .i64 u] w (Pure (.int .i64 (Venn.allS u)) w) := by
  obtain ⟨h0, h6⟩ : 0 ≤ u ∧ u ≤ 6 := by simpa [Venn.things] using h
  clear h
  go_enter Tryz.func119, Tryz.ntmps119
  go_wp2
  go_ret
  exact ⟨ret_int (allS_wrap u h0 h6), rfl⟩

set_option maxHeartbeats 400000 in
theorem sets_Right (u s : Int) (w : World) (h : Venn.things u = true) :
    Calls Tryz.prog 97 #[.int .i64 u, .int .i64 s] w (Pure (.bool (Venn.rightS u s)) w) := by
  go_enter Tryz.func97, Tryz.ntmps97
  go_wp2_with (go_at_call 119; refine (sets_All _ _ h).mono ?_; rintro e w' ⟨rfl, rfl⟩)
  all_goals
    go_ret
    refine ⟨ret_bool ?_, rfl⟩
    simp [Venn.rightS, *]
    try omega

set_option maxHeartbeats 400000 in
theorem sets_Check (u s : Int) (w : World) :
    Calls Tryz.prog 69 #[.int .i64 u, .int .i64 s] w (Pure (errV (Venn.setChk u s)) w) := by
  rcases hb : Venn.things u with _ | _
  · have hx : Hid (errV (Venn.setChk u s) = .iface 59 (.int .i64 1)) := by simp [Hid, Venn.setChk, hb, errV]
    go_enter Tryz.func69, Tryz.ntmps69
    go_wp2_with (go_at_call 24; refine (sets_Things _ _).mono ?_; rintro e w' ⟨rfl, rfl⟩)
    go_ret
    exact ⟨by rw [hx.out]; rfl, rfl⟩
  · rcases hr : Venn.rightS u s with _ | _
    · have hx : Hid (errV (Venn.setChk u s) = .iface 59 (.int .i64 1)) := by simp [Hid, Venn.setChk, hb, hr, errV]
      go_enter Tryz.func69, Tryz.ntmps69
      go_wp2_with (first | (go_at_call 24; refine (sets_Things _ _).mono ?_; rintro e w' ⟨rfl, rfl⟩) | (go_at_call 97; refine (sets_Right _ _ _ hb).mono ?_; rintro e w' ⟨rfl, rfl⟩))
      go_ret
      exact ⟨by rw [hx.out]; rfl, rfl⟩
    · have hx : Hid (errV (Venn.setChk u s) = .nilIface) := by simp [Hid, Venn.setChk, hb, hr, errV]
      go_enter Tryz.func69, Tryz.ntmps69
      go_wp2_with (first | (go_at_call 24; refine (sets_Things _ _).mono ?_; rintro e w' ⟨rfl, rfl⟩) | (go_at_call 97; refine (sets_Right _ _ _ hb).mono ?_; rintro e w' ⟨rfl, rfl⟩))
      go_ret
      exact ⟨by rw [hx.out]; rfl, rfl⟩

theorem bits_or_small : ∀ a b : Fin 64, bits .or .i64 ((a.val : Nat) : Int) ((b.val : Nat) : Int) = ((a.val ||| b.val : Nat) : Int) := by decide +kernel
theorem bits_and_small : ∀ a b : Fin 64, bits .and .i64 ((a.val : Nat) : Int) ((b.val : Nat) : Int) = ((a.val &&& b.val : Nat) : Int) := by decide +kernel
theorem bits_andNot_small : ∀ a b : Fin 64, bits .andNot .i64 ((a.val : Nat) : Int) ((b.val : Nat) : Int) = (Venn.andNot a.val b.val : Int) := by decide +kernel
theorem bits_or_64 {a b : Int} (ha : 0 ≤ a ∧ a ≤ 63) (hb : 0 ≤ b ∧ b ≤ 63) : bits .or .i64 a b = ((a.toNat ||| b.toNat : Nat) : Int) := by
  have := bits_or_small ⟨a.toNat, by omega⟩ ⟨b.toNat, by omega⟩
  simpa [Int.toNat_of_nonneg ha.1, Int.toNat_of_nonneg hb.1] using this
theorem bits_and_64 {a b : Int} (ha : 0 ≤ a ∧ a ≤ 63) (hb : 0 ≤ b ∧ b ≤ 63) : bits .and .i64 a b = ((a.toNat &&& b.toNat : Nat) : Int) := by
  have := bits_and_small ⟨a.toNat, by omega⟩ ⟨b.toNat, by omega⟩
  simpa [Int.toNat_of_nonneg ha.1, Int.toNat_of_nonneg hb.1] using this
theorem bits_andNot_64 {a b : Int} (ha : 0 ≤ a ∧ a ≤ 63) (hb : 0 ≤ b ∧ b ≤ 63) : bits .andNot .i64 a b = (Venn.andNot a.toNat b.toNat : Int) := by
  have := bits_andNot_small ⟨a.toNat, by omega⟩ ⟨b.toNat, by omega⟩
  simpa [Int.toNat_of_nonneg ha.1, Int.toNat_of_nonneg hb.1] using this
theorem allS_range {u : Int} (h : Venn.things u = true) : 0 ≤ Venn.allS u ∧ Venn.allS u ≤ 63 := by
  obtain ⟨h0, h6⟩ : 0 ≤ u ∧ u ≤ 6 := by simpa [Venn.things] using h
  obtain rfl | rfl | rfl | rfl | rfl | rfl | rfl : u = 0 ∨ u = 1 ∨ u = 2 ∨ u = 3 ∨ u = 4 ∨ u = 5 ∨ u = 6 := by omega
  all_goals decide +kernel

set_option maxHeartbeats 400000 in
theorem sets_Of (what u a b : Int) (w : World) (h : Venn.things u = true) (ha : 0 ≤ a ∧ a ≤ 63) (hb : 0 ≤ b ∧ b ≤ 63) :
    Calls Tryz.prog 120 #[.int .i64 what, .int .i64 u, .int .i64 a, .int .i64 b] w (Pure (.int .i64 (Venn.setOf what u a b)) w) := by
  have hA := allS_range h
  go_enter Tryz.func120, Tryz.ntmps120
  go_wp2_with (go_at_call 119; refine (sets_All _ _ h).mono ?_; rintro e w' ⟨rfl, rfl⟩)
  all_goals
    go_ret
    refine ⟨ret_int ?_, rfl⟩
    simp_all [Venn.setOf, bits_or_64, bits_and_64, bits_andNot_64]

set_option maxHeartbeats 400000 in
theorem bits_OnesCount64 (x : Int) (w : World) (h : 0 ≤ x ∧ x ≤ 63) :
    Calls Tryz.prog 136 #[.int .u64 x] w (Pure (.int .i64 (Venn.many x)) w) := by
  obtain ⟨n, rfl⟩ : ∃ n : Fin 64, x = ((n.val : Nat) : Int) := ⟨⟨x.toNat, by omega⟩, by simp; omega⟩
  go_enter Tryz.func136, Tryz.ntmps136
  go_wp2
  go_tidy
  go_ret
  refine ⟨ret_int ?_, rfl⟩
  clear h
  revert n
  decide +kernel

set_option maxHeartbeats 400000 in
theorem sets_Many (s : Int) (w : World) (h : 0 ≤ s ∧ s ≤ 63) :
    Calls Tryz.prog 99 #[.int .i64 s] w (Pure (.int .i64 (Venn.many s)) w) := by
  obtain ⟨h0, h6⟩ := h
  go_enter Tryz.func99, Tryz.ntmps99
  go_wp2_with (first | (go_at_call 136; refine (bits_OnesCount64 _ _ ⟨h0, h6⟩).mono ?_; rintro e w' ⟨rfl, rfl⟩) | (go_at_call 121; go_in))
  go_ret
  exact ⟨rfl, rfl⟩

theorem setChk_01 (u s : Int) : Venn.setChk u s = 0 ∨ Venn.setChk u s = 1 := by unfold Venn.setChk; split <;> simp
theorem setChk_ok {u s : Int} (h : Venn.setChk u s = 0) : Venn.things u = true ∧ 0 ≤ s ∧ s ≤ Venn.allS u := by
  unfold Venn.setChk at h
  split at h
  · rename_i hh; simp [Venn.rightS] at hh; exact ⟨hh.1, hh.2⟩
  · simp at h
theorem setChk_63 {u s : Int} (h : Venn.setChk u s = 0) : 0 ≤ s ∧ s ≤ 63 := by
  obtain ⟨h1, h2, h3⟩ := setChk_ok h
  have := allS_range h1
  omega

theorem setDo_cases (what u a b : Int) : (Venn.setChk u a = 1 ∧ Venn.setDoChk what u a b = 1) ∨ (Venn.setChk u a = 0 ∧ Venn.setChk u b = 1 ∧ Venn.setDoChk what u a b = 1) ∨
    (Venn.setChk u a = 0 ∧ Venn.setChk u b = 0 ∧ (what < 5 ∨ 8 < what) ∧ Venn.setDoChk what u a b = 1) ∨ (Venn.setChk u a = 0 ∧ Venn.setChk u b = 0 ∧ 5 ≤ what ∧ what ≤ 8 ∧ Venn.setDoChk what u a b = 0) := by
  unfold Venn.setDoChk
  rcases setChk_01 u a with h | h <;> rcases setChk_01 u b with h' | h' <;> simp [h, h']
  omega

end Go.Proofs.YtjnjgcibhjdmdaaGreatDoor

namespace Go.Proofs.YtjnjgcibhjdmdaaGreatDoor
open Go.RowKit

set_option maxHeartbeats 400000 in
theorem term_takes (s : Int) (w : World) : Calls Tryz.prog 78 #[.int .i64 s] w (Pure (.int .i64 (Venn.takes s)) w) := by
  by_cases h8 : s = 8
  · subst h8
    go_enter Tryz.func78, Tryz.ntmps78
    go_wp2
    go_ret
    exact ⟨rfl, rfl⟩
  · have h8' : (s == 8) = false := by simpa using h8
    have hx := Lib.hid (show Venn.takes s = if 5 ≤ s then 2 else 0 by simp [Venn.takes, h8])
    clear h8
    go_enter Tryz.func78, Tryz.ntmps78
    go_wp2
    all_goals
      go_ret
      refine ⟨ret_int ?_, rfl⟩
      rw [hx.out]
      simp [*]
      try omega

set_option maxHeartbeats 400000 in
theorem term_bad (s : Int) (w : World) : Calls Tryz.prog 77 #[.int .i64 s] w (Pure (.bool (Venn.badSign s)) w) := by
  go_enter Tryz.func77, Tryz.ntmps77
  go_wp2
  all_goals
    go_ret
    refine ⟨ret_bool ?_, rfl⟩
    simp [Venn.badSign, *]
    try omega

/-- The place of the first that is so, or -1. -/
def idxOf (p : Int → Bool) : List Int → Nat → Int
  | [], _ => -1
  | x :: r, k => if p x then k else idxOf p r (k + 1)

set_option maxHeartbeats 1000000 in
theorem slices_IndexFunc (fid : Nat) (p : Int → Bool) (hcf : ∀ args W, (callFunc fid args).run Tryz.prog W = .ok (.enter fid args) W) (hp : ∀ x W, Calls Tryz.prog fid #[.int .i64 x] W (Pure (.bool (p x)) W)) (A : Option Addr) (c : Nat) (l : List Int) (w : World) (h : Rd w A (l.map (Value.int .i64))) (hl : l.length ≤ maxLen) :
    Calls Tryz.prog 104 #[.slice A l.length c, .func (.func fid) #[] #[]] w (Pure (.int .i64 (idxOf p l 0)) w) := by
  unfold maxLen at hl
  have HP := Lib.hid hp; clear hp
  go_enter Tryz.func104, Tryz.ntmps104
  go_wp2
  go_loop [8] (fun i => ∃ k : Nat, k ≤ l.length ∧ i = .int .i64 k ∧ idxOf p (l.drop k) k = idxOf p l 0) (fun i => l.length - (intOf i).toNat)
  case atStart => exact ⟨0, Nat.zero_le _, rfl, by simp⟩
  case round =>
    obtain ⟨k, hk, rfl, hrest⟩ := hrel
    have HR := Lib.hid hrest; clear hrest
    by_cases hlt : k < l.length
    · obtain ⟨ad, rfl, hc⟩ := h.int hlt
      have HD := Lib.hid (List.drop_eq_getElem_cons hlt)
      generalize l[k] = x at hc HD
      rcases hpx : p x with _ | _
      all_goals
        have HX := Lib.hid hpx
        go_wp2_with (refine (HP.out _ _).mono ?_; rintro e w' ⟨rfl, rfl⟩)
      · go_round
        case rel => exact ⟨k + 1, by omega, by go_num, by rw [← HR.out, HD.out, idxOf, HX.out]; simp⟩
        case measure => simp [intOf]; omega
      · go_ret
        exact ⟨ret_int (by rw [← HR.out, HD.out, idxOf, HX.out]; simp), rfl⟩
    · go_wp2
      go_ret
      exact ⟨ret_int (by rw [← HR.out, List.drop_eq_nil_of_le (by omega)]; rfl), rfl⟩

theorem idxOf_nonneg (p : Int → Bool) : ∀ (l : List Int) (k : Nat), decide (0 ≤ idxOf p l k) = l.any p
  | [], k => by simp [idxOf]
  | x :: r, k => by
    unfold idxOf
    by_cases h : p x = true
    · simp [h]
    · simp [h, idxOf_nonneg p r (k + 1)]

set_option maxHeartbeats 1000000 in
theorem slices_ContainsFunc (fid : Nat) (p : Int → Bool) (hcf : ∀ args W, (callFunc fid args).run Tryz.prog W = .ok (.enter fid args) W) (hp : ∀ x W, Calls Tryz.prog fid #[.int .i64 x] W (Pure (.bool (p x)) W)) (A : Option Addr) (c : Nat) (l : List Int) (w : World) (h : Rd w A (l.map (Value.int .i64))) (hl : l.length ≤ maxLen) :
    Calls Tryz.prog 76 #[.slice A l.length c, .func (.func fid) #[] #[]] w (Pure (.bool (l.any p)) w) := by
  have HI := Lib.hid (slices_IndexFunc fid p hcf hp A c l w h hl)
  have HN := Lib.hid (idxOf_nonneg p l 0)
  clear hp hcf h hl
  go_enter Tryz.func76, Tryz.ntmps76
  go_wp2_with (go_at_call 104; refine (HI.out).mono ?_; rintro e w' ⟨rfl, rfl⟩)
  all_goals
    go_ret
    refine ⟨ret_bool ?_, rfl⟩
    rw [← HN.out]

theorem term_bad_enter (args : Array Value) (W : World) : (callFunc 77 args).run Tryz.prog W = .ok (.enter 77 args) W :=
  callFunc_enter Tryz.func77 (by kernel_rfl) rfl args W

theorem takes_012 (s : Int) : Venn.takes s = 0 ∨ Venn.takes s = 1 ∨ Venn.takes s = 2 := by unfold Venn.takes; split <;> (try split) <;> simp

set_option maxHeartbeats 2000000 in
theorem term_Check (v : Value) (t : List Int) (w : World) (h : IsInts w v t) : Calls Tryz.prog 49 #[v] w (Pure (errV (Venn.termChk t)) w) := by
  obtain ⟨A, c, rfl, hr, hlc, hc⟩ := h
  unfold maxLen at hc
  by_cases h0 : t.length = 0
  · have ht : t = [] := List.eq_nil_of_length_eq_zero h0
    subst ht
    rw [show errV (Venn.termChk []) = .iface 59 (.int .i64 5) from rfl]
    go_enter Tryz.func49, Tryz.ntmps49
    go_wp2
    go_ret
    exact ⟨rfl, rfl⟩
  have hp : 0 < t.length := by omega
  have H0 := Lib.hid h0
  by_cases h12 : 12 < t.length
  · rw [show errV (Venn.termChk t) = .iface 59 (.int .i64 4) by simp [Venn.termChk, h0, h12, errV]]
    have hz : (((t.length : Nat) : Int) == 0) = false := beq_eq_false_iff_ne.2 (by omega)
    clear h0
    go_enter Tryz.func49, Tryz.ntmps49
    go_wp2
    go_ret
    exact ⟨rfl, rfl⟩
  have H12 : t.length ≤ 12 := by omega
  have hz : (((t.length : Nat) : Int) == 0) = false := beq_eq_false_iff_ne.2 (by omega)
  have HC := Lib.hid (slices_ContainsFunc 77 Venn.badSign term_bad_enter term_bad A c t w hr (by unfold maxLen; omega))
  rcases hbad : t.any Venn.badSign with _ | _
  · rw [show Venn.termChk t = Venn.shapeGo 0 t by simp [Venn.termChk, h0, h12, hbad]]
    have HB := Lib.hid hbad
    clear h0 h12 hbad
    go_enter Tryz.func49, Tryz.ntmps49
    go_wp2_with (go_at_call 76; refine (HC.out).mono ?_; rintro e w' ⟨rfl, rfl⟩; rw [HB.out])
    go_loop [3, 22] (fun m i => ∃ (k : Nat) (M : Int), k ≤ t.length ∧ i = .int .i64 k ∧ m = .int .i64 M ∧ 0 ≤ M ∧ M ≤ k ∧ Venn.shapeGo M (t.drop k) = Venn.shapeGo 0 t) (fun _ i => t.length - (intOf i).toNat)
    case atStart => exact ⟨0, 0, Nat.zero_le _, rfl, rfl, by omega, by omega, by simp⟩
    case round =>
      obtain ⟨k, M, hk, rfl, rfl, hM0, hMk, hrest⟩ := hrel
      have HR := Lib.hid hrest; clear hrest
      by_cases hlt : k < t.length
      · obtain ⟨ad, rfl, hcell⟩ := hr.int hlt
        have HD := Lib.hid (List.drop_eq_getElem_cons hlt)
        generalize t[k] = x at hcell HD
        clear hr HC
        have hx := takes_012 x
        have htr : 0 ≤ Venn.takes x ∧ Venn.takes x ≤ 2 := by omega
        clear hx
        by_cases hm : M < Venn.takes x
        · go_wp2_with (go_at_call 78; refine (term_takes _ _).mono ?_; rintro e w' ⟨rfl, rfl⟩)
          go_ret
          exact ⟨by rw [← HR.out, HD.out, Venn.shapeGo, if_pos hm]; rfl, rfl⟩
        · go_wp2_with (go_at_call 78; refine (term_takes _ _).mono ?_; rintro e w' ⟨rfl, rfl⟩)
          go_round
          case rel => exact ⟨k + 1, M + (1 - Venn.takes x), by omega, by go_num, rfl, by omega, by omega, by rw [← HR.out, HD.out, Venn.shapeGo, if_neg (by omega)]⟩
          case measure => simp [intOf]; omega
      · have hn := Lib.hid (show t.drop k = [] from List.drop_eq_nil_of_le (by omega))
        by_cases h1 : M = 1
        · have hd : (M != 1) = false := by simp [h1]
          have H1 := Lib.hid h1; clear h1
          go_wp2
          go_ret
          exact ⟨by rw [← HR.out, hn.out, Venn.shapeGo, if_pos H1.out]; rfl, rfl⟩
        · have hd : (M != 1) = true := by simp [h1]
          have H1 := Lib.hid h1; clear h1
          go_wp2
          go_ret
          exact ⟨by rw [← HR.out, hn.out, Venn.shapeGo, if_neg H1.out]; rfl, rfl⟩
  · rw [show errV (Venn.termChk t) = .iface 59 (.int .i64 1) by simp [Venn.termChk, h0, h12, hbad, errV]]
    have HB := Lib.hid hbad
    clear h0 h12 hbad
    go_enter Tryz.func49, Tryz.ntmps49
    go_wp2_with (go_at_call 76; refine (HC.out).mono ?_; rintro e w' ⟨rfl, rfl⟩; rw [HB.out])
    go_ret
    exact ⟨rfl, rfl⟩

end Go.Proofs.YtjnjgcibhjdmdaaGreatDoor

namespace Go.Proofs.YtjnjgcibhjdmdaaGreatDoor
open Go.RowKit

theorem Pure.still {P : Program} {f : FuncId} {args : Array Value} {w : World} {v : Value} (h : Calls P f args w (Pure v w)) : Calls P f args w fun e w'' => e = .returned v ∧ w'' = w :=
  h.mono fun _ _ ⟨he, hw⟩ => ⟨he, hw.symm⟩

/-- The row of sets, as it lies: the top last. -/
def stackOf (st : List Int) : List Value := st.reverse.map (Value.int .i64)
theorem stackOf_cons (x : Int) (st : List Int) : stackOf (x :: st) = stackOf st ++ [.int .i64 x] := by simp [stackOf]
theorem stackOf_length (st : List Int) : (stackOf st).length = st.length := by simp [stackOf]

/-- Between two rounds: the row holds the stack; nothing that lay before the call has turned. -/
structure SetInv (w wr : World) (W : Venn.World) (t : List Int) (v : Value) (k : Nat) (st : List Int) : Prop where
  len : st.length ≤ k
  own : wr.ownsRow (w.heap.size + 1) 3 1 v st.length (stackOf st)
  below : Below w.heap.size w wr
  size : w.heap.size < wr.heap.size
  blk : Blk wr w.heap.size 45 #[.int .i64 W.things, .int .i64 W.a, .int .i64 W.b, .int .i64 W.c]
  right : Venn.Right W.things st
  shape : Venn.shapeGo st.length (t.drop k) = 0
  fold : (t.drop k).foldl (Venn.setStep W) st = t.foldl (Venn.setStep W) []

theorem SetInv.step {w wr w1 : World} {W : Venn.World} {t : List Int} {v v' : Value} {k : Nat} {st st' : List Int} {x : Int} (h : SetInv w wr W t v k st) (hW : Venn.worldChk W = 0) (hx : 0 ≤ x ∧ x ≤ 8)
    (hD : t.drop k = x :: t.drop (k + 1)) (hst : st' = Venn.setStep W st x) (hown : w1.ownsRow (w.heap.size + 1) 3 1 v' st'.length (stackOf st')) (hb : Below w.heap.size w w1) (hz : w.heap.size < w1.heap.size)
    (hk : Blk w1 w.heap.size 45 #[.int .i64 W.things, .int .i64 W.a, .int .i64 W.b, .int .i64 W.c]) : SetInv w w1 W t v' (k + 1) st' := by
  have hs := h.shape
  rw [hD] at hs
  obtain ⟨h1, h2⟩ := Venn.shape_step hs
  have hl := Venn.setStep_length (w := W) hx h1
  have h0 := takes_012 x
  have hlen := h.len
  refine ⟨by rw [hst]; omega, hown, hb, hz, hk, by rw [hst]; exact Venn.setStep_right hW h.right x, by rw [hst, hl]; exact h2, ?_⟩
  rw [← h.fold, hD, hst]
  rfl

/-- A block of the call's own is laid, and the row grows. -/
theorem SetInv.push {w wr w1 : World} {W : Venn.World} {t : List Int} {v v' : Value} {k : Nat} {st st' : List Int} {x : Int} {o : Obj} (h : SetInv w wr W t v k st) (hW : Venn.worldChk W = 0) (hx : 0 ≤ x ∧ x ≤ 8)
    (hD : t.drop k = x :: t.drop (k + 1)) (hst : st' = Venn.setStep W st x) (hown : w1.ownsRow (w.heap.size + 1) 3 1 v' st'.length (stackOf st')) (hg : (wr.alloc o).grownBy w1 v.ownBlock) : SetInv w w1 W t v' (k + 1) st' := by
  have hlt := h.own.lt
  have hsz := h.size
  have hgs := hg.size
  have hb : Below w.heap.size w (wr.alloc o) := h.below.alloc (Nat.le_of_lt hsz) o
  refine h.step hW hx hD hst hown (hb.grown hg (by simp; omega) fun g hg' => by have := (hlt g hg').1; omega) (by simp at hgs; omega) ?_
  refine (h.blk.alloc o).grown hg ?_
  intro e
  have := (hlt _ e.symm).1
  omega

set_option maxHeartbeats 4000000 in
set_option maxRecDepth 100000 in
theorem term_Set (v : Value) (t : List Int) (th a b c : Int) (w : World) (h : IsInts w v t) (ht : Venn.termChk t = 0) (hw : Venn.worldChk ⟨th, a, b, c⟩ = 0) :
    Calls Tryz.prog 98 #[v, .agg #[.int .i64 th, .int .i64 a, .int .i64 b, .int .i64 c]] w (Keeps (.int .i64 (Venn.termSet t ⟨th, a, b, c⟩)) w) := by
  obtain ⟨A, cp, rfl, hr, hlc, hc⟩ := h
  have h12 : t.length ≤ 12 := by
    unfold Venn.termChk at ht
    split at ht
    · simp at ht
    · split at ht
      · simp at ht
      · omega
  have hsh : Venn.shapeGo 0 t = 0 := by
    unfold Venn.termChk at ht
    split at ht
    · simp at ht
    · split at ht
      · simp at ht
      · split at ht
        · simp at ht
        · exact ht
  have hbad : t.any Venn.badSign = false := by
    unfold Venn.termChk at ht
    split at ht
    · simp at ht
    · split at ht
      · simp at ht
      · split at ht
        · simp at ht
        · rename_i h; simpa using h
  have hB : ∀ x ∈ t, 0 ≤ x ∧ x ≤ 8 := by
    intro x hx
    have := List.any_eq_false.1 hbad x hx
    simp [Venn.badSign] at this
    omega
  have HT := Lib.hid hB
  have HW := Lib.hid hw
  have HS := Lib.hid hsh
  have hth := Lib.hid (Venn.worldChk_iff.1 hw).1
  clear hB hw hsh hbad ht
  go_enter Tryz.func98, Tryz.ntmps98
  go_wp2
  go_loopw [5, 11] (fun v i wr => ∃ (k : Nat) (st : List Int), k ≤ t.length ∧ i = .int .i64 k ∧ SetInv w wr ⟨th, a, b, c⟩ t v k st)
    (fun _ i _ => t.length - (intOf i).toNat)
  case atStart =>
    exact ⟨0, [], Nat.zero_le _, rfl, by simp, World.ownsRow_nil _ _ _ _, by go_grown, by simp, Blk.new _ _ _, fun x hx => by simp at hx, by simpa using HS.out, by simp⟩
  case round =>
    obtain ⟨k, st, hk, rfl, hinv⟩ := hrel
    have hlen := hinv.len
    have hown := hinv.own
    have hsz := hinv.size
    obtain ⟨A5, cp5, rfl⟩ := ownsRow_slice hown
    have HI := Lib.hid hinv
    by_cases hlt : k < t.length
    · obtain ⟨ad, rfl, hcell0⟩ := hr.int hlt
      have hcell := cell_keep hinv.below hcell0
      have hx08 := HT.out _ (List.getElem_mem hlt)
      have HD := Lib.hid (List.drop_eq_getElem_cons hlt)
      generalize t[k] = x at hcell hcell0 HD hx08
      have hc0 := hinv.blk.cell 0
      have hc1 := hinv.blk.cell 1
      have hc2 := hinv.blk.cell 2
      have hc3 := hinv.blk.cell 3
      simp at hc0 hc1 hc2 hc3
      have HX := Lib.hid hx08
      clear hcell0 hr hinv
      by_cases h3 : x < 3
      · obtain rfl | rfl | rfl : x = 0 ∨ x = 1 ∨ x = 2 := by omega
        · go_wp2_with (at_builtin; refine wpList_app1 _ rfl _ _ rfl (w.heap.size + 1) _ _ _ rfl (hown.alloc _) wr.heap.size 1 (a) rfl ?hy1 (by omega) (by simp; omega) ?_)
          try case hy1 => simp
          intro v' w1 hown' hg'
          go_wp2
          go_roundw
          case rel => exact ⟨k + 1, a :: st, by omega, by go_num, HI.out.push HW.out HX.out HD.out rfl (by rw [stackOf_cons]; exact hown') hg'⟩
          case measure => simp [intOf]; omega
        · go_wp2_with (at_builtin; refine wpList_app1 _ rfl _ _ rfl (w.heap.size + 1) _ _ _ rfl (hown.alloc _) wr.heap.size 1 (b) rfl ?hy2 (by omega) (by simp; omega) ?_)
          try case hy2 => simp
          intro v' w1 hown' hg'
          go_wp2
          go_roundw
          case rel => exact ⟨k + 1, b :: st, by omega, by go_num, HI.out.push HW.out HX.out HD.out rfl (by rw [stackOf_cons]; exact hown') hg'⟩
          case measure => simp [intOf]; omega
        · go_wp2_with (at_builtin; refine wpList_app1 _ rfl _ _ rfl (w.heap.size + 1) _ _ _ rfl (hown.alloc _) wr.heap.size 1 (c) rfl ?hy3 (by omega) (by simp; omega) ?_)
          try case hy3 => simp
          intro v' w1 hown' hg'
          go_wp2
          go_roundw
          case rel => exact ⟨k + 1, c :: st, by omega, by go_num, HI.out.push HW.out HX.out HD.out rfl (by rw [stackOf_cons]; exact hown') hg'⟩
          case measure => simp [intOf]; omega
      have hx3 : 3 ≤ x := by omega
      by_cases h3' : x = 3
      · subst h3'
        · go_wp2_with (at_builtin; refine wpList_app1 _ rfl _ _ rfl (w.heap.size + 1) _ _ _ rfl (hown.alloc _) wr.heap.size 1 (0) rfl ?hy4 (by omega) (by simp; omega) ?_)
          try case hy4 => simp
          intro v' w1 hown' hg'
          go_wp2
          go_roundw
          case rel => exact ⟨k + 1, 0 :: st, by omega, by go_num, HI.out.push HW.out HX.out HD.out rfl (by rw [stackOf_cons]; exact hown') hg'⟩
          case measure => simp [intOf]; omega
      have e3 : (x == 3) = false := beq_eq_false_iff_ne.2 h3'
      by_cases h4 : x = 4
      · subst h4
        · go_wp2_with (first | (go_at_call 119; refine (sets_All _ _ hth.out).mono ?_; rintro e w' ⟨rfl, rfl⟩) | (at_builtin; refine wpList_app1 _ rfl _ _ rfl (w.heap.size + 1) _ _ _ rfl (hown.alloc _) wr.heap.size 1 (Venn.allS th) rfl ?hy5 (by omega) (by simp; omega) ?_))
          try case hy5 => simp
          intro v' w1 hown' hg'
          go_wp2
          go_roundw
          case rel => exact ⟨k + 1, Venn.allS th :: st, by omega, by go_num, HI.out.push HW.out HX.out HD.out rfl (by rw [stackOf_cons]; exact hown') hg'⟩
          case measure => simp [intOf]; omega
      have e4 : (x == 4) = false := beq_eq_false_iff_ne.2 h4
      have hshape := HI.out.shape
      rw [HD.out] at hshape
      have hpop := (Venn.shape_step hshape).1
      by_cases h8 : x = 8
      · subst h8
        have hl1 : 1 ≤ st.length := by simp [Venn.takes] at hpop; omega
        clear hshape hpop
        obtain ⟨y, r, rfl⟩ : ∃ y r, st = y :: r := by
          match st, hl1 with
          | y :: r, _ => exact ⟨y, r, rfl⟩
        obtain ⟨g, cap, hv, hg1, hg2⟩ := hown.form (by simp)
        simp only [Value.slice.injEq] at hv
        obtain ⟨rfl, _, rfl⟩ := hv
        have hy : wr.cell? ⟨g, r.length, none⟩ = some (.int .i64 y) := by
          rw [hown.cellAt r.length (by simp)]
          simp [stackOf]
        have hfz := hown.frozenAt r.length
        have hry := setChk_63 (HI.out.right y (by simp))
        simp only [List.length_cons] at hown hlen hl1 ⊢
        go_wp2_with fail
        have hwrap : IntKind.i64.wrap (r.length : Int) = (r.length : Int) := IntWalk.i64_in _ (by simp at hl1; omega)
        have hlt1 : (r.length : Int) < (r.length : Int) + 1 := by omega
        go_still_tail 13, (by kernel_rfl)
        still_call (Pure.still (sets_Of _ _ _ _ _ hth.out hry (by omega)))
        repeat still_step
        try refine wpStill_nil ?_
        go_wp2
        go_roundw
        case rel =>
          have hst := hown.stored r.length (.int .i64 (Venn.setOf 8 th y 0))
          have hself : (stackOf (y :: r)).set r.length (.int .i64 (Venn.setOf 8 th y 0)) = stackOf (Venn.setOf 8 th y 0 :: r) := by
            rw [stackOf_cons, stackOf_cons, List.set_append_right _ _ (by simp [stackOf])]
            simp [stackOf]
          rw [hself] at hst
          refine ⟨k + 1, Venn.setOf 8 th y 0 :: r, by omega, by go_num, HI.out.step HW.out HX.out HD.out rfl hst.1.drew ?_ ?_ ?_⟩
          · exact (HI.out.below.setCell (p := ⟨g, r.length, none⟩) (by simp; omega) _).drew
          · simpa [World.setCell] using hsz
          · exact ((HI.out.blk.far (p := ⟨g, r.length, none⟩) (by simp; omega) _)).drew
        case measure => simp [intOf]; omega
      · have e8 : (x == 8) = false := beq_eq_false_iff_ne.2 h8
        have hx5 : 5 ≤ x := by omega
        have hl1 : 2 ≤ st.length := by simp [Venn.takes, h8, hx5] at hpop; omega
        clear hshape hpop
        obtain ⟨y, z, r, rfl⟩ : ∃ y z r, st = y :: z :: r := by
          match st, hl1 with
          | y :: z :: r, _ => exact ⟨y, z, r, rfl⟩
        obtain ⟨g, cap, hv, hg1, hg2⟩ := hown.form (by simp)
        simp only [Value.slice.injEq] at hv
        obtain ⟨rfl, _, rfl⟩ := hv
        have hy : wr.cell? ⟨g, r.length + 1, none⟩ = some (.int .i64 y) := by
          rw [hown.cellAt (r.length + 1) (by simp)]
          simp [stackOf]
        have hz : wr.cell? ⟨g, r.length, none⟩ = some (.int .i64 z) := by
          rw [hown.cellAt r.length (by simp; omega)]
          simp [stackOf]
        have hry := setChk_63 (HI.out.right y (by simp))
        have hrz := setChk_63 (HI.out.right z (by simp))
        have hown2 : wr.ownsRow (w.heap.size + 1) 3 1 (.slice (some ⟨g, 0, none⟩) r.length cp5) r.length (stackOf r) := by
          have h1 : wr.ownsRow (w.heap.size + 1) 3 1 (.slice (some ⟨g, 0, none⟩) (r.length + 1) cp5) (r.length + 1) (stackOf (z :: r)) := ownsRow_pop (last := [.int .i64 y]) (by simp [stackOf]) (by rw [← stackOf_cons]; simpa using hown)
          exact ownsRow_pop (last := [.int .i64 z]) (by simp [stackOf]) (by rw [← stackOf_cons]; exact h1)
        simp only [List.length_cons] at hown hlen hl1 ⊢
        obtain ⟨i0, hi0, hz0, hz1, hz2⟩ := info_parts int_info
        have hw1 : IntKind.i64.wrap (r.length : Int) = (r.length : Int) := IntWalk.i64_in _ (by omega)
        have hw3 : IntKind.i64.wrap ((r.length : Int) + 1 + 1 - 2) = (r.length : Int) := by
          rw [show (r.length : Int) + 1 + 1 - 2 = r.length by omega]; exact hw1
        have hcap : (r.length : Int) ≤ (cp5 : Int) := by
          have := hown.2
          rcases this with ⟨h1, _⟩ | ⟨_, cap', _, h1, _, _, h2, _⟩
          · cases h1
          · simp only [Value.slice.injEq] at h1; omega
        have hb0 : (0 : Int) ≤ (r.length : Int) := by omega
        have hb4 : (r.length : Int) < (r.length : Int) + 1 + 1 := by omega
        have hw2 : IntKind.i64.wrap ((r.length : Int) + 1) = (r.length : Int) + 1 := IntWalk.i64_in _ (by omega)
        have hb1 : (r.length : Int) < (r.length : Int) + 1 + 1 := by omega
        have hb2 : (r.length : Int) + 1 < (r.length : Int) + 1 + 1 := by omega
        have hb3 : (0 : Int) ≤ (r.length : Int) + 1 := by omega
        go_wp2_with fail
        go_region_law (first
            | (refine step_append_lies _ (by rfl) _ _ _ (by rfl) (w.heap.size + 1) 3 i0 _ 1 8 Tryz.underlying30 hi0 hz0 hz1 hz2 rfl (by omega) (.slice (some ⟨g, 0, none⟩) r.length cp5) r.length (stackOf r) (by rfl) ((hown2.alloc _).drew)
                ⟨wr.heap.size, 0, none⟩ 1 1 [.int .i64 (Venn.setOf x th z y)] (by rfl) (by rfl) (World.news_of_block (cs := #[.int .i64 (Venn.setOf x th z y)]) (t := 3) (fr := (0, 0)) (heap_alloc_new wr _)) (by simp [Value.oneCell'])
                (by omega) (by unfold maxLen; omega) (by omega) (by simp; omega) (wr.heap.size + 1) (by simp) ?_; intro gg cap w1 hown1 hgrow hat hlt2)
            | (go_simp; go_at_call 120; refine (sets_Of _ _ _ _ _ hth.out hrz hry).mono ?_; rintro e w' ⟨rfl, rfl⟩))
        all_goals
          go_wp2
          go_roundw
          case rel =>
            have hst : Venn.setStep ⟨th, a, b, c⟩ (y :: z :: r) x = Venn.setOf x th z y :: r := by
              simp [Venn.setStep, show ¬ x < 3 by omega, h3', h4, h8]
            refine ⟨k + 1, Venn.setOf x th z y :: r, by omega, by go_num, HI.out.push HW.out HX.out HD.out hst.symm (by rw [stackOf_cons]; exact hown1) (o := .cells #[.int .i64 (Venn.setOf x th z y)] 3) ?_⟩
            exact ⟨hgrow.os, hgrow.tape, hgrow.output, hgrow.size, hgrow.block⟩
          case measure => simp [intOf]; omega
    · have hk' : k = t.length := by omega
      have hd : t.drop k = [] := List.drop_eq_nil_of_le (by omega)
      have hs1 := hinv.shape
      have hf1 := hinv.fold
      have hb1 := hinv.below
      rw [hd] at hs1 hf1
      have hl1 : st.length = 1 := by
        simp only [Venn.shapeGo] at hs1
        split at hs1
        · omega
        · simp at hs1
      obtain ⟨y, rfl⟩ : ∃ y, st = [y] := by
        match st, hl1 with
        | [y], _ => exact ⟨y, rfl⟩
      obtain ⟨g, cap, hv, hg1, hg2⟩ := hown.form (by simp)
      simp only [Value.slice.injEq] at hv
      obtain ⟨rfl, _, rfl⟩ := hv
      have hy : wr.cell? ⟨g, 0, none⟩ = some (.int .i64 y) := by
        rw [hown.cellAt 0 (by simp)]
        simp [stackOf]
      have hres := Lib.hid (show Venn.termSet t ⟨th, a, b, c⟩ = y by simp only [List.foldl_nil] at hf1; rw [Venn.termSet, ← hf1]; rfl)
      clear hs1 hf1 hd hinv HI hk' hl1
      go_wp2
      go_ret
      exact ⟨ret_int hres.out.symm, hb1⟩

end Go.Proofs.YtjnjgcibhjdmdaaGreatDoor

namespace Go.Proofs.YtjnjgcibhjdmdaaGreatDoor
open Go.RowKit

theorem idx3_0 (a b c : Int) (W : World) : (Instr.index 43 (.agg #[.int .i64 a, .int .i64 b, .int .i64 c]) (.int .i64 0)).run Tryz.prog W = .ok (.int .i64 a) W := by kernel_rfl
theorem idx3_1 (a b c : Int) (W : World) : (Instr.index 43 (.agg #[.int .i64 a, .int .i64 b, .int .i64 c]) (.int .i64 1)).run Tryz.prog W = .ok (.int .i64 b) W := by kernel_rfl
theorem idx3_2 (a b c : Int) (W : World) : (Instr.index 43 (.agg #[.int .i64 a, .int .i64 b, .int .i64 c]) (.int .i64 2)).run Tryz.prog W = .ok (.int .i64 c) W := by kernel_rfl

set_option maxHeartbeats 1000000 in
theorem term_World (th a b c : Int) (w : World) : Calls Tryz.prog 43 #[.agg #[.int .i64 th, .int .i64 a, .int .i64 b, .int .i64 c]] w (Keeps (errV (Venn.worldChk ⟨th, a, b, c⟩)) w) := by
  have i0 := idx3_0 a b c
  have i1 := idx3_1 a b c
  have i2 := idx3_2 a b c
  have one : errV 1 = .iface 59 (.int .i64 1) := rfl
  rcases ht : Venn.things th with _ | _
  · rw [show Venn.worldChk ⟨th, a, b, c⟩ = 1 by simp [Venn.worldChk, ht], one]
    clear one
    go_enter Tryz.func43, Tryz.ntmps43
    go_wp2_with (go_at_call 24; refine (sets_Things _ _).mono ?_; rintro e w' ⟨rfl, rfl⟩)
    go_ret
    exact ⟨rfl, by (repeat' (first | (with_reducible exact Below.refl _ _) | (with_reducible assumption) | (with_reducible refine Below.next ?_ (by with_reducible assumption)) | (with_reducible refine Below.drew ?_) | (with_reducible refine Below.laid ?_ _) | (with_reducible refine Below.setCell ?_ ?_ _) | (with_reducible refine size_of ?_) | (with_reducible refine Nat.le_succ_of_le ?_) | go_size))⟩
  rcases setChk_01 th a with ha | ha
  · rcases setChk_01 th b with hb | hb
    · rcases setChk_01 th c with hc | hc
      · rw [show Venn.worldChk ⟨th, a, b, c⟩ = 0 by simp [Venn.worldChk, ht, ha, hb, hc], errV_zero rfl]
        have hx := Lib.hid (errV_zero ha); have hy := Lib.hid (errV_zero hb); have hz := Lib.hid (errV_zero hc)
        clear ha hb hc one
        go_enter Tryz.func43, Tryz.ntmps43
        go_wp2_with (go_at_call 24; refine (sets_Things _ _).mono ?_; rintro e w' ⟨rfl, rfl⟩)
        refine wp_loop_rounds 4 ?_
        rw [rounds_succ]
        go_wp2_with (go_at_call 69; refine (sets_Check _ _ _).mono ?_; rintro e w' ⟨rfl, rfl⟩; rw [hx.out])
        rw [rounds_succ]
        go_wp2_with (go_at_call 69; refine (sets_Check _ _ _).mono ?_; rintro e w' ⟨rfl, rfl⟩; rw [hy.out])
        rw [rounds_succ]
        go_wp2_with (go_at_call 69; refine (sets_Check _ _ _).mono ?_; rintro e w' ⟨rfl, rfl⟩; rw [hz.out])
        rw [rounds_succ]
        go_wp2
        go_ret
        exact ⟨rfl, by (repeat' (first | (with_reducible exact Below.refl _ _) | (with_reducible assumption) | (with_reducible refine Below.next ?_ (by with_reducible assumption)) | (with_reducible refine Below.drew ?_) | (with_reducible refine Below.laid ?_ _) | (with_reducible refine Below.setCell ?_ ?_ _) | (with_reducible refine size_of ?_) | (with_reducible refine Nat.le_succ_of_le ?_) | go_size))⟩
      · rw [show Venn.worldChk ⟨th, a, b, c⟩ = 1 by simp [Venn.worldChk, ht, ha, hb, hc], one]
        have hx := Lib.hid (errV_zero ha); have hy := Lib.hid (errV_zero hb); have hz := Lib.hid (show errV (Venn.setChk th c) = .iface 59 (.int .i64 1) by rw [hc]; rfl)
        clear ha hb hc one
        go_enter Tryz.func43, Tryz.ntmps43
        go_wp2_with (go_at_call 24; refine (sets_Things _ _).mono ?_; rintro e w' ⟨rfl, rfl⟩)
        refine wp_loop_rounds 4 ?_
        rw [rounds_succ]
        go_wp2_with (go_at_call 69; refine (sets_Check _ _ _).mono ?_; rintro e w' ⟨rfl, rfl⟩; rw [hx.out])
        rw [rounds_succ]
        go_wp2_with (go_at_call 69; refine (sets_Check _ _ _).mono ?_; rintro e w' ⟨rfl, rfl⟩; rw [hy.out])
        rw [rounds_succ]
        go_wp2_with (go_at_call 69; refine (sets_Check _ _ _).mono ?_; rintro e w' ⟨rfl, rfl⟩; rw [hz.out])
        go_ret
        exact ⟨rfl, by (repeat' (first | (with_reducible exact Below.refl _ _) | (with_reducible assumption) | (with_reducible refine Below.next ?_ (by with_reducible assumption)) | (with_reducible refine Below.drew ?_) | (with_reducible refine Below.laid ?_ _) | (with_reducible refine Below.setCell ?_ ?_ _) | (with_reducible refine size_of ?_) | (with_reducible refine Nat.le_succ_of_le ?_) | go_size))⟩
    · rw [show Venn.worldChk ⟨th, a, b, c⟩ = 1 by simp [Venn.worldChk, ht, ha, hb], one]
      have hx := Lib.hid (errV_zero ha); have hy := Lib.hid (show errV (Venn.setChk th b) = .iface 59 (.int .i64 1) by rw [hb]; rfl)
      clear ha hb one
      go_enter Tryz.func43, Tryz.ntmps43
      go_wp2_with (go_at_call 24; refine (sets_Things _ _).mono ?_; rintro e w' ⟨rfl, rfl⟩)
      refine wp_loop_rounds 4 ?_
      rw [rounds_succ]
      go_wp2_with (go_at_call 69; refine (sets_Check _ _ _).mono ?_; rintro e w' ⟨rfl, rfl⟩; rw [hx.out])
      rw [rounds_succ]
      go_wp2_with (go_at_call 69; refine (sets_Check _ _ _).mono ?_; rintro e w' ⟨rfl, rfl⟩; rw [hy.out])
      go_ret
      exact ⟨rfl, by (repeat' (first | (with_reducible exact Below.refl _ _) | (with_reducible assumption) | (with_reducible refine Below.next ?_ (by with_reducible assumption)) | (with_reducible refine Below.drew ?_) | (with_reducible refine Below.laid ?_ _) | (with_reducible refine Below.setCell ?_ ?_ _) | (with_reducible refine size_of ?_) | (with_reducible refine Nat.le_succ_of_le ?_) | go_size))⟩
  · rw [show Venn.worldChk ⟨th, a, b, c⟩ = 1 by simp [Venn.worldChk, ht, ha], one]
    have hx := Lib.hid (show errV (Venn.setChk th a) = .iface 59 (.int .i64 1) by rw [ha]; rfl)
    clear ha one
    go_enter Tryz.func43, Tryz.ntmps43
    go_wp2_with (go_at_call 24; refine (sets_Things _ _).mono ?_; rintro e w' ⟨rfl, rfl⟩)
    refine wp_loop_rounds 4 ?_
    rw [rounds_succ]
    go_wp2_with (go_at_call 69; refine (sets_Check _ _ _).mono ?_; rintro e w' ⟨rfl, rfl⟩; rw [hx.out])
    go_ret
    exact ⟨rfl, by (repeat' (first | (with_reducible exact Below.refl _ _) | (with_reducible assumption) | (with_reducible refine Below.next ?_ (by with_reducible assumption)) | (with_reducible refine Below.drew ?_) | (with_reducible refine Below.laid ?_ _) | (with_reducible refine Below.setCell ?_ ?_ _) | (with_reducible refine size_of ?_) | (with_reducible refine Nat.le_succ_of_le ?_) | go_size))⟩

end Go.Proofs.YtjnjgcibhjdmdaaGreatDoor

namespace Go.Proofs.YtjnjgcibhjdmdaaGreatDoor
open Go.RowKit

/-- Between two things: the world so far lies in its block. -/
structure MadeInv (w wr : World) (W : Venn.World) : Prop where
  below : Below w.heap.size w wr
  res : Blk wr (w.heap.size + 1) 45 #[.int .i64 0, .int .i64 0, .int .i64 0, .int .i64 0]
  blk : Blk wr (w.heap.size + 1 + 1) 45 #[.int .i64 W.things, .int .i64 W.a, .int .i64 W.b, .int .i64 W.c]
  t0 : 0 ≤ W.things
  a63 : 0 ≤ W.a ∧ W.a ≤ 63
  b63 : 0 ≤ W.b ∧ W.b ≤ 63
  c63 : 0 ≤ W.c ∧ W.c ≤ 63

/-- What lies between two stores. -/
structure MadeBlk (w wr : World) (cs : Array Value) : Prop where
  below : Below w.heap.size w wr
  res : Blk wr (w.heap.size + 1) 45 #[.int .i64 0, .int .i64 0, .int .i64 0, .int .i64 0]
  blk : Blk wr (w.heap.size + 1 + 1) 45 cs
theorem MadeBlk.put {w wr : World} {cs : Array Value} (h : MadeBlk w wr cs) (i : Nat) (u : Value) : MadeBlk w (wr.setCell ⟨w.heap.size + 1 + 1, i, none⟩ u).drew (cs.setIfInBounds i u) :=
  ⟨(h.below.setCell (p := ⟨w.heap.size + 1 + 1, i, none⟩) (by simp; omega) _).drew, (h.res.far (p := ⟨w.heap.size + 1 + 1, i, none⟩) (by simp) _).drew, (h.blk.set_ i u).drew⟩
theorem MadeBlk.store {w wr : World} {cs : Array Value} (h : MadeBlk w wr cs) (i : Nat) (u : Value) : MadeBlk w (wr.setCell ⟨w.heap.size + 1 + 1, i, none⟩ u) (cs.setIfInBounds i u) :=
  ⟨h.below.setCell (p := ⟨w.heap.size + 1 + 1, i, none⟩) (by simp; omega) _, h.res.far (p := ⟨w.heap.size + 1 + 1, i, none⟩) (by simp) _, h.blk.set_ i u⟩
theorem MadeBlk.cells {w wr : World} {x0 x1 x2 x3 : Value} (h : MadeBlk w wr #[x0, x1, x2, x3]) :
    (wr.cell? ⟨w.heap.size + 1 + 1, 0, none⟩ = some x0 ∧ wr.cell? ⟨w.heap.size + 1 + 1, 1, none⟩ = some x1 ∧ wr.cell? ⟨w.heap.size + 1 + 1, 2, none⟩ = some x2 ∧ wr.cell? ⟨w.heap.size + 1 + 1, 3, none⟩ = some x3) ∧
    (wr.frozen? ⟨w.heap.size + 1 + 1, 0, none⟩ = false ∧ wr.frozen? ⟨w.heap.size + 1 + 1, 1, none⟩ = false ∧ wr.frozen? ⟨w.heap.size + 1 + 1, 2, none⟩ = false ∧ wr.frozen? ⟨w.heap.size + 1 + 1, 3, none⟩ = false) :=
  ⟨⟨h.blk.cell 0, h.blk.cell 1, h.blk.cell 2, h.blk.cell 3⟩, h.blk.frozen 0, h.blk.frozen 1, h.blk.frozen 2, h.blk.frozen 3⟩

theorem or_small0 : ∀ (k : Fin 8) (T : Fin 6) (s : Fin 64), bits .or .i64 (s.val : Int) (wrap64 (bits .and .i64 (k.val : Int) 1 * 2 ^ T.val)) = Venn.orBit s.val k.val 0 T.val ∧ Venn.orBit s.val k.val 0 T.val ≤ 63 := by decide +kernel
theorem or_small1 : ∀ (k : Fin 8) (T : Fin 6) (s : Fin 64), bits .or .i64 (s.val : Int) (wrap64 (bits .and .i64 ((k.val : Int) / 2) 1 * 2 ^ T.val)) = Venn.orBit s.val k.val 1 T.val ∧ Venn.orBit s.val k.val 1 T.val ≤ 63 := by decide +kernel
theorem or_small2 : ∀ (k : Fin 8) (T : Fin 6) (s : Fin 64), bits .or .i64 (s.val : Int) (wrap64 (bits .and .i64 ((k.val : Int) / 4) 1 * 2 ^ T.val)) = Venn.orBit s.val k.val 2 T.val ∧ Venn.orBit s.val k.val 2 T.val ≤ 63 := by decide +kernel
theorem or_bit0 {k T : Nat} {s : Int} (hk : k < 8) (hT : T ≤ 5) (hs : 0 ≤ s ∧ s ≤ 63) : bits .or .i64 s (wrap64 (bits .and .i64 (k : Int) 1 * 2 ^ T)) = Venn.orBit s k 0 T ∧ Venn.orBit s k 0 T ≤ 63 := by
  obtain ⟨S, rfl⟩ := Int.eq_ofNat_of_zero_le hs.1
  exact or_small0 ⟨k, hk⟩ ⟨T, by omega⟩ ⟨S, by omega⟩
theorem or_bit1 {k T : Nat} {s : Int} (hk : k < 8) (hT : T ≤ 5) (hs : 0 ≤ s ∧ s ≤ 63) : bits .or .i64 s (wrap64 (bits .and .i64 ((k : Int) / 2) 1 * 2 ^ T)) = Venn.orBit s k 1 T ∧ Venn.orBit s k 1 T ≤ 63 := by
  obtain ⟨S, rfl⟩ := Int.eq_ofNat_of_zero_le hs.1
  exact or_small1 ⟨k, hk⟩ ⟨T, by omega⟩ ⟨S, by omega⟩
theorem or_bit2 {k T : Nat} {s : Int} (hk : k < 8) (hT : T ≤ 5) (hs : 0 ≤ s ∧ s ≤ 63) : bits .or .i64 s (wrap64 (bits .and .i64 ((k : Int) / 4) 1 * 2 ^ T)) = Venn.orBit s k 2 T ∧ Venn.orBit s k 2 T ≤ 63 := by
  obtain ⟨S, rfl⟩ := Int.eq_ofNat_of_zero_le hs.1
  exact or_small2 ⟨k, hk⟩ ⟨T, by omega⟩ ⟨S, by omega⟩
theorem orBit_nonneg (s : Int) (k nm : Nat) (t : Int) : 0 ≤ Venn.orBit s k nm t := by unfold Venn.orBit; omega

/-- Eight counts as a value. -/
def cntV (l : List Int) : Value := .agg (l.map (Value.int .i64)).toArray

theorem idx8_0 (n0 n1 n2 n3 n4 n5 n6 n7 : Int) (W : World) : (Instr.index 75 (.agg #[.int .i64 n0, .int .i64 n1, .int .i64 n2, .int .i64 n3, .int .i64 n4, .int .i64 n5, .int .i64 n6, .int .i64 n7]) (.int .i64 0)).run Tryz.prog W = .ok (.int .i64 n0) W := by kernel_rfl
theorem idx8_1 (n0 n1 n2 n3 n4 n5 n6 n7 : Int) (W : World) : (Instr.index 75 (.agg #[.int .i64 n0, .int .i64 n1, .int .i64 n2, .int .i64 n3, .int .i64 n4, .int .i64 n5, .int .i64 n6, .int .i64 n7]) (.int .i64 1)).run Tryz.prog W = .ok (.int .i64 n1) W := by kernel_rfl
theorem idx8_2 (n0 n1 n2 n3 n4 n5 n6 n7 : Int) (W : World) : (Instr.index 75 (.agg #[.int .i64 n0, .int .i64 n1, .int .i64 n2, .int .i64 n3, .int .i64 n4, .int .i64 n5, .int .i64 n6, .int .i64 n7]) (.int .i64 2)).run Tryz.prog W = .ok (.int .i64 n2) W := by kernel_rfl
theorem idx8_3 (n0 n1 n2 n3 n4 n5 n6 n7 : Int) (W : World) : (Instr.index 75 (.agg #[.int .i64 n0, .int .i64 n1, .int .i64 n2, .int .i64 n3, .int .i64 n4, .int .i64 n5, .int .i64 n6, .int .i64 n7]) (.int .i64 3)).run Tryz.prog W = .ok (.int .i64 n3) W := by kernel_rfl
theorem idx8_4 (n0 n1 n2 n3 n4 n5 n6 n7 : Int) (W : World) : (Instr.index 75 (.agg #[.int .i64 n0, .int .i64 n1, .int .i64 n2, .int .i64 n3, .int .i64 n4, .int .i64 n5, .int .i64 n6, .int .i64 n7]) (.int .i64 4)).run Tryz.prog W = .ok (.int .i64 n4) W := by kernel_rfl
theorem idx8_5 (n0 n1 n2 n3 n4 n5 n6 n7 : Int) (W : World) : (Instr.index 75 (.agg #[.int .i64 n0, .int .i64 n1, .int .i64 n2, .int .i64 n3, .int .i64 n4, .int .i64 n5, .int .i64 n6, .int .i64 n7]) (.int .i64 5)).run Tryz.prog W = .ok (.int .i64 n5) W := by kernel_rfl
theorem idx8_6 (n0 n1 n2 n3 n4 n5 n6 n7 : Int) (W : World) : (Instr.index 75 (.agg #[.int .i64 n0, .int .i64 n1, .int .i64 n2, .int .i64 n3, .int .i64 n4, .int .i64 n5, .int .i64 n6, .int .i64 n7]) (.int .i64 6)).run Tryz.prog W = .ok (.int .i64 n6) W := by kernel_rfl
theorem idx8_7 (n0 n1 n2 n3 n4 n5 n6 n7 : Int) (W : World) : (Instr.index 75 (.agg #[.int .i64 n0, .int .i64 n1, .int .i64 n2, .int .i64 n3, .int .i64 n4, .int .i64 n5, .int .i64 n6, .int .i64 n7]) (.int .i64 7)).run Tryz.prog W = .ok (.int .i64 n7) W := by kernel_rfl
theorem idx8 (n0 n1 n2 n3 n4 n5 n6 n7 : Int) (k : Nat) (W : World) (hk : k < 8) : (Instr.index 75 (.agg #[.int .i64 n0, .int .i64 n1, .int .i64 n2, .int .i64 n3, .int .i64 n4, .int .i64 n5, .int .i64 n6, .int .i64 n7]) (.int .i64 (k : Int))).run Tryz.prog W = .ok (.int .i64 ([n0, n1, n2, n3, n4, n5, n6, n7][k]?.getD 0)) W := by
  obtain rfl | rfl | rfl | rfl | rfl | rfl | rfl | rfl : k = 0 ∨ k = 1 ∨ k = 2 ∨ k = 3 ∨ k = 4 ∨ k = 5 ∨ k = 6 ∨ k = 7 := by omega
  · exact idx8_0 n0 n1 n2 n3 n4 n5 n6 n7 W
  · exact idx8_1 n0 n1 n2 n3 n4 n5 n6 n7 W
  · exact idx8_2 n0 n1 n2 n3 n4 n5 n6 n7 W
  · exact idx8_3 n0 n1 n2 n3 n4 n5 n6 n7 W
  · exact idx8_4 n0 n1 n2 n3 n4 n5 n6 n7 W
  · exact idx8_5 n0 n1 n2 n3 n4 n5 n6 n7 W
  · exact idx8_6 n0 n1 n2 n3 n4 n5 n6 n7 W
  · exact idx8_7 n0 n1 n2 n3 n4 n5 n6 n7 W

set_option maxHeartbeats 4000000 in
set_option maxRecDepth 100000 in
theorem fields_Made (n0 n1 n2 n3 n4 n5 n6 n7 : Int) (w : World) (hp : ∀ x ∈ [n0, n1, n2, n3, n4, n5, n6, n7], 0 ≤ x) (hs : [n0, n1, n2, n3, n4, n5, n6, n7].sum ≤ 6) :
    Calls Tryz.prog 41 #[.agg #[.int .i64 n0, .int .i64 n1, .int .i64 n2, .int .i64 n3, .int .i64 n4, .int .i64 n5, .int .i64 n6, .int .i64 n7]] w
      (Keeps (.agg #[.int .i64 (Venn.made [n0, n1, n2, n3, n4, n5, n6, n7]).things, .int .i64 (Venn.made [n0, n1, n2, n3, n4, n5, n6, n7]).a, .int .i64 (Venn.made [n0, n1, n2, n3, n4, n5, n6, n7]).b, .int .i64 (Venn.made [n0, n1, n2, n3, n4, n5, n6, n7]).c]) w) := by
  generalize hl : [n0, n1, n2, n3, n4, n5, n6, n7] = l at hp hs
  have hidx : ∀ (k : Nat) (W : World), k < 8 → (Instr.index 75 (.agg #[.int .i64 n0, .int .i64 n1, .int .i64 n2, .int .i64 n3, .int .i64 n4, .int .i64 n5, .int .i64 n6, .int .i64 n7]) (.int .i64 (k : Int))).run Tryz.prog W = .ok (.int .i64 (l[k]?.getD 0)) W := by
    intro k W hk
    subst hl
    exact idx8 _ _ _ _ _ _ _ _ k W hk
  have hlen : l.length = 8 := by subst hl; rfl
  have HL := Lib.hid hl
  have HI := Lib.hid hidx
  have HP := Lib.hid hp
  clear hl hidx hp
  go_enter Tryz.func41, Tryz.ntmps41
  go_wp2
  have hpre : ∀ k (h : k < l.length), 0 ≤ l[k] := fun k h => HP.out _ (List.getElem_mem h)
  have HPR := Lib.hid hpre; clear hpre
  go_loopw [8] (fun i wr => ∃ (k : Nat) (W : Venn.World), k ≤ 8 ∧ i = .int .i64 k ∧ MadeInv w wr W ∧ W.things + (l.drop k).sum ≤ 6 ∧ Venn.madeGo k (l.drop k) W = Venn.made l)
    (fun i _ => 8 - (intOf i).toNat)
  case atStart =>
    exact ⟨0, ⟨0, 0, 0, 0⟩, by omega, rfl, ⟨by go_grown, (Blk.newAt (by simp) _ _).alloc _, Blk.newAt (by simp) _ _, by decide, by decide, by decide, by decide⟩, by simpa using hs, rfl⟩
  case round =>
    obtain ⟨k, W, hk, rfl, hinv, hsum, hgo⟩ := hrel
    obtain ⟨wo, rfl⟩ : ∃ wo : World, wo = wr := ⟨_, rfl⟩
    have HG := Lib.hid hgo; clear hgo
    by_cases hlt : k < 8
    · have hix := HI.out k wo hlt
      have hkl : k < l.length := by omega
      have HD := Lib.hid (List.drop_eq_getElem_cons hkl)
      have hx0 := HPR.out k hkl
      rw [List.getElem?_eq_getElem hkl, Option.getD_some] at hix
      generalize l[k] = x at hix HD hx0
      obtain ⟨n, rfl⟩ := Int.eq_ofNat_of_zero_le hx0
      rw [HD.out, List.sum_cons] at hsum
      have hdec : decide ((k : Int) < 8) = true := by simp; omega
      have hrest0 : 0 ≤ (l.drop (k + 1)).sum := Venn.sum_nonneg _ fun x hx => HP.out x (List.mem_of_mem_drop hx)
      go_wp2
      have hn6 : n ≤ 6 := by have := hinv.t0; omega
      go_loopw [13] (fun i wr => ∃ (j : Nat) (W' : Venn.World), j ≤ n ∧ i = .int .i64 j ∧ MadeInv w wr W' ∧ W'.things + (n - j : Nat) = W.things + n ∧ Venn.addMany k (n - j) W' = Venn.addMany k n W)
        (fun i _ => n - (intOf i).toNat)
      case atStart => exact ⟨0, W, by omega, rfl, hinv, by simp, by simp⟩
      case round =>
        obtain ⟨j, W', hj, rfl, hin, hth, hadd⟩ := hrel
        obtain ⟨wi, rfl⟩ : ∃ wi : World, wi = wr := ⟨_, rfl⟩
        have HA := Lib.hid hadd; clear hadd
        have HIN := Lib.hid hin
        have hj6 : (j : Int) ≤ 6 := by omega
        by_cases hjn : j < n
        · have ht0 := hin.t0
          obtain ⟨T, hT⟩ := Int.eq_ofNat_of_zero_le ht0
          have c0 := hin.blk.cell 0
          have c1 := hin.blk.cell 1
          have c2 := hin.blk.cell 2
          have c3 := hin.blk.cell 3
          have f0 := hin.blk.frozen 0
          have f1 := hin.blk.frozen 1
          have f2 := hin.blk.frozen 2
          have f3 := hin.blk.frozen 3
          simp at c0 c1 c2 c3
          have hT5 : T ≤ 5 := by omega
          rw [hT] at c0
          have HTH := Lib.hid hth
          have HT := Lib.hid hT; clear hT hin hinv ht0 hth
          go_wp2
          have q0 : MadeBlk w wi #[.int .i64 T, .int .i64 W'.a, .int .i64 W'.b, .int .i64 W'.c] := ⟨HIN.out.below, HIN.out.res, by rw [← HT.out]; exact HIN.out.blk⟩
          clear c0 c1 c2 c3 f0 f1 f2 f3
          have E1 := Lib.hid (or_bit0 hlt hT5 HIN.out.a63)
          have E2 := Lib.hid (or_bit1 hlt hT5 HIN.out.b63)
          have E3 := Lib.hid (or_bit2 hlt hT5 HIN.out.c63)
          refine wp_loop_rounds 4 ?_
          rw [rounds_succ]
          obtain ⟨⟨c0, c1, c2, c3⟩, f0, f1, f2, f3⟩ := q0.cells
          go_wp2
          go_still_tail 14, (by kernel_rfl)
          go_wp2
          have q1 := q0.put 1 (.int .i64 (bits BinOp.or IntKind.i64 W'.a (wrap64 (bits BinOp.and IntKind.i64 ((k : Int)) 1 * 2 ^ T))))
          simp only [List.setIfInBounds_toArray, List.set_cons_zero, List.set_cons_succ] at q1
          generalize (World.setCell wi ⟨w.heap.size + 1 + 1, 1, none⟩ (.int .i64 (bits BinOp.or IntKind.i64 W'.a (wrap64 (bits BinOp.and IntKind.i64 ((k : Int)) 1 * 2 ^ T))))).drew = wi1 at q1 ⊢
          generalize bits BinOp.or IntKind.i64 W'.a (wrap64 (bits BinOp.and IntKind.i64 ((k : Int)) 1 * 2 ^ T)) = V1 at q1 E1 ⊢
          clear c0 c1 c2 c3 f0 f1 f2 f3
          rw [rounds_succ]
          obtain ⟨⟨c0, c1, c2, c3⟩, f0, f1, f2, f3⟩ := q1.cells
          go_wp2
          go_still_tail 14, (by kernel_rfl)
          go_wp2
          have q2 := q1.put 2 (.int .i64 (bits BinOp.or IntKind.i64 W'.b (wrap64 (bits BinOp.and IntKind.i64 ((k : Int) / 2) 1 * 2 ^ T))))
          simp only [List.setIfInBounds_toArray, List.set_cons_zero, List.set_cons_succ] at q2
          generalize (World.setCell wi1 ⟨w.heap.size + 1 + 1, 2, none⟩ (.int .i64 (bits BinOp.or IntKind.i64 W'.b (wrap64 (bits BinOp.and IntKind.i64 ((k : Int) / 2) 1 * 2 ^ T))))).drew = wi2 at q2 ⊢
          generalize bits BinOp.or IntKind.i64 W'.b (wrap64 (bits BinOp.and IntKind.i64 ((k : Int) / 2) 1 * 2 ^ T)) = V2 at q2 E2 ⊢
          clear c0 c1 c2 c3 f0 f1 f2 f3
          rw [rounds_succ]
          obtain ⟨⟨c0, c1, c2, c3⟩, f0, f1, f2, f3⟩ := q2.cells
          go_wp2
          go_still_tail 14, (by kernel_rfl)
          go_wp2
          have q3 := q2.put 3 (.int .i64 (bits BinOp.or IntKind.i64 W'.c (wrap64 (bits BinOp.and IntKind.i64 ((k : Int) / 4) 1 * 2 ^ T))))
          simp only [List.setIfInBounds_toArray, List.set_cons_zero, List.set_cons_succ] at q3
          generalize (World.setCell wi2 ⟨w.heap.size + 1 + 1, 3, none⟩ (.int .i64 (bits BinOp.or IntKind.i64 W'.c (wrap64 (bits BinOp.and IntKind.i64 ((k : Int) / 4) 1 * 2 ^ T))))).drew = wi3 at q3 ⊢
          generalize bits BinOp.or IntKind.i64 W'.c (wrap64 (bits BinOp.and IntKind.i64 ((k : Int) / 4) 1 * 2 ^ T)) = V3 at q3 E3 ⊢
          clear c0 c1 c2 c3 f0 f1 f2 f3
          rw [rounds_succ]
          obtain ⟨⟨c0, c1, c2, c3⟩, f0, f1, f2, f3⟩ := q3.cells
          go_wp2
          have q4 := q3.store 0 (.int .i64 ((T : Int) + 1))
          simp only [List.setIfInBounds_toArray, List.set_cons_zero] at q4
          go_roundw
          case rel =>
            refine ⟨j + 1, Venn.addThing k W', by omega, by go_num, ⟨q4.below, q4.res, ?_, ?_, ?_, ?_, ?_⟩, ?_, ?_⟩
            · have := q4.blk
              rw [E1.out.1, E2.out.1, E3.out.1] at this
              unfold Venn.addThing
              rw [HT.out]
              exact this
            · unfold Venn.addThing; rw [HT.out]; show (0 : Int) ≤ T + 1; omega
            · exact ⟨orBit_nonneg _ _ _ _, by unfold Venn.addThing; rw [HT.out]; exact E1.out.2⟩
            · exact ⟨orBit_nonneg _ _ _ _, by unfold Venn.addThing; rw [HT.out]; exact E2.out.2⟩
            · exact ⟨orBit_nonneg _ _ _ _, by unfold Venn.addThing; rw [HT.out]; exact E3.out.2⟩
            · have := HTH.out; unfold Venn.addThing; simp only; omega
            · rw [← HA.out, show n - j = (n - (j + 1)) + 1 by omega]; rfl
          case measure => simp [intOf]; omega
        · have hjn' : j = n := by omega
          subst hjn'
          rw [Nat.sub_self] at HA hth
          go_wp2
          go_roundw
          case rel =>
            refine ⟨k + 1, W', by omega, by go_num, hin, by omega, ?_⟩
            rw [← HG.out, HD.out, Venn.madeGo, Int.toNat_natCast, ← HA.out]
            rfl
          case measure => simp [intOf]; omega
    · have hk8 : k = 8 := by omega
      subst hk8
      have hG := HG.out
      rw [List.drop_eq_nil_of_le (by omega)] at hG
      have hW := Lib.hid (show W = Venn.made l from hG)
      have c0 := hinv.blk.cell 0
      have c1 := hinv.blk.cell 1
      have c2 := hinv.blk.cell 2
      have c3 := hinv.blk.cell 3
      have d0 := hinv.res.cell 0
      have d1 := hinv.res.cell 1
      have d2 := hinv.res.cell 2
      have d3 := hinv.res.cell 3
      have f0 := hinv.res.frozen 0
      have f1 := hinv.res.frozen 1
      have f2 := hinv.res.frozen 2
      have f3 := hinv.res.frozen 3
      simp at c0 c1 c2 c3 d0 d1 d2 d3
      have HIN := Lib.hid hinv
      clear hG hinv HI HP HPR
      go_wp2
      refine bodyPost_ret (v := .agg #[.int .i64 W.things, .int .i64 W.a, .int .i64 W.b, .int .i64 W.c]) (by simp [results, Tryz.results41, go_sem, d0, d1, d2, d3]) rfl ⟨by rw [hW.out], ?_⟩
      exact (((HIN.out.below.setCell (p := ⟨w.heap.size + 1, 0, none⟩) (by simp) _).setCell (p := ⟨w.heap.size + 1, 1, none⟩) (by simp) _).setCell (p := ⟨w.heap.size + 1, 2, none⟩) (by simp) _).setCell (p := ⟨w.heap.size + 1, 3, none⟩) (by simp) _

end Go.Proofs.YtjnjgcibhjdmdaaGreatDoor

namespace Go.Proofs.YtjnjgcibhjdmdaaGreatDoor
open Go.RowKit

theorem made_u0 : Venn.made [1, 0, 0, 0, 0, 0, 0, 0] = ⟨1, 0, 0, 0⟩ := rfl
theorem made_u1 : Venn.made [0, 1, 0, 0, 0, 0, 0, 0] = ⟨1, 1, 0, 0⟩ := rfl
theorem made_u2 : Venn.made [0, 0, 1, 0, 0, 0, 0, 0] = ⟨1, 0, 1, 0⟩ := rfl
theorem made_u3 : Venn.made [0, 0, 0, 1, 0, 0, 0, 0] = ⟨1, 1, 1, 0⟩ := rfl
theorem made_u4 : Venn.made [0, 0, 0, 0, 1, 0, 0, 0] = ⟨1, 0, 0, 1⟩ := rfl
theorem made_u5 : Venn.made [0, 0, 0, 0, 0, 1, 0, 0] = ⟨1, 1, 0, 1⟩ := rfl
theorem made_u6 : Venn.made [0, 0, 0, 0, 0, 0, 1, 0] = ⟨1, 0, 1, 1⟩ := rfl
theorem made_u7 : Venn.made [0, 0, 0, 0, 0, 0, 0, 1] = ⟨1, 1, 1, 1⟩ := rfl

theorem or_nest : ∀ (x0 x1 x2 x3 x4 x5 x6 x7 : Fin 2), bits .or .i64 (bits .or .i64 (bits .or .i64 (bits .or .i64 (bits .or .i64 (bits .or .i64 (bits .or .i64 (bits .or .i64 ((0 : Int)) ((x0.val : Int))) ((x1.val : Int) * 2)) ((x2.val : Int) * 4)) ((x3.val : Int) * 8)) ((x4.val : Int) * 16)) ((x5.val : Int) * 32)) ((x6.val : Int) * 64)) ((x7.val : Int) * 128) = (x0.val : Int) + (x1.val : Int) * 2 + (x2.val : Int) * 4 + (x3.val : Int) * 8 + (x4.val : Int) * 16 + (x5.val : Int) * 32 + (x6.val : Int) * 64 + (x7.val : Int) * 128 := by decide +kernel
theorem or_nest' (x0 x1 x2 x3 x4 x5 x6 x7 : Int) (h : ∀ x ∈ [x0, x1, x2, x3, x4, x5, x6, x7], x = 0 ∨ x = 1) : bits .or .i64 (bits .or .i64 (bits .or .i64 (bits .or .i64 (bits .or .i64 (bits .or .i64 (bits .or .i64 (bits .or .i64 ((0 : Int)) (x0)) (x1 * 2)) (x2 * 4)) (x3 * 8)) (x4 * 16)) (x5 * 32)) (x6 * 64)) (x7 * 128) = x0 + x1 * 2 + x2 * 4 + x3 * 8 + x4 * 16 + x5 * 32 + x6 * 64 + x7 * 128 := by
  have hx : ∀ x ∈ [x0, x1, x2, x3, x4, x5, x6, x7], ∃ y : Fin 2, x = (y.val : Int) := fun x hm => by
    rcases h x hm with rfl | rfl
    · exact ⟨0, rfl⟩
    · exact ⟨1, rfl⟩
  obtain ⟨y0, e0⟩ := hx x0 (by simp)
  obtain ⟨y1, e1⟩ := hx x1 (by simp)
  obtain ⟨y2, e2⟩ := hx x2 (by simp)
  obtain ⟨y3, e3⟩ := hx x3 (by simp)
  obtain ⟨y4, e4⟩ := hx x4 (by simp)
  obtain ⟨y5, e5⟩ := hx x5 (by simp)
  obtain ⟨y6, e6⟩ := hx x6 (by simp)
  obtain ⟨y7, e7⟩ := hx x7 (by simp)
  rw [e0, e1, e2, e3, e4, e5, e6, e7]
  exact or_nest y0 y1 y2 y3 y4 y5 y6 y7
theorem where_value (t : List Int) : bits .or .i64 (bits .or .i64 (bits .or .i64 (bits .or .i64 (bits .or .i64 (bits .or .i64 (bits .or .i64 (bits .or .i64 ((0 : Int)) (Venn.lies t 0)) (Venn.lies t 1 * 2)) (Venn.lies t 2 * 4)) (Venn.lies t 3 * 8)) (Venn.lies t 4 * 16)) (Venn.lies t 5 * 32)) (Venn.lies t 6 * 64)) (Venn.lies t 7 * 128) = Venn.mask t := by
  rw [or_nest' (Venn.lies t 0) (Venn.lies t 1) (Venn.lies t 2) (Venn.lies t 3) (Venn.lies t 4) (Venn.lies t 5) (Venn.lies t 6) (Venn.lies t 7) (by
    intro x hx
    simp only [List.mem_cons, List.not_mem_nil, or_false] at hx
    rcases hx with rfl | rfl | rfl | rfl | rfl | rfl | rfl | rfl
    all_goals
      have := Venn.lies_01 t
      first | (have := this 0; omega) | (have := this 1; omega) | (have := this 2; omega) | (have := this 3; omega) | (have := this 4; omega) | (have := this 5; omega) | (have := this 6; omega) | (have := this 7; omega))]
  simp [Venn.mask, Venn.maskTo]

set_option maxHeartbeats 4000000 in
set_option maxRecDepth 100000 in
theorem fields_Where (v : Value) (t : List Int) (w : World) (h : IsInts w v t) (ht : Venn.termChk t = 0) : Calls Tryz.prog 91 #[v] w (Keeps (.int .i64 (Venn.mask t)) w) := by
  have l0 := Venn.lies_01 t 0
  have l1 := Venn.lies_01 t 1
  have l2 := Venn.lies_01 t 2
  have l3 := Venn.lies_01 t 3
  have l4 := Venn.lies_01 t 4
  have l5 := Venn.lies_01 t 5
  have l6 := Venn.lies_01 t 6
  have l7 := Venn.lies_01 t 7
  go_enter Tryz.func91, Tryz.ntmps91
  go_wp2
  refine wp_loop_rounds 9 ?_
  rw [rounds_succ]
  go_wp2_with (first
    | (go_at_call 41; refine (fields_Made _ _ _ _ _ _ _ _ _ (by decide) (by decide)).mono ?_; rintro e m0 ⟨rfl, hm0⟩; simp only [made_u0])
    | (go_at_call 98; refine (term_Set _ t _ _ _ _ _ (h.keep (by (repeat' (first | (with_reducible exact Below.refl _ _) | (with_reducible assumption) | (with_reducible refine Below.next ?_ (by with_reducible assumption)) | (with_reducible refine Below.drew ?_) | (with_reducible refine Below.laid ?_ _) | (with_reducible refine Below.setCell ?_ ?_ _) | (with_reducible refine size_of ?_) | (with_reducible refine Nat.le_succ_of_le ?_) | go_size)))) ht (by decide)).mono ?_; rintro e s0 ⟨rfl, hs0⟩; rw [show Venn.termSet t ⟨1, 0, 0, 0⟩ = Venn.lies t 0 from rfl]))
  rw [rounds_succ]
  go_wp2_with (first
    | (go_at_call 41; refine (fields_Made _ _ _ _ _ _ _ _ _ (by decide) (by decide)).mono ?_; rintro e m1 ⟨rfl, hm1⟩; simp only [made_u1])
    | (go_at_call 98; refine (term_Set _ t _ _ _ _ _ (h.keep (by (repeat' (first | (with_reducible exact Below.refl _ _) | (with_reducible assumption) | (with_reducible refine Below.next ?_ (by with_reducible assumption)) | (with_reducible refine Below.drew ?_) | (with_reducible refine Below.laid ?_ _) | (with_reducible refine Below.setCell ?_ ?_ _) | (with_reducible refine size_of ?_) | (with_reducible refine Nat.le_succ_of_le ?_) | go_size)))) ht (by decide)).mono ?_; rintro e s1 ⟨rfl, hs1⟩; rw [show Venn.termSet t ⟨1, 1, 0, 0⟩ = Venn.lies t 1 from rfl]))
  rw [rounds_succ]
  go_wp2_with (first
    | (go_at_call 41; refine (fields_Made _ _ _ _ _ _ _ _ _ (by decide) (by decide)).mono ?_; rintro e m2 ⟨rfl, hm2⟩; simp only [made_u2])
    | (go_at_call 98; refine (term_Set _ t _ _ _ _ _ (h.keep (by (repeat' (first | (with_reducible exact Below.refl _ _) | (with_reducible assumption) | (with_reducible refine Below.next ?_ (by with_reducible assumption)) | (with_reducible refine Below.drew ?_) | (with_reducible refine Below.laid ?_ _) | (with_reducible refine Below.setCell ?_ ?_ _) | (with_reducible refine size_of ?_) | (with_reducible refine Nat.le_succ_of_le ?_) | go_size)))) ht (by decide)).mono ?_; rintro e s2 ⟨rfl, hs2⟩; rw [show Venn.termSet t ⟨1, 0, 1, 0⟩ = Venn.lies t 2 from rfl]))
  rw [rounds_succ]
  go_wp2_with (first
    | (go_at_call 41; refine (fields_Made _ _ _ _ _ _ _ _ _ (by decide) (by decide)).mono ?_; rintro e m3 ⟨rfl, hm3⟩; simp only [made_u3])
    | (go_at_call 98; refine (term_Set _ t _ _ _ _ _ (h.keep (by (repeat' (first | (with_reducible exact Below.refl _ _) | (with_reducible assumption) | (with_reducible refine Below.next ?_ (by with_reducible assumption)) | (with_reducible refine Below.drew ?_) | (with_reducible refine Below.laid ?_ _) | (with_reducible refine Below.setCell ?_ ?_ _) | (with_reducible refine size_of ?_) | (with_reducible refine Nat.le_succ_of_le ?_) | go_size)))) ht (by decide)).mono ?_; rintro e s3 ⟨rfl, hs3⟩; rw [show Venn.termSet t ⟨1, 1, 1, 0⟩ = Venn.lies t 3 from rfl]))
  rw [rounds_succ]
  go_wp2_with (first
    | (go_at_call 41; refine (fields_Made _ _ _ _ _ _ _ _ _ (by decide) (by decide)).mono ?_; rintro e m4 ⟨rfl, hm4⟩; simp only [made_u4])
    | (go_at_call 98; refine (term_Set _ t _ _ _ _ _ (h.keep (by (repeat' (first | (with_reducible exact Below.refl _ _) | (with_reducible assumption) | (with_reducible refine Below.next ?_ (by with_reducible assumption)) | (with_reducible refine Below.drew ?_) | (with_reducible refine Below.laid ?_ _) | (with_reducible refine Below.setCell ?_ ?_ _) | (with_reducible refine size_of ?_) | (with_reducible refine Nat.le_succ_of_le ?_) | go_size)))) ht (by decide)).mono ?_; rintro e s4 ⟨rfl, hs4⟩; rw [show Venn.termSet t ⟨1, 0, 0, 1⟩ = Venn.lies t 4 from rfl]))
  rw [rounds_succ]
  go_wp2_with (first
    | (go_at_call 41; refine (fields_Made _ _ _ _ _ _ _ _ _ (by decide) (by decide)).mono ?_; rintro e m5 ⟨rfl, hm5⟩; simp only [made_u5])
    | (go_at_call 98; refine (term_Set _ t _ _ _ _ _ (h.keep (by (repeat' (first | (with_reducible exact Below.refl _ _) | (with_reducible assumption) | (with_reducible refine Below.next ?_ (by with_reducible assumption)) | (with_reducible refine Below.drew ?_) | (with_reducible refine Below.laid ?_ _) | (with_reducible refine Below.setCell ?_ ?_ _) | (with_reducible refine size_of ?_) | (with_reducible refine Nat.le_succ_of_le ?_) | go_size)))) ht (by decide)).mono ?_; rintro e s5 ⟨rfl, hs5⟩; rw [show Venn.termSet t ⟨1, 1, 0, 1⟩ = Venn.lies t 5 from rfl]))
  rw [rounds_succ]
  go_wp2_with (first
    | (go_at_call 41; refine (fields_Made _ _ _ _ _ _ _ _ _ (by decide) (by decide)).mono ?_; rintro e m6 ⟨rfl, hm6⟩; simp only [made_u6])
    | (go_at_call 98; refine (term_Set _ t _ _ _ _ _ (h.keep (by (repeat' (first | (with_reducible exact Below.refl _ _) | (with_reducible assumption) | (with_reducible refine Below.next ?_ (by with_reducible assumption)) | (with_reducible refine Below.drew ?_) | (with_reducible refine Below.laid ?_ _) | (with_reducible refine Below.setCell ?_ ?_ _) | (with_reducible refine size_of ?_) | (with_reducible refine Nat.le_succ_of_le ?_) | go_size)))) ht (by decide)).mono ?_; rintro e s6 ⟨rfl, hs6⟩; rw [show Venn.termSet t ⟨1, 0, 1, 1⟩ = Venn.lies t 6 from rfl]))
  rw [rounds_succ]
  go_wp2_with (first
    | (go_at_call 41; refine (fields_Made _ _ _ _ _ _ _ _ _ (by decide) (by decide)).mono ?_; rintro e m7 ⟨rfl, hm7⟩; simp only [made_u7])
    | (go_at_call 98; refine (term_Set _ t _ _ _ _ _ (h.keep (by (repeat' (first | (with_reducible exact Below.refl _ _) | (with_reducible assumption) | (with_reducible refine Below.next ?_ (by with_reducible assumption)) | (with_reducible refine Below.drew ?_) | (with_reducible refine Below.laid ?_ _) | (with_reducible refine Below.setCell ?_ ?_ _) | (with_reducible refine size_of ?_) | (with_reducible refine Nat.le_succ_of_le ?_) | go_size)))) ht (by decide)).mono ?_; rintro e s7 ⟨rfl, hs7⟩; rw [show Venn.termSet t ⟨1, 1, 1, 1⟩ = Venn.lies t 7 from rfl]))
  rw [rounds_succ]
  go_wp2
  go_ret
  exact ⟨ret_int (where_value t), by (repeat' (first | (with_reducible exact Below.refl _ _) | (with_reducible assumption) | (with_reducible refine Below.next ?_ (by with_reducible assumption)) | (with_reducible refine Below.drew ?_) | (with_reducible refine Below.laid ?_ _) | (with_reducible refine Below.setCell ?_ ?_ _) | (with_reducible refine size_of ?_) | (with_reducible refine Nat.le_succ_of_le ?_) | go_size))⟩

end Go.Proofs.YtjnjgcibhjdmdaaGreatDoor

namespace Go.Proofs.YtjnjgcibhjdmdaaGreatDoor
open Go.RowKit

end Go.Proofs.YtjnjgcibhjdmdaaGreatDoor
