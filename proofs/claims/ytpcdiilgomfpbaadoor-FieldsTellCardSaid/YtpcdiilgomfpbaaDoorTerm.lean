/-
  THE WALKS of package term: what is wrong with a term.
-/
import Derived.Test.YtpcdiilgomfpbaaDoorSets
import Derived.Test.YtpcdiilgomfpbaaDoorMem
namespace Go.Proofs.YtpcdiilgomfpbaaDoor
open Go.RowKit

set_option maxHeartbeats 400000 in
theorem term_takes (s : Int) (w : World) : Calls Tryd.prog 89 #[.int .i64 s] w (Pure (.int .i64 (Venn.takes s)) w) := by
  by_cases h8 : s = 8
  · subst h8
    go_enter Tryd.func89, Tryd.ntmps89
    go_wp2
    go_ret
    exact ⟨rfl, rfl⟩
  · have h8' : (s == 8) = false := by simpa using h8
    have hx := Lib.hid (show Venn.takes s = if 5 ≤ s then 2 else 0 by simp [Venn.takes, h8])
    clear h8
    go_enter Tryd.func89, Tryd.ntmps89
    go_wp2
    all_goals
      go_ret
      refine ⟨ret_int ?_, rfl⟩
      rw [hx.out]
      simp [*]
      try omega

set_option maxHeartbeats 400000 in
theorem term_bad (s : Int) (w : World) : Calls Tryd.prog 88 #[.int .i64 s] w (Pure (.bool (Venn.badSign s)) w) := by
  go_enter Tryd.func88, Tryd.ntmps88
  go_wp2
  all_goals
    go_ret
    refine ⟨ret_bool ?_, rfl⟩
    simp [Venn.badSign, *]
    try omega

/-- The place of the first that is so, or -1. -/
def idxOf (p : Int → Bool) : List Int → Nat → Int
  | [], _ => -1
  | x :: r, k => if p x then k else idxOf p r (k + 1)

set_option maxHeartbeats 1000000 in
theorem slices_IndexFunc (fid : Nat) (p : Int → Bool) (hcf : ∀ args W, (callFunc fid args).run Tryd.prog W = .ok (.enter fid args) W) (hp : ∀ x W, Calls Tryd.prog fid #[.int .i64 x] W (Pure (.bool (p x)) W)) (A : Option Addr) (c : Nat) (l : List Int) (w : World) (h : Rd w A (l.map (Value.int .i64))) (hl : l.length ≤ maxLen) :
    Calls Tryd.prog 117 #[.slice A l.length c, .func (.func fid) #[] #[]] w (Pure (.int .i64 (idxOf p l 0)) w) := by
  unfold maxLen at hl
  have HP := Lib.hid hp; clear hp
  go_enter Tryd.func117, Tryd.ntmps117
  go_wp2
  go_loop [8] (fun i => ∃ k : Nat, k ≤ l.length ∧ i = .int .i64 k ∧ idxOf p (l.drop k) k = idxOf p l 0) (fun i => l.length - (intOf i).toNat)
  case atStart => exact ⟨0, Nat.zero_le _, rfl, by simp⟩
  case round =>
    obtain ⟨k, hk, rfl, hrest⟩ := hrel
    have HR := Lib.hid hrest; clear hrest
    by_cases hlt : k < l.length
    · obtain ⟨ad, rfl, hc⟩ := h.int hlt
      have HD := Lib.hid (List.drop_eq_getElem_cons hlt)
      generalize l[k] = x at hc HD
      rcases hpx : p x with _ | _
      all_goals
        have HX := Lib.hid hpx
        go_wp2_with (refine (HP.out _ _).mono ?_; rintro e w' ⟨rfl, rfl⟩)
      · go_round
        case rel => exact ⟨k + 1, by omega, by go_num, by rw [← HR.out, HD.out, idxOf, HX.out]; simp⟩
        case measure => simp [intOf]; omega
      · go_ret
        exact ⟨ret_int (by rw [← HR.out, HD.out, idxOf, HX.out]; simp), rfl⟩
    · go_wp2
      go_ret
      exact ⟨ret_int (by rw [← HR.out, List.drop_eq_nil_of_le (by omega)]; rfl), rfl⟩

theorem idxOf_nonneg (p : Int → Bool) : ∀ (l : List Int) (k : Nat), decide (0 ≤ idxOf p l k) = l.any p
  | [], k => by simp [idxOf]
  | x :: r, k => by
    unfold idxOf
    by_cases h : p x = true
    · simp [h]
    · simp [h, idxOf_nonneg p r (k + 1)]

set_option maxHeartbeats 1000000 in
theorem slices_ContainsFunc (fid : Nat) (p : Int → Bool) (hcf : ∀ args W, (callFunc fid args).run Tryd.prog W = .ok (.enter fid args) W) (hp : ∀ x W, Calls Tryd.prog fid #[.int .i64 x] W (Pure (.bool (p x)) W)) (A : Option Addr) (c : Nat) (l : List Int) (w : World) (h : Rd w A (l.map (Value.int .i64))) (hl : l.length ≤ maxLen) :
    Calls Tryd.prog 87 #[.slice A l.length c, .func (.func fid) #[] #[]] w (Pure (.bool (l.any p)) w) := by
  have HI := Lib.hid (slices_IndexFunc fid p hcf hp A c l w h hl)
  have HN := Lib.hid (idxOf_nonneg p l 0)
  clear hp hcf h hl
  go_enter Tryd.func87, Tryd.ntmps87
  go_wp2_with (go_at_call 117; refine (HI.out).mono ?_; rintro e w' ⟨rfl, rfl⟩)
  all_goals
    go_ret
    refine ⟨ret_bool ?_, rfl⟩
    rw [← HN.out]

theorem term_bad_enter (args : Array Value) (W : World) : (callFunc 88 args).run Tryd.prog W = .ok (.enter 88 args) W :=
  callFunc_enter Tryd.func88 (by kernel_rfl) rfl args W

theorem takes_012 (s : Int) : Venn.takes s = 0 ∨ Venn.takes s = 1 ∨ Venn.takes s = 2 := by unfold Venn.takes; split <;> (try split) <;> simp

set_option maxHeartbeats 2000000 in
theorem term_Check (v : Value) (t : List Int) (w : World) (h : IsInts w v t) : Calls Tryd.prog 45 #[v] w (Pure (errV (Venn.termChk t)) w) := by
  obtain ⟨A, c, rfl, hr, hlc, hc⟩ := h
  unfold maxLen at hc
  by_cases h0 : t.length = 0
  · have ht : t = [] := List.eq_nil_of_length_eq_zero h0
    subst ht
    rw [show errV (Venn.termChk []) = .iface 111 (.int .i64 5) from rfl]
    go_enter Tryd.func45, Tryd.ntmps45
    go_wp2
    go_ret
    exact ⟨rfl, rfl⟩
  have hp : 0 < t.length := by omega
  have H0 := Lib.hid h0
  by_cases h12 : 12 < t.length
  · rw [show errV (Venn.termChk t) = .iface 111 (.int .i64 4) by simp [Venn.termChk, h0, h12, errV]]
    have hz : (((t.length : Nat) : Int) == 0) = false := beq_eq_false_iff_ne.2 (by omega)
    clear h0
    go_enter Tryd.func45, Tryd.ntmps45
    go_wp2
    go_ret
    exact ⟨rfl, rfl⟩
  have H12 : t.length ≤ 12 := by omega
  have hz : (((t.length : Nat) : Int) == 0) = false := beq_eq_false_iff_ne.2 (by omega)
  have HC := Lib.hid (slices_ContainsFunc 88 Venn.badSign term_bad_enter term_bad A c t w hr (by unfold maxLen; omega))
  rcases hbad : t.any Venn.badSign with _ | _
  · rw [show Venn.termChk t = Venn.shapeGo 0 t by simp [Venn.termChk, h0, h12, hbad]]
    have HB := Lib.hid hbad
    clear h0 h12 hbad
    go_enter Tryd.func45, Tryd.ntmps45
    go_wp2_with (go_at_call 87; refine (HC.out).mono ?_; rintro e w' ⟨rfl, rfl⟩; rw [HB.out])
    go_loop [3, 22] (fun m i => ∃ (k : Nat) (M : Int), k ≤ t.length ∧ i = .int .i64 k ∧ m = .int .i64 M ∧ 0 ≤ M ∧ M ≤ k ∧ Venn.shapeGo M (t.drop k) = Venn.shapeGo 0 t) (fun _ i => t.length - (intOf i).toNat)
    case atStart => exact ⟨0, 0, Nat.zero_le _, rfl, rfl, by omega, by omega, by simp⟩
    case round =>
      obtain ⟨k, M, hk, rfl, rfl, hM0, hMk, hrest⟩ := hrel
      have HR := Lib.hid hrest; clear hrest
      by_cases hlt : k < t.length
      · obtain ⟨ad, rfl, hcell⟩ := hr.int hlt
        have HD := Lib.hid (List.drop_eq_getElem_cons hlt)
        generalize t[k] = x at hcell HD
        clear hr HC
        have hx := takes_012 x
        have htr : 0 ≤ Venn.takes x ∧ Venn.takes x ≤ 2 := by omega
        clear hx
        by_cases hm : M < Venn.takes x
        · go_wp2_with (go_at_call 89; refine (term_takes _ _).mono ?_; rintro e w' ⟨rfl, rfl⟩)
          go_ret
          exact ⟨by rw [← HR.out, HD.out, Venn.shapeGo, if_pos hm]; rfl, rfl⟩
        · go_wp2_with (go_at_call 89; refine (term_takes _ _).mono ?_; rintro e w' ⟨rfl, rfl⟩)
          go_round
          case rel => exact ⟨k + 1, M + (1 - Venn.takes x), by omega, by go_num, rfl, by omega, by omega, by rw [← HR.out, HD.out, Venn.shapeGo, if_neg (by omega)]⟩
          case measure => simp [intOf]; omega
      · have hn := Lib.hid (show t.drop k = [] from List.drop_eq_nil_of_le (by omega))
        by_cases h1 : M = 1
        · have hd : (M != 1) = false := by simp [h1]
          have H1 := Lib.hid h1; clear h1
          go_wp2
          go_ret
          exact ⟨by rw [← HR.out, hn.out, Venn.shapeGo, if_pos H1.out]; rfl, rfl⟩
        · have hd : (M != 1) = true := by simp [h1]
          have H1 := Lib.hid h1; clear h1
          go_wp2
          go_ret
          exact ⟨by rw [← HR.out, hn.out, Venn.shapeGo, if_neg H1.out]; rfl, rfl⟩
  · rw [show errV (Venn.termChk t) = .iface 111 (.int .i64 1) by simp [Venn.termChk, h0, h12, hbad, errV]]
    have HB := Lib.hid hbad
    clear h0 h12 hbad
    go_enter Tryd.func45, Tryd.ntmps45
    go_wp2_with (go_at_call 87; refine (HC.out).mono ?_; rintro e w' ⟨rfl, rfl⟩; rw [HB.out])
    go_ret
    exact ⟨rfl, rfl⟩

end Go.Proofs.YtpcdiilgomfpbaaDoor
