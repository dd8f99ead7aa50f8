/-
  THE WALKS of package alike.
-/
import Derived.Test.YtpcdiilgomfpbaaDoorWhere
import Derived.Test.YtpcdiilgomfpbaaDoorBits
import Derived.Test.YtpcdiilgomfpbaaDoorVennA
namespace Go.Proofs.YtpcdiilgomfpbaaDoor
open Go.RowKit

set_option maxHeartbeats 2000000 in
set_option maxRecDepth 100000 in
theorem alike_masks (u v : Value) (s t : List Int) (w : World) (hs : IsInts w u s) (ht : IsInts w v t) :
    Calls Tryd.prog 84 #[u, v] w (Keeps (.tuple #[.int .i64 (if Venn.chk2 s t = 0 then Venn.mask s else 0), .int .i64 (if Venn.chk2 s t = 0 then Venn.mask t else 0), errV (Venn.chk2 s t)]) w) := by
  obtain ⟨A, c, rfl, hrs, hlc, hc⟩ := hs
  obtain ⟨B, d, rfl, hrt, hld, hd⟩ := ht
  have HS : IsInts w (.slice A s.length c) s := ⟨A, c, rfl, hrs, hlc, hc⟩
  have HT : IsInts w (.slice B t.length d) t := ⟨B, d, rfl, hrt, hld, hd⟩
  clear hrs hrt hlc hld hc hd
  by_cases h1 : Venn.termChk s = 0
  · by_cases h2 : Venn.termChk t = 0
    · have h3 : Venn.chk2 s t = 0 := by rw [Venn.chk2, if_pos h1, h2]
      rw [if_pos h3, if_pos h3, errV_zero h3]
      have hx := Lib.hid (errV_zero h1); have hy := Lib.hid (errV_zero h2)
      have H1 := Lib.hid h1; have H2 := Lib.hid h2
      clear h1 h2 h3
      go_enter Tryd.func84, Tryd.ntmps84
      go_wp2
      refine wp_loop_rounds 3 ?_
      rw [rounds_succ]
      go_wp2_with (go_at_call 45; refine (term_Check _ s _ (HS.keep (by (repeat' (first | (with_reducible exact Below.refl _ _) | (with_reducible refine Below.next ?_ (by with_reducible assumption)) | (with_reducible refine Below.drew ?_) | (with_reducible refine Below.laid ?_ _) | (with_reducible refine Below.setCell ?_ ?_ _) | (with_reducible refine size_of ?_) | (with_reducible refine Nat.le_succ_of_le ?_) | go_size))))).mono ?_; rintro e w' ⟨rfl, rfl⟩; rw [hx.out])
      rw [rounds_succ]
      go_wp2_with (go_at_call 45; refine (term_Check _ t _ (HT.keep (by (repeat' (first | (with_reducible exact Below.refl _ _) | (with_reducible refine Below.next ?_ (by with_reducible assumption)) | (with_reducible refine Below.drew ?_) | (with_reducible refine Below.laid ?_ _) | (with_reducible refine Below.setCell ?_ ?_ _) | (with_reducible refine size_of ?_) | (with_reducible refine Nat.le_succ_of_le ?_) | go_size))))).mono ?_; rintro e w' ⟨rfl, rfl⟩; rw [hy.out])
      rw [rounds_succ]
      go_wp2_with fail
      refine (fields_Where _ s _ (HS.keep (by (repeat' (first | (with_reducible exact Below.refl _ _) | (with_reducible refine Below.next ?_ (by with_reducible assumption)) | (with_reducible refine Below.drew ?_) | (with_reducible refine Below.laid ?_ _) | (with_reducible refine Below.setCell ?_ ?_ _) | (with_reducible refine size_of ?_) | (with_reducible refine Nat.le_succ_of_le ?_) | go_size)))) H1.out).mono ?_
      rintro e w1 ⟨rfl, hb1⟩
      go_wp2_with fail
      refine (fields_Where _ t _ (HT.keep (by (repeat' (first | (with_reducible exact Below.refl _ _) | (with_reducible refine Below.next ?_ (by with_reducible assumption)) | (with_reducible refine Below.drew ?_) | (with_reducible refine Below.laid ?_ _) | (with_reducible refine Below.setCell ?_ ?_ _) | (with_reducible refine size_of ?_) | (with_reducible refine Nat.le_succ_of_le ?_) | go_size)))) H2.out).mono ?_
      rintro e w2 ⟨rfl, hb2⟩
      go_wp2
      go_ret3
      exact ⟨rfl, by (repeat' (first | (with_reducible exact Below.refl _ _) | (with_reducible refine Below.next ?_ (by with_reducible assumption)) | (with_reducible refine Below.drew ?_) | (with_reducible refine Below.laid ?_ _) | (with_reducible refine Below.setCell ?_ ?_ _) | (with_reducible refine size_of ?_) | (with_reducible refine Nat.le_succ_of_le ?_) | go_size))⟩
    · have h3 : Venn.chk2 s t = Venn.termChk t := by rw [Venn.chk2, if_pos h1]
      rw [h3, if_neg h2, if_neg h2, errV_ne h2]
      have hx := Lib.hid (errV_zero h1); have hy := Lib.hid (errV_ne h2)
      clear h1 h2 h3
      go_enter Tryd.func84, Tryd.ntmps84
      go_wp2
      refine wp_loop_rounds 3 ?_
      rw [rounds_succ]
      go_wp2_with (go_at_call 45; refine (term_Check _ s _ (HS.keep (by (repeat' (first | (with_reducible exact Below.refl _ _) | (with_reducible refine Below.next ?_ (by with_reducible assumption)) | (with_reducible refine Below.drew ?_) | (with_reducible refine Below.laid ?_ _) | (with_reducible refine Below.setCell ?_ ?_ _) | (with_reducible refine size_of ?_) | (with_reducible refine Nat.le_succ_of_le ?_) | go_size))))).mono ?_; rintro e w' ⟨rfl, rfl⟩; rw [hx.out])
      rw [rounds_succ]
      go_wp2_with (go_at_call 45; refine (term_Check _ t _ (HT.keep (by (repeat' (first | (with_reducible exact Below.refl _ _) | (with_reducible refine Below.next ?_ (by with_reducible assumption)) | (with_reducible refine Below.drew ?_) | (with_reducible refine Below.laid ?_ _) | (with_reducible refine Below.setCell ?_ ?_ _) | (with_reducible refine size_of ?_) | (with_reducible refine Nat.le_succ_of_le ?_) | go_size))))).mono ?_; rintro e w' ⟨rfl, rfl⟩; rw [hy.out])
      go_ret3
      exact ⟨rfl, by (repeat' (first | (with_reducible exact Below.refl _ _) | (with_reducible refine Below.next ?_ (by with_reducible assumption)) | (with_reducible refine Below.drew ?_) | (with_reducible refine Below.laid ?_ _) | (with_reducible refine Below.setCell ?_ ?_ _) | (with_reducible refine size_of ?_) | (with_reducible refine Nat.le_succ_of_le ?_) | go_size))⟩
  · have h3 : Venn.chk2 s t = Venn.termChk s := by rw [Venn.chk2, if_neg h1]
    rw [h3, if_neg h1, if_neg h1, errV_ne h1]
    have hx := Lib.hid (errV_ne h1)
    clear h1 h3
    go_enter Tryd.func84, Tryd.ntmps84
    go_wp2
    refine wp_loop_rounds 3 ?_
    rw [rounds_succ]
    go_wp2_with (go_at_call 45; refine (term_Check _ s _ (HS.keep (by (repeat' (first | (with_reducible exact Below.refl _ _) | (with_reducible refine Below.next ?_ (by with_reducible assumption)) | (with_reducible refine Below.drew ?_) | (with_reducible refine Below.laid ?_ _) | (with_reducible refine Below.setCell ?_ ?_ _) | (with_reducible refine size_of ?_) | (with_reducible refine Nat.le_succ_of_le ?_) | go_size))))).mono ?_; rintro e w' ⟨rfl, rfl⟩; rw [hx.out])
    go_ret3
    exact ⟨rfl, by (repeat' (first | (with_reducible exact Below.refl _ _) | (with_reducible refine Below.next ?_ (by with_reducible assumption)) | (with_reducible refine Below.drew ?_) | (with_reducible refine Below.laid ?_ _) | (with_reducible refine Below.setCell ?_ ?_ _) | (with_reducible refine size_of ?_) | (with_reducible refine Nat.le_succ_of_le ?_) | go_size))⟩

set_option maxHeartbeats 1000000 in
theorem alike_Same (u v : Value) (s t : List Int) (w : World) (hs : IsInts w u s) (ht : IsInts w v t) :
    Calls Tryd.prog 40 #[u, v] w (Keeps (.tuple #[.bool (Venn.sameV s t), errV (Venn.chk2 s t)]) w) := by
  have HM := Lib.hid (alike_masks u v s t w hs ht)
  clear hs ht
  by_cases h : Venn.chk2 s t = 0
  · rw [if_pos h, if_pos h, errV_zero h] at HM
    rw [errV_zero h, show Venn.sameV s t = (Venn.mask s == Venn.mask t) by simp [Venn.sameV, h]]
    clear h
    rcases hm : (Venn.mask s == Venn.mask t) with _ | _
    all_goals
      go_enter Tryd.func40, Tryd.ntmps40
      go_wp2_with (go_at_call 84; refine (HM.out).mono ?_; rintro e w1 ⟨rfl, hb1⟩)
      go_ret2
      exact ⟨rfl, by (repeat' (first | (with_reducible exact Below.refl _ _) | (with_reducible refine Below.next ?_ (by with_reducible assumption)) | (with_reducible refine Below.drew ?_) | (with_reducible refine Below.laid ?_ _) | (with_reducible refine Below.setCell ?_ ?_ _) | (with_reducible refine size_of ?_) | (with_reducible refine Nat.le_succ_of_le ?_) | go_size))⟩
  · rw [if_neg h, if_neg h, errV_ne h] at HM
    rw [errV_ne h, show Venn.sameV s t = false by simp [Venn.sameV, h]]
    clear h
    go_enter Tryd.func40, Tryd.ntmps40
    go_wp2_with (go_at_call 84; refine (HM.out).mono ?_; rintro e w1 ⟨rfl, hb1⟩)
    go_ret2
    exact ⟨rfl, by (repeat' (first | (with_reducible exact Below.refl _ _) | (with_reducible refine Below.next ?_ (by with_reducible assumption)) | (with_reducible refine Below.drew ?_) | (with_reducible refine Below.laid ?_ _) | (with_reducible refine Below.setCell ?_ ?_ _) | (with_reducible refine size_of ?_) | (with_reducible refine Nat.le_succ_of_le ?_) | go_size))⟩

theorem masks_andNot (s t : List Int) : bits .andNot .i64 (Venn.mask s) (Venn.mask t) = ((Venn.andNot (Venn.mask s).toNat (Venn.mask t).toNat : Nat) : Int) := by
  have h1 := Venn.mask_range s
  have h2 := Venn.mask_range t
  have := i64_andNot_nat (Venn.mask s).toNat (Venn.mask t).toNat (by omega) (by omega)
  rwa [Int.toNat_of_nonneg h1.1, Int.toNat_of_nonneg h2.1] at this
theorem masks_and (s t : List Int) : bits .and .i64 (Venn.mask s) (Venn.mask t) = (((Venn.mask s).toNat &&& (Venn.mask t).toNat : Nat) : Int) := by
  have h1 := Venn.mask_range s
  have h2 := Venn.mask_range t
  have := i64_and_nat (Venn.mask s).toNat (Venn.mask t).toNat (by omega) (by omega)
  rwa [Int.toNat_of_nonneg h1.1, Int.toNat_of_nonneg h2.1] at this

set_option maxHeartbeats 1000000 in
theorem alike_Part (u v : Value) (s t : List Int) (w : World) (hs : IsInts w u s) (ht : IsInts w v t) :
    Calls Tryd.prog 41 #[u, v] w (Keeps (.tuple #[.bool (Venn.partV s t), errV (Venn.chk2 s t)]) w) := by
  have HM := Lib.hid (alike_masks u v s t w hs ht)
  clear hs ht
  by_cases h : Venn.chk2 s t = 0
  · rw [if_pos h, if_pos h, errV_zero h] at HM
    rw [errV_zero h, show Venn.partV s t = (bits .andNot .i64 (Venn.mask s) (Venn.mask t) == 0) by simp [Venn.partV, h, masks_andNot]]
    clear h
    rcases hm : (bits .andNot .i64 (Venn.mask s) (Venn.mask t) == 0) with _ | _
    all_goals
      go_enter Tryd.func41, Tryd.ntmps41
      go_wp2_with (go_at_call 84; refine (HM.out).mono ?_; rintro e w1 ⟨rfl, hb1⟩)
      go_ret2
      exact ⟨rfl, by (repeat' (first | (with_reducible exact Below.refl _ _) | (with_reducible refine Below.next ?_ (by with_reducible assumption)) | (with_reducible refine Below.drew ?_) | (with_reducible refine Below.laid ?_ _) | (with_reducible refine Below.setCell ?_ ?_ _) | (with_reducible refine size_of ?_) | (with_reducible refine Nat.le_succ_of_le ?_) | go_size))⟩
  · rw [if_neg h, if_neg h, errV_ne h] at HM
    rw [errV_ne h, show Venn.partV s t = false by simp [Venn.partV, h]]
    clear h
    go_enter Tryd.func41, Tryd.ntmps41
    go_wp2_with (go_at_call 84; refine (HM.out).mono ?_; rintro e w1 ⟨rfl, hb1⟩)
    go_ret2
    exact ⟨rfl, by (repeat' (first | (with_reducible exact Below.refl _ _) | (with_reducible refine Below.next ?_ (by with_reducible assumption)) | (with_reducible refine Below.drew ?_) | (with_reducible refine Below.laid ?_ _) | (with_reducible refine Below.setCell ?_ ?_ _) | (with_reducible refine size_of ?_) | (with_reducible refine Nat.le_succ_of_le ?_) | go_size))⟩

set_option maxHeartbeats 1000000 in
theorem alike_Apart (u v : Value) (s t : List Int) (w : World) (hs : IsInts w u s) (ht : IsInts w v t) :
    Calls Tryd.prog 42 #[u, v] w (Keeps (.tuple #[.bool (Venn.apartV s t), errV (Venn.chk2 s t)]) w) := by
  have HM := Lib.hid (alike_masks u v s t w hs ht)
  clear hs ht
  by_cases h : Venn.chk2 s t = 0
  · rw [if_pos h, if_pos h, errV_zero h] at HM
    rw [errV_zero h, show Venn.apartV s t = (bits .and .i64 (Venn.mask s) (Venn.mask t) == 0) by simp [Venn.apartV, h, masks_and]]
    clear h
    rcases hm : (bits .and .i64 (Venn.mask s) (Venn.mask t) == 0) with _ | _
    all_goals
      go_enter Tryd.func42, Tryd.ntmps42
      go_wp2_with (go_at_call 84; refine (HM.out).mono ?_; rintro e w1 ⟨rfl, hb1⟩)
      go_ret2
      exact ⟨rfl, by (repeat' (first | (with_reducible exact Below.refl _ _) | (with_reducible refine Below.next ?_ (by with_reducible assumption)) | (with_reducible refine Below.drew ?_) | (with_reducible refine Below.laid ?_ _) | (with_reducible refine Below.setCell ?_ ?_ _) | (with_reducible refine size_of ?_) | (with_reducible refine Nat.le_succ_of_le ?_) | go_size))⟩
  · rw [if_neg h, if_neg h, errV_ne h] at HM
    rw [errV_ne h, show Venn.apartV s t = false by simp [Venn.apartV, h]]
    clear h
    go_enter Tryd.func42, Tryd.ntmps42
    go_wp2_with (go_at_call 84; refine (HM.out).mono ?_; rintro e w1 ⟨rfl, hb1⟩)
    go_ret2
    exact ⟨rfl, by (repeat' (first | (with_reducible exact Below.refl _ _) | (with_reducible refine Below.next ?_ (by with_reducible assumption)) | (with_reducible refine Below.drew ?_) | (with_reducible refine Below.laid ?_ _) | (with_reducible refine Below.setCell ?_ ?_ _) | (with_reducible refine size_of ?_) | (with_reducible refine Nat.le_succ_of_le ?_) | go_size))⟩

end Go.Proofs.YtpcdiilgomfpbaaDoor
