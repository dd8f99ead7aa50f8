/-
  THE WALK of vennlaw1.TermTells. (Written by gen_termtells.py.)
-/
import Derived.Test.YtpcdiilgomfpbaaDoorRefTerm
import Derived.Test.YtpcdiilgomfpbaaDoorRefText
import Derived.Test.YtpcdiilgomfpbaaDoorSame
import Derived.Test.YtpcdiilgomfpbaaDoorValue
import Derived.Test.YtpcdiilgomfpbaaDoorDoor
import Derived.Test.YtpcdiilgomfpbaaDoorCore
import Derived.Test.YtpcdiilgomfpbaaDoorSome
namespace Go.Proofs.YtpcdiilgomfpbaaDoor
open Go.RowKit

set_option maxHeartbeats 8000000 in
set_option maxRecDepth 100000 in
theorem termTells_walk (v : Value) (t : List Int) (th a b c : Int) (s : ByteArray) (w : World) (ht : IsInts w v t) (hs : s.size < 1099511627776) (HET : EtOk w) :
    Calls Tryd.prog 10 #[v, .agg #[.int .i64 th, .int .i64 a, .int .i64 b, .int .i64 c], .string s] w (Keeps (.bool true) w) := by
  obtain ⟨A0, c0, rfl, hrest⟩ := ht
  have HI := Lib.hid (show IsInts w (.slice A0 t.length c0) t from ⟨A0, c0, rfl, hrest⟩)
  clear hrest
  by_cases hc : Venn.termChk t = 0
  · have HC := Lib.hid hc
    have HP := Lib.hid (show printV t = .tuple #[.string ⟨(textB t).toArray⟩, errV 0] by rw [printV, if_pos hc]; rfl)
    by_cases hk : Venn.worldChk ⟨th, a, b, c⟩ = 0
    · have hv : Venn.valueChk t ⟨th, a, b, c⟩ = 0 := by rw [Venn.valueChk, if_pos hc]; exact hk
      have HV := Lib.hid (show Venn.valueV t ⟨th, a, b, c⟩ = Venn.termSet t ⟨th, a, b, c⟩ by rw [Venn.valueV, if_pos hv])
      have HVC := Lib.hid hv
      have HK := Lib.hid hk
      clear hc hk hv
      have BW := Blk.new w 41 #[.int .i64 th, .int .i64 a, .int .i64 b, .int .i64 c]
      go_enter Tryd.func10, Tryd.ntmps10
      go_wp2_with (first
        | (go_at_call 38; refine (ref_Term _ t _ (HI.out.keep (by (repeat' (first | (with_reducible exact Below.refl _ _) | (with_reducible refine Below.next ?_ (by with_reducible assumption)) | (with_reducible refine Below.drew ?_) | (with_reducible refine Below.laid ?_ _) | (with_reducible refine Below.setCell ?_ ?_ _) | (with_reducible refine size_of ?_) | (with_reducible refine Nat.le_succ_of_le ?_) | go_size))))).mono ?_; rintro e w' ⟨rfl, rfl⟩; rw [HC.out])
        | (go_at_call 45; refine (term_Check _ t _ (HI.out.keep (by (repeat' (first | (with_reducible exact Below.refl _ _) | (with_reducible refine Below.next ?_ (by with_reducible assumption)) | (with_reducible refine Below.drew ?_) | (with_reducible refine Below.laid ?_ _) | (with_reducible refine Below.setCell ?_ ?_ _) | (with_reducible refine size_of ?_) | (with_reducible refine Nat.le_succ_of_le ?_) | go_size))))).mono ?_; rintro e w' ⟨rfl, rfl⟩; rw [HC.out])
        | (go_at_call 46; refine (ref_TermText _ t _ (HI.out.keep (by (repeat' (first | (with_reducible exact Below.refl _ _) | (with_reducible refine Below.next ?_ (by with_reducible assumption)) | (with_reducible refine Below.drew ?_) | (with_reducible refine Below.laid ?_ _) | (with_reducible refine Below.setCell ?_ ?_ _) | (with_reducible refine size_of ?_) | (with_reducible refine Nat.le_succ_of_le ?_) | go_size)))) HC.out).mono ?_; rintro e w1 ⟨rfl, hb1⟩)
        | (go_at_call 48; refine (ref_World _ _ _ _ _).mono ?_; rintro e w5 ⟨rfl, hb5⟩; rw [HK.out]; obtain ⟨k0, k1, k2, k3⟩ := (BW.keep (w' := w5) (by (repeat' (first | (with_reducible exact Below.refl _ _) | (with_reducible refine Below.next ?_ (by with_reducible assumption)) | (with_reducible refine Below.drew ?_) | (with_reducible refine Below.laid ?_ _) | (with_reducible refine Below.setCell ?_ ?_ _) | (with_reducible refine size_of ?_) | (with_reducible refine Nat.le_succ_of_le ?_) | go_size)))).cells4)
        | (go_at_call 49; refine (ref_Value _ t _ _ _ _ _ (HI.out.keep (by (repeat' (first | (with_reducible exact Below.refl _ _) | (with_reducible refine Below.next ?_ (by with_reducible assumption)) | (with_reducible refine Below.drew ?_) | (with_reducible refine Below.laid ?_ _) | (with_reducible refine Below.setCell ?_ ?_ _) | (with_reducible refine size_of ?_) | (with_reducible refine Nat.le_succ_of_le ?_) | go_size)))) HC.out HK.out).mono ?_; rintro e w6 ⟨rfl, hb6⟩; obtain ⟨k4, k5, k6, k7⟩ := (BW.keep (w' := w6) (by (repeat' (first | (with_reducible exact Below.refl _ _) | (with_reducible refine Below.next ?_ (by with_reducible assumption)) | (with_reducible refine Below.drew ?_) | (with_reducible refine Below.laid ?_ _) | (with_reducible refine Below.setCell ?_ ?_ _) | (with_reducible refine size_of ?_) | (with_reducible refine Nat.le_succ_of_le ?_) | go_size)))).cells4)
        | (go_at_call 47; refine (term_Print _ t _ (HI.out.keep (by (repeat' (first | (with_reducible exact Below.refl _ _) | (with_reducible refine Below.next ?_ (by with_reducible assumption)) | (with_reducible refine Below.drew ?_) | (with_reducible refine Below.laid ?_ _) | (with_reducible refine Below.setCell ?_ ?_ _) | (with_reducible refine size_of ?_) | (with_reducible refine Nat.le_succ_of_le ?_) | go_size))))).mono ?_; rintro e w1 ⟨rfl, hb1⟩; rw [HP.out])
        | (go_at_call 23; refine (term_Value _ t _ _ _ _ _ (HI.out.keep (by (repeat' (first | (with_reducible exact Below.refl _ _) | (with_reducible refine Below.next ?_ (by with_reducible assumption)) | (with_reducible refine Below.drew ?_) | (with_reducible refine Below.laid ?_ _) | (with_reducible refine Below.setCell ?_ ?_ _) | (with_reducible refine size_of ?_) | (with_reducible refine Nat.le_succ_of_le ?_) | go_size))))).mono ?_; rintro e w1 ⟨rfl, hb1⟩; rw [HV.out, HVC.out])
        | (go_at_call 19; refine (vennsame_Error _ _ _ (HET.keep (by (repeat' (first | (with_reducible exact Below.refl _ _) | (with_reducible refine Below.next ?_ (by with_reducible assumption)) | (with_reducible refine Below.drew ?_) | (with_reducible refine Below.laid ?_ _) | (with_reducible refine Below.setCell ?_ ?_ _) | (with_reducible refine size_of ?_) | (with_reducible refine Nat.le_succ_of_le ?_) | go_size))))).mono ?_; rintro e w1 ⟨rfl, hb1⟩; obtain ⟨k0, k1, k2, k3⟩ := (BW.keep (w' := w1) (by (repeat' (first | (with_reducible exact Below.refl _ _) | (with_reducible refine Below.next ?_ (by with_reducible assumption)) | (with_reducible refine Below.drew ?_) | (with_reducible refine Below.laid ?_ _) | (with_reducible refine Below.setCell ?_ ?_ _) | (with_reducible refine size_of ?_) | (with_reducible refine Nat.le_succ_of_le ?_) | go_size)))).cells4))
      trace_state
      refine (ref_ReadTerm s _ hs).mono ?_
      rintro e w9 ⟨l0, bb, rfl, hb9, hcase⟩
      have hbw9 : Below w.heap.size w w9 := by (repeat' (first | (with_reducible exact Below.refl _ _) | (with_reducible refine Below.next ?_ (by with_reducible assumption)) | (with_reducible refine Below.drew ?_) | (with_reducible refine Below.laid ?_ _) | (with_reducible refine Below.setCell ?_ ?_ _) | (with_reducible refine size_of ?_) | (with_reducible refine Nat.le_succ_of_le ?_) | go_size))
      clear hb9
      rcases hcase with ⟨l, hl, rfl, hI⟩ | ⟨hl, rfl, rfl⟩
      · obtain ⟨A, cc, rfl, hrr⟩ := hI
        have HL := Lib.hid (show IsInts w9 (.slice A l.length cc) l from ⟨A, cc, rfl, hrr⟩)
        clear hrr
        by_cases hk2 : Venn.termChk l = 0
        · have HK2 := Lib.hid hk2
          have HPC := Lib.hid (show parseChk s.data.toList = 0 by rw [parseChk, hl]; exact hk2)
          have HPL := Lib.hid (show parseL s.data.toList = l by rw [parseL, hl]; exact if_pos hk2)
          clear hl hk2
          go_wp2_with (first
            | (go_at_call 38; refine (ref_Term _ l _ (HL.out.keep (by (repeat' (first | (with_reducible exact Below.refl _ _) | (with_reducible refine Below.next ?_ (by with_reducible assumption)) | (with_reducible refine Below.drew ?_) | (with_reducible refine Below.laid ?_ _) | (with_reducible refine Below.setCell ?_ ?_ _) | (with_reducible refine size_of ?_) | (with_reducible refine Nat.le_succ_of_le ?_) | go_size))))).mono ?_; rintro e w' ⟨rfl, rfl⟩; rw [HK2.out])
            | (go_at_call 24; refine (term_Parse s _ hs).mono ?_; rintro e w10 ⟨y, rfl, hb10, hy⟩; rw [HPC.out]; rw [HPL.out] at hy; obtain ⟨YA, yc, rfl⟩ := hy.slice)
            | (go_at_call 19; refine (vennsame_Error _ _ _ (HET.keep (by (repeat' (first | (with_reducible exact Below.refl _ _) | (with_reducible refine Below.next ?_ (by with_reducible assumption)) | (with_reducible refine Below.drew ?_) | (with_reducible refine Below.laid ?_ _) | (with_reducible refine Below.setCell ?_ ?_ _) | (with_reducible refine size_of ?_) | (with_reducible refine Nat.le_succ_of_le ?_) | go_size))))).mono ?_; rintro e w1 ⟨rfl, hb1⟩)
            | (go_at_call 44; refine (same_Ints _ _ l l _ (hy.keep (by (repeat' (first | (with_reducible exact Below.refl _ _) | (with_reducible refine Below.next ?_ (by with_reducible assumption)) | (with_reducible refine Below.drew ?_) | (with_reducible refine Below.laid ?_ _) | (with_reducible refine Below.setCell ?_ ?_ _) | (with_reducible refine size_of ?_) | (with_reducible refine Nat.le_succ_of_le ?_) | go_size)))) (HL.out.keep (by (repeat' (first | (with_reducible exact Below.refl _ _) | (with_reducible refine Below.next ?_ (by with_reducible assumption)) | (with_reducible refine Below.drew ?_) | (with_reducible refine Below.laid ?_ _) | (with_reducible refine Below.setCell ?_ ?_ _) | (with_reducible refine size_of ?_) | (with_reducible refine Nat.le_succ_of_le ?_) | go_size))))).mono ?_; rintro e w11 ⟨rfl, hb11⟩))
          go_ret
          exact ⟨by simp, by (repeat' (first | (with_reducible exact Below.refl _ _) | (with_reducible refine Below.next ?_ (by with_reducible assumption)) | (with_reducible refine Below.drew ?_) | (with_reducible refine Below.laid ?_ _) | (with_reducible refine Below.setCell ?_ ?_ _) | (with_reducible refine size_of ?_) | (with_reducible refine Nat.le_succ_of_le ?_) | go_size))⟩
        · have HPC := Lib.hid (show parseChk s.data.toList = Venn.termChk l by rw [parseChk, hl])
          have HPL := Lib.hid (show parseL s.data.toList = [] by rw [parseL, hl]; exact if_neg hk2)
          have hk3 : (Venn.termChk l != 0) = true := by simpa using hk2
          have HT2 := Lib.hid (fun W hW => ref_Term (.slice A l.length cc) l W (HL.out.keep hW))
          clear hl hk2
          generalize Venn.termChk l = K2 at HPC hk3 HT2
          go_wp2_with (first
            | (go_at_call 38; refine (HT2.out _ (by (repeat' (first | (with_reducible exact Below.refl _ _) | (with_reducible refine Below.next ?_ (by with_reducible assumption)) | (with_reducible refine Below.drew ?_) | (with_reducible refine Below.laid ?_ _) | (with_reducible refine Below.setCell ?_ ?_ _) | (with_reducible refine size_of ?_) | (with_reducible refine Nat.le_succ_of_le ?_) | go_size)))).mono ?_; rintro e w' ⟨rfl, rfl⟩)
            | (go_at_call 24; refine (term_Parse s _ hs).mono ?_; rintro e w10 ⟨y, rfl, hb10, hy⟩; rw [HPC.out]; rw [HPL.out] at hy; obtain ⟨YA, yc, rfl⟩ := hy.slice)
            | (go_at_call 19; refine (vennsame_Error _ _ _ (HET.keep (by (repeat' (first | (with_reducible exact Below.refl _ _) | (with_reducible refine Below.next ?_ (by with_reducible assumption)) | (with_reducible refine Below.drew ?_) | (with_reducible refine Below.laid ?_ _) | (with_reducible refine Below.setCell ?_ ?_ _) | (with_reducible refine size_of ?_) | (with_reducible refine Nat.le_succ_of_le ?_) | go_size))))).mono ?_; rintro e w1 ⟨rfl, hb1⟩)
            | (go_at_call 44; refine (same_Ints _ _ [] [] _ (hy.keep (by (repeat' (first | (with_reducible exact Below.refl _ _) | (with_reducible refine Below.next ?_ (by with_reducible assumption)) | (with_reducible refine Below.drew ?_) | (with_reducible refine Below.laid ?_ _) | (with_reducible refine Below.setCell ?_ ?_ _) | (with_reducible refine size_of ?_) | (with_reducible refine Nat.le_succ_of_le ?_) | go_size)))) (IsIntsNil _)).mono ?_; rintro e w11 ⟨rfl, hb11⟩))
          go_ret
          exact ⟨by simp, by (repeat' (first | (with_reducible exact Below.refl _ _) | (with_reducible refine Below.next ?_ (by with_reducible assumption)) | (with_reducible refine Below.drew ?_) | (with_reducible refine Below.laid ?_ _) | (with_reducible refine Below.setCell ?_ ?_ _) | (with_reducible refine size_of ?_) | (with_reducible refine Nat.le_succ_of_le ?_) | go_size))⟩
      · have HPC := Lib.hid (show parseChk s.data.toList = 2 by rw [parseChk, hl])
        have HPL := Lib.hid (show parseL s.data.toList = [] by rw [parseL, hl])
        clear hl
        go_wp2_with (first
          | (go_at_call 24; refine (term_Parse s _ hs).mono ?_; rintro e w10 ⟨y, rfl, hb10, hy⟩; rw [HPC.out]; rw [HPL.out] at hy; obtain ⟨YA, yc, rfl⟩ := hy.slice)
          | (go_at_call 19; refine (vennsame_Error _ _ _ (HET.keep (by (repeat' (first | (with_reducible exact Below.refl _ _) | (with_reducible refine Below.next ?_ (by with_reducible assumption)) | (with_reducible refine Below.drew ?_) | (with_reducible refine Below.laid ?_ _) | (with_reducible refine Below.setCell ?_ ?_ _) | (with_reducible refine size_of ?_) | (with_reducible refine Nat.le_succ_of_le ?_) | go_size))))).mono ?_; rintro e w1 ⟨rfl, hb1⟩)
          | (go_at_call 44; refine (same_Ints _ _ [] [] _ (hy.keep (by (repeat' (first | (with_reducible exact Below.refl _ _) | (with_reducible refine Below.next ?_ (by with_reducible assumption)) | (with_reducible refine Below.drew ?_) | (with_reducible refine Below.laid ?_ _) | (with_reducible refine Below.setCell ?_ ?_ _) | (with_reducible refine size_of ?_) | (with_reducible refine Nat.le_succ_of_le ?_) | go_size)))) (IsIntsNil _)).mono ?_; rintro e w11 ⟨rfl, hb11⟩))
        go_ret
        exact ⟨by simp, by (repeat' (first | (with_reducible exact Below.refl _ _) | (with_reducible refine Below.next ?_ (by with_reducible assumption)) | (with_reducible refine Below.drew ?_) | (with_reducible refine Below.laid ?_ _) | (with_reducible refine Below.setCell ?_ ?_ _) | (with_reducible refine size_of ?_) | (with_reducible refine Nat.le_succ_of_le ?_) | go_size))⟩
    · have hv : Venn.valueChk t ⟨th, a, b, c⟩ = Venn.worldChk ⟨th, a, b, c⟩ := by rw [Venn.valueChk, if_pos hc]
      have HV := Lib.hid (show Venn.valueV t ⟨th, a, b, c⟩ = 0 by rw [Venn.valueV, if_neg (by rw [hv]; exact hk)])
      have HVC := Lib.hid hv
      have hk1 : (Venn.worldChk ⟨th, a, b, c⟩ == 0) = false := by simpa using hk
      have HW := Lib.hid (fun W => ref_World th a b c W)
      clear hc hk hv
      generalize Venn.worldChk ⟨th, a, b, c⟩ = K at HVC hk1 HW
      have BW := Blk.new w 41 #[.int .i64 th, .int .i64 a, .int .i64 b, .int .i64 c]
      go_enter Tryd.func10, Tryd.ntmps10
      go_wp2_with (first
        | (go_at_call 38; refine (ref_Term _ t _ (HI.out.keep (by (repeat' (first | (with_reducible exact Below.refl _ _) | (with_reducible refine Below.next ?_ (by with_reducible assumption)) | (with_reducible refine Below.drew ?_) | (with_reducible refine Below.laid ?_ _) | (with_reducible refine Below.setCell ?_ ?_ _) | (with_reducible refine size_of ?_) | (with_reducible refine Nat.le_succ_of_le ?_) | go_size))))).mono ?_; rintro e w' ⟨rfl, rfl⟩; rw [HC.out])
        | (go_at_call 45; refine (term_Check _ t _ (HI.out.keep (by (repeat' (first | (with_reducible exact Below.refl _ _) | (with_reducible refine Below.next ?_ (by with_reducible assumption)) | (with_reducible refine Below.drew ?_) | (with_reducible refine Below.laid ?_ _) | (with_reducible refine Below.setCell ?_ ?_ _) | (with_reducible refine size_of ?_) | (with_reducible refine Nat.le_succ_of_le ?_) | go_size))))).mono ?_; rintro e w' ⟨rfl, rfl⟩; rw [HC.out])
        | (go_at_call 46; refine (ref_TermText _ t _ (HI.out.keep (by (repeat' (first | (with_reducible exact Below.refl _ _) | (with_reducible refine Below.next ?_ (by with_reducible assumption)) | (with_reducible refine Below.drew ?_) | (with_reducible refine Below.laid ?_ _) | (with_reducible refine Below.setCell ?_ ?_ _) | (with_reducible refine size_of ?_) | (with_reducible refine Nat.le_succ_of_le ?_) | go_size)))) HC.out).mono ?_; rintro e w1 ⟨rfl, hb1⟩)
        | (go_at_call 48; refine (HW.out _).mono ?_; rintro e w5 ⟨rfl, hb5⟩; obtain ⟨k0, k1, k2, k3⟩ := (BW.keep (w' := w5) (by (repeat' (first | (with_reducible exact Below.refl _ _) | (with_reducible refine Below.next ?_ (by with_reducible assumption)) | (with_reducible refine Below.drew ?_) | (with_reducible refine Below.laid ?_ _) | (with_reducible refine Below.setCell ?_ ?_ _) | (with_reducible refine size_of ?_) | (with_reducible refine Nat.le_succ_of_le ?_) | go_size)))).cells4)
        | (go_at_call 47; refine (term_Print _ t _ (HI.out.keep (by (repeat' (first | (with_reducible exact Below.refl _ _) | (with_reducible refine Below.next ?_ (by with_reducible assumption)) | (with_reducible refine Below.drew ?_) | (with_reducible refine Below.laid ?_ _) | (with_reducible refine Below.setCell ?_ ?_ _) | (with_reducible refine size_of ?_) | (with_reducible refine Nat.le_succ_of_le ?_) | go_size))))).mono ?_; rintro e w1 ⟨rfl, hb1⟩; rw [HP.out])
        | (go_at_call 23; refine (term_Value _ t _ _ _ _ _ (HI.out.keep (by (repeat' (first | (with_reducible exact Below.refl _ _) | (with_reducible refine Below.next ?_ (by with_reducible assumption)) | (with_reducible refine Below.drew ?_) | (with_reducible refine Below.laid ?_ _) | (with_reducible refine Below.setCell ?_ ?_ _) | (with_reducible refine size_of ?_) | (with_reducible refine Nat.le_succ_of_le ?_) | go_size))))).mono ?_; rintro e w1 ⟨rfl, hb1⟩; rw [HV.out, HVC.out])
        | (go_at_call 19; refine (vennsame_Error _ _ _ (HET.keep (by (repeat' (first | (with_reducible exact Below.refl _ _) | (with_reducible refine Below.next ?_ (by with_reducible assumption)) | (with_reducible refine Below.drew ?_) | (with_reducible refine Below.laid ?_ _) | (with_reducible refine Below.setCell ?_ ?_ _) | (with_reducible refine size_of ?_) | (with_reducible refine Nat.le_succ_of_le ?_) | go_size))))).mono ?_; rintro e w1 ⟨rfl, hb1⟩; obtain ⟨k0, k1, k2, k3⟩ := (BW.keep (w' := w1) (by (repeat' (first | (with_reducible exact Below.refl _ _) | (with_reducible refine Below.next ?_ (by with_reducible assumption)) | (with_reducible refine Below.drew ?_) | (with_reducible refine Below.laid ?_ _) | (with_reducible refine Below.setCell ?_ ?_ _) | (with_reducible refine size_of ?_) | (with_reducible refine Nat.le_succ_of_le ?_) | go_size)))).cells4))
      refine (ref_ReadTerm s _ hs).mono ?_
      rintro e w9 ⟨l0, bb, rfl, hb9, hcase⟩
      have hbw9 : Below w.heap.size w w9 := by (repeat' (first | (with_reducible exact Below.refl _ _) | (with_reducible refine Below.next ?_ (by with_reducible assumption)) | (with_reducible refine Below.drew ?_) | (with_reducible refine Below.laid ?_ _) | (with_reducible refine Below.setCell ?_ ?_ _) | (with_reducible refine size_of ?_) | (with_reducible refine Nat.le_succ_of_le ?_) | go_size))
      clear hb9
      rcases hcase with ⟨l, hl, rfl, hI⟩ | ⟨hl, rfl, rfl⟩
      · obtain ⟨A, cc, rfl, hrr⟩ := hI
        have HL := Lib.hid (show IsInts w9 (.slice A l.length cc) l from ⟨A, cc, rfl, hrr⟩)
        clear hrr
        by_cases hk2 : Venn.termChk l = 0
        · have HK2 := Lib.hid hk2
          have HPC := Lib.hid (show parseChk s.data.toList = 0 by rw [parseChk, hl]; exact hk2)
          have HPL := Lib.hid (show parseL s.data.toList = l by rw [parseL, hl]; exact if_pos hk2)
          clear hl hk2
          go_wp2_with (first
            | (go_at_call 38; refine (ref_Term _ l _ (HL.out.keep (by (repeat' (first | (with_reducible exact Below.refl _ _) | (with_reducible refine Below.next ?_ (by with_reducible assumption)) | (with_reducible refine Below.drew ?_) | (with_reducible refine Below.laid ?_ _) | (with_reducible refine Below.setCell ?_ ?_ _) | (with_reducible refine size_of ?_) | (with_reducible refine Nat.le_succ_of_le ?_) | go_size))))).mono ?_; rintro e w' ⟨rfl, rfl⟩; rw [HK2.out])
            | (go_at_call 24; refine (term_Parse s _ hs).mono ?_; rintro e w10 ⟨y, rfl, hb10, hy⟩; rw [HPC.out]; rw [HPL.out] at hy; obtain ⟨YA, yc, rfl⟩ := hy.slice)
            | (go_at_call 19; refine (vennsame_Error _ _ _ (HET.keep (by (repeat' (first | (with_reducible exact Below.refl _ _) | (with_reducible refine Below.next ?_ (by with_reducible assumption)) | (with_reducible refine Below.drew ?_) | (with_reducible refine Below.laid ?_ _) | (with_reducible refine Below.setCell ?_ ?_ _) | (with_reducible refine size_of ?_) | (with_reducible refine Nat.le_succ_of_le ?_) | go_size))))).mono ?_; rintro e w1 ⟨rfl, hb1⟩)
            | (go_at_call 44; refine (same_Ints _ _ l l _ (hy.keep (by (repeat' (first | (with_reducible exact Below.refl _ _) | (with_reducible refine Below.next ?_ (by with_reducible assumption)) | (with_reducible refine Below.drew ?_) | (with_reducible refine Below.laid ?_ _) | (with_reducible refine Below.setCell ?_ ?_ _) | (with_reducible refine size_of ?_) | (with_reducible refine Nat.le_succ_of_le ?_) | go_size)))) (HL.out.keep (by (repeat' (first | (with_reducible exact Below.refl _ _) | (with_reducible refine Below.next ?_ (by with_reducible assumption)) | (with_reducible refine Below.drew ?_) | (with_reducible refine Below.laid ?_ _) | (with_reducible refine Below.setCell ?_ ?_ _) | (with_reducible refine size_of ?_) | (with_reducible refine Nat.le_succ_of_le ?_) | go_size))))).mono ?_; rintro e w11 ⟨rfl, hb11⟩))
          go_ret
          exact ⟨by simp, by (repeat' (first | (with_reducible exact Below.refl _ _) | (with_reducible refine Below.next ?_ (by with_reducible assumption)) | (with_reducible refine Below.drew ?_) | (with_reducible refine Below.laid ?_ _) | (with_reducible refine Below.setCell ?_ ?_ _) | (with_reducible refine size_of ?_) | (with_reducible refine Nat.le_succ_of_le ?_) | go_size))⟩
        · have HPC := Lib.hid (show parseChk s.data.toList = Venn.termChk l by rw [parseChk, hl])
          have HPL := Lib.hid (show parseL s.data.toList = [] by rw [parseL, hl]; exact if_neg hk2)
          have hk3 : (Venn.termChk l != 0) = true := by simpa using hk2
          have HT2 := Lib.hid (fun W hW => ref_Term (.slice A l.length cc) l W (HL.out.keep hW))
          clear hl hk2
          generalize Venn.termChk l = K2 at HPC hk3 HT2
          go_wp2_with (first
            | (go_at_call 38; refine (HT2.out _ (by (repeat' (first | (with_reducible exact Below.refl _ _) | (with_reducible refine Below.next ?_ (by with_reducible assumption)) | (with_reducible refine Below.drew ?_) | (with_reducible refine Below.laid ?_ _) | (with_reducible refine Below.setCell ?_ ?_ _) | (with_reducible refine size_of ?_) | (with_reducible refine Nat.le_succ_of_le ?_) | go_size)))).mono ?_; rintro e w' ⟨rfl, rfl⟩)
            | (go_at_call 24; refine (term_Parse s _ hs).mono ?_; rintro e w10 ⟨y, rfl, hb10, hy⟩; rw [HPC.out]; rw [HPL.out] at hy; obtain ⟨YA, yc, rfl⟩ := hy.slice)
            | (go_at_call 19; refine (vennsame_Error _ _ _ (HET.keep (by (repeat' (first | (with_reducible exact Below.refl _ _) | (with_reducible refine Below.next ?_ (by with_reducible assumption)) | (with_reducible refine Below.drew ?_) | (with_reducible refine Below.laid ?_ _) | (with_reducible refine Below.setCell ?_ ?_ _) | (with_reducible refine size_of ?_) | (with_reducible refine Nat.le_succ_of_le ?_) | go_size))))).mono ?_; rintro e w1 ⟨rfl, hb1⟩)
            | (go_at_call 44; refine (same_Ints _ _ [] [] _ (hy.keep (by (repeat' (first | (with_reducible exact Below.refl _ _) | (with_reducible refine Below.next ?_ (by with_reducible assumption)) | (with_reducible refine Below.drew ?_) | (with_reducible refine Below.laid ?_ _) | (with_reducible refine Below.setCell ?_ ?_ _) | (with_reducible refine size_of ?_) | (with_reducible refine Nat.le_succ_of_le ?_) | go_size)))) (IsIntsNil _)).mono ?_; rintro e w11 ⟨rfl, hb11⟩))
          go_ret
          exact ⟨by simp, by (repeat' (first | (with_reducible exact Below.refl _ _) | (with_reducible refine Below.next ?_ (by with_reducible assumption)) | (with_reducible refine Below.drew ?_) | (with_reducible refine Below.laid ?_ _) | (with_reducible refine Below.setCell ?_ ?_ _) | (with_reducible refine size_of ?_) | (with_reducible refine Nat.le_succ_of_le ?_) | go_size))⟩
      · have HPC := Lib.hid (show parseChk s.data.toList = 2 by rw [parseChk, hl])
        have HPL := Lib.hid (show parseL s.data.toList = [] by rw [parseL, hl])
        clear hl
        go_wp2_with (first
          | (go_at_call 24; refine (term_Parse s _ hs).mono ?_; rintro e w10 ⟨y, rfl, hb10, hy⟩; rw [HPC.out]; rw [HPL.out] at hy; obtain ⟨YA, yc, rfl⟩ := hy.slice)
          | (go_at_call 19; refine (vennsame_Error _ _ _ (HET.keep (by (repeat' (first | (with_reducible exact Below.refl _ _) | (with_reducible refine Below.next ?_ (by with_reducible assumption)) | (with_reducible refine Below.drew ?_) | (with_reducible refine Below.laid ?_ _) | (with_reducible refine Below.setCell ?_ ?_ _) | (with_reducible refine size_of ?_) | (with_reducible refine Nat.le_succ_of_le ?_) | go_size))))).mono ?_; rintro e w1 ⟨rfl, hb1⟩)
          | (go_at_call 44; refine (same_Ints _ _ [] [] _ (hy.keep (by (repeat' (first | (with_reducible exact Below.refl _ _) | (with_reducible refine Below.next ?_ (by with_reducible assumption)) | (with_reducible refine Below.drew ?_) | (with_reducible refine Below.laid ?_ _) | (with_reducible refine Below.setCell ?_ ?_ _) | (with_reducible refine size_of ?_) | (with_reducible refine Nat.le_succ_of_le ?_) | go_size)))) (IsIntsNil _)).mono ?_; rintro e w11 ⟨rfl, hb11⟩))
        go_ret
        exact ⟨by simp, by (repeat' (first | (with_reducible exact Below.refl _ _) | (with_reducible refine Below.next ?_ (by with_reducible assumption)) | (with_reducible refine Below.drew ?_) | (with_reducible refine Below.laid ?_ _) | (with_reducible refine Below.setCell ?_ ?_ _) | (with_reducible refine size_of ?_) | (with_reducible refine Nat.le_succ_of_le ?_) | go_size))⟩
  · have hv : Venn.valueChk t ⟨th, a, b, c⟩ = Venn.termChk t := by rw [Venn.valueChk, if_neg hc]
    have HV := Lib.hid (show Venn.valueV t ⟨th, a, b, c⟩ = 0 by rw [Venn.valueV, if_neg (by rw [hv]; exact hc)])
    have HVC := Lib.hid hv
    have HP := Lib.hid (show printV t = .tuple #[.string ⟨#[]⟩, errV (Venn.termChk t)] by rw [printV, if_neg hc])
    have hk1 : (Venn.termChk t == 0) = false := by simpa using hc
    have HC := Lib.hid (show Venn.termChk t = Venn.termChk t from rfl)
    have HRT := Lib.hid (fun W hW => ref_Term (.slice A0 t.length c0) t W (HI.out.keep hW))
    have HTC := Lib.hid (fun W hW => term_Check (.slice A0 t.length c0) t W (HI.out.keep hW))
    clear hc hv HC
    generalize Venn.termChk t = K at HVC HP hk1 HRT HTC
    have BW := Blk.new w 41 #[.int .i64 th, .int .i64 a, .int .i64 b, .int .i64 c]
    go_enter Tryd.func10, Tryd.ntmps10
    go_wp2_with (first
        | (go_at_call 38; refine (HRT.out _ (by (repeat' (first | (with_reducible exact Below.refl _ _) | (with_reducible refine Below.next ?_ (by with_reducible assumption)) | (with_reducible refine Below.drew ?_) | (with_reducible refine Below.laid ?_ _) | (with_reducible refine Below.setCell ?_ ?_ _) | (with_reducible refine size_of ?_) | (with_reducible refine Nat.le_succ_of_le ?_) | go_size)))).mono ?_; rintro e w' ⟨rfl, rfl⟩)
        | (go_at_call 45; refine (HTC.out _ (by (repeat' (first | (with_reducible exact Below.refl _ _) | (with_reducible refine Below.next ?_ (by with_reducible assumption)) | (with_reducible refine Below.drew ?_) | (with_reducible refine Below.laid ?_ _) | (with_reducible refine Below.setCell ?_ ?_ _) | (with_reducible refine size_of ?_) | (with_reducible refine Nat.le_succ_of_le ?_) | go_size)))).mono ?_; rintro e w' ⟨rfl, rfl⟩)
        | (go_at_call 47; refine (term_Print _ t _ (HI.out.keep (by (repeat' (first | (with_reducible exact Below.refl _ _) | (with_reducible refine Below.next ?_ (by with_reducible assumption)) | (with_reducible refine Below.drew ?_) | (with_reducible refine Below.laid ?_ _) | (with_reducible refine Below.setCell ?_ ?_ _) | (with_reducible refine size_of ?_) | (with_reducible refine Nat.le_succ_of_le ?_) | go_size))))).mono ?_; rintro e w1 ⟨rfl, hb1⟩; rw [HP.out]; obtain ⟨k0, k1, k2, k3⟩ := (BW.keep (w' := w1) (by (repeat' (first | (with_reducible exact Below.refl _ _) | (with_reducible refine Below.next ?_ (by with_reducible assumption)) | (with_reducible refine Below.drew ?_) | (with_reducible refine Below.laid ?_ _) | (with_reducible refine Below.setCell ?_ ?_ _) | (with_reducible refine size_of ?_) | (with_reducible refine Nat.le_succ_of_le ?_) | go_size)))).cells4)
        | (go_at_call 23; refine (term_Value _ t _ _ _ _ _ (HI.out.keep (by (repeat' (first | (with_reducible exact Below.refl _ _) | (with_reducible refine Below.next ?_ (by with_reducible assumption)) | (with_reducible refine Below.drew ?_) | (with_reducible refine Below.laid ?_ _) | (with_reducible refine Below.setCell ?_ ?_ _) | (with_reducible refine size_of ?_) | (with_reducible refine Nat.le_succ_of_le ?_) | go_size))))).mono ?_; rintro e w1 ⟨rfl, hb1⟩; rw [HV.out, HVC.out])
        | (go_at_call 19; refine (vennsame_Error _ _ _ (HET.keep (by (repeat' (first | (with_reducible exact Below.refl _ _) | (with_reducible refine Below.next ?_ (by with_reducible assumption)) | (with_reducible refine Below.drew ?_) | (with_reducible refine Below.laid ?_ _) | (with_reducible refine Below.setCell ?_ ?_ _) | (with_reducible refine size_of ?_) | (with_reducible refine Nat.le_succ_of_le ?_) | go_size))))).mono ?_; rintro e w1 ⟨rfl, hb1⟩; obtain ⟨k0, k1, k2, k3⟩ := (BW.keep (w' := w1) (by (repeat' (first | (with_reducible exact Below.refl _ _) | (with_reducible refine Below.next ?_ (by with_reducible assumption)) | (with_reducible refine Below.drew ?_) | (with_reducible refine Below.laid ?_ _) | (with_reducible refine Below.setCell ?_ ?_ _) | (with_reducible refine size_of ?_) | (with_reducible refine Nat.le_succ_of_le ?_) | go_size)))).cells4))
    refine (ref_ReadTerm s _ hs).mono ?_
    rintro e w9 ⟨l0, bb, rfl, hb9, hcase⟩
    have hbw9 : Below w.heap.size w w9 := by (repeat' (first | (with_reducible exact Below.refl _ _) | (with_reducible refine Below.next ?_ (by with_reducible assumption)) | (with_reducible refine Below.drew ?_) | (with_reducible refine Below.laid ?_ _) | (with_reducible refine Below.setCell ?_ ?_ _) | (with_reducible refine size_of ?_) | (with_reducible refine Nat.le_succ_of_le ?_) | go_size))
    clear hb9
    rcases hcase with ⟨l, hl, rfl, hI⟩ | ⟨hl, rfl, rfl⟩
    · obtain ⟨A, cc, rfl, hrr⟩ := hI
      have HL := Lib.hid (show IsInts w9 (.slice A l.length cc) l from ⟨A, cc, rfl, hrr⟩)
      clear hrr
      by_cases hk2 : Venn.termChk l = 0
      · have HK2 := Lib.hid hk2
        have HPC := Lib.hid (show parseChk s.data.toList = 0 by rw [parseChk, hl]; exact hk2)
        have HPL := Lib.hid (show parseL s.data.toList = l by rw [parseL, hl]; exact if_pos hk2)
        clear hl hk2
        go_wp2_with (first
          | (go_at_call 38; refine (ref_Term _ l _ (HL.out.keep (by (repeat' (first | (with_reducible exact Below.refl _ _) | (with_reducible refine Below.next ?_ (by with_reducible assumption)) | (with_reducible refine Below.drew ?_) | (with_reducible refine Below.laid ?_ _) | (with_reducible refine Below.setCell ?_ ?_ _) | (with_reducible refine size_of ?_) | (with_reducible refine Nat.le_succ_of_le ?_) | go_size))))).mono ?_; rintro e w' ⟨rfl, rfl⟩; rw [HK2.out])
          | (go_at_call 24; refine (term_Parse s _ hs).mono ?_; rintro e w10 ⟨y, rfl, hb10, hy⟩; rw [HPC.out]; rw [HPL.out] at hy; obtain ⟨YA, yc, rfl⟩ := hy.slice)
          | (go_at_call 19; refine (vennsame_Error _ _ _ (HET.keep (by (repeat' (first | (with_reducible exact Below.refl _ _) | (with_reducible refine Below.next ?_ (by with_reducible assumption)) | (with_reducible refine Below.drew ?_) | (with_reducible refine Below.laid ?_ _) | (with_reducible refine Below.setCell ?_ ?_ _) | (with_reducible refine size_of ?_) | (with_reducible refine Nat.le_succ_of_le ?_) | go_size))))).mono ?_; rintro e w1 ⟨rfl, hb1⟩)
          | (go_at_call 44; refine (same_Ints _ _ l l _ (hy.keep (by (repeat' (first | (with_reducible exact Below.refl _ _) | (with_reducible refine Below.next ?_ (by with_reducible assumption)) | (with_reducible refine Below.drew ?_) | (with_reducible refine Below.laid ?_ _) | (with_reducible refine Below.setCell ?_ ?_ _) | (with_reducible refine size_of ?_) | (with_reducible refine Nat.le_succ_of_le ?_) | go_size)))) (HL.out.keep (by (repeat' (first | (with_reducible exact Below.refl _ _) | (with_reducible refine Below.next ?_ (by with_reducible assumption)) | (with_reducible refine Below.drew ?_) | (with_reducible refine Below.laid ?_ _) | (with_reducible refine Below.setCell ?_ ?_ _) | (with_reducible refine size_of ?_) | (with_reducible refine Nat.le_succ_of_le ?_) | go_size))))).mono ?_; rintro e w11 ⟨rfl, hb11⟩))
        go_ret
        exact ⟨by simp, by (repeat' (first | (with_reducible exact Below.refl _ _) | (with_reducible refine Below.next ?_ (by with_reducible assumption)) | (with_reducible refine Below.drew ?_) | (with_reducible refine Below.laid ?_ _) | (with_reducible refine Below.setCell ?_ ?_ _) | (with_reducible refine size_of ?_) | (with_reducible refine Nat.le_succ_of_le ?_) | go_size))⟩
      · have HPC := Lib.hid (show parseChk s.data.toList = Venn.termChk l by rw [parseChk, hl])
        have HPL := Lib.hid (show parseL s.data.toList = [] by rw [parseL, hl]; exact if_neg hk2)
        have hk3 : (Venn.termChk l != 0) = true := by simpa using hk2
        have HT2 := Lib.hid (fun W hW => ref_Term (.slice A l.length cc) l W (HL.out.keep hW))
        clear hl hk2
        generalize Venn.termChk l = K2 at HPC hk3 HT2
        go_wp2_with (first
          | (go_at_call 38; refine (HT2.out _ (by (repeat' (first | (with_reducible exact Below.refl _ _) | (with_reducible refine Below.next ?_ (by with_reducible assumption)) | (with_reducible refine Below.drew ?_) | (with_reducible refine Below.laid ?_ _) | (with_reducible refine Below.setCell ?_ ?_ _) | (with_reducible refine size_of ?_) | (with_reducible refine Nat.le_succ_of_le ?_) | go_size)))).mono ?_; rintro e w' ⟨rfl, rfl⟩)
          | (go_at_call 24; refine (term_Parse s _ hs).mono ?_; rintro e w10 ⟨y, rfl, hb10, hy⟩; rw [HPC.out]; rw [HPL.out] at hy; obtain ⟨YA, yc, rfl⟩ := hy.slice)
          | (go_at_call 19; refine (vennsame_Error _ _ _ (HET.keep (by (repeat' (first | (with_reducible exact Below.refl _ _) | (with_reducible refine Below.next ?_ (by with_reducible assumption)) | (with_reducible refine Below.drew ?_) | (with_reducible refine Below.laid ?_ _) | (with_reducible refine Below.setCell ?_ ?_ _) | (with_reducible refine size_of ?_) | (with_reducible refine Nat.le_succ_of_le ?_) | go_size))))).mono ?_; rintro e w1 ⟨rfl, hb1⟩)
          | (go_at_call 44; refine (same_Ints _ _ [] [] _ (hy.keep (by (repeat' (first | (with_reducible exact Below.refl _ _) | (with_reducible refine Below.next ?_ (by with_reducible assumption)) | (with_reducible refine Below.drew ?_) | (with_reducible refine Below.laid ?_ _) | (with_reducible refine Below.setCell ?_ ?_ _) | (with_reducible refine size_of ?_) | (with_reducible refine Nat.le_succ_of_le ?_) | go_size)))) (IsIntsNil _)).mono ?_; rintro e w11 ⟨rfl, hb11⟩))
        go_ret
        exact ⟨by simp, by (repeat' (first | (with_reducible exact Below.refl _ _) | (with_reducible refine Below.next ?_ (by with_reducible assumption)) | (with_reducible refine Below.drew ?_) | (with_reducible refine Below.laid ?_ _) | (with_reducible refine Below.setCell ?_ ?_ _) | (with_reducible refine size_of ?_) | (with_reducible refine Nat.le_succ_of_le ?_) | go_size))⟩
    · have HPC := Lib.hid (show parseChk s.data.toList = 2 by rw [parseChk, hl])
      have HPL := Lib.hid (show parseL s.data.toList = [] by rw [parseL, hl])
      clear hl
      go_wp2_with (first
        | (go_at_call 24; refine (term_Parse s _ hs).mono ?_; rintro e w10 ⟨y, rfl, hb10, hy⟩; rw [HPC.out]; rw [HPL.out] at hy; obtain ⟨YA, yc, rfl⟩ := hy.slice)
        | (go_at_call 19; refine (vennsame_Error _ _ _ (HET.keep (by (repeat' (first | (with_reducible exact Below.refl _ _) | (with_reducible refine Below.next ?_ (by with_reducible assumption)) | (with_reducible refine Below.drew ?_) | (with_reducible refine Below.laid ?_ _) | (with_reducible refine Below.setCell ?_ ?_ _) | (with_reducible refine size_of ?_) | (with_reducible refine Nat.le_succ_of_le ?_) | go_size))))).mono ?_; rintro e w1 ⟨rfl, hb1⟩)
        | (go_at_call 44; refine (same_Ints _ _ [] [] _ (hy.keep (by (repeat' (first | (with_reducible exact Below.refl _ _) | (with_reducible refine Below.next ?_ (by with_reducible assumption)) | (with_reducible refine Below.drew ?_) | (with_reducible refine Below.laid ?_ _) | (with_reducible refine Below.setCell ?_ ?_ _) | (with_reducible refine size_of ?_) | (with_reducible refine Nat.le_succ_of_le ?_) | go_size)))) (IsIntsNil _)).mono ?_; rintro e w11 ⟨rfl, hb11⟩))
      go_ret
      exact ⟨by simp, by (repeat' (first | (with_reducible exact Below.refl _ _) | (with_reducible refine Below.next ?_ (by with_reducible assumption)) | (with_reducible refine Below.drew ?_) | (with_reducible refine Below.laid ?_ _) | (with_reducible refine Below.setCell ?_ ?_ _) | (with_reducible refine size_of ?_) | (with_reducible refine Nat.le_succ_of_le ?_) | go_size))⟩
end Go.Proofs.YtpcdiilgomfpbaaDoor
