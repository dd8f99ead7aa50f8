/-
  THE WALK of vennlaw1.TermBack.
-/
import Derived.Test.YteikjcboehilpaaBackPlain
import Derived.Test.YteikjcboehilpaaValue
import Derived.Test.YteikjcboehilpaaSame
import Derived.Test.YteikjcboehilpaaVennM
namespace Go.Proofs.Yteikjcboehilpaa
open Go.RowKit

theorem fact_parse : parseChk [65, 66, 126, 42] = 0 ∧ parseL [65, 66, 126, 42] = [0, 1, 8, 6] := by decide +kernel
theorem str_back (s : ByteArray) : (⟨s.data.toList.toArray⟩ : ByteArray) = s := by cases s; simp

theorem valueChk_term {x : List Int} {W : Venn.World} (h : Venn.valueChk x W = 0) : Venn.termChk x = 0 := by
  unfold Venn.valueChk at h
  split at h
  · assumption
  · contradiction
theorem main_plain (t r : List Int) (th a b c what : Int) (h1 : Venn.valueChk t ⟨th, a, b, c⟩ = 0) (h2 : Venn.valueChk r ⟨th, a, b, c⟩ = 0) (hl : t.length + r.length ≤ 11) (hw : 5 ≤ what ∧ what ≤ 7) :
    Venn.valueV (t ++ r ++ [what]) ⟨th, a, b, c⟩ = Venn.setOf what th (Venn.valueV t ⟨th, a, b, c⟩) (Venn.valueV r ⟨th, a, b, c⟩) ∧ errV (Venn.valueChk (t ++ r ++ [what]) ⟨th, a, b, c⟩) = .nilIface ∧ True ∧
    Venn.setChk th (Venn.valueV t ⟨th, a, b, c⟩) = 0 ∧ Venn.setChk th (Venn.valueV r ⟨th, a, b, c⟩) = 0 := by
  have p : ∀ {x : List Int}, Venn.valueChk x ⟨th, a, b, c⟩ = 0 → Venn.termChk x = 0 ∧ Venn.worldChk ⟨th, a, b, c⟩ = 0 := by
    intro x h
    unfold Venn.valueChk at h
    split at h
    · rename_i hx; exact ⟨hx, h⟩
    · contradiction
  obtain ⟨t1, w1⟩ := p h1
  obtain ⟨r1, _⟩ := p h2
  have hb := Venn.termChk_both t1 r1 hl hw
  have hc : Venn.valueChk (t ++ r ++ [what]) ⟨th, a, b, c⟩ = 0 := by rw [Venn.valueChk, if_pos hb]; exact w1
  refine ⟨?_, errV_zero hc, trivial, ?_, ?_⟩
  · rw [Venn.valueV, Venn.valueV, Venn.valueV, if_pos hc, if_pos h1, if_pos h2]
    exact Venn.termSet_both t1 r1 hw
  · rw [Venn.valueV, if_pos h1]; exact Venn.termSet_right w1 t
  · rw [Venn.valueV, if_pos h2]; exact Venn.termSet_right w1 r
set_option maxHeartbeats 8000000 in
set_option maxRecDepth 100000 in
theorem termBack_walk (v u : Value) (t r : List Int) (s : ByteArray) (th a b c what : Int) (w : World) (ht : IsInts w v t) (hr : IsInts w u r) (hs : s.size < 1099511627776) :
    Calls Try.prog 7 #[v, .string s, .agg #[.int .i64 th, .int .i64 a, .int .i64 b, .int .i64 c], u, .int .i64 what] w (Keeps (.bool true) w) := by
  obtain ⟨tA, tc, rfl, htr, htl, htc⟩ := ht
  have HT : IsInts w (.slice tA t.length tc) t := ⟨tA, tc, rfl, htr, htl, htc⟩
  obtain ⟨rA, rc, rfl, hrr, hrl, hrc⟩ := hr
  have HRI : IsInts w (.slice rA r.length rc) r := ⟨rA, rc, rfl, hrr, hrl, hrc⟩
  have HTR := Lib.hid htr
  have HRR := Lib.hid hrr
  unfold maxLen at htc hrc
  clear htr hrr
  have HF1 := Lib.hid (show errV (parseChk (ByteArray.mk #[65, 66, 126, 42]).data.toList) = .nilIface by
    show errV (parseChk [65, 66, 126, 42]) = _
    rw [fact_parse.1]; rfl)
  have HF2 := Lib.hid (show parseL (ByteArray.mk #[65, 66, 126, 42]).data.toList = [0, 1, 8, 6] from fact_parse.2)
  go_enter Try.func7, Try.ntmps7
  go_wp2_with fail
  refine (term_Parse _ _ (by decide)).mono ?_
  rintro e w1 ⟨x1, rfl, hb1, hx1⟩
  rw [HF1.out]
  rw [HF2.out] at hx1
  obtain ⟨A1, c1, rfl, hr1, _, _⟩ := hx1
  obtain ⟨B1, e1, k0⟩ := hr1 0 (.int .i64 0) rfl
  obtain ⟨B1', e1', k2⟩ := hr1 2 (.int .i64 8) rfl
  obtain ⟨B1'', e1'', k3⟩ := hr1 3 (.int .i64 6) rfl
  subst e1
  cases e1'
  cases e1''
  have k0' : w1.cell? B1 = some (.int .i64 0) := by simpa [Addr.add] using k0
  have k2' : w1.cell? { block := B1.block, off := B1.off + 2 } = some (.int .i64 8) := by simpa [Addr.add] using k2
  have k3' : w1.cell? { block := B1.block, off := B1.off + 3 } = some (.int .i64 6) := by simpa [Addr.add] using k3
  have BW1 := (Blk.new w 41 #[.int .i64 th, .int .i64 a, .int .i64 b, .int .i64 c]).keep hb1
  have hbl1 : Below w.heap.size w w1 := by (repeat' (first | (with_reducible exact Below.refl _ _) | (with_reducible refine Below.next ?_ (by with_reducible assumption)) | (with_reducible refine Below.drew ?_) | (with_reducible refine Below.laid ?_ _) | (with_reducible refine Below.setCell ?_ ?_ _) | (with_reducible refine size_of ?_) | (with_reducible refine Nat.le_succ_of_le ?_) | go_size))
  clear hr1 HF1 HF2 k0 hb1
  by_cases hp : parseChk s.data.toList = 0
  · obtain ⟨hp1, hp2⟩ := text_parse hp
    have HP := Lib.hid (errV_zero hp)
    have HPV := Lib.hid (show printV (parseL s.data.toList) = .tuple #[.string s, .nilIface] by rw [printV, if_pos hp1, hp2, str_back])
    clear hp hp1 hp2
    go_wp2_with fail
    refine (term_Parse s _ hs).mono ?_
    rintro e w2 ⟨x2, rfl, hb2, hx2⟩
    rw [HP.out]
    go_wp2_with fail
    refine (term_Print _ _ _ hx2).mono ?_
    rintro e w3 ⟨rfl, hb3⟩
    rw [HPV.out]
    have BW3 := (BW1.keep hb2).keep hb3
    have hbl3 : Below w.heap.size w w3 := by (repeat' (first | (with_reducible exact Below.refl _ _) | (with_reducible refine Below.next ?_ (by with_reducible assumption)) | (with_reducible refine Below.drew ?_) | (with_reducible refine Below.laid ?_ _) | (with_reducible refine Below.setCell ?_ ?_ _) | (with_reducible refine size_of ?_) | (with_reducible refine Nat.le_succ_of_le ?_) | go_size))
    clear BW1 hbl1 k0' k2 k3 k2' k3' hx2 hb2 hb3
    by_cases htz : ¬ Venn.termChk t = 0
    · have HTP := Lib.hid (show printV t = .tuple #[.string ⟨#[]⟩, .iface 23 (.int .i64 (Venn.termChk t))] by rw [printV, if_neg htz, errV_ne htz])
      clear htz
      go_wp2_with fail
      refine (term_Print _ t _ (HT.keep (by (repeat' (first | (with_reducible exact Below.refl _ _) | (with_reducible refine Below.next ?_ (by with_reducible assumption)) | (with_reducible refine Below.drew ?_) | (with_reducible refine Below.laid ?_ _) | (with_reducible refine Below.setCell ?_ ?_ _) | (with_reducible refine size_of ?_) | (with_reducible refine Nat.le_succ_of_le ?_) | go_size))))).mono ?_
      rintro e w4 ⟨rfl, hb4⟩
      rw [HTP.out]
      go_wp2
      go_ret
      exact ⟨rfl, by (repeat' (first | (with_reducible exact Below.refl _ _) | (with_reducible refine Below.next ?_ (by with_reducible assumption)) | (with_reducible refine Below.drew ?_) | (with_reducible refine Below.laid ?_ _) | (with_reducible refine Below.setCell ?_ ?_ _) | (with_reducible refine size_of ?_) | (with_reducible refine Nat.le_succ_of_le ?_) | go_size))⟩
    replace htz := Decidable.not_not.1 htz
    have HTZ := Lib.hid htz
    have HTP := Lib.hid (show printV t = .tuple #[.string ⟨(textB t).toArray⟩, .nilIface] by rw [printV, if_pos htz])
    have HQ1 := Lib.hid (show errV (parseChk (ByteArray.mk (textB t).toArray).data.toList) = .nilIface by
      rw [show (ByteArray.mk (textB t).toArray).data.toList = textB t by simp, (parse_text htz).1]; rfl)
    have HQ2 := Lib.hid (show parseL (ByteArray.mk (textB t).toArray).data.toList = t by
      rw [show (ByteArray.mk (textB t).toArray).data.toList = textB t by simp, (parse_text htz).2])
    have hsz : (ByteArray.mk (textB t).toArray).size < 1099511627776 := by
      have h12 := (Venn.termChk_split htz).2.1
      show (textB t).toArray.size < _
      simp [textB]
      omega
    have HSZ := Lib.hid hsz
    have h12 := (Venn.termChk_split htz).2.1
    clear htz hsz
    go_wp2_with fail
    refine (term_Print _ t _ (HT.keep (by (repeat' (first | (with_reducible exact Below.refl _ _) | (with_reducible refine Below.next ?_ (by with_reducible assumption)) | (with_reducible refine Below.drew ?_) | (with_reducible refine Below.laid ?_ _) | (with_reducible refine Below.setCell ?_ ?_ _) | (with_reducible refine size_of ?_) | (with_reducible refine Nat.le_succ_of_le ?_) | go_size))))).mono ?_
    rintro e w4 ⟨rfl, hb4⟩
    rw [HTP.out]
    go_wp2_with fail
    refine (term_Parse _ _ HSZ.out).mono ?_
    rintro e w5 ⟨x5, rfl, hb5, hx5⟩
    rw [HQ1.out]
    rw [HQ2.out] at hx5
    have hbl5 : Below w.heap.size w w5 := by (repeat' (first | (with_reducible exact Below.refl _ _) | (with_reducible refine Below.next ?_ (by with_reducible assumption)) | (with_reducible refine Below.drew ?_) | (with_reducible refine Below.laid ?_ _) | (with_reducible refine Below.setCell ?_ ?_ _) | (with_reducible refine size_of ?_) | (with_reducible refine Nat.le_succ_of_le ?_) | go_size))
    have BW5 := (BW3.keep hb4).keep hb5
    obtain ⟨q0, q1, q2, q3⟩ : w5.cell? ⟨w.heap.size, 0, none⟩ = some (.int .i64 th) ∧ w5.cell? ⟨w.heap.size, 1, none⟩ = some (.int .i64 a) ∧ w5.cell? ⟨w.heap.size, 2, none⟩ = some (.int .i64 b) ∧ w5.cell? ⟨w.heap.size, 3, none⟩ = some (.int .i64 c) := ⟨BW5.cell 0, BW5.cell 1, BW5.cell 2, BW5.cell 3⟩
    clear BW3 hb4 hb5 hbl3
    go_wp2_with fail
    refine (same_Ints _ _ t t _ hx5 (HT.keep (by (repeat' (first | (with_reducible exact Below.refl _ _) | (with_reducible refine Below.next ?_ (by with_reducible assumption)) | (with_reducible refine Below.drew ?_) | (with_reducible refine Below.laid ?_ _) | (with_reducible refine Below.setCell ?_ ?_ _) | (with_reducible refine size_of ?_) | (with_reducible refine Nat.le_succ_of_le ?_) | go_size))))).mono ?_
    rintro e w6 ⟨rfl, hb6⟩
    rw [show (t == t) = true from beq_self_eq_true t]
    have hbl6 : Below w.heap.size w w6 := by (repeat' (first | (with_reducible exact Below.refl _ _) | (with_reducible refine Below.next ?_ (by with_reducible assumption)) | (with_reducible refine Below.drew ?_) | (with_reducible refine Below.laid ?_ _) | (with_reducible refine Below.setCell ?_ ?_ _) | (with_reducible refine size_of ?_) | (with_reducible refine Nat.le_succ_of_le ?_) | go_size))
    have BW6 := BW5.keep hb6
    obtain ⟨s0, s1, s2, s3⟩ : w6.cell? ⟨w.heap.size, 0, none⟩ = some (.int .i64 th) ∧ w6.cell? ⟨w.heap.size, 1, none⟩ = some (.int .i64 a) ∧ w6.cell? ⟨w.heap.size, 2, none⟩ = some (.int .i64 b) ∧ w6.cell? ⟨w.heap.size, 3, none⟩ = some (.int .i64 c) := ⟨BW6.cell 0, BW6.cell 1, BW6.cell 2, BW6.cell 3⟩
    clear BW5 hb6 hbl5 hx5 q0 q1 q2 q3
    go_wp2_with fail
    refine (term_Value _ t th a b c _ (HT.keep (by (repeat' (first | (with_reducible exact Below.refl _ _) | (with_reducible refine Below.next ?_ (by with_reducible assumption)) | (with_reducible refine Below.drew ?_) | (with_reducible refine Below.laid ?_ _) | (with_reducible refine Below.setCell ?_ ?_ _) | (with_reducible refine size_of ?_) | (with_reducible refine Nat.le_succ_of_le ?_) | go_size))))).mono ?_
    rintro e w7 ⟨rfl, hb7⟩
    have hbl7 : Below w.heap.size w w7 := by (repeat' (first | (with_reducible exact Below.refl _ _) | (with_reducible refine Below.next ?_ (by with_reducible assumption)) | (with_reducible refine Below.drew ?_) | (with_reducible refine Below.laid ?_ _) | (with_reducible refine Below.setCell ?_ ?_ _) | (with_reducible refine size_of ?_) | (with_reducible refine Nat.le_succ_of_le ?_) | go_size))
    have BW7 := BW6.keep hb7
    obtain ⟨q0, q1, q2, q3⟩ : w7.cell? ⟨w.heap.size, 0, none⟩ = some (.int .i64 th) ∧ w7.cell? ⟨w.heap.size, 1, none⟩ = some (.int .i64 a) ∧ w7.cell? ⟨w.heap.size, 2, none⟩ = some (.int .i64 b) ∧ w7.cell? ⟨w.heap.size, 3, none⟩ = some (.int .i64 c) := ⟨BW7.cell 0, BW7.cell 1, BW7.cell 2, BW7.cell 3⟩
    clear BW6 hb7 hbl6 s0 s1 s2 s3
    by_cases hv1 : ¬ Venn.valueChk t ⟨th, a, b, c⟩ = 0
    · rw [errV_ne hv1]
      go_wp2_with fail
      refine (term_Value _ r th a b c _ (HRI.keep (by (repeat' (first | (with_reducible exact Below.refl _ _) | (with_reducible refine Below.next ?_ (by with_reducible assumption)) | (with_reducible refine Below.drew ?_) | (with_reducible refine Below.laid ?_ _) | (with_reducible refine Below.setCell ?_ ?_ _) | (with_reducible refine size_of ?_) | (with_reducible refine Nat.le_succ_of_le ?_) | go_size))))).mono ?_
      rintro e w8 ⟨rfl, hb8⟩
      go_wp2
      go_ret
      exact ⟨rfl, by (repeat' (first | (with_reducible exact Below.refl _ _) | (with_reducible refine Below.next ?_ (by with_reducible assumption)) | (with_reducible refine Below.drew ?_) | (with_reducible refine Below.laid ?_ _) | (with_reducible refine Below.setCell ?_ ?_ _) | (with_reducible refine size_of ?_) | (with_reducible refine Nat.le_succ_of_le ?_) | go_size))⟩
    replace hv1 := Decidable.not_not.1 hv1
    have HV1 := Lib.hid hv1
    rw [errV_zero hv1]
    clear hv1
    go_wp2_with fail
    refine (term_Value _ r th a b c _ (HRI.keep (by (repeat' (first | (with_reducible exact Below.refl _ _) | (with_reducible refine Below.next ?_ (by with_reducible assumption)) | (with_reducible refine Below.drew ?_) | (with_reducible refine Below.laid ?_ _) | (with_reducible refine Below.setCell ?_ ?_ _) | (with_reducible refine size_of ?_) | (with_reducible refine Nat.le_succ_of_le ?_) | go_size))))).mono ?_
    rintro e w8 ⟨rfl, hb8⟩
    have hbl8 : Below w.heap.size w w8 := by (repeat' (first | (with_reducible exact Below.refl _ _) | (with_reducible refine Below.next ?_ (by with_reducible assumption)) | (with_reducible refine Below.drew ?_) | (with_reducible refine Below.laid ?_ _) | (with_reducible refine Below.setCell ?_ ?_ _) | (with_reducible refine size_of ?_) | (with_reducible refine Nat.le_succ_of_le ?_) | go_size))
    have BW8 := BW7.keep hb8
    clear q0 q1 q2 q3 hbl7 BW7 hb8
    by_cases hv2 : ¬ Venn.valueChk r ⟨th, a, b, c⟩ = 0
    · rw [errV_ne hv2]
      clear hv2
      go_wp2
      go_ret
      exact ⟨rfl, by (repeat' (first | (with_reducible exact Below.refl _ _) | (with_reducible refine Below.next ?_ (by with_reducible assumption)) | (with_reducible refine Below.drew ?_) | (with_reducible refine Below.laid ?_ _) | (with_reducible refine Below.setCell ?_ ?_ _) | (with_reducible refine size_of ?_) | (with_reducible refine Nat.le_succ_of_le ?_) | go_size))⟩
    replace hv2 := Decidable.not_not.1 hv2
    have HV2 := Lib.hid hv2
    rw [errV_zero hv2]
    clear hv2
    have hr12 := (Venn.termChk_split (valueChk_term HV2.out)).2.1
    have hwr : IntKind.i64.wrap ((t.length : Int) + (r.length : Int)) = (t.length : Int) + (r.length : Int) := IntWalk.i64_in _ (by omega)
    rcases (by omega : (11 : Int) < (t.length : Int) + (r.length : Int) ∨ (¬ (11 : Int) < (t.length : Int) + (r.length : Int) ∧ what < 5) ∨ (¬ (11 : Int) < (t.length : Int) + (r.length : Int) ∧ ¬ what < 5 ∧ 7 < what) ∨ (¬ (11 : Int) < (t.length : Int) + (r.length : Int) ∧ ¬ what < 5 ∧ ¬ 7 < what)) with g1 | ⟨g1, g2⟩ | ⟨g1, g2, g3⟩ | ⟨g1, g2, g3⟩
    · go_wp2
      go_ret
      exact ⟨rfl, by (repeat' (first | (with_reducible exact Below.refl _ _) | (with_reducible refine Below.next ?_ (by with_reducible assumption)) | (with_reducible refine Below.drew ?_) | (with_reducible refine Below.laid ?_ _) | (with_reducible refine Below.setCell ?_ ?_ _) | (with_reducible refine size_of ?_) | (with_reducible refine Nat.le_succ_of_le ?_) | go_size))⟩
    · go_wp2
      go_ret
      exact ⟨rfl, by (repeat' (first | (with_reducible exact Below.refl _ _) | (with_reducible refine Below.next ?_ (by with_reducible assumption)) | (with_reducible refine Below.drew ?_) | (with_reducible refine Below.laid ?_ _) | (with_reducible refine Below.setCell ?_ ?_ _) | (with_reducible refine size_of ?_) | (with_reducible refine Nat.le_succ_of_le ?_) | go_size))⟩
    · go_wp2
      go_ret
      exact ⟨rfl, by (repeat' (first | (with_reducible exact Below.refl _ _) | (with_reducible refine Below.next ?_ (by with_reducible assumption)) | (with_reducible refine Below.drew ?_) | (with_reducible refine Below.laid ?_ _) | (with_reducible refine Below.setCell ?_ ?_ _) | (with_reducible refine size_of ?_) | (with_reducible refine Nat.le_succ_of_le ?_) | go_size))⟩
    have HMAIN := Lib.hid (main_plain t r th a b c what HV1.out HV2.out (by omega) (by omega))
    go_wp2_with (first
      | (at_builtin; refine wpList_appR _ rfl _ _ rfl w8.heap.size (.slice none 0 0) 0 [] rfl (World.ownsRow_nil _ _ _ _) tA tc t rfl (HTR.out.keep (by (repeat' (first | (with_reducible exact Below.refl _ _) | (with_reducible refine Below.next ?_ (by with_reducible assumption)) | (with_reducible refine Below.drew ?_) | (with_reducible refine Below.laid ?_ _) | (with_reducible refine Below.setCell ?_ ?_ _) | (with_reducible refine size_of ?_) | (with_reducible refine Nat.le_succ_of_le ?_) | go_size)))) (by omega) (Nat.le_refl _) ?_; intro v9 w9 hown9 hg9; rw [Nat.zero_add, List.nil_append] at hown9; have hb9 : Below w8.heap.size w8 w9 := (Below.refl _ _).grown hg9 (Nat.le_refl _) (fun g h => by cases h))
      | (at_builtin; refine wpList_appR _ rfl _ _ rfl w8.heap.size v9 t.length _ rfl hown9 rA rc r rfl (HRR.out.keep (by (repeat' (first | (with_reducible exact Below.refl _ _) | (with_reducible refine Below.next ?_ (by with_reducible assumption)) | (with_reducible refine Below.drew ?_) | (with_reducible refine Below.laid ?_ _) | (with_reducible refine Below.setCell ?_ ?_ _) | (with_reducible refine size_of ?_) | (with_reducible refine Nat.le_succ_of_le ?_) | go_size)))) (by omega) hb9.size ?_; intro v10 w10 hown10 hg10; have hb10 : Below w8.heap.size w8 w10 := hb9.grown hg10 hb9.size (fun g h => (hown9.lt g h).1))
      | (at_builtin; refine wpList_app1 _ rfl _ _ rfl w8.heap.size v10 (t.length + r.length) _ rfl (hown10.alloc _) w10.heap.size 1 what rfl ?hy1 (by omega) (by have := hb10.size; simp; omega) ?_))
    try case hy1 => simp
    intro v11 w11 hown11 hg11
    have hb11 : Below w8.heap.size w8 w11 := (hb10.alloc hb10.size _).grown hg11 (by have := hb10.size; simp; omega) (fun g h => (hown10.lt g h).1)
    have hI : IsInts w11 v11 (t ++ r ++ [what]) := IsInts.of_own (base := w8.heap.size) (e := 3) (n := t.length + r.length + 1) (by simpa using hown11)
    have BW11 := BW8.keep hb11
    have hbl11 : Below w.heap.size w w11 := Below.next hbl8 hb11
    obtain ⟨q0, q1, q2, q3⟩ : w11.cell? ⟨w.heap.size, 0, none⟩ = some (.int .i64 th) ∧ w11.cell? ⟨w.heap.size, 1, none⟩ = some (.int .i64 a) ∧ w11.cell? ⟨w.heap.size, 2, none⟩ = some (.int .i64 b) ∧ w11.cell? ⟨w.heap.size, 3, none⟩ = some (.int .i64 c) := ⟨BW11.cell 0, BW11.cell 1, BW11.cell 2, BW11.cell 3⟩
    clear hown9 hown10 hown11 hg9 hg10 hg11 hb9 hb10 hb11 BW8 hbl8
    obtain ⟨m1, m2, m3, m4, m5⟩ := HMAIN.out
    have M1 := Lib.hid m1; have M2 := Lib.hid m2; have M3 := Lib.hid m3
    clear m1 m2 m3 HMAIN
    go_wp2_with fail
    refine (term_Value _ (t ++ r ++ [what]) th a b c _ hI).mono ?_
    rintro e w12 ⟨rfl, hb12⟩
    rw [M1.out, M2.out]
    have BW12 := BW11.keep hb12
    have z0 := BW12.cell 0
    simp at z0
    have hbl12 : Below w.heap.size w w12 := by (repeat' (first | (with_reducible exact Below.refl _ _) | (with_reducible refine Below.next ?_ (by with_reducible assumption)) | (with_reducible refine Below.drew ?_) | (with_reducible refine Below.laid ?_ _) | (with_reducible refine Below.setCell ?_ ?_ _) | (with_reducible refine size_of ?_) | (with_reducible refine Nat.le_succ_of_le ?_) | go_size))
    go_wp2_with fail
    refine (sets_Do_ok what th _ _ _ m4 m5 (by omega) (by omega)).mono ?_
    rintro e w13 ⟨rfl, hb13⟩
    go_wp2
    go_ret
    exact ⟨rfl, by (repeat' (first | (with_reducible exact Below.refl _ _) | (with_reducible refine Below.next ?_ (by with_reducible assumption)) | (with_reducible refine Below.drew ?_) | (with_reducible refine Below.laid ?_ _) | (with_reducible refine Below.setCell ?_ ?_ _) | (with_reducible refine size_of ?_) | (with_reducible refine Nat.le_succ_of_le ?_) | go_size))⟩
  · have HP := Lib.hid (errV_ne hp)
    clear hp
    go_wp2_with fail
    refine (term_Parse s _ hs).mono ?_
    rintro e w3 ⟨x2, rfl, hb2, hx2⟩
    rw [HP.out]
    have BW3 := BW1.keep hb2
    have hbl3 : Below w.heap.size w w3 := by (repeat' (first | (with_reducible exact Below.refl _ _) | (with_reducible refine Below.next ?_ (by with_reducible assumption)) | (with_reducible refine Below.drew ?_) | (with_reducible refine Below.laid ?_ _) | (with_reducible refine Below.setCell ?_ ?_ _) | (with_reducible refine size_of ?_) | (with_reducible refine Nat.le_succ_of_le ?_) | go_size))
    clear BW1 hbl1 k0' k2 k3 k2' k3' hx2 hb2
    by_cases htz : ¬ Venn.termChk t = 0
    · have HTP := Lib.hid (show printV t = .tuple #[.string ⟨#[]⟩, .iface 23 (.int .i64 (Venn.termChk t))] by rw [printV, if_neg htz, errV_ne htz])
      clear htz
      go_wp2_with fail
      refine (term_Print _ t _ (HT.keep (by (repeat' (first | (with_reducible exact Below.refl _ _) | (with_reducible refine Below.next ?_ (by with_reducible assumption)) | (with_reducible refine Below.drew ?_) | (with_reducible refine Below.laid ?_ _) | (with_reducible refine Below.setCell ?_ ?_ _) | (with_reducible refine size_of ?_) | (with_reducible refine Nat.le_succ_of_le ?_) | go_size))))).mono ?_
      rintro e w4 ⟨rfl, hb4⟩
      rw [HTP.out]
      go_wp2
      go_ret
      exact ⟨rfl, by (repeat' (first | (with_reducible exact Below.refl _ _) | (with_reducible refine Below.next ?_ (by with_reducible assumption)) | (with_reducible refine Below.drew ?_) | (with_reducible refine Below.laid ?_ _) | (with_reducible refine Below.setCell ?_ ?_ _) | (with_reducible refine size_of ?_) | (with_reducible refine Nat.le_succ_of_le ?_) | go_size))⟩
    replace htz := Decidable.not_not.1 htz
    have HTZ := Lib.hid htz
    have HTP := Lib.hid (show printV t = .tuple #[.string ⟨(textB t).toArray⟩, .nilIface] by rw [printV, if_pos htz])
    have HQ1 := Lib.hid (show errV (parseChk (ByteArray.mk (textB t).toArray).data.toList) = .nilIface by
      rw [show (ByteArray.mk (textB t).toArray).data.toList = textB t by simp, (parse_text htz).1]; rfl)
    have HQ2 := Lib.hid (show parseL (ByteArray.mk (textB t).toArray).data.toList = t by
      rw [show (ByteArray.mk (textB t).toArray).data.toList = textB t by simp, (parse_text htz).2])
    have hsz : (ByteArray.mk (textB t).toArray).size < 1099511627776 := by
      have h12 := (Venn.termChk_split htz).2.1
      show (textB t).toArray.size < _
      simp [textB]
      omega
    have HSZ := Lib.hid hsz
    have h12 := (Venn.termChk_split htz).2.1
    clear htz hsz
    go_wp2_with fail
    refine (term_Print _ t _ (HT.keep (by (repeat' (first | (with_reducible exact Below.refl _ _) | (with_reducible refine Below.next ?_ (by with_reducible assumption)) | (with_reducible refine Below.drew ?_) | (with_reducible refine Below.laid ?_ _) | (with_reducible refine Below.setCell ?_ ?_ _) | (with_reducible refine size_of ?_) | (with_reducible refine Nat.le_succ_of_le ?_) | go_size))))).mono ?_
    rintro e w4 ⟨rfl, hb4⟩
    rw [HTP.out]
    go_wp2_with fail
    refine (term_Parse _ _ HSZ.out).mono ?_
    rintro e w5 ⟨x5, rfl, hb5, hx5⟩
    rw [HQ1.out]
    rw [HQ2.out] at hx5
    have hbl5 : Below w.heap.size w w5 := by (repeat' (first | (with_reducible exact Below.refl _ _) | (with_reducible refine Below.next ?_ (by with_reducible assumption)) | (with_reducible refine Below.drew ?_) | (with_reducible refine Below.laid ?_ _) | (with_reducible refine Below.setCell ?_ ?_ _) | (with_reducible refine size_of ?_) | (with_reducible refine Nat.le_succ_of_le ?_) | go_size))
    have BW5 := (BW3.keep hb4).keep hb5
    obtain ⟨q0, q1, q2, q3⟩ : w5.cell? ⟨w.heap.size, 0, none⟩ = some (.int .i64 th) ∧ w5.cell? ⟨w.heap.size, 1, none⟩ = some (.int .i64 a) ∧ w5.cell? ⟨w.heap.size, 2, none⟩ = some (.int .i64 b) ∧ w5.cell? ⟨w.heap.size, 3, none⟩ = some (.int .i64 c) := ⟨BW5.cell 0, BW5.cell 1, BW5.cell 2, BW5.cell 3⟩
    clear BW3 hb4 hb5 hbl3
    go_wp2_with fail
    refine (same_Ints _ _ t t _ hx5 (HT.keep (by (repeat' (first | (with_reducible exact Below.refl _ _) | (with_reducible refine Below.next ?_ (by with_reducible assumption)) | (with_reducible refine Below.drew ?_) | (with_reducible refine Below.laid ?_ _) | (with_reducible refine Below.setCell ?_ ?_ _) | (with_reducible refine size_of ?_) | (with_reducible refine Nat.le_succ_of_le ?_) | go_size))))).mono ?_
    rintro e w6 ⟨rfl, hb6⟩
    rw [show (t == t) = true from beq_self_eq_true t]
    have hbl6 : Below w.heap.size w w6 := by (repeat' (first | (with_reducible exact Below.refl _ _) | (with_reducible refine Below.next ?_ (by with_reducible assumption)) | (with_reducible refine Below.drew ?_) | (with_reducible refine Below.laid ?_ _) | (with_reducible refine Below.setCell ?_ ?_ _) | (with_reducible refine size_of ?_) | (with_reducible refine Nat.le_succ_of_le ?_) | go_size))
    have BW6 := BW5.keep hb6
    obtain ⟨s0, s1, s2, s3⟩ : w6.cell? ⟨w.heap.size, 0, none⟩ = some (.int .i64 th) ∧ w6.cell? ⟨w.heap.size, 1, none⟩ = some (.int .i64 a) ∧ w6.cell? ⟨w.heap.size, 2, none⟩ = some (.int .i64 b) ∧ w6.cell? ⟨w.heap.size, 3, none⟩ = some (.int .i64 c) := ⟨BW6.cell 0, BW6.cell 1, BW6.cell 2, BW6.cell 3⟩
    clear BW5 hb6 hbl5 hx5 q0 q1 q2 q3
    go_wp2_with fail
    refine (term_Value _ t th a b c _ (HT.keep (by (repeat' (first | (with_reducible exact Below.refl _ _) | (with_reducible refine Below.next ?_ (by with_reducible assumption)) | (with_reducible refine Below.drew ?_) | (with_reducible refine Below.laid ?_ _) | (with_reducible refine Below.setCell ?_ ?_ _) | (with_reducible refine size_of ?_) | (with_reducible refine Nat.le_succ_of_le ?_) | go_size))))).mono ?_
    rintro e w7 ⟨rfl, hb7⟩
    have hbl7 : Below w.heap.size w w7 := by (repeat' (first | (with_reducible exact Below.refl _ _) | (with_reducible refine Below.next ?_ (by with_reducible assumption)) | (with_reducible refine Below.drew ?_) | (with_reducible refine Below.laid ?_ _) | (with_reducible refine Below.setCell ?_ ?_ _) | (with_reducible refine size_of ?_) | (with_reducible refine Nat.le_succ_of_le ?_) | go_size))
    have BW7 := BW6.keep hb7
    obtain ⟨q0, q1, q2, q3⟩ : w7.cell? ⟨w.heap.size, 0, none⟩ = some (.int .i64 th) ∧ w7.cell? ⟨w.heap.size, 1, none⟩ = some (.int .i64 a) ∧ w7.cell? ⟨w.heap.size, 2, none⟩ = some (.int .i64 b) ∧ w7.cell? ⟨w.heap.size, 3, none⟩ = some (.int .i64 c) := ⟨BW7.cell 0, BW7.cell 1, BW7.cell 2, BW7.cell 3⟩
    clear BW6 hb7 hbl6 s0 s1 s2 s3
    by_cases hv1 : ¬ Venn.valueChk t ⟨th, a, b, c⟩ = 0
    · rw [errV_ne hv1]
      go_wp2_with fail
      refine (term_Value _ r th a b c _ (HRI.keep (by (repeat' (first | (with_reducible exact Below.refl _ _) | (with_reducible refine Below.next ?_ (by with_reducible assumption)) | (with_reducible refine Below.drew ?_) | (with_reducible refine Below.laid ?_ _) | (with_reducible refine Below.setCell ?_ ?_ _) | (with_reducible refine size_of ?_) | (with_reducible refine Nat.le_succ_of_le ?_) | go_size))))).mono ?_
      rintro e w8 ⟨rfl, hb8⟩
      go_wp2
      go_ret
      exact ⟨rfl, by (repeat' (first | (with_reducible exact Below.refl _ _) | (with_reducible refine Below.next ?_ (by with_reducible assumption)) | (with_reducible refine Below.drew ?_) | (with_reducible refine Below.laid ?_ _) | (with_reducible refine Below.setCell ?_ ?_ _) | (with_reducible refine size_of ?_) | (with_reducible refine Nat.le_succ_of_le ?_) | go_size))⟩
    replace hv1 := Decidable.not_not.1 hv1
    have HV1 := Lib.hid hv1
    rw [errV_zero hv1]
    clear hv1
    go_wp2_with fail
    refine (term_Value _ r th a b c _ (HRI.keep (by (repeat' (first | (with_reducible exact Below.refl _ _) | (with_reducible refine Below.next ?_ (by with_reducible assumption)) | (with_reducible refine Below.drew ?_) | (with_reducible refine Below.laid ?_ _) | (with_reducible refine Below.setCell ?_ ?_ _) | (with_reducible refine size_of ?_) | (with_reducible refine Nat.le_succ_of_le ?_) | go_size))))).mono ?_
    rintro e w8 ⟨rfl, hb8⟩
    have hbl8 : Below w.heap.size w w8 := by (repeat' (first | (with_reducible exact Below.refl _ _) | (with_reducible refine Below.next ?_ (by with_reducible assumption)) | (with_reducible refine Below.drew ?_) | (with_reducible refine Below.laid ?_ _) | (with_reducible refine Below.setCell ?_ ?_ _) | (with_reducible refine size_of ?_) | (with_reducible refine Nat.le_succ_of_le ?_) | go_size))
    have BW8 := BW7.keep hb8
    clear q0 q1 q2 q3 hbl7 BW7 hb8
    by_cases hv2 : ¬ Venn.valueChk r ⟨th, a, b, c⟩ = 0
    · rw [errV_ne hv2]
      clear hv2
      go_wp2
      go_ret
      exact ⟨rfl, by (repeat' (first | (with_reducible exact Below.refl _ _) | (with_reducible refine Below.next ?_ (by with_reducible assumption)) | (with_reducible refine Below.drew ?_) | (with_reducible refine Below.laid ?_ _) | (with_reducible refine Below.setCell ?_ ?_ _) | (with_reducible refine size_of ?_) | (with_reducible refine Nat.le_succ_of_le ?_) | go_size))⟩
    replace hv2 := Decidable.not_not.1 hv2
    have HV2 := Lib.hid hv2
    rw [errV_zero hv2]
    clear hv2
    have hr12 := (Venn.termChk_split (valueChk_term HV2.out)).2.1
    have hwr : IntKind.i64.wrap ((t.length : Int) + (r.length : Int)) = (t.length : Int) + (r.length : Int) := IntWalk.i64_in _ (by omega)
    rcases (by omega : (11 : Int) < (t.length : Int) + (r.length : Int) ∨ (¬ (11 : Int) < (t.length : Int) + (r.length : Int) ∧ what < 5) ∨ (¬ (11 : Int) < (t.length : Int) + (r.length : Int) ∧ ¬ what < 5 ∧ 7 < what) ∨ (¬ (11 : Int) < (t.length : Int) + (r.length : Int) ∧ ¬ what < 5 ∧ ¬ 7 < what)) with g1 | ⟨g1, g2⟩ | ⟨g1, g2, g3⟩ | ⟨g1, g2, g3⟩
    · go_wp2
      go_ret
      exact ⟨rfl, by (repeat' (first | (with_reducible exact Below.refl _ _) | (with_reducible refine Below.next ?_ (by with_reducible assumption)) | (with_reducible refine Below.drew ?_) | (with_reducible refine Below.laid ?_ _) | (with_reducible refine Below.setCell ?_ ?_ _) | (with_reducible refine size_of ?_) | (with_reducible refine Nat.le_succ_of_le ?_) | go_size))⟩
    · go_wp2
      go_ret
      exact ⟨rfl, by (repeat' (first | (with_reducible exact Below.refl _ _) | (with_reducible refine Below.next ?_ (by with_reducible assumption)) | (with_reducible refine Below.drew ?_) | (with_reducible refine Below.laid ?_ _) | (with_reducible refine Below.setCell ?_ ?_ _) | (with_reducible refine size_of ?_) | (with_reducible refine Nat.le_succ_of_le ?_) | go_size))⟩
    · go_wp2
      go_ret
      exact ⟨rfl, by (repeat' (first | (with_reducible exact Below.refl _ _) | (with_reducible refine Below.next ?_ (by with_reducible assumption)) | (with_reducible refine Below.drew ?_) | (with_reducible refine Below.laid ?_ _) | (with_reducible refine Below.setCell ?_ ?_ _) | (with_reducible refine size_of ?_) | (with_reducible refine Nat.le_succ_of_le ?_) | go_size))⟩
    have HMAIN := Lib.hid (main_plain t r th a b c what HV1.out HV2.out (by omega) (by omega))
    go_wp2_with (first
      | (at_builtin; refine wpList_appR _ rfl _ _ rfl w8.heap.size (.slice none 0 0) 0 [] rfl (World.ownsRow_nil _ _ _ _) tA tc t rfl (HTR.out.keep (by (repeat' (first | (with_reducible exact Below.refl _ _) | (with_reducible refine Below.next ?_ (by with_reducible assumption)) | (with_reducible refine Below.drew ?_) | (with_reducible refine Below.laid ?_ _) | (with_reducible refine Below.setCell ?_ ?_ _) | (with_reducible refine size_of ?_) | (with_reducible refine Nat.le_succ_of_le ?_) | go_size)))) (by omega) (Nat.le_refl _) ?_; intro v9 w9 hown9 hg9; rw [Nat.zero_add, List.nil_append] at hown9; have hb9 : Below w8.heap.size w8 w9 := (Below.refl _ _).grown hg9 (Nat.le_refl _) (fun g h => by cases h))
      | (at_builtin; refine wpList_appR _ rfl _ _ rfl w8.heap.size v9 t.length _ rfl hown9 rA rc r rfl (HRR.out.keep (by (repeat' (first | (with_reducible exact Below.refl _ _) | (with_reducible refine Below.next ?_ (by with_reducible assumption)) | (with_reducible refine Below.drew ?_) | (with_reducible refine Below.laid ?_ _) | (with_reducible refine Below.setCell ?_ ?_ _) | (with_reducible refine size_of ?_) | (with_reducible refine Nat.le_succ_of_le ?_) | go_size)))) (by omega) hb9.size ?_; intro v10 w10 hown10 hg10; have hb10 : Below w8.heap.size w8 w10 := hb9.grown hg10 hb9.size (fun g h => (hown9.lt g h).1))
      | (at_builtin; refine wpList_app1 _ rfl _ _ rfl w8.heap.size v10 (t.length + r.length) _ rfl (hown10.alloc _) w10.heap.size 1 what rfl ?hy2 (by omega) (by have := hb10.size; simp; omega) ?_))
    try case hy2 => simp
    intro v11 w11 hown11 hg11
    have hb11 : Below w8.heap.size w8 w11 := (hb10.alloc hb10.size _).grown hg11 (by have := hb10.size; simp; omega) (fun g h => (hown10.lt g h).1)
    have hI : IsInts w11 v11 (t ++ r ++ [what]) := IsInts.of_own (base := w8.heap.size) (e := 3) (n := t.length + r.length + 1) (by simpa using hown11)
    have BW11 := BW8.keep hb11
    have hbl11 : Below w.heap.size w w11 := Below.next hbl8 hb11
    obtain ⟨q0, q1, q2, q3⟩ : w11.cell? ⟨w.heap.size, 0, none⟩ = some (.int .i64 th) ∧ w11.cell? ⟨w.heap.size, 1, none⟩ = some (.int .i64 a) ∧ w11.cell? ⟨w.heap.size, 2, none⟩ = some (.int .i64 b) ∧ w11.cell? ⟨w.heap.size, 3, none⟩ = some (.int .i64 c) := ⟨BW11.cell 0, BW11.cell 1, BW11.cell 2, BW11.cell 3⟩
    clear hown9 hown10 hown11 hg9 hg10 hg11 hb9 hb10 hb11 BW8 hbl8
    obtain ⟨m1, m2, m3, m4, m5⟩ := HMAIN.out
    have M1 := Lib.hid m1; have M2 := Lib.hid m2; have M3 := Lib.hid m3
    clear m1 m2 m3 HMAIN
    go_wp2_with fail
    refine (term_Value _ (t ++ r ++ [what]) th a b c _ hI).mono ?_
    rintro e w12 ⟨rfl, hb12⟩
    rw [M1.out, M2.out]
    have BW12 := BW11.keep hb12
    have z0 := BW12.cell 0
    simp at z0
    have hbl12 : Below w.heap.size w w12 := by (repeat' (first | (with_reducible exact Below.refl _ _) | (with_reducible refine Below.next ?_ (by with_reducible assumption)) | (with_reducible refine Below.drew ?_) | (with_reducible refine Below.laid ?_ _) | (with_reducible refine Below.setCell ?_ ?_ _) | (with_reducible refine size_of ?_) | (with_reducible refine Nat.le_succ_of_le ?_) | go_size))
    go_wp2_with fail
    refine (sets_Do_ok what th _ _ _ m4 m5 (by omega) (by omega)).mono ?_
    rintro e w13 ⟨rfl, hb13⟩
    go_wp2
    go_ret
    exact ⟨rfl, by (repeat' (first | (with_reducible exact Below.refl _ _) | (with_reducible refine Below.next ?_ (by with_reducible assumption)) | (with_reducible refine Below.drew ?_) | (with_reducible refine Below.laid ?_ _) | (with_reducible refine Below.setCell ?_ ?_ _) | (with_reducible refine size_of ?_) | (with_reducible refine Nat.le_succ_of_le ?_) | go_size))⟩
end Go.Proofs.Yteikjcboehilpaa
