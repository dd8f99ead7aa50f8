/-
  THE WALKS of the reference's So, Open, Forms, Answer, Ask.
-/
import Derived.Test.YtjnjgcibhjdmdaaGreatDoorRefW
namespace Go.Proofs.YtjnjgcibhjdmdaaGreatDoor
open Go.RowKit

set_option maxHeartbeats 2000000 in
set_option maxRecDepth 100000 in
theorem ref_So (v : Value) (l : List Venn.Form) (th a b d : Int) (w : World) (hl : IsForms w v l) (hf : ∀ f ∈ l, Venn.formChk f = 0) (hw : Venn.worldChk ⟨th, a, b, d⟩ = 0) :
    Calls Tryz.prog 47 #[v, .agg #[.int .i64 th, .int .i64 a, .int .i64 b, .int .i64 d]] w (Keeps (.bool (Venn.formsTrue l ⟨th, a, b, d⟩)) w) := by
  obtain ⟨A, c, rfl, hr, hc, hcm⟩ := hl
  have HR := Lib.hid hr
  have HF := Lib.hid hf
  have HW := Lib.hid hw
  obtain ⟨E, hE⟩ : ∃ E, E = Venn.formsTrue l ⟨th, a, b, d⟩ := ⟨_, rfl⟩
  rw [← hE]
  have HE := Lib.hid hE
  unfold maxLen at hcm
  clear hr hf hw hE
  go_enter Tryz.func47, Tryz.ntmps47
  go_wp2
  go_loopw [5] (fun i wr => ∃ k : Nat, k ≤ l.length ∧ i = .int .i64 k ∧ Below w.heap.size w wr ∧ Blk wr w.heap.size 45 #[.int .i64 th, .int .i64 a, .int .i64 b, .int .i64 d] ∧ E = Venn.formsTrue (l.drop k) ⟨th, a, b, d⟩) (fun i _ => l.length - (intOf i).toNat)
  case atStart => exact ⟨0, Nat.zero_le _, rfl, by (repeat' (first | (with_reducible exact Below.refl _ _) | (with_reducible assumption) | (with_reducible refine Below.next ?_ (by with_reducible assumption)) | (with_reducible refine Below.drew ?_) | (with_reducible refine Below.laid ?_ _) | (with_reducible refine Below.setCell ?_ ?_ _) | (with_reducible refine size_of ?_) | (with_reducible refine Nat.le_succ_of_le ?_) | go_size)), Blk.new _ _ _, by rw [List.drop_zero]; exact HE.out⟩
  case round =>
    obtain ⟨k, hk, rfl, hb, hB, hrest⟩ := hrel
    obtain ⟨wo, rfl⟩ : ∃ wo : World, wo = wr := ⟨_, rfl⟩
    have HRE := Lib.hid hrest
    clear hrest
    by_cases hlt : k < l.length
    · obtain ⟨ad, sa, sc, rfl, g0, g1, hs, ht⟩ := HR.out k _ (List.getElem?_eq_getElem hlt)
      have HD := Lib.hid (List.drop_eq_getElem_cons hlt)
      have hfk := HF.out _ (List.getElem_mem hlt)
      generalize l[k] = f at g0 g1 hs ht HD hfk
      obtain ⟨fa, fc⟩ := f
      simp only at g0 g1 hs ht
      have d0 := cell_keep hb g0
      have d1 := cell_keep hb g1
      obtain ⟨sA, sN, rfl⟩ := hs.slice
      obtain ⟨tA, tN, rfl⟩ := ht.slice
      have HSS := Lib.hid hs
      have HTT := Lib.hid ht
      have HFK := Lib.hid hfk
      have hk1 : (k : Int) < (l.length : Int) := by omega
      have hk0 : (0 : Int) ≤ (k : Int) := by omega
      obtain ⟨c0, c1, c2, c3⟩ := hB.cells4
      clear g0 g1 hs ht hfk
      have HT := Lib.hid (fun W h1 h2 => ref_True (.slice sA fa.length sN) (.slice tA fc.length tN) fa fc th a b d W h1 h2 HFK.out HW.out)
      have HV := Lib.hid (show E = (Venn.formTrue ⟨fa, fc⟩ ⟨th, a, b, d⟩ && Venn.formsTrue (l.drop (k + 1)) ⟨th, a, b, d⟩) by rw [HRE.out, HD.out]; rfl)
      generalize Venn.formTrue ⟨fa, fc⟩ ⟨th, a, b, d⟩ = T at HT HV
      cases T
      · go_wp2_with fail
        go_region_law (go_simp; go_at_call 73; refine (HT.out _ (HSS.out.keep (by (repeat' (first | (with_reducible exact Below.refl _ _) | (with_reducible assumption) | (with_reducible refine Below.next ?_ (by with_reducible assumption)) | (with_reducible refine Below.drew ?_) | (with_reducible refine Below.laid ?_ _) | (with_reducible refine Below.setCell ?_ ?_ _) | (with_reducible refine size_of ?_) | (with_reducible refine Nat.le_succ_of_le ?_) | go_size)))) (HTT.out.keep (by (repeat' (first | (with_reducible exact Below.refl _ _) | (with_reducible assumption) | (with_reducible refine Below.next ?_ (by with_reducible assumption)) | (with_reducible refine Below.drew ?_) | (with_reducible refine Below.laid ?_ _) | (with_reducible refine Below.setCell ?_ ?_ _) | (with_reducible refine size_of ?_) | (with_reducible refine Nat.le_succ_of_le ?_) | go_size))))).mono ?_; rintro e w1 ⟨rfl, hb1⟩)
        all_goals
          go_wp2
          go_ret
          exact ⟨ret_bool HV.out.symm, by (repeat' (first | (with_reducible exact Below.refl _ _) | (with_reducible assumption) | (with_reducible refine Below.next ?_ (by with_reducible assumption)) | (with_reducible refine Below.drew ?_) | (with_reducible refine Below.laid ?_ _) | (with_reducible refine Below.setCell ?_ ?_ _) | (with_reducible refine size_of ?_) | (with_reducible refine Nat.le_succ_of_le ?_) | go_size))⟩
      · go_wp2_with fail
        go_region_law (go_simp; go_at_call 73; refine (HT.out _ (HSS.out.keep (by (repeat' (first | (with_reducible exact Below.refl _ _) | (with_reducible assumption) | (with_reducible refine Below.next ?_ (by with_reducible assumption)) | (with_reducible refine Below.drew ?_) | (with_reducible refine Below.laid ?_ _) | (with_reducible refine Below.setCell ?_ ?_ _) | (with_reducible refine size_of ?_) | (with_reducible refine Nat.le_succ_of_le ?_) | go_size)))) (HTT.out.keep (by (repeat' (first | (with_reducible exact Below.refl _ _) | (with_reducible assumption) | (with_reducible refine Below.next ?_ (by with_reducible assumption)) | (with_reducible refine Below.drew ?_) | (with_reducible refine Below.laid ?_ _) | (with_reducible refine Below.setCell ?_ ?_ _) | (with_reducible refine size_of ?_) | (with_reducible refine Nat.le_succ_of_le ?_) | go_size))))).mono ?_; rintro e w1 ⟨rfl, hb1⟩)
        all_goals
          go_wp2
          go_roundw
          case rel => exact ⟨k + 1, by omega, by go_num, by (repeat' (first | (with_reducible exact Below.refl _ _) | (with_reducible assumption) | (with_reducible refine Below.next ?_ (by with_reducible assumption)) | (with_reducible refine Below.drew ?_) | (with_reducible refine Below.laid ?_ _) | (with_reducible refine Below.setCell ?_ ?_ _) | (with_reducible refine size_of ?_) | (with_reducible refine Nat.le_succ_of_le ?_) | go_size)), hB.drew.keep hb1, by rw [HV.out, Bool.true_and]⟩
          case measure => simp [intOf]; omega
    · have HV := Lib.hid (show E = true by rw [HRE.out, List.drop_eq_nil_of_le (by omega)]; rfl)
      go_wp2
      go_ret
      exact ⟨ret_bool HV.out.symm, by (repeat' (first | (with_reducible exact Below.refl _ _) | (with_reducible assumption) | (with_reducible refine Below.next ?_ (by with_reducible assumption)) | (with_reducible refine Below.drew ?_) | (with_reducible refine Below.laid ?_ _) | (with_reducible refine Below.setCell ?_ ?_ _) | (with_reducible refine size_of ?_) | (with_reducible refine Nat.le_succ_of_le ?_) | go_size))⟩

set_option maxHeartbeats 2000000 in
set_option maxRecDepth 100000 in
theorem ref_Open (v : Value) (l : List Venn.Form) (u : Int) (w : World) (hl : IsForms w v l) (hf : ∀ f ∈ l, Venn.formChk f = 0) (hu : Venn.things u = true) :
    Calls Tryz.prog 22 #[v, .int .i64 u] w (Keeps (.bool (Venn.openV l u)) w) := by
  obtain ⟨A, c, rfl, hr, hc, hcm⟩ := hl
  have HL := Lib.hid (show IsForms w (.slice A l.length c) l from ⟨A, c, rfl, hr, hc, hcm⟩)
  have HM := Lib.hid (show ∀ x ∈ (Venn.allC u).map Venn.made, Venn.worldChk x = 0 from fun x hx => by
    obtain ⟨y, hy, rfl⟩ := List.mem_map.1 hx
    exact (Venn.made_allC hu hy).1)
  have HF := Lib.hid hf
  obtain ⟨E, hE⟩ : ∃ E, E = Venn.openV l u := ⟨_, rfl⟩
  rw [← hE]
  have HE := Lib.hid (show E = ((Venn.allC u).map Venn.made).any fun W => Venn.formsTrue l W by rw [hE, List.any_map]; rfl)
  have HWO := Lib.hid (fun W => ref_Worlds u W hu)
  have hmm : (Venn.allC u).length = ((Venn.allC u).map Venn.made).length := by simp
  rw [hmm] at HWO
  clear hr hf hE hu hmm
  generalize (Venn.allC u).map Venn.made = LW at HM HE HWO
  go_enter Tryz.func22, Tryz.ntmps22
  go_wp2_with fail
  refine (HWO.out _).mono ?_
  rintro e w1 ⟨v1, rfl, hb1, hown⟩
  obtain ⟨V, cw, rfl, hwr, hwc, hwm⟩ := IsWorlds.of_own hown
  have HWR := Lib.hid hwr
  unfold maxLen at hwm
  clear hwr hown
  go_wp2
  go_loopw [6] (fun i wr => ∃ k : Nat, k ≤ LW.length ∧ i = .int .i64 k ∧ Below w.heap.size w wr ∧ Below w1.heap.size w1 wr ∧ E = (LW.drop k).any fun W => Venn.formsTrue l W) (fun i _ => LW.length - (intOf i).toNat)
  case atStart => exact ⟨0, Nat.zero_le _, rfl, hb1, Below.refl _ _, by rw [List.drop_zero]; exact HE.out⟩
  case round =>
    obtain ⟨k, hk, rfl, hb, hbz, hrest⟩ := hrel
    obtain ⟨wo, rfl⟩ : ∃ wo : World, wo = wr := ⟨_, rfl⟩
    have HRE := Lib.hid hrest
    clear hrest
    by_cases hlt : k < LW.length
    · obtain ⟨ad, rfl, g0, g1, g2, g3⟩ := HWR.out k _ (List.getElem?_eq_getElem hlt)
      have HD := Lib.hid (List.drop_eq_getElem_cons hlt)
      have hwk := HM.out _ (List.getElem_mem hlt)
      generalize LW[k] = X at g0 g1 g2 g3 HD hwk
      obtain ⟨th, a, b, d⟩ := X
      simp only at g0 g1 g2 g3
      replace g0 := cell_keep hbz g0
      replace g1 := cell_keep hbz g1
      replace g2 := cell_keep hbz g2
      replace g3 := cell_keep hbz g3
      have hk1 : (k : Int) < (LW.length : Int) := by omega
      have hk0 : (0 : Int) ≤ (k : Int) := by omega
      have HT := Lib.hid (fun W h1 => ref_So (.slice A l.length c) l th a b d W h1 HF.out hwk)
      have HV := Lib.hid (show E = (Venn.formsTrue l ⟨th, a, b, d⟩ || (LW.drop (k + 1)).any fun W => Venn.formsTrue l W) by rw [HRE.out, HD.out]; rfl)
      clear hwk
      generalize Venn.formsTrue l ⟨th, a, b, d⟩ = T at HT HV
      cases T
      · go_wp2_with fail
        refine (HT.out _ (HL.out.keep (by (repeat' (first | (with_reducible exact Below.refl _ _) | (with_reducible assumption) | (with_reducible refine Below.next ?_ (by with_reducible assumption)) | (with_reducible refine Below.drew ?_) | (with_reducible refine Below.laid ?_ _) | (with_reducible refine Below.setCell ?_ ?_ _) | (with_reducible refine size_of ?_) | (with_reducible refine Nat.le_succ_of_le ?_) | go_size))))).mono ?_
        rintro e w2 ⟨rfl, hb2⟩
        go_wp2
        go_roundw
        case rel => exact ⟨k + 1, by omega, by go_num, by (repeat' (first | (with_reducible exact Below.refl _ _) | (with_reducible assumption) | (with_reducible refine Below.next ?_ (by with_reducible assumption)) | (with_reducible refine Below.drew ?_) | (with_reducible refine Below.laid ?_ _) | (with_reducible refine Below.setCell ?_ ?_ _) | (with_reducible refine size_of ?_) | (with_reducible refine Nat.le_succ_of_le ?_) | go_size)), Below.next hbz hb2, by rw [HV.out, Bool.false_or]⟩
        case measure => simp [intOf]; omega
      · go_wp2_with fail
        refine (HT.out _ (HL.out.keep (by (repeat' (first | (with_reducible exact Below.refl _ _) | (with_reducible assumption) | (with_reducible refine Below.next ?_ (by with_reducible assumption)) | (with_reducible refine Below.drew ?_) | (with_reducible refine Below.laid ?_ _) | (with_reducible refine Below.setCell ?_ ?_ _) | (with_reducible refine size_of ?_) | (with_reducible refine Nat.le_succ_of_le ?_) | go_size))))).mono ?_
        rintro e w2 ⟨rfl, hb2⟩
        go_wp2
        go_ret
        exact ⟨ret_bool (by rw [HV.out, Bool.true_or]), by (repeat' (first | (with_reducible exact Below.refl _ _) | (with_reducible assumption) | (with_reducible refine Below.next ?_ (by with_reducible assumption)) | (with_reducible refine Below.drew ?_) | (with_reducible refine Below.laid ?_ _) | (with_reducible refine Below.setCell ?_ ?_ _) | (with_reducible refine size_of ?_) | (with_reducible refine Nat.le_succ_of_le ?_) | go_size))⟩
    · have HV := Lib.hid (show E = false by rw [HRE.out, List.drop_eq_nil_of_le (by omega)]; rfl)
      go_wp2
      go_ret
      exact ⟨ret_bool HV.out.symm, by (repeat' (first | (with_reducible exact Below.refl _ _) | (with_reducible assumption) | (with_reducible refine Below.next ?_ (by with_reducible assumption)) | (with_reducible refine Below.drew ?_) | (with_reducible refine Below.laid ?_ _) | (with_reducible refine Below.setCell ?_ ?_ _) | (with_reducible refine size_of ?_) | (with_reducible refine Nat.le_succ_of_le ?_) | go_size))⟩

end Go.Proofs.YtjnjgcibhjdmdaaGreatDoor
