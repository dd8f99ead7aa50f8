/-
  THE WALKS of the reference's So, Open, Forms, Answer, Ask.
-/
import Derived.Test.YtcecbpbpknphjaaDoorRefWorlds
namespace Go.Proofs.YtcecbpbpknphjaaDoor
open Go.RowKit

set_option maxHeartbeats 2000000 in
set_option maxRecDepth 100000 in
theorem ref_So (v : Value) (l : List Venn.Form) (th a b d : Int) (w : World) (hl : IsForms w v l) (hf : ∀ f ∈ l, Venn.formChk f = 0) (hw : Venn.worldChk ⟨th, a, b, d⟩ = 0) :
    Calls Tryd.prog 79 #[v, .agg #[.int .i64 th, .int .i64 a, .int .i64 b, .int .i64 d]] w (Keeps (.bool (Venn.formsTrue l ⟨th, a, b, d⟩)) w) := by
  obtain ⟨A, c, rfl, hr, hc, hcm⟩ := hl
  have HR := Lib.hid hr
  have HF := Lib.hid hf
  have HW := Lib.hid hw
  obtain ⟨E, hE⟩ : ∃ E, E = Venn.formsTrue l ⟨th, a, b, d⟩ := ⟨_, rfl⟩
  rw [← hE]
  have HE := Lib.hid hE
  unfold maxLen at hcm
  clear hr hf hw hE
  go_enter Tryd.func79, Tryd.ntmps79
  go_wp2
  go_loopw [5] (fun i wr => ∃ k : Nat, k ≤ l.length ∧ i = .int .i64 k ∧ Below w.heap.size w wr ∧ Blk wr w.heap.size 28 #[.int .i64 th, .int .i64 a, .int .i64 b, .int .i64 d] ∧ E = Venn.formsTrue (l.drop k) ⟨th, a, b, d⟩) (fun i _ => l.length - (intOf i).toNat)
  case atStart => exact ⟨0, Nat.zero_le _, rfl, by (repeat' (first | (with_reducible exact Below.refl _ _) | (with_reducible assumption) | (with_reducible refine Below.next ?_ (by with_reducible assumption)) | (with_reducible refine Below.drew ?_) | (with_reducible refine Below.laid ?_ _) | (with_reducible refine Below.setCell ?_ ?_ _) | (with_reducible refine size_of ?_) | (with_reducible refine Nat.le_succ_of_le ?_) | go_size)), Blk.new _ _ _, by rw [List.drop_zero]; exact HE.out⟩
  case round =>
    obtain ⟨k, hk, rfl, hb, hB, hrest⟩ := hrel
    obtain ⟨wo, rfl⟩ : ∃ wo : World, wo = wr := ⟨_, rfl⟩
    have HRE := Lib.hid hrest
    clear hrest
    by_cases hlt : k < l.length
    · obtain ⟨ad, sa, sc, rfl, g0, g1, hs, ht⟩ := HR.out k _ (List.getElem?_eq_getElem hlt)
      have HD := Lib.hid (List.drop_eq_getElem_cons hlt)
      have hfk := HF.out _ (List.getElem_mem hlt)
      generalize l[k] = f at g0 g1 hs ht HD hfk
      obtain ⟨fa, fc⟩ := f
      simp only at g0 g1 hs ht
      have d0 := cell_keep hb g0
      have d1 := cell_keep hb g1
      obtain ⟨sA, sN, rfl⟩ := hs.slice
      obtain ⟨tA, tN, rfl⟩ := ht.slice
      have HSS := Lib.hid hs
      have HTT := Lib.hid ht
      have HFK := Lib.hid hfk
      have hk1 : (k : Int) < (l.length : Int) := by omega
      have hk0 : (0 : Int) ≤ (k : Int) := by omega
      obtain ⟨c0, c1, c2, c3⟩ := hB.cells4
      clear g0 g1 hs ht hfk
      have HT := Lib.hid (fun W h1 h2 => ref_True (.slice sA fa.length sN) (.slice tA fc.length tN) fa fc th a b d W h1 h2 HFK.out HW.out)
      have HV := Lib.hid (show E = (Venn.formTrue ⟨fa, fc⟩ ⟨th, a, b, d⟩ && Venn.formsTrue (l.drop (k + 1)) ⟨th, a, b, d⟩) by rw [HRE.out, HD.out]; rfl)
      generalize Venn.formTrue ⟨fa, fc⟩ ⟨th, a, b, d⟩ = T at HT HV
      cases T
      · go_wp2_with fail
        go_region_law (go_simp; go_at_call 20; refine (HT.out _ (HSS.out.keep (by (repeat' (first | (with_reducible exact Below.refl _ _) | (with_reducible assumption) | (with_reducible refine Below.next ?_ (by with_reducible assumption)) | (with_reducible refine Below.drew ?_) | (with_reducible refine Below.laid ?_ _) | (with_reducible refine Below.setCell ?_ ?_ _) | (with_reducible refine size_of ?_) | (with_reducible refine Nat.le_succ_of_le ?_) | go_size)))) (HTT.out.keep (by (repeat' (first | (with_reducible exact Below.refl _ _) | (with_reducible assumption) | (with_reducible refine Below.next ?_ (by with_reducible assumption)) | (with_reducible refine Below.drew ?_) | (with_reducible refine Below.laid ?_ _) | (with_reducible refine Below.setCell ?_ ?_ _) | (with_reducible refine size_of ?_) | (with_reducible refine Nat.le_succ_of_le ?_) | go_size))))).mono ?_; rintro e w1 ⟨rfl, hb1⟩)
        all_goals
          go_wp2
          go_ret
          exact ⟨ret_bool HV.out.symm, by (repeat' (first | (with_reducible exact Below.refl _ _) | (with_reducible assumption) | (with_reducible refine Below.next ?_ (by with_reducible assumption)) | (with_reducible refine Below.drew ?_) | (with_reducible refine Below.laid ?_ _) | (with_reducible refine Below.setCell ?_ ?_ _) | (with_reducible refine size_of ?_) | (with_reducible refine Nat.le_succ_of_le ?_) | go_size))⟩
      · go_wp2_with fail
        go_region_law (go_simp; go_at_call 20; refine (HT.out _ (HSS.out.keep (by (repeat' (first | (with_reducible exact Below.refl _ _) | (with_reducible assumption) | (with_reducible refine Below.next ?_ (by with_reducible assumption)) | (with_reducible refine Below.drew ?_) | (with_reducible refine Below.laid ?_ _) | (with_reducible refine Below.setCell ?_ ?_ _) | (with_reducible refine size_of ?_) | (with_reducible refine Nat.le_succ_of_le ?_) | go_size)))) (HTT.out.keep (by (repeat' (first | (with_reducible exact Below.refl _ _) | (with_reducible assumption) | (with_reducible refine Below.next ?_ (by with_reducible assumption)) | (with_reducible refine Below.drew ?_) | (with_reducible refine Below.laid ?_ _) | (with_reducible refine Below.setCell ?_ ?_ _) | (with_reducible refine size_of ?_) | (with_reducible refine Nat.le_succ_of_le ?_) | go_size))))).mono ?_; rintro e w1 ⟨rfl, hb1⟩)
        all_goals
          go_wp2
          go_roundw
          case rel => exact ⟨k + 1, by omega, by go_num, by (repeat' (first | (with_reducible exact Below.refl _ _) | (with_reducible assumption) | (with_reducible refine Below.next ?_ (by with_reducible assumption)) | (with_reducible refine Below.drew ?_) | (with_reducible refine Below.laid ?_ _) | (with_reducible refine Below.setCell ?_ ?_ _) | (with_reducible refine size_of ?_) | (with_reducible refine Nat.le_succ_of_le ?_) | go_size)), hB.drew.keep hb1, by rw [HV.out, Bool.true_and]⟩
          case measure => simp [intOf]; omega
    · have HV := Lib.hid (show E = true by rw [HRE.out, List.drop_eq_nil_of_le (by omega)]; rfl)
      go_wp2
      go_ret
      exact ⟨ret_bool HV.out.symm, by (repeat' (first | (with_reducible exact Below.refl _ _) | (with_reducible assumption) | (with_reducible refine Below.next ?_ (by with_reducible assumption)) | (with_reducible refine Below.drew ?_) | (with_reducible refine Below.laid ?_ _) | (with_reducible refine Below.setCell ?_ ?_ _) | (with_reducible refine size_of ?_) | (with_reducible refine Nat.le_succ_of_le ?_) | go_size))⟩

set_option maxHeartbeats 2000000 in
set_option maxRecDepth 100000 in
theorem ref_Open (v : Value) (l : List Venn.Form) (u : Int) (w : World) (hl : IsForms w v l) (hf : ∀ f ∈ l, Venn.formChk f = 0) (hu : Venn.things u = true) :
    Calls Tryd.prog 37 #[v, .int .i64 u] w (Keeps (.bool (Venn.openV l u)) w) := by
  obtain ⟨A, c, rfl, hr, hc, hcm⟩ := hl
  have HL := Lib.hid (show IsForms w (.slice A l.length c) l from ⟨A, c, rfl, hr, hc, hcm⟩)
  have HM := Lib.hid (show ∀ x ∈ (Venn.allC u).map Venn.made, Venn.worldChk x = 0 from fun x hx => by
    obtain ⟨y, hy, rfl⟩ := List.mem_map.1 hx
    exact (Venn.made_allC hu hy).1)
  have HF := Lib.hid hf
  obtain ⟨E, hE⟩ : ∃ E, E = Venn.openV l u := ⟨_, rfl⟩
  rw [← hE]
  have HE := Lib.hid (show E = ((Venn.allC u).map Venn.made).any fun W => Venn.formsTrue l W by rw [hE, List.any_map]; rfl)
  have HWO := Lib.hid (fun W => ref_Worlds u W hu)
  have hmm : (Venn.allC u).length = ((Venn.allC u).map Venn.made).length := by simp
  rw [hmm] at HWO
  clear hr hf hE hu hmm
  generalize (Venn.allC u).map Venn.made = LW at HM HE HWO
  go_enter Tryd.func37, Tryd.ntmps37
  go_wp2_with fail
  refine (HWO.out _).mono ?_
  rintro e w1 ⟨v1, rfl, hb1, hown⟩
  obtain ⟨V, cw, rfl, hwr, hwc, hwm⟩ := IsWorlds.of_own hown
  have HWR := Lib.hid hwr
  unfold maxLen at hwm
  clear hwr hown
  go_wp2
  go_loopw [6] (fun i wr => ∃ k : Nat, k ≤ LW.length ∧ i = .int .i64 k ∧ Below w.heap.size w wr ∧ Below w1.heap.size w1 wr ∧ E = (LW.drop k).any fun W => Venn.formsTrue l W) (fun i _ => LW.length - (intOf i).toNat)
  case atStart => exact ⟨0, Nat.zero_le _, rfl, hb1, Below.refl _ _, by rw [List.drop_zero]; exact HE.out⟩
  case round =>
    obtain ⟨k, hk, rfl, hb, hbz, hrest⟩ := hrel
    obtain ⟨wo, rfl⟩ : ∃ wo : World, wo = wr := ⟨_, rfl⟩
    have HRE := Lib.hid hrest
    clear hrest
    by_cases hlt : k < LW.length
    · obtain ⟨ad, rfl, g0, g1, g2, g3⟩ := HWR.out k _ (List.getElem?_eq_getElem hlt)
      have HD := Lib.hid (List.drop_eq_getElem_cons hlt)
      have hwk := HM.out _ (List.getElem_mem hlt)
      generalize LW[k] = X at g0 g1 g2 g3 HD hwk
      obtain ⟨th, a, b, d⟩ := X
      simp only at g0 g1 g2 g3
      replace g0 := cell_keep hbz g0
      replace g1 := cell_keep hbz g1
      replace g2 := cell_keep hbz g2
      replace g3 := cell_keep hbz g3
      have hk1 : (k : Int) < (LW.length : Int) := by omega
      have hk0 : (0 : Int) ≤ (k : Int) := by omega
      have HT := Lib.hid (fun W h1 => ref_So (.slice A l.length c) l th a b d W h1 HF.out hwk)
      have HV := Lib.hid (show E = (Venn.formsTrue l ⟨th, a, b, d⟩ || (LW.drop (k + 1)).any fun W => Venn.formsTrue l W) by rw [HRE.out, HD.out]; rfl)
      clear hwk
      generalize Venn.formsTrue l ⟨th, a, b, d⟩ = T at HT HV
      cases T
      · go_wp2_with fail
        refine (HT.out _ (HL.out.keep (by (repeat' (first | (with_reducible exact Below.refl _ _) | (with_reducible assumption) | (with_reducible refine Below.next ?_ (by with_reducible assumption)) | (with_reducible refine Below.drew ?_) | (with_reducible refine Below.laid ?_ _) | (with_reducible refine Below.setCell ?_ ?_ _) | (with_reducible refine size_of ?_) | (with_reducible refine Nat.le_succ_of_le ?_) | go_size))))).mono ?_
        rintro e w2 ⟨rfl, hb2⟩
        go_wp2
        go_roundw
        case rel => exact ⟨k + 1, by omega, by go_num, by (repeat' (first | (with_reducible exact Below.refl _ _) | (with_reducible assumption) | (with_reducible refine Below.next ?_ (by with_reducible assumption)) | (with_reducible refine Below.drew ?_) | (with_reducible refine Below.laid ?_ _) | (with_reducible refine Below.setCell ?_ ?_ _) | (with_reducible refine size_of ?_) | (with_reducible refine Nat.le_succ_of_le ?_) | go_size)), Below.next hbz hb2, by rw [HV.out, Bool.false_or]⟩
        case measure => simp [intOf]; omega
      · go_wp2_with fail
        refine (HT.out _ (HL.out.keep (by (repeat' (first | (with_reducible exact Below.refl _ _) | (with_reducible assumption) | (with_reducible refine Below.next ?_ (by with_reducible assumption)) | (with_reducible refine Below.drew ?_) | (with_reducible refine Below.laid ?_ _) | (with_reducible refine Below.setCell ?_ ?_ _) | (with_reducible refine size_of ?_) | (with_reducible refine Nat.le_succ_of_le ?_) | go_size))))).mono ?_
        rintro e w2 ⟨rfl, hb2⟩
        go_wp2
        go_ret
        exact ⟨ret_bool (by rw [HV.out, Bool.true_or]), by (repeat' (first | (with_reducible exact Below.refl _ _) | (with_reducible assumption) | (with_reducible refine Below.next ?_ (by with_reducible assumption)) | (with_reducible refine Below.drew ?_) | (with_reducible refine Below.laid ?_ _) | (with_reducible refine Below.setCell ?_ ?_ _) | (with_reducible refine size_of ?_) | (with_reducible refine Nat.le_succ_of_le ?_) | go_size))⟩
    · have HV := Lib.hid (show E = false by rw [HRE.out, List.drop_eq_nil_of_le (by omega)]; rfl)
      go_wp2
      go_ret
      exact ⟨ret_bool HV.out.symm, by (repeat' (first | (with_reducible exact Below.refl _ _) | (with_reducible assumption) | (with_reducible refine Below.next ?_ (by with_reducible assumption)) | (with_reducible refine Below.drew ?_) | (with_reducible refine Below.laid ?_ _) | (with_reducible refine Below.setCell ?_ ?_ _) | (with_reducible refine size_of ?_) | (with_reducible refine Nat.le_succ_of_le ?_) | go_size))⟩

set_option maxHeartbeats 2000000 in
set_option maxRecDepth 100000 in
theorem ref_Forms (v : Value) (l : List Venn.Form) (u : Int) (w : World) (hl : IsForms w v l) :
    Calls Tryd.prog 32 #[v, .int .i64 u] w (Keeps (.int .i64 (Venn.coreChk l u)) w) := by
  obtain ⟨A, c, rfl, hr, hc, hcm⟩ := hl
  have HR := Lib.hid hr
  obtain ⟨E, hE⟩ : ∃ E, E = Venn.coreChk l u := ⟨_, rfl⟩
  rw [← hE]
  unfold maxLen at hcm
  clear hr
  by_cases h0 : l.length = 0
  · have HV := Lib.hid (show E = 5 by rw [hE, Venn.coreChk, if_pos h0])
    have e1 : ((l.length : Int) == 0) = true := beq_iff_eq.2 (by omega)
    clear hE h0
    go_enter Tryd.func32, Tryd.ntmps32
    go_wp2
    go_ret
    exact ⟨ret_int HV.out.symm, by (repeat' (first | (with_reducible exact Below.refl _ _) | (with_reducible assumption) | (with_reducible refine Below.next ?_ (by with_reducible assumption)) | (with_reducible refine Below.drew ?_) | (with_reducible refine Below.laid ?_ _) | (with_reducible refine Below.setCell ?_ ?_ _) | (with_reducible refine size_of ?_) | (with_reducible refine Nat.le_succ_of_le ?_) | go_size))⟩
  have e1 : ((l.length : Int) == 0) = false := beq_eq_false_iff_ne.2 (by omega)
  by_cases h6 : 6 < l.length
  · have HV := Lib.hid (show E = 4 by rw [hE, Venn.coreChk, if_neg h0, if_pos h6])
    have e2 : (6 : Int) < (l.length : Int) := by omega
    clear hE h0 h6
    go_enter Tryd.func32, Tryd.ntmps32
    go_wp2
    go_ret
    exact ⟨ret_int HV.out.symm, by (repeat' (first | (with_reducible exact Below.refl _ _) | (with_reducible assumption) | (with_reducible refine Below.next ?_ (by with_reducible assumption)) | (with_reducible refine Below.drew ?_) | (with_reducible refine Below.laid ?_ _) | (with_reducible refine Below.setCell ?_ ?_ _) | (with_reducible refine size_of ?_) | (with_reducible refine Nat.le_succ_of_le ?_) | go_size))⟩
  have e2 : ¬ (6 : Int) < (l.length : Int) := by omega
  have HE := Lib.hid (show E = if Venn.formsChk l = 0 then (if Venn.things u = true then 0 else 1) else Venn.formsChk l by rw [hE, Venn.coreChk, if_neg h0, if_neg h6])
  clear hE h0 h6
  go_enter Tryd.func32, Tryd.ntmps32
  go_wp2
  go_loopw [5] (fun i wr => ∃ k : Nat, k ≤ l.length ∧ i = .int .i64 k ∧ Below w.heap.size w wr ∧ E = if Venn.formsChk (l.drop k) = 0 then (if Venn.things u = true then 0 else 1) else Venn.formsChk (l.drop k)) (fun i _ => l.length - (intOf i).toNat)
  case atStart => exact ⟨0, Nat.zero_le _, rfl, Below.refl _ _, by rw [List.drop_zero]; exact HE.out⟩
  case round =>
    obtain ⟨k, hk, rfl, hb, hrest⟩ := hrel
    obtain ⟨wo, rfl⟩ : ∃ wo : World, wo = wr := ⟨_, rfl⟩
    have HRE := Lib.hid hrest
    clear hrest
    by_cases hlt : k < l.length
    · obtain ⟨ad, sa, sc, rfl, g0, g1, hs, ht⟩ := HR.out k _ (List.getElem?_eq_getElem hlt)
      have HD := Lib.hid (List.drop_eq_getElem_cons hlt)
      generalize l[k] = f at g0 g1 hs ht HD
      obtain ⟨fa, fc⟩ := f
      simp only at g0 g1 hs ht
      have d0 := cell_keep hb g0
      have d1 := cell_keep hb g1
      obtain ⟨sA, sN, rfl⟩ := hs.slice
      obtain ⟨tA, tN, rfl⟩ := ht.slice
      have HSS := Lib.hid hs
      have HTT := Lib.hid ht
      have hk1 : (k : Int) < (l.length : Int) := by omega
      have hk0 : (0 : Int) ≤ (k : Int) := by omega
      clear g0 g1 hs ht
      have HT := Lib.hid (fun W h1 h2 => ref_Form (.slice sA fa.length sN) (.slice tA fc.length tN) fa fc W h1 h2)
      by_cases hz : Venn.formChk ⟨fa, fc⟩ = 0
      · have HV := Lib.hid (show E = if Venn.formsChk (l.drop (k + 1)) = 0 then (if Venn.things u = true then 0 else 1) else Venn.formsChk (l.drop (k + 1)) by rw [HRE.out, HD.out, Venn.formsChk, if_pos hz])
        rw [hz] at HT
        clear hz
        go_wp2_with fail
        refine (HT.out _ (HSS.out.keep (by (repeat' (first | (with_reducible exact Below.refl _ _) | (with_reducible assumption) | (with_reducible refine Below.next ?_ (by with_reducible assumption)) | (with_reducible refine Below.drew ?_) | (with_reducible refine Below.laid ?_ _) | (with_reducible refine Below.setCell ?_ ?_ _) | (with_reducible refine size_of ?_) | (with_reducible refine Nat.le_succ_of_le ?_) | go_size)))) (HTT.out.keep (by (repeat' (first | (with_reducible exact Below.refl _ _) | (with_reducible assumption) | (with_reducible refine Below.next ?_ (by with_reducible assumption)) | (with_reducible refine Below.drew ?_) | (with_reducible refine Below.laid ?_ _) | (with_reducible refine Below.setCell ?_ ?_ _) | (with_reducible refine size_of ?_) | (with_reducible refine Nat.le_succ_of_le ?_) | go_size))))).mono ?_
        rintro e w1 ⟨rfl, hb1⟩
        go_wp2
        go_roundw
        case rel => exact ⟨k + 1, by omega, by go_num, by (repeat' (first | (with_reducible exact Below.refl _ _) | (with_reducible assumption) | (with_reducible refine Below.next ?_ (by with_reducible assumption)) | (with_reducible refine Below.drew ?_) | (with_reducible refine Below.laid ?_ _) | (with_reducible refine Below.setCell ?_ ?_ _) | (with_reducible refine size_of ?_) | (with_reducible refine Nat.le_succ_of_le ?_) | go_size)), HV.out⟩
        case measure => simp [intOf]; omega
      · have HV := Lib.hid (show E = Venn.formChk ⟨fa, fc⟩ by rw [HRE.out, HD.out, Venn.formsChk, if_neg hz, if_neg hz])
        have hq : (Venn.formChk ⟨fa, fc⟩ != 0) = true := by simpa using hz
        clear hz
        generalize Venn.formChk ⟨fa, fc⟩ = EF at HT HV hq
        go_wp2_with fail
        refine (HT.out _ (HSS.out.keep (by (repeat' (first | (with_reducible exact Below.refl _ _) | (with_reducible assumption) | (with_reducible refine Below.next ?_ (by with_reducible assumption)) | (with_reducible refine Below.drew ?_) | (with_reducible refine Below.laid ?_ _) | (with_reducible refine Below.setCell ?_ ?_ _) | (with_reducible refine size_of ?_) | (with_reducible refine Nat.le_succ_of_le ?_) | go_size)))) (HTT.out.keep (by (repeat' (first | (with_reducible exact Below.refl _ _) | (with_reducible assumption) | (with_reducible refine Below.next ?_ (by with_reducible assumption)) | (with_reducible refine Below.drew ?_) | (with_reducible refine Below.laid ?_ _) | (with_reducible refine Below.setCell ?_ ?_ _) | (with_reducible refine size_of ?_) | (with_reducible refine Nat.le_succ_of_le ?_) | go_size))))).mono ?_
        rintro e w1 ⟨rfl, hb1⟩
        go_wp2
        go_ret
        exact ⟨ret_int HV.out.symm, by (repeat' (first | (with_reducible exact Below.refl _ _) | (with_reducible assumption) | (with_reducible refine Below.next ?_ (by with_reducible assumption)) | (with_reducible refine Below.drew ?_) | (with_reducible refine Below.laid ?_ _) | (with_reducible refine Below.setCell ?_ ?_ _) | (with_reducible refine size_of ?_) | (with_reducible refine Nat.le_succ_of_le ?_) | go_size))⟩
    · have HV := Lib.hid (show E = if Venn.things u = true then 0 else 1 by rw [HRE.out, List.drop_eq_nil_of_le (by omega)]; rfl)
      rcases (by omega : u < 0 ∨ (¬ u < 0 ∧ 6 < u) ∨ (¬ u < 0 ∧ ¬ 6 < u)) with hu | ⟨hu, hu2⟩ | ⟨hu, hu2⟩
      · have HN := Lib.hid (show E = 1 by rw [HV.out, if_neg (by simp [Venn.things]; omega)])
        go_wp2
        go_ret
        exact ⟨ret_int HN.out.symm, hb⟩
      · have HN := Lib.hid (show E = 1 by rw [HV.out, if_neg (by simp [Venn.things]; omega)])
        go_wp2
        go_ret
        exact ⟨ret_int HN.out.symm, hb⟩
      · have HN := Lib.hid (show E = 0 by rw [HV.out, if_pos (by simp [Venn.things]; omega)])
        go_wp2
        go_ret
        exact ⟨ret_int HN.out.symm, hb⟩

theorem ref_Answer (y n : Int) (w : World) : Calls Tryd.prog 34 #[.int .i64 y, .int .i64 n] w (Pure (.int .i64 (Venn.answer y n)) w) := by
  by_cases hn : n = 0
  · subst hn
    go_enter Tryd.func34, Tryd.ntmps34
    go_wp2
    go_ret
    exact ⟨rfl, rfl⟩
  have h1 : (n == 0) = false := by simpa using hn
  by_cases hy : y = 0
  · subst hy
    rw [Venn.answer, if_neg hn, if_pos rfl]
    clear hn
    go_enter Tryd.func34, Tryd.ntmps34
    go_wp2
    go_ret
    exact ⟨rfl, rfl⟩
  have h2 : (y == 0) = false := by simpa using hy
  rw [Venn.answer, if_neg hn, if_neg hy]
  clear hn hy
  go_enter Tryd.func34, Tryd.ntmps34
  go_wp2
  go_ret
  exact ⟨rfl, rfl⟩

set_option maxHeartbeats 4000000 in
set_option maxRecDepth 100000 in
theorem ref_Ask (v sa sc : Value) (l : List Venn.Form) (fa : List Venn.Atom) (fc : List Int) (u : Int) (w : World) (hl : IsForms w v l) (hf : ∀ f ∈ l, Venn.formChk f = 0) (ha : IsAtoms w sa fa) (hc : IsInts w sc fc) (hg : Venn.formChk ⟨fa, fc⟩ = 0) (hu : Venn.things u = true) :
    Calls Tryd.prog 33 #[v, .agg #[sa, sc], .int .i64 u] w (Keeps (.tuple #[.int .i64 (Venn.yesOf l ⟨fa, fc⟩ (Venn.allC u)), .int .i64 (Venn.noOf l ⟨fa, fc⟩ (Venn.allC u))]) w) := by
  obtain ⟨A, c, rfl, hr, hcl, hcm⟩ := hl
  have HL := Lib.hid (show IsForms w (.slice A l.length c) l from ⟨A, c, rfl, hr, hcl, hcm⟩)
  obtain ⟨sA, sN, rfl⟩ := ha.slice
  obtain ⟨tA, tN, rfl⟩ := hc.slice
  have HSS := Lib.hid ha
  have HTT := Lib.hid hc
  have HG := Lib.hid hg
  have HF := Lib.hid hf
  have hu6 := hu
  simp only [Venn.things, Bool.and_eq_true, decide_eq_true_eq] at hu6
  have HM := Lib.hid (show ∀ x ∈ Venn.allC u, Venn.worldChk (Venn.made x) = 0 from fun x hx => (Venn.made_allC hu hx).1)
  have HWO := Lib.hid (fun W => ref_Worlds u W hu)
  have HLEN := Lib.hid (allC_len2 hu6)
  clear hr hf hg hu ha hc
  generalize Venn.allC u = LL at HM HWO HLEN ⊢
  have hll := HLEN.out
  go_enter Tryd.func33, Tryd.ntmps33
  go_wp2_with fail
  refine (HWO.out _).mono ?_
  rintro e w1 ⟨v1, rfl, hb1, hown⟩
  obtain ⟨V, cw, rfl, hwr, hwc, hwm⟩ := IsWorlds.of_own hown
  clear hown
  have HWR := Lib.hid hwr
  have BF := (Blk.new w 25 #[.slice sA fa.length sN, .slice tA fc.length tN]).keep hb1
  have hw1 : Below w.heap.size w w1 := by (repeat' (first | (with_reducible exact Below.refl _ _) | (with_reducible assumption) | (with_reducible refine Below.next ?_ (by with_reducible assumption)) | (with_reducible refine Below.drew ?_) | (with_reducible refine Below.laid ?_ _) | (with_reducible refine Below.setCell ?_ ?_ _) | (with_reducible refine size_of ?_) | (with_reducible refine Nat.le_succ_of_le ?_) | go_size))
  have hmm : (LL.map Venn.made).length = LL.length := by simp
  unfold maxLen at hwm
  rw [hmm] at hwc ⊢
  clear hwr hmm
  go_wp2
  go_loopw [8, 9, 11] (fun y n i wr => ∃ k : Nat, k ≤ LL.length ∧ i = .int .i64 k ∧ y = .int .i64 (Venn.yesOf l ⟨fa, fc⟩ (LL.take k)) ∧ n = .int .i64 (Venn.noOf l ⟨fa, fc⟩ (LL.take k)) ∧ Below w.heap.size w wr ∧ Below w1.heap.size w1 wr ∧ Blk wr w.heap.size 25 #[.slice sA fa.length sN, .slice tA fc.length tN]) (fun _ _ i _ => LL.length - (intOf i).toNat)
  case atStart => exact ⟨0, Nat.zero_le _, rfl, rfl, rfl, hw1, Below.refl _ _, BF⟩
  case round =>
    obtain ⟨k, hk, rfl, rfl, rfl, hb, hbz, hB⟩ := hrel
    obtain ⟨wo, rfl⟩ : ∃ wo : World, wo = wr := ⟨_, rfl⟩
    by_cases hlt : k < LL.length
    · obtain ⟨ad, rfl, g0, g1, g2, g3⟩ := HWR.out k (Venn.made LL[k]) (by rw [List.getElem?_map, List.getElem?_eq_getElem hlt]; rfl)
      have HY := Lib.hid (show Venn.yesOf l ⟨fa, fc⟩ (LL.take (k + 1)) = _ by rw [List.take_succ_eq_append_getElem hlt, Venn.yes_snoc])
      have HN := Lib.hid (show Venn.noOf l ⟨fa, fc⟩ (LL.take (k + 1)) = _ by rw [List.take_succ_eq_append_getElem hlt, Venn.no_snoc])
      have hle := Venn.yesno_le l ⟨fa, fc⟩ (LL.take k)
      rw [List.length_take] at hle
      have hwk := HM.out _ (List.getElem_mem hlt)
      generalize Venn.made LL[k] = X at g0 g1 g2 g3 HY HN hwk
      generalize Venn.yesOf l ⟨fa, fc⟩ (LL.take k) = Y at hle HY ⊢
      generalize Venn.noOf l ⟨fa, fc⟩ (LL.take k) = N at hle HN ⊢
      obtain ⟨th, a, b, d⟩ := X
      simp only at g0 g1 g2 g3
      replace g0 := cell_keep hbz g0
      replace g1 := cell_keep hbz g1
      replace g2 := cell_keep hbz g2
      replace g3 := cell_keep hbz g3
      have hk1 : (k : Int) < (LL.length : Int) := by omega
      have hk0 : (0 : Int) ≤ (k : Int) := by omega
      have HS := Lib.hid (fun W h1 => ref_So (.slice A l.length c) l th a b d W h1 HF.out hwk)
      have HT := Lib.hid (fun W h1 h2 => ref_True (.slice sA fa.length sN) (.slice tA fc.length tN) fa fc th a b d W h1 h2 HG.out hwk)
      clear hwk
      generalize Venn.formsTrue l ⟨th, a, b, d⟩ = S at HS HY HN
      generalize Venn.formTrue ⟨fa, fc⟩ ⟨th, a, b, d⟩ = T at HT HY HN
      have hwy : IntKind.i64.wrap ((Y : Int) + 1) = (Y : Int) + 1 := IntWalk.i64_in _ (by omega)
      have hwn : IntKind.i64.wrap ((N : Int) + 1) = (N : Int) + 1 := IntWalk.i64_in _ (by omega)
      go_wp2_with fail
      refine (HS.out _ (HL.out.keep (by (repeat' (first | (with_reducible exact Below.refl _ _) | (with_reducible assumption) | (with_reducible refine Below.next ?_ (by with_reducible assumption)) | (with_reducible refine Below.drew ?_) | (with_reducible refine Below.laid ?_ _) | (with_reducible refine Below.setCell ?_ ?_ _) | (with_reducible refine size_of ?_) | (with_reducible refine Nat.le_succ_of_le ?_) | go_size))))).mono ?_
      rintro e w2 ⟨rfl, hb2⟩
      have hB2 := hB.keep hb2
      obtain ⟨⟨f0, f1⟩, _⟩ := hB2.cells2
      replace g0 := cell_keep hb2 g0
      replace g1 := cell_keep hb2 g1
      replace g2 := cell_keep hb2 g2
      replace g3 := cell_keep hb2 g3
      go_wp2_with fail
      go_region_law (go_simp; go_at_call 20; refine (HT.out _ (HSS.out.keep (by (repeat' (first | (with_reducible exact Below.refl _ _) | (with_reducible assumption) | (with_reducible refine Below.next ?_ (by with_reducible assumption)) | (with_reducible refine Below.drew ?_) | (with_reducible refine Below.laid ?_ _) | (with_reducible refine Below.setCell ?_ ?_ _) | (with_reducible refine size_of ?_) | (with_reducible refine Nat.le_succ_of_le ?_) | go_size)))) (HTT.out.keep (by (repeat' (first | (with_reducible exact Below.refl _ _) | (with_reducible assumption) | (with_reducible refine Below.next ?_ (by with_reducible assumption)) | (with_reducible refine Below.drew ?_) | (with_reducible refine Below.laid ?_ _) | (with_reducible refine Below.setCell ?_ ?_ _) | (with_reducible refine size_of ?_) | (with_reducible refine Nat.le_succ_of_le ?_) | go_size))))).mono ?_; rintro e w3 ⟨rfl, hb3⟩)
      all_goals
        cases S <;> cases T
        all_goals
          go_wp2
          go_roundw
          case rel => exact ⟨k + 1, by omega, by go_num, by rw [HY.out]; simp, by rw [HN.out]; simp, by (repeat' (first | (with_reducible exact Below.refl _ _) | (with_reducible assumption) | (with_reducible refine Below.next ?_ (by with_reducible assumption)) | (with_reducible refine Below.drew ?_) | (with_reducible refine Below.laid ?_ _) | (with_reducible refine Below.setCell ?_ ?_ _) | (with_reducible refine size_of ?_) | (with_reducible refine Nat.le_succ_of_le ?_) | go_size)), Below.next (Below.next hbz hb2) (Below.next (Below.drew (Below.refl _ _)) hb3), hB2.drew.keep hb3⟩
          case measure => simp [intOf]; omega
    · obtain rfl : k = LL.length := by omega
      rw [List.take_length]
      go_wp2
      go_ret2
      exact ⟨rfl, hb⟩
end Go.Proofs.YtcecbpbpknphjaaDoor
