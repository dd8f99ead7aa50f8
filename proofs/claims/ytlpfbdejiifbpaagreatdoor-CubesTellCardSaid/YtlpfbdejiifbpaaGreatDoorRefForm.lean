/-
  THE WALK of the reference's Form.
-/
import Derived.Test.YtlpfbdejiifbpaaGreatDoorRefAtom
import Derived.Test.YtlpfbdejiifbpaaGreatDoorForm
namespace Go.Proofs.YtlpfbdejiifbpaaGreatDoor
open Go.RowKit

theorem codeOk_no {n s : Int} (hn : n ≤ 6) (h : Venn.codeOk n s = false) : s < 0 ∨ (¬ s < 0 ∧ 13 < s) ∨ (¬ s < 0 ∧ ¬ 13 < s ∧ s < 10 ∧ n ≤ s) := by
  by_cases h0 : s < 0
  · exact .inl h0
  by_cases h13 : 13 < s
  · exact .inr (.inl ⟨h0, h13⟩)
  by_cases h10 : s < 10
  · by_cases hs : n ≤ s
    · exact .inr (.inr ⟨h0, h13, h10, hs⟩)
    · exfalso
      have h1 : Venn.fSign s = true := by simp [Venn.fSign]; omega
      rw [Venn.codeOk, h1] at h
      simp at h
      omega
  · exfalso
    rcases (by omega : s = 10 ∨ s = 11 ∨ s = 12 ∨ s = 13) with rfl | rfl | rfl | rfl
    all_goals simp [Venn.codeOk, Venn.fSign, Venn.fTakes] at h

set_option maxHeartbeats 4000000 in
set_option maxRecDepth 100000 in
theorem ref_Form (sa sc : Value) (l : List Venn.Atom) (c : List Int) (w : World) (ha : IsAtoms w sa l) (hc : IsInts w sc c) :
    Calls Tryz.prog 10 #[.agg #[sa, sc]] w (Keeps (.int .i64 (Venn.formChk ⟨l, c⟩)) w) := by
  obtain ⟨A, cA, rfl, hra, hla, hlb⟩ := ha
  have hlb' := hlb
  unfold maxLen at hlb'
  obtain ⟨C, cC, rfl, hrc, hlc, hld⟩ := hc
  obtain ⟨E, hE⟩ : ∃ E, E = Venn.formChk ⟨l, c⟩ := ⟨_, rfl⟩
  rw [← hE]
  have HA := Lib.hid (show IsAtoms w (.slice A l.length cA) l from ⟨A, cA, rfl, hra, hla, hlb⟩)
  have HC := Lib.hid (show IsInts w (.slice C c.length cC) c from ⟨C, cC, rfl, hrc, hlc, hld⟩)
  have HE := Lib.hid hE
  have HRA := Lib.hid hra
  have HRC := Lib.hid hrc
  clear hE hra hrc
  by_cases h1 : l.length = 0 ∨ c.length = 0
  · have HV := Lib.hid (show E = 5 by rw [HE.out, Venn.formChk, if_pos h1])
    rcases Nat.eq_zero_or_pos l.length with h0 | h0
    · have e1 : ((l.length : Int) == 0) = true := beq_iff_eq.2 (by omega)
      clear h1 h0
      go_enter Tryz.func10, Tryz.ntmps10
      go_wp2
      go_ret
      exact ⟨ret_int HV.out.symm, by (repeat' (first | (with_reducible exact Below.refl _ _) | (with_reducible assumption) | (with_reducible refine Below.next ?_ (by with_reducible assumption)) | (with_reducible refine Below.drew ?_) | (with_reducible refine Below.laid ?_ _) | (with_reducible refine Below.setCell ?_ ?_ _) | (with_reducible refine size_of ?_) | (with_reducible refine Nat.le_succ_of_le ?_) | go_size))⟩
    · have e1 : ((l.length : Int) == 0) = false := beq_eq_false_iff_ne.2 (by omega)
      have e2 : ((c.length : Int) == 0) = true := beq_iff_eq.2 (by omega)
      clear h1 h0
      go_enter Tryz.func10, Tryz.ntmps10
      go_wp2
      go_ret
      exact ⟨ret_int HV.out.symm, by (repeat' (first | (with_reducible exact Below.refl _ _) | (with_reducible assumption) | (with_reducible refine Below.next ?_ (by with_reducible assumption)) | (with_reducible refine Below.drew ?_) | (with_reducible refine Below.laid ?_ _) | (with_reducible refine Below.setCell ?_ ?_ _) | (with_reducible refine size_of ?_) | (with_reducible refine Nat.le_succ_of_le ?_) | go_size))⟩
  have e1 : ((l.length : Int) == 0) = false := beq_eq_false_iff_ne.2 (by omega)
  have e2 : ((c.length : Int) == 0) = false := beq_eq_false_iff_ne.2 (by omega)
  by_cases h2 : 6 < l.length ∨ 20 < c.length
  · have HV := Lib.hid (show E = 4 by rw [HE.out, Venn.formChk, if_neg h1, if_pos h2])
    clear h1
    rcases (by omega : 6 < l.length ∨ (¬ 6 < l.length ∧ 20 < c.length)) with h3 | ⟨h3, h4⟩
    · have h3' : (6 : Int) < (l.length : Int) := by omega
      go_enter Tryz.func10, Tryz.ntmps10
      go_wp2
      all_goals (first | (exfalso; omega) | (go_ret; exact ⟨ret_int HV.out.symm, by (repeat' (first | (with_reducible exact Below.refl _ _) | (with_reducible assumption) | (with_reducible refine Below.next ?_ (by with_reducible assumption)) | (with_reducible refine Below.drew ?_) | (with_reducible refine Below.laid ?_ _) | (with_reducible refine Below.setCell ?_ ?_ _) | (with_reducible refine size_of ?_) | (with_reducible refine Nat.le_succ_of_le ?_) | go_size))⟩))
    · have h3' : ¬ (6 : Int) < (l.length : Int) := by omega
      have h4' : (20 : Int) < (c.length : Int) := by omega
      go_enter Tryz.func10, Tryz.ntmps10
      go_wp2
      all_goals (first | (exfalso; omega) | (go_ret; exact ⟨ret_int HV.out.symm, by (repeat' (first | (with_reducible exact Below.refl _ _) | (with_reducible assumption) | (with_reducible refine Below.next ?_ (by with_reducible assumption)) | (with_reducible refine Below.drew ?_) | (with_reducible refine Below.laid ?_ _) | (with_reducible refine Below.setCell ?_ ?_ _) | (with_reducible refine size_of ?_) | (with_reducible refine Nat.le_succ_of_le ?_) | go_size))⟩))
  have HG := Lib.hid (show E = (if Venn.atomsChk l = 0 then Venn.codeChk l.length c else Venn.atomsChk l) by rw [HE.out, Venn.formChk, if_neg h1, if_neg h2])
  have h3' : ¬ (6 : Int) < (l.length : Int) := by omega
  have h4' : ¬ (20 : Int) < (c.length : Int) := by omega
  have h20 : c.length ≤ 20 := by omega
  have h6 : l.length ≤ 6 := by omega
  clear h1 h2
  go_enter Tryz.func10, Tryz.ntmps10
  go_wp2
  go_loopw [3] (fun i wr => ∃ k : Nat, k ≤ l.length ∧ i = .int .i64 k ∧ Below w.heap.size w wr ∧ Blk wr w.heap.size 25 #[.slice A l.length cA, .slice C c.length cC] ∧ E = (if Venn.atomsChk (l.drop k) = 0 then Venn.codeChk l.length c else Venn.atomsChk (l.drop k)))
    (fun i _ => l.length - (intOf i).toNat)
  case atStart => exact ⟨0, Nat.zero_le _, rfl, by (repeat' (first | (with_reducible exact Below.refl _ _) | (with_reducible assumption) | (with_reducible refine Below.next ?_ (by with_reducible assumption)) | (with_reducible refine Below.drew ?_) | (with_reducible refine Below.laid ?_ _) | (with_reducible refine Below.setCell ?_ ?_ _) | (with_reducible refine size_of ?_) | (with_reducible refine Nat.le_succ_of_le ?_) | go_size)), Blk.new _ _ _, by rw [List.drop_zero]; exact HG.out⟩
  case round =>
    obtain ⟨k, hk, rfl, hb, hB, hrest⟩ := hrel
    obtain ⟨wo, rfl⟩ : ∃ wo : World, wo = wr := ⟨_, rfl⟩
    have HR := Lib.hid hrest
    clear hrest
    have hBl := hB.lt
    have c0 := hB.cell 0
    have c1 := hB.cell 1
    simp at c0 c1
    by_cases hlt : k < l.length
    · obtain ⟨ad, sv, tv, rfl, g0, g1, g2, g3, hs, ht⟩ := HRA.out k _ (List.getElem?_eq_getElem hlt)
      have HD := Lib.hid (List.drop_eq_getElem_cons hlt)
      generalize l[k] = at_ at g0 g1 g2 g3 hs ht HD
      obtain ⟨aw, aS, aT, an⟩ := at_
      simp only at g0 g1 g2 g3 hs ht
      have d0 := cell_keep hb g0
      have d1 := cell_keep hb g1
      have d2 := cell_keep hb g2
      have d3 := cell_keep hb g3
      obtain ⟨sA, sN, rfl, hs⟩ := hs
      obtain ⟨tA, tN, rfl, ht⟩ := ht
      have HSS := Lib.hid (show IsInts w (.slice sA aS.length sN) aS from ⟨sA, sN, rfl, hs⟩)
      have HTT := Lib.hid (show IsInts w (.slice tA aT.length tN) aT from ⟨tA, tN, rfl, ht⟩)
      clear g0 g1 g2 g3 hs ht
      have hk1 : (k : Int) < (l.length : Int) := by omega
      have hk0 : (0 : Int) ≤ (k : Int) := by omega
      by_cases hz : Venn.atomChk ⟨aw, aS, aT, an⟩ = 0
      · have HZ := Lib.hid hz
        have HV := Lib.hid (show E = (if Venn.atomsChk (l.drop (k + 1)) = 0 then Venn.codeChk l.length c else Venn.atomsChk (l.drop (k + 1))) by rw [HR.out, HD.out, Venn.atomsChk, if_pos hz])
        clear hz
        go_wp2_with fail
        refine (ref_Atom _ _ _ _ aS aT _ (HSS.out.keep (by (repeat' (first | (with_reducible exact Below.refl _ _) | (with_reducible assumption) | (with_reducible refine Below.next ?_ (by with_reducible assumption)) | (with_reducible refine Below.drew ?_) | (with_reducible refine Below.laid ?_ _) | (with_reducible refine Below.setCell ?_ ?_ _) | (with_reducible refine size_of ?_) | (with_reducible refine Nat.le_succ_of_le ?_) | go_size)))) (HTT.out.keep (by (repeat' (first | (with_reducible exact Below.refl _ _) | (with_reducible assumption) | (with_reducible refine Below.next ?_ (by with_reducible assumption)) | (with_reducible refine Below.drew ?_) | (with_reducible refine Below.laid ?_ _) | (with_reducible refine Below.setCell ?_ ?_ _) | (with_reducible refine size_of ?_) | (with_reducible refine Nat.le_succ_of_le ?_) | go_size))))).mono ?_
        rintro e w1 ⟨rfl, hb1⟩
        rw [HZ.out]
        go_wp2
        go_roundw
        case rel => exact ⟨k + 1, by omega, by go_num, by (repeat' (first | (with_reducible exact Below.refl _ _) | (with_reducible assumption) | (with_reducible refine Below.next ?_ (by with_reducible assumption)) | (with_reducible refine Below.drew ?_) | (with_reducible refine Below.laid ?_ _) | (with_reducible refine Below.setCell ?_ ?_ _) | (with_reducible refine size_of ?_) | (with_reducible refine Nat.le_succ_of_le ?_) | go_size)), hB.keep hb1, HV.out⟩
        case measure => simp [intOf]; omega
      · have HV := Lib.hid (show E = Venn.atomChk ⟨aw, aS, aT, an⟩ by rw [HR.out, HD.out, Venn.atomsChk, if_neg hz, if_neg hz])
        have hq : (Venn.atomChk ⟨aw, aS, aT, an⟩ != 0) = true := by simpa using hz
        have HAT := Lib.hid (fun W h1 h2 => ref_Atom aw an (.slice sA aS.length sN) (.slice tA aT.length tN) aS aT W h1 h2)
        clear hz
        generalize Venn.atomChk ⟨aw, aS, aT, an⟩ = EA at HV hq HAT
        go_wp2_with fail
        refine (HAT.out _ (HSS.out.keep (by (repeat' (first | (with_reducible exact Below.refl _ _) | (with_reducible assumption) | (with_reducible refine Below.next ?_ (by with_reducible assumption)) | (with_reducible refine Below.drew ?_) | (with_reducible refine Below.laid ?_ _) | (with_reducible refine Below.setCell ?_ ?_ _) | (with_reducible refine size_of ?_) | (with_reducible refine Nat.le_succ_of_le ?_) | go_size)))) (HTT.out.keep (by (repeat' (first | (with_reducible exact Below.refl _ _) | (with_reducible assumption) | (with_reducible refine Below.next ?_ (by with_reducible assumption)) | (with_reducible refine Below.drew ?_) | (with_reducible refine Below.laid ?_ _) | (with_reducible refine Below.setCell ?_ ?_ _) | (with_reducible refine size_of ?_) | (with_reducible refine Nat.le_succ_of_le ?_) | go_size))))).mono ?_
        rintro e w1 ⟨rfl, hb1⟩
        go_wp2
        go_ret
        exact ⟨ret_int HV.out.symm, by (repeat' (first | (with_reducible exact Below.refl _ _) | (with_reducible assumption) | (with_reducible refine Below.next ?_ (by with_reducible assumption)) | (with_reducible refine Below.drew ?_) | (with_reducible refine Below.laid ?_ _) | (with_reducible refine Below.setCell ?_ ?_ _) | (with_reducible refine size_of ?_) | (with_reducible refine Nat.le_succ_of_le ?_) | go_size))⟩
    · have hd : l.drop k = [] := List.drop_eq_nil_of_le (by omega)
      have HV := Lib.hid (show E = (if c.all (Venn.codeOk l.length) = true then (if Venn.fShape 0 c = true then 0 else 3) else 1) by rw [HR.out, hd]; rfl)
      clear hd HR
      go_wp2
      go_loopw [5] (fun i wr => ∃ k : Nat, k ≤ c.length ∧ i = .int .i64 k ∧ Below w.heap.size w wr ∧ Blk wr w.heap.size 25 #[.slice A l.length cA, .slice C c.length cC] ∧ E = (if (c.drop k).all (Venn.codeOk l.length) = true then (if Venn.fShape 0 c = true then 0 else 3) else 1) ∧ (∀ y ∈ c.take k, Venn.codeOk l.length y = true))
        (fun i _ => c.length - (intOf i).toNat)
      case atStart => exact ⟨0, Nat.zero_le _, rfl, hb, hB, by rw [List.drop_zero]; exact HV.out, by simp⟩
      case round =>
        clear c0 c1 hb hB hBl HV hlt hk
        obtain ⟨k, hk, rfl, hb, hB, hrest, hgood⟩ := hrel
        obtain ⟨wo, rfl⟩ : ∃ wo : World, wo = wr := ⟨_, rfl⟩
        have HR := Lib.hid hrest
        have HGD := Lib.hid hgood
        clear hrest hgood
        have c0 := hB.cell 0
        have c1 := hB.cell 1
        simp at c0 c1
        by_cases hlt : k < c.length
        · obtain ⟨ad, rfl, hcell0⟩ := HRC.out.int hlt
          have hcell := cell_keep hb hcell0
          have HD := Lib.hid (List.drop_eq_getElem_cons hlt)
          have HT := Lib.hid (List.take_succ_eq_append_getElem hlt)
          generalize c[k] = s at hcell hcell0 HD HT
          clear hcell0
          have hk1 : (k : Int) < (c.length : Int) := by omega
          have hk0 : (0 : Int) ≤ (k : Int) := by omega
          cases hok : Venn.codeOk l.length s
          · have HV := Lib.hid (show E = 1 by rw [HR.out, HD.out, List.all_cons, hok]; rfl)
            rcases codeOk_no (by omega) hok with hx | ⟨hx, hx2⟩ | ⟨hx, hx2, hx3, hx4⟩
            all_goals
              clear hok
              go_wp2
              go_ret
              exact ⟨ret_int HV.out.symm, by (repeat' (first | (with_reducible exact Below.refl _ _) | (with_reducible assumption) | (with_reducible refine Below.next ?_ (by with_reducible assumption)) | (with_reducible refine Below.drew ?_) | (with_reducible refine Below.laid ?_ _) | (with_reducible refine Below.setCell ?_ ?_ _) | (with_reducible refine size_of ?_) | (with_reducible refine Nat.le_succ_of_le ?_) | go_size))⟩
          · have HV := Lib.hid (show E = (if (c.drop (k + 1)).all (Venn.codeOk l.length) = true then (if Venn.fShape 0 c = true then 0 else 3) else 1) by rw [HR.out, HD.out, List.all_cons, hok, Bool.true_and])
            have HW := Lib.hid (show ∀ y ∈ c.take (k + 1), Venn.codeOk l.length y = true by
              intro y hy
              rw [HT.out] at hy
              rcases List.mem_append.1 hy with h | h
              · exact HGD.out y h
              · rw [List.mem_singleton.1 h]; exact hok)
            rcases (by rcases Venn.codeOk_cases hok with h | h | h | h | h <;> omega : (10 ≤ s ∧ s ≤ 13) ∨ (0 ≤ s ∧ s < 10 ∧ s < (l.length : Int))) with ⟨hx1, hx2⟩ | ⟨hx1, hx2, hx3⟩
            · have hy1 : ¬ s < 0 := by omega
              have hy2 : ¬ 13 < s := by omega
              have hy3 : ¬ s < 10 := by omega
              clear hok
              go_wp2
              go_roundw
              case rel => exact ⟨k + 1, by omega, by go_num, hb, hB, HV.out, HW.out⟩
              case measure => simp [intOf]; omega
            · have hy1 : ¬ s < 0 := by omega
              have hy2 : ¬ 13 < s := by omega
              have hy4 : ¬ (l.length : Int) ≤ s := by omega
              clear hok
              go_wp2
              go_roundw
              case rel => exact ⟨k + 1, by omega, by go_num, hb, hB, HV.out, HW.out⟩
              case measure => simp [intOf]; omega
        · have hd : c.drop k = [] := List.drop_eq_nil_of_le (by omega)
          have hkc : k = c.length := by omega
          have HV := Lib.hid (show E = (if Venn.fShape 0 c = true then 0 else 3) by rw [HR.out, hd]; rfl)
          have HOK := Lib.hid (show ∀ y ∈ c, Venn.codeOk l.length y = true from fun y hy => HGD.out y (by rw [hkc, List.take_length]; exact hy))
          clear hd HR HGD
          go_wp2
          go_loopw [7, 8] (fun m i wr => ∃ (k : Nat) (M : Int), k ≤ c.length ∧ m = .int .i64 M ∧ i = .int .i64 k ∧ 0 ≤ M ∧ M ≤ k ∧ Below w.heap.size w wr ∧ Blk wr w.heap.size 25 #[.slice A l.length cA, .slice C c.length cC] ∧ E = (if Venn.fShape M (c.drop k) = true then 0 else 3))
            (fun _ i _ => c.length - (intOf i).toNat)
          case atStart => exact ⟨0, 0, Nat.zero_le _, rfl, rfl, by omega, by simp, hb, hB, by rw [List.drop_zero]; exact HV.out⟩
          case round =>
            clear c0 c1 hb hB HV hlt hk hkc
            obtain ⟨k, M, hk, rfl, rfl, hM0, hMk, hb, hB, hrest⟩ := hrel
            obtain ⟨wo, rfl⟩ : ∃ wo : World, wo = wr := ⟨_, rfl⟩
            have HR := Lib.hid hrest
            clear hrest
            have c0 := hB.cell 0
            have c1 := hB.cell 1
            simp at c0 c1
            by_cases hlt : k < c.length
            · obtain ⟨ad, rfl, hcell0⟩ := HRC.out.int hlt
              have hcell := cell_keep hb hcell0
              have HD := Lib.hid (List.drop_eq_getElem_cons hlt)
              have hok := HOK.out _ (List.getElem_mem hlt)
              generalize c[k] = s at hcell hcell0 HD hok
              clear hcell0
              have hk1 : (k : Int) < (c.length : Int) := by omega
              have hk0 : (0 : Int) ≤ (k : Int) := by omega
              by_cases h10 : s < 10
              · have ht : Venn.fTakes s = 0 := by unfold Venn.fTakes; rw [if_neg (by omega), if_neg (by omega)]
                have HN := Lib.hid (show E = (if Venn.fShape (M + 1) (c.drop (k + 1)) = true then 0 else 3) by rw [HR.out, HD.out, Venn.fShape, ht, if_neg (show ¬ M < 0 by omega), show M + (1 - 0 : Int) = M + 1 by omega])
                have hw : IntKind.i64.wrap (M + 1) = M + 1 := IntWalk.i64_in _ (by omega)
                clear ht hok
                go_wp2
                go_roundw
                case rel => exact ⟨k + 1, M + 1, by omega, rfl, by go_num, by omega, by omega, hb, hB, HN.out⟩
                case measure => simp [intOf]; omega
              · by_cases h12 : s = 12
                · subst h12
                  clear hok
                  by_cases hm : M < 1
                  · have HN := Lib.hid (show E = 3 by rw [HR.out, HD.out, Venn.fShape, if_pos (show M < Venn.fTakes 12 from hm)]; rfl)
                    go_wp2
                    go_ret
                    exact ⟨ret_int HN.out.symm, hb⟩
                  · have HN := Lib.hid (show E = (if Venn.fShape M (c.drop (k + 1)) = true then 0 else 3) by
                      rw [HR.out, HD.out, Venn.fShape, if_neg (show ¬ M < Venn.fTakes 12 from hm), show M + (1 - Venn.fTakes 12) = M by show M + (1 - 1) = M; omega])
                    go_wp2
                    go_roundw
                    case rel => exact ⟨k + 1, M, by omega, rfl, by go_num, by omega, by omega, hb, hB, HN.out⟩
                    case measure => simp [intOf]; omega
                · have h3 : s = 10 ∨ s = 11 ∨ s = 13 := by rcases Venn.codeOk_cases hok with h | h | h | h | h <;> omega
                  have ht : Venn.fTakes s = 2 := by unfold Venn.fTakes; rw [if_neg h12, if_pos h3]
                  have hq : (s != 12) = true := by simpa using h12
                  by_cases hm : M < 2
                  · have HN := Lib.hid (show E = 3 by rw [HR.out, HD.out, Venn.fShape, ht, if_pos hm]; rfl)
                    clear ht hok h12 h3
                    rcases (by omega : M < 1 ∨ ¬ M < 1) with hm1 | hm1
                    all_goals
                      go_wp2
                      go_ret
                      exact ⟨ret_int HN.out.symm, hb⟩
                  · have HN := Lib.hid (show E = (if Venn.fShape (M - 1) (c.drop (k + 1)) = true then 0 else 3) by rw [HR.out, HD.out, Venn.fShape, ht, if_neg hm, show M + (1 - 2 : Int) = M - 1 by omega])
                    have hm1 : ¬ M < 1 := by omega
                    have hw : IntKind.i64.wrap (M - 1) = M - 1 := IntWalk.i64_in _ (by omega)
                    clear ht hok h12 h3
                    go_wp2
                    go_roundw
                    case rel => exact ⟨k + 1, M - 1, by omega, rfl, by go_num, by omega, by omega, hb, hB, HN.out⟩
                    case measure => simp [intOf]; omega
            · have HN := Lib.hid (show E = if M = 1 then 0 else 3 by
                rw [HR.out, List.drop_eq_nil_of_le (by omega), Venn.fShape]
                simp)
              by_cases hm : M = 1
              · subst hm
                go_wp2
                go_ret
                exact ⟨ret_int (by rw [HN.out]; rfl), hb⟩
              · have hne : (M != 1) = true := by simpa using hm
                go_wp2
                go_ret
                exact ⟨ret_int (by rw [HN.out, if_neg hm]), hb⟩
end Go.Proofs.YtlpfbdejiifbpaaGreatDoor
