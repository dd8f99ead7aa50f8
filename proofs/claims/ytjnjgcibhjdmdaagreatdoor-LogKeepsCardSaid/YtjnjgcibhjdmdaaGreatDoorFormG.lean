/-
  WORDS FOR FORMULAS IN MEMORY, and the walks of form.Takes, form.shape, form.Check.
  THE WALK of form.True: the stack of answers.
  THE WALKS of package some, of alike.Name and vennlaw4.atomOf.
-/
import Derived.Test.YtjnjgcibhjdmdaaGreatDoorVennP1
import Derived.Test.YtjnjgcibhjdmdaaGreatDoorAtomG
import Derived.StillTailTactics
import Derived.WalkSmall
import Derived.Deep.RegionLaw
import Derived.Deep.AppendLies
namespace Go.Proofs.YtjnjgcibhjdmdaaGreatDoor
open Go.RowKit

/-- A slice of atoms reads as l. -/
def IsAtoms (w : World) (v : Value) (l : List Venn.Atom) : Prop :=
  ∃ A c, v = .slice A l.length c ∧ (∀ (k : Nat) (a : Venn.Atom), l[k]? = some a → ∃ ad sv tv, A = some ad ∧ w.cell? (ad.add (k * 4)) = some (.int .i64 a.what) ∧ w.cell? ⟨(ad.add (k * 4)).block, (ad.add (k * 4)).off + 1, none⟩ = some sv ∧
    w.cell? ⟨(ad.add (k * 4)).block, (ad.add (k * 4)).off + 2, none⟩ = some tv ∧ w.cell? ⟨(ad.add (k * 4)).block, (ad.add (k * 4)).off + 3, none⟩ = some (.int .i64 a.n) ∧ IsInts w sv a.s ∧ IsInts w tv a.t) ∧ l.length ≤ c ∧ c ≤ maxLen
theorem IsAtoms.keep {w w' : World} {v : Value} {l : List Venn.Atom} (h : IsAtoms w v l) (hb : Below w.heap.size w w') : IsAtoms w' v l := by
  obtain ⟨A, c, hv, hr, hc⟩ := h
  refine ⟨A, c, hv, fun k a ha => ?_, hc⟩
  obtain ⟨ad, sv, tv, e, h0, h1, h2, h3, hs, ht⟩ := hr k a ha
  exact ⟨ad, sv, tv, e, cell_keep hb h0, cell_keep hb h1, cell_keep hb h2, cell_keep hb h3, hs.keep hb, ht.keep hb⟩
theorem IsAtoms.nil (w : World) : IsAtoms w (.slice none 0 0) [] := ⟨none, 0, rfl, fun k a h => by simp at h, Nat.le_refl _, by simp⟩

theorem form_Takes (s : Int) (w : World) : Calls Tryz.prog 63 #[.int .i64 s] w (Pure (.tuple #[.int .i64 (Venn.fTakes s), .bool (Venn.fSign s)]) w) := by
  by_cases h12 : s = 12
  · subst h12
    go_enter Tryz.func63, Tryz.ntmps63
    go_wp2
    go_ret2
    exact ⟨rfl, rfl⟩
  by_cases h10 : s = 10
  · subst h10
    go_enter Tryz.func63, Tryz.ntmps63
    go_wp2
    go_ret2
    exact ⟨rfl, rfl⟩
  by_cases h11 : s = 11
  · subst h11
    go_enter Tryz.func63, Tryz.ntmps63
    go_wp2
    go_ret2
    exact ⟨rfl, rfl⟩
  by_cases h13 : s = 13
  · subst h13
    go_enter Tryz.func63, Tryz.ntmps63
    go_wp2
    go_ret2
    exact ⟨rfl, rfl⟩
  have e12 : (s == 12) = false := by simpa using h12
  have e10 : (s == 10) = false := by simpa using h10
  have e11 : (s == 11) = false := by simpa using h11
  have e13 : (s == 13) = false := by simpa using h13
  have HT : Venn.fTakes s = 0 := by rw [Venn.fTakes, if_neg h12, if_neg (by omega)]
  by_cases h6 : 0 ≤ s ∧ s < 6
  · have HV : Venn.fSign s = true := by simp [Venn.fSign]; omega
    rw [HT, HV]
    obtain ⟨h0, h6⟩ := h6
    clear HT HV h12 h10 h11 h13
    go_enter Tryz.func63, Tryz.ntmps63
    go_wp2
    all_goals (first | (exfalso; omega) | (go_ret2; exact ⟨rfl, rfl⟩))
  · have HV : Venn.fSign s = false := by
      simp only [Venn.fSign, Bool.or_eq_false_iff, decide_eq_false_iff_not]
      omega
    rw [HT, HV]
    rcases (by omega : s < 0 ∨ (0 ≤ s ∧ ¬ s < 6)) with h0 | ⟨h0, h6⟩
    all_goals
      clear HT HV h12 h10 h11 h13
      go_enter Tryz.func63, Tryz.ntmps63
      go_wp2
      all_goals (first | (exfalso; omega) | (go_ret2; exact ⟨rfl, rfl⟩))

set_option maxHeartbeats 1000000 in
theorem form_shape (v : Value) (c : List Int) (w : World) (hc : IsInts w v c) (hlen : c.length ≤ 20) : Calls Tryz.prog 64 #[v] w (Keeps (.bool (Venn.fShape 0 c)) w) := by
  obtain ⟨A, cp, rfl, hr, hlc, hcc⟩ := hc
  obtain ⟨E, hE⟩ : ∃ E, E = Venn.fShape 0 c := ⟨_, rfl⟩
  rw [← hE]
  have HE := Lib.hid hE
  clear hE
  go_enter Tryz.func64, Tryz.ntmps64
  go_wp2
  go_loopw [3, 10] (fun m i wr => ∃ (k : Nat) (M : Int), k ≤ c.length ∧ m = .int .i64 M ∧ i = .int .i64 k ∧ -1 ≤ M ∧ M ≤ k ∧ Below w.heap.size w wr ∧ E = Venn.fShape M (c.drop k)) (fun _ i _ => c.length - (intOf i).toNat)
  case atStart => exact ⟨0, 0, Nat.zero_le _, rfl, rfl, by omega, by simp, by (repeat' (first | (with_reducible exact Below.refl _ _) | (with_reducible assumption) | (with_reducible refine Below.next ?_ (by with_reducible assumption)) | (with_reducible refine Below.drew ?_) | (with_reducible refine Below.laid ?_ _) | (with_reducible refine Below.setCell ?_ ?_ _) | (with_reducible refine size_of ?_) | (with_reducible refine Nat.le_succ_of_le ?_) | go_size)), by rw [List.drop_zero]; exact HE.out⟩
  case round =>
    obtain ⟨k, M, hk, rfl, rfl, hM0, hM1, hb, hrest⟩ := hrel
    have HR := Lib.hid hrest
    clear hrest
    by_cases hlt : k < c.length
    · obtain ⟨ad, rfl, hcell0⟩ := hr.int hlt
      have hcell := cell_keep hb hcell0
      have HD := Lib.hid (List.drop_eq_getElem_cons hlt)
      generalize c[k] = s at hcell hcell0 HD
      clear hcell0
      have h012 := Venn.fTakes_012 s
      by_cases hm : M < Venn.fTakes s
      · have HV := Lib.hid (show E = false by rw [HR.out, HD.out, Venn.fShape, if_pos hm])
        have htk := form_Takes s
        have HTK := Lib.hid htk
        clear htk
        generalize Venn.fTakes s = T at hm h012 HTK
        have hk1 : (k : Int) < (c.length : Int) := by omega
        have hk0 : (0 : Int) ≤ (k : Int) := by omega
        go_wp2_with (go_at_call 63; refine (HTK.out _).mono ?_; rintro e w' ⟨rfl, rfl⟩)
        go_ret
        exact ⟨ret_bool HV.out.symm, hb⟩
      · have HV := Lib.hid (show E = Venn.fShape (M + (1 - Venn.fTakes s)) (c.drop (k + 1)) by rw [HR.out, HD.out, Venn.fShape, if_neg hm])
        have htk := form_Takes s
        have HTK := Lib.hid htk
        clear htk
        generalize Venn.fTakes s = T at hm h012 HV HTK
        have hw1 : IntKind.i64.wrap (1 - T) = 1 - T := IntWalk.i64_in _ (by omega)
        have hw2 : IntKind.i64.wrap (M + (1 - T)) = M + (1 - T) := IntWalk.i64_in _ (by omega)
        have hk1 : (k : Int) < (c.length : Int) := by omega
        have hk0 : (0 : Int) ≤ (k : Int) := by omega
        go_wp2_with (go_at_call 63; refine (HTK.out _).mono ?_; rintro e w' ⟨rfl, rfl⟩)
        go_roundw
        case rel => exact ⟨k + 1, M + (1 - T), by omega, rfl, by go_num, by omega, by omega, hb, HV.out⟩
        case measure => simp [intOf]; omega
    · have hd : c.drop k = [] := List.drop_eq_nil_of_le (by omega)
      have HV := Lib.hid (show E = decide (M = 1) by rw [HR.out, hd, Venn.fShape])
      clear hd
      go_wp2
      go_ret
      exact ⟨ret_bool (by rw [HV.out]; rfl), hb⟩

set_option maxHeartbeats 4000000 in
set_option maxRecDepth 100000 in
theorem form_Check (sa sc : Value) (l : List Venn.Atom) (c : List Int) (w : World) (ha : IsAtoms w sa l) (hc : IsInts w sc c) (hk : KindsOk w) :
    Calls Tryz.prog 37 #[.agg #[sa, sc]] w (Keeps (errV (Venn.formChk ⟨l, c⟩)) w) := by
  obtain ⟨A, cA, rfl, hra, hla, hlb⟩ := ha
  have hlb' := hlb
  unfold maxLen at hlb'
  obtain ⟨C, cC, rfl, hrc, hlc, hld⟩ := hc
  obtain ⟨E, hE⟩ : ∃ E, E = errV (Venn.formChk ⟨l, c⟩) := ⟨_, rfl⟩
  rw [← hE]
  have HA := Lib.hid (show IsAtoms w (.slice A l.length cA) l from ⟨A, cA, rfl, hra, hla, hlb⟩)
  have HC := Lib.hid (show IsInts w (.slice C c.length cC) c from ⟨C, cC, rfl, hrc, hlc, hld⟩)
  have HE := Lib.hid hE
  have HK := Lib.hid hk
  have HRA := Lib.hid hra
  have HRC := Lib.hid hrc
  clear hE hk hra hrc
  by_cases h1 : l.length = 0 ∨ c.length = 0
  · have HV := Lib.hid (show E = .iface 59 (.int .i64 5) by rw [HE.out, Venn.formChk, if_pos h1]; rfl)
    rcases Nat.eq_zero_or_pos l.length with h0 | h0
    · have e1 : ((l.length : Int) == 0) = true := beq_iff_eq.2 (by omega)
      clear h1 h0
      go_enter Tryz.func37, Tryz.ntmps37
      go_wp2
      go_ret
      exact ⟨congrArg Ending.returned HV.out.symm, by (repeat' (first | (with_reducible exact Below.refl _ _) | (with_reducible assumption) | (with_reducible refine Below.next ?_ (by with_reducible assumption)) | (with_reducible refine Below.drew ?_) | (with_reducible refine Below.laid ?_ _) | (with_reducible refine Below.setCell ?_ ?_ _) | (with_reducible refine size_of ?_) | (with_reducible refine Nat.le_succ_of_le ?_) | go_size))⟩
    · have e1 : ((l.length : Int) == 0) = false := beq_eq_false_iff_ne.2 (by omega)
      have e2 : ((c.length : Int) == 0) = true := beq_iff_eq.2 (by omega)
      clear h1 h0
      go_enter Tryz.func37, Tryz.ntmps37
      go_wp2
      go_ret
      exact ⟨congrArg Ending.returned HV.out.symm, by (repeat' (first | (with_reducible exact Below.refl _ _) | (with_reducible assumption) | (with_reducible refine Below.next ?_ (by with_reducible assumption)) | (with_reducible refine Below.drew ?_) | (with_reducible refine Below.laid ?_ _) | (with_reducible refine Below.setCell ?_ ?_ _) | (with_reducible refine size_of ?_) | (with_reducible refine Nat.le_succ_of_le ?_) | go_size))⟩
  have e1 : ((l.length : Int) == 0) = false := beq_eq_false_iff_ne.2 (by omega)
  have e2 : ((c.length : Int) == 0) = false := beq_eq_false_iff_ne.2 (by omega)
  by_cases h2 : 6 < l.length ∨ 20 < c.length
  · have HV := Lib.hid (show E = .iface 59 (.int .i64 4) by rw [HE.out, Venn.formChk, if_neg h1, if_pos h2]; rfl)
    clear h1
    rcases (by omega : 6 < l.length ∨ (¬ 6 < l.length ∧ 20 < c.length)) with h3 | ⟨h3, h4⟩
    · have h3' : (6 : Int) < (l.length : Int) := by omega
      go_enter Tryz.func37, Tryz.ntmps37
      go_wp2
      all_goals (first | (exfalso; omega) | (go_ret; exact ⟨congrArg Ending.returned HV.out.symm, by (repeat' (first | (with_reducible exact Below.refl _ _) | (with_reducible assumption) | (with_reducible refine Below.next ?_ (by with_reducible assumption)) | (with_reducible refine Below.drew ?_) | (with_reducible refine Below.laid ?_ _) | (with_reducible refine Below.setCell ?_ ?_ _) | (with_reducible refine size_of ?_) | (with_reducible refine Nat.le_succ_of_le ?_) | go_size))⟩))
    · have h3' : ¬ (6 : Int) < (l.length : Int) := by omega
      have h4' : (20 : Int) < (c.length : Int) := by omega
      go_enter Tryz.func37, Tryz.ntmps37
      go_wp2
      all_goals (first | (exfalso; omega) | (go_ret; exact ⟨congrArg Ending.returned HV.out.symm, by (repeat' (first | (with_reducible exact Below.refl _ _) | (with_reducible assumption) | (with_reducible refine Below.next ?_ (by with_reducible assumption)) | (with_reducible refine Below.drew ?_) | (with_reducible refine Below.laid ?_ _) | (with_reducible refine Below.setCell ?_ ?_ _) | (with_reducible refine size_of ?_) | (with_reducible refine Nat.le_succ_of_le ?_) | go_size))⟩))
  have HG := Lib.hid (show E = errV (if Venn.atomsChk l = 0 then Venn.codeChk l.length c else Venn.atomsChk l) by rw [HE.out, Venn.formChk, if_neg h1, if_neg h2])
  have h3' : ¬ (6 : Int) < (l.length : Int) := by omega
  have h4' : ¬ (20 : Int) < (c.length : Int) := by omega
  have h20 : c.length ≤ 20 := by omega
  clear h1 h2
  go_enter Tryz.func37, Tryz.ntmps37
  go_wp2
  go_loopw [37] (fun i wr => ∃ k : Nat, k ≤ l.length ∧ i = .int .i64 k ∧ Below w.heap.size w wr ∧ Blk wr w.heap.size 38 #[.slice A l.length cA, .slice C c.length cC] ∧ E = errV (if Venn.atomsChk (l.drop k) = 0 then Venn.codeChk l.length c else Venn.atomsChk (l.drop k)))
    (fun i _ => l.length - (intOf i).toNat)
  case atStart => exact ⟨0, Nat.zero_le _, rfl, by (repeat' (first | (with_reducible exact Below.refl _ _) | (with_reducible assumption) | (with_reducible refine Below.next ?_ (by with_reducible assumption)) | (with_reducible refine Below.drew ?_) | (with_reducible refine Below.laid ?_ _) | (with_reducible refine Below.setCell ?_ ?_ _) | (with_reducible refine size_of ?_) | (with_reducible refine Nat.le_succ_of_le ?_) | go_size)), Blk.new _ _ _, by rw [List.drop_zero]; exact HG.out⟩
  case round =>
    obtain ⟨k, hk, rfl, hb, hB, hrest⟩ := hrel
    obtain ⟨wo, rfl⟩ : ∃ wo : World, wo = wr := ⟨_, rfl⟩
    have HR := Lib.hid hrest
    clear hrest
    have hBl := hB.lt
    by_cases hlt : k < l.length
    · obtain ⟨ad, sv, tv, rfl, g0, g1, g2, g3, hs, ht⟩ := HRA.out k _ (List.getElem?_eq_getElem hlt)
      have HD := Lib.hid (List.drop_eq_getElem_cons hlt)
      generalize l[k] = at_ at g0 g1 g2 g3 hs ht HD
      obtain ⟨aw, aS, aT, an⟩ := at_
      simp only at g0 g1 g2 g3 hs ht
      have d0 := cell_keep hb g0
      have d1 := cell_keep hb g1
      have d2 := cell_keep hb g2
      have d3 := cell_keep hb g3
      obtain ⟨sA, sN, rfl, hs⟩ := hs
      obtain ⟨tA, tN, rfl, ht⟩ := ht
      have HSS := Lib.hid (show IsInts w (.slice sA aS.length sN) aS from ⟨sA, sN, rfl, hs⟩)
      have HTT := Lib.hid (show IsInts w (.slice tA aT.length tN) aT from ⟨tA, tN, rfl, ht⟩)
      clear g0 g1 g2 g3 hs ht
      have hk1 : (k : Int) < (l.length : Int) := by omega
      have hk0 : (0 : Int) ≤ (k : Int) := by omega
      by_cases hz : Venn.atomChk ⟨aw, aS, aT, an⟩ = 0
      · have HZ := Lib.hid (errV_zero hz)
        have HV := Lib.hid (show E = errV (if Venn.atomsChk (l.drop (k + 1)) = 0 then Venn.codeChk l.length c else Venn.atomsChk (l.drop (k + 1))) by rw [HR.out, HD.out, Venn.atomsChk, if_pos hz])
        clear hz
        go_wp2_with fail
        refine (atom_Check _ _ _ _ aS aT _ (HSS.out.keep (by (repeat' (first | (with_reducible exact Below.refl _ _) | (with_reducible assumption) | (with_reducible refine Below.next ?_ (by with_reducible assumption)) | (with_reducible refine Below.drew ?_) | (with_reducible refine Below.laid ?_ _) | (with_reducible refine Below.setCell ?_ ?_ _) | (with_reducible refine size_of ?_) | (with_reducible refine Nat.le_succ_of_le ?_) | go_size)))) (HTT.out.keep (by (repeat' (first | (with_reducible exact Below.refl _ _) | (with_reducible assumption) | (with_reducible refine Below.next ?_ (by with_reducible assumption)) | (with_reducible refine Below.drew ?_) | (with_reducible refine Below.laid ?_ _) | (with_reducible refine Below.setCell ?_ ?_ _) | (with_reducible refine size_of ?_) | (with_reducible refine Nat.le_succ_of_le ?_) | go_size)))) (HK.out.keep (by (repeat' (first | (with_reducible exact Below.refl _ _) | (with_reducible assumption) | (with_reducible refine Below.next ?_ (by with_reducible assumption)) | (with_reducible refine Below.drew ?_) | (with_reducible refine Below.laid ?_ _) | (with_reducible refine Below.setCell ?_ ?_ _) | (with_reducible refine size_of ?_) | (with_reducible refine Nat.le_succ_of_le ?_) | go_size))))).mono ?_
        rintro e w1 ⟨rfl, hb1⟩
        rw [HZ.out]
        go_wp2
        go_roundw
        case rel => exact ⟨k + 1, by omega, by go_num, by (repeat' (first | (with_reducible exact Below.refl _ _) | (with_reducible assumption) | (with_reducible refine Below.next ?_ (by with_reducible assumption)) | (with_reducible refine Below.drew ?_) | (with_reducible refine Below.laid ?_ _) | (with_reducible refine Below.setCell ?_ ?_ _) | (with_reducible refine size_of ?_) | (with_reducible refine Nat.le_succ_of_le ?_) | go_size)), (hB.alloc _).keep hb1, HV.out⟩
        case measure => simp [intOf]; omega
      · have HZ := Lib.hid (errV_ne hz)
        have HV := Lib.hid (show E = .iface 59 (.int .i64 (Venn.atomChk ⟨aw, aS, aT, an⟩)) by rw [HR.out, HD.out, Venn.atomsChk, if_neg hz, if_neg hz, errV_ne hz])
        clear hz
        go_wp2_with fail
        refine (atom_Check _ _ _ _ aS aT _ (HSS.out.keep (by (repeat' (first | (with_reducible exact Below.refl _ _) | (with_reducible assumption) | (with_reducible refine Below.next ?_ (by with_reducible assumption)) | (with_reducible refine Below.drew ?_) | (with_reducible refine Below.laid ?_ _) | (with_reducible refine Below.setCell ?_ ?_ _) | (with_reducible refine size_of ?_) | (with_reducible refine Nat.le_succ_of_le ?_) | go_size)))) (HTT.out.keep (by (repeat' (first | (with_reducible exact Below.refl _ _) | (with_reducible assumption) | (with_reducible refine Below.next ?_ (by with_reducible assumption)) | (with_reducible refine Below.drew ?_) | (with_reducible refine Below.laid ?_ _) | (with_reducible refine Below.setCell ?_ ?_ _) | (with_reducible refine size_of ?_) | (with_reducible refine Nat.le_succ_of_le ?_) | go_size)))) (HK.out.keep (by (repeat' (first | (with_reducible exact Below.refl _ _) | (with_reducible assumption) | (with_reducible refine Below.next ?_ (by with_reducible assumption)) | (with_reducible refine Below.drew ?_) | (with_reducible refine Below.laid ?_ _) | (with_reducible refine Below.setCell ?_ ?_ _) | (with_reducible refine size_of ?_) | (with_reducible refine Nat.le_succ_of_le ?_) | go_size))))).mono ?_
        rintro e w1 ⟨rfl, hb1⟩
        rw [HZ.out]
        go_wp2
        go_ret
        exact ⟨congrArg Ending.returned HV.out.symm, by (repeat' (first | (with_reducible exact Below.refl _ _) | (with_reducible assumption) | (with_reducible refine Below.next ?_ (by with_reducible assumption)) | (with_reducible refine Below.drew ?_) | (with_reducible refine Below.laid ?_ _) | (with_reducible refine Below.setCell ?_ ?_ _) | (with_reducible refine size_of ?_) | (with_reducible refine Nat.le_succ_of_le ?_) | go_size))⟩
    · have hd : l.drop k = [] := List.drop_eq_nil_of_le (by omega)
      have HV := Lib.hid (show E = errV (if c.all (Venn.codeOk l.length) = true then (if Venn.fShape 0 c = true then 0 else 3) else 1) by rw [HR.out, hd]; rfl)
      clear hd HR
      have c0 := hB.cell 0
      have c1 := hB.cell 1
      simp at c0 c1
      go_wp2
      go_loopw [50] (fun i wr => ∃ k : Nat, k ≤ c.length ∧ i = .int .i64 k ∧ Below w.heap.size w wr ∧ Blk wr w.heap.size 38 #[.slice A l.length cA, .slice C c.length cC] ∧ E = errV (if (c.drop k).all (Venn.codeOk l.length) = true then (if Venn.fShape 0 c = true then 0 else 3) else 1))
        (fun i _ => c.length - (intOf i).toNat)
      case atStart => exact ⟨0, Nat.zero_le _, rfl, hb, hB, by rw [List.drop_zero]; exact HV.out⟩
      case round =>
        clear c0 c1 hb hB hBl HV hlt hk
        obtain ⟨k, hk, rfl, hb, hB, hrest⟩ := hrel
        obtain ⟨wo, rfl⟩ : ∃ wo : World, wo = wr := ⟨_, rfl⟩
        have HR := Lib.hid hrest
        clear hrest
        have c0 := hB.cell 0
        have c1 := hB.cell 1
        simp at c0 c1
        by_cases hlt : k < c.length
        · obtain ⟨ad, rfl, hcell0⟩ := HRC.out.int hlt
          have hcell := cell_keep hb hcell0
          have HD := Lib.hid (List.drop_eq_getElem_cons hlt)
          generalize c[k] = s at hcell hcell0 HD
          clear hcell0
          have hk1 : (k : Int) < (c.length : Int) := by omega
          have hk0 : (0 : Int) ≤ (k : Int) := by omega
          have HTK := Lib.hid (form_Takes s)
          cases hok : Venn.codeOk l.length s
          · have HV := Lib.hid (show E = .iface 59 (.int .i64 1) by rw [HR.out, HD.out, List.all_cons, hok]; rfl)
            unfold Venn.codeOk at hok
            cases hsg : Venn.fSign s
            · rw [hsg] at HTK
              clear hok hsg
              generalize Venn.fTakes s = T at HTK
              go_wp2_with (go_at_call 63; refine (HTK.out _).mono ?_; rintro e w' ⟨rfl, rfl⟩)
              go_ret
              exact ⟨congrArg Ending.returned HV.out.symm, by (repeat' (first | (with_reducible exact Below.refl _ _) | (with_reducible assumption) | (with_reducible refine Below.next ?_ (by with_reducible assumption)) | (with_reducible refine Below.drew ?_) | (with_reducible refine Below.laid ?_ _) | (with_reducible refine Below.setCell ?_ ?_ _) | (with_reducible refine size_of ?_) | (with_reducible refine Nat.le_succ_of_le ?_) | go_size))⟩
            · have ht0 : Venn.fTakes s = 0 := by
                rw [hsg] at hok; simp at hok; exact hok.1
              have hge : (l.length : Int) ≤ s := by
                rw [hsg] at hok; simp at hok; exact hok.2
              rw [hsg, ht0] at HTK
              clear hok hsg ht0
              go_wp2_with (go_at_call 63; refine (HTK.out _).mono ?_; rintro e w' ⟨rfl, rfl⟩)
              all_goals (first | (exfalso; omega) | (go_ret; exact ⟨congrArg Ending.returned HV.out.symm, by (repeat' (first | (with_reducible exact Below.refl _ _) | (with_reducible assumption) | (with_reducible refine Below.next ?_ (by with_reducible assumption)) | (with_reducible refine Below.drew ?_) | (with_reducible refine Below.laid ?_ _) | (with_reducible refine Below.setCell ?_ ?_ _) | (with_reducible refine size_of ?_) | (with_reducible refine Nat.le_succ_of_le ?_) | go_size))⟩))
          · have HV := Lib.hid (show E = errV (if (c.drop (k + 1)).all (Venn.codeOk l.length) = true then (if Venn.fShape 0 c = true then 0 else 3) else 1) by rw [HR.out, HD.out, List.all_cons, hok, Bool.true_and])
            unfold Venn.codeOk at hok
            have hsg : Venn.fSign s = true := (Bool.and_eq_true_iff.1 hok).1
            rw [hsg] at HTK hok
            by_cases ht0 : Venn.fTakes s = 0
            · have hge : ¬ (l.length : Int) ≤ s := by
                rw [ht0] at hok; simp at hok; omega
              rw [ht0] at HTK
              clear hok hsg ht0
              go_wp2_with (go_at_call 63; refine (HTK.out _).mono ?_; rintro e w' ⟨rfl, rfl⟩)
              all_goals (try (exfalso; omega))
              go_roundw
              case rel => exact ⟨k + 1, by omega, by go_num, hb, hB, HV.out⟩
              case measure => simp [intOf]; omega
            · have hne : (Venn.fTakes s == 0) = false := by simpa using ht0
              clear hok hsg ht0
              generalize Venn.fTakes s = T at HTK hne
              go_wp2_with (go_at_call 63; refine (HTK.out _).mono ?_; rintro e w' ⟨rfl, rfl⟩)
              go_roundw
              case rel => exact ⟨k + 1, by omega, by go_num, hb, hB, HV.out⟩
              case measure => simp [intOf]; omega
        · have hd : c.drop k = [] := List.drop_eq_nil_of_le (by omega)
          have HV := Lib.hid (show E = errV (if Venn.fShape 0 c = true then 0 else 3) by rw [HR.out, hd]; rfl)
          clear hd
          cases hsh : Venn.fShape 0 c
          · have HF := Lib.hid (show E = .iface 59 (.int .i64 3) by rw [HV.out, hsh]; rfl)
            have HS := Lib.hid hsh
            clear hsh
            go_wp2_with (go_at_call 64; refine (form_shape _ c _ (HC.out.keep (by (repeat' (first | (with_reducible exact Below.refl _ _) | (with_reducible assumption) | (with_reducible refine Below.next ?_ (by with_reducible assumption)) | (with_reducible refine Below.drew ?_) | (with_reducible refine Below.laid ?_ _) | (with_reducible refine Below.setCell ?_ ?_ _) | (with_reducible refine size_of ?_) | (with_reducible refine Nat.le_succ_of_le ?_) | go_size)))) h20).mono ?_; rintro e w1 ⟨rfl, hb1⟩; rw [HS.out])
            go_ret
            exact ⟨congrArg Ending.returned HF.out.symm, by (repeat' (first | (with_reducible exact Below.refl _ _) | (with_reducible assumption) | (with_reducible refine Below.next ?_ (by with_reducible assumption)) | (with_reducible refine Below.drew ?_) | (with_reducible refine Below.laid ?_ _) | (with_reducible refine Below.setCell ?_ ?_ _) | (with_reducible refine size_of ?_) | (with_reducible refine Nat.le_succ_of_le ?_) | go_size))⟩
          · have HF := Lib.hid (show E = .nilIface by rw [HV.out, hsh]; rfl)
            have HS := Lib.hid hsh
            clear hsh
            go_wp2_with (go_at_call 64; refine (form_shape _ c _ (HC.out.keep (by (repeat' (first | (with_reducible exact Below.refl _ _) | (with_reducible assumption) | (with_reducible refine Below.next ?_ (by with_reducible assumption)) | (with_reducible refine Below.drew ?_) | (with_reducible refine Below.laid ?_ _) | (with_reducible refine Below.setCell ?_ ?_ _) | (with_reducible refine size_of ?_) | (with_reducible refine Nat.le_succ_of_le ?_) | go_size)))) h20).mono ?_; rintro e w1 ⟨rfl, hb1⟩; rw [HS.out])
            go_ret
            exact ⟨congrArg Ending.returned HF.out.symm, by (repeat' (first | (with_reducible exact Below.refl _ _) | (with_reducible assumption) | (with_reducible refine Below.next ?_ (by with_reducible assumption)) | (with_reducible refine Below.drew ?_) | (with_reducible refine Below.laid ?_ _) | (with_reducible refine Below.setCell ?_ ?_ _) | (with_reducible refine size_of ?_) | (with_reducible refine Nat.le_succ_of_le ?_) | go_size))⟩
end Go.Proofs.YtjnjgcibhjdmdaaGreatDoor

namespace Go.Proofs.YtjnjgcibhjdmdaaGreatDoor
open Go.RowKit

theorem bool_info : (Tryz.prog.info? 4).map (fun i => (i.zero, i.size, i.bytes)) = some (some (.bool false), 1, 1) := by kernel_rfl
/-- append(row, y): one answer onto a row of the call's own. -/
theorem wpList_app1b {ops : Array Oper} {rest : List Oper} {o : Oper} {a : Act} {Q : Exit → Act → World → Prop} (w : World) (hgd : o.guard = none) (s x : Operand)
    (ho : o.op = .call { callee := .builtin .append, args := #[s, x], argTypes := #[115, 115] })
    (base : Nat) (v : Value) (n : Nat) (xs : List Value) (hs : a.eval s = v) (hown : w.ownsRow base 4 1 v n xs)
    (g c : Nat) (y : Bool) (hx : a.eval x = .slice (some ⟨g, 0, none⟩) 1 c) (hy : w.cell? ⟨g, 0, none⟩ = some (.bool y)) (hn : n < 1099511627776) (hbase : base ≤ w.heap.size)
    (h : ∀ v' w', w'.ownsRow base 4 1 v' (n + 1) (xs ++ [.bool y]) → w.grownBy w' v.ownBlock → wpList Tryz.prog ops Q rest (a.put o.dst v') w') : wpList Tryz.prog ops Q (o :: rest) a w := by
  obtain ⟨i0, hi, hz0, hz1, hz2⟩ := info_parts bool_info
  refine wpList_append_own w hgd s x _ ho base _ i0 _ 1 1 Tryz.underlying115 hi hz0 hz1 hz2 rfl (by decide) v n xs hs hown ⟨g, 0, none⟩ 1 c [.bool y] hx rfl ?_ ?_ (by unfold maxLen; omega) (by omega) hbase (fun v' w' h1 h2 _ => h v' w' h1 h2)
  · intro j u hj
    match j, hj with
    | 0, hj => simp at hj; subst hj; simpa [Addr.add] using hy
  · intro u hu; simp at hu; subst hu; rfl

theorem ownsRow_keep {w w' : World} {base : Nat} {e : TypeId} {size : Nat} {v : Value} {n : Nat} {xs : List Value} (h : w.ownsRow base e size v n xs) (hb : Below w.heap.size w w') : w'.ownsRow base e size v n xs := by
  have hg : w.grownBy w' none := ⟨hb.os, hb.tape, hb.output, hb.size, fun k hk _ => hb.block k hk⟩
  by_cases hv : v.ownBlock = none
  · exact h.kept hg (.inl hv)
  · exact h.kept hg (.inr hv)
/-- The row of answers, as it lies: the top last. -/
def bstack (st : List Bool) : List Value := st.reverse.map Value.bool
theorem bstack_cons (x : Bool) (st : List Bool) : bstack (x :: st) = bstack st ++ [.bool x] := by simp [bstack]
theorem bstack_length (st : List Bool) : (bstack st).length = st.length := by simp [bstack]

/-- Between two rounds. -/
structure FInv (w wr : World) (W : Venn.World) (l : List Venn.Atom) (c : List Int) (sa sc : Value) (v : Value) (k : Nat) (st : List Bool) : Prop where
  len : st.length ≤ k
  own : wr.ownsRow (w.heap.size + 2) 4 1 v st.length (bstack st)
  below : Below w.heap.size w wr
  size : w.heap.size + 1 < wr.heap.size
  bf : Blk wr w.heap.size 38 #[sa, sc]
  bw : Blk wr (w.heap.size + 1) 45 #[.int .i64 W.things, .int .i64 W.a, .int .i64 W.b, .int .i64 W.c]
  shape : Venn.fShape st.length (c.drop k) = true
  fold : (c.drop k).foldl (Venn.fStep W l) st = c.foldl (Venn.fStep W l) []

theorem FInv.step {w wr w1 : World} {W : Venn.World} {l : List Venn.Atom} {c : List Int} {sa sc v v' : Value} {k : Nat} {st st' : List Bool} {x : Int} (h : FInv w wr W l c sa sc v k st)
    (hD : c.drop k = x :: c.drop (k + 1)) (hst : st' = Venn.fStep W l st x) (hown : w1.ownsRow (w.heap.size + 2) 4 1 v' st'.length (bstack st')) (hb : Below w.heap.size w w1) (hz : w.heap.size + 1 < w1.heap.size)
    (hf : Blk w1 w.heap.size 38 #[sa, sc])
    (hk : Blk w1 (w.heap.size + 1) 45 #[.int .i64 W.things, .int .i64 W.a, .int .i64 W.b, .int .i64 W.c]) : FInv w w1 W l c sa sc v' (k + 1) st' := by
  have hs := h.shape
  rw [hD, Venn.fShape] at hs
  split at hs
  · cases hs
  rename_i h1
  have hl := Venn.fStep_length (w := W) (l := l) h1
  have h0 := Venn.fTakes_012 x
  have hlen := h.len
  refine ⟨by rw [hst]; omega, hown, hb, hz, hf, hk, by rw [hst, hl]; exact hs, ?_⟩
  rw [← h.fold, hD, hst]
  rfl

/-- Blocks of the call's own are laid, and the row grows. -/
theorem FInv.push {w wr w2 w1 : World} {W : Venn.World} {l : List Venn.Atom} {c : List Int} {sa sc v v' : Value} {k : Nat} {st st' : List Bool} {x : Int} (h : FInv w wr W l c sa sc v k st) (h2 : Below wr.heap.size wr w2)
    (hD : c.drop k = x :: c.drop (k + 1)) (hst : st' = Venn.fStep W l st x) (hown : w1.ownsRow (w.heap.size + 2) 4 1 v' st'.length (bstack st')) {row : Option Nat} (hg : w2.grownBy w1 row) (hrow : ∀ g, row = some g → w.heap.size + 2 ≤ g) : FInv w w1 W l c sa sc v' (k + 1) st' := by
  have hsz := h.size
  have hgs := hg.size
  have h2s := h2.size
  have hb : Below w.heap.size w w2 := Below.next h.below h2
  refine h.step hD hst hown (hb.grown hg (by omega) fun g hg' => by have := hrow g hg'; omega) (by omega) ((h.bf.keep h2).grown hg ?_) ((h.bw.keep h2).grown hg ?_)
  · intro e
    have := hrow _ e.symm
    omega
  · intro e
    have := hrow _ e.symm
    omega

set_option maxHeartbeats 4000000 in
set_option maxRecDepth 100000 in
theorem form_True (sa sc : Value) (l : List Venn.Atom) (c : List Int) (th a b d : Int) (w : World) (hal : IsAtoms w sa l) (hcl : IsInts w sc c) (hk : KindsOk w) (hok : Venn.formChk ⟨l, c⟩ = 0) (hw : Venn.worldChk ⟨th, a, b, d⟩ = 0) :
    Calls Tryz.prog 44 #[.agg #[sa, sc], .agg #[.int .i64 th, .int .i64 a, .int .i64 b, .int .i64 d]] w (Keeps (.bool (Venn.formTrue ⟨l, c⟩ ⟨th, a, b, d⟩)) w) := by
  obtain ⟨A, cA, rfl, hra, hla, hlb⟩ := hal
  obtain ⟨C, cC, rfl, hr, hlc, hld⟩ := hcl
  obtain ⟨p1, p2, p3, h20, p5, p6, p7⟩ := Venn.formChk_parts hok
  simp only at p1 p2 p3 h20 p5 p6 p7
  have HAM := Lib.hid (fun x hx => Venn.atomsChk_mem p5 x hx)
  have HCO := Lib.hid (fun x hx => List.all_eq_true.1 p6 x hx)
  have HSH := Lib.hid p7
  have HRA := Lib.hid hra
  have HK := Lib.hid hk
  have HW := Lib.hid hw
  clear hra hk hw p5 p6 p7 hok p1 p2 p3
  go_enter Tryz.func44, Tryz.ntmps44
  go_wp2
  go_loopw [5, 12] (fun v i wr => ∃ (k : Nat) (st : List Bool), k ≤ c.length ∧ i = .int .i64 k ∧ FInv w wr ⟨th, a, b, d⟩ l c (.slice A l.length cA) (.slice C c.length cC) v k st)
    (fun _ i _ => c.length - (intOf i).toNat)
  case atStart =>
    exact ⟨0, [], Nat.zero_le _, rfl, by simp, World.ownsRow_nil _ _ _ _, by go_grown, by simp, (Blk.new _ _ _).alloc _, Blk.newAt (by simp) _ _, by simpa using HSH.out, by simp⟩
  case round =>
    obtain ⟨k, st, hk, rfl, hinv⟩ := hrel
    obtain ⟨wo, rfl⟩ : ∃ wo : World, wo = wr := ⟨_, rfl⟩
    have hlen := hinv.len
    have hown := hinv.own
    have hsz := hinv.size
    obtain ⟨A5, cp5, rfl⟩ := ownsRow_slice hown
    have HI := Lib.hid hinv
    by_cases hlt : k < c.length
    · obtain ⟨ad, rfl, hcell0⟩ := hr.int hlt
      have hcell := cell_keep hinv.below hcell0
      have hco := HCO.out _ (List.getElem_mem hlt)
      have HD := Lib.hid (List.drop_eq_getElem_cons hlt)
      generalize c[k] = x at hcell hcell0 HD hco
      have hf0 := hinv.bf.cell 0
      have hf1 := hinv.bf.cell 1
      have hc0 := hinv.bw.cell 0
      have hc1 := hinv.bw.cell 1
      have hc2 := hinv.bw.cell 2
      have hc3 := hinv.bw.cell 3
      simp at hc0 hc1 hc2 hc3 hf0 hf1
      have hk1 : (k : Int) < (c.length : Int) := by omega
      have hk0 : (0 : Int) ≤ (k : Int) := by omega
      have hpop : ¬ ((st.length : Int) < Venn.fTakes x) := by
        have hs := hinv.shape
        rw [HD.out, Venn.fShape] at hs
        split at hs
        · cases hs
        · assumption
      clear hcell0 hr hinv
      rcases Venn.codeOk_cases hco with rfl | rfl | rfl | rfl | ⟨hx0, hx6, hxn⟩
      · -- No
        have hl1 : 1 ≤ st.length := by simp [Venn.fTakes] at hpop; omega
        clear hpop hco
        obtain ⟨y, r, rfl⟩ : ∃ y r, st = y :: r := by
          match st, hl1 with
          | y :: r, _ => exact ⟨y, r, rfl⟩
        obtain ⟨g, cap, hv, hg1, hg2⟩ := hown.form (by simp)
        simp only [Value.slice.injEq] at hv
        obtain ⟨rfl, _, rfl⟩ := hv
        have hy : wo.cell? ⟨g, r.length, none⟩ = some (.bool y) := by
          rw [hown.cellAt r.length (by simp)]
          simp [bstack]
        have hfz := hown.frozenAt r.length
        simp only [List.length_cons] at hown hlen hl1 ⊢
        have hwrap : IntKind.i64.wrap (r.length : Int) = (r.length : Int) := IntWalk.i64_in _ (by omega)
        have hlt1 : (r.length : Int) < (r.length : Int) + 1 := by omega
        go_wp2
        go_roundw
        case rel =>
          have hst := hown.stored r.length (.bool !y)
          have hself : (bstack (y :: r)).set r.length (.bool !y) = bstack ((!y) :: r) := by
            rw [bstack_cons, bstack_cons, List.set_append_right _ _ (by simp [bstack])]
            simp [bstack]
          rw [hself] at hst
          refine ⟨k + 1, (!y) :: r, by omega, by go_num, HI.out.step HD.out rfl hst.1 ?_ ?_ ?_ ?_⟩
          · exact HI.out.below.setCell (p := ⟨g, r.length, none⟩) (by simp; omega) _
          · simpa [World.setCell] using hsz
          · exact HI.out.bf.far (p := ⟨g, r.length, none⟩) (by simp; omega) _
          · exact HI.out.bw.far (p := ⟨g, r.length, none⟩) (by simp; omega) _
        case measure => simp [intOf]; omega
      · -- two
        have hl1 : 2 ≤ st.length := by simp [Venn.fTakes] at hpop; omega
        clear hpop hco
        obtain ⟨y, z, r, rfl⟩ : ∃ y z r, st = y :: z :: r := by
          match st, hl1 with
          | y :: z :: r, _ => exact ⟨y, z, r, rfl⟩
        obtain ⟨g, cap, hv, hg1, hg2⟩ := hown.form (by simp)
        simp only [Value.slice.injEq] at hv
        obtain ⟨rfl, _, rfl⟩ := hv
        have hy : wo.cell? ⟨g, r.length + 1, none⟩ = some (.bool y) := by
          rw [hown.cellAt (r.length + 1) (by simp)]
          simp [bstack]
        have hz : wo.cell? ⟨g, r.length, none⟩ = some (.bool z) := by
          rw [hown.cellAt r.length (by simp; omega)]
          simp [bstack]
        have hcap : (r.length : Int) ≤ (cp5 : Int) := by
          have := hown.2
          rcases this with ⟨h1, _⟩ | ⟨_, cap', _, h1, _, _, h2, _⟩
          · cases h1
          · simp only [Value.slice.injEq] at h1; simp at h2; omega
        simp only [List.length_cons] at hown hlen hl1 ⊢
        have hw1 : IntKind.i64.wrap (r.length : Int) = (r.length : Int) := IntWalk.i64_in _ (by omega)
        have hw3 : IntKind.i64.wrap ((r.length : Int) + 1 + 1 - 2) = (r.length : Int) := by
          rw [show (r.length : Int) + 1 + 1 - 2 = r.length by omega]; exact hw1
        have hb0 : (0 : Int) ≤ (r.length : Int) := by omega
        have hb4 : (r.length : Int) < (r.length : Int) + 1 + 1 := by omega
        have hw2 : IntKind.i64.wrap ((r.length : Int) + 1) = (r.length : Int) + 1 := IntWalk.i64_in _ (by omega)
        have hb2 : (r.length : Int) + 1 < (r.length : Int) + 1 + 1 := by omega
        have hb3 : (0 : Int) ≤ (r.length : Int) + 1 := by omega
        have hroom : r.length + 1 ≤ cp5 := by
          have := hown.2
          rcases this with ⟨h1, _⟩ | ⟨_, cap', _, h1, _, _, h2, _⟩
          · cases h1
          · simp only [Value.slice.injEq] at h1; omega
        have hfz := hown.frozenAt r.length
        rcases z with _ | _
        · go_wp2_with fail
          (first | go_region_law (fail) | fail)
          all_goals
            go_wp2
            go_roundw
            case rel =>
              have hst := (hown.stored r.length (.bool false)).1
              have hself : (bstack (y :: false :: r)).set r.length (.bool false) = bstack (false :: r) ++ [.bool y] := by
                rw [bstack_cons, bstack_cons, List.append_assoc, List.set_append_right _ _ (by simp [bstack])]
                simp [bstack]
              rw [hself] at hst
              have h1 : (wo.setCell ⟨g, r.length, none⟩ (.bool false)).ownsRow (w.heap.size + 2) 4 1 (.slice (some ⟨g, 0, none⟩) (r.length + 1) cp5) (r.length + 1) (bstack (false :: r)) := ownsRow_pop (last := [.bool y]) (by simp [bstack]) hst
              refine ⟨k + 1, false :: r, by omega, by go_num, HI.out.step HD.out rfl (h1.alloc _).drew ?_ ?_ ?_ ?_⟩
              · exact Below.drew (Below.laid (HI.out.below.setCell (p := ⟨g, r.length, none⟩) (by simp; omega) _) _)
              · simp [World.setCell]; omega
              · exact ((HI.out.bf.far (p := ⟨g, r.length, none⟩) (by simp; omega) _).alloc _).drew
              · exact ((HI.out.bw.far (p := ⟨g, r.length, none⟩) (by simp; omega) _).alloc _).drew
            case measure => simp [intOf]; omega
        · go_wp2_with fail
          (first | go_region_law (fail) | fail)
          all_goals
            go_wp2
            go_roundw
            case rel =>
              have hst := (hown.stored r.length (.bool y)).1
              have hself : (bstack (y :: true :: r)).set r.length (.bool y) = bstack (y :: r) ++ [.bool y] := by
                rw [bstack_cons, bstack_cons, List.append_assoc, List.set_append_right _ _ (by simp [bstack])]
                simp [bstack]
              rw [hself] at hst
              have h1 : (wo.setCell ⟨g, r.length, none⟩ (.bool y)).ownsRow (w.heap.size + 2) 4 1 (.slice (some ⟨g, 0, none⟩) (r.length + 1) cp5) (r.length + 1) (bstack (y :: r)) := ownsRow_pop (last := [.bool y]) (by simp [bstack]) hst
              refine ⟨k + 1, y :: r, by omega, by go_num, HI.out.step HD.out rfl (h1.alloc _).drew ?_ ?_ ?_ ?_⟩
              · exact Below.drew (Below.laid (HI.out.below.setCell (p := ⟨g, r.length, none⟩) (by simp; omega) _) _)
              · simp [World.setCell]; omega
              · exact ((HI.out.bf.far (p := ⟨g, r.length, none⟩) (by simp; omega) _).alloc _).drew
              · exact ((HI.out.bw.far (p := ⟨g, r.length, none⟩) (by simp; omega) _).alloc _).drew
            case measure => simp [intOf]; omega
      · -- two
        have hl1 : 2 ≤ st.length := by simp [Venn.fTakes] at hpop; omega
        clear hpop hco
        obtain ⟨y, z, r, rfl⟩ : ∃ y z r, st = y :: z :: r := by
          match st, hl1 with
          | y :: z :: r, _ => exact ⟨y, z, r, rfl⟩
        obtain ⟨g, cap, hv, hg1, hg2⟩ := hown.form (by simp)
        simp only [Value.slice.injEq] at hv
        obtain ⟨rfl, _, rfl⟩ := hv
        have hy : wo.cell? ⟨g, r.length + 1, none⟩ = some (.bool y) := by
          rw [hown.cellAt (r.length + 1) (by simp)]
          simp [bstack]
        have hz : wo.cell? ⟨g, r.length, none⟩ = some (.bool z) := by
          rw [hown.cellAt r.length (by simp; omega)]
          simp [bstack]
        have hcap : (r.length : Int) ≤ (cp5 : Int) := by
          have := hown.2
          rcases this with ⟨h1, _⟩ | ⟨_, cap', _, h1, _, _, h2, _⟩
          · cases h1
          · simp only [Value.slice.injEq] at h1; simp at h2; omega
        simp only [List.length_cons] at hown hlen hl1 ⊢
        have hw1 : IntKind.i64.wrap (r.length : Int) = (r.length : Int) := IntWalk.i64_in _ (by omega)
        have hw3 : IntKind.i64.wrap ((r.length : Int) + 1 + 1 - 2) = (r.length : Int) := by
          rw [show (r.length : Int) + 1 + 1 - 2 = r.length by omega]; exact hw1
        have hb0 : (0 : Int) ≤ (r.length : Int) := by omega
        have hb4 : (r.length : Int) < (r.length : Int) + 1 + 1 := by omega
        have hw2 : IntKind.i64.wrap ((r.length : Int) + 1) = (r.length : Int) + 1 := IntWalk.i64_in _ (by omega)
        have hb2 : (r.length : Int) + 1 < (r.length : Int) + 1 + 1 := by omega
        have hb3 : (0 : Int) ≤ (r.length : Int) + 1 := by omega
        have hroom : r.length + 1 ≤ cp5 := by
          have := hown.2
          rcases this with ⟨h1, _⟩ | ⟨_, cap', _, h1, _, _, h2, _⟩
          · cases h1
          · simp only [Value.slice.injEq] at h1; omega
        have hfz := hown.frozenAt r.length
        rcases z with _ | _
        · go_wp2_with fail
          (first | go_region_law (fail) | fail)
          all_goals
            go_wp2
            go_roundw
            case rel =>
              have hst := (hown.stored r.length (.bool y)).1
              have hself : (bstack (y :: false :: r)).set r.length (.bool y) = bstack (y :: r) ++ [.bool y] := by
                rw [bstack_cons, bstack_cons, List.append_assoc, List.set_append_right _ _ (by simp [bstack])]
                simp [bstack]
              rw [hself] at hst
              have h1 : (wo.setCell ⟨g, r.length, none⟩ (.bool y)).ownsRow (w.heap.size + 2) 4 1 (.slice (some ⟨g, 0, none⟩) (r.length + 1) cp5) (r.length + 1) (bstack (y :: r)) := ownsRow_pop (last := [.bool y]) (by simp [bstack]) hst
              refine ⟨k + 1, y :: r, by omega, by go_num, HI.out.step HD.out rfl (h1.alloc _).drew ?_ ?_ ?_ ?_⟩
              · exact Below.drew (Below.laid (HI.out.below.setCell (p := ⟨g, r.length, none⟩) (by simp; omega) _) _)
              · simp [World.setCell]; omega
              · exact ((HI.out.bf.far (p := ⟨g, r.length, none⟩) (by simp; omega) _).alloc _).drew
              · exact ((HI.out.bw.far (p := ⟨g, r.length, none⟩) (by simp; omega) _).alloc _).drew
            case measure => simp [intOf]; omega
        · go_wp2_with fail
          (first | go_region_law (fail) | fail)
          all_goals
            go_wp2
            go_roundw
            case rel =>
              have hst := (hown.stored r.length (.bool true)).1
              have hself : (bstack (y :: true :: r)).set r.length (.bool true) = bstack (true :: r) ++ [.bool y] := by
                rw [bstack_cons, bstack_cons, List.append_assoc, List.set_append_right _ _ (by simp [bstack])]
                simp [bstack]
              rw [hself] at hst
              have h1 : (wo.setCell ⟨g, r.length, none⟩ (.bool true)).ownsRow (w.heap.size + 2) 4 1 (.slice (some ⟨g, 0, none⟩) (r.length + 1) cp5) (r.length + 1) (bstack (true :: r)) := ownsRow_pop (last := [.bool y]) (by simp [bstack]) hst
              refine ⟨k + 1, true :: r, by omega, by go_num, HI.out.step HD.out rfl (h1.alloc _).drew ?_ ?_ ?_ ?_⟩
              · exact Below.drew (Below.laid (HI.out.below.setCell (p := ⟨g, r.length, none⟩) (by simp; omega) _) _)
              · simp [World.setCell]; omega
              · exact ((HI.out.bf.far (p := ⟨g, r.length, none⟩) (by simp; omega) _).alloc _).drew
              · exact ((HI.out.bw.far (p := ⟨g, r.length, none⟩) (by simp; omega) _).alloc _).drew
            case measure => simp [intOf]; omega
      · -- two
        have hl1 : 2 ≤ st.length := by simp [Venn.fTakes] at hpop; omega
        clear hpop hco
        obtain ⟨y, z, r, rfl⟩ : ∃ y z r, st = y :: z :: r := by
          match st, hl1 with
          | y :: z :: r, _ => exact ⟨y, z, r, rfl⟩
        obtain ⟨g, cap, hv, hg1, hg2⟩ := hown.form (by simp)
        simp only [Value.slice.injEq] at hv
        obtain ⟨rfl, _, rfl⟩ := hv
        have hy : wo.cell? ⟨g, r.length + 1, none⟩ = some (.bool y) := by
          rw [hown.cellAt (r.length + 1) (by simp)]
          simp [bstack]
        have hz : wo.cell? ⟨g, r.length, none⟩ = some (.bool z) := by
          rw [hown.cellAt r.length (by simp; omega)]
          simp [bstack]
        have hcap : (r.length : Int) ≤ (cp5 : Int) := by
          have := hown.2
          rcases this with ⟨h1, _⟩ | ⟨_, cap', _, h1, _, _, h2, _⟩
          · cases h1
          · simp only [Value.slice.injEq] at h1; simp at h2; omega
        simp only [List.length_cons] at hown hlen hl1 ⊢
        have hw1 : IntKind.i64.wrap (r.length : Int) = (r.length : Int) := IntWalk.i64_in _ (by omega)
        have hw3 : IntKind.i64.wrap ((r.length : Int) + 1 + 1 - 2) = (r.length : Int) := by
          rw [show (r.length : Int) + 1 + 1 - 2 = r.length by omega]; exact hw1
        have hb0 : (0 : Int) ≤ (r.length : Int) := by omega
        have hb4 : (r.length : Int) < (r.length : Int) + 1 + 1 := by omega
        have hw2 : IntKind.i64.wrap ((r.length : Int) + 1) = (r.length : Int) + 1 := IntWalk.i64_in _ (by omega)
        have hb2 : (r.length : Int) + 1 < (r.length : Int) + 1 + 1 := by omega
        have hb3 : (0 : Int) ≤ (r.length : Int) + 1 := by omega
        have hroom : r.length + 1 ≤ cp5 := by
          have := hown.2
          rcases this with ⟨h1, _⟩ | ⟨_, cap', _, h1, _, _, h2, _⟩
          · cases h1
          · simp only [Value.slice.injEq] at h1; omega
        have hfz := hown.frozenAt r.length
        rcases z with _ | _
        · go_wp2_with fail
          (first | go_region_law (fail) | fail)
          all_goals
            go_wp2
            go_roundw
            case rel =>
              have hst := (hown.stored r.length (.bool true)).1
              have hself : (bstack (y :: false :: r)).set r.length (.bool true) = bstack (true :: r) ++ [.bool y] := by
                rw [bstack_cons, bstack_cons, List.append_assoc, List.set_append_right _ _ (by simp [bstack])]
                simp [bstack]
              rw [hself] at hst
              have h1 : (wo.setCell ⟨g, r.length, none⟩ (.bool true)).ownsRow (w.heap.size + 2) 4 1 (.slice (some ⟨g, 0, none⟩) (r.length + 1) cp5) (r.length + 1) (bstack (true :: r)) := ownsRow_pop (last := [.bool y]) (by simp [bstack]) hst
              refine ⟨k + 1, true :: r, by omega, by go_num, HI.out.step HD.out rfl (h1.alloc _).drew ?_ ?_ ?_ ?_⟩
              · exact Below.drew (Below.laid (HI.out.below.setCell (p := ⟨g, r.length, none⟩) (by simp; omega) _) _)
              · simp [World.setCell]; omega
              · exact ((HI.out.bf.far (p := ⟨g, r.length, none⟩) (by simp; omega) _).alloc _).drew
              · exact ((HI.out.bw.far (p := ⟨g, r.length, none⟩) (by simp; omega) _).alloc _).drew
            case measure => simp [intOf]; omega
        · go_wp2_with fail
          (first | go_region_law (fail) | fail)
          all_goals
            go_wp2
            go_roundw
            case rel =>
              have hst := (hown.stored r.length (.bool y)).1
              have hself : (bstack (y :: true :: r)).set r.length (.bool y) = bstack (y :: r) ++ [.bool y] := by
                rw [bstack_cons, bstack_cons, List.append_assoc, List.set_append_right _ _ (by simp [bstack])]
                simp [bstack]
              rw [hself] at hst
              have h1 : (wo.setCell ⟨g, r.length, none⟩ (.bool y)).ownsRow (w.heap.size + 2) 4 1 (.slice (some ⟨g, 0, none⟩) (r.length + 1) cp5) (r.length + 1) (bstack (y :: r)) := ownsRow_pop (last := [.bool y]) (by simp [bstack]) hst
              refine ⟨k + 1, y :: r, by omega, by go_num, HI.out.step HD.out rfl (h1.alloc _).drew ?_ ?_ ?_ ?_⟩
              · exact Below.drew (Below.laid (HI.out.below.setCell (p := ⟨g, r.length, none⟩) (by simp; omega) _) _)
              · simp [World.setCell]; omega
              · exact ((HI.out.bf.far (p := ⟨g, r.length, none⟩) (by simp; omega) _).alloc _).drew
              · exact ((HI.out.bw.far (p := ⟨g, r.length, none⟩) (by simp; omega) _).alloc _).drew
            case measure => simp [intOf]; omega
      · -- an atom
        clear hco
        obtain ⟨X, rfl⟩ := Int.eq_ofNat_of_zero_le hx0
        have hXl : X < l.length := by omega
        have hat := HAM.out _ (List.getElem_mem hXl)
        obtain ⟨ba, sv, tv, rfl, g0, g1, g2, g3, hs, ht⟩ := HRA.out X _ (List.getElem?_eq_getElem hXl)
        have HST := Lib.hid (show Venn.atomTrue l[X] ⟨th, a, b, d⟩ :: st = Venn.fStep ⟨th, a, b, d⟩ l st (X : Int) by
          unfold Venn.fStep
          rw [if_neg (by omega), if_neg (by omega), if_neg (by omega), if_neg (by omega)]
          simp [hXl])
        generalize l[X] = at_ at g0 g1 g2 g3 hs ht hat HST
        obtain ⟨aw, aS, aT, an⟩ := at_
        simp only at g0 g1 g2 g3 hs ht
        have d0 := cell_keep HI.out.below g0
        have d1 := cell_keep HI.out.below g1
        have d2 := cell_keep HI.out.below g2
        have d3 := cell_keep HI.out.below g3
        obtain ⟨sA, sN, rfl, hs⟩ := hs
        obtain ⟨tA, tN, rfl, ht⟩ := ht
        have HSS := Lib.hid (show IsInts w (.slice sA aS.length sN) aS from ⟨sA, sN, rfl, hs⟩)
        have HTT := Lib.hid (show IsInts w (.slice tA aT.length tN) aT from ⟨tA, tN, rfl, ht⟩)
        have HAT := Lib.hid hat
        clear g0 g1 g2 g3 hs ht hat hpop
        have hX1 : (X : Int) < (l.length : Int) := by omega
        have e10 : ((X : Int) == 10) = false := beq_eq_false_iff_ne.2 (by omega)
        have e11 : ((X : Int) == 11) = false := beq_eq_false_iff_ne.2 (by omega)
        have e12 : ((X : Int) == 12) = false := beq_eq_false_iff_ne.2 (by omega)
        have e13 : ((X : Int) == 13) = false := beq_eq_false_iff_ne.2 (by omega)
        obtain ⟨i0, hi0, hz0, hz1, hz2⟩ := info_parts bool_info
        have hbo := HI.out.below
        go_wp2_with fail
        go_region_law (first
            | (refine step_append_lies _ (by rfl) _ _ _ (by rfl) (w.heap.size + 2) 4 i0 _ 1 1 Tryz.underlying115 hi0 hz0 hz1 hz2 rfl (by omega) (.slice A5 st.length cp5) st.length (bstack st) (by rfl) ((ownsRow_keep (w := wo.drew) (w' := w1) hown.drew hb1).alloc _)
                ⟨w1.heap.size, 0, none⟩ 1 1 [.bool (Venn.atomTrue ⟨aw, aS, aT, an⟩ ⟨th, a, b, d⟩)] (by rfl) (by rfl) (World.news_of_block (cs := #[.bool (Venn.atomTrue ⟨aw, aS, aT, an⟩ ⟨th, a, b, d⟩)]) (t := 4) (fr := (0, 0)) (heap_alloc_new w1 _)) (by simp [Value.oneCell'])
                (by omega) (by unfold maxLen; omega) (by omega) (by simp; have := hb1.size; simp at this; omega) (w1.heap.size + 1) (by simp) ?_; intro gg cap w3 hown1 hgrow hat hlt2)
            | (go_simp; go_at_call 70; refine (atom_True _ _ _ _ aS aT _ _ _ _ _ (HSS.out.keep (by (repeat' (first | (with_reducible exact Below.refl _ _) | (with_reducible assumption) | (with_reducible refine Below.next ?_ (by with_reducible assumption)) | (with_reducible refine Below.drew ?_) | (with_reducible refine Below.laid ?_ _) | (with_reducible refine Below.setCell ?_ ?_ _) | (with_reducible refine size_of ?_) | (with_reducible refine Nat.le_succ_of_le ?_) | go_size)))) (HTT.out.keep (by (repeat' (first | (with_reducible exact Below.refl _ _) | (with_reducible assumption) | (with_reducible refine Below.next ?_ (by with_reducible assumption)) | (with_reducible refine Below.drew ?_) | (with_reducible refine Below.laid ?_ _) | (with_reducible refine Below.setCell ?_ ?_ _) | (with_reducible refine size_of ?_) | (with_reducible refine Nat.le_succ_of_le ?_) | go_size)))) (HK.out.keep (by (repeat' (first | (with_reducible exact Below.refl _ _) | (with_reducible assumption) | (with_reducible refine Below.next ?_ (by with_reducible assumption)) | (with_reducible refine Below.drew ?_) | (with_reducible refine Below.laid ?_ _) | (with_reducible refine Below.setCell ?_ ?_ _) | (with_reducible refine size_of ?_) | (with_reducible refine Nat.le_succ_of_le ?_) | go_size)))) HAT.out HW.out).mono ?_; rintro e w1 ⟨rfl, hb1⟩))
        all_goals
          go_wp2
          go_roundw
          case rel =>
            exact ⟨k + 1, _, by omega, by go_num, HI.out.push (w2 := w1.alloc (.cells #[.bool (Venn.atomTrue ⟨aw, aS, aT, an⟩ ⟨th, a, b, d⟩)] 4)) (Below.laid (Below.next (Below.drew (Below.refl _ _)) hb1) _) HD.out HST.out (by rw [bstack_cons]; exact hown1) hgrow (fun g hg => (hown.lt g hg).1)⟩
          case measure => simp [intOf]; omega
    · have hk' : k = c.length := by omega
      have hd : c.drop k = [] := List.drop_eq_nil_of_le (by omega)
      have hs1 := hinv.shape
      have hf1 := hinv.fold
      have hb1 := hinv.below
      rw [hd] at hs1 hf1
      have hl1 : st.length = 1 := by
        simp only [Venn.fShape, decide_eq_true_eq] at hs1
        omega
      obtain ⟨y, rfl⟩ : ∃ y, st = [y] := by
        match st, hl1 with
        | [y], _ => exact ⟨y, rfl⟩
      obtain ⟨g, cap, hv, hg1, hg2⟩ := hown.form (by simp)
      simp only [Value.slice.injEq] at hv
      obtain ⟨rfl, _, rfl⟩ := hv
      have hy : wo.cell? ⟨g, 0, none⟩ = some (.bool y) := by
        rw [hown.cellAt 0 (by simp)]
        simp [bstack]
      have hres := Lib.hid (show Venn.formTrue ⟨l, c⟩ ⟨th, a, b, d⟩ = y by simp only [List.foldl_nil] at hf1; rw [Venn.formTrue, ← hf1]; rfl)
      clear hs1 hf1 hd hinv HI hk' hl1
      go_wp2
      go_ret
      exact ⟨ret_bool hres.out.symm, hb1⟩
end Go.Proofs.YtjnjgcibhjdmdaaGreatDoor

namespace Go.Proofs.YtjnjgcibhjdmdaaGreatDoor
open Go.RowKit

theorem boxes24 {w w1 : World} {tA tB : TypeId} {cs ds : Array Value}
    (hb : Below ((w.alloc (.cells cs tA)).alloc (.cells ds tB)).heap.size ((w.alloc (.cells cs tA)).alloc (.cells ds tB)) w1) :
    Blk w1 w.heap.size tA cs ∧ Blk w1 (w.heap.size + 1) tB ds :=
  ⟨((Blk.new w _ _).alloc _).keep hb, (Blk.newAt (by simp) _ _).keep hb⟩

theorem setChk_le {th : Int} (h : Venn.things th = true) {k : Nat} (hk : (k : Int) ≤ Venn.allS th) : Venn.setChk th (k : Int) = 0 := by
  rw [Venn.setChk, if_pos]
  simp [h, Venn.rightS, hk]
theorem allS_63 {th : Int} (h : Venn.things th = true) : 0 ≤ Venn.allS th ∧ Venn.allS th ≤ 63 ∧ Venn.allS th + 1 = ((2 ^ th.toNat : Nat) : Int) := by
  simp only [Venn.things, Bool.and_eq_true, decide_eq_true_eq] at h
  obtain ⟨T, rfl⟩ := Int.eq_ofNat_of_zero_le h.1
  rcases (by omega : T = 0 ∨ T = 1 ∨ T = 2 ∨ T = 3 ∨ T = 4 ∨ T = 5 ∨ T = 6) with rfl | rfl | rfl | rfl | rfl | rfl | rfl
  all_goals decide

theorem someChk_parts {f : Venn.Form} {name : Int} {W : Venn.World} (h : Venn.someChk f name W = 0) : Venn.formChk f = 0 ∧ Venn.nameOk name = true ∧ Venn.worldChk W = 0 := by
  unfold Venn.someChk at h
  split at h
  · rename_i h1
    split at h
    · rename_i h2
      exact ⟨h1, h2, h⟩
    · cases h
  · contradiction

def someIsV (l : List Venn.Atom) (c : List Int) (name th a b d : Int) : Bool := if Venn.someChk ⟨l, c⟩ name ⟨th, a, b, d⟩ = 0 then decide (0 ≤ Venn.firstSet ⟨l, c⟩ name ⟨th, a, b, d⟩ true) else false
def someEachV (l : List Venn.Atom) (c : List Int) (name th a b d : Int) : Bool := if Venn.someChk ⟨l, c⟩ name ⟨th, a, b, d⟩ = 0 then decide (Venn.firstSet ⟨l, c⟩ name ⟨th, a, b, d⟩ false < 0) else false
theorem IsIntsNil (w : World) : IsInts w (.slice none 0 0) [] := ⟨none, 0, rfl, Rd.nil _ _, Nat.le_refl _, by simp⟩
theorem IsInts.of_blk1 {w : World} {g : Nat} {t : TypeId} {x : Int} (h : Blk w g t #[.int .i64 x]) : IsInts w (.slice (some ⟨g, 0, none⟩) 1 1) [x] := by
  refine ⟨_, _, rfl, fun j u hj => ⟨_, rfl, ?_⟩, Nat.le_refl _, by simp [maxLen]⟩
  match j, hj with
  | 0, hj => simp at hj; subst hj; exact h.cell 0
theorem IsAtoms.one {w : World} {g : Nat} {t : TypeId} {a : Venn.Atom} {sv tv : Value} (h : Blk w g t #[.int .i64 a.what, sv, tv, .int .i64 a.n]) (hs : IsInts w sv a.s) (ht : IsInts w tv a.t) : IsAtoms w (.slice (some ⟨g, 0, none⟩) 1 1) [a] := by
  refine ⟨_, _, rfl, fun k x hx => ?_, Nat.le_refl _, by simp [maxLen]⟩
  match k, hx with
  | 0, hx =>
    simp at hx
    subst hx
    exact ⟨_, sv, tv, rfl, h.cell 0, h.cell 1, h.cell 2, h.cell 3, hs, ht⟩
end Go.Proofs.YtjnjgcibhjdmdaaGreatDoor
