/-
  WORDS FOR FORMULAS IN MEMORY, and the walks of form.Takes, form.shape, form.Check.
  THE WALK of form.True: the stack of answers.
  THE WALKS of package some, of alike.Name and vennlaw4.atomOf.
-/
import Derived.Test.YtcloppcekbdbaaaDoorVennP1
import Derived.Test.YtcloppcekbdbaaaDoorAtomG
import Derived.StillTailTactics
import Derived.WalkSmall
import Derived.Deep.RegionLaw
import Derived.Deep.AppendLies
namespace Go.Proofs.YtcloppcekbdbaaaDoor
open Go.RowKit

/-- A slice of atoms reads as l. -/
def IsAtoms (w : World) (v : Value) (l : List Venn.Atom) : Prop :=
  ∃ A c, v = .slice A l.length c ∧ (∀ (k : Nat) (a : Venn.Atom), l[k]? = some a → ∃ ad sv tv, A = some ad ∧ w.cell? (ad.add (k * 4)) = some (.int .i64 a.what) ∧ w.cell? ⟨(ad.add (k * 4)).block, (ad.add (k * 4)).off + 1, none⟩ = some sv ∧
    w.cell? ⟨(ad.add (k * 4)).block, (ad.add (k * 4)).off + 2, none⟩ = some tv ∧ w.cell? ⟨(ad.add (k * 4)).block, (ad.add (k * 4)).off + 3, none⟩ = some (.int .i64 a.n) ∧ IsInts w sv a.s ∧ IsInts w tv a.t) ∧ l.length ≤ c ∧ c ≤ maxLen
theorem IsAtoms.keep {w w' : World} {v : Value} {l : List Venn.Atom} (h : IsAtoms w v l) (hb : Below w.heap.size w w') : IsAtoms w' v l := by
  obtain ⟨A, c, hv, hr, hc⟩ := h
  refine ⟨A, c, hv, fun k a ha => ?_, hc⟩
  obtain ⟨ad, sv, tv, e, h0, h1, h2, h3, hs, ht⟩ := hr k a ha
  exact ⟨ad, sv, tv, e, cell_keep hb h0, cell_keep hb h1, cell_keep hb h2, cell_keep hb h3, hs.keep hb, ht.keep hb⟩
theorem IsAtoms.nil (w : World) : IsAtoms w (.slice none 0 0) [] := ⟨none, 0, rfl, fun k a h => by simp at h, Nat.le_refl _, by simp⟩

theorem form_Takes (s : Int) (w : World) : Calls Tryd.prog 22 #[.int .i64 s] w (Pure (.tuple #[.int .i64 (Venn.fTakes s), .bool (Venn.fSign s)]) w) := by
  by_cases h12 : s = 12
  · subst h12
    go_enter Tryd.func22, Tryd.ntmps22
    go_wp2
    go_ret2
    exact ⟨rfl, rfl⟩
  by_cases h10 : s = 10
  · subst h10
    go_enter Tryd.func22, Tryd.ntmps22
    go_wp2
    go_ret2
    exact ⟨rfl, rfl⟩
  by_cases h11 : s = 11
  · subst h11
    go_enter Tryd.func22, Tryd.ntmps22
    go_wp2
    go_ret2
    exact ⟨rfl, rfl⟩
  by_cases h13 : s = 13
  · subst h13
    go_enter Tryd.func22, Tryd.ntmps22
    go_wp2
    go_ret2
    exact ⟨rfl, rfl⟩
  have e12 : (s == 12) = false := by simpa using h12
  have e10 : (s == 10) = false := by simpa using h10
  have e11 : (s == 11) = false := by simpa using h11
  have e13 : (s == 13) = false := by simpa using h13
  have HT : Venn.fTakes s = 0 := by rw [Venn.fTakes, if_neg h12, if_neg (by omega)]
  by_cases h6 : 0 ≤ s ∧ s < 6
  · have HV : Venn.fSign s = true := by simp [Venn.fSign]; omega
    rw [HT, HV]
    obtain ⟨h0, h6⟩ := h6
    clear HT HV h12 h10 h11 h13
    go_enter Tryd.func22, Tryd.ntmps22
    go_wp2
    all_goals (first | (exfalso; omega) | (go_ret2; exact ⟨rfl, rfl⟩))
  · have HV : Venn.fSign s = false := by
      simp only [Venn.fSign, Bool.or_eq_false_iff, decide_eq_false_iff_not]
      omega
    rw [HT, HV]
    rcases (by omega : s < 0 ∨ (0 ≤ s ∧ ¬ s < 6)) with h0 | ⟨h0, h6⟩
    all_goals
      clear HT HV h12 h10 h11 h13
      go_enter Tryd.func22, Tryd.ntmps22
      go_wp2
      all_goals (first | (exfalso; omega) | (go_ret2; exact ⟨rfl, rfl⟩))

set_option maxHeartbeats 1000000 in
theorem form_shape (v : Value) (c : List Int) (w : World) (hc : IsInts w v c) (hlen : c.length ≤ 20) : Calls Tryd.prog 23 #[v] w (Keeps (.bool (Venn.fShape 0 c)) w) := by
  obtain ⟨A, cp, rfl, hr, hlc, hcc⟩ := hc
  obtain ⟨E, hE⟩ : ∃ E, E = Venn.fShape 0 c := ⟨_, rfl⟩
  rw [← hE]
  have HE := Lib.hid hE
  clear hE
  go_enter Tryd.func23, Tryd.ntmps23
  go_wp2
  go_loopw [3, 10] (fun m i wr => ∃ (k : Nat) (M : Int), k ≤ c.length ∧ m = .int .i64 M ∧ i = .int .i64 k ∧ -1 ≤ M ∧ M ≤ k ∧ Below w.heap.size w wr ∧ E = Venn.fShape M (c.drop k)) (fun _ i _ => c.length - (intOf i).toNat)
  case atStart => exact ⟨0, 0, Nat.zero_le _, rfl, rfl, by omega, by simp, by (repeat' (first | (with_reducible exact Below.refl _ _) | (with_reducible assumption) | (with_reducible refine Below.next ?_ (by with_reducible assumption)) | (with_reducible refine Below.drew ?_) | (with_reducible refine Below.laid ?_ _) | (with_reducible refine Below.setCell ?_ ?_ _) | (with_reducible refine size_of ?_) | (with_reducible refine Nat.le_succ_of_le ?_) | go_size)), by rw [List.drop_zero]; exact HE.out⟩
  case round =>
    obtain ⟨k, M, hk, rfl, rfl, hM0, hM1, hb, hrest⟩ := hrel
    have HR := Lib.hid hrest
    clear hrest
    by_cases hlt : k < c.length
    · obtain ⟨ad, rfl, hcell0⟩ := hr.int hlt
      have hcell := cell_keep hb hcell0
      have HD := Lib.hid (List.drop_eq_getElem_cons hlt)
      generalize c[k] = s at hcell hcell0 HD
      clear hcell0
      have h012 := Venn.fTakes_012 s
      by_cases hm : M < Venn.fTakes s
      · have HV := Lib.hid (show E = false by rw [HR.out, HD.out, Venn.fShape, if_pos hm])
        have htk := form_Takes s
        have HTK := Lib.hid htk
        clear htk
        generalize Venn.fTakes s = T at hm h012 HTK
        have hk1 : (k : Int) < (c.length : Int) := by omega
        have hk0 : (0 : Int) ≤ (k : Int) := by omega
        go_wp2_with (go_at_call 22; refine (HTK.out _).mono ?_; rintro e w' ⟨rfl, rfl⟩)
        go_ret
        exact ⟨ret_bool HV.out.symm, hb⟩
      · have HV := Lib.hid (show E = Venn.fShape (M + (1 - Venn.fTakes s)) (c.drop (k + 1)) by rw [HR.out, HD.out, Venn.fShape, if_neg hm])
        have htk := form_Takes s
        have HTK := Lib.hid htk
        clear htk
        generalize Venn.fTakes s = T at hm h012 HV HTK
        have hw1 : IntKind.i64.wrap (1 - T) = 1 - T := IntWalk.i64_in _ (by omega)
        have hw2 : IntKind.i64.wrap (M + (1 - T)) = M + (1 - T) := IntWalk.i64_in _ (by omega)
        have hk1 : (k : Int) < (c.length : Int) := by omega
        have hk0 : (0 : Int) ≤ (k : Int) := by omega
        go_wp2_with (go_at_call 22; refine (HTK.out _).mono ?_; rintro e w' ⟨rfl, rfl⟩)
        go_roundw
        case rel => exact ⟨k + 1, M + (1 - T), by omega, rfl, by go_num, by omega, by omega, hb, HV.out⟩
        case measure => simp [intOf]; omega
    · have hd : c.drop k = [] := List.drop_eq_nil_of_le (by omega)
      have HV := Lib.hid (show E = decide (M = 1) by rw [HR.out, hd, Venn.fShape])
      clear hd
      go_wp2
      go_ret
      exact ⟨ret_bool (by rw [HV.out]; rfl), hb⟩

set_option maxHeartbeats 4000000 in
set_option maxRecDepth 100000 in
theorem form_Check (sa sc : Value) (l : List Venn.Atom) (c : List Int) (w : World) (ha : IsAtoms w sa l) (hc : IsInts w sc c) (hk : KindsOk w) :
    Calls Tryd.prog 7 #[.agg #[sa, sc]] w (Keeps (errV (Venn.formChk ⟨l, c⟩)) w) := by
  obtain ⟨A, cA, rfl, hra, hla, hlb⟩ := ha
  have hlb' := hlb
  unfold maxLen at hlb'
  obtain ⟨C, cC, rfl, hrc, hlc, hld⟩ := hc
  obtain ⟨E, hE⟩ : ∃ E, E = errV (Venn.formChk ⟨l, c⟩) := ⟨_, rfl⟩
  rw [← hE]
  have HA := Lib.hid (show IsAtoms w (.slice A l.length cA) l from ⟨A, cA, rfl, hra, hla, hlb⟩)
  have HC := Lib.hid (show IsInts w (.slice C c.length cC) c from ⟨C, cC, rfl, hrc, hlc, hld⟩)
  have HE := Lib.hid hE
  have HK := Lib.hid hk
  have HRA := Lib.hid hra
  have HRC := Lib.hid hrc
  clear hE hk hra hrc
  by_cases h1 : l.length = 0 ∨ c.length = 0
  · have HV := Lib.hid (show E = .iface 52 (.int .i64 5) by rw [HE.out, Venn.formChk, if_pos h1]; rfl)
    rcases Nat.eq_zero_or_pos l.length with h0 | h0
    · have e1 : ((l.length : Int) == 0) = true := beq_iff_eq.2 (by omega)
      clear h1 h0
      go_enter Tryd.func7, Tryd.ntmps7
      go_wp2
      go_ret
      exact ⟨congrArg Ending.returned HV.out.symm, by (repeat' (first | (with_reducible exact Below.refl _ _) | (with_reducible assumption) | (with_reducible refine Below.next ?_ (by with_reducible assumption)) | (with_reducible refine Below.drew ?_) | (with_reducible refine Below.laid ?_ _) | (with_reducible refine Below.setCell ?_ ?_ _) | (with_reducible refine size_of ?_) | (with_reducible refine Nat.le_succ_of_le ?_) | go_size))⟩
    · have e1 : ((l.length : Int) == 0) = false := beq_eq_false_iff_ne.2 (by omega)
      have e2 : ((c.length : Int) == 0) = true := beq_iff_eq.2 (by omega)
      clear h1 h0
      go_enter Tryd.func7, Tryd.ntmps7
      go_wp2
      go_ret
      exact ⟨congrArg Ending.returned HV.out.symm, by (repeat' (first | (with_reducible exact Below.refl _ _) | (with_reducible assumption) | (with_reducible refine Below.next ?_ (by with_reducible assumption)) | (with_reducible refine Below.drew ?_) | (with_reducible refine Below.laid ?_ _) | (with_reducible refine Below.setCell ?_ ?_ _) | (with_reducible refine size_of ?_) | (with_reducible refine Nat.le_succ_of_le ?_) | go_size))⟩
  have e1 : ((l.length : Int) == 0) = false := beq_eq_false_iff_ne.2 (by omega)
  have e2 : ((c.length : Int) == 0) = false := beq_eq_false_iff_ne.2 (by omega)
  by_cases h2 : 6 < l.length ∨ 20 < c.length
  · have HV := Lib.hid (show E = .iface 52 (.int .i64 4) by rw [HE.out, Venn.formChk, if_neg h1, if_pos h2]; rfl)
    clear h1
    rcases (by omega : 6 < l.length ∨ (¬ 6 < l.length ∧ 20 < c.length)) with h3 | ⟨h3, h4⟩
    · have h3' : (6 : Int) < (l.length : Int) := by omega
      go_enter Tryd.func7, Tryd.ntmps7
      go_wp2
      all_goals (first | (exfalso; omega) | (go_ret; exact ⟨congrArg Ending.returned HV.out.symm, by (repeat' (first | (with_reducible exact Below.refl _ _) | (with_reducible assumption) | (with_reducible refine Below.next ?_ (by with_reducible assumption)) | (with_reducible refine Below.drew ?_) | (with_reducible refine Below.laid ?_ _) | (with_reducible refine Below.setCell ?_ ?_ _) | (with_reducible refine size_of ?_) | (with_reducible refine Nat.le_succ_of_le ?_) | go_size))⟩))
    · have h3' : ¬ (6 : Int) < (l.length : Int) := by omega
      have h4' : (20 : Int) < (c.length : Int) := by omega
      go_enter Tryd.func7, Tryd.ntmps7
      go_wp2
      all_goals (first | (exfalso; omega) | (go_ret; exact ⟨congrArg Ending.returned HV.out.symm, by (repeat' (first | (with_reducible exact Below.refl _ _) | (with_reducible assumption) | (with_reducible refine Below.next ?_ (by with_reducible assumption)) | (with_reducible refine Below.drew ?_) | (with_reducible refine Below.laid ?_ _) | (with_reducible refine Below.setCell ?_ ?_ _) | (with_reducible refine size_of ?_) | (with_reducible refine Nat.le_succ_of_le ?_) | go_size))⟩))
  have HG := Lib.hid (show E = errV (if Venn.atomsChk l = 0 then Venn.codeChk l.length c else Venn.atomsChk l) by rw [HE.out, Venn.formChk, if_neg h1, if_neg h2])
  have h3' : ¬ (6 : Int) < (l.length : Int) := by omega
  have h4' : ¬ (20 : Int) < (c.length : Int) := by omega
  have h20 : c.length ≤ 20 := by omega
  clear h1 h2
  go_enter Tryd.func7, Tryd.ntmps7
  go_wp2
  go_loopw [37] (fun i wr => ∃ k : Nat, k ≤ l.length ∧ i = .int .i64 k ∧ Below w.heap.size w wr ∧ Blk wr w.heap.size 25 #[.slice A l.length cA, .slice C c.length cC] ∧ E = errV (if Venn.atomsChk (l.drop k) = 0 then Venn.codeChk l.length c else Venn.atomsChk (l.drop k)))
    (fun i _ => l.length - (intOf i).toNat)
  case atStart => exact ⟨0, Nat.zero_le _, rfl, by (repeat' (first | (with_reducible exact Below.refl _ _) | (with_reducible assumption) | (with_reducible refine Below.next ?_ (by with_reducible assumption)) | (with_reducible refine Below.drew ?_) | (with_reducible refine Below.laid ?_ _) | (with_reducible refine Below.setCell ?_ ?_ _) | (with_reducible refine size_of ?_) | (with_reducible refine Nat.le_succ_of_le ?_) | go_size)), Blk.new _ _ _, by rw [List.drop_zero]; exact HG.out⟩
  case round =>
    obtain ⟨k, hk, rfl, hb, hB, hrest⟩ := hrel
    obtain ⟨wo, rfl⟩ : ∃ wo : World, wo = wr := ⟨_, rfl⟩
    have HR := Lib.hid hrest
    clear hrest
    have hBl := hB.lt
    by_cases hlt : k < l.length
    · obtain ⟨ad, sv, tv, rfl, g0, g1, g2, g3, hs, ht⟩ := HRA.out k _ (List.getElem?_eq_getElem hlt)
      have HD := Lib.hid (List.drop_eq_getElem_cons hlt)
      generalize l[k] = at_ at g0 g1 g2 g3 hs ht HD
      obtain ⟨aw, aS, aT, an⟩ := at_
      simp only at g0 g1 g2 g3 hs ht
      have d0 := cell_keep hb g0
      have d1 := cell_keep hb g1
      have d2 := cell_keep hb g2
      have d3 := cell_keep hb g3
      obtain ⟨sA, sN, rfl, hs⟩ := hs
      obtain ⟨tA, tN, rfl, ht⟩ := ht
      have HSS := Lib.hid (show IsInts w (.slice sA aS.length sN) aS from ⟨sA, sN, rfl, hs⟩)
      have HTT := Lib.hid (show IsInts w (.slice tA aT.length tN) aT from ⟨tA, tN, rfl, ht⟩)
      clear g0 g1 g2 g3 hs ht
      have hk1 : (k : Int) < (l.length : Int) := by omega
      have hk0 : (0 : Int) ≤ (k : Int) := by omega
      by_cases hz : Venn.atomChk ⟨aw, aS, aT, an⟩ = 0
      · have HZ := Lib.hid (errV_zero hz)
        have HV := Lib.hid (show E = errV (if Venn.atomsChk (l.drop (k + 1)) = 0 then Venn.codeChk l.length c else Venn.atomsChk (l.drop (k + 1))) by rw [HR.out, HD.out, Venn.atomsChk, if_pos hz])
        clear hz
        go_wp2_with fail
        refine (atom_Check _ _ _ _ aS aT _ (HSS.out.keep (by (repeat' (first | (with_reducible exact Below.refl _ _) | (with_reducible assumption) | (with_reducible refine Below.next ?_ (by with_reducible assumption)) | (with_reducible refine Below.drew ?_) | (with_reducible refine Below.laid ?_ _) | (with_reducible refine Below.setCell ?_ ?_ _) | (with_reducible refine size_of ?_) | (with_reducible refine Nat.le_succ_of_le ?_) | go_size)))) (HTT.out.keep (by (repeat' (first | (with_reducible exact Below.refl _ _) | (with_reducible assumption) | (with_reducible refine Below.next ?_ (by with_reducible assumption)) | (with_reducible refine Below.drew ?_) | (with_reducible refine Below.laid ?_ _) | (with_reducible refine Below.setCell ?_ ?_ _) | (with_reducible refine size_of ?_) | (with_reducible refine Nat.le_succ_of_le ?_) | go_size)))) (HK.out.keep (by (repeat' (first | (with_reducible exact Below.refl _ _) | (with_reducible assumption) | (with_reducible refine Below.next ?_ (by with_reducible assumption)) | (with_reducible refine Below.drew ?_) | (with_reducible refine Below.laid ?_ _) | (with_reducible refine Below.setCell ?_ ?_ _) | (with_reducible refine size_of ?_) | (with_reducible refine Nat.le_succ_of_le ?_) | go_size))))).mono ?_
        rintro e w1 ⟨rfl, hb1⟩
        rw [HZ.out]
        go_wp2
        go_roundw
        case rel => exact ⟨k + 1, by omega, by go_num, by (repeat' (first | (with_reducible exact Below.refl _ _) | (with_reducible assumption) | (with_reducible refine Below.next ?_ (by with_reducible assumption)) | (with_reducible refine Below.drew ?_) | (with_reducible refine Below.laid ?_ _) | (with_reducible refine Below.setCell ?_ ?_ _) | (with_reducible refine size_of ?_) | (with_reducible refine Nat.le_succ_of_le ?_) | go_size)), (hB.alloc _).keep hb1, HV.out⟩
        case measure => simp [intOf]; omega
      · have HZ := Lib.hid (errV_ne hz)
        have HV := Lib.hid (show E = .iface 52 (.int .i64 (Venn.atomChk ⟨aw, aS, aT, an⟩)) by rw [HR.out, HD.out, Venn.atomsChk, if_neg hz, if_neg hz, errV_ne hz])
        clear hz
        go_wp2_with fail
        refine (atom_Check _ _ _ _ aS aT _ (HSS.out.keep (by (repeat' (first | (with_reducible exact Below.refl _ _) | (with_reducible assumption) | (with_reducible refine Below.next ?_ (by with_reducible assumption)) | (with_reducible refine Below.drew ?_) | (with_reducible refine Below.laid ?_ _) | (with_reducible refine Below.setCell ?_ ?_ _) | (with_reducible refine size_of ?_) | (with_reducible refine Nat.le_succ_of_le ?_) | go_size)))) (HTT.out.keep (by (repeat' (first | (with_reducible exact Below.refl _ _) | (with_reducible assumption) | (with_reducible refine Below.next ?_ (by with_reducible assumption)) | (with_reducible refine Below.drew ?_) | (with_reducible refine Below.laid ?_ _) | (with_reducible refine Below.setCell ?_ ?_ _) | (with_reducible refine size_of ?_) | (with_reducible refine Nat.le_succ_of_le ?_) | go_size)))) (HK.out.keep (by (repeat' (first | (with_reducible exact Below.refl _ _) | (with_reducible assumption) | (with_reducible refine Below.next ?_ (by with_reducible assumption)) | (with_reducible refine Below.drew ?_) | (with_reducible refine Below.laid ?_ _) | (with_reducible refine Below.setCell ?_ ?_ _) | (with_reducible refine size_of ?_) | (with_reducible refine Nat.le_succ_of_le ?_) | go_size))))).mono ?_
        rintro e w1 ⟨rfl, hb1⟩
        rw [HZ.out]
        go_wp2
        go_ret
        exact ⟨congrArg Ending.returned HV.out.symm, by (repeat' (first | (with_reducible exact Below.refl _ _) | (with_reducible assumption) | (with_reducible refine Below.next ?_ (by with_reducible assumption)) | (with_reducible refine Below.drew ?_) | (with_reducible refine Below.laid ?_ _) | (with_reducible refine Below.setCell ?_ ?_ _) | (with_reducible refine size_of ?_) | (with_reducible refine Nat.le_succ_of_le ?_) | go_size))⟩
    · have hd : l.drop k = [] := List.drop_eq_nil_of_le (by omega)
      have HV := Lib.hid (show E = errV (if c.all (Venn.codeOk l.length) = true then (if Venn.fShape 0 c = true then 0 else 3) else 1) by rw [HR.out, hd]; rfl)
      clear hd HR
      have c0 := hB.cell 0
      have c1 := hB.cell 1
      simp at c0 c1
      go_wp2
      go_loopw [50] (fun i wr => ∃ k : Nat, k ≤ c.length ∧ i = .int .i64 k ∧ Below w.heap.size w wr ∧ Blk wr w.heap.size 25 #[.slice A l.length cA, .slice C c.length cC] ∧ E = errV (if (c.drop k).all (Venn.codeOk l.length) = true then (if Venn.fShape 0 c = true then 0 else 3) else 1))
        (fun i _ => c.length - (intOf i).toNat)
      case atStart => exact ⟨0, Nat.zero_le _, rfl, hb, hB, by rw [List.drop_zero]; exact HV.out⟩
      case round =>
        clear c0 c1 hb hB hBl HV hlt hk
        obtain ⟨k, hk, rfl, hb, hB, hrest⟩ := hrel
        obtain ⟨wo, rfl⟩ : ∃ wo : World, wo = wr := ⟨_, rfl⟩
        have HR := Lib.hid hrest
        clear hrest
        have c0 := hB.cell 0
        have c1 := hB.cell 1
        simp at c0 c1
        by_cases hlt : k < c.length
        · obtain ⟨ad, rfl, hcell0⟩ := HRC.out.int hlt
          have hcell := cell_keep hb hcell0
          have HD := Lib.hid (List.drop_eq_getElem_cons hlt)
          generalize c[k] = s at hcell hcell0 HD
          clear hcell0
          have hk1 : (k : Int) < (c.length : Int) := by omega
          have hk0 : (0 : Int) ≤ (k : Int) := by omega
          have HTK := Lib.hid (form_Takes s)
          cases hok : Venn.codeOk l.length s
          · have HV := Lib.hid (show E = .iface 52 (.int .i64 1) by rw [HR.out, HD.out, List.all_cons, hok]; rfl)
            unfold Venn.codeOk at hok
            cases hsg : Venn.fSign s
            · rw [hsg] at HTK
              clear hok hsg
              generalize Venn.fTakes s = T at HTK
              go_wp2_with (go_at_call 22; refine (HTK.out _).mono ?_; rintro e w' ⟨rfl, rfl⟩)
              go_ret
              exact ⟨congrArg Ending.returned HV.out.symm, by (repeat' (first | (with_reducible exact Below.refl _ _) | (with_reducible assumption) | (with_reducible refine Below.next ?_ (by with_reducible assumption)) | (with_reducible refine Below.drew ?_) | (with_reducible refine Below.laid ?_ _) | (with_reducible refine Below.setCell ?_ ?_ _) | (with_reducible refine size_of ?_) | (with_reducible refine Nat.le_succ_of_le ?_) | go_size))⟩
            · have ht0 : Venn.fTakes s = 0 := by
                rw [hsg] at hok; simp at hok; exact hok.1
              have hge : (l.length : Int) ≤ s := by
                rw [hsg] at hok; simp at hok; exact hok.2
              rw [hsg, ht0] at HTK
              clear hok hsg ht0
              go_wp2_with (go_at_call 22; refine (HTK.out _).mono ?_; rintro e w' ⟨rfl, rfl⟩)
              all_goals (first | (exfalso; omega) | (go_ret; exact ⟨congrArg Ending.returned HV.out.symm, by (repeat' (first | (with_reducible exact Below.refl _ _) | (with_reducible assumption) | (with_reducible refine Below.next ?_ (by with_reducible assumption)) | (with_reducible refine Below.drew ?_) | (with_reducible refine Below.laid ?_ _) | (with_reducible refine Below.setCell ?_ ?_ _) | (with_reducible refine size_of ?_) | (with_reducible refine Nat.le_succ_of_le ?_) | go_size))⟩))
          · have HV := Lib.hid (show E = errV (if (c.drop (k + 1)).all (Venn.codeOk l.length) = true then (if Venn.fShape 0 c = true then 0 else 3) else 1) by rw [HR.out, HD.out, List.all_cons, hok, Bool.true_and])
            unfold Venn.codeOk at hok
            have hsg : Venn.fSign s = true := (Bool.and_eq_true_iff.1 hok).1
            rw [hsg] at HTK hok
            by_cases ht0 : Venn.fTakes s = 0
            · have hge : ¬ (l.length : Int) ≤ s := by
                rw [ht0] at hok; simp at hok; omega
              rw [ht0] at HTK
              clear hok hsg ht0
              go_wp2_with (go_at_call 22; refine (HTK.out _).mono ?_; rintro e w' ⟨rfl, rfl⟩)
              all_goals (try (exfalso; omega))
              go_roundw
              case rel => exact ⟨k + 1, by omega, by go_num, hb, hB, HV.out⟩
              case measure => simp [intOf]; omega
            · have hne : (Venn.fTakes s == 0) = false := by simpa using ht0
              clear hok hsg ht0
              generalize Venn.fTakes s = T at HTK hne
              go_wp2_with (go_at_call 22; refine (HTK.out _).mono ?_; rintro e w' ⟨rfl, rfl⟩)
              go_roundw
              case rel => exact ⟨k + 1, by omega, by go_num, hb, hB, HV.out⟩
              case measure => simp [intOf]; omega
        · have hd : c.drop k = [] := List.drop_eq_nil_of_le (by omega)
          have HV := Lib.hid (show E = errV (if Venn.fShape 0 c = true then 0 else 3) by rw [HR.out, hd]; rfl)
          clear hd
          cases hsh : Venn.fShape 0 c
          · have HF := Lib.hid (show E = .iface 52 (.int .i64 3) by rw [HV.out, hsh]; rfl)
            have HS := Lib.hid hsh
            clear hsh
            go_wp2_with (go_at_call 23; refine (form_shape _ c _ (HC.out.keep (by (repeat' (first | (with_reducible exact Below.refl _ _) | (with_reducible assumption) | (with_reducible refine Below.next ?_ (by with_reducible assumption)) | (with_reducible refine Below.drew ?_) | (with_reducible refine Below.laid ?_ _) | (with_reducible refine Below.setCell ?_ ?_ _) | (with_reducible refine size_of ?_) | (with_reducible refine Nat.le_succ_of_le ?_) | go_size)))) h20).mono ?_; rintro e w1 ⟨rfl, hb1⟩; rw [HS.out])
            go_ret
            exact ⟨congrArg Ending.returned HF.out.symm, by (repeat' (first | (with_reducible exact Below.refl _ _) | (with_reducible assumption) | (with_reducible refine Below.next ?_ (by with_reducible assumption)) | (with_reducible refine Below.drew ?_) | (with_reducible refine Below.laid ?_ _) | (with_reducible refine Below.setCell ?_ ?_ _) | (with_reducible refine size_of ?_) | (with_reducible refine Nat.le_succ_of_le ?_) | go_size))⟩
          · have HF := Lib.hid (show E = .nilIface by rw [HV.out, hsh]; rfl)
            have HS := Lib.hid hsh
            clear hsh
            go_wp2_with (go_at_call 23; refine (form_shape _ c _ (HC.out.keep (by (repeat' (first | (with_reducible exact Below.refl _ _) | (with_reducible assumption) | (with_reducible refine Below.next ?_ (by with_reducible assumption)) | (with_reducible refine Below.drew ?_) | (with_reducible refine Below.laid ?_ _) | (with_reducible refine Below.setCell ?_ ?_ _) | (with_reducible refine size_of ?_) | (with_reducible refine Nat.le_succ_of_le ?_) | go_size)))) h20).mono ?_; rintro e w1 ⟨rfl, hb1⟩; rw [HS.out])
            go_ret
            exact ⟨congrArg Ending.returned HF.out.symm, by (repeat' (first | (with_reducible exact Below.refl _ _) | (with_reducible assumption) | (with_reducible refine Below.next ?_ (by with_reducible assumption)) | (with_reducible refine Below.drew ?_) | (with_reducible refine Below.laid ?_ _) | (with_reducible refine Below.setCell ?_ ?_ _) | (with_reducible refine size_of ?_) | (with_reducible refine Nat.le_succ_of_le ?_) | go_size))⟩
end Go.Proofs.YtcloppcekbdbaaaDoor

namespace Go.Proofs.YtcloppcekbdbaaaDoor
open Go.RowKit

theorem bool_info : (Tryd.prog.info? 4).map (fun i => (i.zero, i.size, i.bytes)) = some (some (.bool false), 1, 1) := by kernel_rfl
theorem ownsRow_keep {w w' : World} {base : Nat} {e : TypeId} {size : Nat} {v : Value} {n : Nat} {xs : List Value} (h : w.ownsRow base e size v n xs) (hb : Below w.heap.size w w') : w'.ownsRow base e size v n xs := by
  have hg : w.grownBy w' none := ⟨hb.os, hb.tape, hb.output, hb.size, fun k hk _ => hb.block k hk⟩
  by_cases hv : v.ownBlock = none
  · exact h.kept hg (.inl hv)
  · exact h.kept hg (.inr hv)
/-- The row of answers, as it lies: the top last. -/
def bstack (st : List Bool) : List Value := st.reverse.map Value.bool
theorem bstack_cons (x : Bool) (st : List Bool) : bstack (x :: st) = bstack st ++ [.bool x] := by simp [bstack]
theorem bstack_length (st : List Bool) : (bstack st).length = st.length := by simp [bstack]

/-- Between two rounds. -/
structure FInv (w wr : World) (W : Venn.World) (l : List Venn.Atom) (c : List Int) (sa sc : Value) (v : Value) (k : Nat) (st : List Bool) : Prop where
  len : st.length ≤ k
  own : wr.ownsRow (w.heap.size + 2) 4 1 v st.length (bstack st)
  below : Below w.heap.size w wr
  size : w.heap.size + 1 < wr.heap.size
  bf : Blk wr w.heap.size 25 #[sa, sc]
  bw : Blk wr (w.heap.size + 1) 39 #[.int .i64 W.things, .int .i64 W.a, .int .i64 W.b, .int .i64 W.c]
  shape : Venn.fShape st.length (c.drop k) = true
  fold : (c.drop k).foldl (Venn.fStep W l) st = c.foldl (Venn.fStep W l) []

theorem FInv.step {w wr w1 : World} {W : Venn.World} {l : List Venn.Atom} {c : List Int} {sa sc v v' : Value} {k : Nat} {st st' : List Bool} {x : Int} (h : FInv w wr W l c sa sc v k st)
    (hD : c.drop k = x :: c.drop (k + 1)) (hst : st' = Venn.fStep W l st x) (hown : w1.ownsRow (w.heap.size + 2) 4 1 v' st'.length (bstack st')) (hb : Below w.heap.size w w1) (hz : w.heap.size + 1 < w1.heap.size)
    (hf : Blk w1 w.heap.size 25 #[sa, sc])
    (hk : Blk w1 (w.heap.size + 1) 39 #[.int .i64 W.things, .int .i64 W.a, .int .i64 W.b, .int .i64 W.c]) : FInv w w1 W l c sa sc v' (k + 1) st' := by
  have hs := h.shape
  rw [hD, Venn.fShape] at hs
  split at hs
  · cases hs
  rename_i h1
  have hl := Venn.fStep_length (w := W) (l := l) h1
  have h0 := Venn.fTakes_012 x
  have hlen := h.len
  refine ⟨by rw [hst]; omega, hown, hb, hz, hf, hk, by rw [hst, hl]; exact hs, ?_⟩
  rw [← h.fold, hD, hst]
  rfl

/-- Blocks of the call's own are laid, and the row grows. -/
theorem FInv.push {w wr w2 w1 : World} {W : Venn.World} {l : List Venn.Atom} {c : List Int} {sa sc v v' : Value} {k : Nat} {st st' : List Bool} {x : Int} (h : FInv w wr W l c sa sc v k st) (h2 : Below wr.heap.size wr w2)
    (hD : c.drop k = x :: c.drop (k + 1)) (hst : st' = Venn.fStep W l st x) (hown : w1.ownsRow (w.heap.size + 2) 4 1 v' st'.length (bstack st')) {row : Option Nat} (hg : w2.grownBy w1 row) (hrow : ∀ g, row = some g → w.heap.size + 2 ≤ g) : FInv w w1 W l c sa sc v' (k + 1) st' := by
  have hsz := h.size
  have hgs := hg.size
  have h2s := h2.size
  have hb : Below w.heap.size w w2 := Below.next h.below h2
  refine h.step hD hst hown (hb.grown hg (by omega) fun g hg' => by have := hrow g hg'; omega) (by omega) ((h.bf.keep h2).grown hg ?_) ((h.bw.keep h2).grown hg ?_)
  · intro e
    have := hrow _ e.symm
    omega
  · intro e
    have := hrow _ e.symm
    omega

end Go.Proofs.YtcloppcekbdbaaaDoor

namespace Go.Proofs.YtcloppcekbdbaaaDoor
open Go.RowKit

theorem boxes24 {w w1 : World} {tA tB : TypeId} {cs ds : Array Value}
    (hb : Below ((w.alloc (.cells cs tA)).alloc (.cells ds tB)).heap.size ((w.alloc (.cells cs tA)).alloc (.cells ds tB)) w1) :
    Blk w1 w.heap.size tA cs ∧ Blk w1 (w.heap.size + 1) tB ds :=
  ⟨((Blk.new w _ _).alloc _).keep hb, (Blk.newAt (by simp) _ _).keep hb⟩

theorem setChk_le {th : Int} (h : Venn.things th = true) {k : Nat} (hk : (k : Int) ≤ Venn.allS th) : Venn.setChk th (k : Int) = 0 := by
  rw [Venn.setChk, if_pos]
  simp [h, Venn.rightS, hk]
theorem allS_63 {th : Int} (h : Venn.things th = true) : 0 ≤ Venn.allS th ∧ Venn.allS th ≤ 63 ∧ Venn.allS th + 1 = ((2 ^ th.toNat : Nat) : Int) := by
  simp only [Venn.things, Bool.and_eq_true, decide_eq_true_eq] at h
  obtain ⟨T, rfl⟩ := Int.eq_ofNat_of_zero_le h.1
  rcases (by omega : T = 0 ∨ T = 1 ∨ T = 2 ∨ T = 3 ∨ T = 4 ∨ T = 5 ∨ T = 6) with rfl | rfl | rfl | rfl | rfl | rfl | rfl
  all_goals decide

theorem someChk_parts {f : Venn.Form} {name : Int} {W : Venn.World} (h : Venn.someChk f name W = 0) : Venn.formChk f = 0 ∧ Venn.nameOk name = true ∧ Venn.worldChk W = 0 := by
  unfold Venn.someChk at h
  split at h
  · rename_i h1
    split at h
    · rename_i h2
      exact ⟨h1, h2, h⟩
    · cases h
  · contradiction

def someIsV (l : List Venn.Atom) (c : List Int) (name th a b d : Int) : Bool := if Venn.someChk ⟨l, c⟩ name ⟨th, a, b, d⟩ = 0 then decide (0 ≤ Venn.firstSet ⟨l, c⟩ name ⟨th, a, b, d⟩ true) else false
def someEachV (l : List Venn.Atom) (c : List Int) (name th a b d : Int) : Bool := if Venn.someChk ⟨l, c⟩ name ⟨th, a, b, d⟩ = 0 then decide (Venn.firstSet ⟨l, c⟩ name ⟨th, a, b, d⟩ false < 0) else false
theorem IsIntsNil (w : World) : IsInts w (.slice none 0 0) [] := ⟨none, 0, rfl, Rd.nil _ _, Nat.le_refl _, by simp⟩
theorem IsInts.of_blk1 {w : World} {g : Nat} {t : TypeId} {x : Int} (h : Blk w g t #[.int .i64 x]) : IsInts w (.slice (some ⟨g, 0, none⟩) 1 1) [x] := by
  refine ⟨_, _, rfl, fun j u hj => ⟨_, rfl, ?_⟩, Nat.le_refl _, by simp [maxLen]⟩
  match j, hj with
  | 0, hj => simp at hj; subst hj; exact h.cell 0
theorem IsAtoms.one {w : World} {g : Nat} {t : TypeId} {a : Venn.Atom} {sv tv : Value} (h : Blk w g t #[.int .i64 a.what, sv, tv, .int .i64 a.n]) (hs : IsInts w sv a.s) (ht : IsInts w tv a.t) : IsAtoms w (.slice (some ⟨g, 0, none⟩) 1 1) [a] := by
  refine ⟨_, _, rfl, fun k x hx => ?_, Nat.le_refl _, by simp [maxLen]⟩
  match k, hx with
  | 0, hx =>
    simp at hx
    subst hx
    exact ⟨_, sv, tv, rfl, h.cell 0, h.cell 1, h.cell 2, h.cell 3, hs, ht⟩
end Go.Proofs.YtcloppcekbdbaaaDoor
