/-
  THE WALKS of package some, of alike.Name and vennlaw4.atomOf.
-/
import Derived.Test.YtcecbpbpknphjaaDoorFormTrue
import Derived.Test.YtcecbpbpknphjaaDoorVennP1
namespace Go.Proofs.YtcecbpbpknphjaaDoor
open Go.RowKit

theorem alike_Name (n : Int) (w : World) : Calls Tryd.prog 97 #[.int .i64 n] w (Pure (.bool (Venn.nameOk n)) w) := by
  unfold Venn.nameOk
  go_enter Tryd.func97, Tryd.ntmps97
  go_wp2
  all_goals (go_ret; exact ⟨by first | (simp [*]; done) | (simp [*]; intros; omega), rfl⟩)

theorem boxes24 {w w1 : World} {tA tB : TypeId} {cs ds : Array Value}
    (hb : Below ((w.alloc (.cells cs tA)).alloc (.cells ds tB)).heap.size ((w.alloc (.cells cs tA)).alloc (.cells ds tB)) w1) :
    Blk w1 w.heap.size tA cs ∧ Blk w1 (w.heap.size + 1) tB ds :=
  ⟨((Blk.new w _ _).alloc _).keep hb, (Blk.newAt (by simp) _ _).keep hb⟩

set_option maxHeartbeats 1000000 in
theorem some_check (sa sc : Value) (l : List Venn.Atom) (c : List Int) (name th a b d : Int) (w : World) (ha : IsAtoms w sa l) (hc : IsInts w sc c) (hk : KindsOk w) :
    Calls Tryd.prog 62 #[.agg #[sa, sc], .int .i64 name, .agg #[.int .i64 th, .int .i64 a, .int .i64 b, .int .i64 d]] w (Keeps (errV (Venn.someChk ⟨l, c⟩ name ⟨th, a, b, d⟩)) w) := by
  obtain ⟨A, cA, rfl, hra⟩ := ha
  obtain ⟨C, cC, rfl, hrc⟩ := hc
  have HA := Lib.hid (show IsAtoms w (.slice A l.length cA) l from ⟨A, cA, rfl, hra⟩)
  have HC := Lib.hid (show IsInts w (.slice C c.length cC) c from ⟨C, cC, rfl, hrc⟩)
  have HK := Lib.hid hk
  clear hra hrc hk
  by_cases h1 : Venn.formChk ⟨l, c⟩ = 0
  · have HX := Lib.hid (errV_zero h1)
    cases h2 : Venn.nameOk name
    · have HV := Lib.hid (show Venn.someChk ⟨l, c⟩ name ⟨th, a, b, d⟩ = 1 by rw [Venn.someChk, if_pos h1, h2]; rfl)
      have HN := Lib.hid h2
      clear h1 h2
      rw [HV.out]
      go_enter Tryd.func62, Tryd.ntmps62
      go_wp2_with fail
      refine (form_Check _ _ l c _ (HA.out.keep (by (repeat' (first | (with_reducible exact Below.refl _ _) | (with_reducible assumption) | (with_reducible refine Below.next ?_ (by with_reducible assumption)) | (with_reducible refine Below.drew ?_) | (with_reducible refine Below.laid ?_ _) | (with_reducible refine Below.setCell ?_ ?_ _) | (with_reducible refine size_of ?_) | (with_reducible refine Nat.le_succ_of_le ?_) | go_size)))) (HC.out.keep (by (repeat' (first | (with_reducible exact Below.refl _ _) | (with_reducible assumption) | (with_reducible refine Below.next ?_ (by with_reducible assumption)) | (with_reducible refine Below.drew ?_) | (with_reducible refine Below.laid ?_ _) | (with_reducible refine Below.setCell ?_ ?_ _) | (with_reducible refine size_of ?_) | (with_reducible refine Nat.le_succ_of_le ?_) | go_size)))) (HK.out.keep (by (repeat' (first | (with_reducible exact Below.refl _ _) | (with_reducible assumption) | (with_reducible refine Below.next ?_ (by with_reducible assumption)) | (with_reducible refine Below.drew ?_) | (with_reducible refine Below.laid ?_ _) | (with_reducible refine Below.setCell ?_ ?_ _) | (with_reducible refine size_of ?_) | (with_reducible refine Nat.le_succ_of_le ?_) | go_size))))).mono ?_
      rintro e w1 ⟨rfl, hb1⟩
      rw [HX.out]
      go_wp2_with (go_at_call 97; refine (alike_Name _ _).mono ?_; rintro e w' ⟨rfl, rfl⟩; rw [HN.out])
      go_ret
      exact ⟨rfl, by (repeat' (first | (with_reducible exact Below.refl _ _) | (with_reducible assumption) | (with_reducible refine Below.next ?_ (by with_reducible assumption)) | (with_reducible refine Below.drew ?_) | (with_reducible refine Below.laid ?_ _) | (with_reducible refine Below.setCell ?_ ?_ _) | (with_reducible refine size_of ?_) | (with_reducible refine Nat.le_succ_of_le ?_) | go_size))⟩
    · have HV := Lib.hid (show Venn.someChk ⟨l, c⟩ name ⟨th, a, b, d⟩ = Venn.worldChk ⟨th, a, b, d⟩ by rw [Venn.someChk, if_pos h1, h2, if_pos rfl])
      have HN := Lib.hid h2
      clear h1 h2
      rw [HV.out]
      go_enter Tryd.func62, Tryd.ntmps62
      go_wp2_with fail
      refine (form_Check _ _ l c _ (HA.out.keep (by (repeat' (first | (with_reducible exact Below.refl _ _) | (with_reducible assumption) | (with_reducible refine Below.next ?_ (by with_reducible assumption)) | (with_reducible refine Below.drew ?_) | (with_reducible refine Below.laid ?_ _) | (with_reducible refine Below.setCell ?_ ?_ _) | (with_reducible refine size_of ?_) | (with_reducible refine Nat.le_succ_of_le ?_) | go_size)))) (HC.out.keep (by (repeat' (first | (with_reducible exact Below.refl _ _) | (with_reducible assumption) | (with_reducible refine Below.next ?_ (by with_reducible assumption)) | (with_reducible refine Below.drew ?_) | (with_reducible refine Below.laid ?_ _) | (with_reducible refine Below.setCell ?_ ?_ _) | (with_reducible refine size_of ?_) | (with_reducible refine Nat.le_succ_of_le ?_) | go_size)))) (HK.out.keep (by (repeat' (first | (with_reducible exact Below.refl _ _) | (with_reducible assumption) | (with_reducible refine Below.next ?_ (by with_reducible assumption)) | (with_reducible refine Below.drew ?_) | (with_reducible refine Below.laid ?_ _) | (with_reducible refine Below.setCell ?_ ?_ _) | (with_reducible refine size_of ?_) | (with_reducible refine Nat.le_succ_of_le ?_) | go_size))))).mono ?_
      rintro e w1 ⟨rfl, hb1⟩
      rw [HX.out]
      obtain ⟨d0, d1, d2, d3⟩ := (boxes24 hb1).2.cells4
      go_wp2_with (first | (go_at_call 97; refine (alike_Name _ _).mono ?_; rintro e w' ⟨rfl, rfl⟩; rw [HN.out]) | (go_at_call 56; refine (term_World _ _ _ _ _).mono ?_; rintro e w2 ⟨rfl, hb2⟩))
      go_ret
      exact ⟨rfl, by (repeat' (first | (with_reducible exact Below.refl _ _) | (with_reducible assumption) | (with_reducible refine Below.next ?_ (by with_reducible assumption)) | (with_reducible refine Below.drew ?_) | (with_reducible refine Below.laid ?_ _) | (with_reducible refine Below.setCell ?_ ?_ _) | (with_reducible refine size_of ?_) | (with_reducible refine Nat.le_succ_of_le ?_) | go_size))⟩
  · have HX := Lib.hid (errV_ne h1)
    have HV := Lib.hid (show Venn.someChk ⟨l, c⟩ name ⟨th, a, b, d⟩ = Venn.formChk ⟨l, c⟩ by rw [Venn.someChk, if_neg h1])
    clear h1
    rw [HV.out, HX.out]
    go_enter Tryd.func62, Tryd.ntmps62
    go_wp2_with fail
    refine (form_Check _ _ l c _ (HA.out.keep (by (repeat' (first | (with_reducible exact Below.refl _ _) | (with_reducible assumption) | (with_reducible refine Below.next ?_ (by with_reducible assumption)) | (with_reducible refine Below.drew ?_) | (with_reducible refine Below.laid ?_ _) | (with_reducible refine Below.setCell ?_ ?_ _) | (with_reducible refine size_of ?_) | (with_reducible refine Nat.le_succ_of_le ?_) | go_size)))) (HC.out.keep (by (repeat' (first | (with_reducible exact Below.refl _ _) | (with_reducible assumption) | (with_reducible refine Below.next ?_ (by with_reducible assumption)) | (with_reducible refine Below.drew ?_) | (with_reducible refine Below.laid ?_ _) | (with_reducible refine Below.setCell ?_ ?_ _) | (with_reducible refine size_of ?_) | (with_reducible refine Nat.le_succ_of_le ?_) | go_size)))) (HK.out.keep (by (repeat' (first | (with_reducible exact Below.refl _ _) | (with_reducible assumption) | (with_reducible refine Below.next ?_ (by with_reducible assumption)) | (with_reducible refine Below.drew ?_) | (with_reducible refine Below.laid ?_ _) | (with_reducible refine Below.setCell ?_ ?_ _) | (with_reducible refine size_of ?_) | (with_reducible refine Nat.le_succ_of_le ?_) | go_size))))).mono ?_
    rintro e w1 ⟨rfl, hb1⟩
    rw [HX.out]
    go_wp2
    go_ret
    exact ⟨rfl, by (repeat' (first | (with_reducible exact Below.refl _ _) | (with_reducible assumption) | (with_reducible refine Below.next ?_ (by with_reducible assumption)) | (with_reducible refine Below.drew ?_) | (with_reducible refine Below.laid ?_ _) | (with_reducible refine Below.setCell ?_ ?_ _) | (with_reducible refine size_of ?_) | (with_reducible refine Nat.le_succ_of_le ?_) | go_size))⟩

theorem setChk_le {th : Int} (h : Venn.things th = true) {k : Nat} (hk : (k : Int) ≤ Venn.allS th) : Venn.setChk th (k : Int) = 0 := by
  rw [Venn.setChk, if_pos]
  simp [h, Venn.rightS, hk]
theorem allS_63 {th : Int} (h : Venn.things th = true) : 0 ≤ Venn.allS th ∧ Venn.allS th ≤ 63 ∧ Venn.allS th + 1 = ((2 ^ th.toNat : Nat) : Int) := by
  simp only [Venn.things, Bool.and_eq_true, decide_eq_true_eq] at h
  obtain ⟨T, rfl⟩ := Int.eq_ofNat_of_zero_le h.1
  rcases (by omega : T = 0 ∨ T = 1 ∨ T = 2 ∨ T = 3 ∨ T = 4 ∨ T = 5 ∨ T = 6) with rfl | rfl | rfl | rfl | rfl | rfl | rfl
  all_goals decide

set_option maxHeartbeats 2000000 in
set_option maxRecDepth 100000 in
theorem some_first0 (sa sc : Value) (l : List Venn.Atom) (c : List Int) (th a b d : Int) (so : Bool) (w : World) (ha : IsAtoms w sa l) (hc : IsInts w sc c) (hk : KindsOk w) (hf : Venn.formChk ⟨l, c⟩ = 0) (hw : Venn.worldChk ⟨th, a, b, d⟩ = 0) :
    Calls Tryd.prog 63 #[.agg #[sa, sc], .int .i64 0, .agg #[.int .i64 th, .int .i64 a, .int .i64 b, .int .i64 d], .bool so] w (Keeps (.int .i64 (Venn.firstSet ⟨l, c⟩ 0 ⟨th, a, b, d⟩ so)) w) := by
  obtain ⟨A, cA, rfl, hra⟩ := ha
  obtain ⟨C, cC, rfl, hrc⟩ := hc
  have HA := Lib.hid (show IsAtoms w (.slice A l.length cA) l from ⟨A, cA, rfl, hra⟩)
  have HC := Lib.hid (show IsInts w (.slice C c.length cC) c from ⟨C, cC, rfl, hrc⟩)
  have HK := Lib.hid hk
  have HF := Lib.hid hf
  obtain ⟨hth, hwa, hwb, hwc⟩ := Venn.worldChk_iff.1 hw
  have HTH := Lib.hid hth
  obtain ⟨hs0, hs63, hs2⟩ := allS_63 hth
  have HSW := Lib.hid (show ∀ k : Nat, (k : Int) ≤ Venn.allS th → Venn.worldChk ⟨th, (k : Int), b, d⟩ = 0 from fun k hk => Venn.worldChk_iff.2 ⟨hth, by first | exact hwa | exact setChk_le hth hk, by first | exact hwb | exact setChk_le hth hk, by first | exact hwc | exact setChk_le hth hk⟩)
  obtain ⟨E, hE⟩ : ∃ E, E = Venn.firstSet ⟨l, c⟩ 0 ⟨th, a, b, d⟩ so := ⟨_, rfl⟩
  rw [← hE]
  have HE := Lib.hid (show E = Venn.firstFrom (fun s => Venn.formTrue ⟨l, c⟩ ((⟨th, a, b, d⟩ : Venn.World).put 0 (s : Int)) == so) (2 ^ th.toNat) 0 from hE)
  clear hra hrc hk hf hth hwa hwb hwc hw hE
  obtain ⟨N, hN⟩ : ∃ N : Nat, N = 2 ^ th.toNat := ⟨_, rfl⟩
  rw [← hN] at hs2 HE
  clear hN
  have hwr : IntKind.i64.wrap (Venn.allS th + 1) = (N : Int) := by rw [hs2]; exact IntWalk.i64_in _ (by omega)
  go_enter Tryd.func63, Tryd.ntmps63
  go_wp2_with (go_at_call 98; refine (sets_All _ _ HTH.out).mono ?_; rintro e w' ⟨rfl, rfl⟩)
  go_loopw [14] (fun i wr => ∃ (k : Nat) (X : Int), k ≤ N ∧ i = .int .i64 k ∧ Below w.heap.size w wr ∧ Blk wr w.heap.size 25 #[.slice A l.length cA, .slice C c.length cC] ∧ Blk wr (w.heap.size + 1) 28 #[.int .i64 th, .int .i64 X, .int .i64 b, .int .i64 d] ∧
    E = Venn.firstFrom (fun s => Venn.formTrue ⟨l, c⟩ ((⟨th, a, b, d⟩ : Venn.World).put 0 (s : Int)) == so) (N - k) k) (fun i _ => N - (intOf i).toNat)
  case atStart => exact ⟨0, _, Nat.zero_le _, rfl, by (repeat' (first | (with_reducible exact Below.refl _ _) | (with_reducible assumption) | (with_reducible refine Below.next ?_ (by with_reducible assumption)) | (with_reducible refine Below.drew ?_) | (with_reducible refine Below.laid ?_ _) | (with_reducible refine Below.setCell ?_ ?_ _) | (with_reducible refine size_of ?_) | (with_reducible refine Nat.le_succ_of_le ?_) | go_size)), (Blk.new _ _ _).alloc _, Blk.newAt (by simp) _ _, HE.out⟩
  case round =>
    obtain ⟨k, X, hk, rfl, hb, hBf, hBw, hrest⟩ := hrel
    obtain ⟨wo, rfl⟩ : ∃ wo : World, wo = wr := ⟨_, rfl⟩
    have HR := Lib.hid hrest
    clear hrest
    by_cases hlt : k < N
    · have HP := Lib.hid (HSW.out k (by omega))
      have HD := Lib.hid (show E = if (Venn.formTrue ⟨l, c⟩ ⟨th, (k : Int), b, d⟩ == so) = true then (k : Int) else Venn.firstFrom (fun s => Venn.formTrue ⟨l, c⟩ ((⟨th, a, b, d⟩ : Venn.World).put 0 (s : Int)) == so) (N - (k + 1)) (k + 1) by
        rw [HR.out, show N - k = (N - (k + 1)) + 1 by omega, Venn.firstFrom]; rfl)
      have hf0 := hBf.cell 0
      have hf1 := hBf.cell 1
      simp at hf0 hf1
      obtain ⟨c0, c1, c2, c3⟩ := hBw.cells4
      have fz := hBw.frozen 1
      have hBw2 := hBw.set_ 1 (.int .i64 (k : Int))
      have hBf2 := hBf.far (p := ⟨w.heap.size + 1, 1, none⟩) (by simp) (.int .i64 (k : Int))
      simp at hBw2
      have hbl := hBw.lt
      have hk1 : (k : Int) < (N : Int) := by omega
      cases hso : (Venn.formTrue ⟨l, c⟩ ⟨th, (k : Int), b, d⟩ == so)
      · have HV := Lib.hid (show E = Venn.firstFrom (fun s => Venn.formTrue ⟨l, c⟩ ((⟨th, a, b, d⟩ : Venn.World).put 0 (s : Int)) == so) (N - (k + 1)) (k + 1) by rw [HD.out, hso]; rfl)
        have HS := Lib.hid hso
        clear hso
        go_wp2_with fail
        refine (form_True _ _ l c _ _ _ _ _ (HA.out.keep (by (repeat' (first | (with_reducible exact Below.refl _ _) | (with_reducible assumption) | (with_reducible refine Below.next ?_ (by with_reducible assumption)) | (with_reducible refine Below.drew ?_) | (with_reducible refine Below.laid ?_ _) | (with_reducible refine Below.setCell ?_ ?_ _) | (with_reducible refine size_of ?_) | (with_reducible refine Nat.le_succ_of_le ?_) | go_size)))) (HC.out.keep (by (repeat' (first | (with_reducible exact Below.refl _ _) | (with_reducible assumption) | (with_reducible refine Below.next ?_ (by with_reducible assumption)) | (with_reducible refine Below.drew ?_) | (with_reducible refine Below.laid ?_ _) | (with_reducible refine Below.setCell ?_ ?_ _) | (with_reducible refine size_of ?_) | (with_reducible refine Nat.le_succ_of_le ?_) | go_size)))) (HK.out.keep (by (repeat' (first | (with_reducible exact Below.refl _ _) | (with_reducible assumption) | (with_reducible refine Below.next ?_ (by with_reducible assumption)) | (with_reducible refine Below.drew ?_) | (with_reducible refine Below.laid ?_ _) | (with_reducible refine Below.setCell ?_ ?_ _) | (with_reducible refine size_of ?_) | (with_reducible refine Nat.le_succ_of_le ?_) | go_size)))) HF.out HP.out).mono ?_
        rintro e w1 ⟨rfl, hb1⟩
        have hso := HS.out
        generalize Venn.formTrue ⟨l, c⟩ ⟨th, (k : Int), b, d⟩ = TV at hso
        go_wp2
        go_roundw
        case rel => exact ⟨k + 1, (k : Int), by omega, by go_num, by (repeat' (first | (with_reducible exact Below.refl _ _) | (with_reducible assumption) | (with_reducible refine Below.next ?_ (by with_reducible assumption)) | (with_reducible refine Below.drew ?_) | (with_reducible refine Below.laid ?_ _) | (with_reducible refine Below.setCell ?_ ?_ _) | (with_reducible refine size_of ?_) | (with_reducible refine Nat.le_succ_of_le ?_) | go_size)), hBf2.keep hb1, hBw2.keep hb1, HV.out⟩
        case measure => simp [intOf]; omega
      · have HV := Lib.hid (show E = (k : Int) by rw [HD.out, hso]; rfl)
        have HS := Lib.hid hso
        clear hso
        go_wp2_with fail
        refine (form_True _ _ l c _ _ _ _ _ (HA.out.keep (by (repeat' (first | (with_reducible exact Below.refl _ _) | (with_reducible assumption) | (with_reducible refine Below.next ?_ (by with_reducible assumption)) | (with_reducible refine Below.drew ?_) | (with_reducible refine Below.laid ?_ _) | (with_reducible refine Below.setCell ?_ ?_ _) | (with_reducible refine size_of ?_) | (with_reducible refine Nat.le_succ_of_le ?_) | go_size)))) (HC.out.keep (by (repeat' (first | (with_reducible exact Below.refl _ _) | (with_reducible assumption) | (with_reducible refine Below.next ?_ (by with_reducible assumption)) | (with_reducible refine Below.drew ?_) | (with_reducible refine Below.laid ?_ _) | (with_reducible refine Below.setCell ?_ ?_ _) | (with_reducible refine size_of ?_) | (with_reducible refine Nat.le_succ_of_le ?_) | go_size)))) (HK.out.keep (by (repeat' (first | (with_reducible exact Below.refl _ _) | (with_reducible assumption) | (with_reducible refine Below.next ?_ (by with_reducible assumption)) | (with_reducible refine Below.drew ?_) | (with_reducible refine Below.laid ?_ _) | (with_reducible refine Below.setCell ?_ ?_ _) | (with_reducible refine size_of ?_) | (with_reducible refine Nat.le_succ_of_le ?_) | go_size)))) HF.out HP.out).mono ?_
        rintro e w1 ⟨rfl, hb1⟩
        have hso := HS.out
        generalize Venn.formTrue ⟨l, c⟩ ⟨th, (k : Int), b, d⟩ = TV at hso
        go_wp2
        go_ret
        exact ⟨ret_int HV.out.symm, by (repeat' (first | (with_reducible exact Below.refl _ _) | (with_reducible assumption) | (with_reducible refine Below.next ?_ (by with_reducible assumption)) | (with_reducible refine Below.drew ?_) | (with_reducible refine Below.laid ?_ _) | (with_reducible refine Below.setCell ?_ ?_ _) | (with_reducible refine size_of ?_) | (with_reducible refine Nat.le_succ_of_le ?_) | go_size))⟩
    · have HV := Lib.hid (show E = -1 by rw [HR.out, show N - k = 0 by omega]; rfl)
      have hk1 : ¬ (k : Int) < (N : Int) := by omega
      go_wp2
      go_ret
      exact ⟨ret_int HV.out.symm, hb⟩

set_option maxHeartbeats 2000000 in
set_option maxRecDepth 100000 in
theorem some_first1 (sa sc : Value) (l : List Venn.Atom) (c : List Int) (th a b d : Int) (so : Bool) (w : World) (ha : IsAtoms w sa l) (hc : IsInts w sc c) (hk : KindsOk w) (hf : Venn.formChk ⟨l, c⟩ = 0) (hw : Venn.worldChk ⟨th, a, b, d⟩ = 0) :
    Calls Tryd.prog 63 #[.agg #[sa, sc], .int .i64 1, .agg #[.int .i64 th, .int .i64 a, .int .i64 b, .int .i64 d], .bool so] w (Keeps (.int .i64 (Venn.firstSet ⟨l, c⟩ 1 ⟨th, a, b, d⟩ so)) w) := by
  obtain ⟨A, cA, rfl, hra⟩ := ha
  obtain ⟨C, cC, rfl, hrc⟩ := hc
  have HA := Lib.hid (show IsAtoms w (.slice A l.length cA) l from ⟨A, cA, rfl, hra⟩)
  have HC := Lib.hid (show IsInts w (.slice C c.length cC) c from ⟨C, cC, rfl, hrc⟩)
  have HK := Lib.hid hk
  have HF := Lib.hid hf
  obtain ⟨hth, hwa, hwb, hwc⟩ := Venn.worldChk_iff.1 hw
  have HTH := Lib.hid hth
  obtain ⟨hs0, hs63, hs2⟩ := allS_63 hth
  have HSW := Lib.hid (show ∀ k : Nat, (k : Int) ≤ Venn.allS th → Venn.worldChk ⟨th, a, (k : Int), d⟩ = 0 from fun k hk => Venn.worldChk_iff.2 ⟨hth, by first | exact hwa | exact setChk_le hth hk, by first | exact hwb | exact setChk_le hth hk, by first | exact hwc | exact setChk_le hth hk⟩)
  obtain ⟨E, hE⟩ : ∃ E, E = Venn.firstSet ⟨l, c⟩ 1 ⟨th, a, b, d⟩ so := ⟨_, rfl⟩
  rw [← hE]
  have HE := Lib.hid (show E = Venn.firstFrom (fun s => Venn.formTrue ⟨l, c⟩ ((⟨th, a, b, d⟩ : Venn.World).put 1 (s : Int)) == so) (2 ^ th.toNat) 0 from hE)
  clear hra hrc hk hf hth hwa hwb hwc hw hE
  obtain ⟨N, hN⟩ : ∃ N : Nat, N = 2 ^ th.toNat := ⟨_, rfl⟩
  rw [← hN] at hs2 HE
  clear hN
  have hwr : IntKind.i64.wrap (Venn.allS th + 1) = (N : Int) := by rw [hs2]; exact IntWalk.i64_in _ (by omega)
  go_enter Tryd.func63, Tryd.ntmps63
  go_wp2_with (go_at_call 98; refine (sets_All _ _ HTH.out).mono ?_; rintro e w' ⟨rfl, rfl⟩)
  go_loopw [14] (fun i wr => ∃ (k : Nat) (X : Int), k ≤ N ∧ i = .int .i64 k ∧ Below w.heap.size w wr ∧ Blk wr w.heap.size 25 #[.slice A l.length cA, .slice C c.length cC] ∧ Blk wr (w.heap.size + 1) 28 #[.int .i64 th, .int .i64 a, .int .i64 X, .int .i64 d] ∧
    E = Venn.firstFrom (fun s => Venn.formTrue ⟨l, c⟩ ((⟨th, a, b, d⟩ : Venn.World).put 1 (s : Int)) == so) (N - k) k) (fun i _ => N - (intOf i).toNat)
  case atStart => exact ⟨0, _, Nat.zero_le _, rfl, by (repeat' (first | (with_reducible exact Below.refl _ _) | (with_reducible assumption) | (with_reducible refine Below.next ?_ (by with_reducible assumption)) | (with_reducible refine Below.drew ?_) | (with_reducible refine Below.laid ?_ _) | (with_reducible refine Below.setCell ?_ ?_ _) | (with_reducible refine size_of ?_) | (with_reducible refine Nat.le_succ_of_le ?_) | go_size)), (Blk.new _ _ _).alloc _, Blk.newAt (by simp) _ _, HE.out⟩
  case round =>
    obtain ⟨k, X, hk, rfl, hb, hBf, hBw, hrest⟩ := hrel
    obtain ⟨wo, rfl⟩ : ∃ wo : World, wo = wr := ⟨_, rfl⟩
    have HR := Lib.hid hrest
    clear hrest
    by_cases hlt : k < N
    · have HP := Lib.hid (HSW.out k (by omega))
      have HD := Lib.hid (show E = if (Venn.formTrue ⟨l, c⟩ ⟨th, a, (k : Int), d⟩ == so) = true then (k : Int) else Venn.firstFrom (fun s => Venn.formTrue ⟨l, c⟩ ((⟨th, a, b, d⟩ : Venn.World).put 1 (s : Int)) == so) (N - (k + 1)) (k + 1) by
        rw [HR.out, show N - k = (N - (k + 1)) + 1 by omega, Venn.firstFrom]; rfl)
      have hf0 := hBf.cell 0
      have hf1 := hBf.cell 1
      simp at hf0 hf1
      obtain ⟨c0, c1, c2, c3⟩ := hBw.cells4
      have fz := hBw.frozen 2
      have hBw2 := hBw.set_ 2 (.int .i64 (k : Int))
      have hBf2 := hBf.far (p := ⟨w.heap.size + 1, 2, none⟩) (by simp) (.int .i64 (k : Int))
      simp at hBw2
      have hbl := hBw.lt
      have hk1 : (k : Int) < (N : Int) := by omega
      cases hso : (Venn.formTrue ⟨l, c⟩ ⟨th, a, (k : Int), d⟩ == so)
      · have HV := Lib.hid (show E = Venn.firstFrom (fun s => Venn.formTrue ⟨l, c⟩ ((⟨th, a, b, d⟩ : Venn.World).put 1 (s : Int)) == so) (N - (k + 1)) (k + 1) by rw [HD.out, hso]; rfl)
        have HS := Lib.hid hso
        clear hso
        go_wp2_with fail
        refine (form_True _ _ l c _ _ _ _ _ (HA.out.keep (by (repeat' (first | (with_reducible exact Below.refl _ _) | (with_reducible assumption) | (with_reducible refine Below.next ?_ (by with_reducible assumption)) | (with_reducible refine Below.drew ?_) | (with_reducible refine Below.laid ?_ _) | (with_reducible refine Below.setCell ?_ ?_ _) | (with_reducible refine size_of ?_) | (with_reducible refine Nat.le_succ_of_le ?_) | go_size)))) (HC.out.keep (by (repeat' (first | (with_reducible exact Below.refl _ _) | (with_reducible assumption) | (with_reducible refine Below.next ?_ (by with_reducible assumption)) | (with_reducible refine Below.drew ?_) | (with_reducible refine Below.laid ?_ _) | (with_reducible refine Below.setCell ?_ ?_ _) | (with_reducible refine size_of ?_) | (with_reducible refine Nat.le_succ_of_le ?_) | go_size)))) (HK.out.keep (by (repeat' (first | (with_reducible exact Below.refl _ _) | (with_reducible assumption) | (with_reducible refine Below.next ?_ (by with_reducible assumption)) | (with_reducible refine Below.drew ?_) | (with_reducible refine Below.laid ?_ _) | (with_reducible refine Below.setCell ?_ ?_ _) | (with_reducible refine size_of ?_) | (with_reducible refine Nat.le_succ_of_le ?_) | go_size)))) HF.out HP.out).mono ?_
        rintro e w1 ⟨rfl, hb1⟩
        have hso := HS.out
        generalize Venn.formTrue ⟨l, c⟩ ⟨th, a, (k : Int), d⟩ = TV at hso
        go_wp2
        go_roundw
        case rel => exact ⟨k + 1, (k : Int), by omega, by go_num, by (repeat' (first | (with_reducible exact Below.refl _ _) | (with_reducible assumption) | (with_reducible refine Below.next ?_ (by with_reducible assumption)) | (with_reducible refine Below.drew ?_) | (with_reducible refine Below.laid ?_ _) | (with_reducible refine Below.setCell ?_ ?_ _) | (with_reducible refine size_of ?_) | (with_reducible refine Nat.le_succ_of_le ?_) | go_size)), hBf2.keep hb1, hBw2.keep hb1, HV.out⟩
        case measure => simp [intOf]; omega
      · have HV := Lib.hid (show E = (k : Int) by rw [HD.out, hso]; rfl)
        have HS := Lib.hid hso
        clear hso
        go_wp2_with fail
        refine (form_True _ _ l c _ _ _ _ _ (HA.out.keep (by (repeat' (first | (with_reducible exact Below.refl _ _) | (with_reducible assumption) | (with_reducible refine Below.next ?_ (by with_reducible assumption)) | (with_reducible refine Below.drew ?_) | (with_reducible refine Below.laid ?_ _) | (with_reducible refine Below.setCell ?_ ?_ _) | (with_reducible refine size_of ?_) | (with_reducible refine Nat.le_succ_of_le ?_) | go_size)))) (HC.out.keep (by (repeat' (first | (with_reducible exact Below.refl _ _) | (with_reducible assumption) | (with_reducible refine Below.next ?_ (by with_reducible assumption)) | (with_reducible refine Below.drew ?_) | (with_reducible refine Below.laid ?_ _) | (with_reducible refine Below.setCell ?_ ?_ _) | (with_reducible refine size_of ?_) | (with_reducible refine Nat.le_succ_of_le ?_) | go_size)))) (HK.out.keep (by (repeat' (first | (with_reducible exact Below.refl _ _) | (with_reducible assumption) | (with_reducible refine Below.next ?_ (by with_reducible assumption)) | (with_reducible refine Below.drew ?_) | (with_reducible refine Below.laid ?_ _) | (with_reducible refine Below.setCell ?_ ?_ _) | (with_reducible refine size_of ?_) | (with_reducible refine Nat.le_succ_of_le ?_) | go_size)))) HF.out HP.out).mono ?_
        rintro e w1 ⟨rfl, hb1⟩
        have hso := HS.out
        generalize Venn.formTrue ⟨l, c⟩ ⟨th, a, (k : Int), d⟩ = TV at hso
        go_wp2
        go_ret
        exact ⟨ret_int HV.out.symm, by (repeat' (first | (with_reducible exact Below.refl _ _) | (with_reducible assumption) | (with_reducible refine Below.next ?_ (by with_reducible assumption)) | (with_reducible refine Below.drew ?_) | (with_reducible refine Below.laid ?_ _) | (with_reducible refine Below.setCell ?_ ?_ _) | (with_reducible refine size_of ?_) | (with_reducible refine Nat.le_succ_of_le ?_) | go_size))⟩
    · have HV := Lib.hid (show E = -1 by rw [HR.out, show N - k = 0 by omega]; rfl)
      have hk1 : ¬ (k : Int) < (N : Int) := by omega
      go_wp2
      go_ret
      exact ⟨ret_int HV.out.symm, hb⟩

set_option maxHeartbeats 2000000 in
set_option maxRecDepth 100000 in
theorem some_first2 (sa sc : Value) (l : List Venn.Atom) (c : List Int) (th a b d : Int) (so : Bool) (w : World) (ha : IsAtoms w sa l) (hc : IsInts w sc c) (hk : KindsOk w) (hf : Venn.formChk ⟨l, c⟩ = 0) (hw : Venn.worldChk ⟨th, a, b, d⟩ = 0) :
    Calls Tryd.prog 63 #[.agg #[sa, sc], .int .i64 2, .agg #[.int .i64 th, .int .i64 a, .int .i64 b, .int .i64 d], .bool so] w (Keeps (.int .i64 (Venn.firstSet ⟨l, c⟩ 2 ⟨th, a, b, d⟩ so)) w) := by
  obtain ⟨A, cA, rfl, hra⟩ := ha
  obtain ⟨C, cC, rfl, hrc⟩ := hc
  have HA := Lib.hid (show IsAtoms w (.slice A l.length cA) l from ⟨A, cA, rfl, hra⟩)
  have HC := Lib.hid (show IsInts w (.slice C c.length cC) c from ⟨C, cC, rfl, hrc⟩)
  have HK := Lib.hid hk
  have HF := Lib.hid hf
  obtain ⟨hth, hwa, hwb, hwc⟩ := Venn.worldChk_iff.1 hw
  have HTH := Lib.hid hth
  obtain ⟨hs0, hs63, hs2⟩ := allS_63 hth
  have HSW := Lib.hid (show ∀ k : Nat, (k : Int) ≤ Venn.allS th → Venn.worldChk ⟨th, a, b, (k : Int)⟩ = 0 from fun k hk => Venn.worldChk_iff.2 ⟨hth, by first | exact hwa | exact setChk_le hth hk, by first | exact hwb | exact setChk_le hth hk, by first | exact hwc | exact setChk_le hth hk⟩)
  obtain ⟨E, hE⟩ : ∃ E, E = Venn.firstSet ⟨l, c⟩ 2 ⟨th, a, b, d⟩ so := ⟨_, rfl⟩
  rw [← hE]
  have HE := Lib.hid (show E = Venn.firstFrom (fun s => Venn.formTrue ⟨l, c⟩ ((⟨th, a, b, d⟩ : Venn.World).put 2 (s : Int)) == so) (2 ^ th.toNat) 0 from hE)
  clear hra hrc hk hf hth hwa hwb hwc hw hE
  obtain ⟨N, hN⟩ : ∃ N : Nat, N = 2 ^ th.toNat := ⟨_, rfl⟩
  rw [← hN] at hs2 HE
  clear hN
  have hwr : IntKind.i64.wrap (Venn.allS th + 1) = (N : Int) := by rw [hs2]; exact IntWalk.i64_in _ (by omega)
  go_enter Tryd.func63, Tryd.ntmps63
  go_wp2_with (go_at_call 98; refine (sets_All _ _ HTH.out).mono ?_; rintro e w' ⟨rfl, rfl⟩)
  go_loopw [14] (fun i wr => ∃ (k : Nat) (X : Int), k ≤ N ∧ i = .int .i64 k ∧ Below w.heap.size w wr ∧ Blk wr w.heap.size 25 #[.slice A l.length cA, .slice C c.length cC] ∧ Blk wr (w.heap.size + 1) 28 #[.int .i64 th, .int .i64 a, .int .i64 b, .int .i64 X] ∧
    E = Venn.firstFrom (fun s => Venn.formTrue ⟨l, c⟩ ((⟨th, a, b, d⟩ : Venn.World).put 2 (s : Int)) == so) (N - k) k) (fun i _ => N - (intOf i).toNat)
  case atStart => exact ⟨0, _, Nat.zero_le _, rfl, by (repeat' (first | (with_reducible exact Below.refl _ _) | (with_reducible assumption) | (with_reducible refine Below.next ?_ (by with_reducible assumption)) | (with_reducible refine Below.drew ?_) | (with_reducible refine Below.laid ?_ _) | (with_reducible refine Below.setCell ?_ ?_ _) | (with_reducible refine size_of ?_) | (with_reducible refine Nat.le_succ_of_le ?_) | go_size)), (Blk.new _ _ _).alloc _, Blk.newAt (by simp) _ _, HE.out⟩
  case round =>
    obtain ⟨k, X, hk, rfl, hb, hBf, hBw, hrest⟩ := hrel
    obtain ⟨wo, rfl⟩ : ∃ wo : World, wo = wr := ⟨_, rfl⟩
    have HR := Lib.hid hrest
    clear hrest
    by_cases hlt : k < N
    · have HP := Lib.hid (HSW.out k (by omega))
      have HD := Lib.hid (show E = if (Venn.formTrue ⟨l, c⟩ ⟨th, a, b, (k : Int)⟩ == so) = true then (k : Int) else Venn.firstFrom (fun s => Venn.formTrue ⟨l, c⟩ ((⟨th, a, b, d⟩ : Venn.World).put 2 (s : Int)) == so) (N - (k + 1)) (k + 1) by
        rw [HR.out, show N - k = (N - (k + 1)) + 1 by omega, Venn.firstFrom]; rfl)
      have hf0 := hBf.cell 0
      have hf1 := hBf.cell 1
      simp at hf0 hf1
      obtain ⟨c0, c1, c2, c3⟩ := hBw.cells4
      have fz := hBw.frozen 3
      have hBw2 := hBw.set_ 3 (.int .i64 (k : Int))
      have hBf2 := hBf.far (p := ⟨w.heap.size + 1, 3, none⟩) (by simp) (.int .i64 (k : Int))
      simp at hBw2
      have hbl := hBw.lt
      have hk1 : (k : Int) < (N : Int) := by omega
      cases hso : (Venn.formTrue ⟨l, c⟩ ⟨th, a, b, (k : Int)⟩ == so)
      · have HV := Lib.hid (show E = Venn.firstFrom (fun s => Venn.formTrue ⟨l, c⟩ ((⟨th, a, b, d⟩ : Venn.World).put 2 (s : Int)) == so) (N - (k + 1)) (k + 1) by rw [HD.out, hso]; rfl)
        have HS := Lib.hid hso
        clear hso
        go_wp2_with fail
        refine (form_True _ _ l c _ _ _ _ _ (HA.out.keep (by (repeat' (first | (with_reducible exact Below.refl _ _) | (with_reducible assumption) | (with_reducible refine Below.next ?_ (by with_reducible assumption)) | (with_reducible refine Below.drew ?_) | (with_reducible refine Below.laid ?_ _) | (with_reducible refine Below.setCell ?_ ?_ _) | (with_reducible refine size_of ?_) | (with_reducible refine Nat.le_succ_of_le ?_) | go_size)))) (HC.out.keep (by (repeat' (first | (with_reducible exact Below.refl _ _) | (with_reducible assumption) | (with_reducible refine Below.next ?_ (by with_reducible assumption)) | (with_reducible refine Below.drew ?_) | (with_reducible refine Below.laid ?_ _) | (with_reducible refine Below.setCell ?_ ?_ _) | (with_reducible refine size_of ?_) | (with_reducible refine Nat.le_succ_of_le ?_) | go_size)))) (HK.out.keep (by (repeat' (first | (with_reducible exact Below.refl _ _) | (with_reducible assumption) | (with_reducible refine Below.next ?_ (by with_reducible assumption)) | (with_reducible refine Below.drew ?_) | (with_reducible refine Below.laid ?_ _) | (with_reducible refine Below.setCell ?_ ?_ _) | (with_reducible refine size_of ?_) | (with_reducible refine Nat.le_succ_of_le ?_) | go_size)))) HF.out HP.out).mono ?_
        rintro e w1 ⟨rfl, hb1⟩
        have hso := HS.out
        generalize Venn.formTrue ⟨l, c⟩ ⟨th, a, b, (k : Int)⟩ = TV at hso
        go_wp2
        go_roundw
        case rel => exact ⟨k + 1, (k : Int), by omega, by go_num, by (repeat' (first | (with_reducible exact Below.refl _ _) | (with_reducible assumption) | (with_reducible refine Below.next ?_ (by with_reducible assumption)) | (with_reducible refine Below.drew ?_) | (with_reducible refine Below.laid ?_ _) | (with_reducible refine Below.setCell ?_ ?_ _) | (with_reducible refine size_of ?_) | (with_reducible refine Nat.le_succ_of_le ?_) | go_size)), hBf2.keep hb1, hBw2.keep hb1, HV.out⟩
        case measure => simp [intOf]; omega
      · have HV := Lib.hid (show E = (k : Int) by rw [HD.out, hso]; rfl)
        have HS := Lib.hid hso
        clear hso
        go_wp2_with fail
        refine (form_True _ _ l c _ _ _ _ _ (HA.out.keep (by (repeat' (first | (with_reducible exact Below.refl _ _) | (with_reducible assumption) | (with_reducible refine Below.next ?_ (by with_reducible assumption)) | (with_reducible refine Below.drew ?_) | (with_reducible refine Below.laid ?_ _) | (with_reducible refine Below.setCell ?_ ?_ _) | (with_reducible refine size_of ?_) | (with_reducible refine Nat.le_succ_of_le ?_) | go_size)))) (HC.out.keep (by (repeat' (first | (with_reducible exact Below.refl _ _) | (with_reducible assumption) | (with_reducible refine Below.next ?_ (by with_reducible assumption)) | (with_reducible refine Below.drew ?_) | (with_reducible refine Below.laid ?_ _) | (with_reducible refine Below.setCell ?_ ?_ _) | (with_reducible refine size_of ?_) | (with_reducible refine Nat.le_succ_of_le ?_) | go_size)))) (HK.out.keep (by (repeat' (first | (with_reducible exact Below.refl _ _) | (with_reducible assumption) | (with_reducible refine Below.next ?_ (by with_reducible assumption)) | (with_reducible refine Below.drew ?_) | (with_reducible refine Below.laid ?_ _) | (with_reducible refine Below.setCell ?_ ?_ _) | (with_reducible refine size_of ?_) | (with_reducible refine Nat.le_succ_of_le ?_) | go_size)))) HF.out HP.out).mono ?_
        rintro e w1 ⟨rfl, hb1⟩
        have hso := HS.out
        generalize Venn.formTrue ⟨l, c⟩ ⟨th, a, b, (k : Int)⟩ = TV at hso
        go_wp2
        go_ret
        exact ⟨ret_int HV.out.symm, by (repeat' (first | (with_reducible exact Below.refl _ _) | (with_reducible assumption) | (with_reducible refine Below.next ?_ (by with_reducible assumption)) | (with_reducible refine Below.drew ?_) | (with_reducible refine Below.laid ?_ _) | (with_reducible refine Below.setCell ?_ ?_ _) | (with_reducible refine size_of ?_) | (with_reducible refine Nat.le_succ_of_le ?_) | go_size))⟩
    · have HV := Lib.hid (show E = -1 by rw [HR.out, show N - k = 0 by omega]; rfl)
      have hk1 : ¬ (k : Int) < (N : Int) := by omega
      go_wp2
      go_ret
      exact ⟨ret_int HV.out.symm, hb⟩

theorem some_first (sa sc : Value) (l : List Venn.Atom) (c : List Int) (name th a b d : Int) (so : Bool) (w : World) (ha : IsAtoms w sa l) (hc : IsInts w sc c) (hk : KindsOk w) (hf : Venn.formChk ⟨l, c⟩ = 0) (hn : Venn.nameOk name = true) (hw : Venn.worldChk ⟨th, a, b, d⟩ = 0) :
    Calls Tryd.prog 63 #[.agg #[sa, sc], .int .i64 name, .agg #[.int .i64 th, .int .i64 a, .int .i64 b, .int .i64 d], .bool so] w (Keeps (.int .i64 (Venn.firstSet ⟨l, c⟩ name ⟨th, a, b, d⟩ so)) w) := by
  simp only [Venn.nameOk, Bool.and_eq_true, decide_eq_true_eq] at hn
  rcases (by omega : name = 0 ∨ name = 1 ∨ name = 2) with rfl | rfl | rfl
  · exact some_first0 sa sc l c th a b d so w ha hc hk hf hw
  · exact some_first1 sa sc l c th a b d so w ha hc hk hf hw
  · exact some_first2 sa sc l c th a b d so w ha hc hk hf hw
theorem someChk_parts {f : Venn.Form} {name : Int} {W : Venn.World} (h : Venn.someChk f name W = 0) : Venn.formChk f = 0 ∧ Venn.nameOk name = true ∧ Venn.worldChk W = 0 := by
  unfold Venn.someChk at h
  split at h
  · rename_i h1
    split at h
    · rename_i h2
      exact ⟨h1, h2, h⟩
    · cases h
  · contradiction

def someIsV (l : List Venn.Atom) (c : List Int) (name th a b d : Int) : Bool := if Venn.someChk ⟨l, c⟩ name ⟨th, a, b, d⟩ = 0 then decide (0 ≤ Venn.firstSet ⟨l, c⟩ name ⟨th, a, b, d⟩ true) else false
set_option maxHeartbeats 1000000 in
theorem some_Is (sa sc : Value) (l : List Venn.Atom) (c : List Int) (name th a b d : Int) (w : World) (ha : IsAtoms w sa l) (hc : IsInts w sc c) (hk : KindsOk w) :
    Calls Tryd.prog 21 #[.agg #[sa, sc], .int .i64 name, .agg #[.int .i64 th, .int .i64 a, .int .i64 b, .int .i64 d]] w (Keeps (.tuple #[.bool (someIsV l c name th a b d), errV (Venn.someChk ⟨l, c⟩ name ⟨th, a, b, d⟩)]) w) := by
  obtain ⟨A, cA, rfl, hra⟩ := ha
  obtain ⟨C, cC, rfl, hrc⟩ := hc
  have HA := Lib.hid (show IsAtoms w (.slice A l.length cA) l from ⟨A, cA, rfl, hra⟩)
  have HC := Lib.hid (show IsInts w (.slice C c.length cC) c from ⟨C, cC, rfl, hrc⟩)
  have HK := Lib.hid hk
  clear hra hrc hk
  by_cases h1 : Venn.someChk ⟨l, c⟩ name ⟨th, a, b, d⟩ = 0
  · have HX := Lib.hid (errV_zero h1)
    have HP := Lib.hid (someChk_parts h1)
    have HV := Lib.hid (show someIsV l c name th a b d = decide (0 ≤ Venn.firstSet ⟨l, c⟩ name ⟨th, a, b, d⟩ true) by rw [someIsV, if_pos h1])
    clear h1
    rw [HX.out, HV.out]
    obtain ⟨FS, hFS⟩ : ∃ FS, Venn.firstSet ⟨l, c⟩ name ⟨th, a, b, d⟩ true = FS := ⟨_, rfl⟩
    rw [hFS]
    have HFS := Lib.hid hFS
    clear hFS
    go_enter Tryd.func21, Tryd.ntmps21
    go_wp2_with fail
    refine (some_check _ _ l c _ _ _ _ _ _ (HA.out.keep (by (repeat' (first | (with_reducible exact Below.refl _ _) | (with_reducible assumption) | (with_reducible refine Below.next ?_ (by with_reducible assumption)) | (with_reducible refine Below.drew ?_) | (with_reducible refine Below.laid ?_ _) | (with_reducible refine Below.setCell ?_ ?_ _) | (with_reducible refine size_of ?_) | (with_reducible refine Nat.le_succ_of_le ?_) | go_size)))) (HC.out.keep (by (repeat' (first | (with_reducible exact Below.refl _ _) | (with_reducible assumption) | (with_reducible refine Below.next ?_ (by with_reducible assumption)) | (with_reducible refine Below.drew ?_) | (with_reducible refine Below.laid ?_ _) | (with_reducible refine Below.setCell ?_ ?_ _) | (with_reducible refine size_of ?_) | (with_reducible refine Nat.le_succ_of_le ?_) | go_size)))) (HK.out.keep (by (repeat' (first | (with_reducible exact Below.refl _ _) | (with_reducible assumption) | (with_reducible refine Below.next ?_ (by with_reducible assumption)) | (with_reducible refine Below.drew ?_) | (with_reducible refine Below.laid ?_ _) | (with_reducible refine Below.setCell ?_ ?_ _) | (with_reducible refine size_of ?_) | (with_reducible refine Nat.le_succ_of_le ?_) | go_size))))).mono ?_
    rintro e w1 ⟨rfl, hb1⟩
    rw [HX.out]
    obtain ⟨d0, d1, d2, d3⟩ := (boxes24 hb1).2.cells4
    have f0 := (boxes24 hb1).1.cell 0
    have f1 := (boxes24 hb1).1.cell 1
    simp at f0 f1
    go_wp2_with fail
    refine (some_first _ _ l c _ _ _ _ _ true _ (HA.out.keep (by (repeat' (first | (with_reducible exact Below.refl _ _) | (with_reducible assumption) | (with_reducible refine Below.next ?_ (by with_reducible assumption)) | (with_reducible refine Below.drew ?_) | (with_reducible refine Below.laid ?_ _) | (with_reducible refine Below.setCell ?_ ?_ _) | (with_reducible refine size_of ?_) | (with_reducible refine Nat.le_succ_of_le ?_) | go_size)))) (HC.out.keep (by (repeat' (first | (with_reducible exact Below.refl _ _) | (with_reducible assumption) | (with_reducible refine Below.next ?_ (by with_reducible assumption)) | (with_reducible refine Below.drew ?_) | (with_reducible refine Below.laid ?_ _) | (with_reducible refine Below.setCell ?_ ?_ _) | (with_reducible refine size_of ?_) | (with_reducible refine Nat.le_succ_of_le ?_) | go_size)))) (HK.out.keep (by (repeat' (first | (with_reducible exact Below.refl _ _) | (with_reducible assumption) | (with_reducible refine Below.next ?_ (by with_reducible assumption)) | (with_reducible refine Below.drew ?_) | (with_reducible refine Below.laid ?_ _) | (with_reducible refine Below.setCell ?_ ?_ _) | (with_reducible refine size_of ?_) | (with_reducible refine Nat.le_succ_of_le ?_) | go_size)))) HP.out.1 HP.out.2.1 HP.out.2.2).mono ?_
    rintro e w2 ⟨rfl, hb2⟩
    rw [HFS.out]
    go_wp2
    go_ret2
    exact ⟨rfl, by (repeat' (first | (with_reducible exact Below.refl _ _) | (with_reducible assumption) | (with_reducible refine Below.next ?_ (by with_reducible assumption)) | (with_reducible refine Below.drew ?_) | (with_reducible refine Below.laid ?_ _) | (with_reducible refine Below.setCell ?_ ?_ _) | (with_reducible refine size_of ?_) | (with_reducible refine Nat.le_succ_of_le ?_) | go_size))⟩
  · have HX := Lib.hid (errV_ne h1)
    have HV := Lib.hid (show someIsV l c name th a b d = false by rw [someIsV, if_neg h1])
    clear h1
    rw [HX.out, HV.out]
    go_enter Tryd.func21, Tryd.ntmps21
    go_wp2_with fail
    refine (some_check _ _ l c _ _ _ _ _ _ (HA.out.keep (by (repeat' (first | (with_reducible exact Below.refl _ _) | (with_reducible assumption) | (with_reducible refine Below.next ?_ (by with_reducible assumption)) | (with_reducible refine Below.drew ?_) | (with_reducible refine Below.laid ?_ _) | (with_reducible refine Below.setCell ?_ ?_ _) | (with_reducible refine size_of ?_) | (with_reducible refine Nat.le_succ_of_le ?_) | go_size)))) (HC.out.keep (by (repeat' (first | (with_reducible exact Below.refl _ _) | (with_reducible assumption) | (with_reducible refine Below.next ?_ (by with_reducible assumption)) | (with_reducible refine Below.drew ?_) | (with_reducible refine Below.laid ?_ _) | (with_reducible refine Below.setCell ?_ ?_ _) | (with_reducible refine size_of ?_) | (with_reducible refine Nat.le_succ_of_le ?_) | go_size)))) (HK.out.keep (by (repeat' (first | (with_reducible exact Below.refl _ _) | (with_reducible assumption) | (with_reducible refine Below.next ?_ (by with_reducible assumption)) | (with_reducible refine Below.drew ?_) | (with_reducible refine Below.laid ?_ _) | (with_reducible refine Below.setCell ?_ ?_ _) | (with_reducible refine size_of ?_) | (with_reducible refine Nat.le_succ_of_le ?_) | go_size))))).mono ?_
    rintro e w1 ⟨rfl, hb1⟩
    rw [HX.out]
    go_wp2
    go_ret2
    exact ⟨rfl, by (repeat' (first | (with_reducible exact Below.refl _ _) | (with_reducible assumption) | (with_reducible refine Below.next ?_ (by with_reducible assumption)) | (with_reducible refine Below.drew ?_) | (with_reducible refine Below.laid ?_ _) | (with_reducible refine Below.setCell ?_ ?_ _) | (with_reducible refine size_of ?_) | (with_reducible refine Nat.le_succ_of_le ?_) | go_size))⟩

def someEachV (l : List Venn.Atom) (c : List Int) (name th a b d : Int) : Bool := if Venn.someChk ⟨l, c⟩ name ⟨th, a, b, d⟩ = 0 then decide (Venn.firstSet ⟨l, c⟩ name ⟨th, a, b, d⟩ false < 0) else false
set_option maxHeartbeats 1000000 in
theorem some_Each (sa sc : Value) (l : List Venn.Atom) (c : List Int) (name th a b d : Int) (w : World) (ha : IsAtoms w sa l) (hc : IsInts w sc c) (hk : KindsOk w) :
    Calls Tryd.prog 23 #[.agg #[sa, sc], .int .i64 name, .agg #[.int .i64 th, .int .i64 a, .int .i64 b, .int .i64 d]] w (Keeps (.tuple #[.bool (someEachV l c name th a b d), errV (Venn.someChk ⟨l, c⟩ name ⟨th, a, b, d⟩)]) w) := by
  obtain ⟨A, cA, rfl, hra⟩ := ha
  obtain ⟨C, cC, rfl, hrc⟩ := hc
  have HA := Lib.hid (show IsAtoms w (.slice A l.length cA) l from ⟨A, cA, rfl, hra⟩)
  have HC := Lib.hid (show IsInts w (.slice C c.length cC) c from ⟨C, cC, rfl, hrc⟩)
  have HK := Lib.hid hk
  clear hra hrc hk
  by_cases h1 : Venn.someChk ⟨l, c⟩ name ⟨th, a, b, d⟩ = 0
  · have HX := Lib.hid (errV_zero h1)
    have HP := Lib.hid (someChk_parts h1)
    have HV := Lib.hid (show someEachV l c name th a b d = decide (Venn.firstSet ⟨l, c⟩ name ⟨th, a, b, d⟩ false < 0) by rw [someEachV, if_pos h1])
    clear h1
    rw [HX.out, HV.out]
    obtain ⟨FS, hFS⟩ : ∃ FS, Venn.firstSet ⟨l, c⟩ name ⟨th, a, b, d⟩ false = FS := ⟨_, rfl⟩
    rw [hFS]
    have HFS := Lib.hid hFS
    clear hFS
    go_enter Tryd.func23, Tryd.ntmps23
    go_wp2_with fail
    refine (some_check _ _ l c _ _ _ _ _ _ (HA.out.keep (by (repeat' (first | (with_reducible exact Below.refl _ _) | (with_reducible assumption) | (with_reducible refine Below.next ?_ (by with_reducible assumption)) | (with_reducible refine Below.drew ?_) | (with_reducible refine Below.laid ?_ _) | (with_reducible refine Below.setCell ?_ ?_ _) | (with_reducible refine size_of ?_) | (with_reducible refine Nat.le_succ_of_le ?_) | go_size)))) (HC.out.keep (by (repeat' (first | (with_reducible exact Below.refl _ _) | (with_reducible assumption) | (with_reducible refine Below.next ?_ (by with_reducible assumption)) | (with_reducible refine Below.drew ?_) | (with_reducible refine Below.laid ?_ _) | (with_reducible refine Below.setCell ?_ ?_ _) | (with_reducible refine size_of ?_) | (with_reducible refine Nat.le_succ_of_le ?_) | go_size)))) (HK.out.keep (by (repeat' (first | (with_reducible exact Below.refl _ _) | (with_reducible assumption) | (with_reducible refine Below.next ?_ (by with_reducible assumption)) | (with_reducible refine Below.drew ?_) | (with_reducible refine Below.laid ?_ _) | (with_reducible refine Below.setCell ?_ ?_ _) | (with_reducible refine size_of ?_) | (with_reducible refine Nat.le_succ_of_le ?_) | go_size))))).mono ?_
    rintro e w1 ⟨rfl, hb1⟩
    rw [HX.out]
    obtain ⟨d0, d1, d2, d3⟩ := (boxes24 hb1).2.cells4
    have f0 := (boxes24 hb1).1.cell 0
    have f1 := (boxes24 hb1).1.cell 1
    simp at f0 f1
    go_wp2_with fail
    refine (some_first _ _ l c _ _ _ _ _ false _ (HA.out.keep (by (repeat' (first | (with_reducible exact Below.refl _ _) | (with_reducible assumption) | (with_reducible refine Below.next ?_ (by with_reducible assumption)) | (with_reducible refine Below.drew ?_) | (with_reducible refine Below.laid ?_ _) | (with_reducible refine Below.setCell ?_ ?_ _) | (with_reducible refine size_of ?_) | (with_reducible refine Nat.le_succ_of_le ?_) | go_size)))) (HC.out.keep (by (repeat' (first | (with_reducible exact Below.refl _ _) | (with_reducible assumption) | (with_reducible refine Below.next ?_ (by with_reducible assumption)) | (with_reducible refine Below.drew ?_) | (with_reducible refine Below.laid ?_ _) | (with_reducible refine Below.setCell ?_ ?_ _) | (with_reducible refine size_of ?_) | (with_reducible refine Nat.le_succ_of_le ?_) | go_size)))) (HK.out.keep (by (repeat' (first | (with_reducible exact Below.refl _ _) | (with_reducible assumption) | (with_reducible refine Below.next ?_ (by with_reducible assumption)) | (with_reducible refine Below.drew ?_) | (with_reducible refine Below.laid ?_ _) | (with_reducible refine Below.setCell ?_ ?_ _) | (with_reducible refine size_of ?_) | (with_reducible refine Nat.le_succ_of_le ?_) | go_size)))) HP.out.1 HP.out.2.1 HP.out.2.2).mono ?_
    rintro e w2 ⟨rfl, hb2⟩
    rw [HFS.out]
    go_wp2
    go_ret2
    exact ⟨rfl, by (repeat' (first | (with_reducible exact Below.refl _ _) | (with_reducible assumption) | (with_reducible refine Below.next ?_ (by with_reducible assumption)) | (with_reducible refine Below.drew ?_) | (with_reducible refine Below.laid ?_ _) | (with_reducible refine Below.setCell ?_ ?_ _) | (with_reducible refine size_of ?_) | (with_reducible refine Nat.le_succ_of_le ?_) | go_size))⟩
  · have HX := Lib.hid (errV_ne h1)
    have HV := Lib.hid (show someEachV l c name th a b d = false by rw [someEachV, if_neg h1])
    clear h1
    rw [HX.out, HV.out]
    go_enter Tryd.func23, Tryd.ntmps23
    go_wp2_with fail
    refine (some_check _ _ l c _ _ _ _ _ _ (HA.out.keep (by (repeat' (first | (with_reducible exact Below.refl _ _) | (with_reducible assumption) | (with_reducible refine Below.next ?_ (by with_reducible assumption)) | (with_reducible refine Below.drew ?_) | (with_reducible refine Below.laid ?_ _) | (with_reducible refine Below.setCell ?_ ?_ _) | (with_reducible refine size_of ?_) | (with_reducible refine Nat.le_succ_of_le ?_) | go_size)))) (HC.out.keep (by (repeat' (first | (with_reducible exact Below.refl _ _) | (with_reducible assumption) | (with_reducible refine Below.next ?_ (by with_reducible assumption)) | (with_reducible refine Below.drew ?_) | (with_reducible refine Below.laid ?_ _) | (with_reducible refine Below.setCell ?_ ?_ _) | (with_reducible refine size_of ?_) | (with_reducible refine Nat.le_succ_of_le ?_) | go_size)))) (HK.out.keep (by (repeat' (first | (with_reducible exact Below.refl _ _) | (with_reducible assumption) | (with_reducible refine Below.next ?_ (by with_reducible assumption)) | (with_reducible refine Below.drew ?_) | (with_reducible refine Below.laid ?_ _) | (with_reducible refine Below.setCell ?_ ?_ _) | (with_reducible refine size_of ?_) | (with_reducible refine Nat.le_succ_of_le ?_) | go_size))))).mono ?_
    rintro e w1 ⟨rfl, hb1⟩
    rw [HX.out]
    go_wp2
    go_ret2
    exact ⟨rfl, by (repeat' (first | (with_reducible exact Below.refl _ _) | (with_reducible assumption) | (with_reducible refine Below.next ?_ (by with_reducible assumption)) | (with_reducible refine Below.drew ?_) | (with_reducible refine Below.laid ?_ _) | (with_reducible refine Below.setCell ?_ ?_ _) | (with_reducible refine size_of ?_) | (with_reducible refine Nat.le_succ_of_le ?_) | go_size))⟩

theorem IsIntsNil (w : World) : IsInts w (.slice none 0 0) [] := ⟨none, 0, rfl, Rd.nil _ _, Nat.le_refl _, by simp⟩
theorem IsInts.of_blk1 {w : World} {g : Nat} {t : TypeId} {x : Int} (h : Blk w g t #[.int .i64 x]) : IsInts w (.slice (some ⟨g, 0, none⟩) 1 1) [x] := by
  refine ⟨_, _, rfl, fun j u hj => ⟨_, rfl, ?_⟩, Nat.le_refl _, by simp [maxLen]⟩
  match j, hj with
  | 0, hj => simp at hj; subst hj; exact h.cell 0
theorem IsAtoms.one {w : World} {g : Nat} {t : TypeId} {a : Venn.Atom} {sv tv : Value} (h : Blk w g t #[.int .i64 a.what, sv, tv, .int .i64 a.n]) (hs : IsInts w sv a.s) (ht : IsInts w tv a.t) : IsAtoms w (.slice (some ⟨g, 0, none⟩) 1 1) [a] := by
  refine ⟨_, _, rfl, fun k x hx => ?_, Nat.le_refl _, by simp [maxLen]⟩
  match k, hx with
  | 0, hx =>
    simp at hx
    subst hx
    exact ⟨_, sv, tv, rfl, h.cell 0, h.cell 1, h.cell 2, h.cell 3, hs, ht⟩
end Go.Proofs.YtcecbpbpknphjaaDoor
