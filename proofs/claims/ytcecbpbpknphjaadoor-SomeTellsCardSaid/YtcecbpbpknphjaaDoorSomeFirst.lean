/-
  THE WALK of some.First.
-/
import Derived.Test.YtcecbpbpknphjaaDoorSome
namespace Venn
def someFirstChk (f : Form) (name : Int) (w : World) : Int := if someChk f name w = 0 then (if firstSet f name w true < 0 then 5 else 0) else someChk f name w
def someFirstV (f : Form) (name : Int) (w : World) : Int := if someFirstChk f name w = 0 then firstSet f name w true else 0
end Venn
namespace Go.Proofs.YtcecbpbpknphjaaDoor
open Go.RowKit

def firstVv (l : List Venn.Atom) (c : List Int) (name th a b d : Int) : Value := .tuple #[.int .i64 (Venn.someFirstV ⟨l, c⟩ name ⟨th, a, b, d⟩), errV (Venn.someFirstChk ⟨l, c⟩ name ⟨th, a, b, d⟩)]
set_option maxHeartbeats 1000000 in
theorem some_First (sa sc : Value) (l : List Venn.Atom) (c : List Int) (name th a b d : Int) (w : World) (ha : IsAtoms w sa l) (hc : IsInts w sc c) (hk : KindsOk w) :
    Calls Tryd.prog 24 #[.agg #[sa, sc], .int .i64 name, .agg #[.int .i64 th, .int .i64 a, .int .i64 b, .int .i64 d]] w (Keeps (firstVv l c name th a b d) w) := by
  obtain ⟨A, cA, rfl, hra⟩ := ha
  obtain ⟨C, cC, rfl, hrc⟩ := hc
  have HA := Lib.hid (show IsAtoms w (.slice A l.length cA) l from ⟨A, cA, rfl, hra⟩)
  have HC := Lib.hid (show IsInts w (.slice C c.length cC) c from ⟨C, cC, rfl, hrc⟩)
  have HK := Lib.hid hk
  clear hra hrc hk
  by_cases h1 : Venn.someChk ⟨l, c⟩ name ⟨th, a, b, d⟩ = 0
  · have HX := Lib.hid (errV_zero h1)
    have HP := Lib.hid (someChk_parts h1)
    have HG := Lib.hid (show firstVv l c name th a b d = if Venn.firstSet ⟨l, c⟩ name ⟨th, a, b, d⟩ true < 0 then .tuple #[.int .i64 0, .iface 97 (.int .i64 5)] else .tuple #[.int .i64 (Venn.firstSet ⟨l, c⟩ name ⟨th, a, b, d⟩ true), .nilIface] by
      rw [firstVv, Venn.someFirstV, Venn.someFirstChk, if_pos h1]
      split
      · rw [if_neg (by decide)]; rfl
      · rw [if_pos rfl]; rfl)
    clear h1
    obtain ⟨FS, hFS⟩ : ∃ FS, Venn.firstSet ⟨l, c⟩ name ⟨th, a, b, d⟩ true = FS := ⟨_, rfl⟩
    rw [hFS] at HG
    have HFS := Lib.hid hFS
    clear hFS
    generalize firstVv l c name th a b d = R at HG ⊢
    by_cases hneg : FS < 0
    · have HV := Lib.hid (HG.out.trans (if_pos hneg))
      go_enter Tryd.func24, Tryd.ntmps24
      go_wp2_with fail
      refine (some_check _ _ l c _ _ _ _ _ _ (HA.out.keep (by (repeat' (first | (with_reducible exact Below.refl _ _) | (with_reducible assumption) | (with_reducible refine Below.next ?_ (by with_reducible assumption)) | (with_reducible refine Below.drew ?_) | (with_reducible refine Below.laid ?_ _) | (with_reducible refine Below.setCell ?_ ?_ _) | (with_reducible refine size_of ?_) | (with_reducible refine Nat.le_succ_of_le ?_) | go_size)))) (HC.out.keep (by (repeat' (first | (with_reducible exact Below.refl _ _) | (with_reducible assumption) | (with_reducible refine Below.next ?_ (by with_reducible assumption)) | (with_reducible refine Below.drew ?_) | (with_reducible refine Below.laid ?_ _) | (with_reducible refine Below.setCell ?_ ?_ _) | (with_reducible refine size_of ?_) | (with_reducible refine Nat.le_succ_of_le ?_) | go_size)))) (HK.out.keep (by (repeat' (first | (with_reducible exact Below.refl _ _) | (with_reducible assumption) | (with_reducible refine Below.next ?_ (by with_reducible assumption)) | (with_reducible refine Below.drew ?_) | (with_reducible refine Below.laid ?_ _) | (with_reducible refine Below.setCell ?_ ?_ _) | (with_reducible refine size_of ?_) | (with_reducible refine Nat.le_succ_of_le ?_) | go_size))))).mono ?_
      rintro e w1 ⟨rfl, hb1⟩
      rw [HX.out]
      obtain ⟨d0, d1, d2, d3⟩ := (boxes24 hb1).2.cells4
      have f0 := (boxes24 hb1).1.cell 0
      have f1 := (boxes24 hb1).1.cell 1
      simp at f0 f1
      go_wp2_with fail
      refine (some_first _ _ l c _ _ _ _ _ true _ (HA.out.keep (by (repeat' (first | (with_reducible exact Below.refl _ _) | (with_reducible assumption) | (with_reducible refine Below.next ?_ (by with_reducible assumption)) | (with_reducible refine Below.drew ?_) | (with_reducible refine Below.laid ?_ _) | (with_reducible refine Below.setCell ?_ ?_ _) | (with_reducible refine size_of ?_) | (with_reducible refine Nat.le_succ_of_le ?_) | go_size)))) (HC.out.keep (by (repeat' (first | (with_reducible exact Below.refl _ _) | (with_reducible assumption) | (with_reducible refine Below.next ?_ (by with_reducible assumption)) | (with_reducible refine Below.drew ?_) | (with_reducible refine Below.laid ?_ _) | (with_reducible refine Below.setCell ?_ ?_ _) | (with_reducible refine size_of ?_) | (with_reducible refine Nat.le_succ_of_le ?_) | go_size)))) (HK.out.keep (by (repeat' (first | (with_reducible exact Below.refl _ _) | (with_reducible assumption) | (with_reducible refine Below.next ?_ (by with_reducible assumption)) | (with_reducible refine Below.drew ?_) | (with_reducible refine Below.laid ?_ _) | (with_reducible refine Below.setCell ?_ ?_ _) | (with_reducible refine size_of ?_) | (with_reducible refine Nat.le_succ_of_le ?_) | go_size)))) HP.out.1 HP.out.2.1 HP.out.2.2).mono ?_
      rintro e w2 ⟨rfl, hb2⟩
      rw [HFS.out]
      go_wp2
      go_ret2
      exact ⟨congrArg Ending.returned HV.out.symm, by (repeat' (first | (with_reducible exact Below.refl _ _) | (with_reducible assumption) | (with_reducible refine Below.next ?_ (by with_reducible assumption)) | (with_reducible refine Below.drew ?_) | (with_reducible refine Below.laid ?_ _) | (with_reducible refine Below.setCell ?_ ?_ _) | (with_reducible refine size_of ?_) | (with_reducible refine Nat.le_succ_of_le ?_) | go_size))⟩
    · have HV := Lib.hid (HG.out.trans (if_neg hneg))
      go_enter Tryd.func24, Tryd.ntmps24
      go_wp2_with fail
      refine (some_check _ _ l c _ _ _ _ _ _ (HA.out.keep (by (repeat' (first | (with_reducible exact Below.refl _ _) | (with_reducible assumption) | (with_reducible refine Below.next ?_ (by with_reducible assumption)) | (with_reducible refine Below.drew ?_) | (with_reducible refine Below.laid ?_ _) | (with_reducible refine Below.setCell ?_ ?_ _) | (with_reducible refine size_of ?_) | (with_reducible refine Nat.le_succ_of_le ?_) | go_size)))) (HC.out.keep (by (repeat' (first | (with_reducible exact Below.refl _ _) | (with_reducible assumption) | (with_reducible refine Below.next ?_ (by with_reducible assumption)) | (with_reducible refine Below.drew ?_) | (with_reducible refine Below.laid ?_ _) | (with_reducible refine Below.setCell ?_ ?_ _) | (with_reducible refine size_of ?_) | (with_reducible refine Nat.le_succ_of_le ?_) | go_size)))) (HK.out.keep (by (repeat' (first | (with_reducible exact Below.refl _ _) | (with_reducible assumption) | (with_reducible refine Below.next ?_ (by with_reducible assumption)) | (with_reducible refine Below.drew ?_) | (with_reducible refine Below.laid ?_ _) | (with_reducible refine Below.setCell ?_ ?_ _) | (with_reducible refine size_of ?_) | (with_reducible refine Nat.le_succ_of_le ?_) | go_size))))).mono ?_
      rintro e w1 ⟨rfl, hb1⟩
      rw [HX.out]
      obtain ⟨d0, d1, d2, d3⟩ := (boxes24 hb1).2.cells4
      have f0 := (boxes24 hb1).1.cell 0
      have f1 := (boxes24 hb1).1.cell 1
      simp at f0 f1
      go_wp2_with fail
      refine (some_first _ _ l c _ _ _ _ _ true _ (HA.out.keep (by (repeat' (first | (with_reducible exact Below.refl _ _) | (with_reducible assumption) | (with_reducible refine Below.next ?_ (by with_reducible assumption)) | (with_reducible refine Below.drew ?_) | (with_reducible refine Below.laid ?_ _) | (with_reducible refine Below.setCell ?_ ?_ _) | (with_reducible refine size_of ?_) | (with_reducible refine Nat.le_succ_of_le ?_) | go_size)))) (HC.out.keep (by (repeat' (first | (with_reducible exact Below.refl _ _) | (with_reducible assumption) | (with_reducible refine Below.next ?_ (by with_reducible assumption)) | (with_reducible refine Below.drew ?_) | (with_reducible refine Below.laid ?_ _) | (with_reducible refine Below.setCell ?_ ?_ _) | (with_reducible refine size_of ?_) | (with_reducible refine Nat.le_succ_of_le ?_) | go_size)))) (HK.out.keep (by (repeat' (first | (with_reducible exact Below.refl _ _) | (with_reducible assumption) | (with_reducible refine Below.next ?_ (by with_reducible assumption)) | (with_reducible refine Below.drew ?_) | (with_reducible refine Below.laid ?_ _) | (with_reducible refine Below.setCell ?_ ?_ _) | (with_reducible refine size_of ?_) | (with_reducible refine Nat.le_succ_of_le ?_) | go_size)))) HP.out.1 HP.out.2.1 HP.out.2.2).mono ?_
      rintro e w2 ⟨rfl, hb2⟩
      rw [HFS.out]
      go_wp2
      go_ret2
      exact ⟨congrArg Ending.returned HV.out.symm, by (repeat' (first | (with_reducible exact Below.refl _ _) | (with_reducible assumption) | (with_reducible refine Below.next ?_ (by with_reducible assumption)) | (with_reducible refine Below.drew ?_) | (with_reducible refine Below.laid ?_ _) | (with_reducible refine Below.setCell ?_ ?_ _) | (with_reducible refine size_of ?_) | (with_reducible refine Nat.le_succ_of_le ?_) | go_size))⟩
  · have HX := Lib.hid (errV_ne h1)
    have HV := Lib.hid (show firstVv l c name th a b d = .tuple #[.int .i64 0, .iface 97 (.int .i64 (Venn.someChk ⟨l, c⟩ name ⟨th, a, b, d⟩))] by
      have h2 : Venn.someFirstChk ⟨l, c⟩ name ⟨th, a, b, d⟩ = Venn.someChk ⟨l, c⟩ name ⟨th, a, b, d⟩ := if_neg h1
      rw [firstVv, Venn.someFirstV, if_neg (by rw [h2]; exact h1), h2, errV_ne h1])
    clear h1
    rw [HV.out]
    go_enter Tryd.func24, Tryd.ntmps24
    go_wp2_with fail
    refine (some_check _ _ l c _ _ _ _ _ _ (HA.out.keep (by (repeat' (first | (with_reducible exact Below.refl _ _) | (with_reducible assumption) | (with_reducible refine Below.next ?_ (by with_reducible assumption)) | (with_reducible refine Below.drew ?_) | (with_reducible refine Below.laid ?_ _) | (with_reducible refine Below.setCell ?_ ?_ _) | (with_reducible refine size_of ?_) | (with_reducible refine Nat.le_succ_of_le ?_) | go_size)))) (HC.out.keep (by (repeat' (first | (with_reducible exact Below.refl _ _) | (with_reducible assumption) | (with_reducible refine Below.next ?_ (by with_reducible assumption)) | (with_reducible refine Below.drew ?_) | (with_reducible refine Below.laid ?_ _) | (with_reducible refine Below.setCell ?_ ?_ _) | (with_reducible refine size_of ?_) | (with_reducible refine Nat.le_succ_of_le ?_) | go_size)))) (HK.out.keep (by (repeat' (first | (with_reducible exact Below.refl _ _) | (with_reducible assumption) | (with_reducible refine Below.next ?_ (by with_reducible assumption)) | (with_reducible refine Below.drew ?_) | (with_reducible refine Below.laid ?_ _) | (with_reducible refine Below.setCell ?_ ?_ _) | (with_reducible refine size_of ?_) | (with_reducible refine Nat.le_succ_of_le ?_) | go_size))))).mono ?_
    rintro e w1 ⟨rfl, hb1⟩
    rw [HX.out]
    go_wp2
    go_ret2
    exact ⟨rfl, by (repeat' (first | (with_reducible exact Below.refl _ _) | (with_reducible assumption) | (with_reducible refine Below.next ?_ (by with_reducible assumption)) | (with_reducible refine Below.drew ?_) | (with_reducible refine Below.laid ?_ _) | (with_reducible refine Below.setCell ?_ ?_ _) | (with_reducible refine size_of ?_) | (with_reducible refine Nat.le_succ_of_le ?_) | go_size))⟩
end Go.Proofs.YtcecbpbpknphjaaDoor
