/-
  THE WALK of ask.Always.
-/
import Derived.Test.YtcecbpbpknphjaaDoorAsk
import Derived.Test.YtcecbpbpknphjaaDoorVennP2
namespace Venn
/-- In so many worlds of fewer than k things it holds. -/
def yesTo (l : List Form) (f : Form) : Nat → Nat
  | 0 => 0
  | k + 1 => yesTo l f k + yesOf l f (allC (k : Int))
def noTo (l : List Form) (f : Form) : Nat → Nat
  | 0 => 0
  | k + 1 => noTo l f k + noOf l f (allC (k : Int))
def alwaysErr (l : List Form) (f : Form) : Int := if askChk l f 0 = 0 then (if yesTo l f 7 + noTo l f 7 = 0 then 6 else 0) else askChk l f 0
def alwaysV (l : List Form) (f : Form) : Int := if alwaysErr l f = 0 then answer (yesTo l f 7) (noTo l f 7) else 0
theorem to_le (l : List Form) (f : Form) : ∀ k : Nat, k ≤ 7 → yesTo l f k + noTo l f k ≤ 2000 * k := by
  intro k
  induction k with
  | zero => intro _; simp [yesTo, noTo]
  | succ k ih =>
    intro hk
    have h1 := ih (by omega)
    have h2 := yesno_le l f (allC (k : Int))
    have h3 : (allC (k : Int)).length ≤ 2000 := by
      have : ∀ U : Fin 7, (allG 7 U.val).length ≤ 2000 := by decide +kernel
      have := this ⟨k, by omega⟩
      simpa [allC] using this
    simp only [yesTo, noTo]
    omega
theorem askChk_parts {l : List Form} {f : Form} {u : Int} (h : askChk l f u = 0) : coreChk l u = 0 ∧ formChk f = 0 := by
  unfold askChk at h
  split at h
  · exact ⟨by assumption, h⟩
  · contradiction
end Venn
namespace Go.Proofs.YtcecbpbpknphjaaDoor
open Go.RowKit

def alwaysVv (ls : List Venn.Form) (f : Venn.Form) : Value := .tuple #[.int .i64 (Venn.alwaysV ls f), errV (Venn.alwaysErr ls f)]
set_option maxHeartbeats 2000000 in
theorem ask_Always (v sa sc : Value) (ls : List Venn.Form) (l : List Venn.Atom) (c : List Int) (w : World) (hl : IsForms w v ls) (ha : IsAtoms w sa l) (hc : IsInts w sc c) (hk : KindsOk w) :
    Calls Tryd.prog 36 #[v, .agg #[sa, sc]] w (Keeps (alwaysVv ls ⟨l, c⟩) w) := by
  obtain ⟨L, cL, rfl, hrl⟩ := hl
  have HL := Lib.hid (show IsForms w (.slice L ls.length cL) ls from ⟨L, cL, rfl, hrl⟩)
  obtain ⟨A, cA, rfl⟩ := ha.slice
  obtain ⟨C, cC, rfl⟩ := hc.slice
  have HA := Lib.hid ha
  have HC := Lib.hid hc
  have HK := Lib.hid hk
  clear hrl ha hc hk
  by_cases h1 : ¬ Venn.askChk ls ⟨l, c⟩ 0 = 0
  · have HX := Lib.hid (errV_ne h1)
    have HV := Lib.hid (show alwaysVv ls ⟨l, c⟩ = .tuple #[.int .i64 0, .iface 97 (.int .i64 (Venn.askChk ls ⟨l, c⟩ 0))] by
      have h2 : Venn.alwaysErr ls ⟨l, c⟩ = Venn.askChk ls ⟨l, c⟩ 0 := if_neg h1
      rw [alwaysVv, Venn.alwaysV, if_neg (by rw [h2]; exact h1), h2, errV_ne h1])
    rw [HV.out]
    clear h1
    go_enter Tryd.func36, Tryd.ntmps36
    go_wp2_with (go_at_call 80; refine (ask_check _ _ _ ls l c 0 _ (HL.out.keep (by (repeat' (first | (with_reducible exact Below.refl _ _) | (with_reducible assumption) | (with_reducible refine Below.next ?_ (by with_reducible assumption)) | (with_reducible refine Below.drew ?_) | (with_reducible refine Below.laid ?_ _) | (with_reducible refine Below.setCell ?_ ?_ _) | (with_reducible refine size_of ?_) | (with_reducible refine Nat.le_succ_of_le ?_) | go_size)))) (HA.out.keep (by (repeat' (first | (with_reducible exact Below.refl _ _) | (with_reducible assumption) | (with_reducible refine Below.next ?_ (by with_reducible assumption)) | (with_reducible refine Below.drew ?_) | (with_reducible refine Below.laid ?_ _) | (with_reducible refine Below.setCell ?_ ?_ _) | (with_reducible refine size_of ?_) | (with_reducible refine Nat.le_succ_of_le ?_) | go_size)))) (HC.out.keep (by (repeat' (first | (with_reducible exact Below.refl _ _) | (with_reducible assumption) | (with_reducible refine Below.next ?_ (by with_reducible assumption)) | (with_reducible refine Below.drew ?_) | (with_reducible refine Below.laid ?_ _) | (with_reducible refine Below.setCell ?_ ?_ _) | (with_reducible refine size_of ?_) | (with_reducible refine Nat.le_succ_of_le ?_) | go_size)))) (HK.out.keep (by (repeat' (first | (with_reducible exact Below.refl _ _) | (with_reducible assumption) | (with_reducible refine Below.next ?_ (by with_reducible assumption)) | (with_reducible refine Below.drew ?_) | (with_reducible refine Below.laid ?_ _) | (with_reducible refine Below.setCell ?_ ?_ _) | (with_reducible refine size_of ?_) | (with_reducible refine Nat.le_succ_of_le ?_) | go_size))))).mono ?_; rintro e w1 ⟨rfl, hb1⟩; rw [HX.out])
    go_ret2
    exact ⟨rfl, by (repeat' (first | (with_reducible exact Below.refl _ _) | (with_reducible assumption) | (with_reducible refine Below.next ?_ (by with_reducible assumption)) | (with_reducible refine Below.drew ?_) | (with_reducible refine Below.laid ?_ _) | (with_reducible refine Below.setCell ?_ ?_ _) | (with_reducible refine size_of ?_) | (with_reducible refine Nat.le_succ_of_le ?_) | go_size))⟩
  replace h1 := Decidable.not_not.1 h1
  obtain ⟨hc1, hf⟩ := Venn.askChk_parts h1
  obtain ⟨_, _, hc2, _⟩ := Venn.coreChk_parts hc1
  have HX := Lib.hid (errV_zero h1)
  have HF := Lib.hid hf
  have HOK := Lib.hid (Venn.formsChk_mem hc2)
  have HG := Lib.hid (show alwaysVv ls ⟨l, c⟩ = if Venn.yesTo ls ⟨l, c⟩ 7 + Venn.noTo ls ⟨l, c⟩ 7 = 0 then .tuple #[.int .i64 0, .iface 97 (.int .i64 6)] else .tuple #[.int .i64 (Venn.answer (Venn.yesTo ls ⟨l, c⟩ 7) (Venn.noTo ls ⟨l, c⟩ 7)), .nilIface] by
    rw [alwaysVv, Venn.alwaysV, Venn.alwaysErr, if_pos h1]
    split
    · rw [if_neg (by decide)]; rfl
    · rw [if_pos rfl]; rfl)
  have HWH := Lib.hid (fun (k : Nat) (hk : k < 7) W h1 h2 h3 h4 => ask_what (.slice L ls.length cL) (.slice A l.length cA) (.slice C c.length cC) ls l c (k : Int) W h1 h2 h3 h4 HOK.out HF.out (by simp [Venn.things]; omega))
  have HTO := Lib.hid (Venn.to_le ls ⟨l, c⟩)
  have HSY := Lib.hid (show ∀ k, Venn.yesTo ls ⟨l, c⟩ (k + 1) = Venn.yesTo ls ⟨l, c⟩ k + Venn.yesOf ls ⟨l, c⟩ (Venn.allC (k : Int)) from fun _ => rfl)
  have HSN := Lib.hid (show ∀ k, Venn.noTo ls ⟨l, c⟩ (k + 1) = Venn.noTo ls ⟨l, c⟩ k + Venn.noOf ls ⟨l, c⟩ (Venn.allC (k : Int)) from fun _ => rfl)
  have HZ := Lib.hid (show Venn.yesTo ls ⟨l, c⟩ 0 = 0 ∧ Venn.noTo ls ⟨l, c⟩ 0 = 0 from ⟨rfl, rfl⟩)
  clear h1 hf hc1 hc2
  generalize alwaysVv ls ⟨l, c⟩ = R at HG ⊢
  generalize Venn.yesTo ls ⟨l, c⟩ = Y at HG HTO HSY HZ
  generalize Venn.noTo ls ⟨l, c⟩ = N at HG HTO HSN HZ
  go_enter Tryd.func36, Tryd.ntmps36
  go_wp2_with (go_at_call 80; refine (ask_check _ _ _ ls l c 0 _ (HL.out.keep (by (repeat' (first | (with_reducible exact Below.refl _ _) | (with_reducible assumption) | (with_reducible refine Below.next ?_ (by with_reducible assumption)) | (with_reducible refine Below.drew ?_) | (with_reducible refine Below.laid ?_ _) | (with_reducible refine Below.setCell ?_ ?_ _) | (with_reducible refine size_of ?_) | (with_reducible refine Nat.le_succ_of_le ?_) | go_size)))) (HA.out.keep (by (repeat' (first | (with_reducible exact Below.refl _ _) | (with_reducible assumption) | (with_reducible refine Below.next ?_ (by with_reducible assumption)) | (with_reducible refine Below.drew ?_) | (with_reducible refine Below.laid ?_ _) | (with_reducible refine Below.setCell ?_ ?_ _) | (with_reducible refine size_of ?_) | (with_reducible refine Nat.le_succ_of_le ?_) | go_size)))) (HC.out.keep (by (repeat' (first | (with_reducible exact Below.refl _ _) | (with_reducible assumption) | (with_reducible refine Below.next ?_ (by with_reducible assumption)) | (with_reducible refine Below.drew ?_) | (with_reducible refine Below.laid ?_ _) | (with_reducible refine Below.setCell ?_ ?_ _) | (with_reducible refine size_of ?_) | (with_reducible refine Nat.le_succ_of_le ?_) | go_size)))) (HK.out.keep (by (repeat' (first | (with_reducible exact Below.refl _ _) | (with_reducible assumption) | (with_reducible refine Below.next ?_ (by with_reducible assumption)) | (with_reducible refine Below.drew ?_) | (with_reducible refine Below.laid ?_ _) | (with_reducible refine Below.setCell ?_ ?_ _) | (with_reducible refine size_of ?_) | (with_reducible refine Nat.le_succ_of_le ?_) | go_size))))).mono ?_; rintro e w1 ⟨rfl, hb1⟩; rw [HX.out])
  have BF := (Blk.new w 25 #[.slice A l.length cA, .slice C c.length cC]).keep hb1
  have hw1 : Below w.heap.size w w1 := by (repeat' (first | (with_reducible exact Below.refl _ _) | (with_reducible assumption) | (with_reducible refine Below.next ?_ (by with_reducible assumption)) | (with_reducible refine Below.drew ?_) | (with_reducible refine Below.laid ?_ _) | (with_reducible refine Below.setCell ?_ ?_ _) | (with_reducible refine size_of ?_) | (with_reducible refine Nat.le_succ_of_le ?_) | go_size))
  clear hb1
  go_loopw [7, 8, 9] (fun y n i wr => ∃ k : Nat, k ≤ 7 ∧ i = .int .i64 k ∧ y = .int .i64 (Y k : Nat) ∧ n = .int .i64 (N k : Nat) ∧ Below w.heap.size w wr ∧ Blk wr w.heap.size 25 #[.slice A l.length cA, .slice C c.length cC]) (fun _ _ i _ => 7 - (intOf i).toNat)
  case atStart => exact ⟨0, by omega, rfl, by rw [HZ.out.1]; rfl, by rw [HZ.out.2]; rfl, hw1, BF⟩
  case round =>
    clear hw1 BF
    obtain ⟨k, hk, rfl, rfl, rfl, hb, hB⟩ := hrel
    obtain ⟨wo, rfl⟩ : ∃ wo : World, wo = wr := ⟨_, rfl⟩
    obtain ⟨⟨f0, f1⟩, _⟩ := hB.cells2
    have hl := hB.lt
    by_cases hlt : k < 7
    · have hu : Venn.things (k : Int) = true := by simp [Venn.things]; omega
      have HU := Lib.hid hu
      have hle := HTO.out (k + 1) (by omega)
      have HY1 := Lib.hid (HSY.out k)
      have HN1 := Lib.hid (HSN.out k)
      rw [HSY.out, HSN.out] at hle
      have HW := Lib.hid (HWH.out k hlt)
      clear hu
      generalize Venn.yesOf ls ⟨l, c⟩ (Venn.allC (k : Int)) = y at HW HY1 hle
      generalize Venn.noOf ls ⟨l, c⟩ (Venn.allC (k : Int)) = n at HW HN1 hle
      generalize Y k = Yk at HY1 hle ⊢
      generalize N k = Nk at HN1 hle ⊢
      have hwy : IntKind.i64.wrap ((Yk : Int) + (y : Int)) = (Yk : Int) + (y : Int) := IntWalk.i64_in _ (by omega)
      have hwn : IntKind.i64.wrap ((Nk : Int) + (n : Int)) = (Nk : Int) + (n : Int) := IntWalk.i64_in _ (by omega)
      go_wp2_with (first
        | (go_at_call 70; refine (sets_Things _ _).mono ?_; rintro e w' ⟨rfl, rfl⟩; rw [HU.out])
        | (go_at_call 81; refine (HW.out _ (HL.out.keep (by (repeat' (first | (with_reducible exact Below.refl _ _) | (with_reducible assumption) | (with_reducible refine Below.next ?_ (by with_reducible assumption)) | (with_reducible refine Below.drew ?_) | (with_reducible refine Below.laid ?_ _) | (with_reducible refine Below.setCell ?_ ?_ _) | (with_reducible refine size_of ?_) | (with_reducible refine Nat.le_succ_of_le ?_) | go_size)))) (HA.out.keep (by (repeat' (first | (with_reducible exact Below.refl _ _) | (with_reducible assumption) | (with_reducible refine Below.next ?_ (by with_reducible assumption)) | (with_reducible refine Below.drew ?_) | (with_reducible refine Below.laid ?_ _) | (with_reducible refine Below.setCell ?_ ?_ _) | (with_reducible refine size_of ?_) | (with_reducible refine Nat.le_succ_of_le ?_) | go_size)))) (HC.out.keep (by (repeat' (first | (with_reducible exact Below.refl _ _) | (with_reducible assumption) | (with_reducible refine Below.next ?_ (by with_reducible assumption)) | (with_reducible refine Below.drew ?_) | (with_reducible refine Below.laid ?_ _) | (with_reducible refine Below.setCell ?_ ?_ _) | (with_reducible refine size_of ?_) | (with_reducible refine Nat.le_succ_of_le ?_) | go_size)))) (HK.out.keep (by (repeat' (first | (with_reducible exact Below.refl _ _) | (with_reducible assumption) | (with_reducible refine Below.next ?_ (by with_reducible assumption)) | (with_reducible refine Below.drew ?_) | (with_reducible refine Below.laid ?_ _) | (with_reducible refine Below.setCell ?_ ?_ _) | (with_reducible refine size_of ?_) | (with_reducible refine Nat.le_succ_of_le ?_) | go_size))))).mono ?_; rintro e w2 ⟨rfl, hb2⟩))
      go_roundw
      case rel => exact ⟨k + 1, by omega, by go_num, by rw [HY1.out]; simp, by rw [HN1.out]; simp, by (repeat' (first | (with_reducible exact Below.refl _ _) | (with_reducible assumption) | (with_reducible refine Below.next ?_ (by with_reducible assumption)) | (with_reducible refine Below.drew ?_) | (with_reducible refine Below.laid ?_ _) | (with_reducible refine Below.setCell ?_ ?_ _) | (with_reducible refine size_of ?_) | (with_reducible refine Nat.le_succ_of_le ?_) | go_size)), hB.keep hb2⟩
      case measure => simp [intOf]; omega
    · obtain rfl : k = 7 := by omega
      have hle := HTO.out 7 (by omega)
      generalize Y 7 = Yk at HG hle ⊢
      generalize N 7 = Nk at HG hle ⊢
      have hwr : IntKind.i64.wrap ((Yk : Int) + (Nk : Int)) = (Yk : Int) + (Nk : Int) := IntWalk.i64_in _ (by omega)
      by_cases hz : Yk + Nk = 0
      · have HV := Lib.hid (HG.out.trans (if_pos hz))
        have e1 : ((Yk : Int) + (Nk : Int) == 0) = true := beq_iff_eq.2 (by omega)
        clear hz
        go_wp2_with (go_at_call 70; refine (sets_Things _ _).mono ?_; rintro e w' ⟨rfl, rfl⟩; rw [show Venn.things 7 = false from rfl])
        go_ret2
        exact ⟨congrArg Ending.returned HV.out.symm, by (repeat' (first | (with_reducible exact Below.refl _ _) | (with_reducible assumption) | (with_reducible refine Below.next ?_ (by with_reducible assumption)) | (with_reducible refine Below.drew ?_) | (with_reducible refine Below.laid ?_ _) | (with_reducible refine Below.setCell ?_ ?_ _) | (with_reducible refine size_of ?_) | (with_reducible refine Nat.le_succ_of_le ?_) | go_size))⟩
      · have HV := Lib.hid (HG.out.trans (if_neg hz))
        have e1 : ((Yk : Int) + (Nk : Int) == 0) = false := beq_eq_false_iff_ne.2 (by omega)
        clear hz
        go_wp2_with (first
          | (go_at_call 70; refine (sets_Things _ _).mono ?_; rintro e w' ⟨rfl, rfl⟩; rw [show Venn.things 7 = false from rfl])
          | (go_at_call 82; refine (ask_answer _ _ _).mono ?_; rintro e w' ⟨rfl, rfl⟩))
        go_ret2
        exact ⟨congrArg Ending.returned HV.out.symm, by (repeat' (first | (with_reducible exact Below.refl _ _) | (with_reducible assumption) | (with_reducible refine Below.next ?_ (by with_reducible assumption)) | (with_reducible refine Below.drew ?_) | (with_reducible refine Below.laid ?_ _) | (with_reducible refine Below.setCell ?_ ?_ _) | (with_reducible refine size_of ?_) | (with_reducible refine Nat.le_succ_of_le ?_) | go_size))⟩
end Go.Proofs.YtcecbpbpknphjaaDoor
