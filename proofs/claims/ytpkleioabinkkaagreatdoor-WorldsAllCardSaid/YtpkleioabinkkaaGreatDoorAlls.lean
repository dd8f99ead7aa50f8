/-
  THE WALKS of worlds.All, worlds.Alike.
-/
import Derived.Test.YtpkleioabinkkaaGreatDoorWays
import Derived.Test.YtpkleioabinkkaaGreatDoorFields
import Derived.Test.YtpkleioabinkkaaGreatDoorLawF
namespace Venn
def allErr (u : Int) : Int := if things u = true then 0 else 1
def allV (u : Int) : Int := if things u = true then ((8 ^ u.toNat : Nat) : Int) else 0
def alikeW (w : World) : Int := if worldChk w = 0 then ways (fieldsOf w) else 0
end Venn
namespace Go.Proofs.YtpkleioabinkkaaGreatDoor
open Go.RowKit

theorem allC_partsA {u : Int} (hu : Venn.things u = true) {x : List Int} (hx : x ∈ Venn.allC u) : ∃ a0 a1 a2 a3 a4 a5 a6 a7, x = [a0, a1, a2, a3, a4, a5, a6, a7] ∧ (∀ y ∈ [a0, a1, a2, a3, a4, a5, a6, a7], 0 ≤ y) ∧ [a0, a1, a2, a3, a4, a5, a6, a7].sum = u := by
  obtain ⟨h8, hp, hs⟩ := (Venn.mem_allC hu x).1 hx
  match x, h8 with
  | [a0, a1, a2, a3, a4, a5, a6, a7], _ => exact ⟨a0, a1, a2, a3, a4, a5, a6, a7, rfl, hp, hs⟩
theorem worlds_All (u : Int) (w : World) : Calls Tryz.prog 33 #[.int .i64 u] w (Pure (.tuple #[.int .i64 (Venn.allV u), errV (Venn.allErr u)]) w) := by
  by_cases hu : Venn.things u = true
  · have HU := Lib.hid hu
    simp only [Venn.things, Bool.and_eq_true, decide_eq_true_eq] at hu
    rcases (by omega : u = 0 ∨ u = 1 ∨ u = 2 ∨ u = 3 ∨ u = 4 ∨ u = 5 ∨ u = 6) with rfl | rfl | rfl | rfl | rfl | rfl | rfl
    all_goals
      go_enter Tryz.func33, Tryz.ntmps33
      go_wp2_with (go_at_call 44; refine (sets_Things _ _).mono ?_; rintro e w' ⟨rfl, rfl⟩; rw [HU.out])
      go_ret2
      exact ⟨rfl, rfl⟩
  · have HU := Lib.hid (show Venn.things u = false by simpa using hu)
    rw [Venn.allV, Venn.allErr, if_neg hu, if_neg hu]
    clear hu
    go_enter Tryz.func33, Tryz.ntmps33
    go_wp2_with (go_at_call 44; refine (sets_Things _ _).mono ?_; rintro e w' ⟨rfl, rfl⟩; rw [HU.out])
    go_ret2
    exact ⟨rfl, rfl⟩

set_option maxHeartbeats 1000000 in
theorem worlds_Alike (th a b d : Int) (w : World) : Calls Tryz.prog 34 #[.agg #[.int .i64 th, .int .i64 a, .int .i64 b, .int .i64 d]] w (Keeps (.tuple #[.int .i64 (Venn.alikeW ⟨th, a, b, d⟩), errV (Venn.worldChk ⟨th, a, b, d⟩)]) w) := by
  by_cases hw : Venn.worldChk ⟨th, a, b, d⟩ = 0
  · obtain ⟨a0, a1, a2, a3, a4, a5, a6, a7, hx, hp, hs⟩ := allC_partsA (Venn.worldChk_iff.1 hw).1 (Venn.fieldsOf_mem hw)
    have hth := (Venn.worldChk_iff.1 hw).1
    simp only [Venn.things, Bool.and_eq_true, decide_eq_true_eq] at hth
    have HE := Lib.hid (errV_zero hw)
    have HFV := Lib.hid (show fieldsV ⟨th, a, b, d⟩ = [a0, a1, a2, a3, a4, a5, a6, a7] by rw [fieldsV, if_pos hw, hx])
    have HAV := Lib.hid (show Venn.alikeW ⟨th, a, b, d⟩ = Venn.ways [a0, a1, a2, a3, a4, a5, a6, a7] by rw [Venn.alikeW, if_pos hw, hx])
    have HWY := Lib.hid (fun W => worlds_ways a0 a1 a2 a3 a4 a5 a6 a7 W hp (by rw [hs]; exact hth.2))
    rw [HAV.out, HE.out]
    clear hw hx hp hs hth HAV
    generalize Venn.ways [a0, a1, a2, a3, a4, a5, a6, a7] = WY at HWY ⊢
    go_enter Tryz.func34, Tryz.ntmps34
    go_wp2_with fail
    refine (fields_Of _ _ _ _ _).mono ?_
    rintro e w1 ⟨rfl, hb1⟩
    rw [HFV.out, HE.out]
    simp only [cells, List.map]
    go_wp2_with fail
    refine (HWY.out _).mono ?_
    rintro e w2 ⟨rfl, hb2⟩
    go_wp2
    go_ret2
    exact ⟨rfl, by (repeat' (first | (with_reducible exact Below.refl _ _) | (with_reducible assumption) | (with_reducible refine Below.next ?_ (by with_reducible assumption)) | (with_reducible refine Below.drew ?_) | (with_reducible refine Below.laid ?_ _) | (with_reducible refine Below.setCell ?_ ?_ _) | (with_reducible refine size_of ?_) | (with_reducible refine Nat.le_succ_of_le ?_) | go_size))⟩
  · have HE := Lib.hid (errV_ne hw)
    have HFV := Lib.hid (show fieldsV ⟨th, a, b, d⟩ = [0, 0, 0, 0, 0, 0, 0, 0] by rw [fieldsV, if_neg hw])
    rw [Venn.alikeW, if_neg hw, HE.out]
    clear hw
    go_enter Tryz.func34, Tryz.ntmps34
    go_wp2_with fail
    refine (fields_Of _ _ _ _ _).mono ?_
    rintro e w1 ⟨rfl, hb1⟩
    rw [HFV.out, HE.out]
    simp only [cells, List.map]
    go_wp2
    go_ret2
    exact ⟨rfl, by (repeat' (first | (with_reducible exact Below.refl _ _) | (with_reducible assumption) | (with_reducible refine Below.next ?_ (by with_reducible assumption)) | (with_reducible refine Below.drew ?_) | (with_reducible refine Below.laid ?_ _) | (with_reducible refine Below.setCell ?_ ?_ _) | (with_reducible refine size_of ?_) | (with_reducible refine Nat.le_succ_of_le ?_) | go_size))⟩

end Go.Proofs.YtpkleioabinkkaaGreatDoor
