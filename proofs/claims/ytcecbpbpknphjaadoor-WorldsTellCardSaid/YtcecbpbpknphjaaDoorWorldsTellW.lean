/-
  THE WALKS of worlds.All, worlds.Alike, and of vennlaw2.WorldsTell.
-/
import Derived.Test.YtcecbpbpknphjaaDoorRefAsk
import Derived.Test.YtcecbpbpknphjaaDoorRefWays
import Derived.Test.YtcecbpbpknphjaaDoorWays
import Derived.Test.YtcecbpbpknphjaaDoorFields
import Derived.Test.YtcecbpbpknphjaaDoorLawF
import Derived.Deep.DeepCutAuto
import Derived.Deep.CutBlock
namespace Venn
def allErr (u : Int) : Int := if things u = true then 0 else 1
def allV (u : Int) : Int := if things u = true then ((8 ^ u.toNat : Nat) : Int) else 0
def alikeW (w : World) : Int := if worldChk w = 0 then ways (fieldsOf w) else 0
end Venn
namespace Go.Proofs.YtcecbpbpknphjaaDoor
open Go.RowKit

theorem worlds_All (u : Int) (w : World) : Calls Tryd.prog 42 #[.int .i64 u] w (Pure (.tuple #[.int .i64 (Venn.allV u), errV (Venn.allErr u)]) w) := by
  by_cases hu : Venn.things u = true
  · have HU := Lib.hid hu
    simp only [Venn.things, Bool.and_eq_true, decide_eq_true_eq] at hu
    rcases (by omega : u = 0 ∨ u = 1 ∨ u = 2 ∨ u = 3 ∨ u = 4 ∨ u = 5 ∨ u = 6) with rfl | rfl | rfl | rfl | rfl | rfl | rfl
    all_goals
      go_enter Tryd.func42, Tryd.ntmps42
      go_wp2_with (go_at_call 70; refine (sets_Things _ _).mono ?_; rintro e w' ⟨rfl, rfl⟩; rw [HU.out])
      go_ret2
      exact ⟨rfl, rfl⟩
  · have HU := Lib.hid (show Venn.things u = false by simpa using hu)
    rw [Venn.allV, Venn.allErr, if_neg hu, if_neg hu]
    clear hu
    go_enter Tryd.func42, Tryd.ntmps42
    go_wp2_with (go_at_call 70; refine (sets_Things _ _).mono ?_; rintro e w' ⟨rfl, rfl⟩; rw [HU.out])
    go_ret2
    exact ⟨rfl, rfl⟩

set_option maxHeartbeats 1000000 in
theorem worlds_Alike (th a b d : Int) (w : World) : Calls Tryd.prog 45 #[.agg #[.int .i64 th, .int .i64 a, .int .i64 b, .int .i64 d]] w (Keeps (.tuple #[.int .i64 (Venn.alikeW ⟨th, a, b, d⟩), errV (Venn.worldChk ⟨th, a, b, d⟩)]) w) := by
  by_cases hw : Venn.worldChk ⟨th, a, b, d⟩ = 0
  · obtain ⟨a0, a1, a2, a3, a4, a5, a6, a7, hx, hp, hs⟩ := allC_parts (Venn.worldChk_iff.1 hw).1 (Venn.fieldsOf_mem hw)
    have hth := (Venn.worldChk_iff.1 hw).1
    simp only [Venn.things, Bool.and_eq_true, decide_eq_true_eq] at hth
    have HE := Lib.hid (errV_zero hw)
    have HFV := Lib.hid (show fieldsV ⟨th, a, b, d⟩ = [a0, a1, a2, a3, a4, a5, a6, a7] by rw [fieldsV, if_pos hw, hx])
    have HAV := Lib.hid (show Venn.alikeW ⟨th, a, b, d⟩ = Venn.ways [a0, a1, a2, a3, a4, a5, a6, a7] by rw [Venn.alikeW, if_pos hw, hx])
    have HWY := Lib.hid (fun W => worlds_ways a0 a1 a2 a3 a4 a5 a6 a7 W hp (by rw [hs]; exact hth.2))
    rw [HAV.out, HE.out]
    clear hw hx hp hs hth HAV
    generalize Venn.ways [a0, a1, a2, a3, a4, a5, a6, a7] = WY at HWY ⊢
    go_enter Tryd.func45, Tryd.ntmps45
    go_wp2_with fail
    refine (fields_Of _ _ _ _ _).mono ?_
    rintro e w1 ⟨rfl, hb1⟩
    rw [HFV.out, HE.out]
    simp only [cells, List.map]
    go_wp2_with fail
    refine (HWY.out _).mono ?_
    rintro e w2 ⟨rfl, hb2⟩
    go_wp2
    go_ret2
    exact ⟨rfl, by (repeat' (first | (with_reducible exact Below.refl _ _) | (with_reducible assumption) | (with_reducible refine Below.next ?_ (by with_reducible assumption)) | (with_reducible refine Below.drew ?_) | (with_reducible refine Below.laid ?_ _) | (with_reducible refine Below.setCell ?_ ?_ _) | (with_reducible refine size_of ?_) | (with_reducible refine Nat.le_succ_of_le ?_) | go_size))⟩
  · have HE := Lib.hid (errV_ne hw)
    have HFV := Lib.hid (show fieldsV ⟨th, a, b, d⟩ = [0, 0, 0, 0, 0, 0, 0, 0] by rw [fieldsV, if_neg hw])
    rw [Venn.alikeW, if_neg hw, HE.out]
    clear hw
    go_enter Tryd.func45, Tryd.ntmps45
    go_wp2_with fail
    refine (fields_Of _ _ _ _ _).mono ?_
    rintro e w1 ⟨rfl, hb1⟩
    rw [HFV.out, HE.out]
    simp only [cells, List.map]
    go_wp2
    go_ret2
    exact ⟨rfl, by (repeat' (first | (with_reducible exact Below.refl _ _) | (with_reducible assumption) | (with_reducible refine Below.next ?_ (by with_reducible assumption)) | (with_reducible refine Below.drew ?_) | (with_reducible refine Below.laid ?_ _) | (with_reducible refine Below.setCell ?_ ?_ _) | (with_reducible refine size_of ?_) | (with_reducible refine Nat.le_succ_of_le ?_) | go_size))⟩

set_option maxHeartbeats 8000000 in
set_option maxRecDepth 100000 in
theorem worldsTell_walk (sa sc : Value) (l : List Venn.Atom) (c : List Int) (u th a b d : Int) (w : World) (ha : IsAtoms w sa l) (hc : IsInts w sc c) (hk : KindsOk w) (het : EtOk w) :
    Calls Tryd.prog 9 #[.agg #[sa, sc], .int .i64 u, .agg #[.int .i64 th, .int .i64 a, .int .i64 b, .int .i64 d]] w (Keeps (.bool true) w) := by
  obtain ⟨A, cA, rfl⟩ := ha.slice
  obtain ⟨C, cC, rfl⟩ := hc.slice
  have HA := Lib.hid ha
  have HC := Lib.hid hc
  have HK := Lib.hid hk
  have HET := Lib.hid het
  clear ha hc hk het
  have HFA := Lib.hid (fun W h1 h2 => ref_Form (.slice A l.length cA) (.slice C c.length cC) l c W h1 h2)
  have HWF := Lib.hid (fun W h1 h2 h3 => worlds_Of (.slice A l.length cA) (.slice C c.length cC) l c u W h1 h2 h3)
  have HAU := Lib.hid (fun W => worlds_All u W)
  have HAK := Lib.hid (fun W => worlds_Alike th a b d W)
  have HRW := Lib.hid (fun W => ref_World th a b d W)
  have HGW := Lib.hid (show Venn.worldsChk ⟨l, c⟩ u = if Venn.formChk ⟨l, c⟩ = 0 then Venn.allErr u else Venn.formChk ⟨l, c⟩ from rfl)
  have HSV := Lib.hid (show Venn.worldsV ⟨l, c⟩ u = if Venn.worldsChk ⟨l, c⟩ u = 0 then Venn.worldsGo ⟨l, c⟩ (Venn.allC u) else 0 from rfl)
  have HWV := Lib.hid (show worldsVv ⟨l, c⟩ u = .tuple #[.int .i64 (Venn.worldsV ⟨l, c⟩ u), errV (Venn.worldsChk ⟨l, c⟩ u)] from rfl)
  have HMV := Lib.hid (show Venn.alikeW ⟨th, a, b, d⟩ = if Venn.worldChk ⟨th, a, b, d⟩ = 0 then Venn.ways (Venn.fieldsOf ⟨th, a, b, d⟩) else 0 from rfl)
  have HFM := Lib.hid (show Venn.worldChk ⟨th, a, b, d⟩ = 0 → ∃ a0 a1 a2 a3 a4 a5 a6 a7, Venn.fieldsOf ⟨th, a, b, d⟩ = [a0, a1, a2, a3, a4, a5, a6, a7] ∧ (∀ y ∈ [a0, a1, a2, a3, a4, a5, a6, a7], 0 ≤ y) ∧ [a0, a1, a2, a3, a4, a5, a6, a7].sum ≤ 6 ∧ Venn.waysRef [a0, a1, a2, a3, a4, a5, a6, a7] = Venn.ways (Venn.fieldsOf ⟨th, a, b, d⟩) from fun hw => by
    have hth := (Venn.worldChk_iff.1 hw).1
    obtain ⟨a0, a1, a2, a3, a4, a5, a6, a7, hx, hp, hs⟩ := allC_parts hth (Venn.fieldsOf_mem hw)
    have h2 := Venn.waysRef_all hth (Venn.fieldsOf_mem hw)
    simp only [Venn.things, Bool.and_eq_true, decide_eq_true_eq] at hth
    exact ⟨a0, a1, a2, a3, a4, a5, a6, a7, hx, hp, by rw [hs]; exact hth.2, by rw [← h2, hx]⟩)
  have HRF := Lib.hid (fun (hw : Venn.worldChk ⟨th, a, b, d⟩ = 0) W => ref_Fields th a b d W hw)
  have HGO := Lib.hid (show Venn.worldsChk ⟨l, c⟩ u = 0 → Venn.formChk ⟨l, c⟩ = 0 ∧ Venn.things u = true from fun h => by
    unfold Venn.worldsChk at h
    split at h
    · split at h
      · exact ⟨by assumption, by assumption⟩
      · cases h
    · contradiction)
  obtain ⟨EU, hEU⟩ : ∃ E, E = Venn.allErr u := ⟨_, rfl⟩
  obtain ⟨AV, hAV⟩ : ∃ E, E = Venn.allV u := ⟨_, rfl⟩
  rw [← hEU, ← hAV] at HAU
  rw [← hEU] at HGW
  generalize Venn.worldChk ⟨th, a, b, d⟩ = G at HAK HRW HMV HFM HRF
  generalize Venn.alikeW ⟨th, a, b, d⟩ = MV at HAK HMV
  generalize worldsVv ⟨l, c⟩ u = RW at HWF HWV
  generalize Venn.worldsV ⟨l, c⟩ u = SV at HSV HWV
  generalize Venn.worldsChk ⟨l, c⟩ u = GW at HGW HSV HWV HGO
  have HEU := Lib.hid hEU
  have HAV := Lib.hid hAV
  obtain ⟨B8, hB8⟩ : ∃ B : Int, B = if EU = 0 then 1 else 0 := ⟨_, rfl⟩
  have HB8 := Lib.hid hB8
  clear hEU hAV hB8
  go_enter Tryd.func9, Tryd.ntmps9
  go_upto_region 3 with (fail)
  have BF := (Blk.new w 25 #[.slice A l.length cA, .slice C c.length cC]).alloc (.cells #[.int .i64 th, .int .i64 a, .int .i64 b, .int .i64 d] 28)
  have BW := Blk.newAt (w := w.alloc (.cells #[.slice A l.length cA, .slice C c.length cC] 25)) (g := w.heap.size + 1) (by simp) 28 #[.int .i64 th, .int .i64 a, .int .i64 b, .int .i64 d]
  have hw1 : Below w.heap.size w ((w.alloc (.cells #[.slice A l.length cA, .slice C c.length cC] 25)).alloc (.cells #[.int .i64 th, .int .i64 a, .int .i64 b, .int .i64 d] 28)) := by (repeat' (first | (with_reducible exact Below.refl _ _) | (with_reducible assumption) | (with_reducible refine Below.next ?_ (by with_reducible assumption)) | (with_reducible refine Below.drew ?_) | (with_reducible refine Below.laid ?_ _) | (with_reducible refine Below.setCell ?_ ?_ _) | (with_reducible refine size_of ?_) | (with_reducible refine Nat.le_succ_of_le ?_) | go_size))
  revert BF BW hw1
  generalize World.alloc _ _ = w1
  intro BF BW hw1
  go_cut [26] (fun s26 wx => s26 = .bool (!Venn.things u) ∧ wx = w1)
  case first =>
    rcases (by omega : u < 0 ∨ (¬ u < 0 ∧ 6 < u) ∨ (¬ u < 0 ∧ ¬ 6 < u)) with hu | ⟨hu, hu2⟩ | ⟨hu, hu2⟩
    · have HX := Lib.hid (show Venn.things u = false by simp [Venn.things]; omega)
      go_wp2
      go_meet
      case rel => exact ⟨by rw [HX.out]; rfl, rfl⟩
    · have HX := Lib.hid (show Venn.things u = false by simp [Venn.things]; omega)
      go_wp2
      go_meet
      case rel => exact ⟨by rw [HX.out]; rfl, rfl⟩
    · have HX := Lib.hid (show Venn.things u = true by simp [Venn.things]; omega)
      go_wp2
      go_meet
      case rel => exact ⟨by rw [HX.out]; rfl, rfl⟩
  case rest =>
  obtain ⟨rfl, rfl⟩ := hcut
  obtain ⟨w1, rfl⟩ : ∃ w1 : World, w1 = wc := ⟨_, rfl⟩
  go_upto_if 26 with (fail)
  go_cut [7, 8] (fun s7 s8 wx => s7 = .int .i64 EU ∧ s8 = .int .i64 B8 ∧ wx = w1)
  case first =>
    cases ht : Venn.things u
    · have HX := Lib.hid (show EU = 1 by rw [HEU.out, Venn.allErr, ht]; rfl)
      go_wp2
      go_meet
      case rel => exact ⟨by rw [HX.out], by rw [HB8.out, HX.out]; rfl, rfl⟩
    · have HX := Lib.hid (show EU = 0 by rw [HEU.out, Venn.allErr, ht]; rfl)
      go_wp2
      go_meet
      case rel => exact ⟨by rw [HX.out], by rw [HB8.out, HX.out]; rfl, rfl⟩
  case rest =>
    obtain ⟨rfl, rfl, rfl⟩ := hcut
    obtain ⟨w1, rfl⟩ : ∃ w1 : World, w1 = wc := ⟨_, rfl⟩
    have HB1 := Lib.hid (And.intro BF BW)
    go_upto_block 0 with fail
    go_cut [8] (fun s8 wx => s8 = .int .i64 AV ∧ wx = w1)
    case first =>
      go_wp2_with fail
      by_cases ht : Venn.things u = true
      · have hE0 : EU = 0 := by rw [HEU.out, Venn.allErr, if_pos ht]
        obtain rfl : B8 = 1 := by rw [HB8.out, hE0]; rfl
        have HA8 := Lib.hid (show AV = ((8 ^ u.toNat : Nat) : Int) by rw [HAV.out, Venn.allV, if_pos ht])
        simp only [Venn.things, Bool.and_eq_true, decide_eq_true_eq] at ht
        obtain ⟨U, rfl⟩ := Int.eq_ofNat_of_zero_le ht.1
        rw [Int.toNat_natCast] at HA8
        clear HB8
        subst hE0
        have hU6 : U ≤ 6 := by omega
        clear ht
        go_loop [8, 9] (fun p i => ∃ k : Nat, k ≤ U ∧ i = .int .i64 k ∧ p = .int .i64 ((8 ^ k : Nat) : Int)) (fun _ i => U - (intOf i).toNat)
        case atStart => exact ⟨0, Nat.zero_le _, rfl, rfl⟩
        case round =>
          obtain ⟨k, hk, rfl, rfl⟩ := hrel
          by_cases hlt : k < U
          · have hk1 : (k : Int) < (U : Int) := by omega
            have h8 : 8 ^ k ≤ 8 ^ 6 := Nat.pow_le_pow_right (by omega) (by omega)
            have HP := Lib.hid (show ((8 ^ (k + 1) : Nat) : Int) = ((8 ^ k : Nat) : Int) * 8 by rw [Nat.pow_succ]; simp)
            generalize 8 ^ k = P at h8 HP
            have hwr : IntKind.i64.wrap ((P : Int) * 8) = (P : Int) * 8 := IntWalk.i64_in _ (by omega)
            go_wp2
            go_round
            case rel => exact ⟨k + 1, by omega, by go_num, by rw [HP.out]⟩
            case measure => simp [intOf]; omega
          · obtain rfl : k = U := by omega
            generalize 8 ^ k = P at HA8
            go_wp2
            go_meet
            case rel => exact ⟨by rw [HA8.out], rfl⟩
      · have hE0 : EU = 1 := by rw [HEU.out, Venn.allErr, if_neg ht]
        obtain rfl : B8 = 0 := by rw [HB8.out, hE0]; rfl
        have HA8 := Lib.hid (show AV = 0 by rw [HAV.out, Venn.allV, if_neg ht])
        have hu : u < 0 ∨ 6 < u := by simp [Venn.things] at ht; omega
        clear HB8
        subst hE0
        clear ht
        refine wp_loop_rounds 1 ?_
        rw [rounds_succ]
        rcases hu with hu | hu
        · have hu0 : ¬ 0 < u := by omega
          go_wp2
          go_meet
          case rel => exact ⟨by rw [HA8.out], rfl⟩
        · have hu0 : 0 < u := by omega
          go_wp2
          go_meet
          case rel => exact ⟨by rw [HA8.out], rfl⟩
    case rest =>
      obtain ⟨rfl, rfl⟩ := hcut
      obtain ⟨w1, rfl⟩ : ∃ w1 : World, w1 = wc := ⟨_, rfl⟩
      obtain ⟨BF, BW⟩ := HB1.out
      go_wp2_with (go_at_call 42; refine (HAU.out _).mono ?_; rintro e w' ⟨rfl, rfl⟩)
      refine (vennsame_Error _ _ _ (HET.out.keep (by (repeat' (first | (with_reducible exact Below.refl _ _) | (with_reducible assumption) | (with_reducible refine Below.next ?_ (by with_reducible assumption)) | (with_reducible refine Below.drew ?_) | (with_reducible refine Below.laid ?_ _) | (with_reducible refine Below.setCell ?_ ?_ _) | (with_reducible refine size_of ?_) | (with_reducible refine Nat.le_succ_of_le ?_) | go_size))))).mono ?_
      rintro e w2 ⟨rfl, hb2⟩
      have hw2 := Below.next hw1 hb2
      replace BF := BF.keep hb2
      replace BW := BW.keep hb2
      obtain ⟨⟨BF0, BF1⟩, _⟩ := BF.cells2
      have BFl := BF.lt
      obtain ⟨BW0, BW1, BW2, BW3⟩ := BW.cells4
      have BWl := BW.lt
      go_wp2_with fail
      refine (HRW.out _).mono ?_
      rintro e w3 ⟨rfl, hb3⟩
      have hq3 : Below w2.heap.size w2 w3 := by (repeat' (first | (with_reducible exact Below.refl _ _) | (with_reducible assumption) | (with_reducible refine Below.next ?_ (by with_reducible assumption)) | (with_reducible refine Below.drew ?_) | (with_reducible refine Below.laid ?_ _) | (with_reducible refine Below.setCell ?_ ?_ _) | (with_reducible refine size_of ?_) | (with_reducible refine Nat.le_succ_of_le ?_) | go_size))
      have hw3 : Below w.heap.size w w3 := Below.next hw2 hq3
      replace BF := BF.keep hq3
      try clear BF0 BF1 BFl
      obtain ⟨⟨BF0, BF1⟩, _⟩ := BF.cells2
      have BFl := BF.lt
      replace BW := BW.keep hq3
      try clear BW0 BW1 BW2 BW3 BWl
      obtain ⟨BW0, BW1, BW2, BW3⟩ := BW.cells4
      have BWl := BW.lt
      go_upto_if 54 with (fail)
      have HB3 := Lib.hid (And.intro BF BW)
      go_cut [14] (fun s14 wx => s14 = .int .i64 MV ∧ Below w.heap.size w wx ∧ Blk wx w.heap.size 25 #[.slice A l.length cA, .slice C c.length cC] ∧ Blk wx (w.heap.size + 1) 28 #[.int .i64 th, .int .i64 a, .int .i64 b, .int .i64 d])
      case first =>
        by_cases hz : G = 0
        · obtain ⟨a0, a1, a2, a3, a4, a5, a6, a7, hx, hp, hs, hy⟩ := HFM.out hz
          have HFX := Lib.hid (HRF.out hz)
          have HWY := Lib.hid (fun W => ref_Ways a0 a1 a2 a3 a4 a5 a6 a7 W hp hs)
          have HX := Lib.hid (show MV = Venn.waysRef [a0, a1, a2, a3, a4, a5, a6, a7] by rw [HMV.out, if_pos hz, hy])
          have HFF := Lib.hid hx
          subst hz
          clear hx hp hs hy
          generalize Venn.waysRef [a0, a1, a2, a3, a4, a5, a6, a7] = WY at HWY HX
          go_wp2_with fail
          refine (HFX.out _).mono ?_
          rintro e w4 ⟨rfl, hb4⟩
          rw [HFF.out]
          simp only [cells, List.map]
          go_wp2_with fail
          refine (HWY.out _).mono ?_
          rintro e w5 ⟨rfl, hb5⟩
          go_wp2
          go_meet
          case rel => exact ⟨by rw [HX.out], by (repeat' (first | (with_reducible exact Below.refl _ _) | (with_reducible assumption) | (with_reducible refine Below.next ?_ (by with_reducible assumption)) | (with_reducible refine Below.drew ?_) | (with_reducible refine Below.laid ?_ _) | (with_reducible refine Below.setCell ?_ ?_ _) | (with_reducible refine size_of ?_) | (with_reducible refine Nat.le_succ_of_le ?_) | go_size)), (HB3.out.1.keep hb4).keep hb5, (HB3.out.2.keep hb4).keep hb5⟩
        · have HX := Lib.hid (show MV = 0 by rw [HMV.out, if_neg hz])
          have hq : (G == 0) = false := by simpa using hz
          clear hz
          go_wp2
          go_meet
          case rel => exact ⟨by rw [HX.out], by (repeat' (first | (with_reducible exact Below.refl _ _) | (with_reducible assumption) | (with_reducible refine Below.next ?_ (by with_reducible assumption)) | (with_reducible refine Below.drew ?_) | (with_reducible refine Below.laid ?_ _) | (with_reducible refine Below.setCell ?_ ?_ _) | (with_reducible refine size_of ?_) | (with_reducible refine Nat.le_succ_of_le ?_) | go_size)), HB3.out.1, HB3.out.2⟩
      case rest =>
        obtain ⟨rfl, hw4, BF4, BW4⟩ := hcut
        obtain ⟨w4, rfl⟩ : ∃ w4 : World, w4 = wc := ⟨_, rfl⟩
        clear BF BW BF0 BF1 BFl BW0 BW1 BW2 BW3 BWl HB3 hw3 hw2 hb2 hb3 hq3 hw1 HB1
        obtain ⟨⟨BF40, BF41⟩, _⟩ := BF4.cells2
        have BF4l := BF4.lt
        obtain ⟨BW40, BW41, BW42, BW43⟩ := BW4.cells4
        have BW4l := BW4.lt
        go_wp2_with fail
        refine (HAK.out _).mono ?_
        rintro e w5 ⟨rfl, hb5⟩
        have hq5 : Below w4.heap.size w4 w5 := by (repeat' (first | (with_reducible exact Below.refl _ _) | (with_reducible assumption) | (with_reducible refine Below.next ?_ (by with_reducible assumption)) | (with_reducible refine Below.drew ?_) | (with_reducible refine Below.laid ?_ _) | (with_reducible refine Below.setCell ?_ ?_ _) | (with_reducible refine size_of ?_) | (with_reducible refine Nat.le_succ_of_le ?_) | go_size))
        have hw5 : Below w.heap.size w w5 := Below.next hw4 hq5
        replace BF4 := BF4.keep hq5
        try clear BF40 BF41 BF4l
        obtain ⟨⟨BF40, BF41⟩, _⟩ := BF4.cells2
        have BF4l := BF4.lt
        go_wp2_with fail
        refine (vennsame_Error _ _ _ (HET.out.keep (by (repeat' (first | (with_reducible exact Below.refl _ _) | (with_reducible assumption) | (with_reducible refine Below.next ?_ (by with_reducible assumption)) | (with_reducible refine Below.drew ?_) | (with_reducible refine Below.laid ?_ _) | (with_reducible refine Below.setCell ?_ ?_ _) | (with_reducible refine size_of ?_) | (with_reducible refine Nat.le_succ_of_le ?_) | go_size))))).mono ?_
        rintro e w6 ⟨rfl, hb6⟩
        have hq6 : Below w5.heap.size w5 w6 := by (repeat' (first | (with_reducible exact Below.refl _ _) | (with_reducible assumption) | (with_reducible refine Below.next ?_ (by with_reducible assumption)) | (with_reducible refine Below.drew ?_) | (with_reducible refine Below.laid ?_ _) | (with_reducible refine Below.setCell ?_ ?_ _) | (with_reducible refine size_of ?_) | (with_reducible refine Nat.le_succ_of_le ?_) | go_size))
        have hw6 : Below w.heap.size w w6 := Below.next hw5 hq6
        replace BF4 := BF4.keep hq6
        try clear BF40 BF41 BF4l
        obtain ⟨⟨BF40, BF41⟩, _⟩ := BF4.cells2
        have BF4l := BF4.lt
        go_wp2_with fail
        refine (HFA.out _ (HA.out.keep (by (repeat' (first | (with_reducible exact Below.refl _ _) | (with_reducible assumption) | (with_reducible refine Below.next ?_ (by with_reducible assumption)) | (with_reducible refine Below.drew ?_) | (with_reducible refine Below.laid ?_ _) | (with_reducible refine Below.setCell ?_ ?_ _) | (with_reducible refine size_of ?_) | (with_reducible refine Nat.le_succ_of_le ?_) | go_size)))) (HC.out.keep (by (repeat' (first | (with_reducible exact Below.refl _ _) | (with_reducible assumption) | (with_reducible refine Below.next ?_ (by with_reducible assumption)) | (with_reducible refine Below.drew ?_) | (with_reducible refine Below.laid ?_ _) | (with_reducible refine Below.setCell ?_ ?_ _) | (with_reducible refine size_of ?_) | (with_reducible refine Nat.le_succ_of_le ?_) | go_size))))).mono ?_
        rintro e w7 ⟨rfl, hb7⟩
        have hq7 : Below w6.heap.size w6 w7 := by (repeat' (first | (with_reducible exact Below.refl _ _) | (with_reducible assumption) | (with_reducible refine Below.next ?_ (by with_reducible assumption)) | (with_reducible refine Below.drew ?_) | (with_reducible refine Below.laid ?_ _) | (with_reducible refine Below.setCell ?_ ?_ _) | (with_reducible refine size_of ?_) | (with_reducible refine Nat.le_succ_of_le ?_) | go_size))
        have hw7 : Below w.heap.size w w7 := Below.next hw6 hq7
        replace BF4 := BF4.keep hq7
        try clear BF40 BF41 BF4l
        obtain ⟨⟨BF40, BF41⟩, _⟩ := BF4.cells2
        have BF4l := BF4.lt
        go_upto_if 74 with (fail)
        have HB7 := Lib.hid BF4
        go_cut [13] (fun s13 wx => s13 = .int .i64 GW ∧ wx = w7)
        case first =>
          by_cases hz : Venn.formChk ⟨l, c⟩ = 0
          · have HX := Lib.hid (show GW = EU by rw [HGW.out, if_pos hz])
            rw [hz]
            clear hz
            go_wp2
            go_meet
            case rel => exact ⟨by rw [HX.out], rfl⟩
          · have HX := Lib.hid (show GW = Venn.formChk ⟨l, c⟩ by rw [HGW.out, if_neg hz])
            have hq : (Venn.formChk ⟨l, c⟩ == 0) = false := by simpa using hz
            clear hz
            generalize Venn.formChk ⟨l, c⟩ = EF at hq HX
            go_wp2
            go_meet
            case rel => exact ⟨by rw [HX.out], rfl⟩
        case rest =>
          obtain ⟨rfl, rfl⟩ := hcut
          obtain ⟨w7, rfl⟩ : ∃ w7 : World, w7 = wc := ⟨_, rfl⟩
          by_cases hz : GW = 0
          · obtain ⟨hf, hu⟩ := HGO.out hz
            have HF := Lib.hid hf
            have hu6 := hu
            simp only [Venn.things, Bool.and_eq_true, decide_eq_true_eq] at hu6
            have HSX := Lib.hid (show SV = Venn.worldsGo ⟨l, c⟩ (Venn.allC u) by rw [HSV.out, if_pos hz])
            have HRA := Lib.hid (fun W => ref_All u W hu6)
            have HWA := Lib.hid (show ∀ x ∈ Venn.allC u, 0 ≤ Venn.ways x ∧ Venn.ways x ≤ 720 from ways_all hu)
            have hll := len_all hu
            have HPA := Lib.hid (show ∀ x ∈ Venn.allC u, ∃ a0 a1 a2 a3 a4 a5 a6 a7, x = [a0, a1, a2, a3, a4, a5, a6, a7] ∧ (∀ y ∈ [a0, a1, a2, a3, a4, a5, a6, a7], 0 ≤ y) ∧ [a0, a1, a2, a3, a4, a5, a6, a7].sum ≤ 6 ∧ Venn.waysRef x = Venn.ways x ∧ Venn.worldChk (Venn.made x) = 0 from fun x hx => by
              obtain ⟨a0, a1, a2, a3, a4, a5, a6, a7, hx', hp, hs⟩ := allC_parts hu hx
              exact ⟨a0, a1, a2, a3, a4, a5, a6, a7, hx', hp, by rw [hs]; exact hu6.2, Venn.waysRef_all hu hx, (Venn.made_allC hu hx).1⟩)
            have H8 := Lib.hid (show ∀ r ∈ Venn.allC u, r.length = 8 from fun r hr => ((Venn.mem_allC hu r).1 hr).1)
            subst hz
            clear hf hu hu6
            generalize Venn.allC u = LL at HSX HRA HWA hll HPA H8
            go_wp2_with fail
            refine (HRA.out _).mono ?_
            rintro e w8 ⟨v8, rfl, hb8, O8⟩
            obtain ⟨V8, c8, rfl⟩ := ownsRow_slice O8
            have HO := Lib.hid O8
            have hw8 := Below.next hw7 hb8
            have BF8 := HB7.out.keep hb8
            clear O8 BF4 BF40 BF41 BF4l HB7
            go_wp2
            go_loopw [16, 18] (fun s i wr => ∃ (k : Nat) (S : Int), k ≤ LL.length ∧ i = .int .i64 k ∧ s = .int .i64 S ∧ S = Venn.worldsGo ⟨l, c⟩ (LL.take k) ∧ Below w.heap.size w wr ∧ Below w8.heap.size w8 wr ∧ Blk wr w.heap.size 25 #[.slice A l.length cA, .slice C c.length cC]) (fun _ i _ => LL.length - (intOf i).toNat)
            case atStart => exact ⟨0, 0, Nat.zero_le _, rfl, rfl, rfl, hw8, Below.refl _ _, BF8⟩
            case round =>
              clear hw8 BF8
              obtain ⟨k, S, hk, rfl, rfl, hS, hb, hbz, hB⟩ := hrel
              obtain ⟨wo, rfl⟩ : ∃ wo : World, wo = wr := ⟨_, rfl⟩
              obtain ⟨⟨f0, f1⟩, _⟩ := hB.cells2
              have hlB := hB.lt
              by_cases hlt : k < LL.length
              · have hk1 : (k : Int) < (LL.length : Int) := by omega
                have hk0 : (0 : Int) ≤ (k : Int) := by omega
                have hx := List.getElem?_eq_getElem hlt
                obtain ⟨a0, a1, a2, a3, a4, a5, a6, a7, hxe, hp, hs, hwy, hwm⟩ := HPA.out LL[k] (List.getElem_mem hlt)
                have hwr := HWA.out LL[k] (List.getElem_mem hlt)
                have hgr := worldsGo_range ⟨l, c⟩ (LL.take k) (fun x hx => HWA.out x (List.mem_of_mem_take hx))
                rw [List.length_take, ← hS] at hgr
                have hsn : Venn.worldsGo ⟨l, c⟩ (LL.take (k + 1)) = if Venn.formTrue ⟨l, c⟩ (Venn.made LL[k]) = true then S + Venn.ways LL[k] else S := by
                  rw [List.take_succ_eq_append_getElem hlt, Venn.worldsGo_snoc, hS]
                rw [hxe] at hx hwy hwr hsn hwm
                obtain ⟨ga, rfl, d0, d1, d2, d3, d4, d5, d6, d7⟩ := own_eight HO.out H8.out hx
                replace d0 := cell_keep hbz d0
                replace d1 := cell_keep hbz d1
                replace d2 := cell_keep hbz d2
                replace d3 := cell_keep hbz d3
                replace d4 := cell_keep hbz d4
                replace d5 := cell_keep hbz d5
                replace d6 := cell_keep hbz d6
                replace d7 := cell_keep hbz d7
                have HM := Lib.hid (fun W => ref_Made a0 a1 a2 a3 a4 a5 a6 a7 W hp hs)
                have HWY := Lib.hid (fun W => ref_Ways a0 a1 a2 a3 a4 a5 a6 a7 W hp hs)
                rw [hwy] at HWY
                have HSN := Lib.hid hsn
                clear hx hxe hp hs hwy hsn
                generalize Venn.ways [a0, a1, a2, a3, a4, a5, a6, a7] = WY at HWY HSN hwr
                generalize Venn.made [a0, a1, a2, a3, a4, a5, a6, a7] = X at HM HSN hwm
                obtain ⟨xt, xa, xb, xd⟩ := X
                have HT := Lib.hid (fun W h1 h2 => ref_True (.slice A l.length cA) (.slice C c.length cC) l c xt xa xb xd W h1 h2 HF.out hwm)
                clear hwm hS
                generalize Venn.formTrue ⟨l, c⟩ ⟨xt, xa, xb, xd⟩ = T at HT HSN
                have hwr2 : IntKind.i64.wrap (S + WY) = S + WY := IntWalk.i64_in _ (by omega)
                simp only at HM
                go_wp2_with fail
                go_region_law (first
                  | (go_simp; go_at_call 47; refine (HM.out _).mono ?_; rintro e w9 ⟨rfl, hb9⟩; have hB9 := (hB.drew).keep hb9; obtain ⟨⟨j0, j1⟩, _⟩ := hB9.cells2; have hlB9 := hB9.lt)
                  | (go_simp; go_at_call 20; refine (HT.out _ (HA.out.keep (by (repeat' (first | (with_reducible exact Below.refl _ _) | (with_reducible assumption) | (with_reducible refine Below.next ?_ (by with_reducible assumption)) | (with_reducible refine Below.drew ?_) | (with_reducible refine Below.laid ?_ _) | (with_reducible refine Below.setCell ?_ ?_ _) | (with_reducible refine size_of ?_) | (with_reducible refine Nat.le_succ_of_le ?_) | go_size)))) (HC.out.keep (by (repeat' (first | (with_reducible exact Below.refl _ _) | (with_reducible assumption) | (with_reducible refine Below.next ?_ (by with_reducible assumption)) | (with_reducible refine Below.drew ?_) | (with_reducible refine Below.laid ?_ _) | (with_reducible refine Below.setCell ?_ ?_ _) | (with_reducible refine size_of ?_) | (with_reducible refine Nat.le_succ_of_le ?_) | go_size))))).mono ?_; rintro e w10 ⟨rfl, hb10⟩))
                all_goals
                  have hq10 : Below wo.heap.size wo w10 := by (repeat' (first | (with_reducible exact Below.refl _ _) | (with_reducible assumption) | (with_reducible refine Below.next ?_ (by with_reducible assumption)) | (with_reducible refine Below.drew ?_) | (with_reducible refine Below.laid ?_ _) | (with_reducible refine Below.setCell ?_ ?_ _) | (with_reducible refine size_of ?_) | (with_reducible refine Nat.le_succ_of_le ?_) | go_size))
                  have hB10 := hB9.keep hb10
                  have hz10 : Below w8.heap.size w8 w10 := Below.next hbz hq10
                  have hy10 : Below w.heap.size w w10 := Below.next hb hq10
                  cases T
                  · go_wp2
                    go_roundw
                    case rel => exact ⟨k + 1, S, by omega, by go_num, rfl, by rw [HSN.out]; rfl, hy10, hz10, hB10⟩
                    case measure => simp [intOf]; omega
                  · have e0 := cell_keep hq10 d0
                    have e1 := cell_keep hq10 d1
                    have e2 := cell_keep hq10 d2
                    have e3 := cell_keep hq10 d3
                    have e4 := cell_keep hq10 d4
                    have e5 := cell_keep hq10 d5
                    have e6 := cell_keep hq10 d6
                    have e7 := cell_keep hq10 d7
                    go_wp2_with fail
                    refine (HWY.out _).mono ?_
                    rintro e w11 ⟨rfl, hb11⟩
                    go_wp2
                    go_roundw
                    case rel => exact ⟨k + 1, S + WY, by omega, by go_num, rfl, by rw [HSN.out]; rfl, by (repeat' (first | (with_reducible exact Below.refl _ _) | (with_reducible assumption) | (with_reducible refine Below.next ?_ (by with_reducible assumption)) | (with_reducible refine Below.drew ?_) | (with_reducible refine Below.laid ?_ _) | (with_reducible refine Below.setCell ?_ ?_ _) | (with_reducible refine size_of ?_) | (with_reducible refine Nat.le_succ_of_le ?_) | go_size)), Below.next hz10 hb11, hB10.keep hb11⟩
                    case measure => simp [intOf]; omega
              · obtain rfl : k = LL.length := by omega
                have HV := Lib.hid (show SV = S by rw [HSX.out, hS, List.take_length])
                rw [HV.out] at HWV
                clear hS
                go_wp2_with fail
                refine (HWF.out _ (HA.out.keep (by (repeat' (first | (with_reducible exact Below.refl _ _) | (with_reducible assumption) | (with_reducible refine Below.next ?_ (by with_reducible assumption)) | (with_reducible refine Below.drew ?_) | (with_reducible refine Below.laid ?_ _) | (with_reducible refine Below.setCell ?_ ?_ _) | (with_reducible refine size_of ?_) | (with_reducible refine Nat.le_succ_of_le ?_) | go_size)))) (HC.out.keep (by (repeat' (first | (with_reducible exact Below.refl _ _) | (with_reducible assumption) | (with_reducible refine Below.next ?_ (by with_reducible assumption)) | (with_reducible refine Below.drew ?_) | (with_reducible refine Below.laid ?_ _) | (with_reducible refine Below.setCell ?_ ?_ _) | (with_reducible refine size_of ?_) | (with_reducible refine Nat.le_succ_of_le ?_) | go_size)))) (HK.out.keep (by (repeat' (first | (with_reducible exact Below.refl _ _) | (with_reducible assumption) | (with_reducible refine Below.next ?_ (by with_reducible assumption)) | (with_reducible refine Below.drew ?_) | (with_reducible refine Below.laid ?_ _) | (with_reducible refine Below.setCell ?_ ?_ _) | (with_reducible refine size_of ?_) | (with_reducible refine Nat.le_succ_of_le ?_) | go_size))))).mono ?_
                rintro e w9 ⟨rfl, hb9⟩
                rw [HWV.out]
                go_wp2_with fail
                refine (vennsame_Error _ _ _ (HET.out.keep (by (repeat' (first | (with_reducible exact Below.refl _ _) | (with_reducible assumption) | (with_reducible refine Below.next ?_ (by with_reducible assumption)) | (with_reducible refine Below.drew ?_) | (with_reducible refine Below.laid ?_ _) | (with_reducible refine Below.setCell ?_ ?_ _) | (with_reducible refine size_of ?_) | (with_reducible refine Nat.le_succ_of_le ?_) | go_size))))).mono ?_
                rintro e w10 ⟨rfl, hb10⟩
                go_wp2
                go_ret
                exact ⟨by simp, by (repeat' (first | (with_reducible exact Below.refl _ _) | (with_reducible assumption) | (with_reducible refine Below.next ?_ (by with_reducible assumption)) | (with_reducible refine Below.drew ?_) | (with_reducible refine Below.laid ?_ _) | (with_reducible refine Below.setCell ?_ ?_ _) | (with_reducible refine size_of ?_) | (with_reducible refine Nat.le_succ_of_le ?_) | go_size))⟩
          · have HX := Lib.hid (show SV = 0 by rw [HSV.out, if_neg hz])
            have hq : (GW == 0) = false := by simpa using hz
            rw [HX.out] at HWV
            clear hz
            go_wp2_with fail
            refine (HWF.out _ (HA.out.keep (by (repeat' (first | (with_reducible exact Below.refl _ _) | (with_reducible assumption) | (with_reducible refine Below.next ?_ (by with_reducible assumption)) | (with_reducible refine Below.drew ?_) | (with_reducible refine Below.laid ?_ _) | (with_reducible refine Below.setCell ?_ ?_ _) | (with_reducible refine size_of ?_) | (with_reducible refine Nat.le_succ_of_le ?_) | go_size)))) (HC.out.keep (by (repeat' (first | (with_reducible exact Below.refl _ _) | (with_reducible assumption) | (with_reducible refine Below.next ?_ (by with_reducible assumption)) | (with_reducible refine Below.drew ?_) | (with_reducible refine Below.laid ?_ _) | (with_reducible refine Below.setCell ?_ ?_ _) | (with_reducible refine size_of ?_) | (with_reducible refine Nat.le_succ_of_le ?_) | go_size)))) (HK.out.keep (by (repeat' (first | (with_reducible exact Below.refl _ _) | (with_reducible assumption) | (with_reducible refine Below.next ?_ (by with_reducible assumption)) | (with_reducible refine Below.drew ?_) | (with_reducible refine Below.laid ?_ _) | (with_reducible refine Below.setCell ?_ ?_ _) | (with_reducible refine size_of ?_) | (with_reducible refine Nat.le_succ_of_le ?_) | go_size))))).mono ?_
            rintro e w9 ⟨rfl, hb9⟩
            rw [HWV.out]
            go_wp2_with fail
            refine (vennsame_Error _ _ _ (HET.out.keep (by (repeat' (first | (with_reducible exact Below.refl _ _) | (with_reducible assumption) | (with_reducible refine Below.next ?_ (by with_reducible assumption)) | (with_reducible refine Below.drew ?_) | (with_reducible refine Below.laid ?_ _) | (with_reducible refine Below.setCell ?_ ?_ _) | (with_reducible refine size_of ?_) | (with_reducible refine Nat.le_succ_of_le ?_) | go_size))))).mono ?_
            rintro e w10 ⟨rfl, hb10⟩
            go_wp2
            go_ret
            exact ⟨by simp, by (repeat' (first | (with_reducible exact Below.refl _ _) | (with_reducible assumption) | (with_reducible refine Below.next ?_ (by with_reducible assumption)) | (with_reducible refine Below.drew ?_) | (with_reducible refine Below.laid ?_ _) | (with_reducible refine Below.setCell ?_ ?_ _) | (with_reducible refine size_of ?_) | (with_reducible refine Nat.le_succ_of_le ?_) | go_size))⟩
end Go.Proofs.YtcecbpbpknphjaaDoor
