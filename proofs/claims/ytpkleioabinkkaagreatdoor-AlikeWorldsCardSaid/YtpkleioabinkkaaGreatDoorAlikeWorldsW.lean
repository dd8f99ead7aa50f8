/-
  THE WALK of vennlaw2.AlikeWorlds.
-/
import Derived.Test.YtpkleioabinkkaaGreatDoorVennAlike
import Derived.Test.YtpkleioabinkkaaGreatDoorModelS
import Derived.Test.YtpkleioabinkkaaGreatDoorSame
import Derived.Test.YtpkleioabinkkaaGreatDoorRefG
import Derived.Deep.DeepCutAuto
namespace Go.Proofs.YtpkleioabinkkaaGreatDoor
open Go.RowKit

theorem sameF_at (wk : World) (A B : Option Addr) (s t : List Int) (cA cB : Nat) (hs : IsInts wk (.slice A s.length cA) s) (ht : IsInts wk (.slice B t.length cB) t) : Below wk.heap.size wk (((wk.alloc (.cells #[.int .i64 2, .slice A s.length cA, .slice B t.length cB, .int .i64 0] 46)).alloc (.cells #[.int .i64 0] 3)).alloc (.cells #[.slice (some ⟨wk.heap.size, 0, none⟩) 1 1, .slice (some ⟨wk.heap.size + 1, 0, none⟩) 1 1] 25)) ∧ Blk (((wk.alloc (.cells #[.int .i64 2, .slice A s.length cA, .slice B t.length cB, .int .i64 0] 46)).alloc (.cells #[.int .i64 0] 3)).alloc (.cells #[.slice (some ⟨wk.heap.size, 0, none⟩) 1 1, .slice (some ⟨wk.heap.size + 1, 0, none⟩) 1 1] 25)) (wk.heap.size + 1 + 1) 25 #[.slice (some ⟨wk.heap.size, 0, none⟩) 1 1, .slice (some ⟨wk.heap.size + 1, 0, none⟩) 1 1] ∧ IsAtoms (((wk.alloc (.cells #[.int .i64 2, .slice A s.length cA, .slice B t.length cB, .int .i64 0] 46)).alloc (.cells #[.int .i64 0] 3)).alloc (.cells #[.slice (some ⟨wk.heap.size, 0, none⟩) 1 1, .slice (some ⟨wk.heap.size + 1, 0, none⟩) 1 1] 25)) (.slice (some ⟨wk.heap.size, 0, none⟩) 1 1) [⟨2, s, t, 0⟩] ∧ IsInts (((wk.alloc (.cells #[.int .i64 2, .slice A s.length cA, .slice B t.length cB, .int .i64 0] 46)).alloc (.cells #[.int .i64 0] 3)).alloc (.cells #[.slice (some ⟨wk.heap.size, 0, none⟩) 1 1, .slice (some ⟨wk.heap.size + 1, 0, none⟩) 1 1] 25)) (.slice (some ⟨wk.heap.size + 1, 0, none⟩) 1 1) [0] := by
  have hb : Below wk.heap.size wk (((wk.alloc (.cells #[.int .i64 2, .slice A s.length cA, .slice B t.length cB, .int .i64 0] 46)).alloc (.cells #[.int .i64 0] 3)).alloc (.cells #[.slice (some ⟨wk.heap.size, 0, none⟩) 1 1, .slice (some ⟨wk.heap.size + 1, 0, none⟩) 1 1] 25)) := by have w := wk; (repeat' (first | (with_reducible exact Below.refl _ _) | (with_reducible assumption) | (with_reducible refine Below.next ?_ (by with_reducible assumption)) | (with_reducible refine Below.drew ?_) | (with_reducible refine Below.laid ?_ _) | (with_reducible refine Below.setCell ?_ ?_ _) | (with_reducible refine size_of ?_) | (with_reducible refine Nat.le_succ_of_le ?_) | go_size))
  have B1 : Blk (((wk.alloc (.cells #[.int .i64 2, .slice A s.length cA, .slice B t.length cB, .int .i64 0] 46)).alloc (.cells #[.int .i64 0] 3)).alloc (.cells #[.slice (some ⟨wk.heap.size, 0, none⟩) 1 1, .slice (some ⟨wk.heap.size + 1, 0, none⟩) 1 1] 25)) wk.heap.size 46 #[.int .i64 2, .slice A s.length cA, .slice B t.length cB, .int .i64 0] := ((Blk.new wk _ _).alloc _).alloc _
  have B2 : Blk (((wk.alloc (.cells #[.int .i64 2, .slice A s.length cA, .slice B t.length cB, .int .i64 0] 46)).alloc (.cells #[.int .i64 0] 3)).alloc (.cells #[.slice (some ⟨wk.heap.size, 0, none⟩) 1 1, .slice (some ⟨wk.heap.size + 1, 0, none⟩) 1 1] 25)) (wk.heap.size + 1) 3 #[.int .i64 0] := (Blk.newAt (by simp) _ _).alloc _
  exact ⟨hb, Blk.newAt (by simp) _ _, IsAtoms.one (a := ⟨2, s, t, 0⟩) B1 (hs.keep hb) (ht.keep hb), IsInts.of_blk1 B2⟩
theorem meet_at (w : World) : Below w.heap.size w ((w.alloc (.cells #[.int .i64 0, .int .i64 1, .int .i64 6] 3)).alloc (.cells #[.int .i64 1, .int .i64 0, .int .i64 6] 3)) ∧ IsInts ((w.alloc (.cells #[.int .i64 0, .int .i64 1, .int .i64 6] 3)).alloc (.cells #[.int .i64 1, .int .i64 0, .int .i64 6] 3)) (.slice (some ⟨w.heap.size, 0, none⟩) 3 3) [0, 1, 6] ∧ IsInts ((w.alloc (.cells #[.int .i64 0, .int .i64 1, .int .i64 6] 3)).alloc (.cells #[.int .i64 1, .int .i64 0, .int .i64 6] 3)) (.slice (some ⟨w.heap.size + 1, 0, none⟩) 3 3) [1, 0, 6] := by
  have h1 : IsInts (w.alloc (.cells #[.int .i64 0, .int .i64 1, .int .i64 6] 3)) (.slice (some ⟨w.heap.size, 0, none⟩) 3 3) [0, 1, 6] := IsInts.of_new w [0, 1, 6] 3 (by decide)
  have h2 : IsInts ((w.alloc (.cells #[.int .i64 0, .int .i64 1, .int .i64 6] 3)).alloc (.cells #[.int .i64 1, .int .i64 0, .int .i64 6] 3)) (.slice (some ⟨(w.alloc (.cells #[.int .i64 0, .int .i64 1, .int .i64 6] 3)).heap.size, 0, none⟩) 3 3) [1, 0, 6] := IsInts.of_new (w.alloc (.cells #[.int .i64 0, .int .i64 1, .int .i64 6] 3)) [1, 0, 6] 3 (by decide)
  rw [show (w.alloc (.cells #[.int .i64 0, .int .i64 1, .int .i64 6] 3)).heap.size = w.heap.size + 1 by simp] at h2
  exact ⟨by (repeat' (first | (with_reducible exact Below.refl _ _) | (with_reducible assumption) | (with_reducible refine Below.next ?_ (by with_reducible assumption)) | (with_reducible refine Below.drew ?_) | (with_reducible refine Below.laid ?_ _) | (with_reducible refine Below.setCell ?_ ?_ _) | (with_reducible refine size_of ?_) | (with_reducible refine Nat.le_succ_of_le ?_) | go_size)), h1.keep ((Below.refl _ _).alloc (Nat.le_refl _) _), h2⟩
set_option maxHeartbeats 8000000 in
set_option maxRecDepth 100000 in
theorem alikeWorlds_walk (u v : Value) (s t : List Int) (th a b d x y : Int) (w : World) (hs : IsInts w u s) (ht : IsInts w v t) (hk : KindsOk w) (het : EtOk w) :
    Calls Tryz.prog 9 #[u, v, .agg #[.int .i64 th, .int .i64 a, .int .i64 b, .int .i64 d], .int .i64 x, .int .i64 y] w (Keeps (.bool true) w) := by
  have HK := Lib.hid hk
  have HET := Lib.hid het
  obtain ⟨A, cA, rfl, _⟩ := id hs
  obtain ⟨B, cB, rfl, _⟩ := id ht
  have HS := Lib.hid hs
  have HT := Lib.hid ht
  have HAS := Lib.hid (fun W (hW : Below w.heap.size w W) => alike_Same _ _ s t W (HS.out.keep hW) (HT.out.keep hW))
  have HAP := Lib.hid (fun W (hW : Below w.heap.size w W) => alike_Part _ _ s t W (HS.out.keep hW) (HT.out.keep hW))
  have HAQ := Lib.hid (fun W (hW : Below w.heap.size w W) => alike_Part _ _ t s W (HT.out.keep hW) (HS.out.keep hW))
  have HAA := Lib.hid (fun W (hW : Below w.heap.size w W) => alike_Apart _ _ s t W (HS.out.keep hW) (HT.out.keep hW))
  have HVS := Lib.hid (fun W (hW : Below w.heap.size w W) => term_Value _ s th a b d W (HS.out.keep hW))
  have HVT := Lib.hid (fun W (hW : Below w.heap.size w W) => term_Value _ t th a b d W (HT.out.keep hW))
  have HSW := Lib.hid (fun W (hW : Below w.heap.size w W) => alike_Swap _ s x y W (HS.out.keep hW))
  have HMS := Lib.hid (fun u v W (h1 : IsInts W u [0, 1, 6]) (h2 : IsInts W v [1, 0, 6]) => alike_Same u v [0, 1, 6] [1, 0, 6] W h1 h2)
  rw [Venn.meet_same.1, Venn.meet_same.2, errV_zero rfl] at HMS
  have HSU := Lib.hid (fun sa sc W (hW : Below w.heap.size w W) (ha : IsAtoms W sa (Venn.sameF s t).atoms) (hc : IsInts W sc (Venn.sameF s t).code) => model_Sure sa sc (Venn.sameF s t).atoms (Venn.sameF s t).code 1 W ha hc (HK.out.keep hW) (HET.out.keep hW))
  rw [show (⟨(Venn.sameF s t).atoms, (Venn.sameF s t).code⟩ : Venn.Form) = Venn.sameF s t from rfl] at HSU
  have HB0 := Lib.hid (Blk.new w 28 #[.int .i64 th, .int .i64 a, .int .i64 b, .int .i64 d])
  have hb0 : Below w.heap.size w (w.alloc (.cells #[.int .i64 th, .int .i64 a, .int .i64 b, .int .i64 d] 28)) := by (repeat' (first | (with_reducible exact Below.refl _ _) | (with_reducible assumption) | (with_reducible refine Below.next ?_ (by with_reducible assumption)) | (with_reducible refine Below.drew ?_) | (with_reducible refine Below.laid ?_ _) | (with_reducible refine Below.setCell ?_ ?_ _) | (with_reducible refine size_of ?_) | (with_reducible refine Nat.le_succ_of_le ?_) | go_size))
  clear hk het hs ht
  by_cases hc : Venn.chk2 s t = 0
  · have HP := Lib.hid (Venn.same_part hc)
    have HSS := Lib.hid (Venn.same_sure hc)
    obtain ⟨hcs, hct⟩ := Venn.chk2_zero hc
    rw [HSS.out.1, HSS.out.2, errV_zero rfl] at HSU
    have HW1 := Lib.hid (fun (h : Venn.sameV s t = true) (hw : Venn.worldChk ⟨th, a, b, d⟩ = 0) => Venn.same_world h hw)
    have HW2 := Lib.hid (fun (h : Venn.partV s t = true) (hw : Venn.worldChk ⟨th, a, b, d⟩ = 0) => Venn.part_world h hw)
    have HW3 := Lib.hid (fun (h : Venn.apartV s t = true) (hw : Venn.worldChk ⟨th, a, b, d⟩ = 0) => Venn.apart_world h hw)
    have HR1 := Lib.hid (fun (hw : Venn.worldChk ⟨th, a, b, d⟩ = 0) => Venn.termSet_right hw s)
    have HR2 := Lib.hid (fun (hw : Venn.worldChk ⟨th, a, b, d⟩ = 0) => Venn.termSet_right hw t)
    rw [hc, errV_zero rfl] at HAS HAP HAA
    rw [Venn.chk2_mk hct hcs, errV_zero rfl] at HAQ
    have ec1 : Venn.valueChk s ⟨th, a, b, d⟩ = Venn.worldChk ⟨th, a, b, d⟩ := by unfold Venn.valueChk; rw [if_pos hcs]
    have ec2 : Venn.valueChk t ⟨th, a, b, d⟩ = Venn.worldChk ⟨th, a, b, d⟩ := by unfold Venn.valueChk; rw [if_pos hct]
    have HV1 := Lib.hid (show Venn.valueV s ⟨th, a, b, d⟩ = if Venn.worldChk ⟨th, a, b, d⟩ = 0 then Venn.termSet s ⟨th, a, b, d⟩ else 0 by unfold Venn.valueV; rw [ec1])
    have HV2 := Lib.hid (show Venn.valueV t ⟨th, a, b, d⟩ = if Venn.worldChk ⟨th, a, b, d⟩ = 0 then Venn.termSet t ⟨th, a, b, d⟩ else 0 by unfold Venn.valueV; rw [ec2])
    rw [ec1] at HVS
    rw [ec2] at HVT
    simp only at HR1 HR2 HW2 HW3
    clear ec1 ec2 hc hcs hct HSS
    generalize Venn.sameV s t = SV at HAS HP HSU HW1
    generalize Venn.partV s t = PV at HAP HP HW2
    generalize Venn.partV t s = QV at HAQ HP
    generalize Venn.apartV s t = AV at HAA HW3
    generalize Venn.valueV s ⟨th, a, b, d⟩ = VS at HVS HV1
    generalize Venn.valueV t ⟨th, a, b, d⟩ = VT at HVT HV2
    generalize Venn.termSet s ⟨th, a, b, d⟩ = TS at HV1 HW1 HW2 HW3 HR1
    generalize Venn.termSet t ⟨th, a, b, d⟩ = TT at HV2 HW1 HW2 HW3 HR2
    generalize Venn.worldChk ⟨th, a, b, d⟩ = WC at HVS HVT HV1 HV2 HW1 HW2 HW3 HR1 HR2
    go_enter Tryz.func9, Tryz.ntmps9
    go_upto_region 1 with (fail)
    revert HB0 hb0
    generalize w.alloc (.cells #[.int .i64 th, .int .i64 a, .int .i64 b, .int .i64 d] 28) = w0
    intro HB0 hb0
    obtain ⟨m1, m2, m3⟩ := meet_at w0
    have M1 := Lib.hid m1
    have M2 := Lib.hid m2
    have M3 := Lib.hid m3
    clear m1 m2 m3
    go_wp2_with fail
    refine (HMS.out _ _ _ M2.out M3.out).mono ?_
    rintro e w1 ⟨rfl, hb1⟩
    have hq1 := Below.next hb0 (Below.next M1.out hb1)
    have HB1 := Lib.hid (HB0.out.keep (Below.next M1.out hb1))
    clear hb1 HB0 hb0 M1 M2 M3
    go_wp2_with fail
    refine (HAS.out _ hq1).mono ?_
    rintro e w2 ⟨rfl, hb2⟩
    have hq2 := Below.next hq1 hb2
    have HB2 := Lib.hid (HB1.out.keep hb2)
    clear hb2 HB1
    go_wp2_with fail
    refine (HAP.out _ hq2).mono ?_
    rintro e w3 ⟨rfl, hb3⟩
    have hq3 := Below.next hq2 hb3
    go_wp2_with fail
    refine (HAA.out _ hq3).mono ?_
    rintro e w4 ⟨rfl, hb4⟩
    have hq4 := Below.next hq3 hb4
    go_wp2_with fail
    refine (HAQ.out _ hq4).mono ?_
    rintro e w5 ⟨rfl, hb5⟩
    have hq5 := Below.next hq4 hb5
    have HB5 := Lib.hid (HB2.out.keep (Below.next hb3 (Below.next hb4 hb5)))
    clear hb3 hb4 hb5 HB2 hq2 hq3 hq4
    go_upto_region 10 with (fail)
    go_cut [85] (fun z wx => z = .bool false ∧ Below w.heap.size w wx ∧ Blk wx w.heap.size 28 #[.int .i64 th, .int .i64 a, .int .i64 b, .int .i64 d])
    case first =>
      clear HAS HAP HAQ HAA HSU HW1 HW2 HW3
      obtain rfl := HP.out
      cases PV <;> cases QV
      all_goals
        go_wp2
        go_meet
        case rel => exact ⟨rfl, hq5, HB5.out⟩
    case rest =>
    obtain ⟨rfl, hq6, hbk⟩ := hcut
    obtain ⟨w6, rfl⟩ : ∃ w6 : World, w6 = wc := ⟨_, rfl⟩
    have HB6 := Lib.hid hbk
    clear hbk HB5 hq5
    obtain ⟨c0, c1, c2, c3⟩ := HB6.out.cells4
    go_wp2_with fail
    refine (HVS.out _ hq6).mono ?_
    rintro e w7 ⟨rfl, hb7⟩
    have hq7 := Below.next hq6 hb7
    have HB7 := Lib.hid (HB6.out.keep hb7)
    clear c0 c1 c2 c3 hb7 HB6
    obtain ⟨c0, c1, c2, c3⟩ := HB7.out.cells4
    go_wp2_with fail
    refine (HVT.out _ hq7).mono ?_
    rintro e wk ⟨rfl, hb8⟩
    have hqk := Below.next hq7 hb8
    have HB8 := Lib.hid (HB7.out.keep hb8)
    clear c0 c1 c2 c3 hb8 HB7 hq6 hq7
    by_cases hw : WC = 0
    · rw [errV_zero hw]
      rw [if_pos hw] at HV1 HV2
      obtain rfl := HV1.out
      obtain rfl := HV2.out
      have HD7 := Lib.hid (fun W => ref_Do 7 th VS VT W (by omega) (HR1.out hw) (HR2.out hw))
      have HD6 := Lib.hid (fun W => ref_Do 6 th VS VT W (by omega) (HR1.out hw) (HR2.out hw))
      have HQ1 := Lib.hid (fun h => HW1.out h hw)
      have HQ2 := Lib.hid (fun h => HW2.out h hw)
      have HQ3 := Lib.hid (fun h => HW3.out h hw)
      clear hw HV1 HV2 HW1 HW2 HW3 HR1 HR2
      generalize Venn.setOf 7 th VS VT = D7 at HD7 HQ2
      generalize Venn.setOf 6 th VS VT = D6 at HD6 HQ3
      obtain ⟨c0, c1, c2, c3⟩ := HB8.out.cells4
      go_wp2_with fail
      refine (HD7.out _).mono ?_
      rintro e w' ⟨rfl, rfl⟩
      go_wp2_with fail
      refine (HD6.out _).mono ?_
      rintro e w' ⟨rfl, rfl⟩
      go_upto_region 17 with (fail)
      go_cut [135] (fun z wx => z = .bool false ∧ Below w.heap.size w wx)
      case first =>
        clear HAS HAP HAQ HAA HSU HVS HVT HP c0 c1 c2 c3
        have q1 : SV = false ∨ (SV = true ∧ (VS != VT) = false) := by
          cases SV
          · exact .inl rfl
          · exact .inr ⟨rfl, by rw [HQ1.out rfl]; simp⟩
        have q2 : PV = false ∨ (PV = true ∧ (D7 == 0) = true) := by
          cases PV
          · exact .inl rfl
          · exact .inr ⟨rfl, by rw [HQ2.out rfl]; rfl⟩
        have q3 : AV = false ∨ (AV = true ∧ (D6 == 0) = true) := by
          cases AV
          · exact .inl rfl
          · exact .inr ⟨rfl, by rw [HQ3.out rfl]; rfl⟩
        clear HQ1 HQ2 HQ3
        rcases q1 with rfl | ⟨rfl, q1⟩ <;> rcases q2 with rfl | ⟨rfl, q2⟩ <;> rcases q3 with rfl | ⟨rfl, q3⟩
        all_goals
          go_wp2
          go_meet
          case rel => exact ⟨rfl, hqk⟩
      case rest =>
      obtain ⟨rfl, hq8⟩ := hcut
      clear hqk HB8 c0 c1 c2 c3 HD6 HD7 HQ1 HQ2 HQ3
      obtain ⟨wk, rfl⟩ : ∃ wk : World, wk = wc := ⟨_, rfl⟩
      have hqk := hq8
      clear hq8
      go_upto_region 20 with (fail)
      obtain ⟨o1, o2, o3, o4⟩ := sameF_at wk A B s t cA cB (HS.out.keep hqk) (HT.out.keep hqk)
      revert o1 o2 o3 o4
      generalize (((wk.alloc (.cells #[.int .i64 2, .slice A s.length cA, .slice B t.length cB, .int .i64 0] 46)).alloc (.cells #[.int .i64 0] 3)).alloc (.cells #[.slice (some ⟨wk.heap.size, 0, none⟩) 1 1, .slice (some ⟨wk.heap.size + 1, 0, none⟩) 1 1] 25)) = wl
      intro o1 o2 o3 o4
      have hql := Below.next hqk o1
      have O2 := Lib.hid o2
      have O3 := Lib.hid o3
      have O4 := Lib.hid o4
      clear o1 o2 o3 o4
      have b0 := O2.out.cell 0
      have b1 := O2.out.cell 1
      simp at b0 b1
      go_wp2_with fail
      refine (HSU.out _ _ wl hql O3.out O4.out).mono ?_
      rintro e w9 ⟨rfl, hb9⟩
      have hq9 := Below.next hql hb9
      have hvv : (SV != SV) = false := by cases SV <;> rfl
      clear b0 b1 hb9 O2 O3 O4
      go_wp2_with fail
      refine (HSW.out _ hq9).mono ?_
      rintro e wa ⟨X, rfl, hba, hx⟩
      have hqa := Below.next hq9 hba
      by_cases hz : Venn.swapChk s x y = 0
      · obtain ⟨hz2, hz3⟩ := Venn.swap_twice hz
        rw [if_pos hz] at hx
        obtain ⟨XA, kX, rfl, _⟩ := id hx
        have HSX := Lib.hid (alike_Swap _ _ x y wa hx)
        rw [errV_zero hz]
        have HZ2 := Lib.hid hz2
        have HZ3 := Lib.hid hz3
        clear hz hz2 hz3 hx hba
        go_wp2_with fail
        refine (HSX.out).mono ?_
        rintro e wb ⟨Y, rfl, hbb, hy⟩
        rw [if_pos HZ2.out, HZ3.out] at hy
        rw [errV_zero HZ2.out]
        have hqb := Below.next hqa hbb
        have HSI := Lib.hid (same_Ints Y _ s s wb hy (HS.out.keep hqb))
        rw [beq_self_eq_true] at HSI
        obtain ⟨YA, kY, rfl, _⟩ := hy
        clear hbb
        go_wp2_with fail
        refine (HSI.out).mono ?_
        rintro e wc ⟨rfl, hbc⟩
        have hqc := Below.next hqb hbc
        go_wp2
        go_ret
        exact ⟨rfl, hqc⟩
      · rw [errV_ne hz]
        clear hz hx
        go_wp2
        go_ret
        exact ⟨rfl, hqa⟩
    · rw [errV_ne hw]
      clear hw HV1 HV2 HW1 HW2 HW3 HR1 HR2 HB8
      go_upto_region 20 with (fail)
      obtain ⟨o1, o2, o3, o4⟩ := sameF_at wk A B s t cA cB (HS.out.keep hqk) (HT.out.keep hqk)
      revert o1 o2 o3 o4
      generalize (((wk.alloc (.cells #[.int .i64 2, .slice A s.length cA, .slice B t.length cB, .int .i64 0] 46)).alloc (.cells #[.int .i64 0] 3)).alloc (.cells #[.slice (some ⟨wk.heap.size, 0, none⟩) 1 1, .slice (some ⟨wk.heap.size + 1, 0, none⟩) 1 1] 25)) = wl
      intro o1 o2 o3 o4
      have hql := Below.next hqk o1
      have O2 := Lib.hid o2
      have O3 := Lib.hid o3
      have O4 := Lib.hid o4
      clear o1 o2 o3 o4
      have b0 := O2.out.cell 0
      have b1 := O2.out.cell 1
      simp at b0 b1
      go_wp2_with fail
      refine (HSU.out _ _ wl hql O3.out O4.out).mono ?_
      rintro e w9 ⟨rfl, hb9⟩
      have hq9 := Below.next hql hb9
      have hvv : (SV != SV) = false := by cases SV <;> rfl
      clear b0 b1 hb9 O2 O3 O4
      go_wp2_with fail
      refine (HSW.out _ hq9).mono ?_
      rintro e wa ⟨X, rfl, hba, hx⟩
      have hqa := Below.next hq9 hba
      by_cases hz : Venn.swapChk s x y = 0
      · obtain ⟨hz2, hz3⟩ := Venn.swap_twice hz
        rw [if_pos hz] at hx
        obtain ⟨XA, kX, rfl, _⟩ := id hx
        have HSX := Lib.hid (alike_Swap _ _ x y wa hx)
        rw [errV_zero hz]
        have HZ2 := Lib.hid hz2
        have HZ3 := Lib.hid hz3
        clear hz hz2 hz3 hx hba
        go_wp2_with fail
        refine (HSX.out).mono ?_
        rintro e wb ⟨Y, rfl, hbb, hy⟩
        rw [if_pos HZ2.out, HZ3.out] at hy
        rw [errV_zero HZ2.out]
        have hqb := Below.next hqa hbb
        have HSI := Lib.hid (same_Ints Y _ s s wb hy (HS.out.keep hqb))
        rw [beq_self_eq_true] at HSI
        obtain ⟨YA, kY, rfl, _⟩ := hy
        clear hbb
        go_wp2_with fail
        refine (HSI.out).mono ?_
        rintro e wc ⟨rfl, hbc⟩
        have hqc := Below.next hqb hbc
        go_wp2
        go_ret
        exact ⟨rfl, hqc⟩
      · rw [errV_ne hz]
        clear hz hx
        go_wp2
        go_ret
        exact ⟨rfl, hqa⟩
  · have HNE := Lib.hid (errV_ne hc)
    rw [HNE.out] at HAS
    clear hc
    go_enter Tryz.func9, Tryz.ntmps9
    go_upto_region 1 with (fail)
    revert HB0 hb0
    generalize w.alloc (.cells #[.int .i64 th, .int .i64 a, .int .i64 b, .int .i64 d] 28) = w0
    intro HB0 hb0
    obtain ⟨m1, m2, m3⟩ := meet_at w0
    have M1 := Lib.hid m1
    have M2 := Lib.hid m2
    have M3 := Lib.hid m3
    clear m1 m2 m3
    go_wp2_with fail
    refine (HMS.out _ _ _ M2.out M3.out).mono ?_
    rintro e w1 ⟨rfl, hb1⟩
    have hq1 := Below.next hb0 (Below.next M1.out hb1)
    have HB1 := Lib.hid (HB0.out.keep (Below.next M1.out hb1))
    clear hb1 HB0 hb0 M1 M2 M3
    go_wp2_with fail
    refine (HAS.out _ hq1).mono ?_
    rintro e w2 ⟨rfl, hb2⟩
    have hq2 := Below.next hq1 hb2
    go_wp2
    go_ret
    exact ⟨rfl, hq2⟩
end Go.Proofs.YtpkleioabinkkaaGreatDoor
