/-
  THE WALK of vennlaw4.TextLines.
-/
import Derived.Test.YtkgfelbkoffaiaaGreatDoorVennLines
import Derived.Test.YtkgfelbkoffaiaaGreatDoorParse0
import Derived.Test.YtkgfelbkoffaiaaGreatDoorRead
import Derived.Test.YtkgfelbkoffaiaaGreatDoorLawF
namespace Go.Proofs.YtkgfelbkoffaiaaGreatDoor
open Go.RowKit

set_option maxHeartbeats 8000000 in
set_option maxRecDepth 100000 in
theorem textLines_walk (sa sc : Value) (l : List Venn.Atom) (c : List Int) (w : World) (ha : IsAtoms w sa l) (hc : IsInts w sc c) (hk : KindsOk w) (het : EtOk w) (htab : TabOk w) (hwo : WordsOk w) (hmx : MaxOk w) :
    Calls Tryz.prog 6 #[.agg #[sa, sc]] w (Keeps (.bool true) w) := by
  have HA := Lib.hid ha
  have HC := Lib.hid hc
  have HK := Lib.hid hk
  have HET := Lib.hid het
  have HTB := Lib.hid htab
  have HWO := Lib.hid hwo
  have HMX := Lib.hid hmx
  obtain ⟨A, cA, rfl, _⟩ := ha
  obtain ⟨C, cC, rfl, _⟩ := hc
  have HPR := Lib.hid (fun W (hW : Below w.heap.size w W) => text_Print _ _ l c W (HA.out.keep hW) (HC.out.keep hW) (HK.out.keep hW) (HTB.out.keep hW) (HWO.out.keep hW))
  have HB0 := Lib.hid (Blk.new w 25 #[.slice A l.length cA, .slice C c.length cC])
  have hb0 : Below w.heap.size w (w.alloc (.cells #[.slice A l.length cA, .slice C c.length cC] 25)) := by (repeat' (first | (with_reducible exact Below.refl _ _) | (with_reducible assumption) | (with_reducible refine Below.next ?_ (by with_reducible assumption)) | (with_reducible refine Below.drew ?_) | (with_reducible refine Below.laid ?_ _) | (with_reducible refine Below.setCell ?_ ?_ _) | (with_reducible refine size_of ?_) | (with_reducible refine Nat.le_succ_of_le ?_) | go_size))
  clear hk het htab hwo hmx
  have b0 := (HB0.out).cell 0
  have b1 := (HB0.out).cell 1
  simp at b0 b1
  by_cases hf : Venn.formChk ⟨l, c⟩ = 0
  · obtain ⟨hct, hle⟩ := print_count hf
    have HPV := Lib.hid (show printF ⟨l, c⟩ = .tuple #[.string ⟨(printB ⟨l, c⟩).toArray⟩, .nilIface] by unfold printF; rw [if_pos hf])
    rw [HPV.out] at HPR
    have HSZ := Lib.hid (show (⟨(printB ⟨l, c⟩).toArray⟩ : ByteArray).size = (printB ⟨l, c⟩).length by show (printB ⟨l, c⟩).toArray.size = _; simp)
    have HCT := Lib.hid (show (⟨(printB ⟨l, c⟩).toArray⟩ : ByteArray).data.toList.count 10 = l.length + 1 from hct)
    have HLE := Lib.hid (show (⟨(printB ⟨l, c⟩).toArray⟩ : ByteArray).size ≤ 1000 by rw [HSZ.out]; exact hle)
    have HLL := Lib.hid (show (⟨(printB ⟨l, c⟩).toArray⟩ : ByteArray).data.toList.length = (⟨(printB ⟨l, c⟩).toArray⟩ : ByteArray).size by rw [HSZ.out])
    clear hf hct hle HPV HSZ
    generalize (⟨(printB ⟨l, c⟩).toArray⟩ : ByteArray) = bs at HPR HCT HLE HLL
    go_enter Tryz.func6, Tryz.ntmps6
    go_wp2_with fail
    refine (HPR.out _ hb0).mono ?_
    rintro e w1 ⟨rfl, hb1⟩
    have hq1 := Below.next hb0 hb1
    have HB1 := Lib.hid (HB0.out.keep hb1)
    clear b0 b1 hb1 HB0 hb0
    have b0 := (HB1.out).cell 0
    simp at b0
    go_wp2
    go_loop [7, 8] (fun n i => ∃ k : Nat, k ≤ bs.size ∧ i = .int .i64 k ∧ n = .int .i64 ((((bs.data.toList.take k).count 10 : Nat)) : Int)) (fun _ i => bs.size - (intOf i).toNat)
    case atStart => exact ⟨0, Nat.zero_le _, rfl, rfl⟩
    case round =>
      obtain ⟨k, hk, rfl, rfl⟩ := hrel
      have hle := HLE.out
      by_cases hlt : k < bs.size
      · have hk1 : (k : Int) < (bs.size : Int) := by omega
        have hk0 : (0 : Int) ≤ (k : Int) := by omega
        have hki : IntKind.i64.wrap ((k : Int) + 1) = (k : Int) + 1 := IntWalk.i64_in _ (by omega)
        have HTK := Lib.hid (show bs.data.toList.take (k + 1) = bs.data.toList.take k ++ [bs[k]] by
          have hd := drop_bytes bs k hlt
          rw [List.take_add_one]
          have : bs.data.toList[k]? = some bs[k] := by
            have h0 : (bs.data.toList.drop k)[0]? = some bs[k] := by rw [hd]; rfl
            rwa [List.getElem?_drop, Nat.add_zero] at h0
          rw [this]
          rfl)
        have hcle : (bs.data.toList.take k).count 10 ≤ 1000 := by
          have h1 := List.count_le_length (a := (10 : UInt8)) (l := bs.data.toList.take k)
          have h2 := List.length_take_le k bs.data.toList
          omega
        generalize (bs.data.toList.take k) = PR at HTK hcle ⊢
        have hwc : IntKind.i64.wrap (((PR.count 10 : Nat) : Int) + 1) = ((PR.count 10 : Nat) : Int) + 1 := IntWalk.i64_in _ (by omega)
        by_cases hb : bs[k] = 10
        · have hbt : ((((bs[k]).toNat : Nat) : Int) == 10) = true := by rw [hb]; rfl
          have HCN := Lib.hid (show (bs.data.toList.take (k + 1)).count 10 = PR.count 10 + 1 by rw [HTK.out, List.count_append, hb]; rfl)
          clear hb HTK
          go_wp2
          go_round
          case rel => exact ⟨k + 1, by omega, by go_num, by rw [HCN.out]; go_num⟩
          case measure => simp [intOf]; omega
        · have hbt : ((((bs[k]).toNat : Nat) : Int) == 10) = false := by
            apply beq_eq_false_iff_ne.2
            intro h
            apply hb
            apply UInt8.toNat_inj.1
            show bs[k].toNat = 10
            omega
          have HCN := Lib.hid (show (bs.data.toList.take (k + 1)).count 10 = PR.count 10 by
            rw [HTK.out, List.count_append, List.count_cons, List.count_nil]
            have : (bs[k] == 10) = false := beq_eq_false_iff_ne.2 hb
            rw [this]
            rfl)
          clear hb HTK hwc
          go_wp2
          go_round
          case rel => exact ⟨k + 1, by omega, by go_num, by rw [HCN.out]⟩
          case measure => simp [intOf]; omega
      · have hk' : k = bs.size := by omega
        have HN := Lib.hid (show ((((bs.data.toList.take k).count 10 : Nat)) : Int) = (l.length : Int) + 1 by
          rw [hk', List.take_of_length_le (by rw [HLL.out]; exact Nat.le_refl _), HCT.out]
          omega)
        rw [HN.out]
        have hk1 : ¬ (k : Int) < (bs.size : Int) := by omega
        have hll : l.length ≤ 1000 := by
          have h1 := List.count_le_length (a := (10 : UInt8)) (l := bs.data.toList)
          have h2 := HCT.out
          have h3 := HLL.out
          omega
        have hwl : IntKind.i64.wrap ((l.length : Int) + 1) = (l.length : Int) + 1 := IntWalk.i64_in _ (by omega)
        clear hk'
        go_wp2
        go_ret
        exact ⟨by simp, hq1⟩
  · have HPV := Lib.hid (show printF ⟨l, c⟩ = .tuple #[.string ⟨#[]⟩, .iface 80 (.int .i64 (Venn.formChk ⟨l, c⟩))] by unfold printF; rw [if_neg hf, errV_ne hf])
    rw [HPV.out] at HPR
    have HER := Lib.hid (fun W (hW : Below w.heap.size w W) => show Calls Tryz.prog 12 #[.iface 80 (.int .i64 5), .int .i64 5] W (Keeps (.bool true) W) by
      have h := vennsame_Error 5 5 W (HET.out.keep hW)
      rw [errV_ne (show (5 : Int) ≠ 0 by decide)] at h
      exact h)
    clear hf HPV
    go_enter Tryz.func6, Tryz.ntmps6
    go_wp2_with fail
    refine (HPR.out _ hb0).mono ?_
    rintro e w1 ⟨rfl, hb1⟩
    have hq1 := Below.next hb0 hb1
    have HP0 := Lib.hid (text_Parse0 w1 (HWO.out.keep hq1) (HMX.out.keep hq1) (HK.out.keep hq1))
    clear b0 b1
    go_wp2_with fail
    refine (HP0.out).mono ?_
    rintro e w2 ⟨rfl, hb2⟩
    have hal : Below w2.heap.size w2 (w2.alloc (.cells #[.slice none 0 0, .slice none 0 0] 25)) := by have w := w2; (repeat' (first | (with_reducible exact Below.refl _ _) | (with_reducible assumption) | (with_reducible refine Below.next ?_ (by with_reducible assumption)) | (with_reducible refine Below.drew ?_) | (with_reducible refine Below.laid ?_ _) | (with_reducible refine Below.setCell ?_ ?_ _) | (with_reducible refine size_of ?_) | (with_reducible refine Nat.le_succ_of_le ?_) | go_size))
    have hq3 := Below.next hq1 (Below.next hb2 hal)
    go_wp2_with fail
    refine (HER.out _ hq3).mono ?_
    rintro e w4 ⟨rfl, hb4⟩
    go_wp2
    go_ret
    exact ⟨rfl, Below.next hq3 hb4⟩
end Go.Proofs.YtkgfelbkoffaiaaGreatDoor
