/-
  THE WALK of vennlaw4.LogClash.
-/
import Derived.Test.YtkgfelbkoffaiaaDoorVennLog
import Derived.Test.YtkgfelbkoffaiaaDoorLogSayW
import Derived.Test.YtkgfelbkoffaiaaDoorLawF
namespace Go.Proofs.YtkgfelbkoffaiaaDoor
open Go.RowKit

set_option maxHeartbeats 8000000 in
set_option maxRecDepth 100000 in
theorem logClash_walk (what n : Int) (sv tv : Value) (s t : List Int) (u : Int) (w : World) (hs : IsInts w sv s) (ht : IsInts w tv t) (hk : KindsOk w) (het : EtOk w) (htab : TabOk w) :
    Calls Tryd.prog 5 #[.agg #[.int .i64 what, sv, tv, .int .i64 n], .int .i64 u] w (Keeps (.bool true) w) := by
  have HS := Lib.hid hs
  have HT := Lib.hid ht
  have HK := Lib.hid hk
  have HET := Lib.hid het
  have HTB := Lib.hid htab
  obtain ⟨SA, kS, rfl, _⟩ := hs
  obtain ⟨TA, kT, rfl, _⟩ := ht
  clear hk het htab
  have B0 := Lib.hid (Blk.new w 24 #[.int .i64 what, .slice SA s.length kS, .slice TA t.length kT, .int .i64 n])
  have hb0 : Below w.heap.size w (w.alloc (.cells #[.int .i64 what, .slice SA s.length kS, .slice TA t.length kT, .int .i64 n] 24)) := by (repeat' (first | (with_reducible exact Below.refl _ _) | (with_reducible assumption) | (with_reducible refine Below.next ?_ (by with_reducible assumption)) | (with_reducible refine Below.drew ?_) | (with_reducible refine Below.laid ?_ _) | (with_reducible refine Below.setCell ?_ ?_ _) | (with_reducible refine size_of ?_) | (with_reducible refine Nat.le_succ_of_le ?_) | go_size))
  cases hu : Venn.things u with
  | false =>
    have HN := Lib.hid (fun W => log_New_bad u W hu)
    have hor : u < 0 ∨ (¬ u < 0 ∧ 6 < u) := by
      by_cases h : u < 0
      · exact .inl h
      · refine .inr ⟨h, ?_⟩
        unfold Venn.things at hu
        simp at hu
        omega
    clear hu
    rcases hor with h1 | ⟨h1, h2⟩
    all_goals
      go_enter Tryd.func5, Tryd.ntmps5
      go_wp2_with fail
      refine (HN.out _).mono ?_
      rintro e w' ⟨rfl, rfl⟩
      go_wp2
      go_ret
      exact ⟨rfl, hb0⟩
  | true =>
    have HU := Lib.hid hu
    have HO0 := Lib.hid (Venn.open_nil hu)
    have HN := Lib.hid (log_New u (w.alloc (.cells #[.int .i64 what, .slice SA s.length kS, .slice TA t.length kT, .int .i64 n] 24)) hu)
    clear hu
    go_enter Tryd.func5, Tryd.ntmps5
    go_upto_region 1 with (fail)
    revert B0 hb0 HN
    generalize w.alloc (.cells #[.int .i64 what, .slice SA s.length kS, .slice TA t.length kT, .int .i64 n] 24) = w0
    intro B0 hb0 HN
    obtain ⟨j, hj⟩ : ∃ j, j = w0.heap.size := ⟨_, rfl⟩
    rw [← hj] at HN
    have HJ := Lib.hid (show w.heap.size < j by have := B0.out.lt; omega)
    have HJ0 := Lib.hid hj
    clear hj
    go_wp2_with fail
    refine (HN.out).mono ?_
    rintro e w1 ⟨rfl, hb1, hlog⟩
    rw [HJ0.out] at hb1
    have hq1 := Below.next hb0 hb1
    have B1 := Lib.hid (B0.out.keep hb1)
    have HS1 := Lib.hid (log_SayT j u [] ⟨#[]⟩ what n _ _ s t w1 hlog (HS.out.keep hq1) (HT.out.keep hq1) (HK.out.keep hq1) (HTB.out.keep hq1) (fun f hf => by cases hf) (by decide) HU.out (by decide))
    clear hb1 hlog B0 hb0 HN
    obtain ⟨a0, a1, a2, a3⟩ := B1.out.cells4
    go_wp2_with fail
    refine (HS1.out).mono ?_
    rintro e w2 ⟨E, rfl, hbt, hcase⟩
    have hq2 : Below w.heap.size w w2 := hq1.trans (hbt.below hq1.size (fun b h => by have := HJ.out; omega))
    have B2 := Lib.hid (B1.out.but hbt (by have := HJ.out; omega))
    clear a0 a1 a2 a3 hbt B1 HS1 hq1
    rcases hcase with ⟨hc, he, hlog⟩ | ⟨hc, hov, he, hlog⟩ | ⟨hc, hov, he, bs1, hbs1, hlog⟩
    · have HL2 := Lib.hid hlog
      have hne : E ≠ 0 := by rw [he]; exact hc
      clear hlog hc he
      rw [errV_ne hne]
      clear hne
      have HBY := Lib.hid (log_Bytes j u [] ⟨#[]⟩ w2 HL2.out)
      have HALL := Lib.hid (fun W (hW : Below w2.heap.size w2 W) => log_All j u [] ⟨#[]⟩ W (HL2.out.keep hW) (fun f hf => by cases hf) (by decide))
      have HOP := Lib.hid (fun W (hW : Below w2.heap.size w2 W) => log_Open j u [] ⟨#[]⟩ W (HL2.out.keep hW) (HK.out.keep (Below.next hq2 hW)) (fun f hf => by cases hf) HU.out)
      rw [HO0.out] at HOP
      go_wp2_with fail
      refine (HBY.out).mono ?_
      rintro e w' ⟨rfl, rfl⟩
      go_wp2_with fail
      refine (HALL.out _ (Below.refl _ _)).mono ?_
      rintro e w3 ⟨A3, c3, rfl, hb3⟩
      go_wp2_with fail
      refine (HOP.out _ hb3).mono ?_
      rintro e w4 ⟨rfl, hb4⟩
      go_wp2
      go_ret
      exact ⟨rfl, Below.next hq2 (Below.next hb3 hb4)⟩
    · have HL2 := Lib.hid hlog
      have hne : E ≠ 0 := by rw [he]; decide
      clear hlog hc hov he
      rw [errV_ne hne]
      clear hne
      have HBY := Lib.hid (log_Bytes j u [] ⟨#[]⟩ w2 HL2.out)
      have HALL := Lib.hid (fun W (hW : Below w2.heap.size w2 W) => log_All j u [] ⟨#[]⟩ W (HL2.out.keep hW) (fun f hf => by cases hf) (by decide))
      have HOP := Lib.hid (fun W (hW : Below w2.heap.size w2 W) => log_Open j u [] ⟨#[]⟩ W (HL2.out.keep hW) (HK.out.keep (Below.next hq2 hW)) (fun f hf => by cases hf) HU.out)
      rw [HO0.out] at HOP
      go_wp2_with fail
      refine (HBY.out).mono ?_
      rintro e w' ⟨rfl, rfl⟩
      go_wp2_with fail
      refine (HALL.out _ (Below.refl _ _)).mono ?_
      rintro e w3 ⟨A3, c3, rfl, hb3⟩
      go_wp2_with fail
      refine (HOP.out _ hb3).mono ?_
      rintro e w4 ⟨rfl, hb4⟩
      go_wp2
      go_ret
      exact ⟨rfl, Below.next hq2 (Below.next hb3 hb4)⟩
    · -- said
      subst he
      rw [errV_zero rfl]
      have HOT := Lib.hid (alone_ok hc true)
      have HC := Lib.hid hc
      have HOV := Lib.hid hov
      have HL2 := Lib.hid (show LogAt w2 j u [Venn.aloneF ⟨what, s, t, n⟩ true] bs1 from hlog)
      have h84 := textA_len hc
      have hz0 : (⟨#[]⟩ : ByteArray).size = 0 := rfl
      have HB84 := Lib.hid (show bs1.size ≤ 1000 ∧ 2 ≤ bs1.size by rw [hz0] at hbs1; omega)
      have HOKL := Lib.hid (show ∀ f ∈ [Venn.aloneF ⟨what, s, t, n⟩ true], Venn.formChk f = 0 from fun f hf => by rw [List.mem_singleton.1 hf]; exact HOT.out)
      have HBY := Lib.hid (log_Bytes j u _ bs1 w2 HL2.out)
      have HS2 := Lib.hid (log_SayF j u [Venn.aloneF ⟨what, s, t, n⟩ true] bs1 what n _ _ s t w2 HL2.out (HS.out.keep hq2) (HT.out.keep hq2) (HK.out.keep hq2) (HTB.out.keep hq2) HOKL.out (by simp) HU.out (by have := HB84.out.1; omega))
      have hk2 : (2 : Int) ≤ ((bs1.size : Nat) : Int) := by have := HB84.out.2; omega
      clear hlog hc hov hbs1 h84 hz0
      obtain ⟨a0, a1, a2, a3⟩ := B2.out.cells4
      go_wp2_with fail
      refine (HBY.out).mono ?_
      rintro e w' ⟨rfl, rfl⟩
      go_wp2_with fail
      refine (HS2.out).mono ?_
      rintro e w3 ⟨E3, rfl, hbt, hcase⟩
      have hq3 : Below w.heap.size w w3 := hq2.trans (hbt.below hq2.size (fun b h => by have := HJ.out; omega))
      have B3 := Lib.hid (B2.out.but hbt (by have := HJ.out; omega))
      obtain ⟨rfl, hlog⟩ : E3 = 7 ∧ LogAt w3 j u [Venn.aloneF ⟨what, s, t, n⟩ true] bs1 := by
        rcases hcase with ⟨hc, he, hlog⟩ | ⟨hc, hov, he, hlog⟩ | ⟨hc, hov, he, bs2, hbs2, hlog⟩
        · exact absurd HC.out hc
        · exact ⟨he, hlog⟩
        · rw [Venn.open_clash HOT.out u] at hov
          cases hov
      have HS3 := Lib.hid (log_SayT j u [Venn.aloneF ⟨what, s, t, n⟩ true] bs1 what n _ _ s t w3 hlog (HS.out.keep hq3) (HT.out.keep hq3) (HK.out.keep hq3) (HTB.out.keep hq3) HOKL.out (by simp) HU.out (by have := HB84.out.1; omega))
      rw [errV_ne (show (7 : Int) ≠ 0 by decide)]
      clear a0 a1 a2 a3 hbt hcase hlog HS2 HBY
      obtain ⟨a0, a1, a2, a3⟩ := B3.out.cells4
      go_wp2_with fail
      refine (HS3.out).mono ?_
      rintro e w4 ⟨E4, rfl, hbt, hcase⟩
      have hq4 : Below w.heap.size w w4 := hq3.trans (hbt.below hq3.size (fun b h => by have := HJ.out; omega))
      have hovs : Venn.openV ([Venn.aloneF ⟨what, s, t, n⟩ true] ++ [Venn.aloneF ⟨what, s, t, n⟩ true]) u = true := by rw [Venn.open_same]; exact HOV.out
      obtain ⟨rfl, bs2, hlog⟩ : E4 = 0 ∧ ∃ bs2, LogAt w4 j u ([Venn.aloneF ⟨what, s, t, n⟩ true] ++ [Venn.aloneF ⟨what, s, t, n⟩ true]) bs2 := by
        rcases hcase with ⟨hc, he, hlog⟩ | ⟨hc, hov, he, hlog⟩ | ⟨hc, hov, he, bs2, hbs2, hlog⟩
        · exact absurd HC.out hc
        · rw [hovs] at hov
          cases hov
        · exact ⟨he, bs2, hlog⟩
      rw [errV_zero rfl]
      have HL4 := Lib.hid hlog
      have HOK2 := Lib.hid (show ∀ f ∈ [Venn.aloneF ⟨what, s, t, n⟩ true] ++ [Venn.aloneF ⟨what, s, t, n⟩ true], Venn.formChk f = 0 from fun f hf => by
        rcases List.mem_append.1 hf with h | h
        · exact HOKL.out f h
        · exact HOKL.out f h)
      have HER := Lib.hid (fun W (hW : Below w.heap.size w W) => show Calls Tryd.prog 21 #[.iface 62 (.int .i64 7), .int .i64 7] W (Keeps (.bool true) W) by
        have h := vennsame_Error 7 7 W (HET.out.keep hW)
        rw [errV_ne (show (7 : Int) ≠ 0 by decide)] at h
        exact h)
      have HALL := Lib.hid (fun W (hW : Below w4.heap.size w4 W) => log_All j u _ bs2 W (HL4.out.keep hW) HOK2.out (by simp))
      have HOP := Lib.hid (fun W (hW : Below w4.heap.size w4 W) => log_Open j u _ bs2 W (HL4.out.keep hW) (HK.out.keep (Below.next hq4 hW)) HOK2.out HU.out)
      rw [hovs] at HOP
      clear a0 a1 a2 a3 hbt hcase hlog HS3 hovs
      go_wp2_with fail
      refine (HER.out _ hq4).mono ?_
      rintro e w5 ⟨rfl, hb5⟩
      go_wp2_with fail
      refine (HOP.out _ hb5).mono ?_
      rintro e w6 ⟨rfl, hb6⟩
      have hb46 := Below.next hb5 hb6
      go_wp2_with fail
      refine (HALL.out _ hb46).mono ?_
      rintro e w7 ⟨A7, c7, rfl, hb7⟩
      go_wp2
      go_ret
      exact ⟨rfl, Below.next hq4 (Below.next hb46 hb7)⟩
end Go.Proofs.YtkgfelbkoffaiaaDoor
