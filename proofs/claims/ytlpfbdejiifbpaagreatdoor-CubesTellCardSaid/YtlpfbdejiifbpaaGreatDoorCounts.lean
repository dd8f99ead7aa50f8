/-
  THE WALKS of fields.Check and fit.after.
-/
import Derived.Test.YtlpfbdejiifbpaaGreatDoorVennP1
import Derived.Test.YtlpfbdejiifbpaaGreatDoorSetsT
namespace Go.Proofs.YtlpfbdejiifbpaaGreatDoor
open Go.RowKit

theorem things_parts {u : Int} (h : Venn.things u = true) : 0 ≤ u ∧ u ≤ 6 := by simpa [Venn.things] using h
theorem things_of {u : Int} (h0 : 0 ≤ u) (h1 : u ≤ 6) : Venn.things u = true := by simp [Venn.things, h0, h1]

/-- What fit.after gives: counts, and whether there were any. -/
def afterV (n : List Int) : Value := match Venn.afterC n with
  | some m => .tuple #[.agg (m.map (Value.int .i64)).toArray, .bool true]
  | none => .tuple #[.agg (n.map (Value.int .i64)).toArray, .bool false]
set_option maxHeartbeats 2000000 in
set_option maxRecDepth 100000 in
theorem fit_after (n0 n1 n2 n3 n4 n5 n6 n7 : Int) (w : World) (hp : (0 ≤ n0 ∧ n0 ≤ 6) ∧ (0 ≤ n1 ∧ n1 ≤ 6) ∧ (0 ≤ n2 ∧ n2 ≤ 6) ∧ (0 ≤ n3 ∧ n3 ≤ 6) ∧ (0 ≤ n4 ∧ n4 ≤ 6) ∧ (0 ≤ n5 ∧ n5 ≤ 6) ∧ (0 ≤ n6 ∧ n6 ≤ 6) ∧ (0 ≤ n7 ∧ n7 ≤ 6)) :
    Calls Tryz.prog 97 #[.agg #[.int .i64 n0, .int .i64 n1, .int .i64 n2, .int .i64 n3, .int .i64 n4, .int .i64 n5, .int .i64 n6, .int .i64 n7]] w (Keeps (afterV [n0, n1, n2, n3, n4, n5, n6, n7]) w) := by
  obtain ⟨b0, b1, b2, b3, b4, b5, b6, b7⟩ := hp
  obtain ⟨E, hE⟩ : ∃ E, E = afterV [n0, n1, n2, n3, n4, n5, n6, n7] := ⟨_, rfl⟩
  rw [← hE]
  have HE := Lib.hid hE
  clear hE
  go_enter Tryz.func97, Tryz.ntmps97
  go_wp2
  refine wp_loop_rounds 8 ?_
  rw [rounds_succ]
  by_cases h7 : ¬ n7 = 0
  · have HF := Lib.hid (show E = .tuple #[.agg #[.int .i64 n0, .int .i64 n1, .int .i64 n2, .int .i64 n3, .int .i64 n4, .int .i64 n5, .int .i64 (n6 + 1), .int .i64 (n7 - 1)], .bool true] by
      rw [HE.out, afterV]
      simp [Venn.afterC, h7])
    have hb : (n7 == 0) = false := by simpa using h7
    have hw1 : IntKind.i64.wrap (n7 - 1) = n7 - 1 := IntWalk.i64_in _ (by omega)
    have hw2 : IntKind.i64.wrap (n6 + 1) = n6 + 1 := IntWalk.i64_in _ (by omega)
    clear h7
    go_wp2
    refine bodyPost_ret (v := .tuple #[.agg #[.int .i64 n0, .int .i64 n1, .int .i64 n2, .int .i64 n3, .int .i64 n4, .int .i64 n5, .int .i64 (n6 + 1), .int .i64 (n7 - 1)], .bool true]) (by simp [results, Tryz.results97, go_sem]) rfl ⟨congrArg Ending.returned HF.out.symm, by (repeat' (first | (with_reducible exact Below.refl _ _) | (with_reducible assumption) | (with_reducible refine Below.next ?_ (by with_reducible assumption)) | (with_reducible refine Below.drew ?_) | (with_reducible refine Below.laid ?_ _) | (with_reducible refine Below.setCell ?_ ?_ _) | (with_reducible refine size_of ?_) | (with_reducible refine Nat.le_succ_of_le ?_) | go_size))⟩
  replace h7 := Decidable.not_not.1 h7
  have hb7 : (n7 == 0) = true := by simpa using h7
  have z7 := Lib.hid h7
  clear h7
  go_wp2
  rw [rounds_succ]
  by_cases h6 : ¬ n6 = 0
  · have HF := Lib.hid (show E = .tuple #[.agg #[.int .i64 n0, .int .i64 n1, .int .i64 n2, .int .i64 n3, .int .i64 n4, .int .i64 (n5 + 1), .int .i64 0, .int .i64 (n6 - 1)], .bool true] by
      rw [HE.out, afterV]
      simp [Venn.afterC, z7.out, h6])
    have hb : (n6 == 0) = false := by simpa using h6
    have hw1 : IntKind.i64.wrap (n6 - 1) = n6 - 1 := IntWalk.i64_in _ (by omega)
    have hw2 : IntKind.i64.wrap (n5 + 1) = n5 + 1 := IntWalk.i64_in _ (by omega)
    clear h6
    go_wp2
    refine bodyPost_ret (v := .tuple #[.agg #[.int .i64 n0, .int .i64 n1, .int .i64 n2, .int .i64 n3, .int .i64 n4, .int .i64 (n5 + 1), .int .i64 0, .int .i64 (n6 - 1)], .bool true]) (by simp [results, Tryz.results97, go_sem, z7.out]) rfl ⟨congrArg Ending.returned HF.out.symm, by (repeat' (first | (with_reducible exact Below.refl _ _) | (with_reducible assumption) | (with_reducible refine Below.next ?_ (by with_reducible assumption)) | (with_reducible refine Below.drew ?_) | (with_reducible refine Below.laid ?_ _) | (with_reducible refine Below.setCell ?_ ?_ _) | (with_reducible refine size_of ?_) | (with_reducible refine Nat.le_succ_of_le ?_) | go_size))⟩
  replace h6 := Decidable.not_not.1 h6
  have hb6 : (n6 == 0) = true := by simpa using h6
  have z6 := Lib.hid h6
  clear h6
  go_wp2
  rw [rounds_succ]
  by_cases h5 : ¬ n5 = 0
  · have HF := Lib.hid (show E = .tuple #[.agg #[.int .i64 n0, .int .i64 n1, .int .i64 n2, .int .i64 n3, .int .i64 (n4 + 1), .int .i64 0, .int .i64 n6, .int .i64 (n5 - 1)], .bool true] by
      rw [HE.out, afterV]
      simp [Venn.afterC, z7.out, z6.out, h5])
    have hb : (n5 == 0) = false := by simpa using h5
    have hw1 : IntKind.i64.wrap (n5 - 1) = n5 - 1 := IntWalk.i64_in _ (by omega)
    have hw2 : IntKind.i64.wrap (n4 + 1) = n4 + 1 := IntWalk.i64_in _ (by omega)
    clear h5
    go_wp2
    refine bodyPost_ret (v := .tuple #[.agg #[.int .i64 n0, .int .i64 n1, .int .i64 n2, .int .i64 n3, .int .i64 (n4 + 1), .int .i64 0, .int .i64 n6, .int .i64 (n5 - 1)], .bool true]) (by simp [results, Tryz.results97, go_sem, z7.out, z6.out]) rfl ⟨congrArg Ending.returned HF.out.symm, by (repeat' (first | (with_reducible exact Below.refl _ _) | (with_reducible assumption) | (with_reducible refine Below.next ?_ (by with_reducible assumption)) | (with_reducible refine Below.drew ?_) | (with_reducible refine Below.laid ?_ _) | (with_reducible refine Below.setCell ?_ ?_ _) | (with_reducible refine size_of ?_) | (with_reducible refine Nat.le_succ_of_le ?_) | go_size))⟩
  replace h5 := Decidable.not_not.1 h5
  have hb5 : (n5 == 0) = true := by simpa using h5
  have z5 := Lib.hid h5
  clear h5
  go_wp2
  rw [rounds_succ]
  by_cases h4 : ¬ n4 = 0
  · have HF := Lib.hid (show E = .tuple #[.agg #[.int .i64 n0, .int .i64 n1, .int .i64 n2, .int .i64 (n3 + 1), .int .i64 0, .int .i64 n5, .int .i64 n6, .int .i64 (n4 - 1)], .bool true] by
      rw [HE.out, afterV]
      simp [Venn.afterC, z7.out, z6.out, z5.out, h4])
    have hb : (n4 == 0) = false := by simpa using h4
    have hw1 : IntKind.i64.wrap (n4 - 1) = n4 - 1 := IntWalk.i64_in _ (by omega)
    have hw2 : IntKind.i64.wrap (n3 + 1) = n3 + 1 := IntWalk.i64_in _ (by omega)
    clear h4
    go_wp2
    refine bodyPost_ret (v := .tuple #[.agg #[.int .i64 n0, .int .i64 n1, .int .i64 n2, .int .i64 (n3 + 1), .int .i64 0, .int .i64 n5, .int .i64 n6, .int .i64 (n4 - 1)], .bool true]) (by simp [results, Tryz.results97, go_sem, z7.out, z6.out, z5.out]) rfl ⟨congrArg Ending.returned HF.out.symm, by (repeat' (first | (with_reducible exact Below.refl _ _) | (with_reducible assumption) | (with_reducible refine Below.next ?_ (by with_reducible assumption)) | (with_reducible refine Below.drew ?_) | (with_reducible refine Below.laid ?_ _) | (with_reducible refine Below.setCell ?_ ?_ _) | (with_reducible refine size_of ?_) | (with_reducible refine Nat.le_succ_of_le ?_) | go_size))⟩
  replace h4 := Decidable.not_not.1 h4
  have hb4 : (n4 == 0) = true := by simpa using h4
  have z4 := Lib.hid h4
  clear h4
  go_wp2
  rw [rounds_succ]
  by_cases h3 : ¬ n3 = 0
  · have HF := Lib.hid (show E = .tuple #[.agg #[.int .i64 n0, .int .i64 n1, .int .i64 (n2 + 1), .int .i64 0, .int .i64 n4, .int .i64 n5, .int .i64 n6, .int .i64 (n3 - 1)], .bool true] by
      rw [HE.out, afterV]
      simp [Venn.afterC, z7.out, z6.out, z5.out, z4.out, h3])
    have hb : (n3 == 0) = false := by simpa using h3
    have hw1 : IntKind.i64.wrap (n3 - 1) = n3 - 1 := IntWalk.i64_in _ (by omega)
    have hw2 : IntKind.i64.wrap (n2 + 1) = n2 + 1 := IntWalk.i64_in _ (by omega)
    clear h3
    go_wp2
    refine bodyPost_ret (v := .tuple #[.agg #[.int .i64 n0, .int .i64 n1, .int .i64 (n2 + 1), .int .i64 0, .int .i64 n4, .int .i64 n5, .int .i64 n6, .int .i64 (n3 - 1)], .bool true]) (by simp [results, Tryz.results97, go_sem, z7.out, z6.out, z5.out, z4.out]) rfl ⟨congrArg Ending.returned HF.out.symm, by (repeat' (first | (with_reducible exact Below.refl _ _) | (with_reducible assumption) | (with_reducible refine Below.next ?_ (by with_reducible assumption)) | (with_reducible refine Below.drew ?_) | (with_reducible refine Below.laid ?_ _) | (with_reducible refine Below.setCell ?_ ?_ _) | (with_reducible refine size_of ?_) | (with_reducible refine Nat.le_succ_of_le ?_) | go_size))⟩
  replace h3 := Decidable.not_not.1 h3
  have hb3 : (n3 == 0) = true := by simpa using h3
  have z3 := Lib.hid h3
  clear h3
  go_wp2
  rw [rounds_succ]
  by_cases h2 : ¬ n2 = 0
  · have HF := Lib.hid (show E = .tuple #[.agg #[.int .i64 n0, .int .i64 (n1 + 1), .int .i64 0, .int .i64 n3, .int .i64 n4, .int .i64 n5, .int .i64 n6, .int .i64 (n2 - 1)], .bool true] by
      rw [HE.out, afterV]
      simp [Venn.afterC, z7.out, z6.out, z5.out, z4.out, z3.out, h2])
    have hb : (n2 == 0) = false := by simpa using h2
    have hw1 : IntKind.i64.wrap (n2 - 1) = n2 - 1 := IntWalk.i64_in _ (by omega)
    have hw2 : IntKind.i64.wrap (n1 + 1) = n1 + 1 := IntWalk.i64_in _ (by omega)
    clear h2
    go_wp2
    refine bodyPost_ret (v := .tuple #[.agg #[.int .i64 n0, .int .i64 (n1 + 1), .int .i64 0, .int .i64 n3, .int .i64 n4, .int .i64 n5, .int .i64 n6, .int .i64 (n2 - 1)], .bool true]) (by simp [results, Tryz.results97, go_sem, z7.out, z6.out, z5.out, z4.out, z3.out]) rfl ⟨congrArg Ending.returned HF.out.symm, by (repeat' (first | (with_reducible exact Below.refl _ _) | (with_reducible assumption) | (with_reducible refine Below.next ?_ (by with_reducible assumption)) | (with_reducible refine Below.drew ?_) | (with_reducible refine Below.laid ?_ _) | (with_reducible refine Below.setCell ?_ ?_ _) | (with_reducible refine size_of ?_) | (with_reducible refine Nat.le_succ_of_le ?_) | go_size))⟩
  replace h2 := Decidable.not_not.1 h2
  have hb2 : (n2 == 0) = true := by simpa using h2
  have z2 := Lib.hid h2
  clear h2
  go_wp2
  rw [rounds_succ]
  by_cases h1 : ¬ n1 = 0
  · have HF := Lib.hid (show E = .tuple #[.agg #[.int .i64 (n0 + 1), .int .i64 0, .int .i64 n2, .int .i64 n3, .int .i64 n4, .int .i64 n5, .int .i64 n6, .int .i64 (n1 - 1)], .bool true] by
      rw [HE.out, afterV]
      simp [Venn.afterC, z7.out, z6.out, z5.out, z4.out, z3.out, z2.out, h1])
    have hb : (n1 == 0) = false := by simpa using h1
    have hw1 : IntKind.i64.wrap (n1 - 1) = n1 - 1 := IntWalk.i64_in _ (by omega)
    have hw2 : IntKind.i64.wrap (n0 + 1) = n0 + 1 := IntWalk.i64_in _ (by omega)
    clear h1
    go_wp2
    refine bodyPost_ret (v := .tuple #[.agg #[.int .i64 (n0 + 1), .int .i64 0, .int .i64 n2, .int .i64 n3, .int .i64 n4, .int .i64 n5, .int .i64 n6, .int .i64 (n1 - 1)], .bool true]) (by simp [results, Tryz.results97, go_sem, z7.out, z6.out, z5.out, z4.out, z3.out, z2.out]) rfl ⟨congrArg Ending.returned HF.out.symm, by (repeat' (first | (with_reducible exact Below.refl _ _) | (with_reducible assumption) | (with_reducible refine Below.next ?_ (by with_reducible assumption)) | (with_reducible refine Below.drew ?_) | (with_reducible refine Below.laid ?_ _) | (with_reducible refine Below.setCell ?_ ?_ _) | (with_reducible refine size_of ?_) | (with_reducible refine Nat.le_succ_of_le ?_) | go_size))⟩
  replace h1 := Decidable.not_not.1 h1
  have hb1 : (n1 == 0) = true := by simpa using h1
  have z1 := Lib.hid h1
  clear h1
  go_wp2
  rw [rounds_succ]
  have HF := Lib.hid (show E = .tuple #[.agg #[.int .i64 n0, .int .i64 n1, .int .i64 n2, .int .i64 n3, .int .i64 n4, .int .i64 n5, .int .i64 n6, .int .i64 n7], .bool false] by
    rw [HE.out, afterV]
    simp [Venn.afterC, z1.out, z2.out, z3.out, z4.out, z5.out, z6.out, z7.out])
  go_wp2
  refine bodyPost_ret (v := .tuple #[.agg #[.int .i64 n0, .int .i64 n1, .int .i64 n2, .int .i64 n3, .int .i64 n4, .int .i64 n5, .int .i64 n6, .int .i64 n7], .bool false]) (by simp [results, Tryz.results97, go_sem]) rfl ⟨congrArg Ending.returned HF.out.symm, by (repeat' (first | (with_reducible exact Below.refl _ _) | (with_reducible assumption) | (with_reducible refine Below.next ?_ (by with_reducible assumption)) | (with_reducible refine Below.drew ?_) | (with_reducible refine Below.laid ?_ _) | (with_reducible refine Below.setCell ?_ ?_ _) | (with_reducible refine size_of ?_) | (with_reducible refine Nat.le_succ_of_le ?_) | go_size))⟩
end Go.Proofs.YtlpfbdejiifbpaaGreatDoor
