/-
  THE WALK of fields.Count.
-/
import Derived.Test.YtnjamgmaclmlpaaDoorFields
import Derived.Test.YtnjamgmaclmlpaaDoorSetsT
import Derived.Test.YtnjamgmaclmlpaaDoorRefFields
namespace Venn
/-- So many things of a term, in the fields ahead of k. -/
def countTo (t l : List Int) : Nat → Int
  | 0 => 0
  | k + 1 => countTo t l k + lies t k * l.getD k 0
def countChk (t l : List Int) : Int := if termChk t = 0 then countsChk l else termChk t
def countV (t l : List Int) : Int := if countChk t l = 0 then countTo t l 8 else 0
end Venn
namespace Go.Proofs.YtnjamgmaclmlpaaDoor
open Go.RowKit

theorem and_mask : ∀ (m : Fin 256) (f : Fin 8), bits .and .i64 (((m.val : Nat) : Int) / 2 ^ f.val) 1 = Venn.bitI ((m.val : Nat) : Int) f.val := by decide +kernel
theorem and_lies (t : List Int) {f : Nat} (hf : f < 8) : bits .and .i64 (Venn.mask t / 2 ^ f) 1 = Venn.lies t f := by
  obtain ⟨h0, h1⟩ := Venn.mask_range t
  rw [← Venn.bitI_mask t f hf]
  obtain ⟨m, hm⟩ := Int.eq_ofNat_of_zero_le h0
  rw [hm]
  exact and_mask ⟨m, by omega⟩ ⟨f, hf⟩

set_option maxHeartbeats 2000000 in
set_option maxRecDepth 100000 in
theorem fields_Count (v : Value) (t : List Int) (n0 n1 n2 n3 n4 n5 n6 n7 : Int) (w : World) (h : IsInts w v t) :
    Calls Tryd.prog 37 #[v, .agg #[.int .i64 n0, .int .i64 n1, .int .i64 n2, .int .i64 n3, .int .i64 n4, .int .i64 n5, .int .i64 n6, .int .i64 n7]] w
      (Keeps (.tuple #[.int .i64 (Venn.countV t [n0, n1, n2, n3, n4, n5, n6, n7]), errV (Venn.countChk t [n0, n1, n2, n3, n4, n5, n6, n7])]) w) := by
  obtain ⟨A, cp, rfl, hrest⟩ := h
  have HI := Lib.hid (show IsInts w (.slice A t.length cp) t from ⟨A, cp, rfl, hrest⟩)
  clear hrest
  by_cases h1 : ¬ Venn.termChk t = 0
  · have HX := Lib.hid (errV_ne h1)
    have hc : Venn.countChk t [n0, n1, n2, n3, n4, n5, n6, n7] = Venn.termChk t := if_neg h1
    rw [Venn.countV, if_neg (by rw [hc]; exact h1), hc, HX.out]
    clear h1 hc
    go_enter Tryd.func37, Tryd.ntmps37
    go_wp2_with (go_at_call 33; refine (term_Check _ t _ (HI.out.keep (by (repeat' (first | (with_reducible exact Below.refl _ _) | (with_reducible assumption) | (with_reducible refine Below.next ?_ (by with_reducible assumption)) | (with_reducible refine Below.drew ?_) | (with_reducible refine Below.laid ?_ _) | (with_reducible refine Below.setCell ?_ ?_ _) | (with_reducible refine size_of ?_) | (with_reducible refine Nat.le_succ_of_le ?_) | go_size))))).mono ?_; rintro e w' ⟨rfl, rfl⟩; rw [HX.out])
    go_ret2
    exact ⟨rfl, by (repeat' (first | (with_reducible exact Below.refl _ _) | (with_reducible assumption) | (with_reducible refine Below.next ?_ (by with_reducible assumption)) | (with_reducible refine Below.drew ?_) | (with_reducible refine Below.laid ?_ _) | (with_reducible refine Below.setCell ?_ ?_ _) | (with_reducible refine size_of ?_) | (with_reducible refine Nat.le_succ_of_le ?_) | go_size))⟩
  replace h1 := Decidable.not_not.1 h1
  have HX := Lib.hid (errV_zero h1)
  by_cases h2 : ¬ Venn.countsChk [n0, n1, n2, n3, n4, n5, n6, n7] = 0
  · have HY := Lib.hid (errV_ne h2)
    have hc : Venn.countChk t [n0, n1, n2, n3, n4, n5, n6, n7] = Venn.countsChk [n0, n1, n2, n3, n4, n5, n6, n7] := if_pos h1
    rw [Venn.countV, if_neg (by rw [hc]; exact h2), hc, HY.out]
    clear h1 h2 hc
    go_enter Tryd.func37, Tryd.ntmps37
    go_wp2_with (first
      | (go_at_call 33; refine (term_Check _ t _ (HI.out.keep (by (repeat' (first | (with_reducible exact Below.refl _ _) | (with_reducible assumption) | (with_reducible refine Below.next ?_ (by with_reducible assumption)) | (with_reducible refine Below.drew ?_) | (with_reducible refine Below.laid ?_ _) | (with_reducible refine Below.setCell ?_ ?_ _) | (with_reducible refine size_of ?_) | (with_reducible refine Nat.le_succ_of_le ?_) | go_size))))).mono ?_; rintro e w' ⟨rfl, rfl⟩; rw [HX.out])
      | (go_at_call 59; refine (fields_Check _ _ _ _ _ _ _ _ _).mono ?_; rintro e w1 ⟨rfl, hb1⟩; rw [HY.out]))
    go_ret2
    exact ⟨rfl, by (repeat' (first | (with_reducible exact Below.refl _ _) | (with_reducible assumption) | (with_reducible refine Below.next ?_ (by with_reducible assumption)) | (with_reducible refine Below.drew ?_) | (with_reducible refine Below.laid ?_ _) | (with_reducible refine Below.setCell ?_ ?_ _) | (with_reducible refine size_of ?_) | (with_reducible refine Nat.le_succ_of_le ?_) | go_size))⟩
  replace h2 := Decidable.not_not.1 h2
  have HY := Lib.hid (errV_zero h2)
  have HT := Lib.hid h1
  obtain ⟨hp, hs⟩ := counts_parts h2
  have hc : Venn.countChk t [n0, n1, n2, n3, n4, n5, n6, n7] = 0 := by rw [Venn.countChk, if_pos h1, h2]
  rw [Venn.countV, if_pos hc, hc, errV_zero rfl]
  clear h1 h2 hc
  generalize hl : [n0, n1, n2, n3, n4, n5, n6, n7] = l at hp hs ⊢
  have hidx : ∀ (k : Nat) (W : World), k < 8 → (Instr.index 23 (.agg #[.int .i64 n0, .int .i64 n1, .int .i64 n2, .int .i64 n3, .int .i64 n4, .int .i64 n5, .int .i64 n6, .int .i64 n7]) (.int .i64 (k : Int))).run Tryd.prog W = .ok (.int .i64 (l[k]?.getD 0)) W := by
    intro k W hk
    subst hl
    exact idx8 _ _ _ _ _ _ _ _ k W hk
  have hle : ∀ k, 0 ≤ l.getD k 0 ∧ l.getD k 0 ≤ 6 := by
    intro k
    by_cases hk : k < l.length
    · have hm := List.getElem_mem hk
      have h1 := hp _ hm
      have h2 := Venn.le_sum l hp _ hm
      rw [List.getD_eq_getElem?_getD, List.getElem?_eq_getElem hk, Option.getD_some]
      omega
    · rw [List.getD_eq_getElem?_getD, List.getElem?_eq_none (by omega), Option.getD_none]; omega
  have HID := Lib.hid hidx
  have HLE := Lib.hid hle
  obtain ⟨E, hE⟩ : ∃ E, E = Venn.countTo t l 8 := ⟨_, rfl⟩
  rw [← hE]
  have HE := Lib.hid hE
  have HAL := Lib.hid (fun (f : Nat) (hf : f < 8) => and_lies t hf)
  have HB8 : ∃ bx : Array Value, bx = #[.int .i64 n0, .int .i64 n1, .int .i64 n2, .int .i64 n3, .int .i64 n4, .int .i64 n5, .int .i64 n6, .int .i64 n7] := ⟨_, rfl⟩
  clear hl hidx hp hs hle hE HB8
  generalize hM : Venn.mask t = M at HAL
  have HM := Lib.hid hM
  clear hM
  go_enter Tryd.func37, Tryd.ntmps37
  go_wp2_with (first
    | (go_at_call 33; refine (term_Check _ t _ (HI.out.keep (by (repeat' (first | (with_reducible exact Below.refl _ _) | (with_reducible assumption) | (with_reducible refine Below.next ?_ (by with_reducible assumption)) | (with_reducible refine Below.drew ?_) | (with_reducible refine Below.laid ?_ _) | (with_reducible refine Below.setCell ?_ ?_ _) | (with_reducible refine size_of ?_) | (with_reducible refine Nat.le_succ_of_le ?_) | go_size))))).mono ?_; rintro e w' ⟨rfl, rfl⟩; rw [HX.out])
    | (go_at_call 59; refine (fields_Check _ _ _ _ _ _ _ _ _).mono ?_; rintro e w1 ⟨rfl, hb1⟩; rw [HY.out]; have BN := (Blk.new w 23 #[.int .i64 n0, .int .i64 n1, .int .i64 n2, .int .i64 n3, .int .i64 n4, .int .i64 n5, .int .i64 n6, .int .i64 n7]).keep hb1)
    | (go_at_call 80; refine (fields_Where _ t _ (HI.out.keep (by (repeat' (first | (with_reducible exact Below.refl _ _) | (with_reducible assumption) | (with_reducible refine Below.next ?_ (by with_reducible assumption)) | (with_reducible refine Below.drew ?_) | (with_reducible refine Below.laid ?_ _) | (with_reducible refine Below.setCell ?_ ?_ _) | (with_reducible refine size_of ?_) | (with_reducible refine Nat.le_succ_of_le ?_) | go_size)))) HT.out).mono ?_; rintro e w2 ⟨rfl, hb2⟩; rw [HM.out]; obtain ⟨⟨c0, c1, c2, c3, c4, c5, c6, c7⟩, _⟩ := (BN.keep hb2).cells8))
  go_loopw [8, 25] (fun s i wr => ∃ k : Nat, k ≤ 8 ∧ i = .int .i64 k ∧ s = .int .i64 (Venn.countTo t l k) ∧ (0 ≤ Venn.countTo t l k ∧ Venn.countTo t l k ≤ 6 * k) ∧ Below w.heap.size w wr) (fun _ i _ => 8 - (intOf i).toNat)
  case atStart => exact ⟨0, by omega, rfl, rfl, by simp [Venn.countTo], by (repeat' (first | (with_reducible exact Below.refl _ _) | (with_reducible assumption) | (with_reducible refine Below.next ?_ (by with_reducible assumption)) | (with_reducible refine Below.drew ?_) | (with_reducible refine Below.laid ?_ _) | (with_reducible refine Below.setCell ?_ ?_ _) | (with_reducible refine size_of ?_) | (with_reducible refine Nat.le_succ_of_le ?_) | go_size))⟩
  case round =>
    obtain ⟨k, hk, rfl, rfl, hr, hb⟩ := hrel
    obtain ⟨wo, rfl⟩ : ∃ wo : World, wo = wr := ⟨_, rfl⟩
    by_cases hlt : k < 8
    · have hix := HID.out k wo hlt
      have hx := HLE.out k
      have HS := Lib.hid (show Venn.countTo t l (k + 1) = Venn.countTo t l k + Venn.lies t k * l.getD k 0 from rfl)
      rw [List.getD_eq_getElem?_getD] at hx HS
      have hal := HAL.out k hlt
      have h01 := Venn.lies_01 t k
      generalize l[k]?.getD 0 = x at hix hx HS
      generalize Venn.lies t k = L at hal h01 HS
      generalize Venn.countTo t l k = C at hr HS ⊢
      have hlx : 0 ≤ L * x ∧ L * x ≤ 6 := by rcases (by omega : L = 0 ∨ L = 1) with rfl | rfl <;> omega
      have hk1 : (k : Int) < 8 := by omega
      have hk0 : (0 : Int) ≤ (k : Int) := by omega
      have hw1 : IntKind.i64.wrap (L * x) = L * x := IntWalk.i64_in _ (by omega)
      have hw2 : IntKind.i64.wrap (C + L * x) = C + L * x := IntWalk.i64_in _ (by omega)
      go_wp2
      go_roundw
      case rel => exact ⟨k + 1, by omega, by go_num, by rw [HS.out], by rw [HS.out]; omega, hb⟩
      case measure => simp [intOf]; omega
    · have hk8 : k = 8 := by omega
      subst hk8
      go_wp2
      go_ret2
      exact ⟨by rw [HE.out]; rfl, hb⟩
end Go.Proofs.YtnjamgmaclmlpaaDoor
