/-
  WORDS FOR SLICES OF ROWS, and the walks of rows.So, rows.Check, rows.Fits.
-/
import Derived.Test.YtlpfbdejiifbpaaGreatDoorCounts
import Derived.Test.YtlpfbdejiifbpaaGreatDoorRow
namespace Go.Proofs.YtlpfbdejiifbpaaGreatDoor
open Go.RowKit

theorem mul_in {x n : Int} (hx : -2 ≤ x ∧ x ≤ 2) (hn : 0 ≤ n ∧ n ≤ 6) : -12 ≤ x * n ∧ x * n ≤ 12 := by
  obtain ⟨h1, h2⟩ := hx
  rcases (by omega : x = -2 ∨ x = -1 ∨ x = 0 ∨ x = 1 ∨ x = 2) with rfl | rfl | rfl | rfl | rfl
  all_goals omega
/-- A slice of rows reads as l; a row is nine numbers. -/
def IsRows (w : World) (v : Value) (l : List (List Int)) : Prop :=
  ∃ A c, v = .slice A l.length c ∧ Rd w A (l.flatMap fun r => r.map (Value.int .i64)) ∧ (∀ r ∈ l, r.length = 9) ∧ l.length ≤ c ∧ c ≤ maxLen
theorem IsRows.keep {w w' : World} {v : Value} {l : List (List Int)} (h : IsRows w v l) (hb : Below w.heap.size w w') : IsRows w' v l := by
  obtain ⟨A, c, hv, hr, hc⟩ := h
  exact ⟨A, c, hv, hr.keep hb, hc⟩
theorem IsRows.nil (w : World) : IsRows w (.slice none 0 0) [] := ⟨none, 0, rfl, Rd.nil _ _, by simp, Nat.le_refl _, by simp⟩
theorem flat_at : ∀ (l : List (List Int)) (k j : Nat) (x : List Int) (y : Int), (∀ r ∈ l, r.length = 9) → l[k]? = some x → x[j]? = some y →
    (l.flatMap fun r => r.map (Value.int .i64))[k * 9 + j]? = some (.int .i64 y) := by
  intro l
  induction l with
  | nil => intro k j x y _ h _; simp at h
  | cons r l ih =>
    intro k j x y hl hk hj
    have hr := hl r (by simp)
    rw [List.flatMap_cons]
    cases k with
    | zero =>
      simp at hk
      subst hk
      rw [List.getElem?_append_left (by simp; have := (List.getElem?_eq_some_iff.1 hj).1; omega)]
      simp [hj]
    | succ k =>
      rw [List.getElem?_append_right (by simp; omega)]
      simp only [List.length_map, hr]
      rw [show (k + 1) * 9 + j - 9 = k * 9 + j by omega]
      exact ih k j x y (fun r hr => hl r (List.mem_cons_of_mem _ hr)) (by simpa using hk) hj
/-- Row k, cell by cell. -/
theorem Rd.row {w : World} {A : Option Addr} {l : List (List Int)} (h : Rd w A (l.flatMap fun r => r.map (Value.int .i64))) (hl : ∀ r ∈ l, r.length = 9) {k : Nat} (hk : k < l.length) :
    ∃ ad x0 x1 x2 x3 x4 x5 x6 x7 x8, A = some ad ∧ l[k] = [x0, x1, x2, x3, x4, x5, x6, x7, x8] ∧ w.cell? (ad.add (k * 9)) = some (.int .i64 x0) ∧ w.cell? ⟨(ad.add (k * 9)).block, (ad.add (k * 9)).off + 1, none⟩ = some (.int .i64 x1) ∧ w.cell? ⟨(ad.add (k * 9)).block, (ad.add (k * 9)).off + 2, none⟩ = some (.int .i64 x2) ∧ w.cell? ⟨(ad.add (k * 9)).block, (ad.add (k * 9)).off + 3, none⟩ = some (.int .i64 x3) ∧ w.cell? ⟨(ad.add (k * 9)).block, (ad.add (k * 9)).off + 4, none⟩ = some (.int .i64 x4) ∧ w.cell? ⟨(ad.add (k * 9)).block, (ad.add (k * 9)).off + 5, none⟩ = some (.int .i64 x5) ∧ w.cell? ⟨(ad.add (k * 9)).block, (ad.add (k * 9)).off + 6, none⟩ = some (.int .i64 x6) ∧ w.cell? ⟨(ad.add (k * 9)).block, (ad.add (k * 9)).off + 7, none⟩ = some (.int .i64 x7) ∧ w.cell? ⟨(ad.add (k * 9)).block, (ad.add (k * 9)).off + 8, none⟩ = some (.int .i64 x8) := by
  have hk9 := hl _ (List.getElem_mem hk)
  have hke : l[k]? = some l[k] := List.getElem?_eq_getElem hk
  generalize l[k] = x at hk9 hke
  match x, hk9 with
  | [x0, x1, x2, x3, x4, x5, x6, x7, x8], _ =>
    have hc := fun (j : Nat) (y : Int) (hj : [x0, x1, x2, x3, x4, x5, x6, x7, x8][j]? = some y) => h _ _ (flat_at l k j _ y hl hke hj)
    obtain ⟨ad, rfl, h0⟩ := hc 0 x0 rfl
    have hc' := fun (j : Nat) (y : Int) (hj : [x0, x1, x2, x3, x4, x5, x6, x7, x8][j]? = some y) => (by obtain ⟨ad', e, hh⟩ := hc j y hj; cases e; exact hh : w.cell? (ad.add (k * 9 + j)) = some (.int .i64 y))
    have hj := fun (j : Nat) (hj : j ≠ 0) => (show ad.add (k * 9 + j) = ⟨(ad.add (k * 9)).block, (ad.add (k * 9)).off + j, none⟩ by rw [← add_of_add]; exact if_neg hj)
    exact ⟨ad, x0, x1, x2, x3, x4, x5, x6, x7, x8, rfl, rfl, h0, by rw [← hj 1 (by decide)]; exact hc' 1 x1 rfl, by rw [← hj 2 (by decide)]; exact hc' 2 x2 rfl, by rw [← hj 3 (by decide)]; exact hc' 3 x3 rfl, by rw [← hj 4 (by decide)]; exact hc' 4 x4 rfl, by rw [← hj 5 (by decide)]; exact hc' 5 x5 rfl, by rw [← hj 6 (by decide)]; exact hc' 6 x6 rfl, by rw [← hj 7 (by decide)]; exact hc' 7 x7 rfl, by rw [← hj 8 (by decide)]; exact hc' 8 x8 rfl⟩

set_option maxHeartbeats 4000000 in
set_option maxRecDepth 100000 in
theorem rows_So (v : Value) (l : List (List Int)) (n0 n1 n2 n3 n4 n5 n6 n7 : Int) (w : World) (hl : IsRows w v l) (hok : l.all Venn.rowOk = true) (hp : (0 ≤ n0 ∧ n0 ≤ 6) ∧ (0 ≤ n1 ∧ n1 ≤ 6) ∧ (0 ≤ n2 ∧ n2 ≤ 6) ∧ (0 ≤ n3 ∧ n3 ≤ 6) ∧ (0 ≤ n4 ∧ n4 ≤ 6) ∧ (0 ≤ n5 ∧ n5 ≤ 6) ∧ (0 ≤ n6 ∧ n6 ≤ 6) ∧ (0 ≤ n7 ∧ n7 ≤ 6)) :
    Calls Tryz.prog 81 #[v, .agg #[.int .i64 n0, .int .i64 n1, .int .i64 n2, .int .i64 n3, .int .i64 n4, .int .i64 n5, .int .i64 n6, .int .i64 n7]] w (Keeps (.bool (Venn.rowsSo l [n0, n1, n2, n3, n4, n5, n6, n7])) w) := by
  obtain ⟨A, c, rfl, hrd, hl9, hlc, hcc⟩ := hl
  unfold maxLen at hcc
  obtain ⟨b0, b1, b2, b3, b4, b5, b6, b7⟩ := hp
  obtain ⟨E, hE⟩ : ∃ E, E = Venn.rowsSo l [n0, n1, n2, n3, n4, n5, n6, n7] := ⟨_, rfl⟩
  rw [← hE]
  have HE := Lib.hid hE
  have HOK := Lib.hid hok
  have HRD := Lib.hid hrd
  have HL9 := Lib.hid hl9
  clear hE hok hrd hl9
  go_enter Tryz.func81, Tryz.ntmps81
  go_wp2
  go_loopw [12] (fun i wr => ∃ k : Nat, k ≤ l.length ∧ i = .int .i64 k ∧ Below w.heap.size w wr ∧ Blk wr w.heap.size 88 #[.int .i64 n0, .int .i64 n1, .int .i64 n2, .int .i64 n3, .int .i64 n4, .int .i64 n5, .int .i64 n6, .int .i64 n7] ∧ E = Venn.rowsSo (l.drop k) [n0, n1, n2, n3, n4, n5, n6, n7]) (fun i _ => l.length - (intOf i).toNat)
  case atStart => exact ⟨0, Nat.zero_le _, rfl, by (repeat' (first | (with_reducible exact Below.refl _ _) | (with_reducible assumption) | (with_reducible refine Below.next ?_ (by with_reducible assumption)) | (with_reducible refine Below.drew ?_) | (with_reducible refine Below.laid ?_ _) | (with_reducible refine Below.setCell ?_ ?_ _) | (with_reducible refine size_of ?_) | (with_reducible refine Nat.le_succ_of_le ?_) | go_size)), Blk.new _ _ _, by rw [List.drop_zero]; exact HE.out⟩
  case round =>
    obtain ⟨k, hk, rfl, hb, hB, hrest⟩ := hrel
    obtain ⟨wo, rfl⟩ : ∃ wo : World, wo = wr := ⟨_, rfl⟩
    have HR := Lib.hid hrest; clear hrest
    by_cases hlt : k < l.length
    · have HD := Lib.hid (List.drop_eq_getElem_cons hlt)
      have hrok := List.all_eq_true.1 HOK.out _ (List.getElem_mem hlt)
      obtain ⟨ad, x0, x1, x2, x3, x4, x5, x6, x7, x8, rfl, hx, hc0, hc1, hc2, hc3, hc4, hc5, hc6, hc7, hc8⟩ := (HRD.out.keep hb).row HL9.out hlt
      rw [hx] at hrok
      have HX := Lib.hid hx
      clear hx
      have bk1 : (0 : Int) ≤ (k : Int) := by omega
      have bk2 : (k : Int) < (l.length : Int) := by omega
      simp only [Venn.rowOk, Bool.and_eq_true, decide_eq_true_eq] at hrok
      obtain ⟨⟨⟨⟨⟨⟨⟨⟨r0, r1⟩, r2⟩, r3⟩, r4⟩, r5⟩, r6⟩, r7⟩, r8⟩ := hrok
      obtain ⟨p0, hp0⟩ : ∃ p, x0 * n0 = p := ⟨_, rfl⟩
      have q0 := mul_in r0 b0
      rw [hp0] at q0
      have hw0 : IntKind.i64.wrap (x0 * n0) = p0 := by rw [hp0]; exact IntWalk.i64_in _ (by omega)
      obtain ⟨p1, hp1⟩ : ∃ p, x1 * n1 = p := ⟨_, rfl⟩
      have q1 := mul_in r1 b1
      rw [hp1] at q1
      have hw1 : IntKind.i64.wrap (x1 * n1) = p1 := by rw [hp1]; exact IntWalk.i64_in _ (by omega)
      obtain ⟨p2, hp2⟩ : ∃ p, x2 * n2 = p := ⟨_, rfl⟩
      have q2 := mul_in r2 b2
      rw [hp2] at q2
      have hw2 : IntKind.i64.wrap (x2 * n2) = p2 := by rw [hp2]; exact IntWalk.i64_in _ (by omega)
      obtain ⟨p3, hp3⟩ : ∃ p, x3 * n3 = p := ⟨_, rfl⟩
      have q3 := mul_in r3 b3
      rw [hp3] at q3
      have hw3 : IntKind.i64.wrap (x3 * n3) = p3 := by rw [hp3]; exact IntWalk.i64_in _ (by omega)
      obtain ⟨p4, hp4⟩ : ∃ p, x4 * n4 = p := ⟨_, rfl⟩
      have q4 := mul_in r4 b4
      rw [hp4] at q4
      have hw4 : IntKind.i64.wrap (x4 * n4) = p4 := by rw [hp4]; exact IntWalk.i64_in _ (by omega)
      obtain ⟨p5, hp5⟩ : ∃ p, x5 * n5 = p := ⟨_, rfl⟩
      have q5 := mul_in r5 b5
      rw [hp5] at q5
      have hw5 : IntKind.i64.wrap (x5 * n5) = p5 := by rw [hp5]; exact IntWalk.i64_in _ (by omega)
      obtain ⟨p6, hp6⟩ : ∃ p, x6 * n6 = p := ⟨_, rfl⟩
      have q6 := mul_in r6 b6
      rw [hp6] at q6
      have hw6 : IntKind.i64.wrap (x6 * n6) = p6 := by rw [hp6]; exact IntWalk.i64_in _ (by omega)
      obtain ⟨p7, hp7⟩ : ∃ p, x7 * n7 = p := ⟨_, rfl⟩
      have q7 := mul_in r7 b7
      rw [hp7] at q7
      have hw7 : IntKind.i64.wrap (x7 * n7) = p7 := by rw [hp7]; exact IntWalk.i64_in _ (by omega)
      obtain ⟨⟨c0, c1, c2, c3, c4, c5, c6, c7⟩, _⟩ := hB.cells8
      have hBl := hB.lt
      have HS := Lib.hid (show Venn.rowSo [x0, x1, x2, x3, x4, x5, x6, x7, x8] [n0, n1, n2, n3, n4, n5, n6, n7] = decide (p0 + p1 + p2 + p3 + p4 + p5 + p6 + p7 ≤ x8) by simp only [Venn.rowSo, hp0, hp1, hp2, hp3, hp4, hp5, hp6, hp7])
      clear hp0 hp1 hp2 hp3 hp4 hp5 hp6 hp7
      go_wp2
      refine wp_loop_rounds 9 ?_
      rw [rounds_succ]
      have hix := idx8_0 x0 x1 x2 x3 x4 x5 x6 x7
      go_wp2
      clear hix
      rw [rounds_succ]
      have hix := idx8_1 x0 x1 x2 x3 x4 x5 x6 x7
      go_wp2
      clear hix
      rw [rounds_succ]
      have hix := idx8_2 x0 x1 x2 x3 x4 x5 x6 x7
      go_wp2
      clear hix
      rw [rounds_succ]
      have hix := idx8_3 x0 x1 x2 x3 x4 x5 x6 x7
      go_wp2
      clear hix
      rw [rounds_succ]
      have hix := idx8_4 x0 x1 x2 x3 x4 x5 x6 x7
      go_wp2
      clear hix
      rw [rounds_succ]
      have hix := idx8_5 x0 x1 x2 x3 x4 x5 x6 x7
      go_wp2
      clear hix
      rw [rounds_succ]
      have hix := idx8_6 x0 x1 x2 x3 x4 x5 x6 x7
      go_wp2
      clear hix
      rw [rounds_succ]
      have hix := idx8_7 x0 x1 x2 x3 x4 x5 x6 x7
      go_wp2
      clear hix
      rw [rounds_succ]
      by_cases hsum : x8 < p0 + p1 + p2 + p3 + p4 + p5 + p6 + p7
      · have HV := Lib.hid (show E = false by rw [HR.out, HD.out, HX.out, Venn.rowsSo, List.all_cons, HS.out, decide_eq_false (by omega)]; rfl)
        go_wp2
        go_ret
        exact ⟨ret_bool HV.out.symm, by (repeat' (first | (with_reducible exact Below.refl _ _) | (with_reducible assumption) | (with_reducible refine Below.next ?_ (by with_reducible assumption)) | (with_reducible refine Below.drew ?_) | (with_reducible refine Below.laid ?_ _) | (with_reducible refine Below.setCell ?_ ?_ _) | (with_reducible refine size_of ?_) | (with_reducible refine Nat.le_succ_of_le ?_) | go_size))⟩
      · have HV := Lib.hid (show E = Venn.rowsSo (l.drop (k + 1)) [n0, n1, n2, n3, n4, n5, n6, n7] by rw [HR.out, HD.out, HX.out, Venn.rowsSo, List.all_cons, HS.out, decide_eq_true (by omega)]; rfl)
        go_wp2
        go_roundw
        case rel => exact ⟨k + 1, by omega, by go_num, by (repeat' (first | (with_reducible exact Below.refl _ _) | (with_reducible assumption) | (with_reducible refine Below.next ?_ (by with_reducible assumption)) | (with_reducible refine Below.drew ?_) | (with_reducible refine Below.laid ?_ _) | (with_reducible refine Below.setCell ?_ ?_ _) | (with_reducible refine size_of ?_) | (with_reducible refine Nat.le_succ_of_le ?_) | go_size)), hB.alloc _, HV.out⟩
        case measure => simp [intOf]; omega
    · have hd1 : l.drop k = [] := List.drop_eq_nil_of_le (by omega)
      have HV := Lib.hid (show E = true by rw [HR.out, hd1]; rfl)
      clear hd1
      go_wp2
      go_ret
      exact ⟨ret_bool HV.out.symm, hb⟩
end Go.Proofs.YtlpfbdejiifbpaaGreatDoor
