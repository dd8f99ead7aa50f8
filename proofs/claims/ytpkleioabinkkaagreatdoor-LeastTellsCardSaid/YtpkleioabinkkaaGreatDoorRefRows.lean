/-
  THE WALKS of the reference's Rows and Fits.
-/
import Derived.Test.YtpkleioabinkkaaGreatDoorRowG
import Derived.BigQuiet
import Derived.IntWalk
import Derived.Test.YtpkleioabinkkaaGreatDoorVennP2
namespace Go.Proofs.YtpkleioabinkkaaGreatDoor
open Go.RowKit

theorem rowOk_iff {x : List Int} (h : x.length = 9) : Venn.rowOk x = true ↔ (∀ j y, j < 8 → x[j]? = some y → -2 ≤ y ∧ y ≤ 2) ∧ ∀ m, x[8]? = some m → -100 ≤ m ∧ m ≤ 100 := by
  match x, h with
  | [x0, x1, x2, x3, x4, x5, x6, x7, m], _ =>
    simp only [Venn.rowOk, Bool.and_eq_true, decide_eq_true_eq]
    constructor
    · rintro ⟨⟨⟨⟨⟨⟨⟨⟨h0, h1⟩, h2⟩, h3⟩, h4⟩, h5⟩, h6⟩, h7⟩, h8⟩
      refine ⟨fun j y hj hy => ?_, fun y hy => ?_⟩
      · rcases (by omega : j = 0 ∨ j = 1 ∨ j = 2 ∨ j = 3 ∨ j = 4 ∨ j = 5 ∨ j = 6 ∨ j = 7) with rfl | rfl | rfl | rfl | rfl | rfl | rfl | rfl
        all_goals (simp at hy; subst hy; assumption)
      · simp at hy; subst hy; assumption
    · rintro ⟨h1, h2⟩
      exact ⟨⟨⟨⟨⟨⟨⟨⟨h1 0 _ (by decide) rfl, h1 1 _ (by decide) rfl⟩, h1 2 _ (by decide) rfl⟩, h1 3 _ (by decide) rfl⟩, h1 4 _ (by decide) rfl⟩, h1 5 _ (by decide) rfl⟩, h1 6 _ (by decide) rfl⟩, h1 7 _ (by decide) rfl⟩, h2 _ rfl⟩
/-- A cell of row k. -/
theorem Rd.rowCell {w : World} {A : Option Addr} {l : List (List Int)} (h : Rd w A (l.flatMap fun r => r.map (Value.int .i64))) (hl : ∀ r ∈ l, r.length = 9) {k j : Nat} {x : List Int} {y : Int} (hx : l[k]? = some x) (hy : x[j]? = some y) :
    ∃ ad, A = some ad ∧ w.cell? ((ad.add (k * 9)).add j) = some (.int .i64 y) := by
  obtain ⟨ad, e, hc⟩ := h _ _ (flat_at l k j x y hl hx hy)
  exact ⟨ad, e, by rw [add_of_add]; exact hc⟩

/-- So much is added up, of the fields ahead of j. -/
def dotTo (x n : List Int) (j : Nat) : Int := Venn.sumTo j fun m => x.getD m 0 * n.getD m 0
theorem dot_row {x n : List Int} (h : x.length = 9) (hn : n.length = 8) {m : Int} (hm : x[8]? = some m) : Venn.rowSo x n = decide (dotTo x n 8 ≤ m) := by
  match x, h, n, hn with
  | [x0, x1, x2, x3, x4, x5, x6, x7, y], _, [n0, n1, n2, n3, n4, n5, n6, n7], _ =>
    simp at hm
    subst hm
    simp [Venn.rowSo, dotTo, Venn.sumTo]
theorem dot_bound {x n : List Int} (hx : ∀ j y, j < 8 → x[j]? = some y → -2 ≤ y ∧ y ≤ 2) (hn : ∀ y ∈ n, 0 ≤ y ∧ y ≤ 6) : ∀ j : Nat, j ≤ 8 → -12 * (j : Int) ≤ dotTo x n j ∧ dotTo x n j ≤ 12 * (j : Int) := by
  intro j
  induction j with
  | zero => intro _; simp [dotTo, Venn.sumTo]
  | succ j ih =>
    intro h
    have h1 := ih (by omega)
    have h2 : -2 ≤ x.getD j 0 ∧ x.getD j 0 ≤ 2 := by
      unfold List.getD
      cases hx' : x[j]? with
      | none => simp
      | some y => simpa using hx j y (by omega) hx'
    have h3 : 0 ≤ n.getD j 0 ∧ n.getD j 0 ≤ 6 := by
      unfold List.getD
      cases hn' : n[j]? with
      | none => simp
      | some y => simpa using hn y (List.mem_of_getElem? hn')
    have h4 := mul_in h2 h3
    have e : dotTo x n (j + 1) = dotTo x n j + x.getD j 0 * n.getD j 0 := rfl
    rw [e]
    omega
set_option maxHeartbeats 4000000 in
set_option maxRecDepth 100000 in
theorem ref_Fits (v : Value) (l : List (List Int)) (n0 n1 n2 n3 n4 n5 n6 n7 : Int) (w : World) (hl : IsRows w v l) (hok : l.all Venn.rowOk = true) (hc : Venn.countsChk [n0, n1, n2, n3, n4, n5, n6, n7] = 0) :
    Calls Tryz.prog 41 #[v, .agg #[.int .i64 n0, .int .i64 n1, .int .i64 n2, .int .i64 n3, .int .i64 n4, .int .i64 n5, .int .i64 n6, .int .i64 n7]] w (Keeps (.bool (Venn.rowsSo l [n0, n1, n2, n3, n4, n5, n6, n7])) w) := by
  obtain ⟨A, c, rfl, hrd, h9, hlc, hcm⟩ := hl
  unfold maxLen at hcm
  have HBN := Lib.hid (show ∀ y ∈ [n0, n1, n2, n3, n4, n5, n6, n7], 0 ≤ y ∧ y ≤ 6 by
    obtain ⟨b0, b1, b2, b3, b4, b5, b6, b7⟩ := counts_bound hc
    intro y hy
    simp only [List.mem_cons, List.not_mem_nil, or_false] at hy
    rcases hy with rfl | rfl | rfl | rfl | rfl | rfl | rfl | rfl <;> assumption)
  have HCELL := Lib.hid (show ∀ (j : Nat) (y : Int), ([n0, n1, n2, n3, n4, n5, n6, n7] : List Int)[j]? = some y → (#[.int .i64 n0, .int .i64 n1, .int .i64 n2, .int .i64 n3, .int .i64 n4, .int .i64 n5, .int .i64 n6, .int .i64 n7] : Array Value)[j]? = some (.int .i64 y) from fun j y h => by
    show ((([n0, n1, n2, n3, n4, n5, n6, n7] : List Int).map (Value.int .i64)).toArray)[j]? = _
    simp only [List.getElem?_toArray, List.getElem?_map, h]
    rfl)
  obtain ⟨N, hN⟩ : ∃ N, N = [n0, n1, n2, n3, n4, n5, n6, n7] := ⟨_, rfl⟩
  have hN8 : N.length = 8 := by rw [hN]; rfl
  obtain ⟨E, hE⟩ : ∃ E, E = Venn.rowsSo l [n0, n1, n2, n3, n4, n5, n6, n7] := ⟨_, rfl⟩
  rw [← hE]
  rw [← hN] at hE HBN HCELL
  have HG := Lib.hid hE
  have HR := Lib.hid hrd
  have H9 := Lib.hid h9
  have HOK := Lib.hid hok
  have HN8 := Lib.hid hN8
  clear hE hrd h9 hok hc hN hN8
  go_enter Tryz.func41, Tryz.ntmps41
  go_wp2
  go_loopw [5] (fun i wr => ∃ k : Nat, k ≤ l.length ∧ i = .int .i64 k ∧ E = (l.drop k).all (fun r => Venn.rowSo r N) ∧ Below w.heap.size w wr ∧ Blk wr w.heap.size 77 #[.int .i64 n0, .int .i64 n1, .int .i64 n2, .int .i64 n3, .int .i64 n4, .int .i64 n5, .int .i64 n6, .int .i64 n7]) (fun i _ => l.length - (intOf i).toNat)
  case atStart => exact ⟨0, Nat.zero_le _, rfl, by rw [List.drop_zero]; exact HG.out, by (repeat' (first | (with_reducible exact Below.refl _ _) | (with_reducible assumption) | (with_reducible refine Below.next ?_ (by with_reducible assumption)) | (with_reducible refine Below.drew ?_) | (with_reducible refine Below.laid ?_ _) | (with_reducible refine Below.setCell ?_ ?_ _) | (with_reducible refine size_of ?_) | (with_reducible refine Nat.le_succ_of_le ?_) | go_size)), Blk.new _ _ _⟩
  case round =>
    obtain ⟨k, hk, rfl, hrest, hw1, BN⟩ := hrel
    obtain ⟨wo, rfl⟩ : ∃ wo : World, wo = wr := ⟨_, rfl⟩
    have HRE := Lib.hid hrest
    clear hrest
    by_cases hlt : k < l.length
    · obtain ⟨x, hx⟩ : ∃ x, l[k]? = some x := ⟨l[k], List.getElem?_eq_getElem hlt⟩
      have hk1 : (k : Int) < (l.length : Int) := by omega
      have hk0 : (0 : Int) ≤ (k : Int) := by omega
      have hx9 : x.length = 9 := H9.out x (List.mem_of_getElem? hx)
      have hxr := List.all_eq_true.1 HOK.out x (List.mem_of_getElem? hx)
      obtain ⟨hxb, _⟩ := (rowOk_iff hx9).1 hxr
      have HDB := Lib.hid (dot_bound hxb HBN.out)
      have HXB := Lib.hid hxb
      obtain ⟨m, hm⟩ : ∃ m, x[8]? = some m := ⟨x[8], List.getElem?_eq_getElem (by omega)⟩
      have HSO := Lib.hid (dot_row hx9 HN8.out hm)
      obtain ⟨ad, rfl, hcm8⟩ := HR.out.rowCell H9.out hx hm
      have HXX := Lib.hid hx
      have HD := Lib.hid (show l.drop k = x :: l.drop (k + 1) by
        rw [List.drop_eq_getElem_cons hlt]
        have := (List.getElem?_eq_some_iff.1 hx).2
        rw [this])
      have HM8 := Lib.hid (show w.cell? ⟨(ad.add (k * 9)).block, (ad.add (k * 9)).off + 8, none⟩ = some (.int .i64 m) from hcm8)
      clear hx hxr hxb hm hcm8
      go_wp2
      go_loopw [6, 7] (fun sm i wr => ∃ j : Nat, j ≤ 8 ∧ i = .int .i64 j ∧ sm = .int .i64 (dotTo x N j) ∧ Below w.heap.size w wr ∧ Blk wr w.heap.size 77 #[.int .i64 n0, .int .i64 n1, .int .i64 n2, .int .i64 n3, .int .i64 n4, .int .i64 n5, .int .i64 n6, .int .i64 n7]) (fun _ i _ => 8 - (intOf i).toNat)
      case atStart => exact ⟨0, by omega, rfl, rfl, hw1, BN⟩
      case round =>
        obtain ⟨j, hj, rfl, rfl, hw2, BN2⟩ := hrel
        obtain ⟨wp, rfl⟩ : ∃ wp : World, wp = wr := ⟨_, rfl⟩
        clear BN hw1
        have hbj := HDB.out j hj
        by_cases hj8 : j < 8
        · obtain ⟨y, hy⟩ : ∃ y, x[j]? = some y := ⟨x[j], List.getElem?_eq_getElem (by omega)⟩
          obtain ⟨z, hz⟩ : ∃ z, N[j]? = some z := ⟨N[j]'(by rw [HN8.out]; exact hj8), List.getElem?_eq_getElem _⟩
          obtain ⟨ad', e, hcy⟩ := HR.out.rowCell H9.out HXX.out hy
          cases e
          have c1 := cell_keep hw2 hcy
          have c2 := (BN2.cell j).trans (HCELL.out j z hz)
          have hyb := HXB.out j y hj8 hy
          have hzb := HBN.out z (List.mem_of_getElem? hz)
          have hmul := mul_in hyb hzb
          have hs : dotTo x N (j + 1) = dotTo x N j + y * z := by
            show dotTo x N j + x.getD j 0 * N.getD j 0 = _
            simp only [List.getD, hy, hz, Option.getD_some]
          have HS := Lib.hid hs
          have hj1 : (j : Int) < 8 := by omega
          have hj0 : (0 : Int) ≤ (j : Int) := by omega
          clear hcy hy hz hs
          generalize dotTo x N j = D at HS hbj
          have hbl := BN2.lt
          have hw1 : IntKind.i64.wrap (y * z) = y * z := IntWalk.i64_in _ (by omega)
          have hw3 : IntKind.i64.wrap (D + y * z) = D + y * z := IntWalk.i64_in _ (by omega)
          go_wp2_with fail
          go_quiet (fail)
          go_wp2
          go_roundw
          case rel => exact ⟨j + 1, by omega, by go_num, by rw [HS.out], below_drewN hw2 _, BN2.drewN _⟩
          case measure => simp [intOf]; omega
        · obtain rfl : j = 8 := by omega
          have c3 := cell_keep hw2 HM8.out
          have hj1 : ¬ ((8 : Nat) : Int) < 8 := by decide
          generalize dotTo x N 8 = D at HSO hbj
          by_cases hle : m < D
          · have HV := Lib.hid (show E = false by rw [HRE.out, HD.out, List.all_cons, HSO.out, decide_eq_false (by omega)]; rfl)
            go_wp2
            go_ret
            exact ⟨ret_bool HV.out.symm, hw2⟩
          · have HV := Lib.hid (show E = (l.drop (k + 1)).all (fun r => Venn.rowSo r N) by rw [HRE.out, HD.out, List.all_cons, HSO.out, decide_eq_true (by omega), Bool.true_and])
            go_wp2
            go_roundw
            case rel => exact ⟨k + 1, by omega, by go_num, HV.out, hw2, BN2⟩
            case measure => simp [intOf]; omega
    · have HV := Lib.hid (show E = true by rw [HRE.out, List.drop_eq_nil_of_le (by omega)]; rfl)
      go_wp2
      go_ret
      exact ⟨ret_bool HV.out.symm, hw1⟩
end Go.Proofs.YtpkleioabinkkaaGreatDoor
