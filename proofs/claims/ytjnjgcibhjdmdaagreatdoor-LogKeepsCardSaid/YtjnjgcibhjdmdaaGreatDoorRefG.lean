/-
  THE WALKS of the reference's sets: Power, Has, Size, Set, Do; and of sets.Has.
  THE WALKS of the reference's Term, World, in, In, Value.
  THE WALK of the reference's Atom.
  THE WALK of the reference's Form.
  THE WALK of the reference's Holds.
  A formula's signs read from the end (no program).
  THE WALKS of the reference's is and True.
-/
import Derived.Test.YtjnjgcibhjdmdaaGreatDoorSetsT
import Derived.Test.YtjnjgcibhjdmdaaGreatDoorVennP1
import Derived.Test.YtjnjgcibhjdmdaaGreatDoorAtomG
import Derived.Test.YtjnjgcibhjdmdaaGreatDoorVennP2
import Derived.Deep.QuietTactic
import Derived.BigQuiet
import Derived.Test.YtjnjgcibhjdmdaaGreatDoorFormG
import Derived.IntWalk
namespace Go.Proofs.YtjnjgcibhjdmdaaGreatDoor
open Go.RowKit

theorem wrap64_small {x : Int} (h0 : 0 ≤ x) (h : x < 9223372036854775808) : wrap64 x = x := by
  unfold wrap64
  omega

set_option maxHeartbeats 400000 in
theorem ref_Power (n : Int) (w : World) (h : n ≤ 61) : Calls Tryz.prog 102 #[.int .i64 n] w (Pure (.int .i64 ((2 ^ n.toNat : Nat) : Int)) w) := by
  go_enter Tryz.func102, Tryz.ntmps102
  go_wp2
  go_loop [3, 4] (fun p i => ∃ k : Nat, k ≤ n.toNat ∧ i = .int .i64 k ∧ p = .int .i64 ((2 ^ k : Nat) : Int)) (fun _ i => n.toNat - (intOf i).toNat)
  case atStart => exact ⟨0, Nat.zero_le _, rfl, rfl⟩
  case round =>
    obtain ⟨k, hk, rfl, rfl⟩ := hrel
    have hp : 2 ^ k ≤ 2 ^ 61 := Nat.pow_le_pow_right (by omega) (by omega)
    have H2 := Lib.hid (Nat.pow_succ (n := 2) (m := k))
    have HN := Lib.hid (show ¬ (k : Int) < n → 2 ^ k = 2 ^ n.toNat from fun h => by rw [show k = n.toNat by omega])
    generalize 2 ^ k = P at hp H2 HN
    by_cases hlt : (k : Int) < n
    · go_wp2
      go_round
      case rel => exact ⟨k + 1, by omega, by go_num, by rw [H2.out]; go_num⟩
      case measure => simp [intOf]; omega
    · go_wp2
      go_ret
      exact ⟨ret_int (by rw [HN.out hlt]; simp), rfl⟩

theorem has_small : ∀ (s : Fin 64) (i : Fin 6), ((((s.val : Nat) : Int) / ((2 ^ ((i.val : Nat) : Int).toNat : Nat) : Int)).tmod 2 == 1) = Venn.bit ((s.val : Nat) : Int) ((i.val : Nat) : Int).toNat := by decide +kernel

set_option maxHeartbeats 400000 in
theorem ref_Has (s i : Int) (w : World) (hs : 0 ≤ s ∧ s ≤ 63) (hi : 0 ≤ i ∧ i ≤ 5) : Calls Tryz.prog 101 #[.int .i64 s, .int .i64 i] w (Pure (.bool (Venn.bit s i.toNat)) w) := by
  have HP := Lib.hid (ref_Power i w (by omega))
  have hp0 : 0 < 2 ^ i.toNat := Nat.two_pow_pos _
  have hp1 : 2 ^ i.toNat ≤ 2 ^ 5 := Nat.pow_le_pow_right (by omega) (by omega)
  have HD := Lib.hid (show s.tdiv ((2 ^ i.toNat : Nat) : Int) = s / ((2 ^ i.toNat : Nat) : Int) from Int.tdiv_eq_ediv_of_nonneg hs.1)
  have H : ((s / ((2 ^ i.toNat : Nat) : Int)).tmod 2 == 1) = Venn.bit s i.toNat := by
    obtain ⟨S, rfl⟩ : ∃ S : Fin 64, s = ((S.val : Nat) : Int) := ⟨⟨s.toNat, by omega⟩, by simp; omega⟩
    obtain ⟨I, rfl⟩ : ∃ I : Fin 6, i = ((I.val : Nat) : Int) := ⟨⟨i.toNat, by omega⟩, by simp; omega⟩
    exact has_small S I
  have HH := Lib.hid H; clear H
  generalize 2 ^ i.toNat = P at HP hp0 hp1 HD HH
  go_enter Tryz.func101, Tryz.ntmps101
  go_wp2_with (go_at_call 102; refine (HP.out).mono ?_; rintro e w' ⟨rfl, rfl⟩)
  go_ret
  exact ⟨ret_bool HH.out, rfl⟩

theorem size_step (s : Int) (k : Nat) : (((List.range (k + 1)).filter fun i => Venn.bit s i).length : Int) = ((List.range k).filter fun i => Venn.bit s i).length + (if Venn.bit s k = true then 1 else 0) := by
  rw [List.range_succ, List.filter_append]
  by_cases h : Venn.bit s k = true <;> simp [h]

set_option maxHeartbeats 400000 in
theorem ref_Size (s : Int) (w : World) (hs : 0 ≤ s ∧ s ≤ 63) : Calls Tryz.prog 138 #[.int .i64 s] w (Pure (.int .i64 (Venn.many s)) w) := by
  go_enter Tryz.func138, Tryz.ntmps138
  go_wp2
  go_loop [3, 4] (fun n i => ∃ k : Nat, k ≤ 6 ∧ i = .int .i64 k ∧ n = .int .i64 (((List.range k).filter fun i => Venn.bit s i).length : Int)) (fun _ i => 6 - (intOf i).toNat)
  case atStart => exact ⟨0, Nat.zero_le _, rfl, rfl⟩
  case round =>
    obtain ⟨k, hk, rfl, rfl⟩ := hrel
    have HS := Lib.hid (size_step s k)
    have hl := List.length_filter_le (fun i => Venn.bit s i) (List.range k)
    rw [List.length_range] at hl
    have HK := Lib.hid (show k = 6 → ((List.range k).filter fun i => Venn.bit s i).length = Venn.many s from fun h => by rw [h]; rfl)
    generalize ((List.range k).filter fun i => Venn.bit s i).length = L at HS hl HK
    by_cases hlt : (k : Int) < 6
    · rcases hb : Venn.bit s k with _ | _
      all_goals
        have HB := Lib.hid hb
        go_wp2_with (go_at_call 101; refine (ref_Has _ _ _ hs (by omega)).mono ?_; rintro e w' ⟨rfl, rfl⟩; rw [Int.toNat_natCast, HB.out])
        go_round
        case rel => exact ⟨k + 1, by omega, by go_num, by rw [HS.out, HB.out]; simp⟩
        case measure => simp [intOf]; omega
    · go_wp2
      go_ret
      exact ⟨ret_int (HK.out (by omega)), rfl⟩

theorem andNot_testBit (a b i : Nat) : (Venn.andNot a b).testBit i = (a.testBit i && !b.testBit i) := by
  unfold Venn.andNot
  rw [Nat.testBit_xor, Nat.testBit_and]
  cases a.testBit i <;> cases b.testBit i <;> rfl
theorem allS_testBit {u : Int} (h : Venn.things u = true) {k : Nat} (hk : (k : Int) < u) : (Venn.allS u).toNat.testBit k = true := by
  have h' : 0 ≤ u ∧ u ≤ 6 := by simpa [Venn.things] using h
  have : (Venn.allS u).toNat = 2 ^ u.toNat - 1 := by unfold Venn.allS; omega
  rw [this, Nat.testBit_two_pow_sub_one]
  simp; omega
/-- What is in, by what is done. -/
def inV (what : Int) (x y : Bool) : Bool := if what = 5 then x || y else if what = 6 then x && y else if what = 7 then x && !y else !x
theorem setOf_bit {what u a b : Int} (hu : Venn.things u = true) {k : Nat} (hk : (k : Int) < u) : (Venn.setOf what u a b).toNat.testBit k = inV what (Venn.bit a k) (Venn.bit b k) := by
  unfold Venn.setOf inV Venn.bit
  split
  · simp
  split
  · simp
  split
  · simp only [Int.toNat_natCast, andNot_testBit]
  · simp only [Int.toNat_natCast, andNot_testBit, allS_testBit hu hk, Bool.true_and]
theorem mod_step (n k : Nat) : n % 2 ^ (k + 1) = n % 2 ^ k + (if n.testBit k = true then 2 ^ k else 0) := by
  rw [Nat.mod_pow_succ, Nat.testBit_eq_decide_div_mod_eq]
  rcases Nat.mod_two_eq_zero_or_one (n / 2 ^ k) with h | h <;> simp [h]

set_option maxHeartbeats 1000000 in
set_option maxRecDepth 100000 in
theorem ref_Do (what u a b : Int) (w : World) (hw : 5 ≤ what ∧ what ≤ 8) (ha : Venn.setChk u a = 0) (hb : Venn.setChk u b = 0) :
    Calls Tryz.prog 139 #[.int .i64 what, .int .i64 u, .int .i64 a, .int .i64 b] w (Pure (.int .i64 (Venn.setOf what u a b)) w) := by
  have hu := (setChk_ok ha).1
  have ha6 := setChk_63 ha
  have hb6 := setChk_63 hb
  have hr := Venn.setChk_iff.1 (Venn.setOf_right (what := what) ha hb)
  have h6 : 0 ≤ u ∧ u ≤ 6 := hr.1
  have hpu : 2 ^ u.toNat ≤ 2 ^ 6 := Nat.pow_le_pow_right (by omega) (by omega)
  have HB := Lib.hid (fun (k : Nat) (hk : (k : Int) < u) => setOf_bit (what := what) (a := a) (b := b) hu hk)
  have HE := Lib.hid (show ((Venn.setOf what u a b).toNat % 2 ^ u.toNat : Nat) = Venn.setOf what u a b from by rw [Nat.mod_eq_of_lt hr.2.2]; omega)
  generalize Venn.setOf what u a b = R at HB HE hr
  have hR : R.toNat < 64 := by omega
  clear ha hb hr hu
  generalize R.toNat = r at HB HE hR
  go_enter Tryz.func139, Tryz.ntmps139
  go_wp2
  go_loop [9, 10] (fun s i => ∃ k : Nat, k ≤ u.toNat ∧ i = .int .i64 k ∧ s = .int .i64 ((r % 2 ^ k : Nat) : Int)) (fun _ i => u.toNat - (intOf i).toNat)
  case atStart => exact ⟨0, Nat.zero_le _, rfl, by simp [Nat.mod_one]⟩
  case round =>
    obtain ⟨k, hk, rfl, rfl⟩ := hrel
    by_cases hlt : (k : Int) < u
    · have HX := Lib.hid (HB.out k hlt)
      have HM := Lib.hid (mod_step r k)
      have HP := Lib.hid (ref_Power (k : Int))
      have h1 : r % 2 ^ k ≤ r := Nat.mod_le _ _
      have h2 : 2 ^ k ≤ 2 ^ 6 := Nat.pow_le_pow_right (by omega) (by omega)
      rw [Int.toNat_natCast] at HP
      generalize 2 ^ k = P at HP h1 h2 HM
      generalize r % P = m at h1 HM
      rcases hx : Venn.bit a k with _ | _ <;> rcases hy : Venn.bit b k with _ | _
      all_goals
        have X := Lib.hid hx
        have Y := Lib.hid hy
        clear hx hy
        rw [X.out, Y.out] at HX
        obtain rfl | rfl | rfl | rfl : what = 5 ∨ what = 6 ∨ what = 7 ∨ what = 8 := by omega
      all_goals
        go_wp2_with (first
          | (go_at_call 101; refine (ref_Has _ _ _ (by assumption) (by omega)).mono ?_; rintro e w' ⟨rfl, rfl⟩; simp only [Int.toNat_natCast, X.out, Y.out])
          | (go_at_call 102; refine (HP.out _ (by omega)).mono ?_; rintro e w' ⟨rfl, rfl⟩))
        go_round
        case rel => exact ⟨k + 1, by omega, by go_num, by rw [HM.out, HX.out]; simp [inV]⟩
        case measure => simp [intOf]; omega
    · go_wp2
      go_ret
      exact ⟨ret_int (by rw [← HE.out, show k = u.toNat by omega]; simp), rfl⟩

theorem shr_small : ∀ (s : Fin 64) (i : Fin 6), (bits .and .i64 (((s.val : Nat) : Int) / 2 ^ ((i.val : Nat) : Int).toNat) 1 == 1) = Venn.bit ((s.val : Nat) : Int) ((i.val : Nat) : Int).toNat := by decide +kernel

end Go.Proofs.YtjnjgcibhjdmdaaGreatDoor

namespace Go.Proofs.YtjnjgcibhjdmdaaGreatDoor
open Go.RowKit

set_option maxHeartbeats 2000000 in
set_option maxRecDepth 100000 in
theorem ref_Term (v : Value) (t : List Int) (w : World) (h : IsInts w v t) : Calls Tryz.prog 45 #[v] w (Pure (.int .i64 (Venn.termChk t)) w) := by
  obtain ⟨A, c, rfl, hr, hlc, hc⟩ := h
  unfold maxLen at hc
  obtain ⟨E, hE⟩ : ∃ E, E = Venn.termChk t := ⟨_, rfl⟩
  rw [← hE]
  have HR := Lib.hid hr
  by_cases h0 : t.length = 0
  · have HV := Lib.hid (show E = 5 by rw [hE, Venn.termChk, if_pos h0])
    have e1 : ((t.length : Int) == 0) = true := beq_iff_eq.2 (by omega)
    clear hE h0 hr
    go_enter Tryz.func45, Tryz.ntmps45
    go_wp2
    go_ret
    exact ⟨ret_int HV.out.symm, rfl⟩
  have e1 : ((t.length : Int) == 0) = false := beq_eq_false_iff_ne.2 (by omega)
  by_cases h12 : 12 < t.length
  · have HV := Lib.hid (show E = 4 by rw [hE, Venn.termChk, if_neg h0, if_pos h12])
    have e2 : (12 : Int) < (t.length : Int) := by omega
    clear hE h0 h12 hr
    go_enter Tryz.func45, Tryz.ntmps45
    go_wp2
    go_ret
    exact ⟨ret_int HV.out.symm, rfl⟩
  have e2 : ¬ (12 : Int) < (t.length : Int) := by omega
  have H12 : t.length ≤ 12 := by omega
  have HG := Lib.hid (show E = if t.any Venn.badSign = true then 1 else Venn.shapeGo 0 t by rw [hE, Venn.termChk, if_neg h0, if_neg h12])
  clear hE h0 h12 hr
  go_enter Tryz.func45, Tryz.ntmps45
  go_wp2
  go_loop [3] (fun i => ∃ k : Nat, k ≤ t.length ∧ i = .int .i64 k ∧ (E = if (t.drop k).any Venn.badSign = true then 1 else Venn.shapeGo 0 t) ∧ (∀ y ∈ t.take k, Venn.badSign y = false)) (fun i => t.length - (intOf i).toNat)
  case atStart => exact ⟨0, Nat.zero_le _, rfl, by rw [List.drop_zero]; exact HG.out, by simp⟩
  case round =>
    obtain ⟨k, hk, rfl, hrest, hgood⟩ := hrel
    have HRS := Lib.hid hrest
    have HGD := Lib.hid hgood
    clear hrest hgood
    by_cases hlt : k < t.length
    · obtain ⟨ad, rfl, hcell⟩ := HR.out.int hlt
      have HD := Lib.hid (List.drop_eq_getElem_cons hlt)
      have HT := Lib.hid (List.take_succ_eq_append_getElem hlt)
      generalize t[k] = x at hcell HD HT
      have hk1 : (k : Int) < (t.length : Int) := by omega
      have hk0 : (0 : Int) ≤ (k : Int) := by omega
      cases hb : Venn.badSign x
      · have hx : ¬ x < 0 ∧ ¬ 8 < x := by simp [Venn.badSign] at hb; omega
        have HV := Lib.hid (show E = if (t.drop (k + 1)).any Venn.badSign = true then 1 else Venn.shapeGo 0 t by rw [HRS.out, HD.out, List.any_cons, hb, Bool.false_or])
        have HW := Lib.hid (show ∀ y ∈ t.take (k + 1), Venn.badSign y = false by
          intro y hy
          rw [HT.out] at hy
          rcases List.mem_append.1 hy with h | h
          · exact HGD.out y h
          · rw [List.mem_singleton.1 h]; exact hb)
        obtain ⟨hx0, hx8⟩ := hx
        clear hb
        go_wp2
        go_round
        case rel => exact ⟨k + 1, by omega, by go_num, HV.out, HW.out⟩
        case measure => simp [intOf]; omega
      · have HV := Lib.hid (show E = 1 by rw [HRS.out, HD.out, List.any_cons, hb]; rfl)
        have hx : x < 0 ∨ (¬ x < 0 ∧ 8 < x) := by simp [Venn.badSign] at hb; omega
        clear hb
        rcases hx with hx | ⟨hx, hx8⟩
        all_goals
          go_wp2
          go_ret
          exact ⟨ret_int HV.out.symm, rfl⟩
    · have hkt : k = t.length := by omega
      have HB := Lib.hid (show ∀ y ∈ t, 0 ≤ y ∧ y ≤ 8 by
        intro y hy
        have := HGD.out y (by rw [hkt, List.take_length]; exact hy)
        simp [Venn.badSign] at this
        omega)
      have HV := Lib.hid (show E = Venn.shapeGo 0 t by rw [HRS.out, List.drop_eq_nil_of_le (by omega)]; rfl)
      clear HRS HGD
      go_wp2
      go_loop [4, 5] (fun m i => ∃ (k : Nat) (M : Int), k ≤ t.length ∧ m = .int .i64 M ∧ i = .int .i64 k ∧ 0 ≤ M ∧ M ≤ k ∧ E = Venn.shapeGo M (t.drop k)) (fun _ i => t.length - (intOf i).toNat)
      case atStart => exact ⟨0, 0, Nat.zero_le _, rfl, rfl, by omega, by simp, by rw [List.drop_zero]; exact HV.out⟩
      case round =>
        clear hlt hkt hk
        obtain ⟨k, M, hk, rfl, rfl, hM0, hMk, hrest⟩ := hrel
        have HRS := Lib.hid hrest
        clear hrest
        by_cases hlt : k < t.length
        · obtain ⟨ad, rfl, hcell⟩ := HR.out.int hlt
          have HD := Lib.hid (List.drop_eq_getElem_cons hlt)
          have hx := HB.out _ (List.getElem_mem hlt)
          generalize t[k] = x at hcell HD hx
          have hk1 : (k : Int) < (t.length : Int) := by omega
          have hk0 : (0 : Int) ≤ (k : Int) := by omega
          by_cases h5 : x < 5
          · have ht : Venn.takes x = 0 := by unfold Venn.takes; rw [if_neg (by omega), if_neg (by omega)]
            have HN := Lib.hid (show E = Venn.shapeGo (M + 1) (t.drop (k + 1)) by rw [HRS.out, HD.out, Venn.shapeGo, ht, if_neg (by omega)]; rfl)
            have hw : IntKind.i64.wrap (M + 1) = M + 1 := IntWalk.i64_in _ (by omega)
            clear ht
            go_wp2
            go_round
            case rel => exact ⟨k + 1, M + 1, by omega, rfl, by go_num, by omega, by omega, HN.out⟩
            case measure => simp [intOf]; omega
          · by_cases h8 : x = 8
            · subst h8
              by_cases hm : M < 1
              · have HN := Lib.hid (show E = 3 by rw [HRS.out, HD.out, Venn.shapeGo, if_pos (show M < Venn.takes 8 from hm)])
                go_wp2
                go_ret
                exact ⟨ret_int HN.out.symm, rfl⟩
              · have HN := Lib.hid (show E = Venn.shapeGo M (t.drop (k + 1)) by
                  rw [HRS.out, HD.out, Venn.shapeGo, if_neg (show ¬ M < Venn.takes 8 from hm), show M + (1 - Venn.takes 8) = M by show M + (1 - 1) = M; omega])
                go_wp2
                go_round
                case rel => exact ⟨k + 1, M, by omega, rfl, by go_num, by omega, by omega, HN.out⟩
                case measure => simp [intOf]; omega
            · have hx8 : x < 8 := by omega
              have ht : Venn.takes x = 2 := by unfold Venn.takes; rw [if_neg h8, if_pos (by omega)]
              by_cases hm : M < 2
              · have HN := Lib.hid (show E = 3 by rw [HRS.out, HD.out, Venn.shapeGo, ht, if_pos hm])
                clear ht
                rcases (by omega : M < 1 ∨ ¬ M < 1) with hm1 | hm1
                all_goals
                  go_wp2
                  go_ret
                  exact ⟨ret_int HN.out.symm, rfl⟩
              · have HN := Lib.hid (show E = Venn.shapeGo (M - 1) (t.drop (k + 1)) by rw [HRS.out, HD.out, Venn.shapeGo, ht, if_neg hm, show M + (1 - 2 : Int) = M - 1 by omega])
                have hm1 : ¬ M < 1 := by omega
                have hw : IntKind.i64.wrap (M - 1) = M - 1 := IntWalk.i64_in _ (by omega)
                clear ht
                go_wp2
                go_round
                case rel => exact ⟨k + 1, M - 1, by omega, rfl, by go_num, by omega, by omega, HN.out⟩
                case measure => simp [intOf]; omega
        · have HN := Lib.hid (show E = if M = 1 then 0 else 3 by rw [HRS.out, List.drop_eq_nil_of_le (by omega)]; rfl)
          by_cases hm : M = 1
          · subst hm
            go_wp2
            go_ret
            exact ⟨ret_int (by rw [HN.out]; rfl), rfl⟩
          · have hne : (M != 1) = true := by simpa using hm
            go_wp2
            go_ret
            exact ⟨ret_int (by rw [HN.out, if_neg hm]), rfl⟩

theorem IsInts.front {w : World} {A : Option Addr} {c : Nat} {t' r : List Int} (h : IsInts w (.slice A (t' ++ r).length c) (t' ++ r)) : IsInts w (.slice A t'.length c) t' := by
  obtain ⟨A', c', e, hr, hl, hc⟩ := h
  simp only [Value.slice.injEq] at e
  obtain ⟨rfl, _, rfl⟩ := e
  refine ⟨A, c, rfl, fun j u hj => hr j u ?_, ?_, hc⟩
  · rw [List.map_append, List.getElem?_append_left (by have := (List.getElem?_eq_some_iff.1 hj).1; exact this)]
    exact hj
  · rw [List.length_append] at hl; omega

/-- What the reference's 'in' gives: the last term's answer, and what is ahead of it. -/
def InPost (p : Int → Bool) (x : Bool) (st : List Bool) (t : List Int) (A : Option Addr) (c : Nat) (w : World) (e : Ending) (w' : World) : Prop :=
  ∃ t', e = .returned (.tuple #[.bool x, .slice A t'.length c]) ∧ Below w.heap.size w w' ∧ (∃ r, t = t' ++ r) ∧ t'.length < t.length ∧ Venn.evO p t' [] = some st

set_option maxHeartbeats 4000000 in
set_option maxRecDepth 100000 in
theorem ref_in (th a b c : Int) (hw : Venn.worldChk ⟨th, a, b, c⟩ = 0) (i : Nat) (hi : (i : Int) < th) : ∀ (n : Nat) (t : List Int) (x : Bool) (st : List Bool) (A : Option Addr) (cp : Nat) (w : World), t.length = n → n ≤ 12 → (∀ y ∈ t, 0 ≤ y ∧ y ≤ 8) →
    IsInts w (.slice A t.length cp) t → Venn.evO (fun k => Venn.bit ((⟨th, a, b, c⟩ : Venn.World).has k) i) t [] = some (x :: st) →
    Calls Tryz.prog 163 #[.slice A t.length cp, .agg #[.int .i64 th, .int .i64 a, .int .i64 b, .int .i64 c], .int .i64 i] w (InPost (fun k => Venn.bit ((⟨th, a, b, c⟩ : Venn.World).has k) i) x st t A cp w) := by
  obtain ⟨h0, ha, hb, hc⟩ := Venn.worldChk_iff.1 hw
  have h6 : th ≤ 6 := by have := h0; simp only [Venn.things, Bool.and_eq_true, decide_eq_true_eq] at this; exact this.2
  have ha6 := setChk_63 ha
  have hb6 := setChk_63 hb
  have hc6 := setChk_63 hc
  have HP : ∃ p : Int → Bool, p = fun k => Venn.bit ((⟨th, a, b, c⟩ : Venn.World).has k) i := ⟨_, rfl⟩
  obtain ⟨p, hp⟩ := HP
  rw [← hp]
  have p0 : p 0 = Venn.bit a i := by rw [hp]; rfl
  have p1 : p 1 = Venn.bit b i := by rw [hp]; rfl
  have p2 : p 2 = Venn.bit c i := by rw [hp]; rfl
  have P0 := Lib.hid p0
  have P1 := Lib.hid p1
  have P2 := Lib.hid p2
  have hi5 : (i : Int) ≤ 5 := by omega
  have hi0 : (0 : Int) ≤ (i : Int) := by omega
  clear hp p0 p1 p2 ha hb hc h0 hw
  intro n
  induction n using Nat.strongRecOn with
  | ind n ih =>
    intro t x st A cp w hn h12 hs hint hev
    have IH := Lib.hid ih
    clear ih
    rcases List.eq_nil_or_concat t with rfl | ⟨t', s, rfl⟩
    · simp [Venn.evO] at hev
    rw [List.concat_eq_append] at hn hs hint hev ⊢
    have hs' := hs s (by simp)
    have HS := Lib.hid (show ∀ y ∈ t', 0 ≤ y ∧ y ≤ 8 from fun y hy => hs y (by simp [hy]))
    have HF := Lib.hid hint.front
    have HI := Lib.hid hint
    have hlen : (t' ++ [s]).length = t'.length + 1 := by simp
    have hnm : n = t'.length + 1 := by omega
    have hcell : ∃ ad, A = some ad ∧ w.cell? (ad.add t'.length) = some (.int .i64 s) := by
      obtain ⟨A', c', e, hr, _, _⟩ := hint
      simp only [Value.slice.injEq] at e
      obtain ⟨rfl, _, rfl⟩ := e
      obtain ⟨ad, h1, h2⟩ := hr.int (k := t'.length) (by rw [hlen]; omega)
      refine ⟨ad, h1, ?_⟩
      rw [h2]
      simp
    have hcap : t'.length + 1 ≤ cp ∧ cp ≤ maxLen := by
      obtain ⟨A', c', e, _, h1, h2⟩ := hint
      simp only [Value.slice.injEq] at e
      obtain ⟨_, _, rfl⟩ := e
      rw [hlen] at h1
      exact ⟨by omega, h2⟩
    obtain ⟨ad, rfl, hcell⟩ := hcell
    unfold maxLen at hcap
    have HEV := Lib.hid (Venn.evO_last hs' hev)
    have hw1 : IntKind.i64.wrap (((t'.length : Int) + 1) - 1) = (t'.length : Int) := by rw [show ((t'.length : Int) + 1) - 1 = (t'.length : Int) by omega]; exact IntWalk.i64_in _ (by omega)
    have HREC : ∀ (y : Bool) (st' : List Bool) (W : World), Below w.heap.size w W → Venn.evO p t' [] = some (y :: st') → Calls Tryz.prog 163 #[.slice (some ad) t'.length cp, .agg #[.int .i64 th, .int .i64 a, .int .i64 b, .int .i64 c], .int .i64 i] W (InPost p y st' t' (some ad) cp W) := fun y st' W hbW hy =>
      IH.out t'.length (by omega) t' y st' (some ad) cp W rfl (by omega) HS.out (HF.out.keep hbW) hy
    have HREC2 : ∀ (t'' : List Int) (y : Bool) (st' : List Bool) (W : World), (∃ r, t' = t'' ++ r) → t''.length < t'.length → Below w.heap.size w W → Venn.evO p t'' [] = some (y :: st') → Calls Tryz.prog 163 #[.slice (some ad) t''.length cp, .agg #[.int .i64 th, .int .i64 a, .int .i64 b, .int .i64 c], .int .i64 i] W (InPost p y st' t'' (some ad) cp W) := by
      rintro t'' y st' W ⟨r, hr⟩ hlt hbW hy
      have h1 : IsInts w (.slice (some ad) t''.length cp) t'' := by
        have := HF.out
        rw [hr] at this
        exact this.front
      exact IH.out t''.length (by omega) t'' y st' (some ad) cp W rfl (by omega) (fun y hy => HS.out y (by rw [hr]; simp [hy])) (h1.keep hbW) hy
    have HR := Lib.hid HREC
    have HR2 := Lib.hid HREC2
    have HPRE : ∀ (t'' : List Int), (∃ r, t' = t'' ++ r) → (∃ r, t' ++ [s] = t'' ++ r) := fun _ ⟨r, hr⟩ => ⟨r ++ [s], by rw [hr]; simp⟩
    have HPR := Lib.hid HPRE
    rw [hlen]
    clear hs hint hev HREC HREC2 HPRE
    have hm0 : (0 : Int) ≤ (t'.length : Int) := by omega
    have hm1 : (t'.length : Int) < (t'.length : Int) + 1 := by omega
    have hm2 : (t'.length : Int) ≤ (cp : Int) := by omega
    have hcell2 := cell_keep (w' := w.alloc (.cells #[.int .i64 th, .int .i64 a, .int .i64 b, .int .i64 c] 45)) (by (repeat' (first | (with_reducible exact Below.refl _ _) | (with_reducible assumption) | (with_reducible refine Below.next ?_ (by with_reducible assumption)) | (with_reducible refine Below.drew ?_) | (with_reducible refine Below.laid ?_ _) | (with_reducible refine Below.setCell ?_ ?_ _) | (with_reducible refine size_of ?_) | (with_reducible refine Nat.le_succ_of_le ?_) | go_size))) hcell
    clear hcell
    rcases HEV.out with ⟨h3, hx, hst⟩ | ⟨h34, hx, hst⟩ | ⟨y, h8, hx, hst⟩ | ⟨y, z, h5, h7, hx, hst⟩
    · have HST := Lib.hid hst
      have HX := Lib.hid hx
      clear hx hst hlen
      rcases (by omega : s = 0 ∨ s = 1 ∨ s = 2) with rfl | rfl | rfl
      · go_enter Tryz.func163, Tryz.ntmps163
        go_wp2_with (go_at_call 101; refine (ref_Has _ _ _ (by assumption) (by omega)).mono ?_; rintro e w' ⟨rfl, rfl⟩; rw [Int.toNat_natCast])
        go_ret2
        exact ⟨t', by rw [HX.out, P0.out]; rfl, by (repeat' (first | (with_reducible exact Below.refl _ _) | (with_reducible assumption) | (with_reducible refine Below.next ?_ (by with_reducible assumption)) | (with_reducible refine Below.drew ?_) | (with_reducible refine Below.laid ?_ _) | (with_reducible refine Below.setCell ?_ ?_ _) | (with_reducible refine size_of ?_) | (with_reducible refine Nat.le_succ_of_le ?_) | go_size)), ⟨_, rfl⟩, by simp, HST.out⟩
      · go_enter Tryz.func163, Tryz.ntmps163
        go_wp2_with (go_at_call 101; refine (ref_Has _ _ _ (by assumption) (by omega)).mono ?_; rintro e w' ⟨rfl, rfl⟩; rw [Int.toNat_natCast])
        go_ret2
        exact ⟨t', by rw [HX.out, P1.out]; rfl, by (repeat' (first | (with_reducible exact Below.refl _ _) | (with_reducible assumption) | (with_reducible refine Below.next ?_ (by with_reducible assumption)) | (with_reducible refine Below.drew ?_) | (with_reducible refine Below.laid ?_ _) | (with_reducible refine Below.setCell ?_ ?_ _) | (with_reducible refine size_of ?_) | (with_reducible refine Nat.le_succ_of_le ?_) | go_size)), ⟨_, rfl⟩, by simp, HST.out⟩
      · go_enter Tryz.func163, Tryz.ntmps163
        go_wp2_with (go_at_call 101; refine (ref_Has _ _ _ (by assumption) (by omega)).mono ?_; rintro e w' ⟨rfl, rfl⟩; rw [Int.toNat_natCast])
        go_ret2
        exact ⟨t', by rw [HX.out, P2.out]; rfl, by (repeat' (first | (with_reducible exact Below.refl _ _) | (with_reducible assumption) | (with_reducible refine Below.next ?_ (by with_reducible assumption)) | (with_reducible refine Below.drew ?_) | (with_reducible refine Below.laid ?_ _) | (with_reducible refine Below.setCell ?_ ?_ _) | (with_reducible refine size_of ?_) | (with_reducible refine Nat.le_succ_of_le ?_) | go_size)), ⟨_, rfl⟩, by simp, HST.out⟩
    · have HST := Lib.hid hst
      have HX := Lib.hid hx
      clear hx hst hlen
      rcases h34 with rfl | rfl
      all_goals
        go_enter Tryz.func163, Tryz.ntmps163
        go_wp2
        go_ret2
        exact ⟨t', by rw [HX.out]; rfl, by (repeat' (first | (with_reducible exact Below.refl _ _) | (with_reducible assumption) | (with_reducible refine Below.next ?_ (by with_reducible assumption)) | (with_reducible refine Below.drew ?_) | (with_reducible refine Below.laid ?_ _) | (with_reducible refine Below.setCell ?_ ?_ _) | (with_reducible refine size_of ?_) | (with_reducible refine Nat.le_succ_of_le ?_) | go_size)), ⟨_, rfl⟩, by simp, HST.out⟩
    · subst h8
      have HST := Lib.hid hst
      have HX := Lib.hid hx
      clear hx hst hlen
      go_enter Tryz.func163, Tryz.ntmps163
      go_wp2_with (go_at_call 163; refine (HR.out y st _ (by (repeat' (first | (with_reducible exact Below.refl _ _) | (with_reducible assumption) | (with_reducible refine Below.next ?_ (by with_reducible assumption)) | (with_reducible refine Below.drew ?_) | (with_reducible refine Below.laid ?_ _) | (with_reducible refine Below.setCell ?_ ?_ _) | (with_reducible refine size_of ?_) | (with_reducible refine Nat.le_succ_of_le ?_) | go_size))) HST.out).mono ?_; rintro e w1 ⟨t1, rfl, hb1, hr1, hl1, he1⟩)
      go_ret2
      exact ⟨t1, by rw [HX.out]; rfl, by (repeat' (first | (with_reducible exact Below.refl _ _) | (with_reducible assumption) | (with_reducible refine Below.next ?_ (by with_reducible assumption)) | (with_reducible refine Below.drew ?_) | (with_reducible refine Below.laid ?_ _) | (with_reducible refine Below.setCell ?_ ?_ _) | (with_reducible refine size_of ?_) | (with_reducible refine Nat.le_succ_of_le ?_) | go_size)), HPR.out _ hr1, by simp; omega, he1⟩
    · have HST := Lib.hid hst
      have HX := Lib.hid hx
      clear hx hst hlen
      rcases (by omega : s = 5 ∨ s = 6 ∨ s = 7) with rfl | rfl | rfl
      all_goals
        go_enter Tryz.func163, Tryz.ntmps163
        go_wp2_with fail
        refine (HR.out z (y :: st) _ (by (repeat' (first | (with_reducible exact Below.refl _ _) | (with_reducible assumption) | (with_reducible refine Below.next ?_ (by with_reducible assumption)) | (with_reducible refine Below.drew ?_) | (with_reducible refine Below.laid ?_ _) | (with_reducible refine Below.setCell ?_ ?_ _) | (with_reducible refine size_of ?_) | (with_reducible refine Nat.le_succ_of_le ?_) | go_size))) HST.out).mono ?_
        rintro e w1 ⟨t1, rfl, hb1, hr1, hl1, he1⟩
        obtain ⟨e0, e1, e2, e3⟩ := ((Blk.new w 45 #[.int .i64 th, .int .i64 a, .int .i64 b, .int .i64 c]).keep hb1).cells4
        go_wp2_with fail
        refine (HR2.out t1 y st _ hr1 hl1 (by (repeat' (first | (with_reducible exact Below.refl _ _) | (with_reducible assumption) | (with_reducible refine Below.next ?_ (by with_reducible assumption)) | (with_reducible refine Below.drew ?_) | (with_reducible refine Below.laid ?_ _) | (with_reducible refine Below.setCell ?_ ?_ _) | (with_reducible refine size_of ?_) | (with_reducible refine Nat.le_succ_of_le ?_) | go_size))) he1).mono ?_
        rintro e w2 ⟨t2, rfl, hb2, hr2, hl2, he2⟩
        have HRR := Lib.hid (show ∃ r, t' = t2 ++ r by
          obtain ⟨r, hr⟩ := hr1
          obtain ⟨r', hr'⟩ := hr2
          exact ⟨r' ++ r, by rw [hr, hr', List.append_assoc]⟩)
        cases y <;> cases z
        all_goals
          go_wp2
          go_ret2
          exact ⟨t2, by rw [HX.out]; rfl, by (repeat' (first | (with_reducible exact Below.refl _ _) | (with_reducible assumption) | (with_reducible refine Below.next ?_ (by with_reducible assumption)) | (with_reducible refine Below.drew ?_) | (with_reducible refine Below.laid ?_ _) | (with_reducible refine Below.setCell ?_ ?_ _) | (with_reducible refine size_of ?_) | (with_reducible refine Nat.le_succ_of_le ?_) | go_size)), HPR.out _ HRR.out, by simp; omega, he2⟩

set_option maxHeartbeats 1000000 in
theorem ref_In (v : Value) (t : List Int) (th a b c : Int) (i : Nat) (w : World) (h : IsInts w v t) (ht : Venn.termChk t = 0) (hw : Venn.worldChk ⟨th, a, b, c⟩ = 0) (hi : (i : Int) < th) :
    Calls Tryz.prog 155 #[v, .agg #[.int .i64 th, .int .i64 a, .int .i64 b, .int .i64 c], .int .i64 i] w (Keeps (.bool (Venn.bit (Venn.termSet t ⟨th, a, b, c⟩) i)) w) := by
  obtain ⟨A, cp, rfl, hrest⟩ := h
  have HI := Lib.hid (show IsInts w (.slice A t.length cp) t from ⟨A, cp, rfl, hrest⟩)
  clear hrest
  have hp := Venn.termChk_parts ht
  have HV := Lib.hid (Venn.bit_termSet ht ⟨th, a, b, c⟩ (show i < th.toNat by omega))
  have HC := Lib.hid (fun W hW => ref_in th a b c hw i hi t.length t _ _ A cp W rfl hp.2.1 hp.2.2.1 (HI.out.keep hW) (Venn.evO_term ht _))
  clear hp ht hw
  rw [HV.out]
  generalize Venn.evT t (fun k => Venn.bit ((⟨th, a, b, c⟩ : Venn.World).has k) i) = x at HC
  go_enter Tryz.func155, Tryz.ntmps155
  go_wp2_with (go_at_call 163; refine (HC.out _ (by (repeat' (first | (with_reducible exact Below.refl _ _) | (with_reducible assumption) | (with_reducible refine Below.next ?_ (by with_reducible assumption)) | (with_reducible refine Below.drew ?_) | (with_reducible refine Below.laid ?_ _) | (with_reducible refine Below.setCell ?_ ?_ _) | (with_reducible refine size_of ?_) | (with_reducible refine Nat.le_succ_of_le ?_) | go_size)))).mono ?_; rintro e w1 ⟨t1, rfl, hb1, hr1, hl1, he1⟩)
  go_ret
  exact ⟨rfl, by (repeat' (first | (with_reducible exact Below.refl _ _) | (with_reducible assumption) | (with_reducible refine Below.next ?_ (by with_reducible assumption)) | (with_reducible refine Below.drew ?_) | (with_reducible refine Below.laid ?_ _) | (with_reducible refine Below.setCell ?_ ?_ _) | (with_reducible refine size_of ?_) | (with_reducible refine Nat.le_succ_of_le ?_) | go_size))⟩

set_option maxHeartbeats 1000000 in
set_option maxRecDepth 100000 in
theorem ref_Value (v : Value) (t : List Int) (th a b c : Int) (w : World) (h : IsInts w v t) (ht : Venn.termChk t = 0) (hw : Venn.worldChk ⟨th, a, b, c⟩ = 0) :
    Calls Tryz.prog 137 #[v, .agg #[.int .i64 th, .int .i64 a, .int .i64 b, .int .i64 c]] w (Keeps (.int .i64 (Venn.termSet t ⟨th, a, b, c⟩)) w) := by
  obtain ⟨A, cp, rfl, hrest⟩ := h
  have HI := Lib.hid (show IsInts w (.slice A t.length cp) t from ⟨A, cp, rfl, hrest⟩)
  clear hrest
  have hth := (Venn.worldChk_iff.1 hw).1
  simp only [Venn.things, Bool.and_eq_true, decide_eq_true_eq] at hth
  obtain ⟨T, rfl⟩ := Int.eq_ofNat_of_zero_le hth.1
  have HN := Lib.hid (fun (i : Nat) (hi : (i : Int) < (T : Int)) W hW => ref_In (.slice A t.length cp) t T a b c i W (HI.out.keep hW) ht hw hi)
  have HE := Lib.hid (Venn.bitsTo_self (Venn.termSet_right hw t))
  generalize Venn.termSet t ⟨T, a, b, c⟩ = S at HN HE ⊢
  simp only [Int.toNat_natCast] at HE
  clear ht hw
  go_enter Tryz.func137, Tryz.ntmps137
  go_wp2
  go_loopw [5, 6] (fun s i wr => ∃ k : Nat, k ≤ T ∧ i = .int .i64 k ∧ s = .int .i64 (Venn.bitsTo S k) ∧ Below w.heap.size w wr ∧ Blk wr w.heap.size 45 #[.int .i64 T, .int .i64 a, .int .i64 b, .int .i64 c]) (fun _ i _ => T - (intOf i).toNat)
  case atStart => exact ⟨0, Nat.zero_le _, rfl, rfl, by (repeat' (first | (with_reducible exact Below.refl _ _) | (with_reducible assumption) | (with_reducible refine Below.next ?_ (by with_reducible assumption)) | (with_reducible refine Below.drew ?_) | (with_reducible refine Below.laid ?_ _) | (with_reducible refine Below.setCell ?_ ?_ _) | (with_reducible refine size_of ?_) | (with_reducible refine Nat.le_succ_of_le ?_) | go_size)), Blk.new _ _ _⟩
  case round =>
    obtain ⟨k, hk, rfl, rfl, hb, hB⟩ := hrel
    obtain ⟨wo, rfl⟩ : ∃ wo : World, wo = wr := ⟨_, rfl⟩
    obtain ⟨c0, c1, c2, c3⟩ := hB.cells4
    by_cases hlt : (k : Int) < (T : Int)
    · have hr := Venn.bitsTo_range S k
      have h2 : 2 ^ k ≤ 2 ^ 6 := Nat.pow_le_pow_right (by omega) (by omega)
      have HP := Lib.hid (fun W => ref_Power (k : Int) W (by omega))
      rw [Int.toNat_natCast] at HP
      cases hbk : Venn.bit S k
      · have HX := Lib.hid hbk
        have HS := Lib.hid (show Venn.bitsTo S (k + 1) = Venn.bitsTo S k by rw [Venn.bitsTo, hbk]; rfl)
        clear hbk
        go_wp2_with (go_at_call 155; refine (HN.out k hlt _ (by (repeat' (first | (with_reducible exact Below.refl _ _) | (with_reducible assumption) | (with_reducible refine Below.next ?_ (by with_reducible assumption)) | (with_reducible refine Below.drew ?_) | (with_reducible refine Below.laid ?_ _) | (with_reducible refine Below.setCell ?_ ?_ _) | (with_reducible refine size_of ?_) | (with_reducible refine Nat.le_succ_of_le ?_) | go_size)))).mono ?_; rintro e w1 ⟨rfl, hb1⟩; rw [HX.out])
        go_roundw
        case rel => exact ⟨k + 1, by omega, by go_num, by rw [HS.out], by (repeat' (first | (with_reducible exact Below.refl _ _) | (with_reducible assumption) | (with_reducible refine Below.next ?_ (by with_reducible assumption)) | (with_reducible refine Below.drew ?_) | (with_reducible refine Below.laid ?_ _) | (with_reducible refine Below.setCell ?_ ?_ _) | (with_reducible refine size_of ?_) | (with_reducible refine Nat.le_succ_of_le ?_) | go_size)), hB.keep hb1⟩
        case measure => simp [intOf]; omega
      · have HX := Lib.hid hbk
        have HS := Lib.hid (show Venn.bitsTo S (k + 1) = Venn.bitsTo S k + ((2 ^ k : Nat) : Int) by rw [Venn.bitsTo, hbk]; rfl)
        clear hbk
        generalize Venn.bitsTo S k = B at hr HS
        generalize 2 ^ k = P at HP HS hr h2
        have hwr : IntKind.i64.wrap (B + (P : Int)) = B + (P : Int) := IntWalk.i64_in _ (by omega)
        go_wp2_with (first
          | (go_at_call 155; refine (HN.out k hlt _ (by (repeat' (first | (with_reducible exact Below.refl _ _) | (with_reducible assumption) | (with_reducible refine Below.next ?_ (by with_reducible assumption)) | (with_reducible refine Below.drew ?_) | (with_reducible refine Below.laid ?_ _) | (with_reducible refine Below.setCell ?_ ?_ _) | (with_reducible refine size_of ?_) | (with_reducible refine Nat.le_succ_of_le ?_) | go_size)))).mono ?_; rintro e w1 ⟨rfl, hb1⟩; rw [HX.out])
          | (go_at_call 102; refine (HP.out _).mono ?_; rintro e w' ⟨rfl, rfl⟩))
        go_roundw
        case rel => exact ⟨k + 1, by omega, by go_num, by rw [HS.out], by (repeat' (first | (with_reducible exact Below.refl _ _) | (with_reducible assumption) | (with_reducible refine Below.next ?_ (by with_reducible assumption)) | (with_reducible refine Below.drew ?_) | (with_reducible refine Below.laid ?_ _) | (with_reducible refine Below.setCell ?_ ?_ _) | (with_reducible refine size_of ?_) | (with_reducible refine Nat.le_succ_of_le ?_) | go_size)), hB.keep hb1⟩
        case measure => simp [intOf]; omega
    · have hkT : k = T := by omega
      subst hkT
      go_wp2
      go_ret
      exact ⟨ret_int HE.out, hb⟩
end Go.Proofs.YtjnjgcibhjdmdaaGreatDoor

namespace Go.Proofs.YtjnjgcibhjdmdaaGreatDoor
open Go.RowKit

set_option maxHeartbeats 4000000 in
set_option maxRecDepth 100000 in
theorem ref_Atom (what n : Int) (sv tv : Value) (s t : List Int) (w : World) (hs : IsInts w sv s) (ht : IsInts w tv t) :
    Calls Tryz.prog 20 #[.agg #[.int .i64 what, sv, tv, .int .i64 n]] w (Keeps (.int .i64 (Venn.atomChk ⟨what, s, t, n⟩)) w) := by
  obtain ⟨sA, sc, rfl, hs'⟩ := hs
  obtain ⟨tA, tc, rfl, ht'⟩ := ht
  have HS := Lib.hid (show IsInts w (.slice sA s.length sc) s from ⟨sA, sc, rfl, hs'⟩)
  have HT := Lib.hid (show IsInts w (.slice tA t.length tc) t from ⟨tA, tc, rfl, ht'⟩)
  clear hs' ht'
  obtain ⟨E, hE⟩ : ∃ E, E = Venn.atomChk ⟨what, s, t, n⟩ := ⟨_, rfl⟩
  rw [← hE]
  by_cases h1 : what < 1
  · have HV := Lib.hid (show E = 1 by rw [hE, Venn.atomChk, if_pos (.inl h1)])
    clear hE
    go_enter Tryz.func20, Tryz.ntmps20
    go_wp2
    go_ret
    exact ⟨ret_int HV.out.symm, by (repeat' (first | (with_reducible exact Below.refl _ _) | (with_reducible assumption) | (with_reducible refine Below.next ?_ (by with_reducible assumption)) | (with_reducible refine Below.drew ?_) | (with_reducible refine Below.laid ?_ _) | (with_reducible refine Below.setCell ?_ ?_ _) | (with_reducible refine size_of ?_) | (with_reducible refine Nat.le_succ_of_le ?_) | go_size))⟩
  by_cases h2 : 5 < what
  · have HV := Lib.hid (show E = 1 by rw [hE, Venn.atomChk, if_pos (.inr h2)])
    clear hE
    go_enter Tryz.func20, Tryz.ntmps20
    go_wp2
    go_ret
    exact ⟨ret_int HV.out.symm, by (repeat' (first | (with_reducible exact Below.refl _ _) | (with_reducible assumption) | (with_reducible refine Below.next ?_ (by with_reducible assumption)) | (with_reducible refine Below.drew ?_) | (with_reducible refine Below.laid ?_ _) | (with_reducible refine Below.setCell ?_ ?_ _) | (with_reducible refine size_of ?_) | (with_reducible refine Nat.le_succ_of_le ?_) | go_size))⟩
  have HTS := Lib.hid (fun W h => ref_Term (.slice sA s.length sc) s W h)
  have HTT := Lib.hid (fun W h => ref_Term (.slice tA t.length tc) t W h)
  rcases (by omega : what = 1 ∨ what = 2 ∨ what = 3 ∨ what = 4 ∨ what = 5) with rfl | rfl | rfl | rfl | rfl
  · have hna : ∀ m : Int, Venn.nChk 1 n = m → Venn.termChk s = 0 → Venn.termChk t = 0 → Venn.atomChk ⟨1, s, t, n⟩ = m := fun m h1 h2 h3 => by
      simp [Venn.atomChk, h2, h3, Venn.hasT, h1]
    by_cases hS : ¬ Venn.termChk s = 0
    · have HV := Lib.hid (show E = Venn.termChk s by rw [hE]; simp [Venn.atomChk, hS])
      have q : (Venn.termChk s != 0) = true := by simpa using hS
      clear hE hna hS
      generalize Venn.termChk s = ES at q HV HTS
      go_enter Tryz.func20, Tryz.ntmps20
      go_wp2_with fail
      refine (HTS.out _ (HS.out.keep (by (repeat' (first | (with_reducible exact Below.refl _ _) | (with_reducible assumption) | (with_reducible refine Below.next ?_ (by with_reducible assumption)) | (with_reducible refine Below.drew ?_) | (with_reducible refine Below.laid ?_ _) | (with_reducible refine Below.setCell ?_ ?_ _) | (with_reducible refine size_of ?_) | (with_reducible refine Nat.le_succ_of_le ?_) | go_size))))).mono ?_
      rintro e w1 ⟨rfl, rfl⟩
      go_wp2
      go_ret
      exact ⟨ret_int HV.out.symm, by (repeat' (first | (with_reducible exact Below.refl _ _) | (with_reducible assumption) | (with_reducible refine Below.next ?_ (by with_reducible assumption)) | (with_reducible refine Below.drew ?_) | (with_reducible refine Below.laid ?_ _) | (with_reducible refine Below.setCell ?_ ?_ _) | (with_reducible refine size_of ?_) | (with_reducible refine Nat.le_succ_of_le ?_) | go_size))⟩
    replace hS := Decidable.not_not.1 hS
    have HZS := Lib.hid hS
    by_cases hT : ¬ Venn.termChk t = 0
    · have HV := Lib.hid (show E = Venn.termChk t by rw [hE]; simp [Venn.atomChk, hS, hT, Venn.hasT])
      have q : (Venn.termChk t != 0) = true := by simpa using hT
      clear hE hna hS hT
      generalize Venn.termChk t = ET at q HV HTT
      go_enter Tryz.func20, Tryz.ntmps20
      go_wp2_with fail
      refine (HTS.out _ (HS.out.keep (by (repeat' (first | (with_reducible exact Below.refl _ _) | (with_reducible assumption) | (with_reducible refine Below.next ?_ (by with_reducible assumption)) | (with_reducible refine Below.drew ?_) | (with_reducible refine Below.laid ?_ _) | (with_reducible refine Below.setCell ?_ ?_ _) | (with_reducible refine size_of ?_) | (with_reducible refine Nat.le_succ_of_le ?_) | go_size))))).mono ?_
      rintro e w1 ⟨rfl, rfl⟩
      rw [HZS.out]
      go_wp2_with fail
      refine (HTT.out _ (HT.out.keep (by (repeat' (first | (with_reducible exact Below.refl _ _) | (with_reducible assumption) | (with_reducible refine Below.next ?_ (by with_reducible assumption)) | (with_reducible refine Below.drew ?_) | (with_reducible refine Below.laid ?_ _) | (with_reducible refine Below.setCell ?_ ?_ _) | (with_reducible refine size_of ?_) | (with_reducible refine Nat.le_succ_of_le ?_) | go_size))))).mono ?_
      rintro e w1 ⟨rfl, rfl⟩
      go_wp2
      go_ret
      exact ⟨ret_int HV.out.symm, by (repeat' (first | (with_reducible exact Below.refl _ _) | (with_reducible assumption) | (with_reducible refine Below.next ?_ (by with_reducible assumption)) | (with_reducible refine Below.drew ?_) | (with_reducible refine Below.laid ?_ _) | (with_reducible refine Below.setCell ?_ ?_ _) | (with_reducible refine size_of ?_) | (with_reducible refine Nat.le_succ_of_le ?_) | go_size))⟩
    replace hT := Decidable.not_not.1 hT
    have HZT := Lib.hid hT
    by_cases n1 : n < -20
    · have HV := Lib.hid (show E = 1 by rw [hE]; exact hna _ (by unfold Venn.nChk; rw [if_pos (by omega)]) hS hT)
      clear hE hna hS hT
      go_enter Tryz.func20, Tryz.ntmps20
      go_wp2_with fail
      refine (HTS.out _ (HS.out.keep (by (repeat' (first | (with_reducible exact Below.refl _ _) | (with_reducible assumption) | (with_reducible refine Below.next ?_ (by with_reducible assumption)) | (with_reducible refine Below.drew ?_) | (with_reducible refine Below.laid ?_ _) | (with_reducible refine Below.setCell ?_ ?_ _) | (with_reducible refine size_of ?_) | (with_reducible refine Nat.le_succ_of_le ?_) | go_size))))).mono ?_
      rintro e w1 ⟨rfl, rfl⟩
      rw [HZS.out]
      go_wp2_with fail
      refine (HTT.out _ (HT.out.keep (by (repeat' (first | (with_reducible exact Below.refl _ _) | (with_reducible assumption) | (with_reducible refine Below.next ?_ (by with_reducible assumption)) | (with_reducible refine Below.drew ?_) | (with_reducible refine Below.laid ?_ _) | (with_reducible refine Below.setCell ?_ ?_ _) | (with_reducible refine size_of ?_) | (with_reducible refine Nat.le_succ_of_le ?_) | go_size))))).mono ?_
      rintro e w1 ⟨rfl, rfl⟩
      rw [HZT.out]
      go_wp2
      go_ret
      exact ⟨ret_int HV.out.symm, by (repeat' (first | (with_reducible exact Below.refl _ _) | (with_reducible assumption) | (with_reducible refine Below.next ?_ (by with_reducible assumption)) | (with_reducible refine Below.drew ?_) | (with_reducible refine Below.laid ?_ _) | (with_reducible refine Below.setCell ?_ ?_ _) | (with_reducible refine size_of ?_) | (with_reducible refine Nat.le_succ_of_le ?_) | go_size))⟩
    by_cases n2 : 20 < n
    · have HV := Lib.hid (show E = 1 by rw [hE]; exact hna _ (by unfold Venn.nChk; rw [if_pos (by omega)]) hS hT)
      clear hE hna hS hT
      go_enter Tryz.func20, Tryz.ntmps20
      go_wp2_with fail
      refine (HTS.out _ (HS.out.keep (by (repeat' (first | (with_reducible exact Below.refl _ _) | (with_reducible assumption) | (with_reducible refine Below.next ?_ (by with_reducible assumption)) | (with_reducible refine Below.drew ?_) | (with_reducible refine Below.laid ?_ _) | (with_reducible refine Below.setCell ?_ ?_ _) | (with_reducible refine size_of ?_) | (with_reducible refine Nat.le_succ_of_le ?_) | go_size))))).mono ?_
      rintro e w1 ⟨rfl, rfl⟩
      rw [HZS.out]
      go_wp2_with fail
      refine (HTT.out _ (HT.out.keep (by (repeat' (first | (with_reducible exact Below.refl _ _) | (with_reducible assumption) | (with_reducible refine Below.next ?_ (by with_reducible assumption)) | (with_reducible refine Below.drew ?_) | (with_reducible refine Below.laid ?_ _) | (with_reducible refine Below.setCell ?_ ?_ _) | (with_reducible refine size_of ?_) | (with_reducible refine Nat.le_succ_of_le ?_) | go_size))))).mono ?_
      rintro e w1 ⟨rfl, rfl⟩
      rw [HZT.out]
      go_wp2
      go_ret
      exact ⟨ret_int HV.out.symm, by (repeat' (first | (with_reducible exact Below.refl _ _) | (with_reducible assumption) | (with_reducible refine Below.next ?_ (by with_reducible assumption)) | (with_reducible refine Below.drew ?_) | (with_reducible refine Below.laid ?_ _) | (with_reducible refine Below.setCell ?_ ?_ _) | (with_reducible refine size_of ?_) | (with_reducible refine Nat.le_succ_of_le ?_) | go_size))⟩
    by_cases n3 : ¬ n = 0
    · have HV := Lib.hid (show E = 1 by rw [hE]; exact hna _ (by unfold Venn.nChk; rw [if_pos (by omega)]) hS hT)
      have q3 : (n != 0) = true := by simpa using n3
      clear hE hna hS hT
      go_enter Tryz.func20, Tryz.ntmps20
      go_wp2_with fail
      refine (HTS.out _ (HS.out.keep (by (repeat' (first | (with_reducible exact Below.refl _ _) | (with_reducible assumption) | (with_reducible refine Below.next ?_ (by with_reducible assumption)) | (with_reducible refine Below.drew ?_) | (with_reducible refine Below.laid ?_ _) | (with_reducible refine Below.setCell ?_ ?_ _) | (with_reducible refine size_of ?_) | (with_reducible refine Nat.le_succ_of_le ?_) | go_size))))).mono ?_
      rintro e w1 ⟨rfl, rfl⟩
      rw [HZS.out]
      go_wp2_with fail
      refine (HTT.out _ (HT.out.keep (by (repeat' (first | (with_reducible exact Below.refl _ _) | (with_reducible assumption) | (with_reducible refine Below.next ?_ (by with_reducible assumption)) | (with_reducible refine Below.drew ?_) | (with_reducible refine Below.laid ?_ _) | (with_reducible refine Below.setCell ?_ ?_ _) | (with_reducible refine size_of ?_) | (with_reducible refine Nat.le_succ_of_le ?_) | go_size))))).mono ?_
      rintro e w1 ⟨rfl, rfl⟩
      rw [HZT.out]
      go_wp2
      go_ret
      exact ⟨ret_int HV.out.symm, by (repeat' (first | (with_reducible exact Below.refl _ _) | (with_reducible assumption) | (with_reducible refine Below.next ?_ (by with_reducible assumption)) | (with_reducible refine Below.drew ?_) | (with_reducible refine Below.laid ?_ _) | (with_reducible refine Below.setCell ?_ ?_ _) | (with_reducible refine size_of ?_) | (with_reducible refine Nat.le_succ_of_le ?_) | go_size))⟩
    replace n3 := Decidable.not_not.1 n3
    · have HV := Lib.hid (show E = 0 by rw [hE]; exact hna _ (by unfold Venn.nChk; rw [if_neg (by omega)]) hS hT)
      have q3 : (n != 0) = false := by simpa using n3
      clear n3
      clear hE hna hS hT
      go_enter Tryz.func20, Tryz.ntmps20
      go_wp2_with fail
      refine (HTS.out _ (HS.out.keep (by (repeat' (first | (with_reducible exact Below.refl _ _) | (with_reducible assumption) | (with_reducible refine Below.next ?_ (by with_reducible assumption)) | (with_reducible refine Below.drew ?_) | (with_reducible refine Below.laid ?_ _) | (with_reducible refine Below.setCell ?_ ?_ _) | (with_reducible refine size_of ?_) | (with_reducible refine Nat.le_succ_of_le ?_) | go_size))))).mono ?_
      rintro e w1 ⟨rfl, rfl⟩
      rw [HZS.out]
      go_wp2_with fail
      refine (HTT.out _ (HT.out.keep (by (repeat' (first | (with_reducible exact Below.refl _ _) | (with_reducible assumption) | (with_reducible refine Below.next ?_ (by with_reducible assumption)) | (with_reducible refine Below.drew ?_) | (with_reducible refine Below.laid ?_ _) | (with_reducible refine Below.setCell ?_ ?_ _) | (with_reducible refine size_of ?_) | (with_reducible refine Nat.le_succ_of_le ?_) | go_size))))).mono ?_
      rintro e w1 ⟨rfl, rfl⟩
      rw [HZT.out]
      go_wp2
      go_ret
      exact ⟨ret_int HV.out.symm, by (repeat' (first | (with_reducible exact Below.refl _ _) | (with_reducible assumption) | (with_reducible refine Below.next ?_ (by with_reducible assumption)) | (with_reducible refine Below.drew ?_) | (with_reducible refine Below.laid ?_ _) | (with_reducible refine Below.setCell ?_ ?_ _) | (with_reducible refine size_of ?_) | (with_reducible refine Nat.le_succ_of_le ?_) | go_size))⟩
  · have hna : ∀ m : Int, Venn.nChk 2 n = m → Venn.termChk s = 0 → Venn.termChk t = 0 → Venn.atomChk ⟨2, s, t, n⟩ = m := fun m h1 h2 h3 => by
      simp [Venn.atomChk, h2, h3, Venn.hasT, h1]
    by_cases hS : ¬ Venn.termChk s = 0
    · have HV := Lib.hid (show E = Venn.termChk s by rw [hE]; simp [Venn.atomChk, hS])
      have q : (Venn.termChk s != 0) = true := by simpa using hS
      clear hE hna hS
      generalize Venn.termChk s = ES at q HV HTS
      go_enter Tryz.func20, Tryz.ntmps20
      go_wp2_with fail
      refine (HTS.out _ (HS.out.keep (by (repeat' (first | (with_reducible exact Below.refl _ _) | (with_reducible assumption) | (with_reducible refine Below.next ?_ (by with_reducible assumption)) | (with_reducible refine Below.drew ?_) | (with_reducible refine Below.laid ?_ _) | (with_reducible refine Below.setCell ?_ ?_ _) | (with_reducible refine size_of ?_) | (with_reducible refine Nat.le_succ_of_le ?_) | go_size))))).mono ?_
      rintro e w1 ⟨rfl, rfl⟩
      go_wp2
      go_ret
      exact ⟨ret_int HV.out.symm, by (repeat' (first | (with_reducible exact Below.refl _ _) | (with_reducible assumption) | (with_reducible refine Below.next ?_ (by with_reducible assumption)) | (with_reducible refine Below.drew ?_) | (with_reducible refine Below.laid ?_ _) | (with_reducible refine Below.setCell ?_ ?_ _) | (with_reducible refine size_of ?_) | (with_reducible refine Nat.le_succ_of_le ?_) | go_size))⟩
    replace hS := Decidable.not_not.1 hS
    have HZS := Lib.hid hS
    by_cases hT : ¬ Venn.termChk t = 0
    · have HV := Lib.hid (show E = Venn.termChk t by rw [hE]; simp [Venn.atomChk, hS, hT, Venn.hasT])
      have q : (Venn.termChk t != 0) = true := by simpa using hT
      clear hE hna hS hT
      generalize Venn.termChk t = ET at q HV HTT
      go_enter Tryz.func20, Tryz.ntmps20
      go_wp2_with fail
      refine (HTS.out _ (HS.out.keep (by (repeat' (first | (with_reducible exact Below.refl _ _) | (with_reducible assumption) | (with_reducible refine Below.next ?_ (by with_reducible assumption)) | (with_reducible refine Below.drew ?_) | (with_reducible refine Below.laid ?_ _) | (with_reducible refine Below.setCell ?_ ?_ _) | (with_reducible refine size_of ?_) | (with_reducible refine Nat.le_succ_of_le ?_) | go_size))))).mono ?_
      rintro e w1 ⟨rfl, rfl⟩
      rw [HZS.out]
      go_wp2_with fail
      refine (HTT.out _ (HT.out.keep (by (repeat' (first | (with_reducible exact Below.refl _ _) | (with_reducible assumption) | (with_reducible refine Below.next ?_ (by with_reducible assumption)) | (with_reducible refine Below.drew ?_) | (with_reducible refine Below.laid ?_ _) | (with_reducible refine Below.setCell ?_ ?_ _) | (with_reducible refine size_of ?_) | (with_reducible refine Nat.le_succ_of_le ?_) | go_size))))).mono ?_
      rintro e w1 ⟨rfl, rfl⟩
      go_wp2
      go_ret
      exact ⟨ret_int HV.out.symm, by (repeat' (first | (with_reducible exact Below.refl _ _) | (with_reducible assumption) | (with_reducible refine Below.next ?_ (by with_reducible assumption)) | (with_reducible refine Below.drew ?_) | (with_reducible refine Below.laid ?_ _) | (with_reducible refine Below.setCell ?_ ?_ _) | (with_reducible refine size_of ?_) | (with_reducible refine Nat.le_succ_of_le ?_) | go_size))⟩
    replace hT := Decidable.not_not.1 hT
    have HZT := Lib.hid hT
    by_cases n1 : n < -20
    · have HV := Lib.hid (show E = 1 by rw [hE]; exact hna _ (by unfold Venn.nChk; rw [if_pos (by omega)]) hS hT)
      clear hE hna hS hT
      go_enter Tryz.func20, Tryz.ntmps20
      go_wp2_with fail
      refine (HTS.out _ (HS.out.keep (by (repeat' (first | (with_reducible exact Below.refl _ _) | (with_reducible assumption) | (with_reducible refine Below.next ?_ (by with_reducible assumption)) | (with_reducible refine Below.drew ?_) | (with_reducible refine Below.laid ?_ _) | (with_reducible refine Below.setCell ?_ ?_ _) | (with_reducible refine size_of ?_) | (with_reducible refine Nat.le_succ_of_le ?_) | go_size))))).mono ?_
      rintro e w1 ⟨rfl, rfl⟩
      rw [HZS.out]
      go_wp2_with fail
      refine (HTT.out _ (HT.out.keep (by (repeat' (first | (with_reducible exact Below.refl _ _) | (with_reducible assumption) | (with_reducible refine Below.next ?_ (by with_reducible assumption)) | (with_reducible refine Below.drew ?_) | (with_reducible refine Below.laid ?_ _) | (with_reducible refine Below.setCell ?_ ?_ _) | (with_reducible refine size_of ?_) | (with_reducible refine Nat.le_succ_of_le ?_) | go_size))))).mono ?_
      rintro e w1 ⟨rfl, rfl⟩
      rw [HZT.out]
      go_wp2
      go_ret
      exact ⟨ret_int HV.out.symm, by (repeat' (first | (with_reducible exact Below.refl _ _) | (with_reducible assumption) | (with_reducible refine Below.next ?_ (by with_reducible assumption)) | (with_reducible refine Below.drew ?_) | (with_reducible refine Below.laid ?_ _) | (with_reducible refine Below.setCell ?_ ?_ _) | (with_reducible refine size_of ?_) | (with_reducible refine Nat.le_succ_of_le ?_) | go_size))⟩
    by_cases n2 : 20 < n
    · have HV := Lib.hid (show E = 1 by rw [hE]; exact hna _ (by unfold Venn.nChk; rw [if_pos (by omega)]) hS hT)
      clear hE hna hS hT
      go_enter Tryz.func20, Tryz.ntmps20
      go_wp2_with fail
      refine (HTS.out _ (HS.out.keep (by (repeat' (first | (with_reducible exact Below.refl _ _) | (with_reducible assumption) | (with_reducible refine Below.next ?_ (by with_reducible assumption)) | (with_reducible refine Below.drew ?_) | (with_reducible refine Below.laid ?_ _) | (with_reducible refine Below.setCell ?_ ?_ _) | (with_reducible refine size_of ?_) | (with_reducible refine Nat.le_succ_of_le ?_) | go_size))))).mono ?_
      rintro e w1 ⟨rfl, rfl⟩
      rw [HZS.out]
      go_wp2_with fail
      refine (HTT.out _ (HT.out.keep (by (repeat' (first | (with_reducible exact Below.refl _ _) | (with_reducible assumption) | (with_reducible refine Below.next ?_ (by with_reducible assumption)) | (with_reducible refine Below.drew ?_) | (with_reducible refine Below.laid ?_ _) | (with_reducible refine Below.setCell ?_ ?_ _) | (with_reducible refine size_of ?_) | (with_reducible refine Nat.le_succ_of_le ?_) | go_size))))).mono ?_
      rintro e w1 ⟨rfl, rfl⟩
      rw [HZT.out]
      go_wp2
      go_ret
      exact ⟨ret_int HV.out.symm, by (repeat' (first | (with_reducible exact Below.refl _ _) | (with_reducible assumption) | (with_reducible refine Below.next ?_ (by with_reducible assumption)) | (with_reducible refine Below.drew ?_) | (with_reducible refine Below.laid ?_ _) | (with_reducible refine Below.setCell ?_ ?_ _) | (with_reducible refine size_of ?_) | (with_reducible refine Nat.le_succ_of_le ?_) | go_size))⟩
    by_cases n3 : ¬ n = 0
    · have HV := Lib.hid (show E = 1 by rw [hE]; exact hna _ (by unfold Venn.nChk; rw [if_pos (by omega)]) hS hT)
      have q3 : (n != 0) = true := by simpa using n3
      clear hE hna hS hT
      go_enter Tryz.func20, Tryz.ntmps20
      go_wp2_with fail
      refine (HTS.out _ (HS.out.keep (by (repeat' (first | (with_reducible exact Below.refl _ _) | (with_reducible assumption) | (with_reducible refine Below.next ?_ (by with_reducible assumption)) | (with_reducible refine Below.drew ?_) | (with_reducible refine Below.laid ?_ _) | (with_reducible refine Below.setCell ?_ ?_ _) | (with_reducible refine size_of ?_) | (with_reducible refine Nat.le_succ_of_le ?_) | go_size))))).mono ?_
      rintro e w1 ⟨rfl, rfl⟩
      rw [HZS.out]
      go_wp2_with fail
      refine (HTT.out _ (HT.out.keep (by (repeat' (first | (with_reducible exact Below.refl _ _) | (with_reducible assumption) | (with_reducible refine Below.next ?_ (by with_reducible assumption)) | (with_reducible refine Below.drew ?_) | (with_reducible refine Below.laid ?_ _) | (with_reducible refine Below.setCell ?_ ?_ _) | (with_reducible refine size_of ?_) | (with_reducible refine Nat.le_succ_of_le ?_) | go_size))))).mono ?_
      rintro e w1 ⟨rfl, rfl⟩
      rw [HZT.out]
      go_wp2
      go_ret
      exact ⟨ret_int HV.out.symm, by (repeat' (first | (with_reducible exact Below.refl _ _) | (with_reducible assumption) | (with_reducible refine Below.next ?_ (by with_reducible assumption)) | (with_reducible refine Below.drew ?_) | (with_reducible refine Below.laid ?_ _) | (with_reducible refine Below.setCell ?_ ?_ _) | (with_reducible refine size_of ?_) | (with_reducible refine Nat.le_succ_of_le ?_) | go_size))⟩
    replace n3 := Decidable.not_not.1 n3
    · have HV := Lib.hid (show E = 0 by rw [hE]; exact hna _ (by unfold Venn.nChk; rw [if_neg (by omega)]) hS hT)
      have q3 : (n != 0) = false := by simpa using n3
      clear n3
      clear hE hna hS hT
      go_enter Tryz.func20, Tryz.ntmps20
      go_wp2_with fail
      refine (HTS.out _ (HS.out.keep (by (repeat' (first | (with_reducible exact Below.refl _ _) | (with_reducible assumption) | (with_reducible refine Below.next ?_ (by with_reducible assumption)) | (with_reducible refine Below.drew ?_) | (with_reducible refine Below.laid ?_ _) | (with_reducible refine Below.setCell ?_ ?_ _) | (with_reducible refine size_of ?_) | (with_reducible refine Nat.le_succ_of_le ?_) | go_size))))).mono ?_
      rintro e w1 ⟨rfl, rfl⟩
      rw [HZS.out]
      go_wp2_with fail
      refine (HTT.out _ (HT.out.keep (by (repeat' (first | (with_reducible exact Below.refl _ _) | (with_reducible assumption) | (with_reducible refine Below.next ?_ (by with_reducible assumption)) | (with_reducible refine Below.drew ?_) | (with_reducible refine Below.laid ?_ _) | (with_reducible refine Below.setCell ?_ ?_ _) | (with_reducible refine size_of ?_) | (with_reducible refine Nat.le_succ_of_le ?_) | go_size))))).mono ?_
      rintro e w1 ⟨rfl, rfl⟩
      rw [HZT.out]
      go_wp2
      go_ret
      exact ⟨ret_int HV.out.symm, by (repeat' (first | (with_reducible exact Below.refl _ _) | (with_reducible assumption) | (with_reducible refine Below.next ?_ (by with_reducible assumption)) | (with_reducible refine Below.drew ?_) | (with_reducible refine Below.laid ?_ _) | (with_reducible refine Below.setCell ?_ ?_ _) | (with_reducible refine size_of ?_) | (with_reducible refine Nat.le_succ_of_le ?_) | go_size))⟩
  · have hna : ∀ m : Int, Venn.nChk 3 n = m → Venn.termChk s = 0 → t = [] → Venn.atomChk ⟨3, s, t, n⟩ = m := fun m h1 h2 h3 => by
      simp [Venn.atomChk, h2, h3, Venn.hasT, h1]
    by_cases hS : ¬ Venn.termChk s = 0
    · have HV := Lib.hid (show E = Venn.termChk s by rw [hE]; simp [Venn.atomChk, hS])
      have q : (Venn.termChk s != 0) = true := by simpa using hS
      clear hE hna hS
      generalize Venn.termChk s = ES at q HV HTS
      go_enter Tryz.func20, Tryz.ntmps20
      go_wp2_with fail
      refine (HTS.out _ (HS.out.keep (by (repeat' (first | (with_reducible exact Below.refl _ _) | (with_reducible assumption) | (with_reducible refine Below.next ?_ (by with_reducible assumption)) | (with_reducible refine Below.drew ?_) | (with_reducible refine Below.laid ?_ _) | (with_reducible refine Below.setCell ?_ ?_ _) | (with_reducible refine size_of ?_) | (with_reducible refine Nat.le_succ_of_le ?_) | go_size))))).mono ?_
      rintro e w1 ⟨rfl, rfl⟩
      go_wp2
      go_ret
      exact ⟨ret_int HV.out.symm, by (repeat' (first | (with_reducible exact Below.refl _ _) | (with_reducible assumption) | (with_reducible refine Below.next ?_ (by with_reducible assumption)) | (with_reducible refine Below.drew ?_) | (with_reducible refine Below.laid ?_ _) | (with_reducible refine Below.setCell ?_ ?_ _) | (with_reducible refine size_of ?_) | (with_reducible refine Nat.le_succ_of_le ?_) | go_size))⟩
    replace hS := Decidable.not_not.1 hS
    have HZS := Lib.hid hS
    by_cases hT : ¬ t = []
    · have HV := Lib.hid (show E = 3 by rw [hE]; simp [Venn.atomChk, hS, hT, Venn.hasT])
      have q : (0 : Int) < (t.length : Int) := by
        rcases t with _ | ⟨x, t⟩
        · exact absurd rfl hT
        · simp only [List.length_cons]; omega
      clear hE hna hS hT
      go_enter Tryz.func20, Tryz.ntmps20
      go_wp2_with fail
      refine (HTS.out _ (HS.out.keep (by (repeat' (first | (with_reducible exact Below.refl _ _) | (with_reducible assumption) | (with_reducible refine Below.next ?_ (by with_reducible assumption)) | (with_reducible refine Below.drew ?_) | (with_reducible refine Below.laid ?_ _) | (with_reducible refine Below.setCell ?_ ?_ _) | (with_reducible refine size_of ?_) | (with_reducible refine Nat.le_succ_of_le ?_) | go_size))))).mono ?_
      rintro e w1 ⟨rfl, rfl⟩
      rw [HZS.out]
      go_wp2
      go_ret
      exact ⟨ret_int HV.out.symm, by (repeat' (first | (with_reducible exact Below.refl _ _) | (with_reducible assumption) | (with_reducible refine Below.next ?_ (by with_reducible assumption)) | (with_reducible refine Below.drew ?_) | (with_reducible refine Below.laid ?_ _) | (with_reducible refine Below.setCell ?_ ?_ _) | (with_reducible refine size_of ?_) | (with_reducible refine Nat.le_succ_of_le ?_) | go_size))⟩
    replace hT := Decidable.not_not.1 hT
    have q : ¬ (0 : Int) < (t.length : Int) := by rw [hT]; simp
    by_cases n1 : n < -20
    · have HV := Lib.hid (show E = 1 by rw [hE]; exact hna _ (by unfold Venn.nChk; rw [if_pos (by omega)]) hS hT)
      clear hE hna hS hT
      go_enter Tryz.func20, Tryz.ntmps20
      go_wp2_with fail
      refine (HTS.out _ (HS.out.keep (by (repeat' (first | (with_reducible exact Below.refl _ _) | (with_reducible assumption) | (with_reducible refine Below.next ?_ (by with_reducible assumption)) | (with_reducible refine Below.drew ?_) | (with_reducible refine Below.laid ?_ _) | (with_reducible refine Below.setCell ?_ ?_ _) | (with_reducible refine size_of ?_) | (with_reducible refine Nat.le_succ_of_le ?_) | go_size))))).mono ?_
      rintro e w1 ⟨rfl, rfl⟩
      rw [HZS.out]
      go_wp2
      go_ret
      exact ⟨ret_int HV.out.symm, by (repeat' (first | (with_reducible exact Below.refl _ _) | (with_reducible assumption) | (with_reducible refine Below.next ?_ (by with_reducible assumption)) | (with_reducible refine Below.drew ?_) | (with_reducible refine Below.laid ?_ _) | (with_reducible refine Below.setCell ?_ ?_ _) | (with_reducible refine size_of ?_) | (with_reducible refine Nat.le_succ_of_le ?_) | go_size))⟩
    by_cases n2 : 20 < n
    · have HV := Lib.hid (show E = 1 by rw [hE]; exact hna _ (by unfold Venn.nChk; rw [if_pos (by omega)]) hS hT)
      clear hE hna hS hT
      go_enter Tryz.func20, Tryz.ntmps20
      go_wp2_with fail
      refine (HTS.out _ (HS.out.keep (by (repeat' (first | (with_reducible exact Below.refl _ _) | (with_reducible assumption) | (with_reducible refine Below.next ?_ (by with_reducible assumption)) | (with_reducible refine Below.drew ?_) | (with_reducible refine Below.laid ?_ _) | (with_reducible refine Below.setCell ?_ ?_ _) | (with_reducible refine size_of ?_) | (with_reducible refine Nat.le_succ_of_le ?_) | go_size))))).mono ?_
      rintro e w1 ⟨rfl, rfl⟩
      rw [HZS.out]
      go_wp2
      go_ret
      exact ⟨ret_int HV.out.symm, by (repeat' (first | (with_reducible exact Below.refl _ _) | (with_reducible assumption) | (with_reducible refine Below.next ?_ (by with_reducible assumption)) | (with_reducible refine Below.drew ?_) | (with_reducible refine Below.laid ?_ _) | (with_reducible refine Below.setCell ?_ ?_ _) | (with_reducible refine size_of ?_) | (with_reducible refine Nat.le_succ_of_le ?_) | go_size))⟩
    · have HV := Lib.hid (show E = 0 by rw [hE]; exact hna _ (by unfold Venn.nChk; rw [if_neg (by omega)]) hS hT)
      clear hE hna hS hT
      go_enter Tryz.func20, Tryz.ntmps20
      go_wp2_with fail
      refine (HTS.out _ (HS.out.keep (by (repeat' (first | (with_reducible exact Below.refl _ _) | (with_reducible assumption) | (with_reducible refine Below.next ?_ (by with_reducible assumption)) | (with_reducible refine Below.drew ?_) | (with_reducible refine Below.laid ?_ _) | (with_reducible refine Below.setCell ?_ ?_ _) | (with_reducible refine size_of ?_) | (with_reducible refine Nat.le_succ_of_le ?_) | go_size))))).mono ?_
      rintro e w1 ⟨rfl, rfl⟩
      rw [HZS.out]
      go_wp2
      go_ret
      exact ⟨ret_int HV.out.symm, by (repeat' (first | (with_reducible exact Below.refl _ _) | (with_reducible assumption) | (with_reducible refine Below.next ?_ (by with_reducible assumption)) | (with_reducible refine Below.drew ?_) | (with_reducible refine Below.laid ?_ _) | (with_reducible refine Below.setCell ?_ ?_ _) | (with_reducible refine size_of ?_) | (with_reducible refine Nat.le_succ_of_le ?_) | go_size))⟩
  · have hna : ∀ m : Int, Venn.nChk 4 n = m → Venn.termChk s = 0 → t = [] → Venn.atomChk ⟨4, s, t, n⟩ = m := fun m h1 h2 h3 => by
      simp [Venn.atomChk, h2, h3, Venn.hasT, h1]
    by_cases hS : ¬ Venn.termChk s = 0
    · have HV := Lib.hid (show E = Venn.termChk s by rw [hE]; simp [Venn.atomChk, hS])
      have q : (Venn.termChk s != 0) = true := by simpa using hS
      clear hE hna hS
      generalize Venn.termChk s = ES at q HV HTS
      go_enter Tryz.func20, Tryz.ntmps20
      go_wp2_with fail
      refine (HTS.out _ (HS.out.keep (by (repeat' (first | (with_reducible exact Below.refl _ _) | (with_reducible assumption) | (with_reducible refine Below.next ?_ (by with_reducible assumption)) | (with_reducible refine Below.drew ?_) | (with_reducible refine Below.laid ?_ _) | (with_reducible refine Below.setCell ?_ ?_ _) | (with_reducible refine size_of ?_) | (with_reducible refine Nat.le_succ_of_le ?_) | go_size))))).mono ?_
      rintro e w1 ⟨rfl, rfl⟩
      go_wp2
      go_ret
      exact ⟨ret_int HV.out.symm, by (repeat' (first | (with_reducible exact Below.refl _ _) | (with_reducible assumption) | (with_reducible refine Below.next ?_ (by with_reducible assumption)) | (with_reducible refine Below.drew ?_) | (with_reducible refine Below.laid ?_ _) | (with_reducible refine Below.setCell ?_ ?_ _) | (with_reducible refine size_of ?_) | (with_reducible refine Nat.le_succ_of_le ?_) | go_size))⟩
    replace hS := Decidable.not_not.1 hS
    have HZS := Lib.hid hS
    by_cases hT : ¬ t = []
    · have HV := Lib.hid (show E = 3 by rw [hE]; simp [Venn.atomChk, hS, hT, Venn.hasT])
      have q : (0 : Int) < (t.length : Int) := by
        rcases t with _ | ⟨x, t⟩
        · exact absurd rfl hT
        · simp only [List.length_cons]; omega
      clear hE hna hS hT
      go_enter Tryz.func20, Tryz.ntmps20
      go_wp2_with fail
      refine (HTS.out _ (HS.out.keep (by (repeat' (first | (with_reducible exact Below.refl _ _) | (with_reducible assumption) | (with_reducible refine Below.next ?_ (by with_reducible assumption)) | (with_reducible refine Below.drew ?_) | (with_reducible refine Below.laid ?_ _) | (with_reducible refine Below.setCell ?_ ?_ _) | (with_reducible refine size_of ?_) | (with_reducible refine Nat.le_succ_of_le ?_) | go_size))))).mono ?_
      rintro e w1 ⟨rfl, rfl⟩
      rw [HZS.out]
      go_wp2
      go_ret
      exact ⟨ret_int HV.out.symm, by (repeat' (first | (with_reducible exact Below.refl _ _) | (with_reducible assumption) | (with_reducible refine Below.next ?_ (by with_reducible assumption)) | (with_reducible refine Below.drew ?_) | (with_reducible refine Below.laid ?_ _) | (with_reducible refine Below.setCell ?_ ?_ _) | (with_reducible refine size_of ?_) | (with_reducible refine Nat.le_succ_of_le ?_) | go_size))⟩
    replace hT := Decidable.not_not.1 hT
    have q : ¬ (0 : Int) < (t.length : Int) := by rw [hT]; simp
    by_cases n1 : n < -20
    · have HV := Lib.hid (show E = 1 by rw [hE]; exact hna _ (by unfold Venn.nChk; rw [if_pos (by omega)]) hS hT)
      clear hE hna hS hT
      go_enter Tryz.func20, Tryz.ntmps20
      go_wp2_with fail
      refine (HTS.out _ (HS.out.keep (by (repeat' (first | (with_reducible exact Below.refl _ _) | (with_reducible assumption) | (with_reducible refine Below.next ?_ (by with_reducible assumption)) | (with_reducible refine Below.drew ?_) | (with_reducible refine Below.laid ?_ _) | (with_reducible refine Below.setCell ?_ ?_ _) | (with_reducible refine size_of ?_) | (with_reducible refine Nat.le_succ_of_le ?_) | go_size))))).mono ?_
      rintro e w1 ⟨rfl, rfl⟩
      rw [HZS.out]
      go_wp2
      go_ret
      exact ⟨ret_int HV.out.symm, by (repeat' (first | (with_reducible exact Below.refl _ _) | (with_reducible assumption) | (with_reducible refine Below.next ?_ (by with_reducible assumption)) | (with_reducible refine Below.drew ?_) | (with_reducible refine Below.laid ?_ _) | (with_reducible refine Below.setCell ?_ ?_ _) | (with_reducible refine size_of ?_) | (with_reducible refine Nat.le_succ_of_le ?_) | go_size))⟩
    by_cases n2 : 20 < n
    · have HV := Lib.hid (show E = 1 by rw [hE]; exact hna _ (by unfold Venn.nChk; rw [if_pos (by omega)]) hS hT)
      clear hE hna hS hT
      go_enter Tryz.func20, Tryz.ntmps20
      go_wp2_with fail
      refine (HTS.out _ (HS.out.keep (by (repeat' (first | (with_reducible exact Below.refl _ _) | (with_reducible assumption) | (with_reducible refine Below.next ?_ (by with_reducible assumption)) | (with_reducible refine Below.drew ?_) | (with_reducible refine Below.laid ?_ _) | (with_reducible refine Below.setCell ?_ ?_ _) | (with_reducible refine size_of ?_) | (with_reducible refine Nat.le_succ_of_le ?_) | go_size))))).mono ?_
      rintro e w1 ⟨rfl, rfl⟩
      rw [HZS.out]
      go_wp2
      go_ret
      exact ⟨ret_int HV.out.symm, by (repeat' (first | (with_reducible exact Below.refl _ _) | (with_reducible assumption) | (with_reducible refine Below.next ?_ (by with_reducible assumption)) | (with_reducible refine Below.drew ?_) | (with_reducible refine Below.laid ?_ _) | (with_reducible refine Below.setCell ?_ ?_ _) | (with_reducible refine size_of ?_) | (with_reducible refine Nat.le_succ_of_le ?_) | go_size))⟩
    · have HV := Lib.hid (show E = 0 by rw [hE]; exact hna _ (by unfold Venn.nChk; rw [if_neg (by omega)]) hS hT)
      clear hE hna hS hT
      go_enter Tryz.func20, Tryz.ntmps20
      go_wp2_with fail
      refine (HTS.out _ (HS.out.keep (by (repeat' (first | (with_reducible exact Below.refl _ _) | (with_reducible assumption) | (with_reducible refine Below.next ?_ (by with_reducible assumption)) | (with_reducible refine Below.drew ?_) | (with_reducible refine Below.laid ?_ _) | (with_reducible refine Below.setCell ?_ ?_ _) | (with_reducible refine size_of ?_) | (with_reducible refine Nat.le_succ_of_le ?_) | go_size))))).mono ?_
      rintro e w1 ⟨rfl, rfl⟩
      rw [HZS.out]
      go_wp2
      go_ret
      exact ⟨ret_int HV.out.symm, by (repeat' (first | (with_reducible exact Below.refl _ _) | (with_reducible assumption) | (with_reducible refine Below.next ?_ (by with_reducible assumption)) | (with_reducible refine Below.drew ?_) | (with_reducible refine Below.laid ?_ _) | (with_reducible refine Below.setCell ?_ ?_ _) | (with_reducible refine size_of ?_) | (with_reducible refine Nat.le_succ_of_le ?_) | go_size))⟩
  · have hna : ∀ m : Int, Venn.nChk 5 n = m → Venn.termChk s = 0 → Venn.termChk t = 0 → Venn.atomChk ⟨5, s, t, n⟩ = m := fun m h1 h2 h3 => by
      simp [Venn.atomChk, h2, h3, Venn.hasT, h1]
    by_cases hS : ¬ Venn.termChk s = 0
    · have HV := Lib.hid (show E = Venn.termChk s by rw [hE]; simp [Venn.atomChk, hS])
      have q : (Venn.termChk s != 0) = true := by simpa using hS
      clear hE hna hS
      generalize Venn.termChk s = ES at q HV HTS
      go_enter Tryz.func20, Tryz.ntmps20
      go_wp2_with fail
      refine (HTS.out _ (HS.out.keep (by (repeat' (first | (with_reducible exact Below.refl _ _) | (with_reducible assumption) | (with_reducible refine Below.next ?_ (by with_reducible assumption)) | (with_reducible refine Below.drew ?_) | (with_reducible refine Below.laid ?_ _) | (with_reducible refine Below.setCell ?_ ?_ _) | (with_reducible refine size_of ?_) | (with_reducible refine Nat.le_succ_of_le ?_) | go_size))))).mono ?_
      rintro e w1 ⟨rfl, rfl⟩
      go_wp2
      go_ret
      exact ⟨ret_int HV.out.symm, by (repeat' (first | (with_reducible exact Below.refl _ _) | (with_reducible assumption) | (with_reducible refine Below.next ?_ (by with_reducible assumption)) | (with_reducible refine Below.drew ?_) | (with_reducible refine Below.laid ?_ _) | (with_reducible refine Below.setCell ?_ ?_ _) | (with_reducible refine size_of ?_) | (with_reducible refine Nat.le_succ_of_le ?_) | go_size))⟩
    replace hS := Decidable.not_not.1 hS
    have HZS := Lib.hid hS
    by_cases hT : ¬ Venn.termChk t = 0
    · have HV := Lib.hid (show E = Venn.termChk t by rw [hE]; simp [Venn.atomChk, hS, hT, Venn.hasT])
      have q : (Venn.termChk t != 0) = true := by simpa using hT
      clear hE hna hS hT
      generalize Venn.termChk t = ET at q HV HTT
      go_enter Tryz.func20, Tryz.ntmps20
      go_wp2_with fail
      refine (HTS.out _ (HS.out.keep (by (repeat' (first | (with_reducible exact Below.refl _ _) | (with_reducible assumption) | (with_reducible refine Below.next ?_ (by with_reducible assumption)) | (with_reducible refine Below.drew ?_) | (with_reducible refine Below.laid ?_ _) | (with_reducible refine Below.setCell ?_ ?_ _) | (with_reducible refine size_of ?_) | (with_reducible refine Nat.le_succ_of_le ?_) | go_size))))).mono ?_
      rintro e w1 ⟨rfl, rfl⟩
      rw [HZS.out]
      go_wp2_with fail
      refine (HTT.out _ (HT.out.keep (by (repeat' (first | (with_reducible exact Below.refl _ _) | (with_reducible assumption) | (with_reducible refine Below.next ?_ (by with_reducible assumption)) | (with_reducible refine Below.drew ?_) | (with_reducible refine Below.laid ?_ _) | (with_reducible refine Below.setCell ?_ ?_ _) | (with_reducible refine size_of ?_) | (with_reducible refine Nat.le_succ_of_le ?_) | go_size))))).mono ?_
      rintro e w1 ⟨rfl, rfl⟩
      go_wp2
      go_ret
      exact ⟨ret_int HV.out.symm, by (repeat' (first | (with_reducible exact Below.refl _ _) | (with_reducible assumption) | (with_reducible refine Below.next ?_ (by with_reducible assumption)) | (with_reducible refine Below.drew ?_) | (with_reducible refine Below.laid ?_ _) | (with_reducible refine Below.setCell ?_ ?_ _) | (with_reducible refine size_of ?_) | (with_reducible refine Nat.le_succ_of_le ?_) | go_size))⟩
    replace hT := Decidable.not_not.1 hT
    have HZT := Lib.hid hT
    by_cases n1 : n < -20
    · have HV := Lib.hid (show E = 1 by rw [hE]; exact hna _ (by unfold Venn.nChk; rw [if_pos (by omega)]) hS hT)
      clear hE hna hS hT
      go_enter Tryz.func20, Tryz.ntmps20
      go_wp2_with fail
      refine (HTS.out _ (HS.out.keep (by (repeat' (first | (with_reducible exact Below.refl _ _) | (with_reducible assumption) | (with_reducible refine Below.next ?_ (by with_reducible assumption)) | (with_reducible refine Below.drew ?_) | (with_reducible refine Below.laid ?_ _) | (with_reducible refine Below.setCell ?_ ?_ _) | (with_reducible refine size_of ?_) | (with_reducible refine Nat.le_succ_of_le ?_) | go_size))))).mono ?_
      rintro e w1 ⟨rfl, rfl⟩
      rw [HZS.out]
      go_wp2_with fail
      refine (HTT.out _ (HT.out.keep (by (repeat' (first | (with_reducible exact Below.refl _ _) | (with_reducible assumption) | (with_reducible refine Below.next ?_ (by with_reducible assumption)) | (with_reducible refine Below.drew ?_) | (with_reducible refine Below.laid ?_ _) | (with_reducible refine Below.setCell ?_ ?_ _) | (with_reducible refine size_of ?_) | (with_reducible refine Nat.le_succ_of_le ?_) | go_size))))).mono ?_
      rintro e w1 ⟨rfl, rfl⟩
      rw [HZT.out]
      go_wp2
      go_ret
      exact ⟨ret_int HV.out.symm, by (repeat' (first | (with_reducible exact Below.refl _ _) | (with_reducible assumption) | (with_reducible refine Below.next ?_ (by with_reducible assumption)) | (with_reducible refine Below.drew ?_) | (with_reducible refine Below.laid ?_ _) | (with_reducible refine Below.setCell ?_ ?_ _) | (with_reducible refine size_of ?_) | (with_reducible refine Nat.le_succ_of_le ?_) | go_size))⟩
    by_cases n2 : 20 < n
    · have HV := Lib.hid (show E = 1 by rw [hE]; exact hna _ (by unfold Venn.nChk; rw [if_pos (by omega)]) hS hT)
      clear hE hna hS hT
      go_enter Tryz.func20, Tryz.ntmps20
      go_wp2_with fail
      refine (HTS.out _ (HS.out.keep (by (repeat' (first | (with_reducible exact Below.refl _ _) | (with_reducible assumption) | (with_reducible refine Below.next ?_ (by with_reducible assumption)) | (with_reducible refine Below.drew ?_) | (with_reducible refine Below.laid ?_ _) | (with_reducible refine Below.setCell ?_ ?_ _) | (with_reducible refine size_of ?_) | (with_reducible refine Nat.le_succ_of_le ?_) | go_size))))).mono ?_
      rintro e w1 ⟨rfl, rfl⟩
      rw [HZS.out]
      go_wp2_with fail
      refine (HTT.out _ (HT.out.keep (by (repeat' (first | (with_reducible exact Below.refl _ _) | (with_reducible assumption) | (with_reducible refine Below.next ?_ (by with_reducible assumption)) | (with_reducible refine Below.drew ?_) | (with_reducible refine Below.laid ?_ _) | (with_reducible refine Below.setCell ?_ ?_ _) | (with_reducible refine size_of ?_) | (with_reducible refine Nat.le_succ_of_le ?_) | go_size))))).mono ?_
      rintro e w1 ⟨rfl, rfl⟩
      rw [HZT.out]
      go_wp2
      go_ret
      exact ⟨ret_int HV.out.symm, by (repeat' (first | (with_reducible exact Below.refl _ _) | (with_reducible assumption) | (with_reducible refine Below.next ?_ (by with_reducible assumption)) | (with_reducible refine Below.drew ?_) | (with_reducible refine Below.laid ?_ _) | (with_reducible refine Below.setCell ?_ ?_ _) | (with_reducible refine size_of ?_) | (with_reducible refine Nat.le_succ_of_le ?_) | go_size))⟩
    · have HV := Lib.hid (show E = 0 by rw [hE]; exact hna _ (by unfold Venn.nChk; rw [if_neg (by omega)]) hS hT)
      clear hE hna hS hT
      go_enter Tryz.func20, Tryz.ntmps20
      go_wp2_with fail
      refine (HTS.out _ (HS.out.keep (by (repeat' (first | (with_reducible exact Below.refl _ _) | (with_reducible assumption) | (with_reducible refine Below.next ?_ (by with_reducible assumption)) | (with_reducible refine Below.drew ?_) | (with_reducible refine Below.laid ?_ _) | (with_reducible refine Below.setCell ?_ ?_ _) | (with_reducible refine size_of ?_) | (with_reducible refine Nat.le_succ_of_le ?_) | go_size))))).mono ?_
      rintro e w1 ⟨rfl, rfl⟩
      rw [HZS.out]
      go_wp2_with fail
      refine (HTT.out _ (HT.out.keep (by (repeat' (first | (with_reducible exact Below.refl _ _) | (with_reducible assumption) | (with_reducible refine Below.next ?_ (by with_reducible assumption)) | (with_reducible refine Below.drew ?_) | (with_reducible refine Below.laid ?_ _) | (with_reducible refine Below.setCell ?_ ?_ _) | (with_reducible refine size_of ?_) | (with_reducible refine Nat.le_succ_of_le ?_) | go_size))))).mono ?_
      rintro e w1 ⟨rfl, rfl⟩
      rw [HZT.out]
      go_wp2
      go_ret
      exact ⟨ret_int HV.out.symm, by (repeat' (first | (with_reducible exact Below.refl _ _) | (with_reducible assumption) | (with_reducible refine Below.next ?_ (by with_reducible assumption)) | (with_reducible refine Below.drew ?_) | (with_reducible refine Below.laid ?_ _) | (with_reducible refine Below.setCell ?_ ?_ _) | (with_reducible refine size_of ?_) | (with_reducible refine Nat.le_succ_of_le ?_) | go_size))⟩
end Go.Proofs.YtjnjgcibhjdmdaaGreatDoor

namespace Go.Proofs.YtjnjgcibhjdmdaaGreatDoor
open Go.RowKit

theorem codeOk_no {n s : Int} (hn : n ≤ 6) (h : Venn.codeOk n s = false) : s < 0 ∨ (¬ s < 0 ∧ 13 < s) ∨ (¬ s < 0 ∧ ¬ 13 < s ∧ s < 10 ∧ n ≤ s) := by
  by_cases h0 : s < 0
  · exact .inl h0
  by_cases h13 : 13 < s
  · exact .inr (.inl ⟨h0, h13⟩)
  by_cases h10 : s < 10
  · by_cases hs : n ≤ s
    · exact .inr (.inr ⟨h0, h13, h10, hs⟩)
    · exfalso
      have h1 : Venn.fSign s = true := by simp [Venn.fSign]; omega
      rw [Venn.codeOk, h1] at h
      simp at h
      omega
  · exfalso
    rcases (by omega : s = 10 ∨ s = 11 ∨ s = 12 ∨ s = 13) with rfl | rfl | rfl | rfl
    all_goals simp [Venn.codeOk, Venn.fSign, Venn.fTakes] at h

end Go.Proofs.YtjnjgcibhjdmdaaGreatDoor

namespace Go.Proofs.YtjnjgcibhjdmdaaGreatDoor
open Go.RowKit

set_option maxHeartbeats 4000000 in
set_option maxRecDepth 100000 in
theorem ref_Holds (what n : Int) (sv tv : Value) (s t : List Int) (th a b d : Int) (w : World) (hs : IsInts w sv s) (ht : IsInts w tv t) (hc : Venn.atomChk ⟨what, s, t, n⟩ = 0) (hw : Venn.worldChk ⟨th, a, b, d⟩ = 0) :
    Calls Tryz.prog 122 #[.agg #[.int .i64 what, sv, tv, .int .i64 n], .agg #[.int .i64 th, .int .i64 a, .int .i64 b, .int .i64 d]] w (Keeps (.bool (Venn.atomTrue ⟨what, s, t, n⟩ ⟨th, a, b, d⟩)) w) := by
  obtain ⟨sA, sc, rfl, hs'⟩ := hs
  obtain ⟨tA, tc, rfl, ht'⟩ := ht
  have HS := Lib.hid (show IsInts w (.slice sA s.length sc) s from ⟨sA, sc, rfl, hs'⟩)
  have HT := Lib.hid (show IsInts w (.slice tA t.length tc) t from ⟨tA, tc, rfl, ht'⟩)
  clear hs' ht'
  obtain ⟨g1, g2, hcs, hct, hct2, hn1, hn2, hn3⟩ := Venn.atomChk_parts hc
  have HVS := Lib.hid (fun W h => ref_Value (.slice sA s.length sc) s th a b d W h hcs hw)
  have HVT := Lib.hid (fun h0 W h => ref_Value (.slice tA t.length tc) t th a b d W h (hct h0) hw)
  have hS := Venn.termSet_right hw s
  have hT := Venn.termSet_right hw t
  simp only at hn1 hn2 g1 g2 hcs hct hS hT HVT
  obtain ⟨E, hE⟩ : ∃ E, E = Venn.atomTrue ⟨what, s, t, n⟩ ⟨th, a, b, d⟩ := ⟨_, rfl⟩
  rw [← hE]
  unfold Venn.atomTrue at hE
  simp only at hE
  generalize Venn.termSet s ⟨th, a, b, d⟩ = S at HVS hS hE
  generalize Venn.termSet t ⟨th, a, b, d⟩ = U at HVT hT hE
  have HSZ := Lib.hid (fun W => ref_Size S W (by have := setChk_63 hS; omega))
  have HUZ := Lib.hid (fun W => ref_Size U W (by have := setChk_63 hT; omega))
  have HD := Lib.hid (fun W => ref_Do 7 th S U W (by omega) hS hT)
  have hm1 := Venn.many_le S
  have hm2 := Venn.many_le U
  clear hc hw hcs hct hct2 hn3 hS hT
  rcases (by omega : what = 1 ∨ what = 2 ∨ what = 3 ∨ what = 4 ∨ what = 5) with rfl | rfl | rfl | rfl | rfl
  · have HV := Lib.hid (show E = (Venn.setOf 7 th S U == 0) by rw [hE]; simp [Venn.setOf])
    clear hE HUZ
    generalize Venn.setOf 7 th S U = SO at HV HD
    generalize Venn.many S = MS at HSZ hm1
    go_enter Tryz.func122, Tryz.ntmps122
    go_wp2_with fail
    refine (HVS.out _ (HS.out.keep (by (repeat' (first | (with_reducible exact Below.refl _ _) | (with_reducible assumption) | (with_reducible refine Below.next ?_ (by with_reducible assumption)) | (with_reducible refine Below.drew ?_) | (with_reducible refine Below.laid ?_ _) | (with_reducible refine Below.setCell ?_ ?_ _) | (with_reducible refine size_of ?_) | (with_reducible refine Nat.le_succ_of_le ?_) | go_size))))).mono ?_
    rintro e w1 ⟨rfl, hb1⟩
    have BA := ((Blk.new w 32 #[.int .i64 1, .slice sA s.length sc, .slice tA t.length tc, .int .i64 n]).alloc _).keep hb1
    have BW := (Blk.newAt (w := w.alloc (.cells #[.int .i64 1, .slice sA s.length sc, .slice tA t.length tc, .int .i64 n] 32)) (g := w.heap.size + 1) (by simp) 45 #[.int .i64 th, .int .i64 a, .int .i64 b, .int .i64 d]).keep hb1
    have hw1 : Below w.heap.size w w1 := by (repeat' (first | (with_reducible exact Below.refl _ _) | (with_reducible assumption) | (with_reducible refine Below.next ?_ (by with_reducible assumption)) | (with_reducible refine Below.drew ?_) | (with_reducible refine Below.laid ?_ _) | (with_reducible refine Below.setCell ?_ ?_ _) | (with_reducible refine size_of ?_) | (with_reducible refine Nat.le_succ_of_le ?_) | go_size))
    obtain ⟨BA0, BA1, BA2, BA3⟩ := BA.cells4
    have BAl := BA.lt
    obtain ⟨BW0, BW1, BW2, BW3⟩ := BW.cells4
    have BWl := BW.lt
    go_wp2_with (go_at_call 138; refine (HSZ.out _).mono ?_; rintro e w' ⟨rfl, rfl⟩)
    refine (HVT.out (by decide) _ (HT.out.keep (by (repeat' (first | (with_reducible exact Below.refl _ _) | (with_reducible assumption) | (with_reducible refine Below.next ?_ (by with_reducible assumption)) | (with_reducible refine Below.drew ?_) | (with_reducible refine Below.laid ?_ _) | (with_reducible refine Below.setCell ?_ ?_ _) | (with_reducible refine size_of ?_) | (with_reducible refine Nat.le_succ_of_le ?_) | go_size))))).mono ?_
    rintro e w2 ⟨rfl, hb2⟩
    have hw2 := Below.next hw1 hb2
    clear BA0 BA1 BA2 BA3 BAl BW0 BW1 BW2 BW3 BWl
    replace BA := BA.keep hb2
    replace BW := BW.keep hb2
    obtain ⟨BA0, BA1, BA2, BA3⟩ := BA.cells4
    have BAl := BA.lt
    obtain ⟨BW0, BW1, BW2, BW3⟩ := BW.cells4
    have BWl := BW.lt
    go_wp2_with (go_at_call 139; refine (HD.out _).mono ?_; rintro e w' ⟨rfl, rfl⟩)
    go_ret
    exact ⟨ret_bool HV.out.symm, hw2⟩
  · have HV := Lib.hid (show E = (S == U) by rw [hE]; simp)
    clear hE HUZ HD
    generalize Venn.many S = MS at HSZ hm1
    go_enter Tryz.func122, Tryz.ntmps122
    go_wp2_with fail
    refine (HVS.out _ (HS.out.keep (by (repeat' (first | (with_reducible exact Below.refl _ _) | (with_reducible assumption) | (with_reducible refine Below.next ?_ (by with_reducible assumption)) | (with_reducible refine Below.drew ?_) | (with_reducible refine Below.laid ?_ _) | (with_reducible refine Below.setCell ?_ ?_ _) | (with_reducible refine size_of ?_) | (with_reducible refine Nat.le_succ_of_le ?_) | go_size))))).mono ?_
    rintro e w1 ⟨rfl, hb1⟩
    have BA := ((Blk.new w 32 #[.int .i64 2, .slice sA s.length sc, .slice tA t.length tc, .int .i64 n]).alloc _).keep hb1
    have BW := (Blk.newAt (w := w.alloc (.cells #[.int .i64 2, .slice sA s.length sc, .slice tA t.length tc, .int .i64 n] 32)) (g := w.heap.size + 1) (by simp) 45 #[.int .i64 th, .int .i64 a, .int .i64 b, .int .i64 d]).keep hb1
    have hw1 : Below w.heap.size w w1 := by (repeat' (first | (with_reducible exact Below.refl _ _) | (with_reducible assumption) | (with_reducible refine Below.next ?_ (by with_reducible assumption)) | (with_reducible refine Below.drew ?_) | (with_reducible refine Below.laid ?_ _) | (with_reducible refine Below.setCell ?_ ?_ _) | (with_reducible refine size_of ?_) | (with_reducible refine Nat.le_succ_of_le ?_) | go_size))
    obtain ⟨BA0, BA1, BA2, BA3⟩ := BA.cells4
    have BAl := BA.lt
    obtain ⟨BW0, BW1, BW2, BW3⟩ := BW.cells4
    have BWl := BW.lt
    go_wp2_with (go_at_call 138; refine (HSZ.out _).mono ?_; rintro e w' ⟨rfl, rfl⟩)
    refine (HVT.out (by decide) _ (HT.out.keep (by (repeat' (first | (with_reducible exact Below.refl _ _) | (with_reducible assumption) | (with_reducible refine Below.next ?_ (by with_reducible assumption)) | (with_reducible refine Below.drew ?_) | (with_reducible refine Below.laid ?_ _) | (with_reducible refine Below.setCell ?_ ?_ _) | (with_reducible refine size_of ?_) | (with_reducible refine Nat.le_succ_of_le ?_) | go_size))))).mono ?_
    rintro e w2 ⟨rfl, hb2⟩
    have hw2 := Below.next hw1 hb2
    clear BA0 BA1 BA2 BA3 BAl BW0 BW1 BW2 BW3 BWl
    replace BA := BA.keep hb2
    replace BW := BW.keep hb2
    obtain ⟨BA0, BA1, BA2, BA3⟩ := BA.cells4
    have BAl := BA.lt
    obtain ⟨BW0, BW1, BW2, BW3⟩ := BW.cells4
    have BWl := BW.lt
    go_wp2
    go_ret
    exact ⟨ret_bool HV.out.symm, hw2⟩
  · have HV := Lib.hid (show E = decide (n ≤ Venn.many S) by rw [hE]; simp)
    clear hE HUZ HD
    generalize Venn.many S = MS at HSZ hm1 HV
    go_enter Tryz.func122, Tryz.ntmps122
    go_wp2_with fail
    refine (HVS.out _ (HS.out.keep (by (repeat' (first | (with_reducible exact Below.refl _ _) | (with_reducible assumption) | (with_reducible refine Below.next ?_ (by with_reducible assumption)) | (with_reducible refine Below.drew ?_) | (with_reducible refine Below.laid ?_ _) | (with_reducible refine Below.setCell ?_ ?_ _) | (with_reducible refine size_of ?_) | (with_reducible refine Nat.le_succ_of_le ?_) | go_size))))).mono ?_
    rintro e w1 ⟨rfl, hb1⟩
    have BA := ((Blk.new w 32 #[.int .i64 3, .slice sA s.length sc, .slice tA t.length tc, .int .i64 n]).alloc _).keep hb1
    have BW := (Blk.newAt (w := w.alloc (.cells #[.int .i64 3, .slice sA s.length sc, .slice tA t.length tc, .int .i64 n] 32)) (g := w.heap.size + 1) (by simp) 45 #[.int .i64 th, .int .i64 a, .int .i64 b, .int .i64 d]).keep hb1
    have hw1 : Below w.heap.size w w1 := by (repeat' (first | (with_reducible exact Below.refl _ _) | (with_reducible assumption) | (with_reducible refine Below.next ?_ (by with_reducible assumption)) | (with_reducible refine Below.drew ?_) | (with_reducible refine Below.laid ?_ _) | (with_reducible refine Below.setCell ?_ ?_ _) | (with_reducible refine size_of ?_) | (with_reducible refine Nat.le_succ_of_le ?_) | go_size))
    obtain ⟨BA0, BA1, BA2, BA3⟩ := BA.cells4
    have BAl := BA.lt
    obtain ⟨BW0, BW1, BW2, BW3⟩ := BW.cells4
    have BWl := BW.lt
    go_wp2_with (go_at_call 138; refine (HSZ.out _).mono ?_; rintro e w' ⟨rfl, rfl⟩)
    go_ret
    exact ⟨ret_bool HV.out.symm, hw1⟩
  · have HV := Lib.hid (show E = decide (Venn.many S ≤ n) by rw [hE]; simp)
    clear hE HUZ HD
    generalize Venn.many S = MS at HSZ hm1 HV
    go_enter Tryz.func122, Tryz.ntmps122
    go_wp2_with fail
    refine (HVS.out _ (HS.out.keep (by (repeat' (first | (with_reducible exact Below.refl _ _) | (with_reducible assumption) | (with_reducible refine Below.next ?_ (by with_reducible assumption)) | (with_reducible refine Below.drew ?_) | (with_reducible refine Below.laid ?_ _) | (with_reducible refine Below.setCell ?_ ?_ _) | (with_reducible refine size_of ?_) | (with_reducible refine Nat.le_succ_of_le ?_) | go_size))))).mono ?_
    rintro e w1 ⟨rfl, hb1⟩
    have BA := ((Blk.new w 32 #[.int .i64 4, .slice sA s.length sc, .slice tA t.length tc, .int .i64 n]).alloc _).keep hb1
    have BW := (Blk.newAt (w := w.alloc (.cells #[.int .i64 4, .slice sA s.length sc, .slice tA t.length tc, .int .i64 n] 32)) (g := w.heap.size + 1) (by simp) 45 #[.int .i64 th, .int .i64 a, .int .i64 b, .int .i64 d]).keep hb1
    have hw1 : Below w.heap.size w w1 := by (repeat' (first | (with_reducible exact Below.refl _ _) | (with_reducible assumption) | (with_reducible refine Below.next ?_ (by with_reducible assumption)) | (with_reducible refine Below.drew ?_) | (with_reducible refine Below.laid ?_ _) | (with_reducible refine Below.setCell ?_ ?_ _) | (with_reducible refine size_of ?_) | (with_reducible refine Nat.le_succ_of_le ?_) | go_size))
    obtain ⟨BA0, BA1, BA2, BA3⟩ := BA.cells4
    have BAl := BA.lt
    obtain ⟨BW0, BW1, BW2, BW3⟩ := BW.cells4
    have BWl := BW.lt
    go_wp2_with (go_at_call 138; refine (HSZ.out _).mono ?_; rintro e w' ⟨rfl, rfl⟩)
    go_ret
    exact ⟨ret_bool HV.out.symm, hw1⟩
  · have HV := Lib.hid (show E = decide (Venn.many S ≤ Venn.many U + n) by rw [hE]; simp)
    clear hE HD
    generalize Venn.many S = MS at HSZ hm1 HV
    generalize Venn.many U = MU at HUZ hm2 HV
    have hwr : IntKind.i64.wrap (MU + n) = MU + n := IntWalk.i64_in _ (by omega)
    go_enter Tryz.func122, Tryz.ntmps122
    go_wp2_with fail
    refine (HVS.out _ (HS.out.keep (by (repeat' (first | (with_reducible exact Below.refl _ _) | (with_reducible assumption) | (with_reducible refine Below.next ?_ (by with_reducible assumption)) | (with_reducible refine Below.drew ?_) | (with_reducible refine Below.laid ?_ _) | (with_reducible refine Below.setCell ?_ ?_ _) | (with_reducible refine size_of ?_) | (with_reducible refine Nat.le_succ_of_le ?_) | go_size))))).mono ?_
    rintro e w1 ⟨rfl, hb1⟩
    have BA := ((Blk.new w 32 #[.int .i64 5, .slice sA s.length sc, .slice tA t.length tc, .int .i64 n]).alloc _).keep hb1
    have BW := (Blk.newAt (w := w.alloc (.cells #[.int .i64 5, .slice sA s.length sc, .slice tA t.length tc, .int .i64 n] 32)) (g := w.heap.size + 1) (by simp) 45 #[.int .i64 th, .int .i64 a, .int .i64 b, .int .i64 d]).keep hb1
    have hw1 : Below w.heap.size w w1 := by (repeat' (first | (with_reducible exact Below.refl _ _) | (with_reducible assumption) | (with_reducible refine Below.next ?_ (by with_reducible assumption)) | (with_reducible refine Below.drew ?_) | (with_reducible refine Below.laid ?_ _) | (with_reducible refine Below.setCell ?_ ?_ _) | (with_reducible refine size_of ?_) | (with_reducible refine Nat.le_succ_of_le ?_) | go_size))
    obtain ⟨BA0, BA1, BA2, BA3⟩ := BA.cells4
    have BAl := BA.lt
    obtain ⟨BW0, BW1, BW2, BW3⟩ := BW.cells4
    have BWl := BW.lt
    go_wp2_with (go_at_call 138; refine (HSZ.out _).mono ?_; rintro e w' ⟨rfl, rfl⟩)
    refine (HVT.out (by decide) _ (HT.out.keep (by (repeat' (first | (with_reducible exact Below.refl _ _) | (with_reducible assumption) | (with_reducible refine Below.next ?_ (by with_reducible assumption)) | (with_reducible refine Below.drew ?_) | (with_reducible refine Below.laid ?_ _) | (with_reducible refine Below.setCell ?_ ?_ _) | (with_reducible refine size_of ?_) | (with_reducible refine Nat.le_succ_of_le ?_) | go_size))))).mono ?_
    rintro e w2 ⟨rfl, hb2⟩
    have hw2 := Below.next hw1 hb2
    clear BA0 BA1 BA2 BA3 BAl BW0 BW1 BW2 BW3 BWl
    replace BA := BA.keep hb2
    replace BW := BW.keep hb2
    obtain ⟨BA0, BA1, BA2, BA3⟩ := BA.cells4
    have BAl := BA.lt
    obtain ⟨BW0, BW1, BW2, BW3⟩ := BW.cells4
    have BWl := BW.lt
    go_wp2_with fail
    go_quiet ((go_at_call 138; exact Calls.quiet_of_same ((HUZ.out _).mono fun _ _ ⟨h1, h2⟩ => ⟨h1, h2.symm⟩)))
    go_wp2
    go_ret
    exact ⟨ret_bool HV.out.symm, below_drewN hw2 _⟩
end Go.Proofs.YtjnjgcibhjdmdaaGreatDoor

namespace Venn
/-- The stack of answers, where no sign lacks one. -/
def fStepO (w : World) (l : List Atom) (st : List Bool) (s : Int) : Option (List Bool) := if (st.length : Int) < fTakes s then none else some (fStep w l st s)
def fEvO (w : World) (l : List Atom) : List Int → List Bool → Option (List Bool)
  | [], st => some st
  | s :: r, st => match fStepO w l st s with
    | none => none
    | some st' => fEvO w l r st'
theorem fEvO_snoc (w : World) (l : List Atom) (s : Int) : ∀ (t : List Int) (st : List Bool), fEvO w l (t ++ [s]) st = (fEvO w l t st).bind fun st' => fStepO w l st' s := by
  intro t
  induction t with
  | nil => intro st; simp only [List.nil_append, fEvO, Option.bind_some]; cases fStepO w l st s <;> rfl
  | cons x t ih =>
    intro st
    simp only [List.cons_append, fEvO]
    cases fStepO w l st x with
    | none => rfl
    | some st' => exact ih st'
theorem fEvO_shape (w : World) (l : List Atom) : ∀ (t : List Int) (st : List Bool), fShape st.length t = true → fEvO w l t st = some (t.foldl (fStep w l) st) := by
  intro t
  induction t with
  | nil => intro st _; rfl
  | cons s t ih =>
    intro st h
    rw [fShape] at h
    split at h
    · cases h
    rename_i h1
    have hl := fStep_length (w := w) (l := l) h1
    have := ih (fStep w l st s) (by rw [hl]; exact h)
    simp only [fEvO, fStepO, if_neg h1]
    exact this
theorem fEvO_form {l : List Atom} {c : List Int} (h : formChk ⟨l, c⟩ = 0) (w : World) : fEvO w l c [] = some [formTrue ⟨l, c⟩ w] := by
  obtain ⟨_, _, _, _, _, _, h7⟩ := formChk_parts h
  rw [fEvO_shape w l c [] h7, ffold_one h7]
def opF (s : Int) (a b : Bool) : Bool := if s = 10 then a && b else if s = 11 then a || b else !a || b
/-- What the last sign of a row that is read so is. -/
theorem fEvO_last {w : World} {l : List Atom} {t' : List Int} {s : Int} {x : Bool} {st : List Bool} (hs : codeOk l.length s = true) (h : fEvO w l (t' ++ [s]) [] = some (x :: st)) :
    (∃ a, 0 ≤ s ∧ s < 6 ∧ l[s.toNat]? = some a ∧ x = atomTrue a w ∧ fEvO w l t' [] = some st) ∨ (∃ b, s = 12 ∧ x = !b ∧ fEvO w l t' [] = some (b :: st)) ∨
    (∃ a b, (s = 10 ∨ s = 11 ∨ s = 13) ∧ x = opF s a b ∧ fEvO w l t' [] = some (b :: a :: st)) := by
  rw [fEvO_snoc] at h
  cases hv : fEvO w l t' [] with
  | none => rw [hv] at h; cases h
  | some st' =>
    rw [hv] at h
    simp only [Option.bind_some, fStepO] at h
    split at h
    · cases h
    rename_i h1
    simp only [Option.some.injEq, fStep] at h
    unfold fTakes at h1
    rcases codeOk_cases hs with rfl | rfl | rfl | rfl | ⟨h0, h6, hn⟩
    · match st', h1, h with
      | [], h1, _ => simp at h1
      | b :: r, _, h =>
        simp only [if_true, List.cons.injEq] at h
        exact .inr (.inl ⟨b, rfl, h.1.symm, by rw [h.2]⟩)
    · match st', h1, h with
      | [], h1, _ => simp at h1
      | [_], h1, _ => simp at h1
      | b :: a :: r, _, h =>
        simp at h
        exact .inr (.inr ⟨a, b, by omega, by rw [← h.1]; rfl, by rw [h.2]⟩)
    · match st', h1, h with
      | [], h1, _ => simp at h1
      | [_], h1, _ => simp at h1
      | b :: a :: r, _, h =>
        simp at h
        exact .inr (.inr ⟨a, b, by omega, by rw [← h.1]; rfl, by rw [h.2]⟩)
    · match st', h1, h with
      | [], h1, _ => simp at h1
      | [_], h1, _ => simp at h1
      | b :: a :: r, _, h =>
        simp at h
        exact .inr (.inr ⟨a, b, by omega, by rw [← h.1]; rfl, by rw [h.2]⟩)
    · rw [if_neg (by omega), if_neg (by omega), if_neg (by omega), if_neg (by omega)] at h
      obtain ⟨a, ha⟩ : ∃ a, l[s.toNat]? = some a := ⟨l[s.toNat]'(by omega), List.getElem?_eq_getElem (by omega)⟩
      rw [ha] at h
      simp only [List.cons.injEq] at h
      exact .inl ⟨a, h0, h6, ha, h.1.symm, by rw [h.2]⟩
end Venn

namespace Go.Proofs.YtjnjgcibhjdmdaaGreatDoor
open Go.RowKit

/-- What the reference's 'is' gives: the last formula's answer, and what is ahead of it. -/
def IsPost (W : Venn.World) (l : List Venn.Atom) (x : Bool) (st : List Bool) (t : List Int) (A : Option Addr) (c : Nat) (w : World) (e : Ending) (w' : World) : Prop :=
  ∃ t', e = .returned (.tuple #[.bool x, .slice A t'.length c]) ∧ Below w.heap.size w w' ∧ (∃ r, t = t' ++ r) ∧ t'.length < t.length ∧ Venn.fEvO W l t' [] = some st

theorem boxes_is {w w1 : World} {tA tB : TypeId} {cs ds : Array Value} (hb : Below ((w.alloc (.cells cs tA)).alloc (.cells ds tB)).heap.size ((w.alloc (.cells cs tA)).alloc (.cells ds tB)) w1) :
    Blk w1 w.heap.size tA cs ∧ Blk w1 (w.heap.size + 1) tB ds :=
  ⟨((Blk.new w _ _).alloc _).keep hb, (Blk.newAt (by simp) _ _).keep hb⟩

set_option maxHeartbeats 4000000 in
set_option maxRecDepth 100000 in
theorem ref_is (th a b d : Int) (hw : Venn.worldChk ⟨th, a, b, d⟩ = 0) (l : List Venn.Atom) (hat : ∀ y ∈ l, Venn.atomChk y = 0) (FA FC : Option Addr) (fk fn fc : Nat) :
    ∀ (n : Nat) (t : List Int) (x : Bool) (st : List Bool) (A : Option Addr) (cp : Nat) (w : World), t.length = n → n ≤ 20 → (∀ y ∈ t, Venn.codeOk l.length y = true) →
    IsAtoms w (.slice FA l.length fk) l → IsInts w (.slice A t.length cp) t → Venn.fEvO ⟨th, a, b, d⟩ l t [] = some (x :: st) →
    Calls Tryz.prog 103 #[.agg #[.slice FA l.length fk, .slice FC fn fc], .slice A t.length cp, .agg #[.int .i64 th, .int .i64 a, .int .i64 b, .int .i64 d]] w (IsPost ⟨th, a, b, d⟩ l x st t A cp w) := by
  have HW := Lib.hid hw
  have HAT := Lib.hid hat
  clear hw hat
  intro n
  induction n using Nat.strongRecOn with
  | ind n ih =>
    intro t x st A cp w hn h12 hs hal hint hev
    have IH := Lib.hid ih
    clear ih
    rcases List.eq_nil_or_concat t with rfl | ⟨t', s, rfl⟩
    · simp [Venn.fEvO] at hev
    rw [List.concat_eq_append] at hn hs hint hev ⊢
    have hs' := hs s (by simp)
    have HS := Lib.hid (show ∀ y ∈ t', Venn.codeOk l.length y = true from fun y hy => hs y (by simp [hy]))
    have HF := Lib.hid hint.front
    have HAL := Lib.hid hal
    have hlen : (t' ++ [s]).length = t'.length + 1 := by simp
    have hnm : n = t'.length + 1 := by omega
    have hcell : ∃ ad, A = some ad ∧ w.cell? (ad.add t'.length) = some (.int .i64 s) := by
      obtain ⟨A', c', e, hr, _, _⟩ := hint
      simp only [Value.slice.injEq] at e
      obtain ⟨rfl, _, rfl⟩ := e
      obtain ⟨ad, h1, h2⟩ := hr.int (k := t'.length) (by rw [hlen]; omega)
      refine ⟨ad, h1, ?_⟩
      rw [h2]
      simp
    have hcap : t'.length + 1 ≤ cp ∧ cp ≤ maxLen := by
      obtain ⟨A', c', e, _, h1, h2⟩ := hint
      simp only [Value.slice.injEq] at e
      obtain ⟨_, _, rfl⟩ := e
      rw [hlen] at h1
      exact ⟨by omega, h2⟩
    obtain ⟨ad, rfl, hcell⟩ := hcell
    unfold maxLen at hcap
    have HEV := Lib.hid (Venn.fEvO_last hs' hev)
    have hw1 : IntKind.i64.wrap (((t'.length : Int) + 1) - 1) = (t'.length : Int) := by rw [show ((t'.length : Int) + 1) - 1 = (t'.length : Int) by omega]; exact IntWalk.i64_in _ (by omega)
    have HREC : ∀ (y : Bool) (st' : List Bool) (W : World), Below w.heap.size w W → Venn.fEvO ⟨th, a, b, d⟩ l t' [] = some (y :: st') → Calls Tryz.prog 103 #[.agg #[.slice FA l.length fk, .slice FC fn fc], .slice (some ad) t'.length cp, .agg #[.int .i64 th, .int .i64 a, .int .i64 b, .int .i64 d]] W (IsPost ⟨th, a, b, d⟩ l y st' t' (some ad) cp W) := fun y st' W hbW hy =>
      IH.out t'.length (by omega) t' y st' (some ad) cp W rfl (by omega) HS.out (HAL.out.keep hbW) (HF.out.keep hbW) hy
    have HREC2 : ∀ (t'' : List Int) (y : Bool) (st' : List Bool) (W : World), (∃ r, t' = t'' ++ r) → t''.length < t'.length → Below w.heap.size w W → Venn.fEvO ⟨th, a, b, d⟩ l t'' [] = some (y :: st') → Calls Tryz.prog 103 #[.agg #[.slice FA l.length fk, .slice FC fn fc], .slice (some ad) t''.length cp, .agg #[.int .i64 th, .int .i64 a, .int .i64 b, .int .i64 d]] W (IsPost ⟨th, a, b, d⟩ l y st' t'' (some ad) cp W) := by
      rintro t'' y st' W ⟨r, hr⟩ hlt hbW hy
      have h1 : IsInts w (.slice (some ad) t''.length cp) t'' := by
        have := HF.out
        rw [hr] at this
        exact this.front
      exact IH.out t''.length (by omega) t'' y st' (some ad) cp W rfl (by omega) (fun y hy => HS.out y (by rw [hr]; simp [hy])) (HAL.out.keep hbW) (h1.keep hbW) hy
    have HR := Lib.hid HREC
    have HR2 := Lib.hid HREC2
    have HPRE : ∀ (t'' : List Int), (∃ r, t' = t'' ++ r) → (∃ r, t' ++ [s] = t'' ++ r) := fun _ ⟨r, hr⟩ => ⟨r ++ [s], by rw [hr]; simp⟩
    have HPR := Lib.hid HPRE
    rw [hlen]
    clear hs hint hal hev HREC HREC2 HPRE
    have hm0 : (0 : Int) ≤ (t'.length : Int) := by omega
    have hm1 : (t'.length : Int) < (t'.length : Int) + 1 := by omega
    have hm2 : (t'.length : Int) ≤ (cp : Int) := by omega
    have hcell2 := cell_keep (w' := (w.alloc (.cells #[.slice FA l.length fk, .slice FC fn fc] 38)).alloc (.cells #[.int .i64 th, .int .i64 a, .int .i64 b, .int .i64 d] 45)) (by (repeat' (first | (with_reducible exact Below.refl _ _) | (with_reducible assumption) | (with_reducible refine Below.next ?_ (by with_reducible assumption)) | (with_reducible refine Below.drew ?_) | (with_reducible refine Below.laid ?_ _) | (with_reducible refine Below.setCell ?_ ?_ _) | (with_reducible refine size_of ?_) | (with_reducible refine Nat.le_succ_of_le ?_) | go_size))) hcell
    clear hcell
    rcases HEV.out with ⟨⟨aw, aS, aT, an⟩, h0, h6, hla, hx, hst⟩ | ⟨y, h8, hx, hst⟩ | ⟨y, z, h5, hx, hst⟩
    · have HST := Lib.hid hst
      have HX := Lib.hid hx
      have HC := Lib.hid (HAT.out _ (List.mem_of_getElem? hla))
      have hsn : s.toNat < l.length := (List.getElem?_eq_some_iff.1 hla).1
      obtain ⟨N, rfl⟩ := Int.eq_ofNat_of_zero_le h0
      rw [Int.toNat_natCast] at hla hsn
      have hal := HAL.out
      obtain ⟨A', c', e, hrA, hlA, hcA⟩ := hal
      simp only [Value.slice.injEq] at e
      obtain ⟨rfl, _, rfl⟩ := e
      obtain ⟨fa, sv, tv, rfl, g0, g1, g2, g3, hs, ht⟩ := hrA N _ hla
      simp only at g0 g1 g2 g3 hs ht
      have HB0 := Lib.hid (show Below w.heap.size w ((w.alloc (.cells #[.slice (some fa) l.length fk, .slice FC fn fc] 38)).alloc (.cells #[.int .i64 th, .int .i64 a, .int .i64 b, .int .i64 d] 45)) by (repeat' (first | (with_reducible exact Below.refl _ _) | (with_reducible assumption) | (with_reducible refine Below.next ?_ (by with_reducible assumption)) | (with_reducible refine Below.drew ?_) | (with_reducible refine Below.laid ?_ _) | (with_reducible refine Below.setCell ?_ ?_ _) | (with_reducible refine size_of ?_) | (with_reducible refine Nat.le_succ_of_le ?_) | go_size)))
      have d0 := cell_keep HB0.out g0
      have d1 := cell_keep HB0.out g1
      have d2 := cell_keep HB0.out g2
      have d3 := cell_keep HB0.out g3
      obtain ⟨sA, sN, rfl, hs⟩ := hs
      obtain ⟨tA, tN, rfl, ht⟩ := ht
      have HSS := Lib.hid (show IsInts w (.slice sA aS.length sN) aS from ⟨sA, sN, rfl, hs⟩)
      have HTT := Lib.hid (show IsInts w (.slice tA aT.length tN) aT from ⟨tA, tN, rfl, ht⟩)
      have hN1 : (N : Int) < (l.length : Int) := by omega
      have h10 : (N : Int) < 10 := by omega
      clear hx hst hlen hla g0 g1 g2 g3 hs ht hs' hrA hlA hcA HB0
      go_enter Tryz.func103, Tryz.ntmps103
      go_wp2_with fail
      go_region_law (go_simp; go_at_call 122; refine (ref_Holds _ _ _ _ aS aT _ _ _ _ _ (HSS.out.keep (by (repeat' (first | (with_reducible exact Below.refl _ _) | (with_reducible assumption) | (with_reducible refine Below.next ?_ (by with_reducible assumption)) | (with_reducible refine Below.drew ?_) | (with_reducible refine Below.laid ?_ _) | (with_reducible refine Below.setCell ?_ ?_ _) | (with_reducible refine size_of ?_) | (with_reducible refine Nat.le_succ_of_le ?_) | go_size)))) (HTT.out.keep (by (repeat' (first | (with_reducible exact Below.refl _ _) | (with_reducible assumption) | (with_reducible refine Below.next ?_ (by with_reducible assumption)) | (with_reducible refine Below.drew ?_) | (with_reducible refine Below.laid ?_ _) | (with_reducible refine Below.setCell ?_ ?_ _) | (with_reducible refine size_of ?_) | (with_reducible refine Nat.le_succ_of_le ?_) | go_size)))) HC.out HW.out).mono ?_; rintro e w1 ⟨rfl, hb1⟩)
      all_goals
        go_wp2
        go_ret2
        exact ⟨t', by rw [HX.out]; rfl, by (repeat' (first | (with_reducible exact Below.refl _ _) | (with_reducible assumption) | (with_reducible refine Below.next ?_ (by with_reducible assumption)) | (with_reducible refine Below.drew ?_) | (with_reducible refine Below.laid ?_ _) | (with_reducible refine Below.setCell ?_ ?_ _) | (with_reducible refine size_of ?_) | (with_reducible refine Nat.le_succ_of_le ?_) | go_size)), ⟨_, rfl⟩, by simp, HST.out⟩
    · subst h8
      have HST := Lib.hid hst
      have HX := Lib.hid hx
      clear hx hst hlen hs'
      go_enter Tryz.func103, Tryz.ntmps103
      go_wp2_with (go_at_call 103; refine (HR.out y st _ (by (repeat' (first | (with_reducible exact Below.refl _ _) | (with_reducible assumption) | (with_reducible refine Below.next ?_ (by with_reducible assumption)) | (with_reducible refine Below.drew ?_) | (with_reducible refine Below.laid ?_ _) | (with_reducible refine Below.setCell ?_ ?_ _) | (with_reducible refine size_of ?_) | (with_reducible refine Nat.le_succ_of_le ?_) | go_size))) HST.out).mono ?_; rintro e w1 ⟨t1, rfl, hb1, hr1, hl1, he1⟩)
      go_ret2
      exact ⟨t1, by rw [HX.out]; rfl, by (repeat' (first | (with_reducible exact Below.refl _ _) | (with_reducible assumption) | (with_reducible refine Below.next ?_ (by with_reducible assumption)) | (with_reducible refine Below.drew ?_) | (with_reducible refine Below.laid ?_ _) | (with_reducible refine Below.setCell ?_ ?_ _) | (with_reducible refine size_of ?_) | (with_reducible refine Nat.le_succ_of_le ?_) | go_size)), HPR.out _ hr1, by simp; omega, he1⟩
    · have HST := Lib.hid hst
      have HX := Lib.hid hx
      clear hx hst hlen hs'
      rcases h5 with rfl | rfl | rfl
      all_goals
        go_enter Tryz.func103, Tryz.ntmps103
        go_wp2_with fail
        refine (HR.out z (y :: st) _ (by (repeat' (first | (with_reducible exact Below.refl _ _) | (with_reducible assumption) | (with_reducible refine Below.next ?_ (by with_reducible assumption)) | (with_reducible refine Below.drew ?_) | (with_reducible refine Below.laid ?_ _) | (with_reducible refine Below.setCell ?_ ?_ _) | (with_reducible refine size_of ?_) | (with_reducible refine Nat.le_succ_of_le ?_) | go_size))) HST.out).mono ?_
        rintro e w1 ⟨t1, rfl, hb1, hr1, hl1, he1⟩
        obtain ⟨BF, BW⟩ := boxes_is hb1
        obtain ⟨e0, e1, e2, e3⟩ := BW.cells4
        have f0 := BF.cell 0
        have f1 := BF.cell 1
        simp at f0 f1
        clear BF BW
        go_wp2_with fail
        refine (HR2.out t1 y st _ hr1 hl1 (by (repeat' (first | (with_reducible exact Below.refl _ _) | (with_reducible assumption) | (with_reducible refine Below.next ?_ (by with_reducible assumption)) | (with_reducible refine Below.drew ?_) | (with_reducible refine Below.laid ?_ _) | (with_reducible refine Below.setCell ?_ ?_ _) | (with_reducible refine size_of ?_) | (with_reducible refine Nat.le_succ_of_le ?_) | go_size))) he1).mono ?_
        rintro e w2 ⟨t2, rfl, hb2, hr2, hl2, he2⟩
        have HRR := Lib.hid (show ∃ r, t' = t2 ++ r by
          obtain ⟨r, hr⟩ := hr1
          obtain ⟨r', hr'⟩ := hr2
          exact ⟨r' ++ r, by rw [hr, hr', List.append_assoc]⟩)
        cases y <;> cases z
        all_goals
          go_wp2
          go_ret2
          exact ⟨t2, by rw [HX.out]; rfl, by (repeat' (first | (with_reducible exact Below.refl _ _) | (with_reducible assumption) | (with_reducible refine Below.next ?_ (by with_reducible assumption)) | (with_reducible refine Below.drew ?_) | (with_reducible refine Below.laid ?_ _) | (with_reducible refine Below.setCell ?_ ?_ _) | (with_reducible refine size_of ?_) | (with_reducible refine Nat.le_succ_of_le ?_) | go_size)), HPR.out _ HRR.out, by simp; omega, he2⟩

set_option maxHeartbeats 1000000 in
theorem ref_True (sa sc : Value) (l : List Venn.Atom) (c : List Int) (th a b d : Int) (w : World) (ha : IsAtoms w sa l) (hc : IsInts w sc c) (hf : Venn.formChk ⟨l, c⟩ = 0) (hw : Venn.worldChk ⟨th, a, b, d⟩ = 0) :
    Calls Tryz.prog 73 #[.agg #[sa, sc], .agg #[.int .i64 th, .int .i64 a, .int .i64 b, .int .i64 d]] w (Keeps (.bool (Venn.formTrue ⟨l, c⟩ ⟨th, a, b, d⟩)) w) := by
  obtain ⟨A, cA, rfl, ha'⟩ := ha
  obtain ⟨C, cC, rfl, hc'⟩ := hc
  have HA := Lib.hid (show IsAtoms w (.slice A l.length cA) l from ⟨A, cA, rfl, ha'⟩)
  have HC := Lib.hid (show IsInts w (.slice C c.length cC) c from ⟨C, cC, rfl, hc'⟩)
  clear ha' hc'
  obtain ⟨_, _, _, h20, hat, hok, _⟩ := Venn.formChk_parts hf
  have HI := Lib.hid (fun W h1 h2 => ref_is th a b d hw l (Venn.atomsChk_mem hat) A C cA c.length cC c.length c _ _ C cC W rfl h20 (fun y hy => List.all_eq_true.1 hok y hy) h1 h2 (Venn.fEvO_form hf ⟨th, a, b, d⟩))
  generalize Venn.formTrue ⟨l, c⟩ ⟨th, a, b, d⟩ = X at HI ⊢
  clear hf hw h20 hat hok
  go_enter Tryz.func73, Tryz.ntmps73
  go_wp2_with (go_at_call 103; refine (HI.out _ (HA.out.keep (by (repeat' (first | (with_reducible exact Below.refl _ _) | (with_reducible assumption) | (with_reducible refine Below.next ?_ (by with_reducible assumption)) | (with_reducible refine Below.drew ?_) | (with_reducible refine Below.laid ?_ _) | (with_reducible refine Below.setCell ?_ ?_ _) | (with_reducible refine size_of ?_) | (with_reducible refine Nat.le_succ_of_le ?_) | go_size)))) (HC.out.keep (by (repeat' (first | (with_reducible exact Below.refl _ _) | (with_reducible assumption) | (with_reducible refine Below.next ?_ (by with_reducible assumption)) | (with_reducible refine Below.drew ?_) | (with_reducible refine Below.laid ?_ _) | (with_reducible refine Below.setCell ?_ ?_ _) | (with_reducible refine size_of ?_) | (with_reducible refine Nat.le_succ_of_le ?_) | go_size))))).mono ?_; rintro e w1 ⟨t1, rfl, hb1, hr1, hl1, he1⟩)
  go_ret
  exact ⟨rfl, by (repeat' (first | (with_reducible exact Below.refl _ _) | (with_reducible assumption) | (with_reducible refine Below.next ?_ (by with_reducible assumption)) | (with_reducible refine Below.drew ?_) | (with_reducible refine Below.laid ?_ _) | (with_reducible refine Below.setCell ?_ ?_ _) | (with_reducible refine size_of ?_) | (with_reducible refine Nat.le_succ_of_le ?_) | go_size))⟩
end Go.Proofs.YtjnjgcibhjdmdaaGreatDoor
