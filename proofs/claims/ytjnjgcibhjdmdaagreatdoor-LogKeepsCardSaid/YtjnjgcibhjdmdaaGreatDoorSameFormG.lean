/-
  THE WALKS of package vennsame: are two lists the same.
  THE WALKS of vennsame.Atom and vennsame.Form, of what is the same.
-/
import Derived.Test.YtjnjgcibhjdmdaaGreatDoorMem
import Derived.Deep.QuietTactic
import Derived.BigQuiet
import Derived.Test.YtjnjgcibhjdmdaaGreatDoorNegate
namespace Go.Proofs.YtjnjgcibhjdmdaaGreatDoor
open Go.RowKit

set_option maxHeartbeats 2000000 in
theorem same_Ints (u v : Value) (s t : List Int) (w : World) (hs : IsInts w u s) (ht : IsInts w v t) : Calls Tryz.prog 75 #[u, v] w (Keeps (.bool (s == t)) w) := by
  obtain ⟨A, c, rfl, hrs, hlc, hc⟩ := hs
  obtain ⟨B, d, rfl, hrt, hld, hd⟩ := ht
  unfold maxLen at hc hd
  by_cases hl : s.length = t.length
  · have hne : (((s.length : Nat) : Int) != ((t.length : Nat) : Int)) = false := by rw [bne_eq_false_iff_eq]; omega
    have HL := Lib.hid hl
    clear hl
    go_enter Tryz.func75, Tryz.ntmps75
    go_wp2
    go_loopw [5] (fun i wr => ∃ k : Nat, k ≤ s.length ∧ i = .int .i64 k ∧ Below w.heap.size w wr ∧ (s.drop k == t.drop k) = (s == t)) (fun i _ => s.length - (intOf i).toNat)
    case atStart => exact ⟨0, Nat.zero_le _, rfl, Below.refl _ _, by simp⟩
    case round =>
      obtain ⟨k, hk, rfl, hb, hrest⟩ := hrel
      have HR := Lib.hid hrest; clear hrest
      by_cases hlt : k < s.length
      · have hlt2 : k < t.length := by have := HL.out; omega
        obtain ⟨ad, rfl, hca0⟩ := hrs.int hlt
        obtain ⟨bd, rfl, hcb0⟩ := hrt.int hlt2
        have hca := cell_keep hb hca0
        have hcb := cell_keep hb hcb0
        have HD := Lib.hid (List.drop_eq_getElem_cons hlt)
        have HE := Lib.hid (List.drop_eq_getElem_cons hlt2)
        generalize s[k] = x at hca0 hca HD
        generalize t[k] = y at hcb0 hcb HE
        clear hca0 hcb0 hrs hrt
        have b1 : (0 : Int) ≤ (k : Int) := by omega
        have b2 : (k : Int) < (s.length : Int) := by omega
        have b3 : (k : Int) < (t.length : Int) := by omega
        rcases hxy : (x != y) with _ | _
        · go_wp2_with fail
          go_quiet (fail)
          go_wp2
          go_roundw
          case rel => exact ⟨k + 1, by omega, by go_num, below_drewN hb _, by rw [← HR.out, HD.out, HE.out]; simp at hxy; simp [hxy]⟩
          case measure => simp [intOf]; omega
        · go_wp2_with fail
          go_quiet (fail)
          go_wp2
          go_ret
          exact ⟨ret_bool (by rw [← HR.out, HD.out, HE.out]; simp at hxy; simp [hxy]), below_drewN hb _⟩
      · have hd1 : s.drop k = [] := List.drop_eq_nil_of_le (by omega)
        have hd2 : t.drop k = [] := List.drop_eq_nil_of_le (by have := HL.out; omega)
        have HV := Lib.hid (show (s == t) = true by rw [← HR.out, hd1, hd2]; rfl)
        clear hd1 hd2
        go_wp2
        go_ret
        exact ⟨by rw [HV.out]; rfl, hb⟩
  · have hne : (((s.length : Nat) : Int) != ((t.length : Nat) : Int)) = true := by rw [bne_iff_ne]; omega
    rw [show (s == t) = false from beq_eq_false_iff_ne.2 (fun h => hl (by rw [h]))]
    clear hl
    go_enter Tryz.func75, Tryz.ntmps75
    go_wp2
    go_ret
    exact ⟨rfl, Below.refl _ _⟩

end Go.Proofs.YtjnjgcibhjdmdaaGreatDoor

namespace Go.Proofs.YtjnjgcibhjdmdaaGreatDoor
open Go.RowKit

theorem boxes_two {w w1 : World} {tA tB : TypeId} {cs ds : Array Value} (hb : Below ((w.alloc (.cells cs tA)).alloc (.cells ds tB)).heap.size ((w.alloc (.cells cs tA)).alloc (.cells ds tB)) w1) :
    Blk w1 w.heap.size tA cs ∧ Blk w1 (w.heap.size + 1) tB ds :=
  ⟨((Blk.new w _ _).alloc _).keep hb, (Blk.newAt (by simp) _ _).keep hb⟩

set_option maxHeartbeats 1000000 in
set_option maxRecDepth 100000 in
theorem same_Atom (what n : Int) (s1 t1 s2 t2 : Value) (s t : List Int) (w : World) (h1 : IsInts w s1 s) (h2 : IsInts w t1 t) (h3 : IsInts w s2 s) (h4 : IsInts w t2 t) :
    Calls Tryz.prog 74 #[.agg #[.int .i64 what, s1, t1, .int .i64 n], .agg #[.int .i64 what, s2, t2, .int .i64 n]] w (Keeps (.bool true) w) := by
  obtain ⟨A, cA, rfl⟩ := h1.slice
  obtain ⟨B, cB, rfl⟩ := h2.slice
  obtain ⟨C, cC, rfl⟩ := h3.slice
  obtain ⟨D, cD, rfl⟩ := h4.slice
  have H1 := Lib.hid h1
  have H2 := Lib.hid h2
  have H3 := Lib.hid h3
  have H4 := Lib.hid h4
  clear h1 h2 h3 h4
  go_enter Tryz.func74, Tryz.ntmps74
  go_wp2_with fail
  refine (same_Ints _ _ s s _ (H1.out.keep (by (repeat' (first | (with_reducible exact Below.refl _ _) | (with_reducible assumption) | (with_reducible refine Below.next ?_ (by with_reducible assumption)) | (with_reducible refine Below.drew ?_) | (with_reducible refine Below.laid ?_ _) | (with_reducible refine Below.setCell ?_ ?_ _) | (with_reducible refine size_of ?_) | (with_reducible refine Nat.le_succ_of_le ?_) | go_size)))) (H3.out.keep (by (repeat' (first | (with_reducible exact Below.refl _ _) | (with_reducible assumption) | (with_reducible refine Below.next ?_ (by with_reducible assumption)) | (with_reducible refine Below.drew ?_) | (with_reducible refine Below.laid ?_ _) | (with_reducible refine Below.setCell ?_ ?_ _) | (with_reducible refine size_of ?_) | (with_reducible refine Nat.le_succ_of_le ?_) | go_size))))).mono ?_
  rintro e w1 ⟨rfl, hb1⟩
  rw [beq_self_eq_true]
  have B0 := (boxes_two hb1).1
  have B1 := (boxes_two hb1).2
  obtain ⟨c0, c1, c2, c3⟩ := B0.cells4
  obtain ⟨d0, d1, d2, d3⟩ := B1.cells4
  have hl := B1.lt
  go_wp2_with fail
  refine (same_Ints _ _ t t _ (H2.out.keep (by (repeat' (first | (with_reducible exact Below.refl _ _) | (with_reducible assumption) | (with_reducible refine Below.next ?_ (by with_reducible assumption)) | (with_reducible refine Below.drew ?_) | (with_reducible refine Below.laid ?_ _) | (with_reducible refine Below.setCell ?_ ?_ _) | (with_reducible refine size_of ?_) | (with_reducible refine Nat.le_succ_of_le ?_) | go_size)))) (H4.out.keep (by (repeat' (first | (with_reducible exact Below.refl _ _) | (with_reducible assumption) | (with_reducible refine Below.next ?_ (by with_reducible assumption)) | (with_reducible refine Below.drew ?_) | (with_reducible refine Below.laid ?_ _) | (with_reducible refine Below.setCell ?_ ?_ _) | (with_reducible refine size_of ?_) | (with_reducible refine Nat.le_succ_of_le ?_) | go_size))))).mono ?_
  rintro e w2 ⟨rfl, hb2⟩
  rw [beq_self_eq_true]
  go_wp2
  go_ret
  exact ⟨rfl, by (repeat' (first | (with_reducible exact Below.refl _ _) | (with_reducible assumption) | (with_reducible refine Below.next ?_ (by with_reducible assumption)) | (with_reducible refine Below.drew ?_) | (with_reducible refine Below.laid ?_ _) | (with_reducible refine Below.setCell ?_ ?_ _) | (with_reducible refine size_of ?_) | (with_reducible refine Nat.le_succ_of_le ?_) | go_size))⟩

set_option maxHeartbeats 2000000 in
set_option maxRecDepth 100000 in
theorem same_Form (sa sc sb sd : Value) (l : List Venn.Atom) (c : List Int) (w : World) (ha : IsAtoms w sa l) (hc : IsInts w sc c) (hb : IsAtoms w sb l) (hd : IsInts w sd c) :
    Calls Tryz.prog 48 #[.agg #[sa, sc], .agg #[sb, sd]] w (Keeps (.bool true) w) := by
  obtain ⟨A, cA, rfl, hra, hA1, hA2⟩ := ha
  obtain ⟨B, cB, rfl, hrb, hB1, hB2⟩ := hb
  obtain ⟨C, cC, rfl⟩ := hc.slice
  obtain ⟨D, cD, rfl⟩ := hd.slice
  have HA := Lib.hid hra
  have HB := Lib.hid hrb
  have HC := Lib.hid hc
  have HD := Lib.hid hd
  unfold maxLen at hA2 hB2
  clear hra hrb hc hd
  go_enter Tryz.func48, Tryz.ntmps48
  go_wp2
  go_loopw [5] (fun i wr => ∃ k : Nat, k ≤ l.length ∧ i = .int .i64 k ∧ Below w.heap.size w wr ∧ Blk wr w.heap.size 38 #[.slice A l.length cA, .slice C c.length cC] ∧ Blk wr (w.heap.size + 1) 38 #[.slice B l.length cB, .slice D c.length cD]) (fun i _ => l.length - (intOf i).toNat)
  case atStart => exact ⟨0, Nat.zero_le _, rfl, by (repeat' (first | (with_reducible exact Below.refl _ _) | (with_reducible assumption) | (with_reducible refine Below.next ?_ (by with_reducible assumption)) | (with_reducible refine Below.drew ?_) | (with_reducible refine Below.laid ?_ _) | (with_reducible refine Below.setCell ?_ ?_ _) | (with_reducible refine size_of ?_) | (with_reducible refine Nat.le_succ_of_le ?_) | go_size)), (Blk.new _ _ _).alloc _, Blk.newAt (by simp) _ _⟩
  case round =>
    obtain ⟨k, hk, rfl, hb, hBF, hBG⟩ := hrel
    obtain ⟨wo, rfl⟩ : ∃ wo : World, wo = wr := ⟨_, rfl⟩
    obtain ⟨⟨f0, f1⟩, _⟩ := hBF.cells2
    obtain ⟨⟨g0, g1⟩, _⟩ := hBG.cells2
    have hlF := hBF.lt
    have hlG := hBG.lt
    by_cases hlt : k < l.length
    · obtain ⟨ad, sv, tv, rfl, a0, a1, a2, a3, hs, ht⟩ := HA.out k _ (List.getElem?_eq_getElem hlt)
      obtain ⟨bd, sv', tv', rfl, b0, b1, b2, b3, hs', ht'⟩ := HB.out k _ (List.getElem?_eq_getElem hlt)
      generalize l[k] = at_ at a0 a1 a2 a3 hs ht b0 b1 b2 b3 hs' ht'
      obtain ⟨aw, aS, aT, an⟩ := at_
      simp only at a0 a1 a2 a3 hs ht b0 b1 b2 b3 hs' ht'
      obtain ⟨q1, k1, rfl⟩ := hs.slice
      obtain ⟨q2, k2, rfl⟩ := ht.slice
      obtain ⟨q3, k3, rfl⟩ := hs'.slice
      obtain ⟨q4, k4, rfl⟩ := ht'.slice
      have HS := Lib.hid (And.intro hs ht)
      have HS' := Lib.hid (And.intro hs' ht')
      replace a0 := cell_keep hb a0
      replace a1 := cell_keep hb a1
      replace a2 := cell_keep hb a2
      replace a3 := cell_keep hb a3
      replace b0 := cell_keep hb b0
      replace b1 := cell_keep hb b1
      replace b2 := cell_keep hb b2
      replace b3 := cell_keep hb b3
      have hk1 : (k : Int) < (l.length : Int) := by omega
      have hk0 : (0 : Int) ≤ (k : Int) := by omega
      clear hs ht hs' ht'
      go_wp2_with fail
      go_region_law (go_simp; go_at_call 74; refine (same_Atom _ _ _ _ _ _ aS aT _ (HS.out.1.keep (by (repeat' (first | (with_reducible exact Below.refl _ _) | (with_reducible assumption) | (with_reducible refine Below.next ?_ (by with_reducible assumption)) | (with_reducible refine Below.drew ?_) | (with_reducible refine Below.laid ?_ _) | (with_reducible refine Below.setCell ?_ ?_ _) | (with_reducible refine size_of ?_) | (with_reducible refine Nat.le_succ_of_le ?_) | go_size)))) (HS.out.2.keep (by (repeat' (first | (with_reducible exact Below.refl _ _) | (with_reducible assumption) | (with_reducible refine Below.next ?_ (by with_reducible assumption)) | (with_reducible refine Below.drew ?_) | (with_reducible refine Below.laid ?_ _) | (with_reducible refine Below.setCell ?_ ?_ _) | (with_reducible refine size_of ?_) | (with_reducible refine Nat.le_succ_of_le ?_) | go_size)))) (HS'.out.1.keep (by (repeat' (first | (with_reducible exact Below.refl _ _) | (with_reducible assumption) | (with_reducible refine Below.next ?_ (by with_reducible assumption)) | (with_reducible refine Below.drew ?_) | (with_reducible refine Below.laid ?_ _) | (with_reducible refine Below.setCell ?_ ?_ _) | (with_reducible refine size_of ?_) | (with_reducible refine Nat.le_succ_of_le ?_) | go_size)))) (HS'.out.2.keep (by (repeat' (first | (with_reducible exact Below.refl _ _) | (with_reducible assumption) | (with_reducible refine Below.next ?_ (by with_reducible assumption)) | (with_reducible refine Below.drew ?_) | (with_reducible refine Below.laid ?_ _) | (with_reducible refine Below.setCell ?_ ?_ _) | (with_reducible refine size_of ?_) | (with_reducible refine Nat.le_succ_of_le ?_) | go_size))))).mono ?_; rintro e w1 ⟨rfl, hb1⟩)
      all_goals
        go_wp2
        go_roundw
        case rel => exact ⟨k + 1, by omega, by go_num, by (repeat' (first | (with_reducible exact Below.refl _ _) | (with_reducible assumption) | (with_reducible refine Below.next ?_ (by with_reducible assumption)) | (with_reducible refine Below.drew ?_) | (with_reducible refine Below.laid ?_ _) | (with_reducible refine Below.setCell ?_ ?_ _) | (with_reducible refine size_of ?_) | (with_reducible refine Nat.le_succ_of_le ?_) | go_size)), hBF.drew.keep hb1, hBG.drew.keep hb1⟩
        case measure => simp [intOf]; omega
    · obtain rfl : k = l.length := by omega
      go_wp2_with fail
      refine (same_Ints _ _ c c _ (HC.out.keep (by (repeat' (first | (with_reducible exact Below.refl _ _) | (with_reducible assumption) | (with_reducible refine Below.next ?_ (by with_reducible assumption)) | (with_reducible refine Below.drew ?_) | (with_reducible refine Below.laid ?_ _) | (with_reducible refine Below.setCell ?_ ?_ _) | (with_reducible refine size_of ?_) | (with_reducible refine Nat.le_succ_of_le ?_) | go_size)))) (HD.out.keep (by (repeat' (first | (with_reducible exact Below.refl _ _) | (with_reducible assumption) | (with_reducible refine Below.next ?_ (by with_reducible assumption)) | (with_reducible refine Below.drew ?_) | (with_reducible refine Below.laid ?_ _) | (with_reducible refine Below.setCell ?_ ?_ _) | (with_reducible refine size_of ?_) | (with_reducible refine Nat.le_succ_of_le ?_) | go_size))))).mono ?_
      rintro e w1 ⟨rfl, hb1⟩
      rw [beq_self_eq_true]
      go_wp2
      go_ret
      exact ⟨rfl, by (repeat' (first | (with_reducible exact Below.refl _ _) | (with_reducible assumption) | (with_reducible refine Below.next ?_ (by with_reducible assumption)) | (with_reducible refine Below.drew ?_) | (with_reducible refine Below.laid ?_ _) | (with_reducible refine Below.setCell ?_ ?_ _) | (with_reducible refine size_of ?_) | (with_reducible refine Nat.le_succ_of_le ?_) | go_size))⟩
end Go.Proofs.YtjnjgcibhjdmdaaGreatDoor
