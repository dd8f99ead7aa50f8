/-
  THE WALK of vennlaw4.CoreAlone.
-/
import Derived.Test.YtnjamgmaclmlpaaDoorCoreOf
import Derived.Test.YtnjamgmaclmlpaaDoorSpanReachedW
namespace Go.Proofs.YtnjamgmaclmlpaaDoor
open Go.RowKit

theorem IsForms.three {w : World} {g : Nat} {t : TypeId} {f1 f2 f3 : Venn.Form} {sa sc ta tc ua uc : Value} (h : Blk w g t #[sa, sc, ta, tc, ua, uc]) (ha : IsAtoms w sa f1.atoms) (hc : IsInts w sc f1.code) (ka : IsAtoms w ta f2.atoms) (kc : IsInts w tc f2.code) (la : IsAtoms w ua f3.atoms) (lc : IsInts w uc f3.code) :
    IsForms w (.slice (some ⟨g, 0, none⟩) 3 3) [f1, f2, f3] := by
  refine ⟨_, _, rfl, fun k x hx => ?_, Nat.le_refl _, by simp [maxLen]⟩
  match k, hx with
  | 0, hx =>
    simp at hx
    subst hx
    exact ⟨_, sa, sc, rfl, h.cell 0, h.cell 1, ha, hc⟩
  | 1, hx =>
    simp at hx
    subst hx
    exact ⟨_, ta, tc, rfl, h.cell 2, h.cell 3, ka, kc⟩
  | 2, hx =>
    simp at hx
    subst hx
    exact ⟨_, ua, uc, rfl, h.cell 4, h.cell 5, la, lc⟩
set_option maxHeartbeats 4000000 in
set_option maxRecDepth 100000 in
theorem coreAlone_walk (tv : Value) (t : List Int) (u : Int) (w : World) (ht : IsInts w tv t) (hk : KindsOk w) :
    Calls Tryd.prog 6 #[tv, .int .i64 u] w (Keeps (.bool true) w) := by
  obtain ⟨T, cT, rfl⟩ := ht.slice
  have HT := Lib.hid ht
  have HK := Lib.hid hk
  clear ht hk
  go_enter Tryd.func6, Tryd.ntmps6
  go_upto_region 2 with (fail)
  obtain ⟨F1, hq1⟩ := FormAt.one w 4 (-1) (.slice T t.length cT) t (HT.out.keep (by (repeat' (first | (with_reducible exact Below.refl _ _) | (with_reducible assumption) | (with_reducible refine Below.next ?_ (by with_reducible assumption)) | (with_reducible refine Below.drew ?_) | (with_reducible refine Below.laid ?_ _) | (with_reducible refine Below.setCell ?_ ?_ _) | (with_reducible refine size_of ?_) | (with_reducible refine Nat.le_succ_of_le ?_) | go_size))))
  revert F1 hq1
  generalize World.alloc _ _ = w1
  intro F1 hq1
  have hw1 := hq1
  go_upto_region 3 with (fail)
  obtain ⟨F2, hq2⟩ := FormAt.one w1 3 0 (.slice T t.length cT) t (HT.out.keep (by (repeat' (first | (with_reducible exact Below.refl _ _) | (with_reducible assumption) | (with_reducible refine Below.next ?_ (by with_reducible assumption)) | (with_reducible refine Below.drew ?_) | (with_reducible refine Below.laid ?_ _) | (with_reducible refine Below.setCell ?_ ?_ _) | (with_reducible refine size_of ?_) | (with_reducible refine Nat.le_succ_of_le ?_) | go_size))))
  revert F2 hq2
  generalize World.alloc _ _ = w2
  intro F2 hq2
  have hw2 := Below.next hw1 hq2
  replace F1 := F1.keep hq2
  obtain ⟨⟨x0, x1⟩, _⟩ := F1.box.cells2
  obtain ⟨⟨y0, y1⟩, _⟩ := F2.box.cells2
  have xl := F1.box.lt
  have yl := F2.box.lt
  go_wp2_with fail
  refine (core_Of _ [⟨[⟨3, t, [], 0⟩], [0]⟩, ⟨[⟨4, t, [], -1⟩], [0]⟩, ⟨[⟨3, t, [], 0⟩], [0]⟩] u _ (IsForms.three (Blk.new _ _ _) (F2.ha.keep (by (repeat' (first | (with_reducible exact Below.refl _ _) | (with_reducible assumption) | (with_reducible refine Below.next ?_ (by with_reducible assumption)) | (with_reducible refine Below.drew ?_) | (with_reducible refine Below.laid ?_ _) | (with_reducible refine Below.setCell ?_ ?_ _) | (with_reducible refine size_of ?_) | (with_reducible refine Nat.le_succ_of_le ?_) | go_size)))) (F2.hc.keep (by (repeat' (first | (with_reducible exact Below.refl _ _) | (with_reducible assumption) | (with_reducible refine Below.next ?_ (by with_reducible assumption)) | (with_reducible refine Below.drew ?_) | (with_reducible refine Below.laid ?_ _) | (with_reducible refine Below.setCell ?_ ?_ _) | (with_reducible refine size_of ?_) | (with_reducible refine Nat.le_succ_of_le ?_) | go_size)))) (F1.ha.keep (by (repeat' (first | (with_reducible exact Below.refl _ _) | (with_reducible assumption) | (with_reducible refine Below.next ?_ (by with_reducible assumption)) | (with_reducible refine Below.drew ?_) | (with_reducible refine Below.laid ?_ _) | (with_reducible refine Below.setCell ?_ ?_ _) | (with_reducible refine size_of ?_) | (with_reducible refine Nat.le_succ_of_le ?_) | go_size)))) (F1.hc.keep (by (repeat' (first | (with_reducible exact Below.refl _ _) | (with_reducible assumption) | (with_reducible refine Below.next ?_ (by with_reducible assumption)) | (with_reducible refine Below.drew ?_) | (with_reducible refine Below.laid ?_ _) | (with_reducible refine Below.setCell ?_ ?_ _) | (with_reducible refine size_of ?_) | (with_reducible refine Nat.le_succ_of_le ?_) | go_size)))) (F2.ha.keep (by (repeat' (first | (with_reducible exact Below.refl _ _) | (with_reducible assumption) | (with_reducible refine Below.next ?_ (by with_reducible assumption)) | (with_reducible refine Below.drew ?_) | (with_reducible refine Below.laid ?_ _) | (with_reducible refine Below.setCell ?_ ?_ _) | (with_reducible refine size_of ?_) | (with_reducible refine Nat.le_succ_of_le ?_) | go_size)))) (F2.hc.keep (by (repeat' (first | (with_reducible exact Below.refl _ _) | (with_reducible assumption) | (with_reducible refine Below.next ?_ (by with_reducible assumption)) | (with_reducible refine Below.drew ?_) | (with_reducible refine Below.laid ?_ _) | (with_reducible refine Below.setCell ?_ ?_ _) | (with_reducible refine size_of ?_) | (with_reducible refine Nat.le_succ_of_le ?_) | go_size))))) (HK.out.keep (by (repeat' (first | (with_reducible exact Below.refl _ _) | (with_reducible assumption) | (with_reducible refine Below.next ?_ (by with_reducible assumption)) | (with_reducible refine Below.drew ?_) | (with_reducible refine Below.laid ?_ _) | (with_reducible refine Below.setCell ?_ ?_ _) | (with_reducible refine size_of ?_) | (with_reducible refine Nat.le_succ_of_le ?_) | go_size))))).mono ?_
  rintro e w3 ⟨v3, rfl, hb3, hI3⟩
  have hq3 : Below w2.heap.size w2 w3 := by (repeat' (first | (with_reducible exact Below.refl _ _) | (with_reducible assumption) | (with_reducible refine Below.next ?_ (by with_reducible assumption)) | (with_reducible refine Below.drew ?_) | (with_reducible refine Below.laid ?_ _) | (with_reducible refine Below.setCell ?_ ?_ _) | (with_reducible refine size_of ?_) | (with_reducible refine Nat.le_succ_of_le ?_) | go_size))
  have hw3 := Below.next hw2 hq3
  clear x0 x1 y0 y1 xl yl
  by_cases hg : Venn.termChk t = 0 ∧ Venn.things u = true
  · obtain ⟨g1, g2, g3, g4⟩ := Venn.core_alone t u hg.1 hg.2
    rw [g2] at hI3
    rw [g1]
    obtain ⟨A3, c3, rfl, hrd, _, _⟩ := hI3
    obtain ⟨ad, rfl, hc0⟩ := hrd 0 (.int .i64 1) rfl
    have HO := Lib.hid (show openVv [⟨[⟨3, t, [], 0⟩], [0]⟩] u = .tuple #[.bool true, .nilIface] by rw [openVv, g3, g4]; rfl)
    replace F2 := F2.keep hq3
    obtain ⟨⟨y0, y1⟩, _⟩ := F2.box.cells2
    have yl := F2.box.lt
    clear hg g1 g2 g3 g4 hrd F1
    rw [errV_zero rfl]
    simp only [List.length_cons, List.length_nil, Nat.zero_add]
    go_wp2_with fail
    refine (core_Open _ [⟨[⟨3, t, [], 0⟩], [0]⟩] u _ (IsForms.one (Blk.new _ _ _) (F2.ha.keep (by (repeat' (first | (with_reducible exact Below.refl _ _) | (with_reducible assumption) | (with_reducible refine Below.next ?_ (by with_reducible assumption)) | (with_reducible refine Below.drew ?_) | (with_reducible refine Below.laid ?_ _) | (with_reducible refine Below.setCell ?_ ?_ _) | (with_reducible refine size_of ?_) | (with_reducible refine Nat.le_succ_of_le ?_) | go_size)))) (F2.hc.keep (by (repeat' (first | (with_reducible exact Below.refl _ _) | (with_reducible assumption) | (with_reducible refine Below.next ?_ (by with_reducible assumption)) | (with_reducible refine Below.drew ?_) | (with_reducible refine Below.laid ?_ _) | (with_reducible refine Below.setCell ?_ ?_ _) | (with_reducible refine size_of ?_) | (with_reducible refine Nat.le_succ_of_le ?_) | go_size))))) (HK.out.keep (by (repeat' (first | (with_reducible exact Below.refl _ _) | (with_reducible assumption) | (with_reducible refine Below.next ?_ (by with_reducible assumption)) | (with_reducible refine Below.drew ?_) | (with_reducible refine Below.laid ?_ _) | (with_reducible refine Below.setCell ?_ ?_ _) | (with_reducible refine size_of ?_) | (with_reducible refine Nat.le_succ_of_le ?_) | go_size))))).mono ?_
    rintro e w4 ⟨rfl, hb4⟩
    rw [HO.out]
    have hq4 : Below w3.heap.size w3 w4 := by (repeat' (first | (with_reducible exact Below.refl _ _) | (with_reducible assumption) | (with_reducible refine Below.next ?_ (by with_reducible assumption)) | (with_reducible refine Below.drew ?_) | (with_reducible refine Below.laid ?_ _) | (with_reducible refine Below.setCell ?_ ?_ _) | (with_reducible refine size_of ?_) | (with_reducible refine Nat.le_succ_of_le ?_) | go_size))
    have hc4 := cell_keep hq4 hc0
    clear hc0 y0 y1 yl
    simp only [Addr.add, if_true] at hc4
    go_wp2
    go_ret
    exact ⟨rfl, Below.next hw3 hq4⟩
  · have hne := Venn.core_alone_bad t u hg
    have he : Venn.coreErr [⟨[⟨3, t, [], 0⟩], [0]⟩, ⟨[⟨4, t, [], -1⟩], [0]⟩, ⟨[⟨3, t, [], 0⟩], [0]⟩] u = Venn.coreChk [⟨[⟨3, t, [], 0⟩], [0]⟩, ⟨[⟨4, t, [], -1⟩], [0]⟩, ⟨[⟨3, t, [], 0⟩], [0]⟩] u := if_neg hne
    rw [he, errV_ne hne]
    generalize Venn.coreChk [⟨[⟨3, t, [], 0⟩], [0]⟩, ⟨[⟨4, t, [], -1⟩], [0]⟩, ⟨[⟨3, t, [], 0⟩], [0]⟩] u = EE
    obtain ⟨A3, c3, rfl, _⟩ := hI3
    clear he hne F1 F2
    generalize (Venn.coreV [⟨[⟨3, t, [], 0⟩], [0]⟩, ⟨[⟨4, t, [], -1⟩], [0]⟩, ⟨[⟨3, t, [], 0⟩], [0]⟩] u).length = NN
    by_cases ht : Venn.termChk t = 0
    · have HZ := Lib.hid (errV_zero ht)
      have hu : u < 0 ∨ (¬ u < 0 ∧ 6 < u) := by
        by_cases h : Venn.things u = true
        · exact absurd ⟨ht, h⟩ hg
        · simp only [Venn.things, Bool.and_eq_true, decide_eq_true_eq] at h
          omega
      clear ht hg
      rcases hu with h0 | ⟨h0, h1⟩
      all_goals
        go_wp2_with (go_at_call 33; refine (term_Check _ t _ (HT.out.keep (by (repeat' (first | (with_reducible exact Below.refl _ _) | (with_reducible assumption) | (with_reducible refine Below.next ?_ (by with_reducible assumption)) | (with_reducible refine Below.drew ?_) | (with_reducible refine Below.laid ?_ _) | (with_reducible refine Below.setCell ?_ ?_ _) | (with_reducible refine size_of ?_) | (with_reducible refine Nat.le_succ_of_le ?_) | go_size))))).mono ?_; rintro e w' ⟨rfl, rfl⟩; rw [HZ.out])
        go_ret
        exact ⟨rfl, by (repeat' (first | (with_reducible exact Below.refl _ _) | (with_reducible assumption) | (with_reducible refine Below.next ?_ (by with_reducible assumption)) | (with_reducible refine Below.drew ?_) | (with_reducible refine Below.laid ?_ _) | (with_reducible refine Below.setCell ?_ ?_ _) | (with_reducible refine size_of ?_) | (with_reducible refine Nat.le_succ_of_le ?_) | go_size))⟩
    · have HZ := Lib.hid (errV_ne ht)
      clear ht hg
      go_wp2_with (go_at_call 33; refine (term_Check _ t _ (HT.out.keep (by (repeat' (first | (with_reducible exact Below.refl _ _) | (with_reducible assumption) | (with_reducible refine Below.next ?_ (by with_reducible assumption)) | (with_reducible refine Below.drew ?_) | (with_reducible refine Below.laid ?_ _) | (with_reducible refine Below.setCell ?_ ?_ _) | (with_reducible refine size_of ?_) | (with_reducible refine Nat.le_succ_of_le ?_) | go_size))))).mono ?_; rintro e w' ⟨rfl, rfl⟩; rw [HZ.out])
      go_ret
      exact ⟨rfl, by (repeat' (first | (with_reducible exact Below.refl _ _) | (with_reducible assumption) | (with_reducible refine Below.next ?_ (by with_reducible assumption)) | (with_reducible refine Below.drew ?_) | (with_reducible refine Below.laid ?_ _) | (with_reducible refine Below.setCell ?_ ?_ _) | (with_reducible refine size_of ?_) | (with_reducible refine Nat.le_succ_of_le ?_) | go_size))⟩
end Go.Proofs.YtnjamgmaclmlpaaDoor
