/-
  THE WALKS of the reference's Far, join, put.
-/
import Derived.Test.YtlpfbdejiifbpaaGreatDoorAdd
namespace Venn
def joinFrom (a b : List Int) : List Int → List Int → Option (List Int)
  | [], q => some q
  | n :: r, q => if clash a b n = true then none else joinFrom a b r (q ++ joinN a b n)
theorem joinFrom_eq (a b : List Int) : ∀ (l q : List Int), joinFrom a b l q = if l.any (clash a b) = true then none else some (q ++ l.flatMap (joinN a b)) := by
  intro l
  induction l with
  | nil => intro q; simp [joinFrom]
  | cons n r ih =>
    intro q
    rw [joinFrom, ih, List.any_cons, List.flatMap_cons, List.append_assoc]
    by_cases h : clash a b n = true
    · rw [if_pos h, h]; rfl
    · rw [if_neg h, Bool.not_eq_true] at *
      rw [h, Bool.false_or]
theorem joinV_from (a b : List Int) : joinV a b = joinFrom a b six [] := by
  rw [joinFrom_eq]
  rfl
theorem has_step {x n : Int} {r : List Int} {P C : Bool} (h : (P || (x :: r).contains n) = C) : ((P || x == n) || r.contains n) = C := by
  rw [← h, List.contains_cons, Bool.or_assoc, show (x == n) = (n == x) from Bool.eq_iff_iff.2 (by rw [beq_iff_eq, beq_iff_eq]; exact ⟨Eq.symm, Eq.symm⟩)]
end Venn
namespace Go.Proofs.YtlpfbdejiifbpaaGreatDoor
open Go.RowKit

theorem ref_Far (n : Int) (h : -20 ≤ n ∧ n ≤ 20) (w : World) : Calls Tryz.prog 17 #[.int .i64 n] w (Pure (.int .i64 (Venn.absI n)) w) := by
  have hw : wrap64 (-n) = -n := IntWalk.wrap64_in _ (by omega)
  unfold Venn.absI
  by_cases h0 : n < 0
  · rw [if_pos h0]
    go_enter Tryz.func17, Tryz.ntmps17
    go_wp2
    go_ret
    exact ⟨rfl, rfl⟩
  · rw [if_neg h0]
    go_enter Tryz.func17, Tryz.ntmps17
    go_wp2
    go_ret
    exact ⟨rfl, rfl⟩

structure JAt (w wr : World) (v : Value) (q : List Int) : Prop where
  own : wr.ownsRow w.heap.size 3 1 v q.length (q.map (Value.int .i64))
  below : Below w.heap.size w wr
theorem JAt.one {w wr : World} {v : Value} {q : List Int} (h : JAt w wr v q) (n : Int) {wa wb : World} (ha : Below wr.heap.size wr wa) {v' : Value} (hown : wb.ownsRow w.heap.size 3 1 v' (q.length + 1) (q.map (Value.int .i64) ++ [.int .i64 n])) (hg : wa.grownBy wb v.ownBlock) : JAt w wb v' (q ++ [n]) := by
  refine ⟨by rw [List.length_append, List.map_append]; exact hown, ?_⟩
  exact (Below.next h.below ha).grown hg (Nat.le_trans h.below.size ha.size) (fun b e => (h.own.lt b e).1)
set_option maxHeartbeats 4000000 in
set_option maxRecDepth 100000 in
theorem ref_join (sa sb : Value) (la lb : List Int) (w : World) (ha : IsInts w sa la) (hb : IsInts w sb lb) (h1 : la.length ≤ 100) (h2 : lb.length ≤ 100) :
    Calls Tryz.prog 65 #[sa, sb] w (MergePost (Venn.joinV la lb) w) := by
  obtain ⟨A, ca, rfl, hra, _, _⟩ := ha
  obtain ⟨B, cb, rfl, hrb, _, _⟩ := hb
  have HRA := Lib.hid hra
  have HRB := Lib.hid hrb
  have HJ := Lib.hid (show Venn.joinV la lb = Venn.joinFrom la lb (Venn.six.drop 0) [] from Venn.joinV_from la lb)
  generalize Venn.joinV la lb = J at HJ ⊢
  clear hra hrb
  go_enter Tryz.func65, Tryz.ntmps65
  go_wp2
  go_loopw [6, 7] (fun v i wr => ∃ (k : Nat) (q : List Int), k ≤ 6 ∧ i = .int .i64 ((k : Int) + 1) ∧ JAt w wr v q ∧ q.length ≤ 2 * k ∧ J = Venn.joinFrom la lb (Venn.six.drop k) q) (fun _ i _ => 7 - (intOf i).toNat)
  case atStart => exact ⟨0, [], by omega, rfl, ⟨World.ownsRow_nil _ _ _ _, Below.refl _ _⟩, by simp, HJ.out⟩
  case round =>
    clear HJ
    obtain ⟨k, q, hk, rfl, hj, hq, hJ⟩ := hrel
    obtain ⟨wo, rfl⟩ : ∃ wo : World, wo = wr := ⟨_, rfl⟩
    obtain ⟨V0, k0, rfl⟩ := ownsRow_slice hj.own
    have HW := Lib.hid hj
    have hbw := hj.below
    clear hj
    by_cases hlt : k < 6
    · have hdrop : Venn.six.drop k = ((k : Int) + 1) :: Venn.six.drop (k + 1) := by
        have : k = 0 ∨ k = 1 ∨ k = 2 ∨ k = 3 ∨ k = 4 ∨ k = 5 := by omega
        rcases this with rfl | rfl | rfl | rfl | rfl | rfl <;> rfl
      rw [hdrop, Venn.joinFrom] at hJ
      obtain ⟨n, hn⟩ : ∃ n : Int, n = (k : Int) + 1 := ⟨_, rfl⟩
      have hn1 : 1 ≤ n ∧ n ≤ 6 := by omega
      have HN := Lib.hid hn
      rw [← hn] at hJ ⊢
      have hw : wrap64 (-n) = -n := IntWalk.wrap64_in _ (by omega)
      have g6 : n ≤ 6 := hn1.2
      have HJ := Lib.hid hJ
      have HQ := Lib.hid hq
      clear hJ hq hdrop hn hn1
      have hk7 : (k : Int) + 1 = n := HN.out.symm
      go_wp2
      go_loopw [8, 9, 10] (fun s8 s9 i wr => ∃ (j : Nat) (P M : Bool), j ≤ la.length ∧ i = .int .i64 j ∧ s8 = .bool P ∧ s9 = .bool M ∧ wo = wr ∧ (P || (la.drop j).contains n) = la.contains n ∧ (M || (la.drop j).contains (-n)) = la.contains (-n)) (fun _ _ i _ => la.length - (intOf i).toNat)
      case atStart => exact ⟨0, false, false, Nat.zero_le _, rfl, rfl, rfl, (by first | rfl | trivial), by rw [List.drop_zero]; rfl, by rw [List.drop_zero]; rfl⟩
      case round =>
        obtain ⟨j, P, M, hj, rfl, rfl, rfl, rfl, hP, hM⟩ := hrel
        by_cases hlj : j < la.length
        · obtain ⟨xd, rfl, hd0⟩ := HRA.out.int hlj
          have hd := cell_keep hbw hd0
          rw [List.drop_eq_getElem_cons hlj] at hP hM
          generalize la[j] = x at hd hP hM
          have HP := Lib.hid (Venn.has_step hP)
          have HM := Lib.hid (Venn.has_step hM)
          have hj1 : (j : Int) < (la.length : Int) := by omega
          have hj0 : (0 : Int) ≤ (j : Int) := by omega
          clear hd0 hP hM hbw
          cases P <;> cases M
          all_goals
            go_wp2
            go_roundw
            case rel => exact ⟨j + 1, _, _, by omega, by go_num, rfl, rfl, (by first | rfl | trivial), HP.out, HM.out⟩
            case measure => simp [intOf]; omega
        · have hj' : j = la.length := by omega
          subst hj'
          have HP := Lib.hid (show P = la.contains n by rw [← hP, List.drop_length]; simp)
          have HM := Lib.hid (show M = la.contains (-n) by rw [← hM, List.drop_length]; simp)
          clear hP hM
          go_wp2
          go_loopw [8, 9, 11] (fun s8 s9 i wr => ∃ (j : Nat) (P M : Bool), j ≤ lb.length ∧ i = .int .i64 j ∧ s8 = .bool P ∧ s9 = .bool M ∧ wo = wr ∧ (P || (lb.drop j).contains n) = Venn.hasI la lb n ∧ (M || (lb.drop j).contains (-n)) = Venn.hasI la lb (-n)) (fun _ _ i _ => lb.length - (intOf i).toNat)
          case atStart => exact ⟨0, P, M, Nat.zero_le _, rfl, rfl, rfl, (by first | rfl | trivial), by rw [List.drop_zero, HP.out]; rfl, by rw [List.drop_zero, HM.out]; rfl⟩
          case round =>
            clear HP HM
            obtain ⟨j, P, M, hj, rfl, rfl, rfl, rfl, hP, hM⟩ := hrel
            by_cases hlj : j < lb.length
            · obtain ⟨xd, rfl, hd0⟩ := HRB.out.int hlj
              have hd := cell_keep hbw hd0
              rw [List.drop_eq_getElem_cons hlj] at hP hM
              generalize lb[j] = x at hd hP hM
              have HP := Lib.hid (Venn.has_step hP)
              have HM := Lib.hid (Venn.has_step hM)
              have hj1 : (j : Int) < (lb.length : Int) := by omega
              have hj0 : (0 : Int) ≤ (j : Int) := by omega
              clear hd0 hP hM hbw
              cases P <;> cases M
              all_goals
                go_wp2
                go_roundw
                case rel => exact ⟨j + 1, _, _, by omega, by go_num, rfl, rfl, (by first | rfl | trivial), HP.out, HM.out⟩
                case measure => simp [intOf]; omega
            · have hj' : j = lb.length := by omega
              subst hj'
              have hP : P = Venn.hasI la lb n := by rw [← hP, List.drop_length]; simp
              have hM : M = Venn.hasI la lb (-n) := by rw [← hM, List.drop_length]; simp
              have HC := Lib.hid (show Venn.clash la lb n = (P && M) by unfold Venn.clash; rw [← hP, ← hM])
              have HN2 := Lib.hid (show Venn.joinN la lb n = (if P then [n] else []) ++ (if M then [-n] else []) by unfold Venn.joinN; rw [← hP, ← hM])
              clear hP hM
              have hb1 := fun m : Int => show Below wo.heap.size wo (wo.alloc (.cells #[.int .i64 m] 3)) by (repeat' (first | (with_reducible exact Below.refl _ _) | (with_reducible assumption) | (with_reducible refine Below.next ?_ (by with_reducible assumption)) | (with_reducible refine Below.drew ?_) | (with_reducible refine Below.laid ?_ _) | (with_reducible refine Below.setCell ?_ ?_ _) | (with_reducible refine size_of ?_) | (with_reducible refine Nat.le_succ_of_le ?_) | go_size))
              have hcell := fun m : Int => (Blk.new wo 3 #[.int .i64 m]).cell 0
              have hqlen : q.length < 1000000 := by have := HQ.out; omega
              cases P <;> cases M
              · have HJ := Lib.hid (show J = Venn.joinFrom la lb (Venn.six.drop (k + 1)) q by rw [HJ.out, HC.out, HN2.out]; simp)
                go_wp2
                go_roundw
                case rel => exact ⟨k + 1, q, by omega, by rw [← hk7]; go_num, HW.out, by have := HQ.out; omega, HJ.out⟩
                case measure => simp [intOf]; omega
              · have HJ := Lib.hid (show J = Venn.joinFrom la lb (Venn.six.drop (k + 1)) (q ++ [-n]) by rw [HJ.out, HC.out, HN2.out]; simp)
                go_upto_region 22 with (fail)
                go_wp2_with (at_builtin; refine wpList_app1 _ rfl _ _ rfl w.heap.size _ q.length _ rfl (own_below HW.out.own (hb1 (-n))) wo.heap.size 1 (-n) rfl (hcell (-n)) (by omega) (Nat.le_trans HW.out.below.size (hb1 (-n)).size) ?_)
                intro v' w3 hown3 hg3
                have HW3 := Lib.hid (HW.out.one (-n) (hb1 (-n)) hown3 hg3)
                clear hown3 hg3 hcell hb1
                go_wp2
                go_roundw
                case rel => exact ⟨k + 1, q ++ [-n], by omega, by rw [← hk7]; go_num, HW3.out, by have := HQ.out; simp; omega, HJ.out⟩
                case measure => simp [intOf]; omega
              · have HJ := Lib.hid (show J = Venn.joinFrom la lb (Venn.six.drop (k + 1)) (q ++ [n]) by rw [HJ.out, HC.out, HN2.out]; simp)
                go_upto_region 20 with (fail)
                go_wp2_with (at_builtin; refine wpList_app1 _ rfl _ _ rfl w.heap.size _ q.length _ rfl (own_below HW.out.own (hb1 n)) wo.heap.size 1 n rfl (hcell n) (by omega) (Nat.le_trans HW.out.below.size (hb1 n).size) ?_)
                intro v' w3 hown3 hg3
                have HW3 := Lib.hid (HW.out.one n (hb1 n) hown3 hg3)
                clear hown3 hg3 hcell hb1
                go_wp2
                go_roundw
                case rel => exact ⟨k + 1, q ++ [n], by omega, by rw [← hk7]; go_num, HW3.out, by have := HQ.out; simp; omega, HJ.out⟩
                case measure => simp [intOf]; omega
              · have HJ := Lib.hid (show J = none by rw [HJ.out, HC.out]; rfl)
                go_wp2
                go_ret2
                exact ⟨hbw, .inl ⟨HJ.out, rfl⟩⟩
    · have hk' : k = 6 := by omega
      subst hk'
      have HJ := Lib.hid (show J = some q from hJ)
      clear hJ hq
      have hI := IsInts.of_own HW.out.own
      have HI := Lib.hid hI
      have HL := Lib.hid (fun b e => HW.out.own.lt b e)
      clear hI
      go_wp2
      go_ret2
      exact ⟨hbw, .inr ⟨q, _, HJ.out, rfl, HI.out, HL.out⟩⟩
end Go.Proofs.YtlpfbdejiifbpaaGreatDoor
