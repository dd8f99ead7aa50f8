/-
  THE WALKS of the reference's Far, join, put.
  THE WALKS of the reference's put, And, Or.
  THE WALKS of the reference's And, Or, No.
  THE WALK of the reference's No.
  THE WALK of the reference's Cubes.
-/
import Derived.Test.YtpkleioabinkkaaGreatDoorCubesG
import Derived.Deep.RegionLaw
import Derived.Test.YtpkleioabinkkaaGreatDoorCubesH
namespace Venn
def joinFrom (a b : List Int) : List Int → List Int → Option (List Int)
  | [], q => some q
  | n :: r, q => if clash a b n = true then none else joinFrom a b r (q ++ joinN a b n)
theorem joinFrom_eq (a b : List Int) : ∀ (l q : List Int), joinFrom a b l q = if l.any (clash a b) = true then none else some (q ++ l.flatMap (joinN a b)) := by
  intro l
  induction l with
  | nil => intro q; simp [joinFrom]
  | cons n r ih =>
    intro q
    rw [joinFrom, ih, List.any_cons, List.flatMap_cons, List.append_assoc]
    by_cases h : clash a b n = true
    · rw [if_pos h, h]; rfl
    · rw [if_neg h, Bool.not_eq_true] at *
      rw [h, Bool.false_or]
theorem joinV_from (a b : List Int) : joinV a b = joinFrom a b six [] := by
  rw [joinFrom_eq]
  rfl
theorem has_step {x n : Int} {r : List Int} {P C : Bool} (h : (P || (x :: r).contains n) = C) : ((P || x == n) || r.contains n) = C := by
  rw [← h, List.contains_cons, Bool.or_assoc, show (x == n) = (n == x) from Bool.eq_iff_iff.2 (by rw [beq_iff_eq, beq_iff_eq]; exact ⟨Eq.symm, Eq.symm⟩)]
end Venn
namespace Go.Proofs.YtpkleioabinkkaaGreatDoor
open Go.RowKit

theorem ref_Far (n : Int) (h : -20 ≤ n ∧ n ≤ 20) (w : World) : Calls Tryz.prog 40 #[.int .i64 n] w (Pure (.int .i64 (Venn.absI n)) w) := by
  have hw : wrap64 (-n) = -n := IntWalk.wrap64_in _ (by omega)
  unfold Venn.absI
  by_cases h0 : n < 0
  · rw [if_pos h0]
    go_enter Tryz.func40, Tryz.ntmps40
    go_wp2
    go_ret
    exact ⟨rfl, rfl⟩
  · rw [if_neg h0]
    go_enter Tryz.func40, Tryz.ntmps40
    go_wp2
    go_ret
    exact ⟨rfl, rfl⟩

structure JAt (w wr : World) (v : Value) (q : List Int) : Prop where
  own : wr.ownsRow w.heap.size 3 1 v q.length (q.map (Value.int .i64))
  below : Below w.heap.size w wr
theorem JAt.one {w wr : World} {v : Value} {q : List Int} (h : JAt w wr v q) (n : Int) {wa wb : World} (ha : Below wr.heap.size wr wa) {v' : Value} (hown : wb.ownsRow w.heap.size 3 1 v' (q.length + 1) (q.map (Value.int .i64) ++ [.int .i64 n])) (hg : wa.grownBy wb v.ownBlock) : JAt w wb v' (q ++ [n]) := by
  refine ⟨by rw [List.length_append, List.map_append]; exact hown, ?_⟩
  exact (Below.next h.below ha).grown hg (Nat.le_trans h.below.size ha.size) (fun b e => (h.own.lt b e).1)
set_option maxHeartbeats 4000000 in
set_option maxRecDepth 100000 in
theorem ref_join (sa sb : Value) (la lb : List Int) (w : World) (ha : IsInts w sa la) (hb : IsInts w sb lb) (h1 : la.length ≤ 100) (h2 : lb.length ≤ 100) :
    Calls Tryz.prog 90 #[sa, sb] w (MergePost (Venn.joinV la lb) w) := by
  obtain ⟨A, ca, rfl, hra, _, _⟩ := ha
  obtain ⟨B, cb, rfl, hrb, _, _⟩ := hb
  have HRA := Lib.hid hra
  have HRB := Lib.hid hrb
  have HJ := Lib.hid (show Venn.joinV la lb = Venn.joinFrom la lb (Venn.six.drop 0) [] from Venn.joinV_from la lb)
  generalize Venn.joinV la lb = J at HJ ⊢
  clear hra hrb
  go_enter Tryz.func90, Tryz.ntmps90
  go_wp2
  go_loopw [6, 7] (fun v i wr => ∃ (k : Nat) (q : List Int), k ≤ 6 ∧ i = .int .i64 ((k : Int) + 1) ∧ JAt w wr v q ∧ q.length ≤ 2 * k ∧ J = Venn.joinFrom la lb (Venn.six.drop k) q) (fun _ i _ => 7 - (intOf i).toNat)
  case atStart => exact ⟨0, [], by omega, rfl, ⟨World.ownsRow_nil _ _ _ _, Below.refl _ _⟩, by simp, HJ.out⟩
  case round =>
    clear HJ
    obtain ⟨k, q, hk, rfl, hj, hq, hJ⟩ := hrel
    obtain ⟨wo, rfl⟩ : ∃ wo : World, wo = wr := ⟨_, rfl⟩
    obtain ⟨V0, k0, rfl⟩ := ownsRow_slice hj.own
    have HW := Lib.hid hj
    have hbw := hj.below
    clear hj
    by_cases hlt : k < 6
    · have hdrop : Venn.six.drop k = ((k : Int) + 1) :: Venn.six.drop (k + 1) := by
        have : k = 0 ∨ k = 1 ∨ k = 2 ∨ k = 3 ∨ k = 4 ∨ k = 5 := by omega
        rcases this with rfl | rfl | rfl | rfl | rfl | rfl <;> rfl
      rw [hdrop, Venn.joinFrom] at hJ
      obtain ⟨n, hn⟩ : ∃ n : Int, n = (k : Int) + 1 := ⟨_, rfl⟩
      have hn1 : 1 ≤ n ∧ n ≤ 6 := by omega
      have HN := Lib.hid hn
      rw [← hn] at hJ ⊢
      have hw : wrap64 (-n) = -n := IntWalk.wrap64_in _ (by omega)
      have g6 : n ≤ 6 := hn1.2
      have HJ := Lib.hid hJ
      have HQ := Lib.hid hq
      clear hJ hq hdrop hn hn1
      have hk7 : (k : Int) + 1 = n := HN.out.symm
      go_wp2
      go_loopw [8, 9, 10] (fun s8 s9 i wr => ∃ (j : Nat) (P M : Bool), j ≤ la.length ∧ i = .int .i64 j ∧ s8 = .bool P ∧ s9 = .bool M ∧ wo = wr ∧ (P || (la.drop j).contains n) = la.contains n ∧ (M || (la.drop j).contains (-n)) = la.contains (-n)) (fun _ _ i _ => la.length - (intOf i).toNat)
      case atStart => exact ⟨0, false, false, Nat.zero_le _, rfl, rfl, rfl, (by first | rfl | trivial), by rw [List.drop_zero]; rfl, by rw [List.drop_zero]; rfl⟩
      case round =>
        obtain ⟨j, P, M, hj, rfl, rfl, rfl, rfl, hP, hM⟩ := hrel
        by_cases hlj : j < la.length
        · obtain ⟨xd, rfl, hd0⟩ := HRA.out.int hlj
          have hd := cell_keep hbw hd0
          rw [List.drop_eq_getElem_cons hlj] at hP hM
          generalize la[j] = x at hd hP hM
          have HP := Lib.hid (Venn.has_step hP)
          have HM := Lib.hid (Venn.has_step hM)
          have hj1 : (j : Int) < (la.length : Int) := by omega
          have hj0 : (0 : Int) ≤ (j : Int) := by omega
          clear hd0 hP hM hbw
          cases P <;> cases M
          all_goals
            go_wp2
            go_roundw
            case rel => exact ⟨j + 1, _, _, by omega, by go_num, rfl, rfl, (by first | rfl | trivial), HP.out, HM.out⟩
            case measure => simp [intOf]; omega
        · have hj' : j = la.length := by omega
          subst hj'
          have HP := Lib.hid (show P = la.contains n by rw [← hP, List.drop_length]; simp)
          have HM := Lib.hid (show M = la.contains (-n) by rw [← hM, List.drop_length]; simp)
          clear hP hM
          go_wp2
          go_loopw [8, 9, 11] (fun s8 s9 i wr => ∃ (j : Nat) (P M : Bool), j ≤ lb.length ∧ i = .int .i64 j ∧ s8 = .bool P ∧ s9 = .bool M ∧ wo = wr ∧ (P || (lb.drop j).contains n) = Venn.hasI la lb n ∧ (M || (lb.drop j).contains (-n)) = Venn.hasI la lb (-n)) (fun _ _ i _ => lb.length - (intOf i).toNat)
          case atStart => exact ⟨0, P, M, Nat.zero_le _, rfl, rfl, rfl, (by first | rfl | trivial), by rw [List.drop_zero, HP.out]; rfl, by rw [List.drop_zero, HM.out]; rfl⟩
          case round =>
            clear HP HM
            obtain ⟨j, P, M, hj, rfl, rfl, rfl, rfl, hP, hM⟩ := hrel
            by_cases hlj : j < lb.length
            · obtain ⟨xd, rfl, hd0⟩ := HRB.out.int hlj
              have hd := cell_keep hbw hd0
              rw [List.drop_eq_getElem_cons hlj] at hP hM
              generalize lb[j] = x at hd hP hM
              have HP := Lib.hid (Venn.has_step hP)
              have HM := Lib.hid (Venn.has_step hM)
              have hj1 : (j : Int) < (lb.length : Int) := by omega
              have hj0 : (0 : Int) ≤ (j : Int) := by omega
              clear hd0 hP hM hbw
              cases P <;> cases M
              all_goals
                go_wp2
                go_roundw
                case rel => exact ⟨j + 1, _, _, by omega, by go_num, rfl, rfl, (by first | rfl | trivial), HP.out, HM.out⟩
                case measure => simp [intOf]; omega
            · have hj' : j = lb.length := by omega
              subst hj'
              have hP : P = Venn.hasI la lb n := by rw [← hP, List.drop_length]; simp
              have hM : M = Venn.hasI la lb (-n) := by rw [← hM, List.drop_length]; simp
              have HC := Lib.hid (show Venn.clash la lb n = (P && M) by unfold Venn.clash; rw [← hP, ← hM])
              have HN2 := Lib.hid (show Venn.joinN la lb n = (if P then [n] else []) ++ (if M then [-n] else []) by unfold Venn.joinN; rw [← hP, ← hM])
              clear hP hM
              have hb1 := fun m : Int => show Below wo.heap.size wo (wo.alloc (.cells #[.int .i64 m] 3)) by (repeat' (first | (with_reducible exact Below.refl _ _) | (with_reducible assumption) | (with_reducible refine Below.next ?_ (by with_reducible assumption)) | (with_reducible refine Below.drew ?_) | (with_reducible refine Below.laid ?_ _) | (with_reducible refine Below.setCell ?_ ?_ _) | (with_reducible refine size_of ?_) | (with_reducible refine Nat.le_succ_of_le ?_) | go_size))
              have hcell := fun m : Int => (Blk.new wo 3 #[.int .i64 m]).cell 0
              have hqlen : q.length < 1000000 := by have := HQ.out; omega
              cases P <;> cases M
              · have HJ := Lib.hid (show J = Venn.joinFrom la lb (Venn.six.drop (k + 1)) q by rw [HJ.out, HC.out, HN2.out]; simp)
                go_wp2
                go_roundw
                case rel => exact ⟨k + 1, q, by omega, by rw [← hk7]; go_num, HW.out, by have := HQ.out; omega, HJ.out⟩
                case measure => simp [intOf]; omega
              · have HJ := Lib.hid (show J = Venn.joinFrom la lb (Venn.six.drop (k + 1)) (q ++ [-n]) by rw [HJ.out, HC.out, HN2.out]; simp)
                go_upto_region 22 with (fail)
                go_wp2_with (at_builtin; refine wpList_app1 _ rfl _ _ rfl w.heap.size _ q.length _ rfl (own_below HW.out.own (hb1 (-n))) wo.heap.size 1 (-n) rfl (hcell (-n)) (by omega) (Nat.le_trans HW.out.below.size (hb1 (-n)).size) ?_)
                intro v' w3 hown3 hg3
                have HW3 := Lib.hid (HW.out.one (-n) (hb1 (-n)) hown3 hg3)
                clear hown3 hg3 hcell hb1
                go_wp2
                go_roundw
                case rel => exact ⟨k + 1, q ++ [-n], by omega, by rw [← hk7]; go_num, HW3.out, by have := HQ.out; simp; omega, HJ.out⟩
                case measure => simp [intOf]; omega
              · have HJ := Lib.hid (show J = Venn.joinFrom la lb (Venn.six.drop (k + 1)) (q ++ [n]) by rw [HJ.out, HC.out, HN2.out]; simp)
                go_upto_region 20 with (fail)
                go_wp2_with (at_builtin; refine wpList_app1 _ rfl _ _ rfl w.heap.size _ q.length _ rfl (own_below HW.out.own (hb1 n)) wo.heap.size 1 n rfl (hcell n) (by omega) (Nat.le_trans HW.out.below.size (hb1 n).size) ?_)
                intro v' w3 hown3 hg3
                have HW3 := Lib.hid (HW.out.one n (hb1 n) hown3 hg3)
                clear hown3 hg3 hcell hb1
                go_wp2
                go_roundw
                case rel => exact ⟨k + 1, q ++ [n], by omega, by rw [← hk7]; go_num, HW3.out, by have := HQ.out; simp; omega, HJ.out⟩
                case measure => simp [intOf]; omega
              · have HJ := Lib.hid (show J = none by rw [HJ.out, HC.out]; rfl)
                go_wp2
                go_ret2
                exact ⟨hbw, .inl ⟨HJ.out, rfl⟩⟩
    · have hk' : k = 6 := by omega
      subst hk'
      have HJ := Lib.hid (show J = some q from hJ)
      clear hJ hq
      have hI := IsInts.of_own HW.out.own
      have HI := Lib.hid hI
      have HL := Lib.hid (fun b e => HW.out.own.lt b e)
      clear hI
      go_wp2
      go_ret2
      exact ⟨hbw, .inr ⟨q, _, HJ.out, rfl, HI.out, HL.out⟩⟩
end Go.Proofs.YtpkleioabinkkaaGreatDoor

namespace Go.Proofs.YtpkleioabinkkaaGreatDoor
open Go.RowKit

theorem OwnL.rdAt {base : Nat} {w : World} {A : Option Addr} {n c : Nat} {p : List LV} (h : OwnL base w (.slice A n c) p) {k : Nat} {x : LV} (hx : p[k]? = some x) : ∃ ad, A = some ad ∧ w.cell? (ad.add k) = some x.2 :=
  h.rd k x.2 (by unfold lCells; rw [List.getElem?_map, hx]; rfl)
set_option maxHeartbeats 4000000 in
set_option maxRecDepth 100000 in
theorem ref_put (base : Nat) (v : Value) (p : List LV) (y : LV) (w : World) (hown : OwnL base w v p) (hy : IsInts w y.2 y.1) (hf : y.1 ≠ [] → ∀ b, y.2.ownBlock = some b → v.ownBlock ≠ some b) (hn : p.length < 100000) (hbase : base ≤ w.heap.size) :
    Calls Tryz.prog 91 #[v, y.2] w (AddPost base v p y (Venn.putV (lVals p) y.1) w) := by
  obtain ⟨c, yv⟩ := y
  simp only at hy hf ⊢
  obtain ⟨A, k0, rfl⟩ := hown.slice
  have HY := Lib.hid hy
  obtain ⟨B, d, rfl, hrc, hc1, hc2⟩ := hy
  have hcl : c.length ≤ 9223372036854775807 := by unfold maxLen at hc2; omega
  have HRC := Lib.hid hrc
  have HO := Lib.hid hown
  have HF := Lib.hid hf
  have HP := Lib.hid (show Venn.putV (lVals p) c = if (lVals p).contains c = true then lVals p else lVals p ++ [c] from rfl)
  have HC := Lib.hid (show (lVals p).contains c = ((lVals p).drop 0).contains c by rw [List.drop_zero])
  generalize (lVals p).contains c = CC at HP HC
  generalize Venn.putV (lVals p) c = R at HP ⊢
  clear hown hrc hf hc1 hc2
  go_enter Tryz.func91, Tryz.ntmps91
  go_wp2
  go_loopw [5] (fun i wr => ∃ (k q : Nat), k ≤ p.length ∧ i = .int .i64 k ∧ wr = w.drewN q ∧ CC = ((lVals p).drop k).contains c) (fun i _ => p.length - (intOf i).toNat)
  case atStart => exact ⟨0, 0, Nat.zero_le _, rfl, rfl, HC.out⟩
  case round =>
    clear HC
    obtain ⟨k, q, hk, rfl, rfl, hC⟩ := hrel
    by_cases hlt : k < p.length
    · obtain ⟨⟨x, xv⟩, hx⟩ : ∃ x, p[k]? = some x := ⟨p[k], List.getElem?_eq_getElem hlt⟩
      obtain ⟨ad, rfl, hc⟩ := HO.out.rdAt hx
      obtain ⟨X, cX, hxv, hrx, hx1, hx2⟩ := HO.out.ok _ (List.mem_of_getElem? hx)
      rw [lVals_at hx, List.contains_cons] at hC
      simp only at hxv hrx hx1 hC hc
      subst hxv
      have HC := Lib.hid hC
      have HRX := Lib.hid hrx
      have HPK := Lib.hid (show p[k].2 = Value.slice X x.length cX by rw [(List.getElem?_eq_some_iff.1 hx).2])
      have hk1 : (k : Int) < (p.length : Int) := by omega
      have hk0 : (0 : Int) ≤ (k : Int) := by omega
      have hxl : x.length ≤ 9223372036854775807 := by unfold maxLen at hx2; omega
      have HS := Lib.hid (show ((x.length == c.length) && (x.drop 0 == c.drop 0)) = (c == x) by
        rw [List.drop_zero, List.drop_zero]
        by_cases e : c = x
        · subst e; simp
        · rw [beq_eq_false_iff_ne.2 e, beq_eq_false_iff_ne.2 (fun h => e h.symm), Bool.and_false])
      have HSL := Lib.hid (show ((x.length : Int) == (c.length : Int)) = (x.length == c.length) by
        by_cases e : x.length = c.length
        · rw [e]; simp
        · rw [beq_eq_false_iff_ne.2 e, beq_eq_false_iff_ne.2 (by omega)])
      clear hC hx hrx hx1 hx2
      go_upto_region 5 with (fail)
      rw [HSL.out]
      obtain ⟨S0, hS0⟩ : ∃ S0, S0 = (x.length == c.length) := ⟨_, rfl⟩
      rw [← hS0] at HS ⊢
      have HSE := Lib.hid (show S0 = true → x.length = c.length from fun h => by rw [h] at hS0; simpa using hS0.symm)
      clear hS0 HSL hc
      go_wp2
      go_loopw [6, 7] (fun s6 i wr => ∃ (j q2 : Nat) (S : Bool), j ≤ c.length ∧ i = .int .i64 j ∧ s6 = .bool S ∧ wr = w.drewN q2 ∧ (S && (x.drop j == c.drop j)) = (c == x) ∧ (S = true → x.length = c.length)) (fun _ i _ => c.length - (intOf i).toNat)
      case atStart => exact ⟨0, q, S0, Nat.zero_le _, rfl, rfl, rfl, HS.out, HSE.out⟩
      case round =>
        clear HS HSE
        obtain ⟨j, q2, S, hj, rfl, rfl, rfl, hS, hSE⟩ := hrel
        cases S with
        | false =>
          have HNE := Lib.hid (show (c == x) = false by rw [← hS]; rfl)
          have HC2 := Lib.hid (show CC = ((lVals p).drop (k + 1)).contains c by rw [HC.out, HNE.out, Bool.false_or])
          clear hS hSE
          by_cases hlj : j < c.length
          · have hj1 : (j : Int) < (c.length : Int) := by omega
            go_wp2
            go_roundw
            case rel => exact ⟨k + 1, q2, by omega, by go_num, rfl, HC2.out⟩
            case measure => simp [intOf]; omega
          · have hj1 : ¬ (j : Int) < (c.length : Int) := by omega
            go_wp2
            go_roundw
            case rel => exact ⟨k + 1, q2, by omega, by go_num, rfl, HC2.out⟩
            case measure => simp [intOf]; omega
        | true =>
          have hxc := hSE rfl
          by_cases hlj : j < c.length
          · obtain ⟨xd, rfl, hd0⟩ := HRX.out.int (show j < x.length by omega)
            obtain ⟨cd, rfl, hd1⟩ := HRC.out.int hlj
            rw [eq_drop (show j < x.length by omega) hlj, Bool.true_and] at hS
            generalize x[j] = a at hd0 hS
            generalize c[j] = b at hd1 hS
            have HS := Lib.hid hS
            have HSE := Lib.hid hSE
            have hj1 : (j : Int) < (c.length : Int) := by omega
            have hj0 : (0 : Int) ≤ (j : Int) := by omega
            have hj2 : (j : Int) < (x.length : Int) := by omega
            obtain ⟨ad', e', hc⟩ := HO.out.rdAt (List.getElem?_eq_getElem hlt)
            injection e' with e'
            subst e'
            have HXE := Lib.hid hxc
            have hpk : p[k].2 = Value.slice (some xd) x.length cX := HPK.out
            rw [hpk] at hc
            clear hS hSE hxc hpk
            go_wp2_with fail
            go_region
            go_wp2
            go_roundw
            case rel => exact ⟨j + 1, q2 + 1, _, by omega, by go_num, rfl, rfl, HS.out, fun _ => HXE.out⟩
            case measure => simp [intOf]; omega
          · have hj' : j = c.length := by omega
            have HE := Lib.hid (show (c == x) = true by rw [← hS, hj', List.drop_length, ← hxc, List.drop_length]; rfl)
            have HR := Lib.hid (show R = lVals p by rw [HP.out, if_pos (by rw [HC.out, HE.out, Bool.true_or])])
            subst hj'
            clear hS hSE hxc
            go_wp2
            go_ret
            exact ⟨_, p, rfl, HO.out.keep (below_drewN (Below.refl _ _) _), HR.out.symm, fun x hx => .inl hx, But.of_below (below_drewN (Below.refl _ _) _), .inl rfl⟩
    · have hk' : k = p.length := by omega
      have HR := Lib.hid (show R = lVals p ++ [c] by rw [HP.out, hC, hk', List.drop_eq_nil_of_le (by rw [lVals_len]; exact Nat.le_refl _)]; rfl)
      subst hk'
      clear hC
      have hb1 : Below w.heap.size w (w.drewN q) := below_drewN (Below.refl _ _) _
      obtain ⟨w1, hw1⟩ : ∃ w1, w1 = w.drewN q := ⟨_, rfl⟩
      rw [← hw1] at hb1 ⊢
      clear hw1
      have hb2 : Below w1.heap.size w1 (w1.alloc (.cells #[.slice B c.length d] 23)) := by (repeat' (first | (with_reducible exact Below.refl _ _) | (with_reducible assumption) | (with_reducible refine Below.next ?_ (by with_reducible assumption)) | (with_reducible refine Below.drew ?_) | (with_reducible refine Below.laid ?_ _) | (with_reducible refine Below.setCell ?_ ?_ _) | (with_reducible refine size_of ?_) | (with_reducible refine Nat.le_succ_of_le ?_) | go_size))
      have B2 := (Blk.new w1 23 #[.slice B c.length d]).cell 0
      have hq := Below.next hb1 hb2
      go_wp2_with (at_builtin; refine wpList_appL _ rfl _ _ rfl base _ p rfl (HO.out.keep hq) w1.heap.size 1 (c, .slice B c.length d) rfl B2 (HY.out.keep hq) HF.out (by omega) (Nat.le_trans hbase hq.size) ?_)
      intro v' w3 hown3 hg3 hat3
      have hbut : But (fun b => (Value.slice A p.length k0).ownBlock = some b) w w3 := (But.of_below hq).trans (But.of_grown hg3)
      have hs2 := hq.size
      have hs3 : (w1.alloc (.cells #[.slice B c.length d] 23)).heap.size = w1.heap.size + 1 := by simp
      go_wp2
      go_ret
      refine ⟨v', _, rfl, hown3, by rw [lVals_app, HR.out]; rfl, fun x hx => (List.mem_append.1 hx).imp id (fun h => List.mem_singleton.1 h), hbut, ?_⟩
      rcases hat3 with h | h
      · exact .inl h
      · refine .inr fun b e => ?_
        rw [h] at e
        injection e with e
        omega
end Go.Proofs.YtpkleioabinkkaaGreatDoor

namespace Go.Proofs.YtpkleioabinkkaaGreatDoor
open Go.RowKit

/-- What the reference answers that makes cubes. -/
def RPost (O : Nat) (J : Option (List (List Int))) (w : World) (e : Ending) (w' : World) : Prop :=
  Below w.heap.size w w' ∧ ((J = none ∧ e = .returned (.tuple #[.slice none 0 0, .int .i64 4])) ∨ ∃ v p, J = some (lVals p) ∧ e = .returned (.tuple #[v, .int .i64 0]) ∧ OwnL w.heap.size w' v p ∧ Off O p)
theorem merge_none {w w' : World} {e : Ending} (h : MergePost none w e w') : Below w.heap.size w w' ∧ e = .returned (.tuple #[.slice none 0 0, .bool false]) := by
  obtain ⟨h1, ⟨_, h2⟩ | ⟨_, _, h2, _⟩⟩ := h
  · exact ⟨h1, h2⟩
  · cases h2
theorem merge_some {c : List Int} {w w' : World} {e : Ending} (h : MergePost (some c) w e w') : ∃ v, Below w.heap.size w w' ∧ e = .returned (.tuple #[v, .bool true]) ∧ IsInts w' v c ∧ ∀ b, v.ownBlock = some b → w.heap.size ≤ b ∧ b < w'.heap.size := by
  obtain ⟨h1, ⟨h2, _⟩ | ⟨c', v, h2, h3, h4, h5⟩⟩ := h
  · cases h2
  · injection h2 with h2
    subst h2
    exact ⟨v, h1, h3, h4, h5⟩
set_option maxHeartbeats 8000000 in
set_option maxRecDepth 100000 in
theorem ref_And (O : Nat) (sa sb : Value) (la lb : List (List Int)) (w : World) (hO : O < w.heap.size) (ha : IsLists w sa la) (hb : IsLists w sb lb) (h1 : la.length ≤ 40) (h2 : lb.length ≤ 40)
    (na : ∀ c ∈ la, c.length ≤ 100) (nb : ∀ c ∈ lb, c.length ≤ 100) :
    Calls Tryz.prog 69 #[sa, sb] w (RPost O (Venn.andV la lb) w) := by
  obtain ⟨A, ca, pa, rfl, rfl, hra, hoa, _, _⟩ := ha
  obtain ⟨B, cb, pb, rfl, rfl, hrb, hob, _, _⟩ := hb
  have HRA := Lib.hid hra
  have HRB := Lib.hid hrb
  have HOA := Lib.hid hoa
  have HOB := Lib.hid hob
  have HNA := Lib.hid na
  have HNB := Lib.hid nb
  rw [lVals_len] at h1 h2
  have HJ := Lib.hid (show Venn.and2 (lVals pb) [] (lVals pa) = Venn.and2 (lVals pb) [] ((lVals pa).drop 0) by rw [List.drop_zero])
  have HL := Lib.hid (show (Venn.and2 (lVals pb) [] (lVals pa)).length ≤ 1600 by
    have := Venn.and2_len (b := lVals pb) (lVals pa) []
    rw [lVals_len, lVals_len, List.length_nil, Nat.zero_add] at this
    exact Nat.le_trans this (Nat.le_trans (Nat.mul_le_mul h1 h2) (by decide)))
  unfold Venn.andV
  generalize Venn.and2 (lVals pb) [] (lVals pa) = R at HJ HL ⊢
  clear hra hrb hoa hob na nb
  go_enter Tryz.func69, Tryz.ntmps69
  go_upto_region 2 with (fail)
  go_wp2
  go_loopw [6, 7] (fun v i wr => ∃ (k : Nat) (p : List LV), k ≤ pa.length ∧ i = .int .i64 k ∧ RowAt w wr v p ∧ Off O p ∧ R = Venn.and2 (lVals pb) (lVals p) ((lVals pa).drop k)) (fun _ i _ => pa.length - (intOf i).toNat)
  case atStart => exact ⟨0, [], Nat.zero_le _, rfl, ⟨OwnL.nil _ _, Below.refl _ _⟩, (fun x hx => by cases hx), HJ.out⟩
  case round =>
    obtain ⟨k, p, hk, rfl, hrow, hoff, hR⟩ := hrel
    obtain ⟨wo, rfl⟩ : ∃ wo : World, wo = wr := ⟨_, rfl⟩
    obtain ⟨V0, k0, rfl⟩ := hrow.own.slice
    have HW := Lib.hid hrow
    have HF := Lib.hid hoff
    have hbw := hrow.below
    clear hrow hoff
    by_cases hlt : k < pa.length
    · obtain ⟨⟨x, xv⟩, hx⟩ : ∃ x, pa[k]? = some x := ⟨pa[k], List.getElem?_eq_getElem hlt⟩
      obtain ⟨ad, rfl, hc0⟩ := HRA.out k xv (by unfold lCells; rw [List.getElem?_map, hx]; rfl)
      have HC0 := Lib.hid hc0
      have HXV := Lib.hid (HOA.out _ (List.mem_of_getElem? hx))
      have HNX := Lib.hid (HNA.out _ (lVals_mem (List.mem_of_getElem? hx)))
      rw [lVals_at hx, Venn.and2] at hR
      have HR := Lib.hid (show R = Venn.and2 (lVals pb) (Venn.and1 x (lVals p) ((lVals pb).drop 0)) ((lVals pa).drop (k + 1)) by rw [List.drop_zero]; exact hR)
      have hk1 : (k : Int) < (pa.length : Int) := by omega
      have hk0 : (0 : Int) ≤ (k : Int) := by omega
      simp only at HXV HNX
      clear hR hx hc0
      go_wp2
      go_loopw [6, 8] (fun v i wr => ∃ (j : Nat) (p : List LV), j ≤ pb.length ∧ i = .int .i64 j ∧ RowAt w wr v p ∧ Off O p ∧ R = Venn.and2 (lVals pb) (Venn.and1 x (lVals p) ((lVals pb).drop j)) ((lVals pa).drop (k + 1))) (fun _ i _ => pb.length - (intOf i).toNat)
      case atStart => exact ⟨0, p, Nat.zero_le _, rfl, HW.out, HF.out, HR.out⟩
      case round =>
        clear HW HR hbw HF
        obtain ⟨j, q, hj, rfl, hrow, hoff, hR⟩ := hrel
        obtain ⟨w1, rfl⟩ : ∃ w1 : World, w1 = wr := ⟨_, rfl⟩
        obtain ⟨V1, k1, rfl⟩ := hrow.own.slice
        have HW := Lib.hid hrow
        have HF := Lib.hid hoff
        have hbw := hrow.below
        clear hrow hoff
        by_cases hlj : j < pb.length
        · obtain ⟨⟨y, yv⟩, hy⟩ : ∃ x, pb[j]? = some x := ⟨pb[j], List.getElem?_eq_getElem hlj⟩
          obtain ⟨bd, rfl, hd0⟩ := HRB.out j yv (by unfold lCells; rw [List.getElem?_map, hy]; rfl)
          have hd := cell_keep hbw hd0
          have hc := cell_keep hbw HC0.out
          have HYV := Lib.hid (HOB.out _ (List.mem_of_getElem? hy))
          have HNY := Lib.hid (HNB.out _ (lVals_mem (List.mem_of_getElem? hy)))
          rw [lVals_at hy, Venn.and1] at hR
          have hj1 : (j : Int) < (pb.length : Int) := by omega
          have hj0 : (0 : Int) ≤ (j : Int) := by omega
          simp only at HYV HNY
          have HR := Lib.hid hR
          have HM := Lib.hid (fun W (hW : Below w1.heap.size w1 W) => ref_join xv yv x y W (HXV.out.keep (Below.next hbw hW)) (HYV.out.keep (Below.next hbw hW)) HNX.out HNY.out)
          clear hR hy hd0
          cases hJ : Venn.joinV x y with
          | none =>
            rw [hJ] at HM HR
            have HM := Lib.hid (fun W hW => (HM.out W hW).mono fun e w' h => merge_none h)
            clear hJ
            go_wp2_with fail
            go_region_law (go_simp; go_at_call 90; refine (HM.out _ (by (repeat' (first | (with_reducible exact Below.refl _ _) | (with_reducible assumption) | (with_reducible refine Below.next ?_ (by with_reducible assumption)) | (with_reducible refine Below.drew ?_) | (with_reducible refine Below.laid ?_ _) | (with_reducible refine Below.setCell ?_ ?_ _) | (with_reducible refine size_of ?_) | (with_reducible refine Nat.le_succ_of_le ?_) | go_size)))).mono ?_; rintro e w2 ⟨hb2, rfl⟩)
            all_goals
              have hb3 : Below w1.heap.size w1 w2 := by (repeat' (first | (with_reducible exact Below.refl _ _) | (with_reducible assumption) | (with_reducible refine Below.next ?_ (by with_reducible assumption)) | (with_reducible refine Below.drew ?_) | (with_reducible refine Below.laid ?_ _) | (with_reducible refine Below.setCell ?_ ?_ _) | (with_reducible refine size_of ?_) | (with_reducible refine Nat.le_succ_of_le ?_) | go_size))
              have HW2 := Lib.hid (HW.out.keep hb3)
              clear HW hb2 hb3 hc hd hbw
              go_wp2
              go_roundw
              case rel => exact ⟨j + 1, q, by omega, by go_num, HW2.out, HF.out, HR.out⟩
              case measure => simp [intOf]; omega
          | some c =>
            rw [hJ] at HM HR
            have HM := Lib.hid (fun W hW => (HM.out W hW).mono fun e w' h => merge_some h)
            clear hJ
            go_wp2_with fail
            go_region_law (go_simp; go_at_call 90; refine (HM.out _ (by (repeat' (first | (with_reducible exact Below.refl _ _) | (with_reducible assumption) | (with_reducible refine Below.next ?_ (by with_reducible assumption)) | (with_reducible refine Below.drew ?_) | (with_reducible refine Below.laid ?_ _) | (with_reducible refine Below.setCell ?_ ?_ _) | (with_reducible refine size_of ?_) | (with_reducible refine Nat.le_succ_of_le ?_) | go_size)))).mono ?_; rintro e w2 ⟨v, hb2, rfl, hI, hlt2⟩)
            all_goals
              have hb3 : Below w1.heap.size w1 w2 := by (repeat' (first | (with_reducible exact Below.refl _ _) | (with_reducible assumption) | (with_reducible refine Below.next ?_ (by with_reducible assumption)) | (with_reducible refine Below.drew ?_) | (with_reducible refine Below.laid ?_ _) | (with_reducible refine Below.setCell ?_ ?_ _) | (with_reducible refine size_of ?_) | (with_reducible refine Nat.le_succ_of_le ?_) | go_size))
              have hq := HW.out.own.own
              have HW2 := Lib.hid (HW.out.keep hb3)
              have hlt3 : ∀ b, v.ownBlock = some b → w1.heap.size ≤ b ∧ b < w2.heap.size := fun b e => by have := hlt2 b e; simpa using this
              have hlen : q.length < 100000 := by
                have h1 := HL.out
                rw [HR.out] at h1
                have h2 := Nat.le_trans (and1_grow (x := x) ((lVals pb).drop (j + 1)) (Venn.putV (lVals q) c)) (and2_grow (b := lVals pb) ((lVals pa).drop (k + 1)) _)
                have h3 := (Venn.putV_len (lVals q) c).2
                rw [lVals_len] at h3
                try simp only at h1
                omega
              have hbase : w.heap.size ≤ w2.heap.size := HW2.out.below.size
              have HA := Lib.hid (ref_put w.heap.size _ q (c, v) w2 HW2.out.own hI (fun _ b e => by
                intro e2
                have h1 := (hlt3 b e).1
                have h2 := (hq.lt b e2).2
                omega) hlen hbase)
              simp only at HA
              have HFY := Lib.hid (show ∀ b, v.ownBlock = some b → b ≠ O from fun b e => by have h1 := (hlt3 b e).1; have h2 := HW.out.below.size; omega)
              clear HW hb2 hb3 hI hlt2 hlt3 hq hlen hbase hc hd hbw
              go_wp2_with fail
              refine (HA.out).mono ?_
              rintro e w3 ⟨v', p', rfl, ho3, hp3, hmem, hbut, _⟩
              have HF3 := Lib.hid (show Off O p' from fun x hx hne b e => (hmem x hx).elim (fun h => HF.out x h hne b e) (fun h => HFY.out b (by rw [h] at e; exact e)))
              clear hmem
              have HW3 := Lib.hid (HW2.out.add ho3 hbut)
              have HR3 := Lib.hid (show R = Venn.and2 (lVals pb) (Venn.and1 x (lVals p') ((lVals pb).drop (j + 1))) ((lVals pa).drop (k + 1)) by rw [hp3]; exact HR.out)
              clear HW2 ho3 hp3 hbut
              go_wp2
              go_roundw
              case rel => exact ⟨j + 1, p', by omega, by go_num, HW3.out, HF3.out, HR3.out⟩
              case measure => simp [intOf]; omega
        · have hj' : j = pb.length := by omega
          have HR := Lib.hid (show R = Venn.and2 (lVals pb) (lVals q) ((lVals pa).drop (k + 1)) by rw [hR, hj', List.drop_eq_nil_of_le (by rw [lVals_len]; exact Nat.le_refl _)]; rfl)
          subst hj'
          clear hR hbw
          go_wp2
          go_roundw
          case rel => exact ⟨k + 1, q, by omega, by go_num, HW.out, HF.out, HR.out⟩
          case measure => simp [intOf]; omega
    · have hk' : k = pa.length := by omega
      have HR := Lib.hid (show R = lVals p by rw [hR, hk', List.drop_eq_nil_of_le (by rw [lVals_len]; exact Nat.le_refl _)]; rfl)
      subst hk'
      clear hR
      have hlR : R.length = p.length := by rw [HR.out, lVals_len]
      by_cases h40 : 40 < p.length
      · have HC := Lib.hid (show Venn.chkC R = none by unfold Venn.chkC; rw [if_pos (by omega)])
        have h40' : (40 : Int) < (p.length : Int) := by omega
        clear hlR
        go_wp2
        go_ret2
        exact ⟨hbw, .inl ⟨HC.out, rfl⟩⟩
      · have HC := Lib.hid (show Venn.chkC R = some (lVals p) by unfold Venn.chkC; rw [if_neg (by omega), HR.out])
        have h40' : ¬ (40 : Int) < (p.length : Int) := by omega
        clear hlR
        go_wp2
        go_ret2
        exact ⟨hbw, .inr ⟨_, p, HC.out, rfl, HW.out.own, HF.out⟩⟩

set_option maxHeartbeats 4000000 in
set_option maxRecDepth 100000 in
theorem ref_Or (O : Nat) (sa sb : Value) (la lb : List (List Int)) (w : World) (ha : ListsOff O w sa la) (hb : ListsOff O w sb lb) (h1 : la.length ≤ 40) (h2 : lb.length ≤ 40) :
    Calls Tryz.prog 70 #[sa, sb] w (RPost O (Venn.orV la lb) w) := by
  obtain ⟨A, ca, pa, rfl, rfl, hra, hoa, _, _, hfa, _⟩ := ha
  obtain ⟨B, cb, pb, rfl, rfl, hrb, hob, _, _, hfb, _⟩ := hb
  rw [lVals_len] at h1 h2
  have HFA := Lib.hid hfa
  have HFB := Lib.hid hfb
  have HRB := Lib.hid hrb
  have HOB := Lib.hid hob
  have HOA := Lib.hid hoa
  have HJ := Lib.hid (show Venn.orL (lVals pa) (lVals pb) = Venn.orL (lVals pa) ((lVals pb).drop 0) by rw [List.drop_zero])
  have HL := Lib.hid (show (Venn.orL (lVals pa) (lVals pb)).length ≤ 80 by
    have := Venn.orL_len (lVals pb) (lVals pa)
    rw [lVals_len, lVals_len] at this
    omega)
  unfold Venn.orV
  generalize Venn.orL (lVals pa) (lVals pb) = R at HJ HL ⊢
  have HAPP := Lib.hid (show ∀ (ops : Array Oper) (rest : List Oper) (o : Oper) (a : Act) (Q : Exit → Act → World → Prop), o.guard = none → ∀ (s x : Operand), o.op = .call { callee := .builtin .append, args := #[s, x], argTypes := #[71, 71] } → a.eval s = .slice none 0 0 → a.eval x = .slice A pa.length ca →
      (∀ v' w', RowAt w w' v' pa → wpList Tryz.prog ops Q rest (a.put o.dst v') w') → wpList Tryz.prog ops Q (o :: rest) a w from by
    intro ops rest o a Q hgd s x ho hs hx h
    rcases A with _ | ad
    · have hz : pa = [] := by
        rcases pa with _ | ⟨x, r⟩
        · rfl
        · obtain ⟨_, h, _⟩ := hra 0 x.2 rfl
          cases h
      subst hz
      obtain ⟨i0, hi, _⟩ := info_parts ints_info
      refine wpList_plain hgd fun K hK => ?_
      have hrun := run_append_of_nil (P := Tryz.prog) w w.heap.size 71 o.type 23 i0 1 Tryz.underlying71 hi (.slice none 0 0) 0 [] (World.ownsRow_nil _ _ _ _) ca
      unfold Oper.wp execOp
      simp only [ho, resolve, invoke, builtin, Sem.run_bind, Sem.run_pure, Result.andThen_ok, List.map_toArray, List.map_cons, List.map_nil, hs, hx, List.length_nil, hrun]
      exact hK _ _ (h _ w ⟨OwnL.nil _ _, Below.refl _ _⟩)
    · refine wpList_appLs w hgd s x ho w.heap.size _ 0 [] hs (World.ownsRow_nil _ _ _ _) ad ca pa hx hra hoa (by omega) (Nat.le_refl _) fun v' w' hown hg _ => ?_
      have hb : Below w.heap.size w w' := (Below.refl _ w).grown hg (Nat.le_refl _) (fun b e => by simp [Value.ownBlock] at e)
      exact h v' w' ⟨own_of_clone (by simpa using hown) hoa hb, hb⟩)
  clear hra hrb hoa hob hfa hfb
  go_enter Tryz.func70, Tryz.ntmps70
  go_upto_region 2 with (fail)
  go_wp2_with (at_builtin; refine HAPP.out _ _ _ _ _ rfl _ _ rfl rfl rfl ?_)
  intro v0 w0 hrow0
  obtain ⟨V0, k0, rfl⟩ := hrow0.own.slice
  have HW0 := Lib.hid hrow0
  clear hrow0 HAPP
  go_wp2
  go_loopw [6, 7] (fun v i wr => ∃ (j : Nat) (p : List LV), j ≤ pb.length ∧ i = .int .i64 j ∧ RowAt w wr v p ∧ Off O p ∧ R = Venn.orL (lVals p) ((lVals pb).drop j)) (fun _ i _ => pb.length - (intOf i).toNat)
  case atStart => exact ⟨0, pa, Nat.zero_le _, rfl, HW0.out, HFA.out, HJ.out⟩
  case round =>
    clear HW0 HJ
    obtain ⟨j, q, hj, rfl, hrow, hoff, hR⟩ := hrel
    obtain ⟨w1, rfl⟩ : ∃ w1 : World, w1 = wr := ⟨_, rfl⟩
    obtain ⟨V1, k1, rfl⟩ := hrow.own.slice
    have HW := Lib.hid hrow
    have HF := Lib.hid hoff
    have hbw := hrow.below
    clear hrow hoff
    by_cases hlj : j < pb.length
    · obtain ⟨⟨y, yv⟩, hy⟩ : ∃ x, pb[j]? = some x := ⟨pb[j], List.getElem?_eq_getElem hlj⟩
      obtain ⟨bd, rfl, hd0⟩ := HRB.out j yv (by unfold lCells; rw [List.getElem?_map, hy]; rfl)
      have hd := cell_keep hbw hd0
      have hYV := HOB.out _ (List.mem_of_getElem? hy)
      rw [lVals_at hy, Venn.orL] at hR
      have hj1 : (j : Int) < (pb.length : Int) := by omega
      have hj0 : (0 : Int) ≤ (j : Int) := by omega
      have HR := Lib.hid hR
      have hlen : q.length < 100000 := by
        have h1 := HL.out
        rw [HR.out] at h1
        have h2 := orL_grow ((lVals pb).drop (j + 1)) (Venn.putV (lVals q) y)
        have h3 := (Venn.putV_len (lVals q) y).2
        rw [lVals_len] at h3
        try simp only at h1
        omega
      have HA := Lib.hid (ref_put w.heap.size _ q (y, yv) w1 HW.out.own (hYV.keep hbw) (fun hne b e e2 => by
        have h1 := ints_lt hYV hne e
        have h2 := (HW.out.own.own.lt b e2).1
        omega) hlen hbw.size)
      simp only at HA
      have HFY := Lib.hid (HFB.out _ (List.mem_of_getElem? hy))
      clear hR hy hd0 hbw hYV hlen
      go_wp2_with fail
      clear hd
      refine (HA.out).mono ?_
      rintro e w3 ⟨v', p', rfl, ho3, hp3, hmem, hbut, _⟩
      have HF3 := Lib.hid (show Off O p' from fun x hx hne b e => (hmem x hx).elim (fun h => HF.out x h hne b e) (fun h => HFY.out (by rw [h] at hne; exact hne) b (by rw [h] at e; exact e)))
      clear hmem
      have HW3 := Lib.hid (HW.out.add ho3 hbut)
      have HR3 := Lib.hid (show R = Venn.orL (lVals p') ((lVals pb).drop (j + 1)) by rw [hp3]; exact HR.out)
      clear HW ho3 hp3 hbut
      go_wp2
      go_roundw
      case rel => exact ⟨j + 1, p', by omega, by go_num, HW3.out, HF3.out, HR3.out⟩
      case measure => simp [intOf]; omega
    · have hj' : j = pb.length := by omega
      have HR := Lib.hid (show R = lVals q by rw [hR, hj', List.drop_eq_nil_of_le (by rw [lVals_len]; exact Nat.le_refl _)]; rfl)
      subst hj'
      clear hR
      have hlR : R.length = q.length := by rw [HR.out, lVals_len]
      by_cases h40 : 40 < q.length
      · have HC := Lib.hid (show Venn.chkC R = none by unfold Venn.chkC; rw [if_pos (by omega)])
        have h40' : (40 : Int) < (q.length : Int) := by omega
        clear hlR
        go_wp2
        go_ret2
        exact ⟨hbw, .inl ⟨HC.out, rfl⟩⟩
      · have HC := Lib.hid (show Venn.chkC R = some (lVals q) by unfold Venn.chkC; rw [if_neg (by omega), HR.out])
        have h40' : ¬ (40 : Int) < (q.length : Int) := by omega
        clear hlR
        go_wp2
        go_ret2
        exact ⟨hbw, .inr ⟨_, q, HC.out, rfl, HW.out.own, HF.out⟩⟩
end Go.Proofs.YtpkleioabinkkaaGreatDoor

namespace Go.Proofs.YtpkleioabinkkaaGreatDoor
open Go.RowKit

def RNone (O : Nat) (J : Option (List (List Int))) (w : World) (e : Ending) (w' : World) : Prop :=
  Below w.heap.size w w' ∧ ((J = none ∧ e = .returned (.tuple #[.slice none 0 0, .int .i64 4])) ∨ ∃ v L, J = some L ∧ e = .returned (.tuple #[v, .int .i64 0]) ∧ ListsOff O w' v L)
theorem RPost.off {O : Nat} {J : Option (List (List Int))} {w w' : World} {e : Ending} (h : RPost O J w e w') (hO : O < w.heap.size) : RNone O J w e w' :=
  ⟨h.1, h.2.imp id fun ⟨v, p, h1, h2, h3, h4⟩ => ⟨v, lVals p, h1, h2, ListsOff.of_own h3 h4 hO⟩⟩
set_option maxHeartbeats 4000000 in
set_option maxRecDepth 100000 in
theorem ref_No (O : Nat) (sa : Value) (la : List (List Int)) (w : World) (hO : O < w.heap.size) (ha : IsLists w sa la) (ma : ∀ c ∈ la, ∀ x ∈ c, Venn.mOk x = true) (na : ∀ c ∈ la, c.length ≤ 6) (h1 : la.length ≤ 40) :
    Calls Tryz.prog 68 #[sa] w (RNone O (Venn.noV la) w) := by
  obtain ⟨A, ca, pa, rfl, rfl, hra, hoa, _, _⟩ := ha
  have HRA := Lib.hid hra
  have HOA := Lib.hid hoa
  have HMA := Lib.hid ma
  have HNA := Lib.hid na
  rw [lVals_len] at h1
  have HJ := Lib.hid (show Venn.noV (lVals pa) = Venn.noFrom [[]] ((lVals pa).drop 0) by rw [List.drop_zero]; rfl)
  generalize Venn.noV (lVals pa) = J at HJ ⊢
  clear hra hoa ma na
  have hb0 : Below w.heap.size w ((w.alloc (.cells #[] 3)).alloc (.cells #[.slice (some ⟨w.heap.size, 0, none⟩) 0 0] 23)) := by (repeat' (first | (with_reducible exact Below.refl _ _) | (with_reducible assumption) | (with_reducible refine Below.next ?_ (by with_reducible assumption)) | (with_reducible refine Below.drew ?_) | (with_reducible refine Below.laid ?_ _) | (with_reducible refine Below.setCell ?_ ?_ _) | (with_reducible refine size_of ?_) | (with_reducible refine Nat.le_succ_of_le ?_) | go_size))
  have HL0 := Lib.hid (show ListsOff O ((w.alloc (.cells #[] 3)).alloc (.cells #[.slice (some ⟨w.heap.size, 0, none⟩) 0 0] 23)) (.slice (some ⟨w.heap.size + 1, 0, none⟩) 1 1) [[]] from by
    refine ⟨_, _, [([], .slice (some ⟨w.heap.size, 0, none⟩) 0 0)], rfl, rfl, fun j u hj => ⟨_, rfl, ?_⟩, fun x hx => ?_, Nat.le_refl _, by simp [maxLen], fun x hx hne => ?_, fun _ b e => ?_⟩
    · match j, hj with
      | 0, hj => simp [lCells] at hj; subst hj; exact (Blk.newAt (w := w.alloc (.cells #[] 3)) (g := w.heap.size + 1) (by simp) 23 #[.slice (some ⟨w.heap.size, 0, none⟩) 0 0]).cell 0
    · rw [List.mem_singleton.1 hx]; exact ⟨_, 0, rfl, Rd.nil _ _, Nat.le_refl _, by simp [maxLen]⟩
    · rw [List.mem_singleton.1 hx] at hne; exact absurd rfl hne
    · simp [Value.ownBlock] at e; omega)
  go_enter Tryz.func68, Tryz.ntmps68
  go_upto_region 2 with (fail)
  go_wp2
  go_loopw [4, 5] (fun v i wr => ∃ (k : Nat) (o : List (List Int)), k ≤ pa.length ∧ i = .int .i64 k ∧ Below w.heap.size w wr ∧ ListsOff O wr v o ∧ Venn.COk o ∧ J = Venn.noFrom o ((lVals pa).drop k)) (fun _ i _ => pa.length - (intOf i).toNat)
  case atStart => exact ⟨0, [[]], Nat.zero_le _, rfl, hb0, HL0.out, Venn.nilnil_ok, HJ.out⟩
  case round =>
    clear HL0 HJ hb0
    obtain ⟨k, o, hk, rfl, hbw, hlo, hco, hJ⟩ := hrel
    obtain ⟨wo, rfl⟩ : ∃ wo : World, wo = wr := ⟨_, rfl⟩
    obtain ⟨V0, k0, rfl⟩ := slice_of_lists hlo
    have HLO := Lib.hid hlo
    have HCO := Lib.hid hco
    clear hlo hco
    by_cases hlt : k < pa.length
    · obtain ⟨⟨x, xv⟩, hx⟩ : ∃ x, pa[k]? = some x := ⟨pa[k], List.getElem?_eq_getElem hlt⟩
      obtain ⟨ad, rfl, hc0⟩ := HRA.out k xv (by unfold lCells; rw [List.getElem?_map, hx]; rfl)
      obtain ⟨X, cx, hxv, hrx, hx1, hx2⟩ := HOA.out _ (List.mem_of_getElem? hx)
      have hmx := HMA.out _ (lVals_mem (List.mem_of_getElem? hx))
      have hnx := HNA.out _ (lVals_mem (List.mem_of_getElem? hx))
      rw [lVals_at hx, Venn.noFrom] at hJ
      simp only at hxv hrx hx1 hmx hnx hJ
      subst hxv
      have HC0 := Lib.hid hc0
      have HMX := Lib.hid hmx
      have HRX := Lib.hid hrx
      have HJ := Lib.hid hJ
      have hk1 : (k : Int) < (pa.length : Int) := by omega
      have hk0 : (0 : Int) ≤ (k : Int) := by omega
      clear hJ hx hc0 hmx hrx hx2
      go_wp2
      go_loopw [6, 7] (fun v i wr => ∃ (j : Nat) (p : List LV), j ≤ x.length ∧ i = .int .i64 j ∧ RowAt wo wr v p ∧ lVals p = Venn.turnC (x.take j)) (fun _ i _ => x.length - (intOf i).toNat)
      case atStart => exact ⟨0, [], Nat.zero_le _, rfl, ⟨OwnL.nil _ _, Below.refl _ _⟩, rfl⟩
      case round =>
        obtain ⟨j, q, hj, rfl, hrow, hq⟩ := hrel
        obtain ⟨w1, rfl⟩ : ∃ w1 : World, w1 = wr := ⟨_, rfl⟩
        obtain ⟨V1, k1, rfl⟩ := hrow.own.slice
        have hbw1 := hrow.below
        have hql : q.length = j := by
          have := congrArg List.length hq
          rw [lVals_len, Venn.turnC, List.length_map, List.length_take] at this
          omega
        have HW := Lib.hid hrow
        have HQ := Lib.hid hq
        have hq6 : q.length < 1000000 := by omega
        have HQL := Lib.hid hql
        have hc := cell_keep (Below.next hbw hbw1) HC0.out
        clear hrow hq hql
        by_cases hlj : j < x.length
        · obtain ⟨xd, rfl, hd0⟩ := HRX.out.int hlj
          have hd := cell_keep (Below.next hbw hbw1) hd0
          have hm := Venn.mOk_iff.1 (HMX.out _ (List.getElem_mem hlj))
          have HQ2 := Lib.hid (show Venn.turnC (x.take (j + 1)) = lVals q ++ [[-x[j]]] by
            rw [HQ.out, Venn.turnC, Venn.turnC, List.take_succ_eq_append_getElem hlj, List.map_append]; rfl)
          generalize x[j] = m at hd0 hd hm HQ2
          have hw : wrap64 (-m) = -m := IntWalk.wrap64_in _ (by omega)
          have hj1 : (j : Int) < (x.length : Int) := by omega
          have hj0 : (0 : Int) ≤ (j : Int) := by omega
          clear hd0 hm
          go_upto_region 9 with (fail)
          have hb2 : Below w1.heap.size w1 (w1.alloc (.cells #[.int .i64 (-m)] 3)) := by (repeat' (first | (with_reducible exact Below.refl _ _) | (with_reducible assumption) | (with_reducible refine Below.next ?_ (by with_reducible assumption)) | (with_reducible refine Below.drew ?_) | (with_reducible refine Below.laid ?_ _) | (with_reducible refine Below.setCell ?_ ?_ _) | (with_reducible refine size_of ?_) | (with_reducible refine Nat.le_succ_of_le ?_) | go_size))
          have hI := (IsInts.one w1 (-m) 3).keep (show Below (w1.alloc (.cells #[.int .i64 (-m)] 3)).heap.size _ ((w1.alloc (.cells #[.int .i64 (-m)] 3)).alloc (.cells #[.slice (some ⟨w1.heap.size, 0, none⟩) 1 1] 23)) by (repeat' (first | (with_reducible exact Below.refl _ _) | (with_reducible assumption) | (with_reducible refine Below.next ?_ (by with_reducible assumption)) | (with_reducible refine Below.drew ?_) | (with_reducible refine Below.laid ?_ _) | (with_reducible refine Below.setCell ?_ ?_ _) | (with_reducible refine size_of ?_) | (with_reducible refine Nat.le_succ_of_le ?_) | go_size)))
          have hb3 : Below w1.heap.size w1 ((w1.alloc (.cells #[.int .i64 (-m)] 3)).alloc (.cells #[.slice (some ⟨w1.heap.size, 0, none⟩) 1 1] 23)) := by (repeat' (first | (with_reducible exact Below.refl _ _) | (with_reducible assumption) | (with_reducible refine Below.next ?_ (by with_reducible assumption)) | (with_reducible refine Below.drew ?_) | (with_reducible refine Below.laid ?_ _) | (with_reducible refine Below.setCell ?_ ?_ _) | (with_reducible refine size_of ?_) | (with_reducible refine Nat.le_succ_of_le ?_) | go_size))
          have hcell : ((w1.alloc (.cells #[.int .i64 (-m)] 3)).alloc (.cells #[.slice (some ⟨w1.heap.size, 0, none⟩) 1 1] 23)).cell? ⟨w1.heap.size + 1, 0, none⟩ = some (.slice (some ⟨w1.heap.size, 0, none⟩) 1 1) := by
            simp
          have HO3 := Lib.hid (HW.out.own.keep hb3)
          have hbase : wo.heap.size ≤ ((w1.alloc (.cells #[.int .i64 (-m)] 3)).alloc (.cells #[.slice (some ⟨w1.heap.size, 0, none⟩) 1 1] 23)).heap.size := Nat.le_trans hbw1.size hb3.size
          have hfar : ([-m] : List Int) ≠ [] → ∀ b, (Value.slice (some ⟨w1.heap.size, 0, none⟩) 1 1).ownBlock = some b → (Value.slice V1 q.length k1).ownBlock ≠ some b := fun _ b e e2 => by
            have := (HW.out.own.own.lt b e2).2
            simp [Value.ownBlock] at e
            omega
          go_wp2_with (at_builtin; refine wpList_appL _ rfl _ _ rfl wo.heap.size _ q rfl HO3.out (w1.heap.size + 1) 1 ([-m], .slice (some ⟨w1.heap.size, 0, none⟩) 1 1) rfl hcell hI hfar hq6 hbase ?_)
          intro v' w3 hown3 hg3 hat3
          have HW3 := Lib.hid ((HW.out.keep hb3).add hown3 (But.of_grown hg3))
          have HQ3 := Lib.hid (show lVals (q ++ [([-m], .slice (some ⟨w1.heap.size, 0, none⟩) 1 1)]) = Venn.turnC (x.take (j + 1)) by rw [lVals_app, HQ2.out]; rfl)
          clear hown3 hg3 hat3 hfar hI hcell hb2 hb3 hbase hc hd
          go_wp2
          go_roundw
          case rel => exact ⟨j + 1, _, by omega, by go_num, HW3.out, HQ3.out⟩
          case measure => simp [intOf]; omega
        · have hj' : j = x.length := by omega
          have HQ := Lib.hid (show lVals q = Venn.turnC x by rw [HQ.out, hj', List.take_length])
          have hql6 : q.length ≤ 6 := by have := HQL.out; omega
          have HB := Lib.hid (ref_And O (.slice V0 o.length k0) (.slice V1 q.length k1) o (lVals q) w1 (Nat.lt_of_lt_of_le hO (Nat.le_trans hbw.size hbw1.size)) (HLO.out.keep hbw1).lists HW.out.own.lists HCO.out.2 (by rw [lVals_len]; omega)
            (fun c hc => by have := (HCO.out.1.1 c hc).2.2; omega) (fun c hc => by
              rw [HQ.out] at hc
              obtain ⟨z, _, rfl⟩ := List.mem_map.1 hc
              simp))
          rw [HQ.out] at HB
          have hbw2 := Below.next hbw hbw1
          subst hj'
          cases hA : Venn.andV o (Venn.turnC x) with
          | none =>
            rw [hA] at HB
            have HJ := Lib.hid (show J = none by rw [HJ.out, hA])
            clear hA
            go_wp2_with fail
            refine (HB.out).mono ?_
            rintro e w4 ⟨hb4, ⟨_, rfl⟩ | ⟨v, p, hh, _⟩⟩
            · have hbw4 := Below.next hbw2 hb4
              go_wp2
              go_ret2
              exact ⟨hbw4, .inl ⟨HJ.out, rfl⟩⟩
            · cases hh
          | some n =>
            rw [hA] at HB
            have HC := Lib.hid (Venn.andV_ok hA)
            have HJ := Lib.hid (show J = Venn.noFrom n ((lVals pa).drop (k + 1)) by rw [HJ.out, hA])
            clear hA
            go_wp2_with fail
            refine (HB.out).mono ?_
            rintro e w4 ⟨hb4, ⟨hh, _⟩ | ⟨v, p, hh, rfl, hown4, hoff4⟩⟩
            · cases hh
            · injection hh with hh
              subst hh
              have HL4 := Lib.hid (ListsOff.of_own hown4 hoff4 (Nat.lt_of_lt_of_le hO hbw2.size))
              have hbw4 := Below.next hbw2 hb4
              clear hown4 hoff4 hb4 hc
              go_wp2
              go_roundw
              case rel => exact ⟨k + 1, _, by omega, by go_num, hbw4, HL4.out, HC.out, HJ.out⟩
              case measure => simp [intOf]; omega
    · have hk' : k = pa.length := by omega
      have HJ := Lib.hid (show J = some o by rw [hJ, hk', List.drop_eq_nil_of_le (by rw [lVals_len]; exact Nat.le_refl _)]; rfl)
      subst hk'
      clear hJ
      go_wp2
      go_ret2
      exact ⟨hbw, .inr ⟨_, _, HJ.out, rfl, HLO.out⟩⟩
end Go.Proofs.YtpkleioabinkkaaGreatDoor

namespace Go.Proofs.YtpkleioabinkkaaGreatDoor
open Go.RowKit

theorem rnone_none {O : Nat} {w w' : World} {e : Ending} (h : RNone O none w e w') : Below w.heap.size w w' ∧ e = .returned (.tuple #[.slice none 0 0, .int .i64 4]) := by
  obtain ⟨h1, ⟨_, h2⟩ | ⟨_, _, h2, _⟩⟩ := h
  · exact ⟨h1, h2⟩
  · cases h2
theorem rnone_some {O : Nat} {L : List (List Int)} {w w' : World} {e : Ending} (h : RNone O (some L) w e w') : ∃ A c, Below w.heap.size w w' ∧ e = .returned (.tuple #[.slice A L.length c, .int .i64 0]) ∧ ListsOff O w' (.slice A L.length c) L := by
  obtain ⟨h1, ⟨h2, _⟩ | ⟨v, L', h2, h3, h4⟩⟩ := h
  · cases h2
  · injection h2 with h2
    subst h2
    obtain ⟨A, c, rfl⟩ := slice_of_lists h4
    exact ⟨A, c, h1, h3, h4⟩
def RCubes (J : Option (List (List Int))) (w : World) (e : Ending) (w' : World) : Prop :=
  Below w.heap.size w w' ∧ ((J = none ∧ e = .returned (.tuple #[.slice none 0 0, .int .i64 4])) ∨ ∃ v l, J = some l ∧ e = .returned (.tuple #[v, .int .i64 0]) ∧ IsLists w' v l)
set_option maxHeartbeats 8000000 in
set_option maxRecDepth 100000 in
theorem ref_Cubes (sa sc : Value) (n : Int) (c : List Int) (w : World) (hcl : IsInts w sc c) (h20 : c.length ≤ 20) (hco : c.all (Venn.codeOk n) = true) (hsh : Venn.fShape 0 c = true) :
    Calls Tryz.prog 37 #[.agg #[sa, sc]] w (RCubes (Venn.cubesO c) w) := by
  obtain ⟨C, cC, rfl, hr, hlc, hld⟩ := hcl
  have HCO := Lib.hid (fun x hx => List.all_eq_true.1 hco x hx)
  have HR := Lib.hid hr
  have HJ := Lib.hid (show Venn.cubesO c = (match Venn.cFold [] c with | none => none | some st => some (st.headD [])) from rfl)
  have HF := Lib.hid (show Venn.cFold [] c = Venn.cFold [] (c.drop 0) by rw [List.drop_zero])
  generalize Venn.cubesO c = J at HJ ⊢
  generalize Venn.cFold [] c = K at HJ HF
  have HS := Lib.hid hsh
  clear hr hco hsh
  have hb0 : Below w.heap.size w (w.alloc (.cells #[sa, .slice C c.length cC] 25)) := by (repeat' (first | (with_reducible exact Below.refl _ _) | (with_reducible assumption) | (with_reducible refine Below.next ?_ (by with_reducible assumption)) | (with_reducible refine Below.drew ?_) | (with_reducible refine Below.laid ?_ _) | (with_reducible refine Below.setCell ?_ ?_ _) | (with_reducible refine size_of ?_) | (with_reducible refine Nat.le_succ_of_le ?_) | go_size))
  have HB0 := Lib.hid (Blk.new w 25 #[sa, .slice C c.length cC])
  obtain ⟨w0, hw0⟩ : ∃ w0, w0 = w.alloc (.cells #[sa, .slice C c.length cC] 25) := ⟨_, rfl⟩
  have hs0 : w0.heap.size = w.heap.size + 1 := by rw [hw0]; simp
  rw [← hw0] at hb0 HB0
  have HS0 := Lib.hid hs0
  have HW0 := Lib.hid hw0
  clear hs0 hw0
  go_enter Tryz.func37, Tryz.ntmps37
  go_upto_region 1 with (fail)
  rw [← HW0.out]
  go_wp2
  go_loopw [4, 5] (fun v i wr => ∃ (k : Nat) (st : List (List (List Int))), k ≤ c.length ∧ i = .int .i64 k ∧ CInv w wr K c v k st ∧ Below w0.heap.size w0 wr) (fun _ i _ => c.length - (intOf i).toNat)
  case atStart => exact ⟨0, [], Nat.zero_le _, rfl, ⟨by simp, ⟨[], OwnR.nil _ _, rfl⟩, hb0, Nat.le_of_eq HS0.out.symm, (fun l h => by cases h), by simpa using HS.out, HF.out⟩, Below.refl _ _⟩
  case round =>
    obtain ⟨k, st, hk, rfl, hinv, hbw⟩ := hrel
    obtain ⟨wo, rfl⟩ : ∃ wo : World, wo = wr := ⟨_, rfl⟩
    obtain ⟨P, hown, hst⟩ := hinv.row
    obtain ⟨A5, cp5, rfl⟩ := hown.slice
    have hPl : P.length = st.length := by have := congrArg List.length hst; rw [rVals_len, List.length_reverse] at this; exact this
    have b1 := ((HB0.out).keep hbw).cell 1
    simp at b1
    have HI := Lib.hid hinv
    have HO := Lib.hid hown
    have HST := Lib.hid hst
    have HPL := Lib.hid hPl
    clear hinv hown hst hPl
    by_cases hlt : k < c.length
    · obtain ⟨ad, rfl, hcell0⟩ := HR.out.int hlt
      have hcell := cell_keep HI.out.below hcell0
      have hco := HCO.out _ (List.getElem_mem hlt)
      have HD := Lib.hid (List.drop_eq_getElem_cons hlt)
      generalize c[k] = x at hcell hcell0 HD hco
      have hk1 : (k : Int) < (c.length : Int) := by omega
      have hk0 : (0 : Int) ≤ (k : Int) := by omega
      have hpop : ¬ ((st.length : Int) < Venn.fTakes x) := by
        have hs := HI.out.shape
        rw [HD.out, Venn.fShape] at hs
        split at hs
        · cases hs
        · assumption
      have hsh : Venn.fShape (st.length + (1 - Venn.fTakes x)) (c.drop (k + 1)) = true := by
        have hs := HI.out.shape
        rw [HD.out, Venn.fShape, if_neg hpop] at hs
        exact hs
      have HKF := Lib.hid (show K = (match Venn.cStep st x with | none => none | some st' => Venn.cFold st' (c.drop (k + 1))) by
        rw [HI.out.fold, HD.out]; rfl)
      have HLN := Lib.hid (fun st' => Venn.cStep_length (st := st) (st' := st') hpop)
      have HCK := Lib.hid (fun st' => Venn.cStep_ok (st := st) (st' := st') hco HI.out.ok)
      have HP := Lib.hid hpop
      have HSH := Lib.hid hsh
      have HBI := Lib.hid HI.out.below
      have HSZ := Lib.hid HI.out.size
      have HLE := Lib.hid HI.out.len
      have HOK := Lib.hid HI.out.ok
      clear hcell0 hpop hsh HI
      by_cases hx6 : x < 6
      · have hx0 : 0 ≤ x := by rcases Venn.codeOk_cases hco with h | h | h | h | h <;> omega
        have HC := Lib.hid (show Venn.cStep st x = some ([[x + 1]] :: st) by unfold Venn.cStep; rw [if_neg (by omega), if_neg (by omega)])
        have hw : IntKind.i64.wrap (x + 1) = x + 1 := IntWalk.i64_in _ (by omega)
        have hx10 : x < 10 := by omega
        clear hco
        go_upto_region 8 with (fail)
        clear hcell
        have hb3 : Below wo.heap.size wo (((wo.alloc (.cells #[.int .i64 (x + 1)] 3)).alloc (.cells #[.slice (some ⟨wo.heap.size, 0, none⟩) 1 1] 23)).alloc (.cells #[.slice (some ⟨wo.heap.size + 1, 0, none⟩) 1 1] 71)) := by (repeat' (first | (with_reducible exact Below.refl _ _) | (with_reducible assumption) | (with_reducible refine Below.next ?_ (by with_reducible assumption)) | (with_reducible refine Below.drew ?_) | (with_reducible refine Below.laid ?_ _) | (with_reducible refine Below.setCell ?_ ?_ _) | (with_reducible refine size_of ?_) | (with_reducible refine Nat.le_succ_of_le ?_) | go_size))
        have hb23 : Below ((wo.alloc (.cells #[.int .i64 (x + 1)] 3)).alloc (.cells #[.slice (some ⟨wo.heap.size, 0, none⟩) 1 1] 23)).heap.size ((wo.alloc (.cells #[.int .i64 (x + 1)] 3)).alloc (.cells #[.slice (some ⟨wo.heap.size, 0, none⟩) 1 1] 23)) (((wo.alloc (.cells #[.int .i64 (x + 1)] 3)).alloc (.cells #[.slice (some ⟨wo.heap.size, 0, none⟩) 1 1] 23)).alloc (.cells #[.slice (some ⟨wo.heap.size + 1, 0, none⟩) 1 1] 71)) := Below.laid (Below.refl _ _) _
        have hcell2 : (((wo.alloc (.cells #[.int .i64 (x + 1)] 3)).alloc (.cells #[.slice (some ⟨wo.heap.size, 0, none⟩) 1 1] 23)).alloc (.cells #[.slice (some ⟨wo.heap.size + 1, 0, none⟩) 1 1] 71)).cell? ⟨wo.heap.size + 1 + 1, 0, none⟩ = some (.slice (some ⟨wo.heap.size + 1, 0, none⟩) 1 1) := (Blk.newAt (w := (wo.alloc (.cells #[.int .i64 (x + 1)] 3)).alloc (.cells #[.slice (some ⟨wo.heap.size, 0, none⟩) 1 1] 23)) (g := wo.heap.size + 1 + 1) (by simp) 71 #[.slice (some ⟨wo.heap.size + 1, 0, none⟩) 1 1]).cell 0
        have hlo := fun B hB => (one_lists wo (x + 1) B hB).keep hb23
        have hbase : w.heap.size + 1 ≤ (((wo.alloc (.cells #[.int .i64 (x + 1)] 3)).alloc (.cells #[.slice (some ⟨wo.heap.size, 0, none⟩) 1 1] 23)).alloc (.cells #[.slice (some ⟨wo.heap.size + 1, 0, none⟩) 1 1] 71)).heap.size := Nat.le_trans HSZ.out hb3.size
        have HO3 := Lib.hid (HO.out.keep hb3)
        have hPlen : P.length < 1000000 := by have := HPL.out; have := HLE.out; omega
        go_wp2_with (at_builtin; refine wpList_appRR _ rfl _ _ rfl (w.heap.size + 1) _ P rfl HO3.out (wo.heap.size + 1 + 1) 1 ([[x + 1]], .slice (some ⟨wo.heap.size + 1, 0, none⟩) 1 1) rfl hcell2 (hlo (wo.heap.size + 1 + 1) (.inr (Nat.le_refl _))).lists (fun B e => hlo B (.inl (HO.out.own.lt B e).2)) hPlen hbase ?_)
        intro v' w3 hown3 hg3
        have hbel := (HBI.out.trans (hb3.mono HBI.out.size)).grown hg3 (Nat.le_trans HBI.out.size hb3.size) (fun b e => by have := (HO.out.own.lt b e).1; omega)
        have hbel0 := (Below.next hbw hb3).grown hg3 (Nat.le_trans hbw.size hb3.size) (fun b e => by have := (HO.out.own.lt b e).1; have := HS0.out; omega)
        have hs3 := Nat.le_trans hbase hg3.size
        clear hg3 hlo hcell2 hb3 hb23 hbase hPlen b1
        go_wp2
        go_roundw
        case rel =>
          refine ⟨k + 1, [[x + 1]] :: st, by omega, by go_num, ⟨by have := HLE.out; simp; omega, ⟨_, hown3, ?_⟩, hbel, hs3, HCK.out _ HC.out, ?_, ?_⟩, hbel0⟩
          · rw [rVals_app, HST.out, List.reverse_cons]; rfl
          · rw [HLN.out _ HC.out]; exact HSH.out
          · rw [HKF.out, HC.out]
        case measure => simp [intOf]; omega
      · have hs : x = 12 ∨ x = 10 ∨ x = 11 ∨ x = 13 := by rcases Venn.codeOk_cases hco with h | h | h | h | h <;> omega
        clear hco hx6
        rcases hs with rfl | rfl | rfl | rfl
        · have hpop := HP.out
          obtain ⟨a, r, rfl⟩ : ∃ a r, st = a :: r := by
            match st, hpop with
            | [], hpop => simp [Venn.fTakes] at hpop
            | a :: r, _ => exact ⟨a, r, rfl⟩
          have hst := HST.out
          rw [List.reverse_cons] at hst
          obtain ⟨R, z, rfl, hr1, rfl⟩ := rVals_split hst
          have hlen : (R ++ [z]).length = R.length + 1 := by simp
          have hown := HO.out
          rw [hlen] at hown ⊢
          obtain ⟨g, cap, hv, hc1, hc2, hg, hgl⟩ := hown.form (by simp)
          rw [hlen] at hv hc1
          injection hv with hv1 _ hv3
          subst hv1 hv3
          have hcellz := hown.cell (k := R.length) (x := z) (by simp)
          have hzo := hown.off z (by simp) g rfl
          obtain ⟨A1, c1, hzv⟩ := slice_of_lists hzo
          have HOR := Lib.hid (hown.pop (n := R.length) rfl)
          have HRR := Lib.hid (show (rVals R).reverse = r by rw [hr1, List.reverse_reverse])
          have HZK := Lib.hid (HOK.out z.1 (by simp))
          have HN := Lib.hid (ref_No g z.2 z.1 wo hgl hzo.lists (Venn.mem_of_cok HZK.out) (fun c hc => (HZK.out.1.1 c hc).2.2) HZK.out.2)
          have HJS := Lib.hid (show Venn.cStep (z.1 :: r) 12 = (match Venn.noV z.1 with | none => none | some y => some (y :: r)) from rfl)
          have hR20 : R.length + 1 ≤ 20 := by have := HLE.out; have := HPL.out; rw [hlen] at this; simp at *; omega
          rw [hzv] at hcellz HN
          obtain ⟨m, hm⟩ : ∃ m, m = R.length := ⟨_, rfl⟩
          rw [← hm] at hc1 hcellz HOR hR20 ⊢
          have HM := Lib.hid hm
          clear hm hown hzv hlen hst hr1 hzo hpop
          have f1 : IntKind.i64.wrap (m : Int) = (m : Int) := IntWalk.i64_in _ (by omega)
          have f2 : (m : Int) < (m : Int) + 1 := by omega
          have f3 : (0 : Int) ≤ (m : Int) := by omega
          have f4 : (m : Int) ≤ (cp5 : Int) := by omega
          have f5 : IntKind.i64.wrap ((m : Int) + 1 - 1) = (m : Int) := by rw [show (m : Int) + 1 - 1 = m by omega]; exact f1
          cases hK : Venn.noV z.1 with
          | none =>
            have HJS := Lib.hid (show Venn.cStep (z.1 :: r) 12 = none by rw [HJS.out, hK])
            rw [hK] at HN
            clear hK
            go_wp2_with fail
            refine (HN.out).mono ?_
            intro e w1 hpost
            obtain ⟨hb1, rfl⟩ := rnone_none hpost
            clear hpost
            have hbel := Below.next HBI.out hb1
            have HK := Lib.hid (show K = none by rw [HKF.out, HJS.out])
            go_wp2
            go_ret2
            exact ⟨hbel, .inl ⟨by rw [HJ.out, HK.out], rfl⟩⟩
          | some L1 =>
            have HJS := Lib.hid (show Venn.cStep (z.1 :: r) 12 = some (L1 :: r) by rw [HJS.out, hK])
            rw [hK] at HN
            clear hK
            go_wp2_with fail
            refine (HN.out).mono ?_
            intro e w1 hpost
            obtain ⟨B1, e1, hb1, rfl, hl1⟩ := rnone_some hpost
            have HL1 := Lib.hid hl1
            clear hpost hl1 hcellz
            have HO1 := Lib.hid (HOR.out.keep hb1)
            have hbel1 := Below.next HBI.out hb1
            have hbel01 := Below.next hbw hb1
            have hb2 : Below w1.heap.size w1 (w1.alloc (.cells #[.slice B1 L1.length e1] 71)) := by (repeat' (first | (with_reducible exact Below.refl _ _) | (with_reducible assumption) | (with_reducible refine Below.next ?_ (by with_reducible assumption)) | (with_reducible refine Below.drew ?_) | (with_reducible refine Below.laid ?_ _) | (with_reducible refine Below.setCell ?_ ?_ _) | (with_reducible refine size_of ?_) | (with_reducible refine Nat.le_succ_of_le ?_) | go_size))
            have hsz2 : w.heap.size + 1 ≤ (w1.alloc (.cells #[.slice B1 L1.length e1] 71)).heap.size := Nat.le_trans HSZ.out (Nat.le_trans (hb1).size hb2.size)
            have hcell2 := (Blk.new w1 71 #[.slice B1 L1.length e1]).cell 0
            go_upto_region 27 with (fail)
            go_wp2_with (at_builtin; refine wpList_appRR _ rfl _ _ rfl (w.heap.size + 1) _ R rfl (HO1.out.keep hb2) w1.heap.size 1 (L1, .slice B1 L1.length e1) rfl hcell2 (HL1.out.keep hb2).lists (fun B e => by injection e with e; subst e; exact HL1.out.keep hb2) (by have := HM.out; omega) hsz2 ?_)
            intro v' w3 hown3 hg3
            have hbel := (hbel1.trans (hb2.mono hbel1.size)).grown hg3 (Nat.le_trans hbel1.size hb2.size) (fun b e => by simp [Value.ownBlock] at e; omega)
            have hbel0 := (hbel01.trans (hb2.mono hbel01.size)).grown hg3 (Nat.le_trans hbel01.size hb2.size) (fun b e => by simp [Value.ownBlock] at e; have := HS0.out; omega)
            have hs3 := Nat.le_trans hsz2 hg3.size
            clear hg3 hcell2 hb2 hsz2 hbel1 hbel01 b1
            go_wp2
            go_roundw
            case rel =>
              refine ⟨k + 1, L1 :: r, by omega, by go_num, ⟨?_, ⟨_, hown3, ?_⟩, hbel, hs3, HCK.out _ HJS.out, ?_, ?_⟩, hbel0⟩
              · have := HLE.out; simp at *; omega
              · rw [rVals_app, List.reverse_cons, ← HRR.out, List.reverse_reverse]; rfl
              · rw [HLN.out _ HJS.out]; exact HSH.out
              · rw [HKF.out, HJS.out]
            case measure => simp [intOf]; omega
        · have hpop := HP.out
          obtain ⟨b, a, r, rfl⟩ : ∃ b a r, st = b :: a :: r := by
            match st, hpop with
            | [], hpop => simp [Venn.fTakes] at hpop
            | [_], hpop => simp [Venn.fTakes] at hpop
            | b :: a :: r, _ => exact ⟨b, a, r, rfl⟩
          have hst := HST.out
          rw [List.reverse_cons] at hst
          obtain ⟨R1, y, rfl, hr0, rfl⟩ := rVals_split hst
          rw [List.reverse_cons] at hr0
          obtain ⟨R, z, rfl, hr1, rfl⟩ := rVals_split hr0
          have hlen : (R ++ [z] ++ [y]).length = R.length + 1 + 1 := by simp
          have hown := HO.out
          rw [hlen] at hown ⊢
          obtain ⟨g, cap, hv, hc1, hc2, hg, hgl⟩ := hown.form (by simp)
          rw [hlen] at hv hc1
          injection hv with hv1 _ hv3
          subst hv1 hv3
          have hcellz := hown.cell (k := R.length) (x := z) (by simp)
          have hcelly := hown.cell (k := R.length + 1) (x := y) (by simp)
          have hzo := hown.off z (by simp) g rfl
          have hyo := hown.off y (by simp) g rfl
          obtain ⟨A1, c1, hzv⟩ := slice_of_lists hzo
          obtain ⟨A2, c2, hyv⟩ := slice_of_lists hyo
          have HOR := Lib.hid ((hown.pop (n := R.length + 1) (by simp)).pop (n := R.length) rfl)
          have HRR := Lib.hid (show (rVals R).reverse = r by rw [hr1, List.reverse_reverse])
          have HZK := Lib.hid (HOK.out z.1 (by simp))
          have HYK := Lib.hid (HOK.out y.1 (by simp))
          have HN := Lib.hid (fun W (hW : Below wo.heap.size wo W) => (show Calls Tryz.prog 69 #[z.2, y.2] W (RNone g (Venn.andV z.1 y.1) W) from (ref_And g z.2 y.2 z.1 y.1 W (Nat.lt_of_lt_of_le hgl hW.size) (hzo.lists.keep hW) (hyo.lists.keep hW) HZK.out.2 HYK.out.2 (fun c hc => by have := (HZK.out.1.1 c hc).2.2; omega) (fun c hc => by have := (HYK.out.1.1 c hc).2.2; omega)).mono fun _ _ h => h.off (Nat.lt_of_lt_of_le hgl hW.size)))
          have HJS := Lib.hid (show Venn.cStep (y.1 :: z.1 :: r) 10 = (match Venn.andV z.1 y.1 with | none => none | some x => some (x :: r)) from rfl)
          have hR20 : R.length + 1 + 1 ≤ 20 := by have := HLE.out; have := HPL.out; rw [hlen] at this; simp at *; omega
          rw [hzv] at hcellz HN
          rw [hyv] at hcelly HN
          obtain ⟨m, hm⟩ : ∃ m, m = R.length := ⟨_, rfl⟩
          rw [← hm] at hc1 hcellz hcelly HOR hR20 ⊢
          have HM := Lib.hid hm
          clear hm hown hzv hyv hlen hst hr0 hr1 hzo hyo hpop
          have f1 : IntKind.i64.wrap (m : Int) = (m : Int) := IntWalk.i64_in _ (by omega)
          have f2 : (m : Int) < (m : Int) + 1 + 1 := by omega
          have f3 : (0 : Int) ≤ (m : Int) := by omega
          have f4 : (m : Int) ≤ (cp5 : Int) := by omega
          have f5 : IntKind.i64.wrap ((m : Int) + 1 + 1 - 2) = (m : Int) := by rw [show (m : Int) + 1 + 1 - 2 = m by omega]; exact f1
          have f6 : IntKind.i64.wrap ((m : Int) + 1) = (m : Int) + 1 := IntWalk.i64_in _ (by omega)
          have f7 : (m : Int) + 1 < (m : Int) + 1 + 1 := by omega
          have f8 : (0 : Int) ≤ (m : Int) + 1 := by omega
          have f9 : IntKind.i64.wrap ((m : Int) + 1 + 1 - 1) = (m : Int) + 1 := by rw [show (m : Int) + 1 + 1 - 1 = (m : Int) + 1 by omega]; exact f6
          cases hK : Venn.andV z.1 y.1 with
          | none =>
            have HJS := Lib.hid (show Venn.cStep (y.1 :: z.1 :: r) 10 = none by rw [HJS.out, hK])
            rw [hK] at HN
            have HN := Lib.hid (fun W hW => (HN.out W hW).mono fun e w' h => rnone_none h)
            clear hK
            go_wp2_with fail
            go_region_law (go_simp; go_at_call 69; refine (HN.out _ (by (repeat' (first | (with_reducible exact Below.refl _ _) | (with_reducible assumption) | (with_reducible refine Below.next ?_ (by with_reducible assumption)) | (with_reducible refine Below.drew ?_) | (with_reducible refine Below.laid ?_ _) | (with_reducible refine Below.setCell ?_ ?_ _) | (with_reducible refine size_of ?_) | (with_reducible refine Nat.le_succ_of_le ?_) | go_size)))).mono ?_; rintro e w1 ⟨hb1, rfl⟩)
            all_goals
              have hb2 : Below wo.heap.size wo w1 := by (repeat' (first | (with_reducible exact Below.refl _ _) | (with_reducible assumption) | (with_reducible refine Below.next ?_ (by with_reducible assumption)) | (with_reducible refine Below.drew ?_) | (with_reducible refine Below.laid ?_ _) | (with_reducible refine Below.setCell ?_ ?_ _) | (with_reducible refine size_of ?_) | (with_reducible refine Nat.le_succ_of_le ?_) | go_size))
              have hbel := Below.next HBI.out hb2
              have HK := Lib.hid (show K = none by rw [HKF.out, HJS.out])
              go_wp2
              go_ret2
              exact ⟨hbel, .inl ⟨by rw [HJ.out, HK.out], rfl⟩⟩
          | some L1 =>
            have HJS := Lib.hid (show Venn.cStep (y.1 :: z.1 :: r) 10 = some (L1 :: r) by rw [HJS.out, hK])
            rw [hK] at HN
            have HN := Lib.hid (fun W hW => (HN.out W hW).mono fun e w' h => rnone_some h)
            clear hK
            go_wp2_with fail
            go_region_law (go_simp; go_at_call 69; refine (HN.out _ (by (repeat' (first | (with_reducible exact Below.refl _ _) | (with_reducible assumption) | (with_reducible refine Below.next ?_ (by with_reducible assumption)) | (with_reducible refine Below.drew ?_) | (with_reducible refine Below.laid ?_ _) | (with_reducible refine Below.setCell ?_ ?_ _) | (with_reducible refine size_of ?_) | (with_reducible refine Nat.le_succ_of_le ?_) | go_size)))).mono ?_; rintro e w1 ⟨B1, e1, hb1, rfl, hl1⟩)
            all_goals
              have hbx : Below wo.heap.size wo w1 := by (repeat' (first | (with_reducible exact Below.refl _ _) | (with_reducible assumption) | (with_reducible refine Below.next ?_ (by with_reducible assumption)) | (with_reducible refine Below.drew ?_) | (with_reducible refine Below.laid ?_ _) | (with_reducible refine Below.setCell ?_ ?_ _) | (with_reducible refine size_of ?_) | (with_reducible refine Nat.le_succ_of_le ?_) | go_size))
              have HL1 := Lib.hid hl1
              clear hl1 hcellz hcelly
              have HO1 := Lib.hid (HOR.out.keep hbx)
              have hbel1 := Below.next HBI.out hbx
              have hbel01 := Below.next hbw hbx
              have hb2 : Below w1.heap.size w1 (w1.alloc (.cells #[.slice B1 L1.length e1] 71)) := by (repeat' (first | (with_reducible exact Below.refl _ _) | (with_reducible assumption) | (with_reducible refine Below.next ?_ (by with_reducible assumption)) | (with_reducible refine Below.drew ?_) | (with_reducible refine Below.laid ?_ _) | (with_reducible refine Below.setCell ?_ ?_ _) | (with_reducible refine size_of ?_) | (with_reducible refine Nat.le_succ_of_le ?_) | go_size))
              have hsz2 : w.heap.size + 1 ≤ (w1.alloc (.cells #[.slice B1 L1.length e1] 71)).heap.size := Nat.le_trans HSZ.out (Nat.le_trans (hbx).size hb2.size)
              have hcell2 := (Blk.new w1 71 #[.slice B1 L1.length e1]).cell 0
              go_upto_region 27 with (fail)
              go_wp2_with (at_builtin; refine wpList_appRR _ rfl _ _ rfl (w.heap.size + 1) _ R rfl (HO1.out.keep hb2) w1.heap.size 1 (L1, .slice B1 L1.length e1) rfl hcell2 (HL1.out.keep hb2).lists (fun B e => by injection e with e; subst e; exact HL1.out.keep hb2) (by have := HM.out; omega) hsz2 ?_)
              intro v' w3 hown3 hg3
              have hbel := (hbel1.trans (hb2.mono hbel1.size)).grown hg3 (Nat.le_trans hbel1.size hb2.size) (fun b e => by simp [Value.ownBlock] at e; omega)
              have hbel0 := (hbel01.trans (hb2.mono hbel01.size)).grown hg3 (Nat.le_trans hbel01.size hb2.size) (fun b e => by simp [Value.ownBlock] at e; have := HS0.out; omega)
              have hs3 := Nat.le_trans hsz2 hg3.size
              clear hg3 hcell2 hb2 hsz2 hbel1 hbel01 b1
              go_wp2
              go_roundw
              case rel =>
                refine ⟨k + 1, L1 :: r, by omega, by go_num, ⟨?_, ⟨_, hown3, ?_⟩, hbel, hs3, HCK.out _ HJS.out, ?_, ?_⟩, hbel0⟩
                · have := HLE.out; simp at *; omega
                · rw [rVals_app, List.reverse_cons, ← HRR.out, List.reverse_reverse]; rfl
                · rw [HLN.out _ HJS.out]; exact HSH.out
                · rw [HKF.out, HJS.out]
              case measure => simp [intOf]; omega
        · have hpop := HP.out
          obtain ⟨b, a, r, rfl⟩ : ∃ b a r, st = b :: a :: r := by
            match st, hpop with
            | [], hpop => simp [Venn.fTakes] at hpop
            | [_], hpop => simp [Venn.fTakes] at hpop
            | b :: a :: r, _ => exact ⟨b, a, r, rfl⟩
          have hst := HST.out
          rw [List.reverse_cons] at hst
          obtain ⟨R1, y, rfl, hr0, rfl⟩ := rVals_split hst
          rw [List.reverse_cons] at hr0
          obtain ⟨R, z, rfl, hr1, rfl⟩ := rVals_split hr0
          have hlen : (R ++ [z] ++ [y]).length = R.length + 1 + 1 := by simp
          have hown := HO.out
          rw [hlen] at hown ⊢
          obtain ⟨g, cap, hv, hc1, hc2, hg, hgl⟩ := hown.form (by simp)
          rw [hlen] at hv hc1
          injection hv with hv1 _ hv3
          subst hv1 hv3
          have hcellz := hown.cell (k := R.length) (x := z) (by simp)
          have hcelly := hown.cell (k := R.length + 1) (x := y) (by simp)
          have hzo := hown.off z (by simp) g rfl
          have hyo := hown.off y (by simp) g rfl
          obtain ⟨A1, c1, hzv⟩ := slice_of_lists hzo
          obtain ⟨A2, c2, hyv⟩ := slice_of_lists hyo
          have HOR := Lib.hid ((hown.pop (n := R.length + 1) (by simp)).pop (n := R.length) rfl)
          have HRR := Lib.hid (show (rVals R).reverse = r by rw [hr1, List.reverse_reverse])
          have HZK := Lib.hid (HOK.out z.1 (by simp))
          have HYK := Lib.hid (HOK.out y.1 (by simp))
          have HN := Lib.hid (fun W (hW : Below wo.heap.size wo W) => (show Calls Tryz.prog 70 #[z.2, y.2] W (RNone g (Venn.orV z.1 y.1) W) from (ref_Or g z.2 y.2 z.1 y.1 W (hzo.keep hW) (hyo.keep hW) HZK.out.2 HYK.out.2).mono fun _ _ h => h.off (Nat.lt_of_lt_of_le hgl hW.size)))
          have HJS := Lib.hid (show Venn.cStep (y.1 :: z.1 :: r) 11 = (match Venn.orV z.1 y.1 with | none => none | some x => some (x :: r)) from rfl)
          have hR20 : R.length + 1 + 1 ≤ 20 := by have := HLE.out; have := HPL.out; rw [hlen] at this; simp at *; omega
          rw [hzv] at hcellz HN
          rw [hyv] at hcelly HN
          obtain ⟨m, hm⟩ : ∃ m, m = R.length := ⟨_, rfl⟩
          rw [← hm] at hc1 hcellz hcelly HOR hR20 ⊢
          have HM := Lib.hid hm
          clear hm hown hzv hyv hlen hst hr0 hr1 hzo hyo hpop
          have f1 : IntKind.i64.wrap (m : Int) = (m : Int) := IntWalk.i64_in _ (by omega)
          have f2 : (m : Int) < (m : Int) + 1 + 1 := by omega
          have f3 : (0 : Int) ≤ (m : Int) := by omega
          have f4 : (m : Int) ≤ (cp5 : Int) := by omega
          have f5 : IntKind.i64.wrap ((m : Int) + 1 + 1 - 2) = (m : Int) := by rw [show (m : Int) + 1 + 1 - 2 = m by omega]; exact f1
          have f6 : IntKind.i64.wrap ((m : Int) + 1) = (m : Int) + 1 := IntWalk.i64_in _ (by omega)
          have f7 : (m : Int) + 1 < (m : Int) + 1 + 1 := by omega
          have f8 : (0 : Int) ≤ (m : Int) + 1 := by omega
          have f9 : IntKind.i64.wrap ((m : Int) + 1 + 1 - 1) = (m : Int) + 1 := by rw [show (m : Int) + 1 + 1 - 1 = (m : Int) + 1 by omega]; exact f6
          cases hK : Venn.orV z.1 y.1 with
          | none =>
            have HJS := Lib.hid (show Venn.cStep (y.1 :: z.1 :: r) 11 = none by rw [HJS.out, hK])
            rw [hK] at HN
            have HN := Lib.hid (fun W hW => (HN.out W hW).mono fun e w' h => rnone_none h)
            clear hK
            go_wp2_with fail
            go_region_law (go_simp; go_at_call 70; refine (HN.out _ (by (repeat' (first | (with_reducible exact Below.refl _ _) | (with_reducible assumption) | (with_reducible refine Below.next ?_ (by with_reducible assumption)) | (with_reducible refine Below.drew ?_) | (with_reducible refine Below.laid ?_ _) | (with_reducible refine Below.setCell ?_ ?_ _) | (with_reducible refine size_of ?_) | (with_reducible refine Nat.le_succ_of_le ?_) | go_size)))).mono ?_; rintro e w1 ⟨hb1, rfl⟩)
            all_goals
              have hb2 : Below wo.heap.size wo w1 := by (repeat' (first | (with_reducible exact Below.refl _ _) | (with_reducible assumption) | (with_reducible refine Below.next ?_ (by with_reducible assumption)) | (with_reducible refine Below.drew ?_) | (with_reducible refine Below.laid ?_ _) | (with_reducible refine Below.setCell ?_ ?_ _) | (with_reducible refine size_of ?_) | (with_reducible refine Nat.le_succ_of_le ?_) | go_size))
              have hbel := Below.next HBI.out hb2
              have HK := Lib.hid (show K = none by rw [HKF.out, HJS.out])
              go_wp2
              go_ret2
              exact ⟨hbel, .inl ⟨by rw [HJ.out, HK.out], rfl⟩⟩
          | some L1 =>
            have HJS := Lib.hid (show Venn.cStep (y.1 :: z.1 :: r) 11 = some (L1 :: r) by rw [HJS.out, hK])
            rw [hK] at HN
            have HN := Lib.hid (fun W hW => (HN.out W hW).mono fun e w' h => rnone_some h)
            clear hK
            go_wp2_with fail
            go_region_law (go_simp; go_at_call 70; refine (HN.out _ (by (repeat' (first | (with_reducible exact Below.refl _ _) | (with_reducible assumption) | (with_reducible refine Below.next ?_ (by with_reducible assumption)) | (with_reducible refine Below.drew ?_) | (with_reducible refine Below.laid ?_ _) | (with_reducible refine Below.setCell ?_ ?_ _) | (with_reducible refine size_of ?_) | (with_reducible refine Nat.le_succ_of_le ?_) | go_size)))).mono ?_; rintro e w1 ⟨B1, e1, hb1, rfl, hl1⟩)
            all_goals
              have hbx : Below wo.heap.size wo w1 := by (repeat' (first | (with_reducible exact Below.refl _ _) | (with_reducible assumption) | (with_reducible refine Below.next ?_ (by with_reducible assumption)) | (with_reducible refine Below.drew ?_) | (with_reducible refine Below.laid ?_ _) | (with_reducible refine Below.setCell ?_ ?_ _) | (with_reducible refine size_of ?_) | (with_reducible refine Nat.le_succ_of_le ?_) | go_size))
              have HL1 := Lib.hid hl1
              clear hl1 hcellz hcelly
              have HO1 := Lib.hid (HOR.out.keep hbx)
              have hbel1 := Below.next HBI.out hbx
              have hbel01 := Below.next hbw hbx
              have hb2 : Below w1.heap.size w1 (w1.alloc (.cells #[.slice B1 L1.length e1] 71)) := by (repeat' (first | (with_reducible exact Below.refl _ _) | (with_reducible assumption) | (with_reducible refine Below.next ?_ (by with_reducible assumption)) | (with_reducible refine Below.drew ?_) | (with_reducible refine Below.laid ?_ _) | (with_reducible refine Below.setCell ?_ ?_ _) | (with_reducible refine size_of ?_) | (with_reducible refine Nat.le_succ_of_le ?_) | go_size))
              have hsz2 : w.heap.size + 1 ≤ (w1.alloc (.cells #[.slice B1 L1.length e1] 71)).heap.size := Nat.le_trans HSZ.out (Nat.le_trans (hbx).size hb2.size)
              have hcell2 := (Blk.new w1 71 #[.slice B1 L1.length e1]).cell 0
              go_upto_region 27 with (fail)
              go_wp2_with (at_builtin; refine wpList_appRR _ rfl _ _ rfl (w.heap.size + 1) _ R rfl (HO1.out.keep hb2) w1.heap.size 1 (L1, .slice B1 L1.length e1) rfl hcell2 (HL1.out.keep hb2).lists (fun B e => by injection e with e; subst e; exact HL1.out.keep hb2) (by have := HM.out; omega) hsz2 ?_)
              intro v' w3 hown3 hg3
              have hbel := (hbel1.trans (hb2.mono hbel1.size)).grown hg3 (Nat.le_trans hbel1.size hb2.size) (fun b e => by simp [Value.ownBlock] at e; omega)
              have hbel0 := (hbel01.trans (hb2.mono hbel01.size)).grown hg3 (Nat.le_trans hbel01.size hb2.size) (fun b e => by simp [Value.ownBlock] at e; have := HS0.out; omega)
              have hs3 := Nat.le_trans hsz2 hg3.size
              clear hg3 hcell2 hb2 hsz2 hbel1 hbel01 b1
              go_wp2
              go_roundw
              case rel =>
                refine ⟨k + 1, L1 :: r, by omega, by go_num, ⟨?_, ⟨_, hown3, ?_⟩, hbel, hs3, HCK.out _ HJS.out, ?_, ?_⟩, hbel0⟩
                · have := HLE.out; simp at *; omega
                · rw [rVals_app, List.reverse_cons, ← HRR.out, List.reverse_reverse]; rfl
                · rw [HLN.out _ HJS.out]; exact HSH.out
                · rw [HKF.out, HJS.out]
              case measure => simp [intOf]; omega
        · have hpop := HP.out
          obtain ⟨b, a, r, rfl⟩ : ∃ b a r, st = b :: a :: r := by
            match st, hpop with
            | [], hpop => simp [Venn.fTakes] at hpop
            | [_], hpop => simp [Venn.fTakes] at hpop
            | b :: a :: r, _ => exact ⟨b, a, r, rfl⟩
          have hst := HST.out
          rw [List.reverse_cons] at hst
          obtain ⟨R1, y, rfl, hr0, rfl⟩ := rVals_split hst
          rw [List.reverse_cons] at hr0
          obtain ⟨R, z, rfl, hr1, rfl⟩ := rVals_split hr0
          have hlen : (R ++ [z] ++ [y]).length = R.length + 1 + 1 := by simp
          have hown := HO.out
          rw [hlen] at hown ⊢
          obtain ⟨g, cap, hv, hc1, hc2, hg, hgl⟩ := hown.form (by simp)
          rw [hlen] at hv hc1
          injection hv with hv1 _ hv3
          subst hv1 hv3
          have hcellz := hown.cell (k := R.length) (x := z) (by simp)
          have hcelly := hown.cell (k := R.length + 1) (x := y) (by simp)
          have hzo := hown.off z (by simp) g rfl
          have hyo := hown.off y (by simp) g rfl
          obtain ⟨A1, c1, hzv⟩ := slice_of_lists hzo
          obtain ⟨A2, c2, hyv⟩ := slice_of_lists hyo
          have HOR := Lib.hid ((hown.pop (n := R.length + 1) (by simp)).pop (n := R.length) rfl)
          have HRR := Lib.hid (show (rVals R).reverse = r by rw [hr1, List.reverse_reverse])
          have HZK := Lib.hid (HOK.out z.1 (by simp))
          have HYK := Lib.hid (HOK.out y.1 (by simp))
          have HN := Lib.hid (ref_No g z.2 z.1 wo hgl hzo.lists (Venn.mem_of_cok HZK.out) (fun c hc => (HZK.out.1.1 c hc).2.2) HZK.out.2)
          have HY := Lib.hid hyo
          have HJS := Lib.hid (show Venn.cStep (y.1 :: z.1 :: r) 13 = (match Venn.thenV z.1 y.1 with | none => none | some x => some (x :: r)) from rfl)
          have HOK2 := Lib.hid (show ∀ L0, Venn.noV z.1 = some L0 → Venn.COk L0 from fun L0 h => Venn.noV_ok h)
          have HYR := Lib.hid (fun W (hW : Below wo.heap.size wo W) => hown.cell (k := R.length + 1) (x := y) (by simp) |> cell_keep hW)
          have hR20 : R.length + 1 + 1 ≤ 20 := by have := HLE.out; have := HPL.out; rw [hlen] at this; simp at *; omega
          rw [hzv] at hcellz HN
          rw [hyv] at hcelly HY HYR
          obtain ⟨m, hm⟩ : ∃ m, m = R.length := ⟨_, rfl⟩
          rw [← hm] at hc1 hcellz hcelly HOR hR20 HYR ⊢
          have HM := Lib.hid hm
          clear hm hown hzv hyv hlen hst hr0 hr1 hzo hyo hpop
          have f1 : IntKind.i64.wrap (m : Int) = (m : Int) := IntWalk.i64_in _ (by omega)
          have f2 : (m : Int) < (m : Int) + 1 + 1 := by omega
          have f3 : (0 : Int) ≤ (m : Int) := by omega
          have f4 : (m : Int) ≤ (cp5 : Int) := by omega
          have f5 : IntKind.i64.wrap ((m : Int) + 1 + 1 - 2) = (m : Int) := by rw [show (m : Int) + 1 + 1 - 2 = m by omega]; exact f1
          have f6 : IntKind.i64.wrap ((m : Int) + 1) = (m : Int) + 1 := IntWalk.i64_in _ (by omega)
          have f7 : (m : Int) + 1 < (m : Int) + 1 + 1 := by omega
          have f8 : (0 : Int) ≤ (m : Int) + 1 := by omega
          have f9 : IntKind.i64.wrap ((m : Int) + 1 + 1 - 1) = (m : Int) + 1 := by rw [show (m : Int) + 1 + 1 - 1 = (m : Int) + 1 by omega]; exact f6
          cases hK : Venn.noV z.1 with
          | none =>
            have HJS := Lib.hid (show Venn.cStep (y.1 :: z.1 :: r) 13 = none by rw [HJS.out]; unfold Venn.thenV; rw [hK])
            rw [hK] at HN
            clear hK
            go_wp2_with fail
            refine (HN.out).mono ?_
            intro e w1 hpost
            obtain ⟨hb1, rfl⟩ := rnone_none hpost
            clear hpost
            have hbel := Below.next HBI.out hb1
            have HK := Lib.hid (show K = none by rw [HKF.out, HJS.out])
            go_wp2
            go_ret2
            exact ⟨hbel, .inl ⟨by rw [HJ.out, HK.out], rfl⟩⟩
          | some L0 =>
            have HK0 := Lib.hid (HOK2.out L0 hK)
            have HJS := Lib.hid (show Venn.cStep (y.1 :: z.1 :: r) 13 = (match Venn.orV L0 y.1 with | none => none | some x => some (x :: r)) by rw [HJS.out]; unfold Venn.thenV; rw [hK])
            rw [hK] at HN
            clear hK
            go_wp2_with fail
            refine (HN.out).mono ?_
            intro e w2 hpost
            obtain ⟨B0, e0, hb0', rfl, hl0⟩ := rnone_some hpost
            have HN2 := Lib.hid ((ref_Or g _ _ L0 y.1 w2 hl0 (HY.out.keep hb0') HK0.out.2 HYK.out.2).mono fun _ _ h => h.off (Nat.lt_of_lt_of_le hgl hb0'.size))
            clear hcellz hcelly
            have hcelly := HYR.out w2 hb0'
            clear hpost hl0
            cases hK : Venn.orV L0 y.1 with
            | none =>
              have HJS := Lib.hid (show Venn.cStep (y.1 :: z.1 :: r) 13 = none by rw [HJS.out, hK])
              rw [hK] at HN2
              clear hK
              go_wp2_with fail
              refine (HN2.out).mono ?_
              intro e w1 hpost
              obtain ⟨hb1, rfl⟩ := rnone_none hpost
              clear hpost
              have hbx := Below.next hb0' hb1
              have hbel := Below.next HBI.out hbx
              have HK := Lib.hid (show K = none by rw [HKF.out, HJS.out])
              go_wp2
              go_ret2
              exact ⟨hbel, .inl ⟨by rw [HJ.out, HK.out], rfl⟩⟩
            | some L1 =>
              have HJS := Lib.hid (show Venn.cStep (y.1 :: z.1 :: r) 13 = some (L1 :: r) by rw [HJS.out, hK])
              rw [hK] at HN2
              clear hK
              go_wp2_with fail
              refine (HN2.out).mono ?_
              intro e w1 hpost
              obtain ⟨B1, e1, hb1, rfl, hl1⟩ := rnone_some hpost
              have HL1 := Lib.hid hl1
              have hbx := Below.next hb0' hb1
              clear hpost hl1 hcelly
              have HO1 := Lib.hid (HOR.out.keep hbx)
              have hbel1 := Below.next HBI.out hbx
              have hbel01 := Below.next hbw hbx
              have hb2 : Below w1.heap.size w1 (w1.alloc (.cells #[.slice B1 L1.length e1] 71)) := by (repeat' (first | (with_reducible exact Below.refl _ _) | (with_reducible assumption) | (with_reducible refine Below.next ?_ (by with_reducible assumption)) | (with_reducible refine Below.drew ?_) | (with_reducible refine Below.laid ?_ _) | (with_reducible refine Below.setCell ?_ ?_ _) | (with_reducible refine size_of ?_) | (with_reducible refine Nat.le_succ_of_le ?_) | go_size))
              have hsz2 : w.heap.size + 1 ≤ (w1.alloc (.cells #[.slice B1 L1.length e1] 71)).heap.size := Nat.le_trans HSZ.out (Nat.le_trans (hbx).size hb2.size)
              have hcell2 := (Blk.new w1 71 #[.slice B1 L1.length e1]).cell 0
              go_upto_region 27 with (fail)
              go_wp2_with (at_builtin; refine wpList_appRR _ rfl _ _ rfl (w.heap.size + 1) _ R rfl (HO1.out.keep hb2) w1.heap.size 1 (L1, .slice B1 L1.length e1) rfl hcell2 (HL1.out.keep hb2).lists (fun B e => by injection e with e; subst e; exact HL1.out.keep hb2) (by have := HM.out; omega) hsz2 ?_)
              intro v' w3 hown3 hg3
              have hbel := (hbel1.trans (hb2.mono hbel1.size)).grown hg3 (Nat.le_trans hbel1.size hb2.size) (fun b e => by simp [Value.ownBlock] at e; omega)
              have hbel0 := (hbel01.trans (hb2.mono hbel01.size)).grown hg3 (Nat.le_trans hbel01.size hb2.size) (fun b e => by simp [Value.ownBlock] at e; have := HS0.out; omega)
              have hs3 := Nat.le_trans hsz2 hg3.size
              clear hg3 hcell2 hb2 hsz2 hbel1 hbel01 b1
              go_wp2
              go_roundw
              case rel =>
                refine ⟨k + 1, L1 :: r, by omega, by go_num, ⟨?_, ⟨_, hown3, ?_⟩, hbel, hs3, HCK.out _ HJS.out, ?_, ?_⟩, hbel0⟩
                · have := HLE.out; simp at *; omega
                · rw [rVals_app, List.reverse_cons, ← HRR.out, List.reverse_reverse]; rfl
                · rw [HLN.out _ HJS.out]; exact HSH.out
                · rw [HKF.out, HJS.out]
              case measure => simp [intOf]; omega
    · have hk' : k = c.length := by omega
      have hs := HI.out.shape
      have hf := HI.out.fold
      rw [hk', List.drop_eq_nil_of_le (Nat.le_refl _)] at hs hf
      simp only [Venn.fShape, decide_eq_true_eq] at hs
      have hs1 : st.length = 1 := by omega
      obtain ⟨l, rfl⟩ : ∃ l, st = [l] := by
        match st, hs1 with
        | [l], _ => exact ⟨l, rfl⟩
      obtain ⟨z, rfl⟩ : ∃ z, P = [z] := by
        have hp1 : P.length = 1 := HPL.out
        match P, hp1 with
        | [z], _ => exact ⟨z, rfl⟩
      have hz : z.1 = l := by
        have := HST.out
        simp [rVals] at this
        exact this
      have HJ := Lib.hid (show J = some z.1 by rw [HJ.out, hf, hz]; rfl)
      obtain ⟨g, cap, e1, _, _, _, _⟩ := HO.out.form (by simp)
      injection e1 with e1 e2 e3
      subst e1 e3
      have hc0 := HO.out.cell (k := 0) (x := z) rfl
      have HZ := Lib.hid (HO.out.is z (by simp))
      have HB := Lib.hid HI.out.below
      obtain ⟨zl, zv⟩ := z
      simp only at hc0 HZ HJ
      clear hs hf hs1 hz e2
      go_wp2
      go_ret2
      exact ⟨HB.out, .inr ⟨_, _, HJ.out, rfl, HZ.out⟩⟩
end Go.Proofs.YtpkleioabinkkaaGreatDoor
