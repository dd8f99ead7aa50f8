/-
  THE WALK of the reference's Span.
-/
import Derived.Test.YtcecbpbpknphjaaDoorRefWorlds
import Derived.Test.YtcecbpbpknphjaaDoorSpan
namespace Go.Proofs.YtcecbpbpknphjaaDoor
open Go.RowKit

def refSpanV (f : Venn.Form) (t : List Int) (u : Int) : Value := .tuple #[.agg #[.int .i64 (Venn.spanV f t u).1, .int .i64 (Venn.spanV f t u).2], .int .i64 (Venn.spanChk f t u)]
theorem refSpanV_bad {f : Venn.Form} {t : List Int} {u e : Int} (h : Venn.spanChk f t u = e) (he : e ≠ 0) : refSpanV f t u = .tuple #[.agg #[.int .i64 0, .int .i64 0], .int .i64 e] := by
  rw [refSpanV, Venn.spanV, if_neg (by rw [h]; exact he), h]

set_option maxHeartbeats 4000000 in
set_option maxRecDepth 100000 in
theorem ref_Span (sa sc tv : Value) (l : List Venn.Atom) (c t : List Int) (u : Int) (w : World) (ha : IsAtoms w sa l) (hc : IsInts w sc c) (ht : IsInts w tv t) :
    Calls Tryd.prog 25 #[.agg #[sa, sc], tv, .int .i64 u] w (Keeps (refSpanV ⟨l, c⟩ t u) w) := by
  obtain ⟨A, cA, rfl⟩ := ha.slice
  obtain ⟨C, cC, rfl⟩ := hc.slice
  obtain ⟨tA, tN, rfl⟩ := ht.slice
  have HA := Lib.hid ha
  have HC := Lib.hid hc
  have HT := Lib.hid ht
  clear ha hc ht
  by_cases h1 : ¬ Venn.formChk ⟨l, c⟩ = 0
  · have HV := Lib.hid (refSpanV_bad (show Venn.spanChk ⟨l, c⟩ t u = Venn.formChk ⟨l, c⟩ by rw [Venn.spanChk, if_neg h1]) h1)
    have q1 : (Venn.formChk ⟨l, c⟩ == 0) = false := by simpa using h1
    have q2 : (Venn.formChk ⟨l, c⟩ != 0) = true := by simpa using h1
    have HF := Lib.hid (fun W h1 h2 => ref_Form (.slice A l.length cA) (.slice C c.length cC) l c W h1 h2)
    clear h1
    rw [HV.out]
    clear HV
    generalize Venn.formChk ⟨l, c⟩ = E at q1 q2 HF ⊢
    go_enter Tryd.func25, Tryd.ntmps25
    go_wp2_with fail
    refine (HF.out _ (HA.out.keep (by (repeat' (first | (with_reducible exact Below.refl _ _) | (with_reducible assumption) | (with_reducible refine Below.next ?_ (by with_reducible assumption)) | (with_reducible refine Below.drew ?_) | (with_reducible refine Below.laid ?_ _) | (with_reducible refine Below.setCell ?_ ?_ _) | (with_reducible refine size_of ?_) | (with_reducible refine Nat.le_succ_of_le ?_) | go_size)))) (HC.out.keep (by (repeat' (first | (with_reducible exact Below.refl _ _) | (with_reducible assumption) | (with_reducible refine Below.next ?_ (by with_reducible assumption)) | (with_reducible refine Below.drew ?_) | (with_reducible refine Below.laid ?_ _) | (with_reducible refine Below.setCell ?_ ?_ _) | (with_reducible refine size_of ?_) | (with_reducible refine Nat.le_succ_of_le ?_) | go_size))))).mono ?_
    rintro e w1 ⟨rfl, hb1⟩
    have hq1 : Below w.heap.size w w1 := by (repeat' (first | (with_reducible exact Below.refl _ _) | (with_reducible assumption) | (with_reducible refine Below.next ?_ (by with_reducible assumption)) | (with_reducible refine Below.drew ?_) | (with_reducible refine Below.laid ?_ _) | (with_reducible refine Below.setCell ?_ ?_ _) | (with_reducible refine size_of ?_) | (with_reducible refine Nat.le_succ_of_le ?_) | go_size))
    have hw1 : Below w.heap.size w w1 := hq1
    have BR : Blk w1 (w.heap.size + 1) 49 #[.int .i64 0, .int .i64 0] := (boxes_is hb1).2
    obtain ⟨⟨r0, r1⟩, s0, s1⟩ := BR.cells2
    have GL := below_set2 hw1 (show w.heap.size ≤ w.heap.size + 1 by omega) (.int .i64 0) (.int .i64 0)
    have GS := BR.set2 (.int .i64 0) (.int .i64 0)
    go_wp2
    clear r0 r1 s0 s1
    revert GL GS
    generalize World.setCell _ _ _ = Wf
    intro GL GS
    obtain ⟨⟨e0, e1⟩, _⟩ := GS.cells2
    exact bodyPost_ret (v := .tuple #[.agg #[.int .i64 0, .int .i64 0], .int .i64 E]) (by simp [results, Tryd.results25, go_sem, e0, e1]) rfl ⟨rfl, GL⟩
  replace h1 := Decidable.not_not.1 h1
  have HF := Lib.hid h1
  by_cases h2 : ¬ Venn.termChk t = 0
  · have HV := Lib.hid (refSpanV_bad (show Venn.spanChk ⟨l, c⟩ t u = Venn.termChk t by rw [Venn.spanChk, if_pos h1, if_neg h2]) h2)
    have q1 : (Venn.termChk t == 0) = false := by simpa using h2
    have q2 : (Venn.termChk t != 0) = true := by simpa using h2
    have HTC := Lib.hid (fun W h => ref_Term (.slice tA t.length tN) t W h)
    clear h1 h2
    rw [HV.out]
    clear HV
    generalize Venn.termChk t = E at q1 q2 HTC ⊢
    go_enter Tryd.func25, Tryd.ntmps25
    go_wp2_with fail
    refine (ref_Form _ _ l c _ (HA.out.keep (by (repeat' (first | (with_reducible exact Below.refl _ _) | (with_reducible assumption) | (with_reducible refine Below.next ?_ (by with_reducible assumption)) | (with_reducible refine Below.drew ?_) | (with_reducible refine Below.laid ?_ _) | (with_reducible refine Below.setCell ?_ ?_ _) | (with_reducible refine size_of ?_) | (with_reducible refine Nat.le_succ_of_le ?_) | go_size)))) (HC.out.keep (by (repeat' (first | (with_reducible exact Below.refl _ _) | (with_reducible assumption) | (with_reducible refine Below.next ?_ (by with_reducible assumption)) | (with_reducible refine Below.drew ?_) | (with_reducible refine Below.laid ?_ _) | (with_reducible refine Below.setCell ?_ ?_ _) | (with_reducible refine size_of ?_) | (with_reducible refine Nat.le_succ_of_le ?_) | go_size))))).mono ?_
    rintro e w1 ⟨rfl, hb1⟩
    rw [HF.out]
    have hq1 : Below w.heap.size w w1 := by (repeat' (first | (with_reducible exact Below.refl _ _) | (with_reducible assumption) | (with_reducible refine Below.next ?_ (by with_reducible assumption)) | (with_reducible refine Below.drew ?_) | (with_reducible refine Below.laid ?_ _) | (with_reducible refine Below.setCell ?_ ?_ _) | (with_reducible refine size_of ?_) | (with_reducible refine Nat.le_succ_of_le ?_) | go_size))
    have hw1 : Below w.heap.size w w1 := hq1
    have BR : Blk w1 (w.heap.size + 1) 49 #[.int .i64 0, .int .i64 0] := (boxes_is hb1).2
    obtain ⟨⟨r0, r1⟩, s0, s1⟩ := BR.cells2
    have GL := below_set2 hw1 (show w.heap.size ≤ w.heap.size + 1 by omega) (.int .i64 0) (.int .i64 0)
    have GS := BR.set2 (.int .i64 0) (.int .i64 0)
    go_wp2_with (go_at_call 65; refine (HTC.out _ (HT.out.keep (by (repeat' (first | (with_reducible exact Below.refl _ _) | (with_reducible assumption) | (with_reducible refine Below.next ?_ (by with_reducible assumption)) | (with_reducible refine Below.drew ?_) | (with_reducible refine Below.laid ?_ _) | (with_reducible refine Below.setCell ?_ ?_ _) | (with_reducible refine size_of ?_) | (with_reducible refine Nat.le_succ_of_le ?_) | go_size))))).mono ?_; rintro e w' ⟨rfl, rfl⟩)
    clear r0 r1 s0 s1
    revert GL GS
    generalize World.setCell _ _ _ = Wf
    intro GL GS
    obtain ⟨⟨e0, e1⟩, _⟩ := GS.cells2
    exact bodyPost_ret (v := .tuple #[.agg #[.int .i64 0, .int .i64 0], .int .i64 E]) (by simp [results, Tryd.results25, go_sem, e0, e1]) rfl ⟨rfl, GL⟩
  replace h2 := Decidable.not_not.1 h2
  have HTC := Lib.hid h2
  by_cases h3 : ¬ Venn.things u = true
  · have HV := Lib.hid (refSpanV_bad (e := 1) (show Venn.spanChk ⟨l, c⟩ t u = 1 by rw [Venn.spanChk, if_pos h1, if_pos h2, if_neg h3]) (by decide))
    have hu : u < 0 ∨ (¬ u < 0 ∧ 6 < u) := by simp [Venn.things] at h3; omega
    clear h1 h2 h3
    rw [HV.out]
    clear HV
    rcases hu with hu | ⟨hu, hu2⟩
    all_goals
      go_enter Tryd.func25, Tryd.ntmps25
      go_wp2_with fail
      refine (ref_Form _ _ l c _ (HA.out.keep (by (repeat' (first | (with_reducible exact Below.refl _ _) | (with_reducible assumption) | (with_reducible refine Below.next ?_ (by with_reducible assumption)) | (with_reducible refine Below.drew ?_) | (with_reducible refine Below.laid ?_ _) | (with_reducible refine Below.setCell ?_ ?_ _) | (with_reducible refine size_of ?_) | (with_reducible refine Nat.le_succ_of_le ?_) | go_size)))) (HC.out.keep (by (repeat' (first | (with_reducible exact Below.refl _ _) | (with_reducible assumption) | (with_reducible refine Below.next ?_ (by with_reducible assumption)) | (with_reducible refine Below.drew ?_) | (with_reducible refine Below.laid ?_ _) | (with_reducible refine Below.setCell ?_ ?_ _) | (with_reducible refine size_of ?_) | (with_reducible refine Nat.le_succ_of_le ?_) | go_size))))).mono ?_
      rintro e w1 ⟨rfl, hb1⟩
      rw [HF.out]
      have hq1 : Below w.heap.size w w1 := by (repeat' (first | (with_reducible exact Below.refl _ _) | (with_reducible assumption) | (with_reducible refine Below.next ?_ (by with_reducible assumption)) | (with_reducible refine Below.drew ?_) | (with_reducible refine Below.laid ?_ _) | (with_reducible refine Below.setCell ?_ ?_ _) | (with_reducible refine size_of ?_) | (with_reducible refine Nat.le_succ_of_le ?_) | go_size))
      have hw1 : Below w.heap.size w w1 := hq1
      have BR : Blk w1 (w.heap.size + 1) 49 #[.int .i64 0, .int .i64 0] := (boxes_is hb1).2
      obtain ⟨⟨r0, r1⟩, s0, s1⟩ := BR.cells2
      have GL := below_set2 hw1 (show w.heap.size ≤ w.heap.size + 1 by omega) (.int .i64 0) (.int .i64 0)
      have GS := BR.set2 (.int .i64 0) (.int .i64 0)
      go_wp2_with (go_at_call 65; refine (ref_Term _ t _ (HT.out.keep (by (repeat' (first | (with_reducible exact Below.refl _ _) | (with_reducible assumption) | (with_reducible refine Below.next ?_ (by with_reducible assumption)) | (with_reducible refine Below.drew ?_) | (with_reducible refine Below.laid ?_ _) | (with_reducible refine Below.setCell ?_ ?_ _) | (with_reducible refine size_of ?_) | (with_reducible refine Nat.le_succ_of_le ?_) | go_size))))).mono ?_; rintro e w' ⟨rfl, rfl⟩; rw [HTC.out])
      clear r0 r1 s0 s1
      revert GL GS
      generalize World.setCell _ _ _ = Wf
      intro GL GS
      obtain ⟨⟨e0, e1⟩, _⟩ := GS.cells2
      exact bodyPost_ret (v := .tuple #[.agg #[.int .i64 0, .int .i64 0], .int .i64 1]) (by simp [results, Tryd.results25, go_sem, e0, e1]) rfl ⟨rfl, GL⟩
  replace h3 := Decidable.not_not.1 h3
  obtain ⟨hr2, hr1⟩ := Venn.spanRef_go (f := ⟨l, c⟩) (t := t) h3
  have hu6 := h3
  simp only [Venn.things, Bool.and_eq_true, decide_eq_true_eq] at hu6
  have hn0 : ¬ u < 0 := by omega
  have hn6 : ¬ 6 < u := by omega
  have HGV := Lib.hid (show refSpanV ⟨l, c⟩ t u = if (Venn.spanRef ⟨l, c⟩ t (Venn.allC u)).2 < 0 then .tuple #[.agg #[.int .i64 0, .int .i64 0], .int .i64 5] else .tuple #[.agg #[.int .i64 (Venn.spanRef ⟨l, c⟩ t (Venn.allC u)).1, .int .i64 (Venn.spanRef ⟨l, c⟩ t (Venn.allC u)).2], .int .i64 0] by
    by_cases hneg : (Venn.spanGo ⟨l, c⟩ t u (Venn.allC u)).2 < 0
    · rw [if_pos (by rw [hr2]; exact hneg)]
      exact refSpanV_bad (by rw [Venn.spanChk, if_pos h1, if_pos h2, if_pos h3, if_pos hneg]) (by decide)
    · have hz : Venn.spanChk ⟨l, c⟩ t u = 0 := by rw [Venn.spanChk, if_pos h1, if_pos h2, if_pos h3, if_neg hneg]
      rw [if_neg (by rw [hr2]; exact hneg), refSpanV, Venn.spanV, if_pos hz, hz, hr1 hneg])
  have HWO := Lib.hid (fun W => ref_Worlds u W h3)
  have HM := Lib.hid (show ∀ x ∈ Venn.allC u, Venn.worldChk (Venn.made x) = 0 from fun x hx => (Venn.made_allC h3 hx).1)
  clear hr1 hr2 h1 h2 h3
  generalize refSpanV ⟨l, c⟩ t u = R at HGV ⊢
  generalize Venn.allC u = LL at HWO HM HGV
  go_enter Tryd.func25, Tryd.ntmps25
  go_wp2_with fail
  refine (ref_Form _ _ l c _ (HA.out.keep (by (repeat' (first | (with_reducible exact Below.refl _ _) | (with_reducible assumption) | (with_reducible refine Below.next ?_ (by with_reducible assumption)) | (with_reducible refine Below.drew ?_) | (with_reducible refine Below.laid ?_ _) | (with_reducible refine Below.setCell ?_ ?_ _) | (with_reducible refine size_of ?_) | (with_reducible refine Nat.le_succ_of_le ?_) | go_size)))) (HC.out.keep (by (repeat' (first | (with_reducible exact Below.refl _ _) | (with_reducible assumption) | (with_reducible refine Below.next ?_ (by with_reducible assumption)) | (with_reducible refine Below.drew ?_) | (with_reducible refine Below.laid ?_ _) | (with_reducible refine Below.setCell ?_ ?_ _) | (with_reducible refine size_of ?_) | (with_reducible refine Nat.le_succ_of_le ?_) | go_size))))).mono ?_
  rintro e w1 ⟨rfl, hb1⟩
  rw [HF.out]
  have hq1 : Below w.heap.size w w1 := by (repeat' (first | (with_reducible exact Below.refl _ _) | (with_reducible assumption) | (with_reducible refine Below.next ?_ (by with_reducible assumption)) | (with_reducible refine Below.drew ?_) | (with_reducible refine Below.laid ?_ _) | (with_reducible refine Below.setCell ?_ ?_ _) | (with_reducible refine size_of ?_) | (with_reducible refine Nat.le_succ_of_le ?_) | go_size))
  have hw1 : Below w.heap.size w w1 := hq1
  have BF : Blk w1 w.heap.size 25 #[.slice A l.length cA, .slice C c.length cC] := (boxes_is hb1).1
  have BR : Blk w1 (w.heap.size + 1) 49 #[.int .i64 0, .int .i64 0] := (boxes_is hb1).2
  go_wp2_with (go_at_call 65; refine (ref_Term _ t _ (HT.out.keep (by (repeat' (first | (with_reducible exact Below.refl _ _) | (with_reducible assumption) | (with_reducible refine Below.next ?_ (by with_reducible assumption)) | (with_reducible refine Below.drew ?_) | (with_reducible refine Below.laid ?_ _) | (with_reducible refine Below.setCell ?_ ?_ _) | (with_reducible refine size_of ?_) | (with_reducible refine Nat.le_succ_of_le ?_) | go_size))))).mono ?_; rintro e w' ⟨rfl, rfl⟩; rw [HTC.out])
  refine (HWO.out _).mono ?_
  rintro e w2 ⟨v2, rfl, hb2, hown⟩
  obtain ⟨V, cw, rfl⟩ := ownsRow_slice hown
  have BFl := BF.lt
  have BRl := BR.lt
  have hlt1 : w.heap.size + 1 < w1.heap.size := BR.lt
  have hown1 : ∀ b, V = some b → True := fun _ _ => trivial
  clear hown1
  have hblk : ∀ b, (Value.slice V LL.length cw).ownBlock = some b → w1.heap.size + 1 ≤ b := fun b hb => by have := (hown.lt b hb).1; simpa using this
  have BS2 := (Blk.new w1 49 #[.int .i64 100, .int .i64 (-1)]).keep hb2
  have BF2 := (BF.alloc (.cells #[.int .i64 100, .int .i64 (-1)] 49)).keep hb2
  have BR2 := (BR.alloc (.cells #[.int .i64 100, .int .i64 (-1)] 49)).keep hb2
  have hw2 : Below w.heap.size w w2 := by (repeat' (first | (with_reducible exact Below.refl _ _) | (with_reducible assumption) | (with_reducible refine Below.next ?_ (by with_reducible assumption)) | (with_reducible refine Below.drew ?_) | (with_reducible refine Below.laid ?_ _) | (with_reducible refine Below.setCell ?_ ?_ _) | (with_reducible refine size_of ?_) | (with_reducible refine Nat.le_succ_of_le ?_) | go_size))
  have HO := Lib.hid hown
  have hcap : LL.length ≤ cw ∧ cw ≤ 2 ^ 63 - 1 := by
    obtain ⟨_, _, hve, _, g1, g2⟩ := IsWorlds.of_own hown
    simp only [Value.slice.injEq, List.length_map] at hve g1
    unfold maxLen at g2
    omega
  obtain ⟨hcap1, hcap2⟩ := hcap
  have HBK := Lib.hid hblk
  have hsz2 := hb2.size
  simp at hsz2
  clear hown hblk hb2 BF BR BFl BRl
  go_wp2
  go_loopw [11] (fun i wr => ∃ (k : Nat) (p1 p2 : Int), k ≤ LL.length ∧ i = .int .i64 k ∧ p1 = (Venn.spanRef ⟨l, c⟩ t (LL.take k)).1 ∧ p2 = (Venn.spanRef ⟨l, c⟩ t (LL.take k)).2 ∧ Below w.heap.size w wr ∧ But (fun b => b = w1.heap.size) w2 wr ∧ Blk wr w.heap.size 25 #[.slice A l.length cA, .slice C c.length cC] ∧ Blk wr (w.heap.size + 1) 49 #[.int .i64 0, .int .i64 0] ∧ Blk wr w1.heap.size 49 #[.int .i64 p1, .int .i64 p2]) (fun i _ => LL.length - (intOf i).toNat)
  case atStart => exact ⟨0, 100, -1, Nat.zero_le _, rfl, rfl, rfl, hw2, But.refl _ _, BF2, BR2, BS2⟩
  case round =>
    clear BF2 BR2 BS2
    obtain ⟨k, p1, p2, hk, rfl, hp1, hp2, hb, hbut, hBF, hBR, hBS⟩ := hrel
    obtain ⟨wo, rfl⟩ : ∃ wo : World, wo = wr := ⟨_, rfl⟩
    have HP1 := Lib.hid hp1
    have HP2 := Lib.hid hp2
    obtain ⟨⟨f0, f1⟩, _⟩ := hBF.cells2
    have hFl := hBF.lt
    have hSl := hBS.lt
    by_cases hlt : k < LL.length
    · obtain ⟨_, _, hve, hwr, hwc, hwm⟩ := IsWorlds.of_own (own_but HO.out hbut (fun b hb he => by have := HBK.out b hb; omega))
      have hml : (LL.map Venn.made).length = LL.length := by simp
      simp only [Value.slice.injEq] at hve
      obtain ⟨rfl, hx, rfl⟩ := hve
      clear hx
      obtain ⟨ad, rfl, g0, g1, g2, g3⟩ := hwr k (Venn.made LL[k]) (by rw [List.getElem?_map, List.getElem?_eq_getElem hlt]; rfl)
      have hrr := Venn.spanRef_range ⟨l, c⟩ t (LL.take k)
      have hct := Venn.cntT_le t LL[k]
      have HS := Lib.hid (show Venn.spanRef ⟨l, c⟩ t (LL.take (k + 1)) = if Venn.formTrue ⟨l, c⟩ (Venn.made LL[k]) = true then (min p1 (Venn.cntT t LL[k]), max p2 (Venn.cntT t LL[k])) else (p1, p2) by
        rw [List.take_succ_eq_append_getElem hlt, Venn.spanRef_snoc, Venn.spanStep, hp1, hp2])
      rw [← hp1, ← hp2] at hrr
      have hwk := HM.out _ (List.getElem_mem hlt)
      have hcd : Venn.cntT t LL[k] = Venn.many (Venn.termSet t (Venn.made LL[k])) := rfl
      generalize Venn.cntT t LL[k] = n at hct HS hcd
      generalize Venn.made LL[k] = X at g0 g1 g2 g3 HS hwk hcd
      obtain ⟨th, a, b, d⟩ := X
      simp only at g0 g1 g2 g3
      have hk1 : (k : Int) < (LL.length : Int) := by omega
      have hk0 : (0 : Int) ≤ (k : Int) := by omega
      have HTR := Lib.hid (fun W h1 h2 => ref_True (.slice A l.length cA) (.slice C c.length cC) l c th a b d W h1 h2 HF.out hwk)
      have HVL := Lib.hid (fun W h => ref_Value (.slice tA t.length tN) t th a b d W h HTC.out hwk)
      have hts := Venn.termSet_right hwk t
      generalize Venn.termSet t ⟨th, a, b, d⟩ = TS at HVL hcd hts
      have HSZ := Lib.hid (fun W => ref_Size TS W (by have := setChk_63 hts; omega))
      rw [← hcd] at HSZ
      clear hp1 hp2 hwk hwr hwc hwm hml hcd hts
      generalize Venn.formTrue ⟨l, c⟩ ⟨th, a, b, d⟩ = T at HTR HS
      cases T
      · go_wp2_with fail
        go_region_law (go_simp; go_at_call 20; refine (HTR.out _ (HA.out.keep (by (repeat' (first | (with_reducible exact Below.refl _ _) | (with_reducible assumption) | (with_reducible refine Below.next ?_ (by with_reducible assumption)) | (with_reducible refine Below.drew ?_) | (with_reducible refine Below.laid ?_ _) | (with_reducible refine Below.setCell ?_ ?_ _) | (with_reducible refine size_of ?_) | (with_reducible refine Nat.le_succ_of_le ?_) | go_size)))) (HC.out.keep (by (repeat' (first | (with_reducible exact Below.refl _ _) | (with_reducible assumption) | (with_reducible refine Below.next ?_ (by with_reducible assumption)) | (with_reducible refine Below.drew ?_) | (with_reducible refine Below.laid ?_ _) | (with_reducible refine Below.setCell ?_ ?_ _) | (with_reducible refine size_of ?_) | (with_reducible refine Nat.le_succ_of_le ?_) | go_size))))).mono ?_; rintro e w3 ⟨rfl, hb3⟩)
        all_goals
          go_wp2
          go_roundw
          case rel => exact ⟨k + 1, p1, p2, by omega, by go_num, by rw [HS.out]; rfl, by rw [HS.out]; rfl, by (repeat' (first | (with_reducible exact Below.refl _ _) | (with_reducible assumption) | (with_reducible refine Below.next ?_ (by with_reducible assumption)) | (with_reducible refine Below.drew ?_) | (with_reducible refine Below.laid ?_ _) | (with_reducible refine Below.setCell ?_ ?_ _) | (with_reducible refine size_of ?_) | (with_reducible refine Nat.le_succ_of_le ?_) | go_size)), (hbut.drew).next hb3, hBF.drew.keep hb3, hBR.drew.keep hb3, hBS.drew.keep hb3⟩
          case measure => simp [intOf]; omega
      · go_wp2_with fail
        go_region_law (go_simp; go_at_call 20; refine (HTR.out _ (HA.out.keep (by (repeat' (first | (with_reducible exact Below.refl _ _) | (with_reducible assumption) | (with_reducible refine Below.next ?_ (by with_reducible assumption)) | (with_reducible refine Below.drew ?_) | (with_reducible refine Below.laid ?_ _) | (with_reducible refine Below.setCell ?_ ?_ _) | (with_reducible refine size_of ?_) | (with_reducible refine Nat.le_succ_of_le ?_) | go_size)))) (HC.out.keep (by (repeat' (first | (with_reducible exact Below.refl _ _) | (with_reducible assumption) | (with_reducible refine Below.next ?_ (by with_reducible assumption)) | (with_reducible refine Below.drew ?_) | (with_reducible refine Below.laid ?_ _) | (with_reducible refine Below.setCell ?_ ?_ _) | (with_reducible refine size_of ?_) | (with_reducible refine Nat.le_succ_of_le ?_) | go_size))))).mono ?_; rintro e w3 ⟨rfl, hb3⟩)
        all_goals
          have j0 := cell_keep (w' := w3) (by (repeat' (first | (with_reducible exact Below.refl _ _) | (with_reducible assumption) | (with_reducible refine Below.next ?_ (by with_reducible assumption)) | (with_reducible refine Below.drew ?_) | (with_reducible refine Below.laid ?_ _) | (with_reducible refine Below.setCell ?_ ?_ _) | (with_reducible refine size_of ?_) | (with_reducible refine Nat.le_succ_of_le ?_) | go_size))) g0
          have j1 := cell_keep (w' := w3) (by (repeat' (first | (with_reducible exact Below.refl _ _) | (with_reducible assumption) | (with_reducible refine Below.next ?_ (by with_reducible assumption)) | (with_reducible refine Below.drew ?_) | (with_reducible refine Below.laid ?_ _) | (with_reducible refine Below.setCell ?_ ?_ _) | (with_reducible refine size_of ?_) | (with_reducible refine Nat.le_succ_of_le ?_) | go_size))) g1
          have j2 := cell_keep (w' := w3) (by (repeat' (first | (with_reducible exact Below.refl _ _) | (with_reducible assumption) | (with_reducible refine Below.next ?_ (by with_reducible assumption)) | (with_reducible refine Below.drew ?_) | (with_reducible refine Below.laid ?_ _) | (with_reducible refine Below.setCell ?_ ?_ _) | (with_reducible refine size_of ?_) | (with_reducible refine Nat.le_succ_of_le ?_) | go_size))) g2
          have j3 := cell_keep (w' := w3) (by (repeat' (first | (with_reducible exact Below.refl _ _) | (with_reducible assumption) | (with_reducible refine Below.next ?_ (by with_reducible assumption)) | (with_reducible refine Below.drew ?_) | (with_reducible refine Below.laid ?_ _) | (with_reducible refine Below.setCell ?_ ?_ _) | (with_reducible refine size_of ?_) | (with_reducible refine Nat.le_succ_of_le ?_) | go_size))) g3
          go_wp2_with fail
          refine (HVL.out _ (HT.out.keep (by (repeat' (first | (with_reducible exact Below.refl _ _) | (with_reducible assumption) | (with_reducible refine Below.next ?_ (by with_reducible assumption)) | (with_reducible refine Below.drew ?_) | (with_reducible refine Below.laid ?_ _) | (with_reducible refine Below.setCell ?_ ?_ _) | (with_reducible refine size_of ?_) | (with_reducible refine Nat.le_succ_of_le ?_) | go_size))))).mono ?_
          rintro e w4 ⟨rfl, hb4⟩
          have hBS4 := (hBS.drew.keep hb3).keep hb4
          have hBF4 := (hBF.drew.keep hb3).keep hb4
          have hBR4 := (hBR.drew.keep hb3).keep hb4
          have hbut4 := ((hbut.drew).next hb3).next hb4
          have hb4' : Below w.heap.size w w4 := by (repeat' (first | (with_reducible exact Below.refl _ _) | (with_reducible assumption) | (with_reducible refine Below.next ?_ (by with_reducible assumption)) | (with_reducible refine Below.drew ?_) | (with_reducible refine Below.laid ?_ _) | (with_reducible refine Below.setCell ?_ ?_ _) | (with_reducible refine size_of ?_) | (with_reducible refine Nat.le_succ_of_le ?_) | go_size))
          obtain ⟨⟨m0, m1⟩, m2, m3⟩ := hBS4.cells2
          have hSl4 := hBS4.lt
          clear f0 f1 g0 g1 g2 g3 j0 j1 j2 j3 hb3 hb4 hb hbut hBF hBR hBS
          rcases (by omega : (n < p1 ∧ p2 < n) ∨ (n < p1 ∧ ¬ p2 < n) ∨ (¬ n < p1 ∧ p2 < n) ∨ (¬ n < p1 ∧ ¬ p2 < n)) with ⟨hx, hy⟩ | ⟨hx, hy⟩ | ⟨hx, hy⟩ | ⟨hx, hy⟩
          · go_wp2_with (go_at_call 67; refine (HSZ.out _).mono ?_; rintro e w' ⟨rfl, rfl⟩)
            go_roundw
            case rel => exact ⟨k + 1, n, n, by omega, by go_num, by rw [HS.out]; show n = min p1 n; omega, by rw [HS.out]; show n = max p2 n; omega, (hb4'.setCell (by show w.heap.size ≤ w1.heap.size; exact hw1.size) _).setCell (by show w.heap.size ≤ w1.heap.size; exact hw1.size) _, (hbut4.set_ (p := ⟨w1.heap.size, 0, none⟩) rfl _).set_ (p := ⟨w1.heap.size, 1, none⟩) rfl _,
              (hBF4.far (p := ⟨w1.heap.size, 0, none⟩) (by simp; omega) _).far (p := ⟨w1.heap.size, 1, none⟩) (by simp; omega) _, (hBR4.far (p := ⟨w1.heap.size, 0, none⟩) (by simp; omega) _).far (p := ⟨w1.heap.size, 1, none⟩) (by simp; omega) _, hBS4.set2 _ _⟩
            case measure => simp [intOf]; omega
          · go_wp2_with (go_at_call 67; refine (HSZ.out _).mono ?_; rintro e w' ⟨rfl, rfl⟩)
            go_roundw
            case rel => exact ⟨k + 1, n, p2, by omega, by go_num, by rw [HS.out]; show n = min p1 n; omega, by rw [HS.out]; show p2 = max p2 n; omega, (hb4'.setCell (by show w.heap.size ≤ w1.heap.size; exact hw1.size) _), (hbut4.set_ (p := ⟨w1.heap.size, 0, none⟩) rfl _),
              (hBF4.far (p := ⟨w1.heap.size, 0, none⟩) (by simp; omega) _), (hBR4.far (p := ⟨w1.heap.size, 0, none⟩) (by simp; omega) _), by simpa using hBS4.set_ 0 (.int .i64 n)⟩
            case measure => simp [intOf]; omega
          · go_wp2_with (go_at_call 67; refine (HSZ.out _).mono ?_; rintro e w' ⟨rfl, rfl⟩)
            go_roundw
            case rel => exact ⟨k + 1, p1, n, by omega, by go_num, by rw [HS.out]; show p1 = min p1 n; omega, by rw [HS.out]; show n = max p2 n; omega, (hb4'.setCell (by show w.heap.size ≤ w1.heap.size; exact hw1.size) _), (hbut4.set_ (p := ⟨w1.heap.size, 1, none⟩) rfl _),
              (hBF4.far (p := ⟨w1.heap.size, 1, none⟩) (by simp; omega) _), (hBR4.far (p := ⟨w1.heap.size, 1, none⟩) (by simp; omega) _), by simpa using hBS4.set_ 1 (.int .i64 n)⟩
            case measure => simp [intOf]; omega
          · go_wp2_with (go_at_call 67; refine (HSZ.out _).mono ?_; rintro e w' ⟨rfl, rfl⟩)
            go_roundw
            case rel => exact ⟨k + 1, p1, p2, by omega, by go_num, by rw [HS.out]; show p1 = min p1 n; omega, by rw [HS.out]; show p2 = max p2 n; omega, hb4', hbut4, hBF4, hBR4, hBS4⟩
            case measure => simp [intOf]; omega
    · obtain rfl : k = LL.length := by omega
      rw [List.take_length] at HP1 HP2
      clear hp1 hp2 f0 f1
      obtain ⟨⟨m0, m1⟩, m2, m3⟩ := hBS.cells2
      obtain ⟨⟨r0, r1⟩, s0, s1⟩ := hBR.cells2
      have hRl := hBR.lt
      by_cases hneg : p2 < 0
      · have HV := Lib.hid (HGV.out.trans (if_pos (by rw [← HP2.out]; exact hneg)))
        have GL := below_set2 hb (show w.heap.size ≤ w.heap.size + 1 by omega) (.int .i64 0) (.int .i64 0)
        have GS := hBR.set2 (.int .i64 0) (.int .i64 0)
        go_wp2
        clear r0 r1 s0 s1
        revert GL GS
        generalize World.setCell _ _ _ = Wf
        intro GL GS
        obtain ⟨⟨e0, e1⟩, _⟩ := GS.cells2
        exact bodyPost_ret (v := .tuple #[.agg #[.int .i64 0, .int .i64 0], .int .i64 5]) (by simp [results, Tryd.results25, go_sem, e0, e1]) rfl ⟨congrArg Ending.returned HV.out.symm, GL⟩
      · have hv := HGV.out.trans (if_neg (by rw [← HP2.out]; exact hneg))
        rw [← HP1.out, ← HP2.out] at hv
        have HV := Lib.hid hv
        clear hv
        have GL := below_set2 hb (show w.heap.size ≤ w.heap.size + 1 by omega) (.int .i64 p1) (.int .i64 p2)
        have GS := hBR.set2 (.int .i64 p1) (.int .i64 p2)
        go_wp2
        clear r0 r1 s0 s1
        revert GL GS
        generalize World.setCell _ _ _ = Wf
        intro GL GS
        obtain ⟨⟨e0, e1⟩, _⟩ := GS.cells2
        exact bodyPost_ret (v := .tuple #[.agg #[.int .i64 p1, .int .i64 p2], .int .i64 0]) (by simp [results, Tryd.results25, go_sem, e0, e1]) rfl ⟨congrArg Ending.returned HV.out.symm, GL⟩
end Go.Proofs.YtcecbpbpknphjaaDoor
