/-
  THE WALK of the reference's Both.
-/
import Derived.Test.YtcecbpbpknphjaaDoorRefNegate
import Derived.Test.YtcecbpbpknphjaaDoorBoth
namespace Go.Proofs.YtcecbpbpknphjaaDoor
open Go.RowKit

set_option maxHeartbeats 8000000 in
set_option maxRecDepth 100000 in
theorem ref_Both (sa sc sb sd : Value) (l m : List Venn.Atom) (c d : List Int) (w : World) (ha : IsAtoms w sa l) (hc : IsInts w sc c) (hb : IsAtoms w sb m) (hd : IsInts w sd d) :
    Calls Tryd.prog 31 #[.agg #[sa, sc], .agg #[sb, sd]] w (RefPost (bothV ⟨l, c⟩ ⟨m, d⟩) (Venn.bothChk ⟨l, c⟩ ⟨m, d⟩) w) := by
  obtain ⟨A, cA, rfl⟩ := ha.slice
  obtain ⟨C, cC, rfl⟩ := hc.slice
  obtain ⟨B, cB, rfl⟩ := hb.slice
  obtain ⟨D, cD, rfl⟩ := hd.slice
  have HA := Lib.hid ha
  have HC := Lib.hid hc
  have HB := Lib.hid hb
  have HD := Lib.hid hd
  have HRC := Lib.hid hc.rd
  have HRD := Lib.hid hd.rd
  clear ha hc hb hd
  obtain ⟨V, hV⟩ : ∃ V, V = bothV ⟨l, c⟩ ⟨m, d⟩ := ⟨_, rfl⟩
  obtain ⟨E, hE⟩ : ∃ E, E = Venn.bothChk ⟨l, c⟩ ⟨m, d⟩ := ⟨_, rfl⟩
  rw [← hV, ← hE]
  have HV := Lib.hid (show V = if E = 0 then Venn.bothF ⟨l, c⟩ ⟨m, d⟩ else noForm by rw [hV, hE]; rfl)
  have HE := Lib.hid (show E = if Venn.formChk ⟨l, c⟩ = 0 then (if Venn.formChk ⟨m, d⟩ = 0 then (if 6 < l.length + m.length ∨ 19 < c.length + d.length then 4 else 0) else Venn.formChk ⟨m, d⟩) else Venn.formChk ⟨l, c⟩ from hE)
  clear hV hE
  have HF1 := Lib.hid (fun W h1 h2 => ref_Form (.slice A l.length cA) (.slice C c.length cC) l c W h1 h2)
  have HF2 := Lib.hid (fun W h1 h2 => ref_Form (.slice B m.length cB) (.slice D d.length cD) m d W h1 h2)
  by_cases h1 : ¬ Venn.formChk ⟨l, c⟩ = 0
  · have HEE := Lib.hid (show E = Venn.formChk ⟨l, c⟩ by rw [HE.out, if_neg h1])
    have HVV := Lib.hid (show V = noForm by rw [HV.out, if_neg (by rw [HEE.out]; exact h1)])
    have q1 : (Venn.formChk ⟨l, c⟩ == 0) = false := by simpa using h1
    have q2 : (Venn.formChk ⟨l, c⟩ != 0) = true := by simpa using h1
    clear h1 HV HE
    generalize Venn.formChk ⟨l, c⟩ = E1 at q1 q2 HF1 HEE
    go_enter Tryd.func31, Tryd.ntmps31
    go_wp2_with fail
    refine (HF1.out _ (HA.out.keep (by (repeat' (first | (with_reducible exact Below.refl _ _) | (with_reducible assumption) | (with_reducible refine Below.next ?_ (by with_reducible assumption)) | (with_reducible refine Below.drew ?_) | (with_reducible refine Below.laid ?_ _) | (with_reducible refine Below.setCell ?_ ?_ _) | (with_reducible refine size_of ?_) | (with_reducible refine Nat.le_succ_of_le ?_) | go_size)))) (HC.out.keep (by (repeat' (first | (with_reducible exact Below.refl _ _) | (with_reducible assumption) | (with_reducible refine Below.next ?_ (by with_reducible assumption)) | (with_reducible refine Below.drew ?_) | (with_reducible refine Below.laid ?_ _) | (with_reducible refine Below.setCell ?_ ?_ _) | (with_reducible refine size_of ?_) | (with_reducible refine Nat.le_succ_of_le ?_) | go_size))))).mono ?_
    rintro e w1 ⟨rfl, hb1⟩
    have hq1 : Below w.heap.size w w1 := by (repeat' (first | (with_reducible exact Below.refl _ _) | (with_reducible assumption) | (with_reducible refine Below.next ?_ (by with_reducible assumption)) | (with_reducible refine Below.drew ?_) | (with_reducible refine Below.laid ?_ _) | (with_reducible refine Below.setCell ?_ ?_ _) | (with_reducible refine size_of ?_) | (with_reducible refine Nat.le_succ_of_le ?_) | go_size))
    have hw1 : Below w.heap.size w w1 := hq1
    have BR : Blk w1 (w.heap.size + 2) 25 #[.slice none 0 0, .slice none 0 0] := Blk.keep (by repeat (first | (refine Blk.newAt ?_ _ _; simp; done) | refine Blk.alloc ?_ _)) hb1
    obtain ⟨⟨r0, r1⟩, r2, r3⟩ := BR.cells2
    have hlR := BR.lt
    have GL := below_set2 hw1 (show w.heap.size ≤ w.heap.size + 2 by omega) (.slice none 0 0) (.slice none 0 0)
    have GS := BR.set2 (.slice none 0 0) (.slice none 0 0)
    go_wp2
    clear r0 r1 r2 r3
    revert GL GS
    generalize World.setCell _ _ _ = Wf
    intro GL GS
    obtain ⟨⟨e0, e1⟩, _⟩ := GS.cells2
    refine bodyPost_ret (v := .tuple #[.agg #[.slice none 0 0, .slice none 0 0], .int .i64 E1]) (by simp [results, Tryd.results31, go_sem, e0, e1]) rfl ?_
    rw [HVV.out, HEE.out]
    exact RefPost.none GL
  replace h1 := Decidable.not_not.1 h1
  have HX1 := Lib.hid h1
  by_cases h2 : ¬ Venn.formChk ⟨m, d⟩ = 0
  · have HEE := Lib.hid (show E = Venn.formChk ⟨m, d⟩ by rw [HE.out, if_pos h1, if_neg h2])
    have HVV := Lib.hid (show V = noForm by rw [HV.out, if_neg (by rw [HEE.out]; exact h2)])
    have q1 : (Venn.formChk ⟨m, d⟩ == 0) = false := by simpa using h2
    have q2 : (Venn.formChk ⟨m, d⟩ != 0) = true := by simpa using h2
    clear h1 h2 HV HE
    generalize Venn.formChk ⟨m, d⟩ = E2 at q1 q2 HF2 HEE
    go_enter Tryd.func31, Tryd.ntmps31
    go_wp2_with fail
    refine (HF1.out _ (HA.out.keep (by (repeat' (first | (with_reducible exact Below.refl _ _) | (with_reducible assumption) | (with_reducible refine Below.next ?_ (by with_reducible assumption)) | (with_reducible refine Below.drew ?_) | (with_reducible refine Below.laid ?_ _) | (with_reducible refine Below.setCell ?_ ?_ _) | (with_reducible refine size_of ?_) | (with_reducible refine Nat.le_succ_of_le ?_) | go_size)))) (HC.out.keep (by (repeat' (first | (with_reducible exact Below.refl _ _) | (with_reducible assumption) | (with_reducible refine Below.next ?_ (by with_reducible assumption)) | (with_reducible refine Below.drew ?_) | (with_reducible refine Below.laid ?_ _) | (with_reducible refine Below.setCell ?_ ?_ _) | (with_reducible refine size_of ?_) | (with_reducible refine Nat.le_succ_of_le ?_) | go_size))))).mono ?_
    rintro e w1 ⟨rfl, hb1⟩
    rw [HX1.out]
    have hq1 : Below w.heap.size w w1 := by (repeat' (first | (with_reducible exact Below.refl _ _) | (with_reducible assumption) | (with_reducible refine Below.next ?_ (by with_reducible assumption)) | (with_reducible refine Below.drew ?_) | (with_reducible refine Below.laid ?_ _) | (with_reducible refine Below.setCell ?_ ?_ _) | (with_reducible refine size_of ?_) | (with_reducible refine Nat.le_succ_of_le ?_) | go_size))
    have hw1 : Below w.heap.size w w1 := hq1
    have BG : Blk w1 (w.heap.size + 1) 25 #[.slice B m.length cB, .slice D d.length cD] := Blk.keep (by repeat (first | (refine Blk.newAt ?_ _ _; simp; done) | refine Blk.alloc ?_ _)) hb1
    have BR : Blk w1 (w.heap.size + 2) 25 #[.slice none 0 0, .slice none 0 0] := Blk.keep (by repeat (first | (refine Blk.newAt ?_ _ _; simp; done) | refine Blk.alloc ?_ _)) hb1
    obtain ⟨⟨BG0, BG1⟩, _⟩ := BG.cells2
    have BGl := BG.lt
    go_wp2_with fail
    refine (HF2.out _ (HB.out.keep (by (repeat' (first | (with_reducible exact Below.refl _ _) | (with_reducible assumption) | (with_reducible refine Below.next ?_ (by with_reducible assumption)) | (with_reducible refine Below.drew ?_) | (with_reducible refine Below.laid ?_ _) | (with_reducible refine Below.setCell ?_ ?_ _) | (with_reducible refine size_of ?_) | (with_reducible refine Nat.le_succ_of_le ?_) | go_size)))) (HD.out.keep (by (repeat' (first | (with_reducible exact Below.refl _ _) | (with_reducible assumption) | (with_reducible refine Below.next ?_ (by with_reducible assumption)) | (with_reducible refine Below.drew ?_) | (with_reducible refine Below.laid ?_ _) | (with_reducible refine Below.setCell ?_ ?_ _) | (with_reducible refine size_of ?_) | (with_reducible refine Nat.le_succ_of_le ?_) | go_size))))).mono ?_
    rintro e w2 ⟨rfl, hb2⟩
    have hq2 : Below w1.heap.size w1 w2 := by (repeat' (first | (with_reducible exact Below.refl _ _) | (with_reducible assumption) | (with_reducible refine Below.next ?_ (by with_reducible assumption)) | (with_reducible refine Below.drew ?_) | (with_reducible refine Below.laid ?_ _) | (with_reducible refine Below.setCell ?_ ?_ _) | (with_reducible refine size_of ?_) | (with_reducible refine Nat.le_succ_of_le ?_) | go_size))
    have hw2 : Below w.heap.size w w2 := Below.next hw1 hq2
    replace BR := BR.keep hb2
    obtain ⟨⟨r0, r1⟩, r2, r3⟩ := BR.cells2
    have hlR := BR.lt
    have GL := below_set2 hw2 (show w.heap.size ≤ w.heap.size + 2 by omega) (.slice none 0 0) (.slice none 0 0)
    have GS := BR.set2 (.slice none 0 0) (.slice none 0 0)
    go_wp2
    clear r0 r1 r2 r3
    revert GL GS
    generalize World.setCell _ _ _ = Wf
    intro GL GS
    obtain ⟨⟨e0, e1⟩, _⟩ := GS.cells2
    refine bodyPost_ret (v := .tuple #[.agg #[.slice none 0 0, .slice none 0 0], .int .i64 E2]) (by simp [results, Tryd.results31, go_sem, e0, e1]) rfl ?_
    rw [HVV.out, HEE.out]
    exact RefPost.none GL
  replace h2 := Decidable.not_not.1 h2
  have HX2 := Lib.hid h2
  obtain ⟨⟨hl0, hl6⟩, ⟨hc0, hc20⟩, _⟩ := form_small h1
  obtain ⟨⟨hm0, hm6⟩, ⟨hd0, hd20⟩, _⟩ := form_small h2
  have hwa : IntKind.i64.wrap ((l.length : Int) + (m.length : Int)) = (l.length : Int) + (m.length : Int) := IntWalk.i64_in _ (by omega)
  have hwc : IntKind.i64.wrap ((c.length : Int) + (d.length : Int)) = (c.length : Int) + (d.length : Int) := IntWalk.i64_in _ (by omega)
  by_cases h3 : 6 < l.length + m.length ∨ 19 < c.length + d.length
  · have HEE := Lib.hid (show E = 4 by rw [HE.out, if_pos h1, if_pos h2, if_pos h3])
    have HVV := Lib.hid (show V = noForm by rw [HV.out, if_neg (by rw [HEE.out]; decide)])
    clear h1 h2 HV HE
    rcases (by omega : 6 < (l.length : Int) + (m.length : Int) ∨ (¬ 6 < (l.length : Int) + (m.length : Int) ∧ 19 < (c.length : Int) + (d.length : Int))) with h4 | ⟨h4, h5⟩
    all_goals
      clear h3
      go_enter Tryd.func31, Tryd.ntmps31
      go_wp2_with fail
      refine (HF1.out _ (HA.out.keep (by (repeat' (first | (with_reducible exact Below.refl _ _) | (with_reducible assumption) | (with_reducible refine Below.next ?_ (by with_reducible assumption)) | (with_reducible refine Below.drew ?_) | (with_reducible refine Below.laid ?_ _) | (with_reducible refine Below.setCell ?_ ?_ _) | (with_reducible refine size_of ?_) | (with_reducible refine Nat.le_succ_of_le ?_) | go_size)))) (HC.out.keep (by (repeat' (first | (with_reducible exact Below.refl _ _) | (with_reducible assumption) | (with_reducible refine Below.next ?_ (by with_reducible assumption)) | (with_reducible refine Below.drew ?_) | (with_reducible refine Below.laid ?_ _) | (with_reducible refine Below.setCell ?_ ?_ _) | (with_reducible refine size_of ?_) | (with_reducible refine Nat.le_succ_of_le ?_) | go_size))))).mono ?_
      rintro e w1 ⟨rfl, hb1⟩
      rw [HX1.out]
      have hq1 : Below w.heap.size w w1 := by (repeat' (first | (with_reducible exact Below.refl _ _) | (with_reducible assumption) | (with_reducible refine Below.next ?_ (by with_reducible assumption)) | (with_reducible refine Below.drew ?_) | (with_reducible refine Below.laid ?_ _) | (with_reducible refine Below.setCell ?_ ?_ _) | (with_reducible refine size_of ?_) | (with_reducible refine Nat.le_succ_of_le ?_) | go_size))
      have hw1 : Below w.heap.size w w1 := hq1
      have BF : Blk w1 w.heap.size 25 #[.slice A l.length cA, .slice C c.length cC] := Blk.keep (by repeat (first | exact Blk.new _ _ _ | refine Blk.alloc ?_ _)) hb1
      have BG : Blk w1 (w.heap.size + 1) 25 #[.slice B m.length cB, .slice D d.length cD] := Blk.keep (by repeat (first | (refine Blk.newAt ?_ _ _; simp; done) | refine Blk.alloc ?_ _)) hb1
      have BR : Blk w1 (w.heap.size + 2) 25 #[.slice none 0 0, .slice none 0 0] := Blk.keep (by repeat (first | (refine Blk.newAt ?_ _ _; simp; done) | refine Blk.alloc ?_ _)) hb1
      obtain ⟨⟨BG0, BG1⟩, _⟩ := BG.cells2
      have BGl := BG.lt
      go_wp2_with fail
      refine (HF2.out _ (HB.out.keep (by (repeat' (first | (with_reducible exact Below.refl _ _) | (with_reducible assumption) | (with_reducible refine Below.next ?_ (by with_reducible assumption)) | (with_reducible refine Below.drew ?_) | (with_reducible refine Below.laid ?_ _) | (with_reducible refine Below.setCell ?_ ?_ _) | (with_reducible refine size_of ?_) | (with_reducible refine Nat.le_succ_of_le ?_) | go_size)))) (HD.out.keep (by (repeat' (first | (with_reducible exact Below.refl _ _) | (with_reducible assumption) | (with_reducible refine Below.next ?_ (by with_reducible assumption)) | (with_reducible refine Below.drew ?_) | (with_reducible refine Below.laid ?_ _) | (with_reducible refine Below.setCell ?_ ?_ _) | (with_reducible refine size_of ?_) | (with_reducible refine Nat.le_succ_of_le ?_) | go_size))))).mono ?_
      rintro e w2 ⟨rfl, hb2⟩
      rw [HX2.out]
      have hq2 : Below w1.heap.size w1 w2 := by (repeat' (first | (with_reducible exact Below.refl _ _) | (with_reducible assumption) | (with_reducible refine Below.next ?_ (by with_reducible assumption)) | (with_reducible refine Below.drew ?_) | (with_reducible refine Below.laid ?_ _) | (with_reducible refine Below.setCell ?_ ?_ _) | (with_reducible refine size_of ?_) | (with_reducible refine Nat.le_succ_of_le ?_) | go_size))
      have hw2 : Below w.heap.size w w2 := Below.next hw1 hq2
      replace BF := BF.keep hq2
      try clear BF0 BF1 BFl
      obtain ⟨⟨BF0, BF1⟩, _⟩ := BF.cells2
      have BFl := BF.lt
      replace BG := BG.keep hq2
      try clear BG0 BG1 BGl
      obtain ⟨⟨BG0, BG1⟩, _⟩ := BG.cells2
      have BGl := BG.lt
      replace BR := BR.keep hb2
      obtain ⟨⟨r0, r1⟩, r2, r3⟩ := BR.cells2
      have hlR := BR.lt
      have GL := below_set2 hw2 (show w.heap.size ≤ w.heap.size + 2 by omega) (.slice none 0 0) (.slice none 0 0)
      have GS := BR.set2 (.slice none 0 0) (.slice none 0 0)
      go_wp2
      clear r0 r1 r2 r3
      revert GL GS
      generalize World.setCell _ _ _ = Wf
      intro GL GS
      obtain ⟨⟨e0, e1⟩, _⟩ := GS.cells2
      refine bodyPost_ret (v := .tuple #[.agg #[.slice none 0 0, .slice none 0 0], .int .i64 4]) (by simp [results, Tryd.results31, go_sem, e0, e1]) rfl ?_
      rw [HVV.out, HEE.out]
      exact RefPost.none GL
  have HEE := Lib.hid (show E = 0 by rw [HE.out, if_pos h1, if_pos h2, if_neg h3])
  have HVV := Lib.hid (show V = ⟨l ++ m, c ++ d.map (Venn.sh l.length) ++ [10]⟩ by rw [HV.out, if_pos HEE.out]; rfl)
  have HOKD := Lib.hid (show ∀ s ∈ d, Venn.codeOk m.length s = true from fun s hs => List.all_eq_true.1 (Venn.formChk_parts h2).2.2.2.2.2.1 s hs)
  have h4 : ¬ 6 < (l.length : Int) + (m.length : Int) := by omega
  have h5 : ¬ 19 < (c.length : Int) + (d.length : Int) := by omega
  have hcd : c.length + d.length ≤ 19 := by omega
  clear h1 h2 h3 HV HE
  obtain ⟨A', cA', p, hpe, hpl, hrA, hpA, _, _⟩ := atoms_open HA.out
  obtain ⟨B', cB', q, hqe, hql, hrB, hqB, _, _⟩ := atoms_open HB.out
  simp only [Value.slice.injEq] at hpe hqe
  obtain ⟨rfl, hp1, rfl⟩ := hpe
  obtain ⟨rfl, hq1, rfl⟩ := hqe
  obtain ⟨ad, rfl⟩ : ∃ ad, A = some ad := by
    obtain ⟨x, hx⟩ : ∃ x, p[0]? = some x := ⟨p[0]'(by omega), List.getElem?_eq_getElem (by omega)⟩
    obtain ⟨ad, e, _⟩ := hrA _ _ (aCells_at p 0 x hx).1
    exact ⟨ad, e⟩
  obtain ⟨bd, rfl⟩ : ∃ ad, B = some ad := by
    obtain ⟨x, hx⟩ : ∃ x, q[0]? = some x := ⟨q[0]'(by omega), List.getElem?_eq_getElem (by omega)⟩
    obtain ⟨ad, e, _⟩ := hrB _ _ (aCells_at q 0 x hx).1
    exact ⟨ad, e⟩
  have HP := Lib.hid (And.intro hpl (And.intro hrA (And.intro hpA hp1)))
  have HQ := Lib.hid (And.intro hql (And.intro hrB (And.intro hqB hq1)))
  clear hpl hrA hpA hp1 hql hrB hqB hq1
  go_enter Tryd.func31, Tryd.ntmps31
  go_wp2_with fail
  refine (HF1.out _ (HA.out.keep (by (repeat' (first | (with_reducible exact Below.refl _ _) | (with_reducible assumption) | (with_reducible refine Below.next ?_ (by with_reducible assumption)) | (with_reducible refine Below.drew ?_) | (with_reducible refine Below.laid ?_ _) | (with_reducible refine Below.setCell ?_ ?_ _) | (with_reducible refine size_of ?_) | (with_reducible refine Nat.le_succ_of_le ?_) | go_size)))) (HC.out.keep (by (repeat' (first | (with_reducible exact Below.refl _ _) | (with_reducible assumption) | (with_reducible refine Below.next ?_ (by with_reducible assumption)) | (with_reducible refine Below.drew ?_) | (with_reducible refine Below.laid ?_ _) | (with_reducible refine Below.setCell ?_ ?_ _) | (with_reducible refine size_of ?_) | (with_reducible refine Nat.le_succ_of_le ?_) | go_size))))).mono ?_
  rintro e w1 ⟨rfl, hb1⟩
  rw [HX1.out]
  have hq1 : Below w.heap.size w w1 := by (repeat' (first | (with_reducible exact Below.refl _ _) | (with_reducible assumption) | (with_reducible refine Below.next ?_ (by with_reducible assumption)) | (with_reducible refine Below.drew ?_) | (with_reducible refine Below.laid ?_ _) | (with_reducible refine Below.setCell ?_ ?_ _) | (with_reducible refine size_of ?_) | (with_reducible refine Nat.le_succ_of_le ?_) | go_size))
  have hw1 : Below w.heap.size w w1 := hq1
  have BF : Blk w1 w.heap.size 25 #[.slice (some ad) l.length cA, .slice C c.length cC] := Blk.keep (by repeat (first | exact Blk.new _ _ _ | refine Blk.alloc ?_ _)) hb1
  have BG : Blk w1 (w.heap.size + 1) 25 #[.slice (some bd) m.length cB, .slice D d.length cD] := Blk.keep (by repeat (first | (refine Blk.newAt ?_ _ _; simp; done) | refine Blk.alloc ?_ _)) hb1
  have BR : Blk w1 (w.heap.size + 2) 25 #[.slice none 0 0, .slice none 0 0] := Blk.keep (by repeat (first | (refine Blk.newAt ?_ _ _; simp; done) | refine Blk.alloc ?_ _)) hb1
  obtain ⟨⟨BG0, BG1⟩, _⟩ := BG.cells2
  have BGl := BG.lt
  go_wp2_with fail
  refine (HF2.out _ (HB.out.keep (by (repeat' (first | (with_reducible exact Below.refl _ _) | (with_reducible assumption) | (with_reducible refine Below.next ?_ (by with_reducible assumption)) | (with_reducible refine Below.drew ?_) | (with_reducible refine Below.laid ?_ _) | (with_reducible refine Below.setCell ?_ ?_ _) | (with_reducible refine size_of ?_) | (with_reducible refine Nat.le_succ_of_le ?_) | go_size)))) (HD.out.keep (by (repeat' (first | (with_reducible exact Below.refl _ _) | (with_reducible assumption) | (with_reducible refine Below.next ?_ (by with_reducible assumption)) | (with_reducible refine Below.drew ?_) | (with_reducible refine Below.laid ?_ _) | (with_reducible refine Below.setCell ?_ ?_ _) | (with_reducible refine size_of ?_) | (with_reducible refine Nat.le_succ_of_le ?_) | go_size))))).mono ?_
  rintro e w2 ⟨rfl, hb2⟩
  rw [HX2.out]
  have hq2 : Below w1.heap.size w1 w2 := by (repeat' (first | (with_reducible exact Below.refl _ _) | (with_reducible assumption) | (with_reducible refine Below.next ?_ (by with_reducible assumption)) | (with_reducible refine Below.drew ?_) | (with_reducible refine Below.laid ?_ _) | (with_reducible refine Below.setCell ?_ ?_ _) | (with_reducible refine size_of ?_) | (with_reducible refine Nat.le_succ_of_le ?_) | go_size))
  have hw2 : Below w.heap.size w w2 := Below.next hw1 hq2
  replace BF := BF.keep hq2
  try clear BF0 BF1 BFl
  obtain ⟨⟨BF0, BF1⟩, _⟩ := BF.cells2
  have BFl := BF.lt
  replace BG := BG.keep hq2
  try clear BG0 BG1 BGl
  obtain ⟨⟨BG0, BG1⟩, _⟩ := BG.cells2
  have BGl := BG.lt
  replace BR := BR.keep hb2
  have hnb2 : w.heap.size + 2 < w2.heap.size := BR.lt
  go_upto_region 9 with (fail)
  clear BF0 BF1 BFl BG0 BG1 BGl hb1 hb2 hq1 hq2 hwc h5 hwa h4
  have BN := Blk.new w2 25 #[.slice none 0 0, .slice none 0 0]
  replace BF := BF.alloc (.cells #[.slice none 0 0, .slice none 0 0] 25)
  replace BG := BG.alloc (.cells #[.slice none 0 0, .slice none 0 0] 25)
  replace BR := BR.alloc (.cells #[.slice none 0 0, .slice none 0 0] 25)
  have hw3 : Below w.heap.size w (w2.alloc (.cells #[.slice none 0 0, .slice none 0 0] 25)) := by (repeat' (first | (with_reducible exact Below.refl _ _) | (with_reducible assumption) | (with_reducible refine Below.next ?_ (by with_reducible assumption)) | (with_reducible refine Below.drew ?_) | (with_reducible refine Below.laid ?_ _) | (with_reducible refine Below.setCell ?_ ?_ _) | (with_reducible refine size_of ?_) | (with_reducible refine Nat.le_succ_of_le ?_) | go_size))
  revert BN BF BG BR hw3
  generalize World.alloc _ _ = wx
  intro BN BF BG BR hw3
  clear hw1 hw2
  generalize w2.heap.size = nb at BN hnb2 ⊢
  have hnx : nb < wx.heap.size := BN.lt
  obtain ⟨⟨BN0, BN1⟩, _⟩ := BN.cells2
  have BNl := BN.lt
  obtain ⟨⟨BF0, BF1⟩, _⟩ := BF.cells2
  have BFl := BF.lt
  obtain ⟨⟨BG0, BG1⟩, _⟩ := BG.cells2
  have BGl := BG.lt
  obtain ⟨_, n2, n3⟩ := BN.cells2
  have hw := hw3
  have hs : wx.heap.size ≤ wx.heap.size := Nat.le_refl _
  clear hw3
  go_wp2_with (at_builtin; refine wpList_appA _ rfl _ _ rfl wx.heap.size (.slice none 0 0) 0 [] rfl (World.ownsRow_nil _ _ _ _) ad cA p (by rw [← HP.out.2.2.2]; rfl) (HP.out.2.1.keep (by with_reducible exact hw)) (HP.out.2.2.1.keep (by with_reducible exact hw)) (by have := HP.out.2.2.2; omega) (Nat.le_refl _) ?_)
  intro v4 w4 hown hg
  rw [← HP.out.2.2.2] at hown
  obtain ⟨V4, k4, rfl⟩ := ownsRow_slice hown
  have hbt := But.of_grown hg
  have hwA : Below w.heap.size w w4 := hw.grown hg (by have := hw.size; omega) (fun g hg => by cases hg)
  have hsA : wx.heap.size ≤ w4.heap.size := Nat.le_trans hs hg.size
  replace BN := BN.but hbt (fun e => by cases e)
  replace BF := BF.but hbt (fun e => by cases e)
  replace BG := BG.but hbt (fun e => by cases e)
  replace BR := BR.but hbt (fun e => by cases e)
  clear hbt hg hw hs BN0 BN1 BNl BF0 BF1 BFl BG0 BG1 BGl n2 n3
  obtain ⟨⟨BN0, BN1⟩, _⟩ := BN.cells2
  have BNl := BN.lt
  obtain ⟨_, n2, n3⟩ := BN.cells2
  go_upto_region 10 with (fail)
  have GN := BN.set_ 0 (.slice V4 l.length k4)
  simp at GN
  have GF := BF.far (p := ⟨nb, 0, none⟩) (by show ¬ w.heap.size = nb; omega) (.slice V4 l.length k4)
  have GG := BG.far (p := ⟨nb, 0, none⟩) (by show ¬ w.heap.size + 1 = nb; omega) (.slice V4 l.length k4)
  have GR := BR.far (p := ⟨nb, 0, none⟩) (by show ¬ w.heap.size + 2 = nb; omega) (.slice V4 l.length k4)
  have GO := own_but hown ((But.refl (fun b => b = nb) w4).set_ (p := ⟨nb, 0, none⟩) rfl (.slice V4 l.length k4)) (fun b e hC => by have := (hown.lt b e).1; omega)
  have hwB : Below w.heap.size w (w4.setCell ⟨nb, 0, none⟩ (.slice V4 l.length k4)) := hwA.setCell (by show w.heap.size ≤ nb; omega) _
  have hsB : wx.heap.size ≤ (w4.setCell ⟨nb, 0, none⟩ (.slice V4 l.length k4)).heap.size := by simpa using hsA
  clear BN BF BG BR hown hwA hsA BN0 BN1 BNl n2 n3 
  revert GN GF GG GR GO hwB hsB 
  generalize World.setCell _ _ _ = w5
  intro BN BF BG BR hown hw hs 
  obtain ⟨⟨BN0, BN1⟩, _⟩ := BN.cells2
  have BNl := BN.lt
  obtain ⟨⟨BF0, BF1⟩, _⟩ := BF.cells2
  have BFl := BF.lt
  obtain ⟨⟨BG0, BG1⟩, _⟩ := BG.cells2
  have BGl := BG.lt
  obtain ⟨_, n2, n3⟩ := BN.cells2
  have hro : ∀ b, (Value.slice V4 l.length k4).ownBlock = some b → wx.heap.size ≤ b := fun b e => (hown.lt b e).1
  go_wp2_with (at_builtin; refine wpList_appA _ rfl _ _ rfl wx.heap.size (.slice V4 l.length k4) l.length (aCells p) rfl hown bd cB q (by rw [← HQ.out.2.2.2]; rfl) (HQ.out.2.1.keep (by with_reducible exact hw)) (HQ.out.2.2.1.keep (by with_reducible exact hw)) (by have := HQ.out.2.2.2; omega) hs ?_)
  clear hown
  intro v6 w6 hown hg
  rw [← HQ.out.2.2.2] at hown
  obtain ⟨V6, k6, rfl⟩ := ownsRow_slice hown
  have hbt := But.of_grown hg
  have hwA : Below w.heap.size w w6 := hw.grown hg (by have := hw.size; omega) (fun g hg => by have := hro _ hg; omega)
  have hsA : wx.heap.size ≤ w6.heap.size := Nat.le_trans hs hg.size
  replace BN := BN.but hbt (fun e => by have := hro _ e; omega)
  replace BF := BF.but hbt (fun e => by have := hro _ e; omega)
  replace BG := BG.but hbt (fun e => by have := hro _ e; omega)
  replace BR := BR.but hbt (fun e => by have := hro _ e; omega)
  clear hbt hg hw hs BN0 BN1 BNl BF0 BF1 BFl BG0 BG1 BGl n2 n3
  obtain ⟨⟨BN0, BN1⟩, _⟩ := BN.cells2
  have BNl := BN.lt
  obtain ⟨_, n2, n3⟩ := BN.cells2
  go_upto_region 11 with (fail)
  have GN := BN.set_ 0 (.slice V6 (l.length + m.length) k6)
  simp at GN
  have GF := BF.far (p := ⟨nb, 0, none⟩) (by show ¬ w.heap.size = nb; omega) (.slice V6 (l.length + m.length) k6)
  have GG := BG.far (p := ⟨nb, 0, none⟩) (by show ¬ w.heap.size + 1 = nb; omega) (.slice V6 (l.length + m.length) k6)
  have GR := BR.far (p := ⟨nb, 0, none⟩) (by show ¬ w.heap.size + 2 = nb; omega) (.slice V6 (l.length + m.length) k6)
  have GO := own_but hown ((But.refl (fun b => b = nb) w6).set_ (p := ⟨nb, 0, none⟩) rfl (.slice V6 (l.length + m.length) k6)) (fun b e hC => by have := (hown.lt b e).1; omega)
  have hwB : Below w.heap.size w (w6.setCell ⟨nb, 0, none⟩ (.slice V6 (l.length + m.length) k6)) := hwA.setCell (by show w.heap.size ≤ nb; omega) _
  have hsB : wx.heap.size ≤ (w6.setCell ⟨nb, 0, none⟩ (.slice V6 (l.length + m.length) k6)).heap.size := by simpa using hsA
  clear BN BF BG BR hown hwA hsA BN0 BN1 BNl n2 n3 
  revert GN GF GG GR GO hwB hsB 
  generalize World.setCell _ _ _ = w7
  intro BN BF BG BR hown hw hs 
  obtain ⟨⟨BN0, BN1⟩, _⟩ := BN.cells2
  have BNl := BN.lt
  obtain ⟨⟨BF0, BF1⟩, _⟩ := BF.cells2
  have BFl := BF.lt
  obtain ⟨⟨BG0, BG1⟩, _⟩ := BG.cells2
  have BGl := BG.lt
  obtain ⟨_, n2, n3⟩ := BN.cells2
  clear hro
  have RA := hown
  clear hown
  have hrA : ∀ b, (Value.slice V6 (l.length + m.length) k6).ownBlock = some b → wx.heap.size ≤ b ∧ b < w7.heap.size := fun b e => RA.lt b e
  go_wp2_with (at_builtin; refine wpList_appR _ rfl _ _ rfl w7.heap.size (.slice none 0 0) 0 [] rfl (World.ownsRow_nil _ _ _ _) C cC c rfl (HRC.out.keep (by with_reducible exact hw)) (by omega) (Nat.le_refl _) ?_)
  intro v8 w8 hown hg
  obtain ⟨V8, k8, rfl⟩ := ownsRow_slice hown
  have hx7 : wx.heap.size ≤ w7.heap.size := hs
  have hbt := But.of_grown hg
  have hwA : Below w.heap.size w w8 := hw.grown hg (by have := hw.size; omega) (fun g hg => by cases hg)
  have hsA : wx.heap.size ≤ w8.heap.size := Nat.le_trans hs hg.size
  replace BN := BN.but hbt (fun e => by cases e)
  replace BF := BF.but hbt (fun e => by cases e)
  replace BG := BG.but hbt (fun e => by cases e)
  replace BR := BR.but hbt (fun e => by cases e)
  replace RA := own_but RA hbt (fun b e hC => by cases hC)
  clear hbt hg hw hs BN0 BN1 BNl BF0 BF1 BFl BG0 BG1 BGl n2 n3
  obtain ⟨⟨BN0, BN1⟩, _⟩ := BN.cells2
  have BNl := BN.lt
  obtain ⟨_, n2, n3⟩ := BN.cells2
  go_upto_region 12 with (fail)
  have GN := BN.set_ 1 (.slice V8 c.length k8)
  simp at GN
  have GF := BF.far (p := ⟨nb, 1, none⟩) (by show ¬ w.heap.size = nb; omega) (.slice V8 c.length k8)
  have GG := BG.far (p := ⟨nb, 1, none⟩) (by show ¬ w.heap.size + 1 = nb; omega) (.slice V8 c.length k8)
  have GR := BR.far (p := ⟨nb, 1, none⟩) (by show ¬ w.heap.size + 2 = nb; omega) (.slice V8 c.length k8)
  have GO := own_but hown ((But.refl (fun b => b = nb) w8).set_ (p := ⟨nb, 1, none⟩) rfl (.slice V8 c.length k8)) (fun b e hC => by have := (hown.lt b e).1; omega)
  have hwB : Below w.heap.size w (w8.setCell ⟨nb, 1, none⟩ (.slice V8 c.length k8)) := hwA.setCell (by show w.heap.size ≤ nb; omega) _
  have hsB : wx.heap.size ≤ (w8.setCell ⟨nb, 1, none⟩ (.slice V8 c.length k8)).heap.size := by simpa using hsA
  have QRA := own_but RA ((But.refl (fun b => b = nb) w8).set_ (p := ⟨nb, 1, none⟩) rfl (.slice V8 c.length k8)) (fun b e hC => by have := (RA.lt b e).1; omega)
  clear BN BF BG BR hown hwA hsA BN0 BN1 BNl n2 n3 RA
  revert GN GF GG GR GO hwB hsB QRA
  generalize World.setCell _ _ _ = w9
  intro BN BF BG BR hown hw hs RA
  obtain ⟨⟨BN0, BN1⟩, _⟩ := BN.cells2
  have BNl := BN.lt
  obtain ⟨⟨BF0, BF1⟩, _⟩ := BF.cells2
  have BFl := BF.lt
  obtain ⟨⟨BG0, BG1⟩, _⟩ := BG.cells2
  have BGl := BG.lt
  obtain ⟨_, n2, n3⟩ := BN.cells2
  have hro : ∀ b, (Value.slice V8 c.length k8).ownBlock = some b → w7.heap.size ≤ b := fun b e => (hown.lt b e).1
  have h79 : w7.heap.size ≤ w9.heap.size := (by obtain ⟨_, _, _, _, hh1, hh2, _⟩ := own_cons hown (by omega); have := hh2.lt; omega)
  have HBB := Lib.hid (And.intro BN (And.intro BF (And.intro BG (And.intro BR (And.intro RA hown)))))
  clear hro BN BF BG BR RA hown n2 n3 BN0 BN1 BNl
  have BF := HBB.out.2.1
  have BG := HBB.out.2.2.1
  go_wp2
  go_loopw [8] (fun i wr => ∃ (k : Nat) (VC : Option Addr) (kc : Nat), k ≤ d.length ∧ i = .int .i64 k ∧ Below w.heap.size w wr ∧ wx.heap.size ≤ wr.heap.size ∧ w7.heap.size ≤ wr.heap.size ∧ Blk wr nb 25 #[(.slice V6 (l.length + m.length) k6), .slice VC (c.length + k) kc] ∧ Blk wr w.heap.size 25 #[.slice (some ad) l.length cA, .slice C c.length cC] ∧ Blk wr (w.heap.size + 1) 25 #[.slice (some bd) m.length cB, .slice D d.length cD] ∧ Blk wr (w.heap.size + 2) 25 #[.slice none 0 0, .slice none 0 0] ∧ wr.ownsRow wx.heap.size 30 4 (.slice V6 (l.length + m.length) k6) (l.length + m.length) (aCells p ++ aCells q) ∧ wr.ownsRow w7.heap.size 3 1 (.slice VC (c.length + k) kc) (c.length + k) ((c ++ (d.take k).map (Venn.sh l.length)).map (Value.int .i64))) (fun i _ => d.length - (intOf i).toNat)
  case atStart => exact ⟨0, V8, k8, Nat.zero_le _, rfl, hw, hs, h79, HBB.out.1, HBB.out.2.1, HBB.out.2.2.1, HBB.out.2.2.2.1, HBB.out.2.2.2.2.1, by simpa using HBB.out.2.2.2.2.2⟩
  case round =>
    clear hw hs h79 HBB BF BG BF0 BF1 BFl BG0 BG1 BGl
    obtain ⟨k, VC, kc, hk, rfl, hw, hs, hs7, BN, BF, BG, BR, RA, hown⟩ := hrel
    obtain ⟨wo, rfl⟩ : ∃ wo : World, wo = wr := ⟨_, rfl⟩
    have HOC := Lib.hid hown
    have hro : ∀ b, (Value.slice VC (c.length + k) kc).ownBlock = some b → w7.heap.size ≤ b := fun b e => (hown.lt b e).1
    clear hown
    obtain ⟨⟨BN0, BN1⟩, _⟩ := BN.cells2
    have BNl := BN.lt
    obtain ⟨⟨BF0, BF1⟩, _⟩ := BF.cells2
    have BFl := BF.lt
    obtain ⟨⟨BG0, BG1⟩, _⟩ := BG.cells2
    have BGl := BG.lt
    obtain ⟨_, n2, n3⟩ := BN.cells2
    by_cases hlt : k < d.length
    · obtain ⟨dd, rfl, hcell0⟩ := HRD.out.int hlt
      have hcell := cell_keep hw hcell0
      have HT := Lib.hid (List.take_succ_eq_append_getElem hlt)
      have hok := HOKD.out _ (List.getElem_mem hlt)
      generalize d[k] = s at hcell0 hcell HT hok
      have hk1 : (k : Int) < (d.length : Int) := by omega
      have hk0 : (0 : Int) ≤ (k : Int) := by omega
      have hcs : (s < 10 ∧ 0 ≤ s ∧ Venn.sh l.length s = s + (l.length : Int)) ∨ (¬ s < 10 ∧ Venn.sh l.length s = s) := by
        rcases Venn.codeOk_cases hok with h | h | h | h | h
        · exact .inr ⟨by omega, by rw [Venn.sh, if_neg (by omega)]⟩
        · exact .inr ⟨by omega, by rw [Venn.sh, if_neg (by omega)]⟩
        · exact .inr ⟨by omega, by rw [Venn.sh, if_neg (by omega)]⟩
        · exact .inr ⟨by omega, by rw [Venn.sh, if_neg (by omega)]⟩
        · exact .inl ⟨by omega, h.1, by rw [Venn.sh, if_pos h.2.1]⟩
      clear hcell0 hok
      rcases hcs with ⟨h10, hs0, hsh⟩ | ⟨h10, hsh⟩
      · have hwr : IntKind.i64.wrap (s + (l.length : Int)) = s + (l.length : Int) := IntWalk.i64_in _ (by omega)
        have OA := HOC.out.alloc (.cells #[.int .i64 (s + (l.length : Int))] 3)
        go_upto_region 18 with (fail)
        go_wp2_with (at_builtin; refine wpList_app1 _ rfl _ _ rfl w7.heap.size (.slice VC (c.length + k) kc) (c.length + k) _ rfl OA wo.heap.size 1 (s + (l.length : Int)) rfl ((Blk.new wo 3 #[.int .i64 (s + (l.length : Int))]).cell 0) (by omega) (by simp; omega) ?_)
        intro v10 w10 hown hg
        obtain ⟨V10, k10, rfl⟩ := ownsRow_slice hown
        replace BN := BN.alloc (.cells #[.int .i64 (s + (l.length : Int))] 3)
        replace BF := BF.alloc (.cells #[.int .i64 (s + (l.length : Int))] 3)
        replace BG := BG.alloc (.cells #[.int .i64 (s + (l.length : Int))] 3)
        replace BR := BR.alloc (.cells #[.int .i64 (s + (l.length : Int))] 3)
        replace RA := RA.alloc (.cells #[.int .i64 (s + (l.length : Int))] 3)
        replace hw := Below.laid hw (.cells #[.int .i64 (s + (l.length : Int))] 3)
        replace hs : wx.heap.size ≤ (wo.alloc (.cells #[.int .i64 (s + (l.length : Int))] 3)).heap.size := by simp; omega
        clear OA
        have hbt := But.of_grown hg
        have hwA : Below w.heap.size w w10 := hw.grown hg (by have := hw.size; omega) (fun g hg => by have := hro _ hg; omega)
        have hsA : wx.heap.size ≤ w10.heap.size := Nat.le_trans hs hg.size
        replace BN := BN.but hbt (fun e => by have := hro _ e; omega)
        replace BF := BF.but hbt (fun e => by have := hro _ e; omega)
        replace BG := BG.but hbt (fun e => by have := hro _ e; omega)
        replace BR := BR.but hbt (fun e => by have := hro _ e; omega)
        replace RA := own_but RA hbt (fun b e hC => by have h1 := hrA b e; have h2 := hro b hC; omega)
        clear hbt hg hw hs BN0 BN1 BNl BF0 BF1 BFl BG0 BG1 BGl n2 n3
        obtain ⟨⟨BN0, BN1⟩, _⟩ := BN.cells2
        have BNl := BN.lt
        obtain ⟨_, n2, n3⟩ := BN.cells2
        go_upto_region 14 with (fail)
        have GN := BN.set_ 1 (.slice V10 (c.length + k + 1) k10)
        simp at GN
        have GF := BF.far (p := ⟨nb, 1, none⟩) (by show ¬ w.heap.size = nb; omega) (.slice V10 (c.length + k + 1) k10)
        have GG := BG.far (p := ⟨nb, 1, none⟩) (by show ¬ w.heap.size + 1 = nb; omega) (.slice V10 (c.length + k + 1) k10)
        have GR := BR.far (p := ⟨nb, 1, none⟩) (by show ¬ w.heap.size + 2 = nb; omega) (.slice V10 (c.length + k + 1) k10)
        have GO := own_but hown ((But.refl (fun b => b = nb) w10).set_ (p := ⟨nb, 1, none⟩) rfl (.slice V10 (c.length + k + 1) k10)) (fun b e hC => by have := (hown.lt b e).1; omega)
        have hwB : Below w.heap.size w (w10.setCell ⟨nb, 1, none⟩ (.slice V10 (c.length + k + 1) k10)) := hwA.setCell (by show w.heap.size ≤ nb; omega) _
        have hsB : wx.heap.size ≤ (w10.setCell ⟨nb, 1, none⟩ (.slice V10 (c.length + k + 1) k10)).heap.size := by simpa using hsA
        have QRA := own_but RA ((But.refl (fun b => b = nb) w10).set_ (p := ⟨nb, 1, none⟩) rfl (.slice V10 (c.length + k + 1) k10)) (fun b e hC => by have := (RA.lt b e).1; omega)
        clear BN BF BG BR hown hwA hsA BN0 BN1 BNl n2 n3 RA
        revert GN GF GG GR GO hwB hsB QRA
        generalize World.setCell _ _ _ = w11
        intro BN BF BG BR hown hw hs RA
        obtain ⟨⟨BN0, BN1⟩, _⟩ := BN.cells2
        have BNl := BN.lt
        obtain ⟨⟨BF0, BF1⟩, _⟩ := BF.cells2
        have BFl := BF.lt
        obtain ⟨⟨BG0, BG1⟩, _⟩ := BG.cells2
        have BGl := BG.lt
        obtain ⟨_, n2, n3⟩ := BN.cells2
        have h711 : w7.heap.size ≤ w11.heap.size := (by obtain ⟨_, _, _, _, hh1, hh2, _⟩ := own_cons hown (by omega); have := hh2.lt; omega)
        have HOW := Lib.hid (show w11.ownsRow w7.heap.size 3 1 (.slice V10 (c.length + (k + 1)) k10) (c.length + (k + 1)) ((c ++ (d.take (k + 1)).map (Venn.sh l.length)).map (Value.int .i64)) by
          have e : (c ++ (d.take (k + 1)).map (Venn.sh l.length)).map (Value.int .i64) = (c ++ (d.take k).map (Venn.sh l.length)).map (Value.int .i64) ++ [.int .i64 (s + (l.length : Int))] := by
            rw [HT.out]
            simp [hsh]
          rw [e]
          simpa [Nat.add_assoc] using hown)
        clear hown hsh
        go_wp2
        go_roundw
        case rel => exact ⟨k + 1, V10, k10, by omega, by go_num, hw, hs, h711, BN, BF, BG, BR, RA, HOW.out⟩
        case measure => simp [intOf]; omega
      · have hdum : True := True.intro
        have OA := HOC.out.alloc (.cells #[.int .i64 s] 3)
        go_upto_region 18 with (fail)
        go_wp2_with (at_builtin; refine wpList_app1 _ rfl _ _ rfl w7.heap.size (.slice VC (c.length + k) kc) (c.length + k) _ rfl OA wo.heap.size 1 s rfl ((Blk.new wo 3 #[.int .i64 s]).cell 0) (by omega) (by simp; omega) ?_)
        intro v10 w10 hown hg
        obtain ⟨V10, k10, rfl⟩ := ownsRow_slice hown
        replace BN := BN.alloc (.cells #[.int .i64 s] 3)
        replace BF := BF.alloc (.cells #[.int .i64 s] 3)
        replace BG := BG.alloc (.cells #[.int .i64 s] 3)
        replace BR := BR.alloc (.cells #[.int .i64 s] 3)
        replace RA := RA.alloc (.cells #[.int .i64 s] 3)
        replace hw := Below.laid hw (.cells #[.int .i64 s] 3)
        replace hs : wx.heap.size ≤ (wo.alloc (.cells #[.int .i64 s] 3)).heap.size := by simp; omega
        clear OA
        have hbt := But.of_grown hg
        have hwA : Below w.heap.size w w10 := hw.grown hg (by have := hw.size; omega) (fun g hg => by have := hro _ hg; omega)
        have hsA : wx.heap.size ≤ w10.heap.size := Nat.le_trans hs hg.size
        replace BN := BN.but hbt (fun e => by have := hro _ e; omega)
        replace BF := BF.but hbt (fun e => by have := hro _ e; omega)
        replace BG := BG.but hbt (fun e => by have := hro _ e; omega)
        replace BR := BR.but hbt (fun e => by have := hro _ e; omega)
        replace RA := own_but RA hbt (fun b e hC => by have h1 := hrA b e; have h2 := hro b hC; omega)
        clear hbt hg hw hs BN0 BN1 BNl BF0 BF1 BFl BG0 BG1 BGl n2 n3
        obtain ⟨⟨BN0, BN1⟩, _⟩ := BN.cells2
        have BNl := BN.lt
        obtain ⟨_, n2, n3⟩ := BN.cells2
        go_upto_region 14 with (fail)
        have GN := BN.set_ 1 (.slice V10 (c.length + k + 1) k10)
        simp at GN
        have GF := BF.far (p := ⟨nb, 1, none⟩) (by show ¬ w.heap.size = nb; omega) (.slice V10 (c.length + k + 1) k10)
        have GG := BG.far (p := ⟨nb, 1, none⟩) (by show ¬ w.heap.size + 1 = nb; omega) (.slice V10 (c.length + k + 1) k10)
        have GR := BR.far (p := ⟨nb, 1, none⟩) (by show ¬ w.heap.size + 2 = nb; omega) (.slice V10 (c.length + k + 1) k10)
        have GO := own_but hown ((But.refl (fun b => b = nb) w10).set_ (p := ⟨nb, 1, none⟩) rfl (.slice V10 (c.length + k + 1) k10)) (fun b e hC => by have := (hown.lt b e).1; omega)
        have hwB : Below w.heap.size w (w10.setCell ⟨nb, 1, none⟩ (.slice V10 (c.length + k + 1) k10)) := hwA.setCell (by show w.heap.size ≤ nb; omega) _
        have hsB : wx.heap.size ≤ (w10.setCell ⟨nb, 1, none⟩ (.slice V10 (c.length + k + 1) k10)).heap.size := by simpa using hsA
        have QRA := own_but RA ((But.refl (fun b => b = nb) w10).set_ (p := ⟨nb, 1, none⟩) rfl (.slice V10 (c.length + k + 1) k10)) (fun b e hC => by have := (RA.lt b e).1; omega)
        clear BN BF BG BR hown hwA hsA BN0 BN1 BNl n2 n3 RA
        revert GN GF GG GR GO hwB hsB QRA
        generalize World.setCell _ _ _ = w11
        intro BN BF BG BR hown hw hs RA
        obtain ⟨⟨BN0, BN1⟩, _⟩ := BN.cells2
        have BNl := BN.lt
        obtain ⟨⟨BF0, BF1⟩, _⟩ := BF.cells2
        have BFl := BF.lt
        obtain ⟨⟨BG0, BG1⟩, _⟩ := BG.cells2
        have BGl := BG.lt
        obtain ⟨_, n2, n3⟩ := BN.cells2
        have h711 : w7.heap.size ≤ w11.heap.size := (by obtain ⟨_, _, _, _, hh1, hh2, _⟩ := own_cons hown (by omega); have := hh2.lt; omega)
        have HOW := Lib.hid (show w11.ownsRow w7.heap.size 3 1 (.slice V10 (c.length + (k + 1)) k10) (c.length + (k + 1)) ((c ++ (d.take (k + 1)).map (Venn.sh l.length)).map (Value.int .i64)) by
          have e : (c ++ (d.take (k + 1)).map (Venn.sh l.length)).map (Value.int .i64) = (c ++ (d.take k).map (Venn.sh l.length)).map (Value.int .i64) ++ [.int .i64 s] := by
            rw [HT.out]
            simp [hsh]
          rw [e]
          simpa [Nat.add_assoc] using hown)
        clear hown hsh
        go_wp2
        go_roundw
        case rel => exact ⟨k + 1, V10, k10, by omega, by go_num, hw, hs, h711, BN, BF, BG, BR, RA, HOW.out⟩
        case measure => simp [intOf]; omega
    · obtain rfl : k = d.length := by omega
      have OA := HOC.out.alloc (.cells #[.int .i64 10] 3)
      go_upto_region 19 with (fail)
      go_wp2_with (at_builtin; refine wpList_app1 _ rfl _ _ rfl w7.heap.size (.slice VC (c.length + d.length) kc) (c.length + d.length) _ rfl OA wo.heap.size 1 10 rfl ((Blk.new wo 3 #[.int .i64 10]).cell 0) (by omega) (by simp; omega) ?_)
      intro v10 w10 hown hg
      obtain ⟨V10, k10, rfl⟩ := ownsRow_slice hown
      replace BN := BN.alloc (.cells #[.int .i64 10] 3)
      replace BF := BF.alloc (.cells #[.int .i64 10] 3)
      replace BG := BG.alloc (.cells #[.int .i64 10] 3)
      replace BR := BR.alloc (.cells #[.int .i64 10] 3)
      replace RA := RA.alloc (.cells #[.int .i64 10] 3)
      replace hw := Below.laid hw (.cells #[.int .i64 10] 3)
      replace hs : wx.heap.size ≤ (wo.alloc (.cells #[.int .i64 10] 3)).heap.size := by simp; omega
      clear OA
      have hbt := But.of_grown hg
      have hwA : Below w.heap.size w w10 := hw.grown hg (by have := hw.size; omega) (fun g hg => by have := hro _ hg; omega)
      have hsA : wx.heap.size ≤ w10.heap.size := Nat.le_trans hs hg.size
      replace BN := BN.but hbt (fun e => by have := hro _ e; omega)
      replace BF := BF.but hbt (fun e => by have := hro _ e; omega)
      replace BG := BG.but hbt (fun e => by have := hro _ e; omega)
      replace BR := BR.but hbt (fun e => by have := hro _ e; omega)
      replace RA := own_but RA hbt (fun b e hC => by have h1 := hrA b e; have h2 := hro b hC; omega)
      clear hbt hg hw hs BN0 BN1 BNl BF0 BF1 BFl BG0 BG1 BGl n2 n3
      obtain ⟨⟨BN0, BN1⟩, _⟩ := BN.cells2
      have BNl := BN.lt
      obtain ⟨_, n2, n3⟩ := BN.cells2
      go_upto_region 20 with (fail)
      have GN := BN.set_ 1 (.slice V10 (c.length + d.length + 1) k10)
      simp at GN
      have GF := BF.far (p := ⟨nb, 1, none⟩) (by show ¬ w.heap.size = nb; omega) (.slice V10 (c.length + d.length + 1) k10)
      have GG := BG.far (p := ⟨nb, 1, none⟩) (by show ¬ w.heap.size + 1 = nb; omega) (.slice V10 (c.length + d.length + 1) k10)
      have GR := BR.far (p := ⟨nb, 1, none⟩) (by show ¬ w.heap.size + 2 = nb; omega) (.slice V10 (c.length + d.length + 1) k10)
      have GO := own_but hown ((But.refl (fun b => b = nb) w10).set_ (p := ⟨nb, 1, none⟩) rfl (.slice V10 (c.length + d.length + 1) k10)) (fun b e hC => by have := (hown.lt b e).1; omega)
      have hwB : Below w.heap.size w (w10.setCell ⟨nb, 1, none⟩ (.slice V10 (c.length + d.length + 1) k10)) := hwA.setCell (by show w.heap.size ≤ nb; omega) _
      have hsB : wx.heap.size ≤ (w10.setCell ⟨nb, 1, none⟩ (.slice V10 (c.length + d.length + 1) k10)).heap.size := by simpa using hsA
      have QRA := own_but RA ((But.refl (fun b => b = nb) w10).set_ (p := ⟨nb, 1, none⟩) rfl (.slice V10 (c.length + d.length + 1) k10)) (fun b e hC => by have := (RA.lt b e).1; omega)
      clear BN BF BG BR hown hwA hsA BN0 BN1 BNl n2 n3 RA
      revert GN GF GG GR GO hwB hsB QRA
      generalize World.setCell _ _ _ = w11
      intro BN BF BG BR hown hw hs RA
      obtain ⟨⟨BN0, BN1⟩, _⟩ := BN.cells2
      have BNl := BN.lt
      obtain ⟨⟨BF0, BF1⟩, _⟩ := BF.cells2
      have BFl := BF.lt
      obtain ⟨⟨BG0, BG1⟩, _⟩ := BG.cells2
      have BGl := BG.lt
      obtain ⟨_, n2, n3⟩ := BN.cells2
      obtain ⟨⟨r0, r1⟩, r2, r3⟩ := BR.cells2
      have hlR := BR.lt
      have GL := below_set2 hw (show w.heap.size ≤ w.heap.size + 2 by omega) (.slice V6 (l.length + m.length) k6) (.slice V10 (c.length + d.length + 1) k10)
      have GS := BR.set2 (.slice V6 (l.length + m.length) k6) (.slice V10 (c.length + d.length + 1) k10)
      have GB : But (fun b => b = w.heap.size + 2) w11 _ := ((But.refl (fun b => b = w.heap.size + 2) w11).set_ (p := ⟨w.heap.size + 2, 0, none⟩) rfl (.slice V6 (l.length + m.length) k6)).set_ (p := ⟨w.heap.size + 2, 1, none⟩) rfl (.slice V10 (c.length + d.length + 1) k10)
      have GA := own_but RA GB (fun b e hC => by have := (RA.lt b e).1; omega)
      have hown2 : w11.ownsRow w7.heap.size 3 1 (.slice V10 (c.length + d.length + 1) k10) (c.length + d.length + 1) ((c ++ (d.take d.length).map (Venn.sh l.length)).map (Value.int .i64) ++ [.int .i64 10]) := by simpa using hown
      have GC := own_but hown2 GB (fun b e hC => by have := (hown.lt b e).1; omega)
      have HGG := Lib.hid (And.intro GL (And.intro GS (And.intro GA GC)))
      clear GB GL GS GA GC HOC RA hown hown2 hw hs BF BG HF1 HF2 HX1 HX2 HRC HRD HOKD hs7 hrA hro hx7 hk hlt BF0 BF1 BFl BG0 BG1 BGl hcd
      go_cut [5] (fun s5 wz => s5 = .int .i64 0 ∧ Below w.heap.size w wz ∧ Blk wz (w.heap.size + 2) 25 #[(.slice V6 (l.length + m.length) k6), .slice V10 (c.length + d.length + 1) k10] ∧ wz.ownsRow wx.heap.size 30 4 (.slice V6 (l.length + m.length) k6) (l.length + m.length) (aCells p ++ aCells q) ∧ wz.ownsRow w7.heap.size 3 1 (.slice V10 (c.length + d.length + 1) k10) (c.length + d.length + 1) ((c ++ (d.take d.length).map (Venn.sh l.length)).map (Value.int .i64) ++ [.int .i64 10]))
      case first =>
        go_wp2
        go_meet
        case rel => exact ⟨rfl, HGG.out⟩
      case rest =>
      obtain ⟨rfl, GL, GS, GA, GC⟩ := hcut
      clear HGG r0 r1 r2 r3 n2 n3 BN0 BN1 BN BR
      refine ‹∀ (a : Act) (w_1 : World), Code.wp Tryd.prog Code.ret (bodyPost Tryd.prog Tryd.f31 (RefPost V E w)) a w_1 → _› _ _ ?_
      refine wp_ret ?_
      obtain ⟨Wf, rfl⟩ : ∃ Wf : World, Wf = wc := ⟨_, rfl⟩
      obtain ⟨⟨e0, e1⟩, _⟩ := GS.cells2
      refine bodyPost_ret (v := .tuple #[.agg #[(.slice V6 (l.length + m.length) k6), .slice V10 (c.length + d.length + 1) k10], .int .i64 0]) (by simp [results, Tryd.results31, go_sem, e0, e1]) rfl ?_
      rw [HVV.out, HEE.out]
      have hlen : (c ++ d.map (Venn.sh l.length) ++ [10]).length = c.length + d.length + 1 := by simp [Nat.add_assoc]
      have hlen2 : (l ++ m).length = l.length + m.length := List.length_append
      refine ⟨V6, k6, V10, k10, ?_, GL, ?_, ?_⟩
      · show _ = Ending.returned (.tuple #[.agg #[.slice V6 (l ++ m).length k6, .slice V10 (c ++ d.map (Venn.sh l.length) ++ [10]).length k10], .int .i64 0])
        rw [hlen]
        rw [hlen2]
      · show IsAtoms Wf (.slice V6 (l ++ m).length k6) (l ++ m)
        have := atoms_of_own (p := p ++ q) (by rw [aCells_app]; exact GA) (fun x hx => by
          rcases List.mem_append.1 hx with hx | hx
          · exact HP.out.2.2.1.keep GL x hx
          · exact HQ.out.2.2.1.keep GL x hx)
        rw [List.map_append, HP.out.1, HQ.out.1] at this
        rw [hlen2]
        exact this
      · show IsInts Wf (.slice V10 (c ++ d.map (Venn.sh l.length) ++ [10]).length k10) (c ++ d.map (Venn.sh l.length) ++ [10])
        rw [hlen]
        rw [List.take_length] at GC
        have h3 := IsInts.of_own (l := c ++ d.map (Venn.sh l.length) ++ [10]) (by rw [List.map_append]; exact GC)
        exact h3
end Go.Proofs.YtcecbpbpknphjaaDoor
