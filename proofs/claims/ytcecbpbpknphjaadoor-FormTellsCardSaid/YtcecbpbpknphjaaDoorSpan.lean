/-
  THE WALKS of span.Of and span.Exact.
-/
import Derived.Test.YtcecbpbpknphjaaDoorFitAll
import Derived.Test.YtcecbpbpknphjaaDoorFormTrue
import Derived.Test.YtcecbpbpknphjaaDoorSetsT
import Derived.Test.YtcecbpbpknphjaaDoorVennP2
namespace Go.Proofs.YtcecbpbpknphjaaDoor
open Go.RowKit Go.Shelf
attribute [local go_sem] Oper.semAt_some

theorem Blk.cells2 {w : World} {g : Nat} {t : TypeId} {x0 x1 : Value} (h : Blk w g t #[x0, x1]) :
    (w.cell? ⟨g, 0, none⟩ = some x0 ∧ w.cell? ⟨g, 1, none⟩ = some x1) ∧ (w.frozen? ⟨g, 0, none⟩ = false ∧ w.frozen? ⟨g, 1, none⟩ = false) :=
  ⟨⟨h.cell 0, h.cell 1⟩, h.frozen 0, h.frozen 1⟩
theorem Blk.set2 {w : World} {g : Nat} {t : TypeId} {y0 y1 : Value} (h : Blk w g t #[y0, y1]) (x0 x1 : Value) : Blk ((w.setCell ⟨g, 0, none⟩ x0).setCell ⟨g, 1, none⟩ x1) g t #[x0, x1] := by
  have := (h.set_ 0 x0).set_ 1 x1
  have e : ((#[y0, y1].setIfInBounds 0 x0).setIfInBounds 1 x1) = #[x0, x1] := by simp
  rw [e] at this
  exact this
theorem below_set2 {B : Nat} {a w : World} (h : Below B a w) {g : Nat} (hg : B ≤ g) (x0 x1 : Value) : Below B a ((w.setCell ⟨g, 0, none⟩ x0).setCell ⟨g, 1, none⟩ x1) :=
  (h.setCell (p := ⟨g, 0, none⟩) hg _).setCell (p := ⟨g, 1, none⟩) hg _
theorem boxesSpan {w w1 : World} {f0 f1 s : Value} (hb1 : Below (((w.alloc (.cells #[f0, f1] 25)).alloc (.cells #[s] 23)).alloc (.cells #[.int .i64 0, .int .i64 0] 49)).heap.size (((w.alloc (.cells #[f0, f1] 25)).alloc (.cells #[s] 23)).alloc (.cells #[.int .i64 0, .int .i64 0] 49)) w1) :
    Blk w1 w.heap.size 25 #[f0, f1] ∧ Blk w1 (w.heap.size + 1) 23 #[s] ∧ Blk w1 (w.heap.size + 1 + 1) 49 #[.int .i64 0, .int .i64 0] :=
  ⟨(((Blk.new _ _ _).alloc _).alloc _).keep hb1, ((Blk.newAt (by simp) _ _).alloc _).keep hb1, (Blk.newAt (by simp) _ _).keep hb1⟩
theorem blk_eq2 {w : World} {g : Nat} {t : TypeId} {a b a' b' : Int} (h : Blk w g t #[.int .i64 a, .int .i64 b]) (h1 : a = a') (h2 : b = b') : Blk w g t #[.int .i64 a', .int .i64 b'] := by rw [← h1, ← h2]; exact h
theorem below_put {B : Nat} {a W : World} (h : Below B a W) {D : Nat} (hD : B ≤ D) (o : Obj) : Below B a (W.putObj D o) :=
  ⟨h.os, h.tape, h.output, by rw [size_putObj]; exact h.size, fun k hk => (World.putObj_heap_other (by omega)).trans (h.block k hk)⟩
theorem spanChk_parts {f : Venn.Form} {t : List Int} {u : Int} (h1 : Venn.formChk f = 0) (h2 : Venn.termChk t = 0) (h3 : Venn.things u = true) :
    Venn.spanChk f t u = if (Venn.spanGo f t u (Venn.allC u)).2 < 0 then 5 else 0 := by
  rw [Venn.spanChk, if_pos h1, if_pos h2, if_pos h3]
def spanVv (f : Venn.Form) (t : List Int) (u : Int) : Value := .tuple #[.agg #[.int .i64 (Venn.spanV f t u).1, .int .i64 (Venn.spanV f t u).2], errV (Venn.spanChk f t u)]
theorem spanVv_bad {f : Venn.Form} {t : List Int} {u e : Int} (h : Venn.spanChk f t u = e) (he : e ≠ 0) : spanVv f t u = .tuple #[.agg #[.int .i64 0, .int .i64 0], .iface 97 (.int .i64 e)] := by
  rw [spanVv, Venn.spanV, if_neg (by rw [h]; exact he), h, errV_ne he]
theorem wrap1 {u : Int} (hu : Venn.things u = true) : IntKind.i64.wrap (u + 1) = u + 1 := by
  simp only [Venn.things, Bool.and_eq_true, decide_eq_true_eq] at hu
  exact IntWalk.i64_in _ (by omega)

set_option maxHeartbeats 4000000 in
set_option maxRecDepth 100000 in
theorem span_Of (sa sc tv : Value) (l : List Venn.Atom) (c t : List Int) (u : Int) (w : World) (ha : IsAtoms w sa l) (hc : IsInts w sc c) (ht : IsInts w tv t) (hk : KindsOk w) :
    Calls Tryd.prog 26 #[.agg #[sa, sc], tv, .int .i64 u] w (Keeps (spanVv ⟨l, c⟩ t u) w) := by
  obtain ⟨A, cA, rfl, hra⟩ := ha
  obtain ⟨C, cC, rfl, hrc⟩ := hc
  obtain ⟨T, cT, rfl, hrt⟩ := ht
  have HA := Lib.hid (show IsAtoms w (.slice A l.length cA) l from ⟨A, cA, rfl, hra⟩)
  have HC := Lib.hid (show IsInts w (.slice C c.length cC) c from ⟨C, cC, rfl, hrc⟩)
  have HT := Lib.hid (show IsInts w (.slice T t.length cT) t from ⟨T, cT, rfl, hrt⟩)
  have HK := Lib.hid hk
  clear hra hrc hrt hk
  by_cases h1 : ¬ Venn.formChk ⟨l, c⟩ = 0
  · have HX := Lib.hid (errV_ne h1)
    have HV := Lib.hid (spanVv_bad (show Venn.spanChk ⟨l, c⟩ t u = Venn.formChk ⟨l, c⟩ by rw [Venn.spanChk, if_neg h1]) h1)
    clear h1
    rw [HV.out]
    refine (callsIn_wide (n := 4)).1 ?_
    refine callsIn_of_wp_marks Tryd.func26 rfl trivial ?_ rfl
    simp only [Tryd.ntmps26, List.size_toArray, List.length_cons, List.length_nil, Nat.reduceAdd, Nat.reduceSub, Array.replicate_succ, Array.replicate_zero, List.push_toArray, List.append_toArray, List.nil_append, List.cons_append]
    gi_wp2_with (refine ⟨trivial, ?_⟩; gi_at_call 28; refine (callsIn_wide.2 (form_Check _ _ l c _ (HA.out.keep (by (repeat' (first | (with_reducible exact Below.refl _ _) | (with_reducible assumption) | (with_reducible refine Below.next ?_ (by with_reducible assumption)) | (with_reducible refine Below.drew ?_) | (with_reducible refine Below.laid ?_ _) | (with_reducible refine Below.setCell ?_ ?_ _) | (with_reducible refine size_of ?_) | (with_reducible refine Nat.le_succ_of_le ?_) | go_size)))) (HC.out.keep (by (repeat' (first | (with_reducible exact Below.refl _ _) | (with_reducible assumption) | (with_reducible refine Below.next ?_ (by with_reducible assumption)) | (with_reducible refine Below.drew ?_) | (with_reducible refine Below.laid ?_ _) | (with_reducible refine Below.setCell ?_ ?_ _) | (with_reducible refine size_of ?_) | (with_reducible refine Nat.le_succ_of_le ?_) | go_size)))) (HK.out.keep (by (repeat' (first | (with_reducible exact Below.refl _ _) | (with_reducible assumption) | (with_reducible refine Below.next ?_ (by with_reducible assumption)) | (with_reducible refine Below.drew ?_) | (with_reducible refine Below.laid ?_ _) | (with_reducible refine Below.setCell ?_ ?_ _) | (with_reducible refine size_of ?_) | (with_reducible refine Nat.le_succ_of_le ?_) | go_size)))))).mono ?_; rintro e w1 ⟨rfl, hb1⟩; rw [HX.out]; obtain ⟨B0, B1, B2⟩ := boxesSpan hb1; obtain ⟨⟨d0, d1⟩, f0, f1⟩ := B2.cells2)
    have G := B2.set2 (.int .i64 0) (.int .i64 0)
    have hbf := below_set2 (show Below w.heap.size w w1 by (repeat' (first | (with_reducible exact Below.refl _ _) | (with_reducible assumption) | (with_reducible refine Below.next ?_ (by with_reducible assumption)) | (with_reducible refine Below.drew ?_) | (with_reducible refine Below.laid ?_ _) | (with_reducible refine Below.setCell ?_ ?_ _) | (with_reducible refine size_of ?_) | (with_reducible refine Nat.le_succ_of_le ?_) | go_size))) (show w.heap.size ≤ w.heap.size + 1 + 1 by omega) (.int .i64 0) (.int .i64 0)
    revert G hbf
    generalize World.setCell _ _ _ = Wf
    intro G hbf
    obtain ⟨⟨e0, e1⟩, _⟩ := G.cells2
    exact leave_none (v := .tuple #[.agg #[.int .i64 0, .int .i64 0], .iface 97 (.int .i64 (Venn.formChk ⟨l, c⟩))]) rfl (by simp [results, Tryd.results26, go_sem, e0, e1]) ⟨rfl, hbf⟩
  replace h1 := Decidable.not_not.1 h1
  have HX1 := Lib.hid (errV_zero h1)
  by_cases h2 : ¬ Venn.termChk t = 0
  · have HX := Lib.hid (errV_ne h2)
    have HV := Lib.hid (spanVv_bad (show Venn.spanChk ⟨l, c⟩ t u = Venn.termChk t by rw [Venn.spanChk, if_pos h1, if_neg h2]) h2)
    clear h1 h2
    rw [HV.out]
    refine (callsIn_wide (n := 4)).1 ?_
    refine callsIn_of_wp_marks Tryd.func26 rfl trivial ?_ rfl
    simp only [Tryd.ntmps26, List.size_toArray, List.length_cons, List.length_nil, Nat.reduceAdd, Nat.reduceSub, Array.replicate_succ, Array.replicate_zero, List.push_toArray, List.append_toArray, List.nil_append, List.cons_append]
    gi_wp2_with (first
      | (refine ⟨trivial, ?_⟩; gi_at_call 28; refine (callsIn_wide.2 (form_Check _ _ l c _ (HA.out.keep (by (repeat' (first | (with_reducible exact Below.refl _ _) | (with_reducible assumption) | (with_reducible refine Below.next ?_ (by with_reducible assumption)) | (with_reducible refine Below.drew ?_) | (with_reducible refine Below.laid ?_ _) | (with_reducible refine Below.setCell ?_ ?_ _) | (with_reducible refine size_of ?_) | (with_reducible refine Nat.le_succ_of_le ?_) | go_size)))) (HC.out.keep (by (repeat' (first | (with_reducible exact Below.refl _ _) | (with_reducible assumption) | (with_reducible refine Below.next ?_ (by with_reducible assumption)) | (with_reducible refine Below.drew ?_) | (with_reducible refine Below.laid ?_ _) | (with_reducible refine Below.setCell ?_ ?_ _) | (with_reducible refine size_of ?_) | (with_reducible refine Nat.le_succ_of_le ?_) | go_size)))) (HK.out.keep (by (repeat' (first | (with_reducible exact Below.refl _ _) | (with_reducible assumption) | (with_reducible refine Below.next ?_ (by with_reducible assumption)) | (with_reducible refine Below.drew ?_) | (with_reducible refine Below.laid ?_ _) | (with_reducible refine Below.setCell ?_ ?_ _) | (with_reducible refine size_of ?_) | (with_reducible refine Nat.le_succ_of_le ?_) | go_size)))))).mono ?_; rintro e w1 ⟨rfl, hb1⟩; rw [HX1.out]; obtain ⟨B0, B1, B2⟩ := boxesSpan hb1; obtain ⟨⟨d0, d1⟩, f0, f1⟩ := B2.cells2; have d2 := B1.cell 0)
      | (refine ⟨trivial, ?_⟩; gi_at_call 69; refine (callsIn_wide.2 (term_Check _ t _ (HT.out.keep (by (repeat' (first | (with_reducible exact Below.refl _ _) | (with_reducible assumption) | (with_reducible refine Below.next ?_ (by with_reducible assumption)) | (with_reducible refine Below.drew ?_) | (with_reducible refine Below.laid ?_ _) | (with_reducible refine Below.setCell ?_ ?_ _) | (with_reducible refine size_of ?_) | (with_reducible refine Nat.le_succ_of_le ?_) | go_size)))))).mono ?_; rintro e w' ⟨rfl, rfl⟩; rw [HX.out]))
    have G := B2.set2 (.int .i64 0) (.int .i64 0)
    have hbf := below_set2 (show Below w.heap.size w w1 by (repeat' (first | (with_reducible exact Below.refl _ _) | (with_reducible assumption) | (with_reducible refine Below.next ?_ (by with_reducible assumption)) | (with_reducible refine Below.drew ?_) | (with_reducible refine Below.laid ?_ _) | (with_reducible refine Below.setCell ?_ ?_ _) | (with_reducible refine size_of ?_) | (with_reducible refine Nat.le_succ_of_le ?_) | go_size))) (show w.heap.size ≤ w.heap.size + 1 + 1 by omega) (.int .i64 0) (.int .i64 0)
    revert G hbf
    generalize World.setCell _ _ _ = Wf
    intro G hbf
    obtain ⟨⟨e0, e1⟩, _⟩ := G.cells2
    exact leave_none (v := .tuple #[.agg #[.int .i64 0, .int .i64 0], .iface 97 (.int .i64 (Venn.termChk t))]) rfl (by simp [results, Tryd.results26, go_sem, e0, e1]) ⟨rfl, hbf⟩
  replace h2 := Decidable.not_not.1 h2
  have HX2 := Lib.hid (errV_zero h2)
  cases hu : Venn.things u
  · have HU := Lib.hid hu
    have HV := Lib.hid (spanVv_bad (e := 1) (show Venn.spanChk ⟨l, c⟩ t u = 1 by rw [Venn.spanChk, if_pos h1, if_pos h2, hu]; rfl) (by decide))
    clear h1 h2 hu
    rw [HV.out]
    refine (callsIn_wide (n := 4)).1 ?_
    refine callsIn_of_wp_marks Tryd.func26 rfl trivial ?_ rfl
    simp only [Tryd.ntmps26, List.size_toArray, List.length_cons, List.length_nil, Nat.reduceAdd, Nat.reduceSub, Array.replicate_succ, Array.replicate_zero, List.push_toArray, List.append_toArray, List.nil_append, List.cons_append]
    gi_wp2_with (first
      | (refine ⟨trivial, ?_⟩; gi_at_call 28; refine (callsIn_wide.2 (form_Check _ _ l c _ (HA.out.keep (by (repeat' (first | (with_reducible exact Below.refl _ _) | (with_reducible assumption) | (with_reducible refine Below.next ?_ (by with_reducible assumption)) | (with_reducible refine Below.drew ?_) | (with_reducible refine Below.laid ?_ _) | (with_reducible refine Below.setCell ?_ ?_ _) | (with_reducible refine size_of ?_) | (with_reducible refine Nat.le_succ_of_le ?_) | go_size)))) (HC.out.keep (by (repeat' (first | (with_reducible exact Below.refl _ _) | (with_reducible assumption) | (with_reducible refine Below.next ?_ (by with_reducible assumption)) | (with_reducible refine Below.drew ?_) | (with_reducible refine Below.laid ?_ _) | (with_reducible refine Below.setCell ?_ ?_ _) | (with_reducible refine size_of ?_) | (with_reducible refine Nat.le_succ_of_le ?_) | go_size)))) (HK.out.keep (by (repeat' (first | (with_reducible exact Below.refl _ _) | (with_reducible assumption) | (with_reducible refine Below.next ?_ (by with_reducible assumption)) | (with_reducible refine Below.drew ?_) | (with_reducible refine Below.laid ?_ _) | (with_reducible refine Below.setCell ?_ ?_ _) | (with_reducible refine size_of ?_) | (with_reducible refine Nat.le_succ_of_le ?_) | go_size)))))).mono ?_; rintro e w1 ⟨rfl, hb1⟩; rw [HX1.out]; obtain ⟨B0, B1, B2⟩ := boxesSpan hb1; obtain ⟨⟨d0, d1⟩, f0, f1⟩ := B2.cells2; have d2 := B1.cell 0)
      | (refine ⟨trivial, ?_⟩; gi_at_call 69; refine (callsIn_wide.2 (term_Check _ t _ (HT.out.keep (by (repeat' (first | (with_reducible exact Below.refl _ _) | (with_reducible assumption) | (with_reducible refine Below.next ?_ (by with_reducible assumption)) | (with_reducible refine Below.drew ?_) | (with_reducible refine Below.laid ?_ _) | (with_reducible refine Below.setCell ?_ ?_ _) | (with_reducible refine size_of ?_) | (with_reducible refine Nat.le_succ_of_le ?_) | go_size)))))).mono ?_; rintro e w' ⟨rfl, rfl⟩; rw [HX2.out])
      | (refine ⟨trivial, ?_⟩; gi_at_call 70; refine (callsIn_wide.2 (sets_Things _ _)).mono ?_; rintro e w' ⟨rfl, rfl⟩; rw [HU.out]))
    have G := B2.set2 (.int .i64 0) (.int .i64 0)
    have hbf := below_set2 (show Below w.heap.size w w1 by (repeat' (first | (with_reducible exact Below.refl _ _) | (with_reducible assumption) | (with_reducible refine Below.next ?_ (by with_reducible assumption)) | (with_reducible refine Below.drew ?_) | (with_reducible refine Below.laid ?_ _) | (with_reducible refine Below.setCell ?_ ?_ _) | (with_reducible refine size_of ?_) | (with_reducible refine Nat.le_succ_of_le ?_) | go_size))) (show w.heap.size ≤ w.heap.size + 1 + 1 by omega) (.int .i64 0) (.int .i64 0)
    revert G hbf
    generalize World.setCell _ _ _ = Wf
    intro G hbf
    obtain ⟨⟨e0, e1⟩, _⟩ := G.cells2
    exact leave_none (v := .tuple #[.agg #[.int .i64 0, .int .i64 0], .iface 97 (.int .i64 1)]) rfl (by simp [results, Tryd.results26, go_sem, e0, e1]) ⟨rfl, hbf⟩
  have HU := Lib.hid hu
  have HF := Lib.hid h1
  have HTC := Lib.hid h2
  have HW1 := Lib.hid (wrap1 hu)
  have hu06 : -2 ≤ u ∧ u ≤ 6 := by have := hu; simp only [Venn.things, Bool.and_eq_true, decide_eq_true_eq] at this; omega
  obtain ⟨E, hE⟩ : ∃ E, E = spanVv ⟨l, c⟩ t u := ⟨_, rfl⟩
  have HE := Lib.hid (show E = if (Venn.spanGo ⟨l, c⟩ t u (Venn.allC u)).2 < 0 then .tuple #[.agg #[.int .i64 0, .int .i64 0], .iface 97 (.int .i64 5)] else
      .tuple #[.agg #[.int .i64 (Venn.spanGo ⟨l, c⟩ t u (Venn.allC u)).1, .int .i64 (Venn.spanGo ⟨l, c⟩ t u (Venn.allC u)).2], .nilIface] by
    have hp := spanChk_parts h1 h2 hu
    rw [hE]
    split
    · rename_i h5
      rw [if_pos h5] at hp
      exact spanVv_bad hp (by decide)
    · rename_i h5
      rw [if_neg h5] at hp
      rw [spanVv, Venn.spanV, if_pos hp, errV_zero hp])
  rw [← hE]
  clear hE h1 h2 hu
  refine (callsIn_wide (n := 4)).1 ?_
  refine callsIn_of_wp_marks Tryd.func26 rfl trivial ?_ rfl
  simp only [Tryd.ntmps26, List.size_toArray, List.length_cons, List.length_nil, Nat.reduceAdd, Nat.reduceSub, Array.replicate_succ, Array.replicate_zero, List.push_toArray, List.append_toArray, List.nil_append, List.cons_append]
  have hw1 := HW1.out
  gi_wp2_with (first
    | (refine ⟨trivial, ?_⟩; gi_at_call 28; refine (callsIn_wide.2 (form_Check _ _ l c _ (HA.out.keep (by (repeat' (first | (with_reducible exact Below.refl _ _) | (with_reducible assumption) | (with_reducible refine Below.next ?_ (by with_reducible assumption)) | (with_reducible refine Below.drew ?_) | (with_reducible refine Below.laid ?_ _) | (with_reducible refine Below.setCell ?_ ?_ _) | (with_reducible refine size_of ?_) | (with_reducible refine Nat.le_succ_of_le ?_) | go_size)))) (HC.out.keep (by (repeat' (first | (with_reducible exact Below.refl _ _) | (with_reducible assumption) | (with_reducible refine Below.next ?_ (by with_reducible assumption)) | (with_reducible refine Below.drew ?_) | (with_reducible refine Below.laid ?_ _) | (with_reducible refine Below.setCell ?_ ?_ _) | (with_reducible refine size_of ?_) | (with_reducible refine Nat.le_succ_of_le ?_) | go_size)))) (HK.out.keep (by (repeat' (first | (with_reducible exact Below.refl _ _) | (with_reducible assumption) | (with_reducible refine Below.next ?_ (by with_reducible assumption)) | (with_reducible refine Below.drew ?_) | (with_reducible refine Below.laid ?_ _) | (with_reducible refine Below.setCell ?_ ?_ _) | (with_reducible refine size_of ?_) | (with_reducible refine Nat.le_succ_of_le ?_) | go_size)))))).mono ?_; rintro e w1 ⟨rfl, hb1⟩; rw [HX1.out]; obtain ⟨B0, B1, B2⟩ := boxesSpan hb1; have d2 := B1.cell 0)
    | (refine ⟨trivial, ?_⟩; gi_at_call 69; refine (callsIn_wide.2 (term_Check _ t _ (HT.out.keep (by (repeat' (first | (with_reducible exact Below.refl _ _) | (with_reducible assumption) | (with_reducible refine Below.next ?_ (by with_reducible assumption)) | (with_reducible refine Below.drew ?_) | (with_reducible refine Below.laid ?_ _) | (with_reducible refine Below.setCell ?_ ?_ _) | (with_reducible refine size_of ?_) | (with_reducible refine Nat.le_succ_of_le ?_) | go_size)))))).mono ?_; rintro e w' ⟨rfl, rfl⟩; rw [HX2.out])
    | (refine ⟨trivial, ?_⟩; gi_at_call 70; refine (callsIn_wide.2 (sets_Things _ _)).mono ?_; rintro e w' ⟨rfl, rfl⟩; rw [HU.out])
    | (refine ⟨trivial, ?_⟩; gi_at_call 71; refine (callsIn_wide.2 (fit_All u _)).mono ?_; rintro e w' ⟨rfl, rfl⟩))
  have hbw1 : Below w.heap.size w w1 := by (repeat' (first | (with_reducible exact Below.refl _ _) | (with_reducible assumption) | (with_reducible refine Below.next ?_ (by with_reducible assumption)) | (with_reducible refine Below.drew ?_) | (with_reducible refine Below.laid ?_ _) | (with_reducible refine Below.setCell ?_ ?_ _) | (with_reducible refine size_of ?_) | (with_reducible refine Nat.le_succ_of_le ?_) | go_size))
  have hsz1 : w.heap.size + 2 < w1.heap.size := by have := hb1.size; simp at this; omega
  have B0' := (B0.alloc (.cells #[.int .i64 (u + 1), .int .i64 (-1)] 49)).alloc (.cells #[.int .i64 u] 3)
  have B1' := (B1.alloc (.cells #[.int .i64 (u + 1), .int .i64 (-1)] 49)).alloc (.cells #[.int .i64 u] 3)
  have B2' := (B2.alloc (.cells #[.int .i64 (u + 1), .int .i64 (-1)] 49)).alloc (.cells #[.int .i64 u] 3)
  have B3' := (Blk.new w1 49 #[.int .i64 (u + 1), .int .i64 (-1)]).alloc (.cells #[.int .i64 u] 3)
  have B4' := Blk.newAt (w := w1.alloc (.cells #[.int .i64 (u + 1), .int .i64 (-1)] 49)) (g := w1.heap.size + 1) (by simp) 3 #[.int .i64 u]
  have hbW : Below w.heap.size w ((w1.alloc (.cells #[.int .i64 (u + 1), .int .i64 (-1)] 49)).alloc (.cells #[.int .i64 u] 3)) := by (repeat' (first | (with_reducible exact Below.refl _ _) | (with_reducible assumption) | (with_reducible refine Below.next ?_ (by with_reducible assumption)) | (with_reducible refine Below.drew ?_) | (with_reducible refine Below.laid ?_ _) | (with_reducible refine Below.setCell ?_ ?_ _) | (with_reducible refine size_of ?_) | (with_reducible refine Nat.le_succ_of_le ?_) | go_size))
  have hsz : ((w1.alloc (.cells #[.int .i64 (u + 1), .int .i64 (-1)] 49)).alloc (.cells #[.int .i64 u] 3)).heap.size = w1.heap.size + 2 := by simp
  clear B0 B1 B2 d2
  generalize ((w1.alloc (.cells #[.int .i64 (u + 1), .int .i64 (-1)] 49)).alloc (.cells #[.int .i64 u] 3)) = W0 at B0' B1' B2' B3' B4' hbW hsz ⊢
  have hC : ∀ b, b = w1.heap.size → w.heap.size ≤ b := by omega
  refine wpIn_rangeAll2 u HU.out (w1.heap.size + 1) rfl (B4'.cell 0) rfl (fun b => b = w1.heap.size) (by intro b hb; omega)
    (fun pre W => Blk W w1.heap.size 49 #[.int .i64 (Venn.spanGo ⟨l, c⟩ t u pre).1, .int .i64 (Venn.spanGo ⟨l, c⟩ t u pre).2]) (fun _ _ _ => False)
    (by rintro s X Y hb h; exact h.below hb (by omega)) (by rintro c s X Y hb h; exact h) B3' ?round ?done ?stop
  case round =>
    intro lo pre x rest W hxs
    have hm : x ∈ Venn.allC u := by rw [hxs]; simp
    have HWR := Lib.hid (Venn.made_allC HU.out hm)
    have HRG := Lib.hid (Venn.spanGo_range ⟨l, c⟩ t u hu06 pre)
    have hpar := (Venn.mem_allC HU.out x).1 hm
    have hs6 : x.sum ≤ 6 := by rw [hpar.2.2]; exact hu06.2
    have HPAR := Lib.hid (And.intro hpar.2.1 hs6)
    obtain ⟨a0, a1, a2, a3, a4, a5, a6, a7, rfl, _⟩ := Venn.of_allC HU.out hm
    obtain ⟨M, hM⟩ : ∃ M, Venn.made [a0, a1, a2, a3, a4, a5, a6, a7] = M := ⟨_, rfl⟩
    have HMD := Lib.hid (fun W => fields_Made a0 a1 a2 a3 a4 a5 a6 a7 W hpar.2.1 hs6)
    have HSN := Lib.hid (Venn.spanGo_snoc ⟨l, c⟩ t u pre [a0, a1, a2, a3, a4, a5, a6, a7])
    simp only [Venn.spanStep, Venn.cntT] at HSN
    rw [hM] at HMD HSN HWR
    obtain ⟨mt, ma, mb, mc⟩ := M
    replace HWR := Lib.hid HWR.out.1
    clear hm hxs hpar hs6 hM
    unfold cntV
    gi_wp2
    try refine ⟨rfl, ?_⟩
    intro W2 hbut h1 hX hBx
    have hbw2 := hbW.trans (hbut.below (show w.heap.size ≤ W0.heap.size by omega) hC)
    have HAW := Lib.hid (HA.out.keep hbw2)
    have HCW := Lib.hid (HC.out.keep hbw2)
    have HTW := Lib.hid (HT.out.keep hbw2)
    have HKW := Lib.hid (HK.out.keep hbw2)
    have BF := B0'.but hbut (show ¬ w.heap.size = w1.heap.size by omega)
    have BT := B1'.but hbut (show ¬ w.heap.size + 1 = w1.heap.size by omega)
    try simp only [List.map] at hX
    obtain ⟨⟨c0, c1, c2, c3, c4, c5, c6, c7⟩, _⟩ := hX.cells8
    have hd1 : 1 ≤ 2 := by decide
    have hp1 : w1.heap.size < W2.heap.size := h1.lt
    cases hso : Venn.formTrue ⟨l, c⟩ ⟨mt, ma, mb, mc⟩
    · have HS := Lib.hid hso
      have HN := Lib.hid (show Venn.spanGo ⟨l, c⟩ t u (pre ++ [[a0, a1, a2, a3, a4, a5, a6, a7]]) = Venn.spanGo ⟨l, c⟩ t u pre by rw [HSN.out, hso]; rfl)
      clear hso
      gi_wp2_with (first
        | (refine ⟨trivial, ?_⟩; gi_at_call 72; refine (CallsIn.inRound lo (callsIn_wide.2 (HMD.out _))).mono ?_; rintro e W3 ⟨rfl, hb3⟩; have BF3 := BF.keep hb3; obtain ⟨f0, f1⟩ := BF3.cells2.1; have hl3 := BF3.lt)
        | (refine ⟨trivial, ?_⟩; gi_at_call 57; refine (CallsIn.inRound lo (callsIn_wide.2 (form_True _ _ l c _ _ _ _ _ (HAW.out.keep (by (repeat' (first | (with_reducible exact Below.refl _ _) | (with_reducible assumption) | (with_reducible refine Below.next ?_ (by with_reducible assumption)) | (with_reducible refine Below.drew ?_) | (with_reducible refine Below.laid ?_ _) | (with_reducible refine Below.setCell ?_ ?_ _) | (with_reducible refine size_of ?_) | (with_reducible refine Nat.le_succ_of_le ?_) | go_size)))) (HCW.out.keep (by (repeat' (first | (with_reducible exact Below.refl _ _) | (with_reducible assumption) | (with_reducible refine Below.next ?_ (by with_reducible assumption)) | (with_reducible refine Below.drew ?_) | (with_reducible refine Below.laid ?_ _) | (with_reducible refine Below.setCell ?_ ?_ _) | (with_reducible refine size_of ?_) | (with_reducible refine Nat.le_succ_of_le ?_) | go_size)))) (HKW.out.keep (by (repeat' (first | (with_reducible exact Below.refl _ _) | (with_reducible assumption) | (with_reducible refine Below.next ?_ (by with_reducible assumption)) | (with_reducible refine Below.drew ?_) | (with_reducible refine Below.laid ?_ _) | (with_reducible refine Below.setCell ?_ ?_ _) | (with_reducible refine size_of ?_) | (with_reducible refine Nat.le_succ_of_le ?_) | go_size)))) HF.out HWR.out))).mono ?_; rintro e W4 ⟨rfl, hb4⟩; rw [HS.out]))
      refine ⟨But.of_below (show Below W2.heap.size W2 W4 by (repeat' (first | (with_reducible exact Below.refl _ _) | (with_reducible assumption) | (with_reducible refine Below.next ?_ (by with_reducible assumption)) | (with_reducible refine Below.drew ?_) | (with_reducible refine Below.laid ?_ _) | (with_reducible refine Below.setCell ?_ ?_ _) | (with_reducible refine size_of ?_) | (with_reducible refine Nat.le_succ_of_le ?_) | go_size))), ?_⟩
      show Blk _ _ _ #[.int .i64 (Venn.spanGo ⟨l, c⟩ t u (pre ++ [[a0, a1, a2, a3, a4, a5, a6, a7]])).1, .int .i64 (Venn.spanGo ⟨l, c⟩ t u (pre ++ [[a0, a1, a2, a3, a4, a5, a6, a7]])).2]
      rw [HN.out]
      exact h1.keep (by (repeat' (first | (with_reducible exact Below.refl _ _) | (with_reducible assumption) | (with_reducible refine Below.next ?_ (by with_reducible assumption)) | (with_reducible refine Below.drew ?_) | (with_reducible refine Below.laid ?_ _) | (with_reducible refine Below.setCell ?_ ?_ _) | (with_reducible refine size_of ?_) | (with_reducible refine Nat.le_succ_of_le ?_) | go_size)))
    · have HS := Lib.hid hso
      have HN := Lib.hid (show Venn.spanGo ⟨l, c⟩ t u (pre ++ [[a0, a1, a2, a3, a4, a5, a6, a7]]) = (min (Venn.spanGo ⟨l, c⟩ t u pre).1 (Venn.many (Venn.termSet t ⟨mt, ma, mb, mc⟩)), max (Venn.spanGo ⟨l, c⟩ t u pre).2 (Venn.many (Venn.termSet t ⟨mt, ma, mb, mc⟩))) by rw [HSN.out, hso]; rfl)
      clear hso
      have HT6 := Lib.hid (setChk_63 (Venn.termSet_right HWR.out t))
      obtain ⟨TS, hTS⟩ : ∃ TS, Venn.termSet t ⟨mt, ma, mb, mc⟩ = TS := ⟨_, rfl⟩
      have HTS := Lib.hid hTS
      rw [hTS] at HN HT6
      clear hTS
      gi_wp2_with (first
        | (refine ⟨trivial, ?_⟩; gi_at_call 72; refine (CallsIn.inRound lo (callsIn_wide.2 (HMD.out _))).mono ?_; rintro e W3 ⟨rfl, hb3⟩; have BF3 := BF.keep hb3; have BT3 := BT.keep hb3; have H3 := h1.keep hb3; obtain ⟨f0, f1⟩ := BF3.cells2.1; have hl3 := BF3.lt)
        | (refine ⟨trivial, ?_⟩; gi_at_call 57; refine (CallsIn.inRound lo (callsIn_wide.2 (form_True _ _ l c _ _ _ _ _ (HAW.out.keep (by (repeat' (first | (with_reducible exact Below.refl _ _) | (with_reducible assumption) | (with_reducible refine Below.next ?_ (by with_reducible assumption)) | (with_reducible refine Below.drew ?_) | (with_reducible refine Below.laid ?_ _) | (with_reducible refine Below.setCell ?_ ?_ _) | (with_reducible refine size_of ?_) | (with_reducible refine Nat.le_succ_of_le ?_) | go_size)))) (HCW.out.keep (by (repeat' (first | (with_reducible exact Below.refl _ _) | (with_reducible assumption) | (with_reducible refine Below.next ?_ (by with_reducible assumption)) | (with_reducible refine Below.drew ?_) | (with_reducible refine Below.laid ?_ _) | (with_reducible refine Below.setCell ?_ ?_ _) | (with_reducible refine size_of ?_) | (with_reducible refine Nat.le_succ_of_le ?_) | go_size)))) (HKW.out.keep (by (repeat' (first | (with_reducible exact Below.refl _ _) | (with_reducible assumption) | (with_reducible refine Below.next ?_ (by with_reducible assumption)) | (with_reducible refine Below.drew ?_) | (with_reducible refine Below.laid ?_ _) | (with_reducible refine Below.setCell ?_ ?_ _) | (with_reducible refine size_of ?_) | (with_reducible refine Nat.le_succ_of_le ?_) | go_size)))) HF.out HWR.out))).mono ?_; rintro e W4 ⟨rfl, hb4⟩; rw [HS.out]; have BW4 := (Blk.new W3 28 #[.int .i64 mt, .int .i64 ma, .int .i64 mb, .int .i64 mc]).keep hb4; have H4 := (H3.alloc _).keep hb4; have f2 := ((BT3.alloc _).keep hb4).cell 0; obtain ⟨e0, e1, e2, e3⟩ := BW4.cells4)
        | (refine ⟨trivial, ?_⟩; gi_at_call 74; refine (CallsIn.inRound lo (callsIn_wide.2 (term_Set _ t _ _ _ _ _ (HTW.out.keep (by (repeat' (first | (with_reducible exact Below.refl _ _) | (with_reducible assumption) | (with_reducible refine Below.next ?_ (by with_reducible assumption)) | (with_reducible refine Below.drew ?_) | (with_reducible refine Below.laid ?_ _) | (with_reducible refine Below.setCell ?_ ?_ _) | (with_reducible refine size_of ?_) | (with_reducible refine Nat.le_succ_of_le ?_) | go_size)))) HTC.out HWR.out))).mono ?_; rintro e W5 ⟨rfl, hb5⟩; rw [HTS.out]; have H5 := H4.keep hb5; obtain ⟨⟨g0, g1⟩, g2, g3⟩ := H5.cells2)
        | (refine ⟨trivial, ?_⟩; gi_at_call 73; refine (CallsIn.inRound lo (callsIn_wide.2 (sets_Many _ _ HT6.out))).mono ?_; rintro e w' ⟨rfl, rfl⟩))
      all_goals
        refine ⟨((But.of_below (C := fun b => b = w1.heap.size) (show Below W2.heap.size W2 W5 by (repeat' (first | (with_reducible exact Below.refl _ _) | (with_reducible assumption) | (with_reducible refine Below.next ?_ (by with_reducible assumption)) | (with_reducible refine Below.drew ?_) | (with_reducible refine Below.laid ?_ _) | (with_reducible refine Below.setCell ?_ ?_ _) | (with_reducible refine size_of ?_) | (with_reducible refine Nat.le_succ_of_le ?_) | go_size)))).set_ (p := ⟨w1.heap.size, 0, none⟩) rfl _).set_ (p := ⟨w1.heap.size, 1, none⟩) rfl _, ?_⟩
        show Blk _ _ _ #[.int .i64 (Venn.spanGo ⟨l, c⟩ t u (pre ++ [[a0, a1, a2, a3, a4, a5, a6, a7]])).1, .int .i64 (Venn.spanGo ⟨l, c⟩ t u (pre ++ [[a0, a1, a2, a3, a4, a5, a6, a7]])).2]
        rw [HN.out]
        refine blk_eq2 (H5.set2 _ _) ?_ ?_
        · show _ = min _ _; omega
        · show _ = max _ _; omega
  case done =>
    rintro D W hD hbut h1' hK
    have h1 : Blk W w1.heap.size 49 #[.int .i64 (Venn.spanGo ⟨l, c⟩ t u (Venn.allC u)).1, .int .i64 (Venn.spanGo ⟨l, c⟩ t u (Venn.allC u)).2] := h1'
    clear h1'
    generalize Venn.spanGo ⟨l, c⟩ t u (Venn.allC u) = p at HE h1
    obtain ⟨P, M⟩ := p
    have R2 := B2'.but hbut (show ¬ w.heap.size + 1 + 1 = w1.heap.size by omega)
    obtain ⟨⟨g0, g1⟩, g2, g3⟩ := h1.cells2
    obtain ⟨⟨d0, d1⟩, f0, f1⟩ := R2.cells2
    have hbf := hbW.trans (hbut.below (show w.heap.size ≤ W0.heap.size by omega) hC)
    by_cases hm : M < 0
    · have HV := Lib.hid (show E = .tuple #[.agg #[.int .i64 0, .int .i64 0], .iface 97 (.int .i64 5)] by rw [HE.out, if_pos hm])
      gi_wp2
      have hK' := def_keep (def_keep hK (p := ⟨w.heap.size + 1 + 1, 0, none⟩) (by show D ≠ w.heap.size + 1 + 1; omega) (.int .i64 0)) (p := ⟨w.heap.size + 1 + 1, 1, none⟩) (by show D ≠ w.heap.size + 1 + 1; omega) (.int .i64 0)
      have G := R2.set2 (.int .i64 0) (.int .i64 0)
      have GB := below_put (below_set2 hbf (show w.heap.size ≤ w.heap.size + 1 + 1 by omega) (.int .i64 0) (.int .i64 0)) (show w.heap.size ≤ D by omega) (.deferred none)
      revert hK' G GB
      generalize World.setCell _ _ _ = Wf
      intro hK' G GB
      obtain ⟨⟨e0, e1⟩, _⟩ := (G.put (D := D) (by omega) (.deferred none)).cells2
      refine leave_mark (v := .tuple #[.agg #[.int .i64 0, .int .i64 0], .iface 97 (.int .i64 5)]) rfl hK' ?_ ⟨congrArg Ending.returned HV.out.symm, GB⟩
      simp [results, Tryd.results26, go_sem, e0, e1]
    · have HV := Lib.hid (show E = .tuple #[.agg #[.int .i64 P, .int .i64 M], .nilIface] by rw [HE.out, if_neg hm])
      gi_wp2
      have hK' := def_keep (def_keep hK (p := ⟨w.heap.size + 1 + 1, 0, none⟩) (by show D ≠ w.heap.size + 1 + 1; omega) (.int .i64 P)) (p := ⟨w.heap.size + 1 + 1, 1, none⟩) (by show D ≠ w.heap.size + 1 + 1; omega) (.int .i64 M)
      have G := R2.set2 (.int .i64 P) (.int .i64 M)
      have GB := below_put (below_set2 hbf (show w.heap.size ≤ w.heap.size + 1 + 1 by omega) (.int .i64 P) (.int .i64 M)) (show w.heap.size ≤ D by omega) (.deferred none)
      revert hK' G GB
      generalize World.setCell _ _ _ = Wf
      intro hK' G GB
      obtain ⟨⟨e0, e1⟩, _⟩ := (G.put (D := D) (by omega) (.deferred none)).cells2
      refine leave_mark (v := .tuple #[.agg #[.int .i64 P, .int .i64 M], .nilIface]) rfl hK' ?_ ⟨congrArg Ending.returned HV.out.symm, GB⟩
      simp [results, Tryd.results26, go_sem, e0, e1]
  case stop =>
    rintro D c pre x rest W hD hxs hbut h hK
    exact h.elim

def exactVv (f : Venn.Form) (t : List Int) (u : Int) : Value := .tuple #[.int .i64 (Venn.exactV f t u), errV (Venn.exactChk f t u)]
set_option maxHeartbeats 1000000 in
theorem span_Exact (sa sc tv : Value) (l : List Venn.Atom) (c t : List Int) (u : Int) (w : World) (ha : IsAtoms w sa l) (hc : IsInts w sc c) (ht : IsInts w tv t) (hk : KindsOk w) :
    Calls Tryd.prog 27 #[.agg #[sa, sc], tv, .int .i64 u] w (Keeps (exactVv ⟨l, c⟩ t u) w) := by
  obtain ⟨A, cA, rfl, hra⟩ := ha
  obtain ⟨C, cC, rfl, hrc⟩ := hc
  obtain ⟨T, cT, rfl, hrt⟩ := ht
  have HA := Lib.hid (show IsAtoms w (.slice A l.length cA) l from ⟨A, cA, rfl, hra⟩)
  have HC := Lib.hid (show IsInts w (.slice C c.length cC) c from ⟨C, cC, rfl, hrc⟩)
  have HT := Lib.hid (show IsInts w (.slice T t.length cT) t from ⟨T, cT, rfl, hrt⟩)
  have HK := Lib.hid hk
  clear hra hrc hrt hk
  by_cases h1 : ¬ Venn.spanChk ⟨l, c⟩ t u = 0
  · have HE := Lib.hid (spanVv_bad rfl h1)
    have HV := Lib.hid (show exactVv ⟨l, c⟩ t u = .tuple #[.int .i64 0, .iface 97 (.int .i64 (Venn.spanChk ⟨l, c⟩ t u))] by
      have h2 : Venn.exactChk ⟨l, c⟩ t u = Venn.spanChk ⟨l, c⟩ t u := by rw [Venn.exactChk, if_neg h1]
      rw [exactVv, Venn.exactV, if_neg (by rw [h2]; exact h1), h2, errV_ne h1])
    clear h1
    rw [HV.out]
    go_enter Tryd.func27, Tryd.ntmps27
    go_wp2_with (go_at_call 26; refine (span_Of _ _ _ l c t u _ (HA.out.keep (by (repeat' (first | (with_reducible exact Below.refl _ _) | (with_reducible assumption) | (with_reducible refine Below.next ?_ (by with_reducible assumption)) | (with_reducible refine Below.drew ?_) | (with_reducible refine Below.laid ?_ _) | (with_reducible refine Below.setCell ?_ ?_ _) | (with_reducible refine size_of ?_) | (with_reducible refine Nat.le_succ_of_le ?_) | go_size)))) (HC.out.keep (by (repeat' (first | (with_reducible exact Below.refl _ _) | (with_reducible assumption) | (with_reducible refine Below.next ?_ (by with_reducible assumption)) | (with_reducible refine Below.drew ?_) | (with_reducible refine Below.laid ?_ _) | (with_reducible refine Below.setCell ?_ ?_ _) | (with_reducible refine size_of ?_) | (with_reducible refine Nat.le_succ_of_le ?_) | go_size)))) (HT.out.keep (by (repeat' (first | (with_reducible exact Below.refl _ _) | (with_reducible assumption) | (with_reducible refine Below.next ?_ (by with_reducible assumption)) | (with_reducible refine Below.drew ?_) | (with_reducible refine Below.laid ?_ _) | (with_reducible refine Below.setCell ?_ ?_ _) | (with_reducible refine size_of ?_) | (with_reducible refine Nat.le_succ_of_le ?_) | go_size)))) (HK.out.keep (by (repeat' (first | (with_reducible exact Below.refl _ _) | (with_reducible assumption) | (with_reducible refine Below.next ?_ (by with_reducible assumption)) | (with_reducible refine Below.drew ?_) | (with_reducible refine Below.laid ?_ _) | (with_reducible refine Below.setCell ?_ ?_ _) | (with_reducible refine size_of ?_) | (with_reducible refine Nat.le_succ_of_le ?_) | go_size))))).mono ?_; rintro e w1 ⟨rfl, hb1⟩; rw [HE.out])
    go_ret2
    exact ⟨rfl, by (repeat' (first | (with_reducible exact Below.refl _ _) | (with_reducible assumption) | (with_reducible refine Below.next ?_ (by with_reducible assumption)) | (with_reducible refine Below.drew ?_) | (with_reducible refine Below.laid ?_ _) | (with_reducible refine Below.setCell ?_ ?_ _) | (with_reducible refine size_of ?_) | (with_reducible refine Nat.le_succ_of_le ?_) | go_size))⟩
  replace h1 := Decidable.not_not.1 h1
  have HE := Lib.hid (show spanVv ⟨l, c⟩ t u = .tuple #[.agg #[.int .i64 (Venn.spanV ⟨l, c⟩ t u).1, .int .i64 (Venn.spanV ⟨l, c⟩ t u).2], .nilIface] by rw [spanVv, errV_zero h1])
  have HG := Lib.hid (show exactVv ⟨l, c⟩ t u = if (Venn.spanV ⟨l, c⟩ t u).1 = (Venn.spanV ⟨l, c⟩ t u).2 then .tuple #[.int .i64 (Venn.spanV ⟨l, c⟩ t u).1, .nilIface] else .tuple #[.int .i64 0, .iface 97 (.int .i64 8)] by
    rw [exactVv, Venn.exactV, Venn.exactChk, if_pos h1]
    split
    · rw [if_pos rfl]; rfl
    · rw [if_neg (by decide)]; rfl)
  clear h1
  generalize exactVv ⟨l, c⟩ t u = R at HG ⊢
  generalize Venn.spanV ⟨l, c⟩ t u = p at HE HG
  obtain ⟨P, M⟩ := p
  by_cases hm : P = M
  · subst hm
    have HV := Lib.hid (show R = .tuple #[.int .i64 P, .nilIface] by rw [HG.out, if_pos rfl])
    have hne : (P != P) = false := by simp
    go_enter Tryd.func27, Tryd.ntmps27
    go_wp2_with (go_at_call 26; refine (span_Of _ _ _ l c t u _ (HA.out.keep (by (repeat' (first | (with_reducible exact Below.refl _ _) | (with_reducible assumption) | (with_reducible refine Below.next ?_ (by with_reducible assumption)) | (with_reducible refine Below.drew ?_) | (with_reducible refine Below.laid ?_ _) | (with_reducible refine Below.setCell ?_ ?_ _) | (with_reducible refine size_of ?_) | (with_reducible refine Nat.le_succ_of_le ?_) | go_size)))) (HC.out.keep (by (repeat' (first | (with_reducible exact Below.refl _ _) | (with_reducible assumption) | (with_reducible refine Below.next ?_ (by with_reducible assumption)) | (with_reducible refine Below.drew ?_) | (with_reducible refine Below.laid ?_ _) | (with_reducible refine Below.setCell ?_ ?_ _) | (with_reducible refine size_of ?_) | (with_reducible refine Nat.le_succ_of_le ?_) | go_size)))) (HT.out.keep (by (repeat' (first | (with_reducible exact Below.refl _ _) | (with_reducible assumption) | (with_reducible refine Below.next ?_ (by with_reducible assumption)) | (with_reducible refine Below.drew ?_) | (with_reducible refine Below.laid ?_ _) | (with_reducible refine Below.setCell ?_ ?_ _) | (with_reducible refine size_of ?_) | (with_reducible refine Nat.le_succ_of_le ?_) | go_size)))) (HK.out.keep (by (repeat' (first | (with_reducible exact Below.refl _ _) | (with_reducible assumption) | (with_reducible refine Below.next ?_ (by with_reducible assumption)) | (with_reducible refine Below.drew ?_) | (with_reducible refine Below.laid ?_ _) | (with_reducible refine Below.setCell ?_ ?_ _) | (with_reducible refine size_of ?_) | (with_reducible refine Nat.le_succ_of_le ?_) | go_size))))).mono ?_; rintro e w1 ⟨rfl, hb1⟩; rw [HE.out])
    go_ret2
    exact ⟨congrArg Ending.returned HV.out.symm, by (repeat' (first | (with_reducible exact Below.refl _ _) | (with_reducible assumption) | (with_reducible refine Below.next ?_ (by with_reducible assumption)) | (with_reducible refine Below.drew ?_) | (with_reducible refine Below.laid ?_ _) | (with_reducible refine Below.setCell ?_ ?_ _) | (with_reducible refine size_of ?_) | (with_reducible refine Nat.le_succ_of_le ?_) | go_size))⟩
  · have HV := Lib.hid (show R = .tuple #[.int .i64 0, .iface 97 (.int .i64 8)] by rw [HG.out, if_neg hm])
    have hne : (P != M) = true := by simpa using hm
    go_enter Tryd.func27, Tryd.ntmps27
    go_wp2_with (go_at_call 26; refine (span_Of _ _ _ l c t u _ (HA.out.keep (by (repeat' (first | (with_reducible exact Below.refl _ _) | (with_reducible assumption) | (with_reducible refine Below.next ?_ (by with_reducible assumption)) | (with_reducible refine Below.drew ?_) | (with_reducible refine Below.laid ?_ _) | (with_reducible refine Below.setCell ?_ ?_ _) | (with_reducible refine size_of ?_) | (with_reducible refine Nat.le_succ_of_le ?_) | go_size)))) (HC.out.keep (by (repeat' (first | (with_reducible exact Below.refl _ _) | (with_reducible assumption) | (with_reducible refine Below.next ?_ (by with_reducible assumption)) | (with_reducible refine Below.drew ?_) | (with_reducible refine Below.laid ?_ _) | (with_reducible refine Below.setCell ?_ ?_ _) | (with_reducible refine size_of ?_) | (with_reducible refine Nat.le_succ_of_le ?_) | go_size)))) (HT.out.keep (by (repeat' (first | (with_reducible exact Below.refl _ _) | (with_reducible assumption) | (with_reducible refine Below.next ?_ (by with_reducible assumption)) | (with_reducible refine Below.drew ?_) | (with_reducible refine Below.laid ?_ _) | (with_reducible refine Below.setCell ?_ ?_ _) | (with_reducible refine size_of ?_) | (with_reducible refine Nat.le_succ_of_le ?_) | go_size)))) (HK.out.keep (by (repeat' (first | (with_reducible exact Below.refl _ _) | (with_reducible assumption) | (with_reducible refine Below.next ?_ (by with_reducible assumption)) | (with_reducible refine Below.drew ?_) | (with_reducible refine Below.laid ?_ _) | (with_reducible refine Below.setCell ?_ ?_ _) | (with_reducible refine size_of ?_) | (with_reducible refine Nat.le_succ_of_le ?_) | go_size))))).mono ?_; rintro e w1 ⟨rfl, hb1⟩; rw [HE.out])
    go_ret2
    exact ⟨congrArg Ending.returned HV.out.symm, by (repeat' (first | (with_reducible exact Below.refl _ _) | (with_reducible assumption) | (with_reducible refine Below.next ?_ (by with_reducible assumption)) | (with_reducible refine Below.drew ?_) | (with_reducible refine Below.laid ?_ _) | (with_reducible refine Below.setCell ?_ ?_ _) | (with_reducible refine size_of ?_) | (with_reducible refine Nat.le_succ_of_le ?_) | go_size))⟩
end Go.Proofs.YtcecbpbpknphjaaDoor
