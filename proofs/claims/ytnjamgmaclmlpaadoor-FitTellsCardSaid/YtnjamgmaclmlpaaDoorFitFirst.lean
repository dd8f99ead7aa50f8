/-
  THE WALK of fit.First.
-/
import Derived.Test.YtnjamgmaclmlpaaDoorFitAll
import Derived.Test.YtnjamgmaclmlpaaDoorRowChk
namespace Go.Proofs.YtnjamgmaclmlpaaDoor
open Go.RowKit Go.Shelf
attribute [local go_sem] Oper.semAt_some

section
variable {X Y : World} {C : Nat → Prop}
theorem But.set8 (h : But C X Y) {p : Nat} (hp : C p) (x0 x1 x2 x3 x4 x5 x6 x7 : Value) :
    But C X ((((((((Y.setCell ⟨p, 0, none⟩ x0).setCell ⟨p, 1, none⟩ x1).setCell ⟨p, 2, none⟩ x2).setCell ⟨p, 3, none⟩ x3).setCell ⟨p, 4, none⟩ x4).setCell ⟨p, 5, none⟩ x5).setCell ⟨p, 6, none⟩ x6).setCell ⟨p, 7, none⟩ x7) :=
  (((((((h.set_ (p := ⟨p, 0, none⟩) hp _).set_ (p := ⟨p, 1, none⟩) hp _).set_ (p := ⟨p, 2, none⟩) hp _).set_ (p := ⟨p, 3, none⟩) hp _).set_ (p := ⟨p, 4, none⟩) hp _).set_ (p := ⟨p, 5, none⟩) hp _).set_ (p := ⟨p, 6, none⟩) hp _).set_ (p := ⟨p, 7, none⟩) hp _
theorem Blk.far8 {g : Nat} {t : TypeId} {cs : Array Value} (h : Blk X g t cs) {p : Nat} (hp : g ≠ p) (x0 x1 x2 x3 x4 x5 x6 x7 : Value) :
    Blk ((((((((X.setCell ⟨p, 0, none⟩ x0).setCell ⟨p, 1, none⟩ x1).setCell ⟨p, 2, none⟩ x2).setCell ⟨p, 3, none⟩ x3).setCell ⟨p, 4, none⟩ x4).setCell ⟨p, 5, none⟩ x5).setCell ⟨p, 6, none⟩ x6).setCell ⟨p, 7, none⟩ x7) g t cs :=
  (((((((h.far (p := ⟨p, 0, none⟩) hp _).far (p := ⟨p, 1, none⟩) hp _).far (p := ⟨p, 2, none⟩) hp _).far (p := ⟨p, 3, none⟩) hp _).far (p := ⟨p, 4, none⟩) hp _).far (p := ⟨p, 5, none⟩) hp _).far (p := ⟨p, 6, none⟩) hp _).far (p := ⟨p, 7, none⟩) hp _
theorem hK8 {o : Obj} {D : Nat} (h : X.heap[D]? = some o) {p : Nat} (hp : D ≠ p) (x0 x1 x2 x3 x4 x5 x6 x7 : Value) :
    ((((((((X.setCell ⟨p, 0, none⟩ x0).setCell ⟨p, 1, none⟩ x1).setCell ⟨p, 2, none⟩ x2).setCell ⟨p, 3, none⟩ x3).setCell ⟨p, 4, none⟩ x4).setCell ⟨p, 5, none⟩ x5).setCell ⟨p, 6, none⟩ x6).setCell ⟨p, 7, none⟩ x7).heap[D]? = some o :=
  def_keep (p := ⟨p, 7, none⟩) (def_keep (p := ⟨p, 6, none⟩) (def_keep (p := ⟨p, 5, none⟩) (def_keep (p := ⟨p, 4, none⟩) (def_keep (p := ⟨p, 3, none⟩) (def_keep (p := ⟨p, 2, none⟩) (def_keep (p := ⟨p, 1, none⟩) (def_keep (p := ⟨p, 0, none⟩) h hp _) hp _) hp _) hp _) hp _) hp _) hp _) hp _
end
/-- Counts as cells. -/
abbrev cells (x : List Int) : Array Value := (x.map (Value.int .i64)).toArray
abbrev zero8 : Array Value := #[.int .i64 0, .int .i64 0, .int .i64 0, .int .i64 0, .int .i64 0, .int .i64 0, .int .i64 0, .int .i64 0]
def firstV (o : Option (List Int)) : Value := match o with
  | some x => .tuple #[.agg (cells x), .bool true]
  | none => .tuple #[.agg zero8, .bool false]

set_option maxHeartbeats 2000000 in
set_option maxRecDepth 100000 in
theorem fit_First (u : Int) (v : Value) (l : List (List Int)) (w : World) (hu : Venn.things u = true) (hl : IsRows w v l) (hok : l.all Venn.rowOk = true) :
    Calls Tryd.prog 57 #[.int .i64 u, v] w (Keeps (firstV (Venn.firstFit u l)) w) := by
  obtain ⟨A, c, rfl, hrest⟩ := hl
  have HL : IsRows w (.slice A l.length c) l := ⟨A, c, rfl, hrest⟩
  clear hrest
  have HOK := Lib.hid hok
  have HU := Lib.hid hu
  obtain ⟨E, hE⟩ : ∃ E, E = firstV (Venn.firstFit u l) := ⟨_, rfl⟩
  rw [← hE]
  have HE := Lib.hid hE
  clear hok hu hE
  refine (callsIn_wide (n := 4)).1 ?_
  refine callsIn_of_wp_marks Tryd.func57 rfl trivial ?_ rfl
  simp only [Tryd.ntmps57, List.size_toArray, List.length_cons, List.length_nil, Nat.reduceAdd, Nat.reduceSub, Array.replicate_succ, Array.replicate_zero, List.push_toArray, List.append_toArray, List.nil_append, List.cons_append]
  gi_wp2_with (refine ⟨trivial, ?_⟩; gi_at_call 54; refine (callsIn_wide.2 (fit_All u _)).mono ?_; rintro e w' ⟨rfl, rfl⟩)
  have hB0 : Blk ((((w.alloc (.cells #[.slice A l.length c] 22)).alloc (.cells zero8 23)).alloc (.cells #[.bool false] 4)).alloc (.cells #[.int .i64 u] 3)) w.heap.size 22 #[.slice A l.length c] := (((Blk.new _ _ _).alloc _).alloc _).alloc _
  have hB1 : Blk ((((w.alloc (.cells #[.slice A l.length c] 22)).alloc (.cells zero8 23)).alloc (.cells #[.bool false] 4)).alloc (.cells #[.int .i64 u] 3)) (w.heap.size + 1) 23 zero8 := ((Blk.newAt (by simp) _ _).alloc _).alloc _
  have hB2 : Blk ((((w.alloc (.cells #[.slice A l.length c] 22)).alloc (.cells zero8 23)).alloc (.cells #[.bool false] 4)).alloc (.cells #[.int .i64 u] 3)) (w.heap.size + 1 + 1) 4 #[.bool false] := (Blk.newAt (by simp) _ _).alloc _
  have hB3 : Blk ((((w.alloc (.cells #[.slice A l.length c] 22)).alloc (.cells zero8 23)).alloc (.cells #[.bool false] 4)).alloc (.cells #[.int .i64 u] 3)) (w.heap.size + 1 + 1 + 1) 3 #[.int .i64 u] := Blk.newAt (by simp) _ _
  have hbW : Below w.heap.size w ((((w.alloc (.cells #[.slice A l.length c] 22)).alloc (.cells zero8 23)).alloc (.cells #[.bool false] 4)).alloc (.cells #[.int .i64 u] 3)) := by (repeat' (first | (with_reducible exact Below.refl _ _) | (with_reducible assumption) | (with_reducible refine Below.next ?_ (by with_reducible assumption)) | (with_reducible refine Below.drew ?_) | (with_reducible refine Below.laid ?_ _) | (with_reducible refine Below.setCell ?_ ?_ _) | (with_reducible refine size_of ?_) | (with_reducible refine Nat.le_succ_of_le ?_) | go_size))
  have hsz : ((((w.alloc (.cells #[.slice A l.length c] 22)).alloc (.cells zero8 23)).alloc (.cells #[.bool false] 4)).alloc (.cells #[.int .i64 u] 3)).heap.size = w.heap.size + 4 := by simp
  generalize ((((w.alloc (.cells #[.slice A l.length c] 22)).alloc (.cells zero8 23)).alloc (.cells #[.bool false] 4)).alloc (.cells #[.int .i64 u] 3)) = W0 at hB0 hB1 hB2 hB3 hbW hsz
  have hC : ∀ b, (b = w.heap.size + 1 ∨ b = w.heap.size + 1 + 1) → w.heap.size ≤ b := by omega
  refine wpIn_rangeAll u HU.out (w.heap.size + 1 + 1 + 1) rfl (hB3.cell 0) rfl (fun b => b = w.heap.size + 1 ∨ b = w.heap.size + 1 + 1) (by intro b hb; omega)
    (fun pre W => (∀ x ∈ pre, Venn.rowsSo l x = false) ∧ Blk W (w.heap.size + 1) 23 zero8 ∧ Blk W (w.heap.size + 1 + 1) 4 #[.bool false])
    (fun c pre W => c = .ret ∧ (∃ pre' x, pre = pre' ++ [x] ∧ (∀ y ∈ pre', Venn.rowsSo l y = false) ∧ Venn.rowsSo l x = true ∧ Blk W (w.heap.size + 1) 23 (cells x)) ∧ Blk W (w.heap.size + 1 + 1) 4 #[.bool true])
    (by rintro s X Y hb ⟨h1, h2, h3⟩; exact ⟨h1, h2.below hb (by omega), h3.below hb (by omega)⟩)
    (by rintro c s X Y hb ⟨h1, ⟨p, x, h2, h3, h4, h5⟩, h6⟩; exact ⟨h1, ⟨p, x, h2, h3, h4, h5.below hb (by omega)⟩, h6.below hb (by omega)⟩)
    ⟨by simp, hB1, hB2⟩
    (fun x B => { tmps := #[.int .i64 u, .slice A l.length c, undef, .pointer (some ⟨w.heap.size, 0, none⟩), .pointer (some ⟨w.heap.size + 1, 0, none⟩), .pointer (some ⟨w.heap.size + 1 + 1, 0, none⟩), .pointer (some ⟨B, 0, none⟩), .int .i64 u, fitAllV (w.heap.size + 1 + 1 + 1), cntV x, undef, undef, undef, undef, undef], defers := [] }) ?assign ?body ?done ?stop
  case assign =>
    intro l x W K hm hK
    obtain ⟨a0, a1, a2, a3, a4, a5, a6, a7, rfl, _⟩ := Venn.of_allC HU.out hm
    unfold cntV
    gi_wp2
    exact hK
  case body =>
    rintro lo pre x rest W Bx hxs hbut ⟨h1, h2, h3⟩ hX hBx
    have hm : x ∈ Venn.allC u := by rw [hxs]; simp
    obtain ⟨a0, a1, a2, a3, a4, a5, a6, a7, rfl, b0, b1, b2, b3, b4, b5, b6, b7, _⟩ := Venn.of_allC HU.out hm
    have HLW := Lib.hid (HL.keep (hbW.trans (hbut.below (by omega) hC)))
    have hb0 := (hB0.but hbut (by omega)).cell 0
    simp only [List.map] at hX
    obtain ⟨⟨c0, c1, c2, c3, c4, c5, c6, c7⟩, _⟩ := hX.cells8
    have HB := Lib.hid (And.intro b0 (And.intro b1 (And.intro b2 (And.intro b3 (And.intro b4 (And.intro b5 (And.intro b6 b7)))))))
    have H1 := Lib.hid h1
    clear hm hxs h1 b0 b1 b2 b3 b4 b5 b6 b7
    unfold cntV
    have hd1 : 1 ≤ 2 := by decide
    rcases hso : Venn.rowsSo l [a0, a1, a2, a3, a4, a5, a6, a7] with _ | _
    · have HS := Lib.hid hso
      clear hso
      gi_wp2_with (refine ⟨trivial, ?_⟩; gi_at_call 55; refine (CallsIn.inRound lo (callsIn_wide.2 (rows_So _ l a0 a1 a2 a3 a4 a5 a6 a7 W HLW.out HOK.out HB.out))).mono ?_; rintro e W1 ⟨rfl, hb1⟩; rw [HS.out])
      refine ⟨But.of_below hb1, fun x hx => ?_, h2.keep hb1, h3.keep hb1⟩
      rcases List.mem_append.1 hx with h | h
      · exact H1.out x h
      · rw [List.mem_singleton.1 h]; exact HS.out
    · have HS := Lib.hid hso
      clear hso
      gi_wp2_with (refine ⟨trivial, ?_⟩; gi_at_call 55; refine (CallsIn.inRound lo (callsIn_wide.2 (rows_So _ l a0 a1 a2 a3 a4 a5 a6 a7 W HLW.out HOK.out HB.out))).mono ?_; rintro e W1 ⟨rfl, hb1⟩; rw [HS.out]; obtain ⟨⟨d0, d1, d2, d3, d4, d5, d6, d7⟩, _⟩ := (hX.keep hb1).cells8; obtain ⟨⟨e0, e1, e2, e3, e4, e5, e6, e7⟩, f0, f1, f2, f3, f4, f5, f6, f7⟩ := (h2.keep hb1).cells8; have e8 := (h3.keep hb1).cell 0; have f8 := (h3.keep hb1).frozen 0)
      exact ⟨(But.set8 (But.of_below hb1) (.inl rfl) _ _ _ _ _ _ _ _).set_ (.inr rfl) _, rfl, ⟨pre, _, rfl, H1.out, HS.out, ((h2.keep hb1).set8 _ _ _ _ _ _ _ _).far (by simp) _⟩,
        ((h3.keep hb1).far8 (by simp) _ _ _ _ _ _ _ _).set_ 0 _⟩
  case done =>
    rintro D W hD hbut ⟨h1, h2, h3⟩ hK
    obtain ⟨⟨e0, e1, e2, e3, e4, e5, e6, e7⟩, f0, f1, f2, f3, f4, f5, f6, f7⟩ := h2.cells8
    have e8 := h3.cell 0
    have f8 := h3.frozen 0
    have H1 := Lib.hid h1
    clear h1
    gi_wp2
    have hV := Lib.hid (show E = .tuple #[.agg zero8, .bool false] by
      rw [HE.out, Venn.firstFit, List.find?_eq_none.2 (fun x hx => by rw [H1.out x hx]; decide)]; rfl)
    have hK' := def_keep (hK8 hK (p := w.heap.size + 1) (by omega) (.int .i64 0) (.int .i64 0) (.int .i64 0) (.int .i64 0) (.int .i64 0) (.int .i64 0) (.int .i64 0) (.int .i64 0)) (p := ⟨w.heap.size + 1 + 1, 0, none⟩) (by show D ≠ w.heap.size + 1 + 1; omega) (.bool false)
    have G2 := ((h2.set8 (.int .i64 0) (.int .i64 0) (.int .i64 0) (.int .i64 0) (.int .i64 0) (.int .i64 0) (.int .i64 0) (.int .i64 0)).far (p := ⟨w.heap.size + 1 + 1, 0, none⟩) (by simp) (.bool false))
    have G3 := (h3.far8 (p := w.heap.size + 1) (by simp) (.int .i64 0) (.int .i64 0) (.int .i64 0) (.int .i64 0) (.int .i64 0) (.int .i64 0) (.int .i64 0) (.int .i64 0)).set_ 0 (.bool false)
    have GB := ((But.set8 hbut (p := w.heap.size + 1) (.inl rfl) (.int .i64 0) (.int .i64 0) (.int .i64 0) (.int .i64 0) (.int .i64 0) (.int .i64 0) (.int .i64 0) (.int .i64 0)).set_ (p := ⟨w.heap.size + 1 + 1, 0, none⟩) (.inr rfl) (.bool false)).put hD (.deferred none)
    clear h2 h3 hK e0 e1 e2 e3 e4 e5 e6 e7 e8 f0 f1 f2 f3 f4 f5 f6 f7 f8
    revert hK' G2 G3 GB
    generalize World.setCell _ _ _ = W1
    intro hK' G2 G3 GB
    obtain ⟨⟨e0, e1, e2, e3, e4, e5, e6, e7⟩, _⟩ := (G2.put (D := D) (by omega) (.deferred none)).cells8
    have e8 := (G3.put (D := D) (by omega) (.deferred none)).cell 0
    refine leave_mark (v := .tuple #[.agg zero8, .bool false]) rfl hK' ?_ ⟨congrArg Ending.returned hV.out.symm, hbW.trans (GB.below (by omega) hC)⟩
    generalize W1.putObj D (.deferred none) = W2 at e0 e1 e2 e3 e4 e5 e6 e7 e8 ⊢
    simp [results, Tryd.results57, go_sem, e0, e1, e2, e3, e4, e5, e6, e7, e8]
  case stop =>
    rintro D c pre x rest W hD hxs hbut ⟨rfl, ⟨pre', y, he, h3, h4, h5⟩, h6⟩ hK
    gi_wp2
    obtain ⟨rfl, rfl⟩ : pre' = pre ∧ y = x := by
      have := List.append_inj' he rfl
      exact ⟨this.1.symm, by simpa using this.2.symm⟩
    have hm : y ∈ Venn.allC u := by rw [hxs]; simp
    obtain ⟨a0, a1, a2, a3, a4, a5, a6, a7, rfl, _⟩ := Venn.of_allC HU.out hm
    have hV := Lib.hid (show E = .tuple #[.agg (cells [a0, a1, a2, a3, a4, a5, a6, a7]), .bool true] by
      rw [HE.out, Venn.firstFit, hxs, List.find?_append, List.find?_eq_none.2 (fun x hx => by rw [h3 x hx]; decide), List.find?_cons_of_pos h4]; rfl)
    have GB := hbut.put hD (.deferred none)
    simp only [cells, List.map] at h5 hV
    obtain ⟨⟨e0, e1, e2, e3, e4, e5, e6, e7⟩, _⟩ := (h5.put (D := D) (by omega) (.deferred none)).cells8
    have e8 := (h6.put (D := D) (by omega) (.deferred none)).cell 0
    refine leave_mark (v := .tuple #[.agg #[.int .i64 a0, .int .i64 a1, .int .i64 a2, .int .i64 a3, .int .i64 a4, .int .i64 a5, .int .i64 a6, .int .i64 a7], .bool true]) rfl hK ?_ ⟨congrArg Ending.returned hV.out.symm, hbW.trans (GB.below (by omega) hC)⟩
    generalize W.putObj D (.deferred none) = W2 at e0 e1 e2 e3 e4 e5 e6 e7 e8 ⊢
    simp [results, Tryd.results57, go_sem, e0, e1, e2, e3, e4, e5, e6, e7, e8]
end Go.Proofs.YtnjamgmaclmlpaaDoor
