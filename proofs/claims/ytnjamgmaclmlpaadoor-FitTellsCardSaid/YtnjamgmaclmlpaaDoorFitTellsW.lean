/-
  THE WALK of vennlaw1.FitTells.
-/
import Derived.Test.YtnjamgmaclmlpaaDoorRefAll
import Derived.Test.YtnjamgmaclmlpaaDoorRefRows
import Derived.Test.YtnjamgmaclmlpaaDoorRefFields
import Derived.Test.YtnjamgmaclmlpaaDoorFit
import Derived.Test.YtnjamgmaclmlpaaDoorEql
import Derived.Test.YtnjamgmaclmlpaaDoorLawF
namespace Go.Proofs.YtnjamgmaclmlpaaDoor
open Go.RowKit

theorem flat8_at : ∀ (l : List (List Int)) (k j : Nat) (x : List Int) (y : Int), (∀ r ∈ l, r.length = 8) → l[k]? = some x → x[j]? = some y → (flat8 l)[k * 8 + j]? = some (.int .i64 y) := by
  intro l
  induction l with
  | nil => intro k j x y _ h; simp at h
  | cons r l ih =>
    intro k j x y h hx hy
    have hr := h r (by simp)
    have hj : j < x.length := (List.getElem?_eq_some_iff.1 hy).1
    cases k with
    | zero =>
      simp at hx
      subst hx
      simp only [flat8, List.flatMap_cons, Nat.zero_mul, Nat.zero_add]
      rw [List.getElem?_append_left (by simpa using hj)]
      simp [hy]
    | succ k =>
      have h1 := ih k j x y (fun r hr => h r (List.mem_cons_of_mem _ hr)) (by simpa using hx) hy
      simp only [flat8, List.flatMap_cons]
      rw [List.getElem?_append_right (by simp; omega)]
      simp only [List.length_map, hr]
      rw [show (k + 1) * 8 + j - 8 = k * 8 + j by omega]
      exact h1
/-- The k-th list's cells. -/
theorem ownsRow_counts {w : World} {base e n : Nat} {v : Value} {l : List (List Int)} {k : Nat} {a0 a1 a2 a3 a4 a5 a6 a7 : Int} (h : w.ownsRow base e 8 v n (flat8 l)) (h8 : ∀ r ∈ l, r.length = 8) (hx : l[k]? = some [a0, a1, a2, a3, a4, a5, a6, a7]) (ad : Addr) (hv : v = .slice (some ad) n (match v with | .slice _ _ c => c | _ => 0)) :
    w.cell? (ad.add (k * 8)) = some (.int .i64 a0) ∧ w.cell? ⟨(ad.add (k * 8)).block, (ad.add (k * 8)).off + 1, none⟩ = some (.int .i64 a1) ∧ w.cell? ⟨(ad.add (k * 8)).block, (ad.add (k * 8)).off + 2, none⟩ = some (.int .i64 a2) ∧ w.cell? ⟨(ad.add (k * 8)).block, (ad.add (k * 8)).off + 3, none⟩ = some (.int .i64 a3) ∧ w.cell? ⟨(ad.add (k * 8)).block, (ad.add (k * 8)).off + 4, none⟩ = some (.int .i64 a4) ∧ w.cell? ⟨(ad.add (k * 8)).block, (ad.add (k * 8)).off + 5, none⟩ = some (.int .i64 a5) ∧ w.cell? ⟨(ad.add (k * 8)).block, (ad.add (k * 8)).off + 6, none⟩ = some (.int .i64 a6) ∧ w.cell? ⟨(ad.add (k * 8)).block, (ad.add (k * 8)).off + 7, none⟩ = some (.int .i64 a7) := by
  rcases h.2 with ⟨rfl, hn⟩ | ⟨g, cap, cur, rfl, _⟩
  · exact absurd hv (by simp)
  · simp only [Value.slice.injEq, Option.some.injEq, true_and] at hv
    obtain ⟨rfl, _⟩ := hv
    have hc : ∀ j y, ([a0, a1, a2, a3, a4, a5, a6, a7] : List Int)[j]? = some y → w.cell? (((⟨g, 0, none⟩ : Addr).add (k * 8)).add j) = some (.int .i64 y) := fun j y hy => by
      rw [add_of_add]
      exact h.cells (g := g) rfl _ _ (flat8_at l k j _ y h8 hx hy)
    exact ⟨hc 0 a0 rfl, hc 1 a1 rfl, hc 2 a2 rfl, hc 3 a3 rfl, hc 4 a4 rfl, hc 5 a5 rfl, hc 6 a6 rfl, hc 7 a7 rfl⟩
theorem eqItems_ints (d c : Nat) (xs ys : Array Value) (W : World) (f g : Nat → Int) : ∀ (is : List Nat), (∀ i ∈ is, (part 3 xs (i * c)).run Tryd.prog W = .ok (.int .i64 (f i)) W ∧ (part 3 ys (i * c)).run Tryd.prog W = .ok (.int .i64 (g i)) W) → (Op.eqItems (d + 1) 3 c xs ys is).run Tryd.prog W = .ok (is.all fun i => f i == g i) W := by
  intro is
  induction is with
  | nil => intro _; simp [Op.eqItems]
  | cons i is ih =>
    intro h
    obtain ⟨h1, h2⟩ := h i (by simp)
    have := ih fun j hj => h j (List.mem_cons_of_mem _ hj)
    simp only [Op.eqItems, Sem.run_bind, h1, h2, Result.andThen_ok, run_equalIn_int W d 3 .i64 .i64 (f i) (g i) int_underlying]
    cases hfg : f i == g i
    · simp [hfg]
    · simpa [hfg] using this
/-- Two arrays of eight counts: equal or not. -/
theorem equal_eights (a0 a1 a2 a3 a4 a5 a6 a7 b0 b1 b2 b3 b4 b5 b6 b7 : Int) (W : World) : (Op.equalIn 10000 23 (.agg #[.int .i64 a0, .int .i64 a1, .int .i64 a2, .int .i64 a3, .int .i64 a4, .int .i64 a5, .int .i64 a6, .int .i64 a7]) (.agg #[.int .i64 b0, .int .i64 b1, .int .i64 b2, .int .i64 b3, .int .i64 b4, .int .i64 b5, .int .i64 b6, .int .i64 b7])).run Tryd.prog W = .ok ([a0, a1, a2, a3, a4, a5, a6, a7] == [b0, b1, b2, b3, b4, b5, b6, b7]) W := by
  obtain ⟨i, hi⟩ := info_int
  rw [run_equalIn_array W 9999 _ _ Tryd.underlying23 hi, eqItems_ints 9998 _ _ _ W (fun j => [a0, a1, a2, a3, a4, a5, a6, a7].getD j 0) (fun j => [b0, b1, b2, b3, b4, b5, b6, b7].getD j 0) (List.range 8)]
  · congr 1
  · intro j hj
    rw [cells_int]
    have hj8 := List.mem_range.1 hj
    rcases (by omega : j = 0 ∨ j = 1 ∨ j = 2 ∨ j = 3 ∨ j = 4 ∨ j = 5 ∨ j = 6 ∨ j = 7) with rfl | rfl | rfl | rfl | rfl | rfl | rfl | rfl
    all_goals exact ⟨by kernel_rfl, by kernel_rfl⟩
/-- What the search has after k lists. -/
def FoundTo (LL : List (List Int)) (n : List Int) (k : Nat) (e : Int) (y : List Int) : Prop := y.length = 8 ∧ ((e = 5 ∧ y = [0, 0, 0, 0, 0, 0, 0, 0] ∧ n ∉ LL.take k) ∨ (e = 0 ∧ Venn.afterC n = some y))
theorem link_at {LL : List (List Int)} (h : Venn.linksB LL = true) {k : Nat} {x y : List Int} (hx : LL[k]? = some x) (hy : LL[k + 1]? = some y) : Venn.afterC x = some y := by
  have e : LL = LL.take k ++ x :: LL.drop (k + 1) := by
    have hk : k < LL.length := (List.getElem?_eq_some_iff.1 hx).1
    have h1 := List.drop_eq_getElem_cons hk
    rw [(List.getElem?_eq_some_iff.1 hx).2] at h1
    rw [← h1, List.take_append_drop]
  rw [e] at h
  rcases Venn.links_split _ _ _ h with ⟨h1, _⟩ | ⟨z, r, h1, h2⟩
  · have := (List.getElem?_eq_some_iff.1 hy).1
    have h3 := congrArg List.length h1
    simp at h3
    omega
  · have h3 : (LL.drop (k + 1))[0]? = some y := by rw [List.getElem?_drop]; simpa using hy
    rw [h1] at h3
    simp at h3
    rw [← h3]
    exact h2
theorem link_last {LL : List (List Int)} (h : Venn.linksB LL = true) {k : Nat} {x : List Int} (hx : LL[k]? = some x) (hk : k + 1 = LL.length) : Venn.afterC x = none := by
  have e : LL = LL.take k ++ x :: LL.drop (k + 1) := by
    have hk : k < LL.length := (List.getElem?_eq_some_iff.1 hx).1
    have h1 := List.drop_eq_getElem_cons hk
    rw [(List.getElem?_eq_some_iff.1 hx).2] at h1
    rw [← h1, List.take_append_drop]
  rw [e] at h
  rcases Venn.links_split _ _ _ h with ⟨_, h2⟩ | ⟨z, r, h1, _⟩
  · exact h2
  · have h3 := congrArg List.length h1
    simp at h3
    omega
/-- What the search has at its end is what Next says. -/
theorem found_next {u : Int} {n y : List Int} {e : Int} {k : Nat} (hu : Venn.things u = true) (hg : Venn.countsChk n = 0) (hs : n.sum = u) (hm : n ∈ Venn.allC u) (hk : k + 1 = (Venn.allC u).length) (h : FoundTo (Venn.allC u) n k e y) :
    nextV u n = .tuple #[.agg (cells y), errV e] := by
  obtain ⟨_, ⟨rfl, rfl, hn⟩ | ⟨rfl, ha⟩⟩ := h
  · have hlast : (Venn.allC u)[k]? = some n := by
      obtain ⟨j, hj, he⟩ := List.getElem_of_mem hm
      by_cases hjk : j < k
      · exact absurd (List.mem_take_iff_getElem.2 ⟨j, by omega, he⟩) hn
      · obtain rfl : j = k := by omega
        rw [List.getElem?_eq_getElem hj, he]
    have hnone := link_last (Venn.links_allC hu).1 hlast hk
    rw [nextV, if_pos hu, if_pos hg, if_pos hs, hnone]
    rfl
  · rw [nextV, if_pos hu, if_pos hg, if_pos hs, ha]
    rfl
theorem own_drewQ {w : World} {B e size n : Nat} {v : Value} {xs : List Value} (h : w.ownsRow B e size v n xs) (q : Nat) : (w.drewN q).ownsRow B e size v n xs := h
/-- A list of All stands. -/
theorem allC_stands {u : Int} (h : Venn.things u = true) {x : List Int} (hx : x ∈ Venn.allC u) : Venn.countsChk x = 0 := by
  obtain ⟨a0, a1, a2, a3, a4, a5, a6, a7, rfl, b0, b1, b2, b3, b4, b5, b6, b7, hs⟩ := Venn.of_allC h hx
  simp only [Venn.things, Bool.and_eq_true, decide_eq_true_eq] at h
  have hall : [a0, a1, a2, a3, a4, a5, a6, a7].all Venn.things = true := by simp [Venn.things]; omega
  have hsum : ¬ 6 < [a0, a1, a2, a3, a4, a5, a6, a7].sum := by simp; omega
  rw [Venn.countsChk, if_pos hall, if_neg hsum]
/-- The first of the lists that fits, as cells. -/
def leastOf (l LL : List (List Int)) : List Int := match LL.find? (Venn.rowsSo l) with
  | some x => x
  | none => [0, 0, 0, 0, 0, 0, 0, 0]
theorem leastOf_yes {l LL : List (List Int)} {x : List Int} (h : Venn.rowsSo l x = true) : leastOf l (x :: LL) = x := by simp [leastOf, h]
theorem leastOf_no {l LL : List (List Int)} {x : List Int} (h : Venn.rowsSo l x = false) : leastOf l (x :: LL) = leastOf l LL := by simp [leastOf, h]
theorem cntOf_yes {l LL : List (List Int)} {x : List Int} (h : Venn.rowsSo l x = true) : cntOf l (x :: LL) = cntOf l LL + 1 := by simp [cntOf, h]
theorem cntOf_no {l LL : List (List Int)} {x : List Int} (h : Venn.rowsSo l x = false) : cntOf l (x :: LL) = cntOf l LL := by simp [cntOf, h]
theorem leastOf_len {l LL : List (List Int)} (h8 : ∀ r ∈ LL, r.length = 8) : (leastOf l LL).length = 8 := by
  unfold leastOf
  cases hf : LL.find? (Venn.rowsSo l) with
  | none => rfl
  | some x => exact h8 x (List.mem_of_find?_eq_some hf)
set_option maxHeartbeats 4000000 in
set_option maxRecDepth 100000 in
theorem fitTells_a (u : Int) (v : Value) (l : List (List Int)) (n0 n1 n2 n3 n4 n5 n6 n7 : Int) (w : World) (hl : IsRows w v l) (HET : EtOk w) (hu : Venn.things u = true) (hr : Venn.rowsChk l = 0) :
    Calls Tryd.prog 3 #[.int .i64 u, v, .agg #[.int .i64 n0, .int .i64 n1, .int .i64 n2, .int .i64 n3, .int .i64 n4, .int .i64 n5, .int .i64 n6, .int .i64 n7]] w (Keeps (.bool true) w) := by
  obtain ⟨rA, rc, rfl, hl'⟩ := hl
  have HL := Lib.hid (show IsRows w (.slice rA l.length rc) l from ⟨rA, rc, rfl, hl'⟩)
  have hall : l.all Venn.rowOk = true := by
    unfold Venn.rowsChk at hr
    split at hr
    · cases hr
    · split at hr
      · assumption
      · cases hr
  have HALL := Lib.hid hall
  have HR := Lib.hid hr
  have HU := Lib.hid hu
  have hu' : 0 ≤ u ∧ u ≤ 6 := by simpa [Venn.things] using hu
  have q1 : ¬ u < 0 := by omega
  have q2 : ¬ 6 < u := by omega
  have H8 := Lib.hid (show ∀ r ∈ Venn.allC u, r.length = 8 from fun r h => ((Venn.mem_allC hu r).1 h).1)
  have HCK := Lib.hid (show ∀ r ∈ Venn.allC u, Venn.countsChk r = 0 from fun r h => allC_stands hu h)
  have HOF := Lib.hid (show ∀ r ∈ Venn.allC u, ∃ a0 a1 a2 a3 a4 a5 a6 a7 : Int, r = [a0, a1, a2, a3, a4, a5, a6, a7] from fun r h => by
    obtain ⟨a0, a1, a2, a3, a4, a5, a6, a7, e, _⟩ := Venn.of_allC hu h
    exact ⟨a0, a1, a2, a3, a4, a5, a6, a7, e⟩)
  have hlen := len_allC' hu
  have hpos : 0 < (Venn.allC u).length := by
    obtain ⟨x, hx⟩ := Venn.allC_ne hu
    exact List.length_pos_of_mem hx
  have h0 : Venn.fitChk u l = 0 := by rw [Venn.fitChk, if_pos hu]; exact hr
  have HMV := Lib.hid (show manyV u l = .tuple #[.int .i64 ((cntOf l (Venn.allC u) : Nat) : Int), errV 0] by rw [manyV, if_pos h0]; rfl)
  have HLV0 := Lib.hid (show cntOf l (Venn.allC u) = 0 → leastV u l = .tuple #[.agg zero8, errV 5] ∧ leastOf l (Venn.allC u) = [0, 0, 0, 0, 0, 0, 0, 0] from fun hc => by
    have hf : (Venn.allC u).find? (Venn.rowsSo l) = none := by
      rw [List.find?_eq_none]
      intro x hx hs
      have : x ∈ (Venn.allC u).filter (Venn.rowsSo l) := List.mem_filter.2 ⟨hx, hs⟩
      rw [List.eq_nil_of_length_eq_zero hc] at this
      cases this
    refine ⟨?_, by rw [leastOf, hf]⟩
    rw [leastV, if_pos h0, Venn.firstFit, hf])
  have HLV1 := Lib.hid (show cntOf l (Venn.allC u) ≠ 0 → leastV u l = .tuple #[.agg (cells (leastOf l (Venn.allC u))), errV 0] from fun hc => by
    cases hf : (Venn.allC u).find? (Venn.rowsSo l) with
    | none =>
      refine absurd ?_ hc
      unfold cntOf
      rw [List.length_eq_zero_iff, List.filter_eq_nil_iff]
      intro x hx hs
      exact (List.find?_eq_none.1 hf) x hx hs
    | some x => rw [leastV, if_pos h0, Venn.firstFit, hf, leastOf, hf]; rfl)
  clear hl' hall hr hu h0
  obtain ⟨LL, hLL⟩ : ∃ LL, LL = Venn.allC u := ⟨_, rfl⟩
  rw [← hLL] at H8 HCK HOF hlen hpos HMV HLV0 HLV1
  have HLL := Lib.hid hLL
  clear hLL
  go_enter Tryd.func3, Tryd.ntmps3
  go_wp2_with fail
  refine (ref_Rows _ l _ (HL.out.keep (by (repeat' (first | (with_reducible exact Below.refl _ _) | (with_reducible assumption) | (with_reducible refine Below.next ?_ (by with_reducible assumption)) | (with_reducible refine Below.drew ?_) | (with_reducible refine Below.laid ?_ _) | (with_reducible refine Below.setCell ?_ ?_ _) | (with_reducible refine size_of ?_) | (with_reducible refine Nat.le_succ_of_le ?_) | go_size))))).mono ?_
  rintro e w' ⟨rfl, rfl⟩
  rw [HR.out]
  go_wp2_with fail
  refine (ref_All u _ hu').mono ?_
  rintro e w1 ⟨v1, rfl, hb1, hO1⟩
  rw [← HLL.out] at hO1
  obtain ⟨ad, c1, rfl⟩ : ∃ ad c1, v1 = .slice (some ad) LL.length c1 := by
    rcases hO1.2 with ⟨_, h⟩ | ⟨g, cap, cur, h, _⟩
    · omega
    · exact ⟨_, _, h⟩
  replace hO1 := own_base (base' := w.heap.size + 2) hO1 (by simp)
  have BN := ((Blk.new w 23 #[.int .i64 n0, .int .i64 n1, .int .i64 n2, .int .i64 n3, .int .i64 n4, .int .i64 n5, .int .i64 n6, .int .i64 n7]).alloc _).keep hb1
  have BZ := (Blk.newAt (w := w.alloc (.cells #[.int .i64 n0, .int .i64 n1, .int .i64 n2, .int .i64 n3, .int .i64 n4, .int .i64 n5, .int .i64 n6, .int .i64 n7] 23)) (g := w.heap.size + 1) (by simp) 23 #[.int .i64 0, .int .i64 0, .int .i64 0, .int .i64 0, .int .i64 0, .int .i64 0, .int .i64 0, .int .i64 0]).keep hb1
  have hw1 : Below w.heap.size w w1 := by (repeat' (first | (with_reducible exact Below.refl _ _) | (with_reducible assumption) | (with_reducible refine Below.next ?_ (by with_reducible assumption)) | (with_reducible refine Below.drew ?_) | (with_reducible refine Below.laid ?_ _) | (with_reducible refine Below.setCell ?_ ?_ _) | (with_reducible refine size_of ?_) | (with_reducible refine Nat.le_succ_of_le ?_) | go_size))
  clear hb1
  have hwl : IntKind.i64.wrap ((LL.length : Int) - 1) = (LL.length : Int) - 1 := wrap_of (by omega) (by omega)
  go_wp2
  go_loopw [8, 11] (fun c i wr => ∃ (k : Nat) (j : Int), k ≤ LL.length ∧ j + 1 = (k : Int) ∧ i = .int .i64 j ∧ c = .int .i64 (cntOf l (LL.drop k) : Nat) ∧ Below w.heap.size w wr ∧ Blk wr w.heap.size 23 #[.int .i64 n0, .int .i64 n1, .int .i64 n2, .int .i64 n3, .int .i64 n4, .int .i64 n5, .int .i64 n6, .int .i64 n7] ∧ Blk wr (w.heap.size + 1) 23 (cells (leastOf l (LL.drop k))) ∧ wr.ownsRow (w.heap.size + 2) 23 8 (.slice (some ad) LL.length c1) LL.length (flat8 LL))
    (fun _ i _ => (intOf i + 1).toNat)
  case atStart => exact ⟨LL.length, _, Nat.le_refl _, by omega, rfl, by simp [cntOf], hw1, BN, by rw [List.drop_length]; exact BZ, hO1⟩
  case round =>
    clear BN BZ hO1 hw1 hwl
    obtain ⟨k, j, hk, hj, rfl, rfl, hw2, BN, BZ, hO⟩ := hrel
    by_cases hk0 : k = 0
    · subst hk0
      obtain rfl : j = -1 := by omega
      rw [List.drop_zero] at BZ ⊢
      go_wp2_with fail
      refine (fit_Many u _ l _ (HL.out.keep (by (repeat' (first | (with_reducible exact Below.refl _ _) | (with_reducible assumption) | (with_reducible refine Below.next ?_ (by with_reducible assumption)) | (with_reducible refine Below.drew ?_) | (with_reducible refine Below.laid ?_ _) | (with_reducible refine Below.setCell ?_ ?_ _) | (with_reducible refine size_of ?_) | (with_reducible refine Nat.le_succ_of_le ?_) | go_size))))).mono ?_
      rintro e w3 ⟨rfl, hb3⟩
      rw [HMV.out]
      replace BN := BN.keep hb3
      replace BZ := BZ.keep hb3
      have hw3 : Below w.heap.size w w3 := by (repeat' (first | (with_reducible exact Below.refl _ _) | (with_reducible assumption) | (with_reducible refine Below.next ?_ (by with_reducible assumption)) | (with_reducible refine Below.drew ?_) | (with_reducible refine Below.laid ?_ _) | (with_reducible refine Below.setCell ?_ ?_ _) | (with_reducible refine size_of ?_) | (with_reducible refine Nat.le_succ_of_le ?_) | go_size))
      go_wp2_with fail
      refine (vennsame_Error _ _ _ (HET.keep (by (repeat' (first | (with_reducible exact Below.refl _ _) | (with_reducible assumption) | (with_reducible refine Below.next ?_ (by with_reducible assumption)) | (with_reducible refine Below.drew ?_) | (with_reducible refine Below.laid ?_ _) | (with_reducible refine Below.setCell ?_ ?_ _) | (with_reducible refine size_of ?_) | (with_reducible refine Nat.le_succ_of_le ?_) | go_size))))).mono ?_
      rintro e w4 ⟨rfl, hb4⟩
      replace BN := BN.keep hb4
      replace BZ := BZ.keep hb4
      have hw4 : Below w.heap.size w w4 := by (repeat' (first | (with_reducible exact Below.refl _ _) | (with_reducible assumption) | (with_reducible refine Below.next ?_ (by with_reducible assumption)) | (with_reducible refine Below.drew ?_) | (with_reducible refine Below.laid ?_ _) | (with_reducible refine Below.setCell ?_ ?_ _) | (with_reducible refine size_of ?_) | (with_reducible refine Nat.le_succ_of_le ?_) | go_size))
      clear hb3 hb4 hO hw2 hw3
      by_cases hcz : cntOf l LL = 0
      · obtain ⟨hl1, hl2⟩ := HLV0.out hcz
        have HLV := Lib.hid hl1
        rw [hl2] at BZ
        rw [hcz]
        clear hl1 hl2 hcz
        go_wp2_with fail
        refine (fit_Least u _ l _ (HL.out.keep (by (repeat' (first | (with_reducible exact Below.refl _ _) | (with_reducible assumption) | (with_reducible refine Below.next ?_ (by with_reducible assumption)) | (with_reducible refine Below.drew ?_) | (with_reducible refine Below.laid ?_ _) | (with_reducible refine Below.setCell ?_ ?_ _) | (with_reducible refine size_of ?_) | (with_reducible refine Nat.le_succ_of_le ?_) | go_size))))).mono ?_
        rintro e w5 ⟨rfl, hb5⟩
        rw [HLV.out]
        replace BN := BN.keep hb5
        replace BZ := BZ.keep hb5
        have hw5 : Below w.heap.size w w5 := by (repeat' (first | (with_reducible exact Below.refl _ _) | (with_reducible assumption) | (with_reducible refine Below.next ?_ (by with_reducible assumption)) | (with_reducible refine Below.drew ?_) | (with_reducible refine Below.laid ?_ _) | (with_reducible refine Below.setCell ?_ ?_ _) | (with_reducible refine size_of ?_) | (with_reducible refine Nat.le_succ_of_le ?_) | go_size))
        go_wp2_with fail
        refine (vennsame_Error _ _ _ (HET.keep (by (repeat' (first | (with_reducible exact Below.refl _ _) | (with_reducible assumption) | (with_reducible refine Below.next ?_ (by with_reducible assumption)) | (with_reducible refine Below.drew ?_) | (with_reducible refine Below.laid ?_ _) | (with_reducible refine Below.setCell ?_ ?_ _) | (with_reducible refine size_of ?_) | (with_reducible refine Nat.le_succ_of_le ?_) | go_size))))).mono ?_
        rintro e w6 ⟨rfl, hb6⟩
        have BX := (Blk.new w5 23 #[.int .i64 0, .int .i64 0, .int .i64 0, .int .i64 0, .int .i64 0, .int .i64 0, .int .i64 0, .int .i64 0]).keep hb6
        replace BN := (BN.alloc _).keep hb6
        replace BZ := (BZ.alloc _).keep hb6
        have hw6 : Below w.heap.size w w6 := by (repeat' (first | (with_reducible exact Below.refl _ _) | (with_reducible assumption) | (with_reducible refine Below.next ?_ (by with_reducible assumption)) | (with_reducible refine Below.drew ?_) | (with_reducible refine Below.laid ?_ _) | (with_reducible refine Below.setCell ?_ ?_ _) | (with_reducible refine size_of ?_) | (with_reducible refine Nat.le_succ_of_le ?_) | go_size))
        obtain ⟨c0, c1', c2, c3, c4, c5, c6, c7⟩ := BX.cells8.1
        obtain ⟨d0, d1, d2, d3, d4, d5, d6, d7⟩ := BZ.cells8.1
        have hq := equal_counts 0 0 0 0 0 0 0 0 w6
        go_upto_region 22 with (fail)
        clear c0 c1' c2 c3 c4 c5 c6 c7 d0 d1 d2 d3 d4 d5 d6 d7 hq hb5 hb6 BX BZ hw4 hw5
        obtain ⟨f0, f1, f2, f3, f4, f5, f6, f7⟩ := BN.cells8.1
        have hnl := BN.lt
        go_wp2_with fail
        refine (ref_Counts _ _ _ _ _ _ _ _ _).mono ?_
        rintro e w7 ⟨rfl, hb7⟩
        replace BN := BN.keep hb7
        have hw7 : Below w.heap.size w w7 := by (repeat' (first | (with_reducible exact Below.refl _ _) | (with_reducible assumption) | (with_reducible refine Below.next ?_ (by with_reducible assumption)) | (with_reducible refine Below.drew ?_) | (with_reducible refine Below.laid ?_ _) | (with_reducible refine Below.setCell ?_ ?_ _) | (with_reducible refine size_of ?_) | (with_reducible refine Nat.le_succ_of_le ?_) | go_size))
        clear f0 f1 f2 f3 f4 f5 f6 f7 hnl hb7 hw6
        obtain ⟨f0, f1, f2, f3, f4, f5, f6, f7⟩ := BN.cells8.1
        have hnl := BN.lt
        by_cases hg : Venn.countsChk [n0, n1, n2, n3, n4, n5, n6, n7] = 0
        · have HGZ := Lib.hid hg
          obtain ⟨b0, b1, b2, b3, b4, b5, b6, b7⟩ := counts_bound hg
          rw [hg]
          clear hg
          have s1 : IntKind.i64.wrap n0 = n0 := wrap_of (by omega) (by omega)
          have s2 : IntKind.i64.wrap (n0 + n1) = n0 + n1 := wrap_of (by omega) (by omega)
          have s3 : IntKind.i64.wrap (n0 + n1 + n2) = n0 + n1 + n2 := wrap_of (by omega) (by omega)
          have s4 : IntKind.i64.wrap (n0 + n1 + n2 + n3) = n0 + n1 + n2 + n3 := wrap_of (by omega) (by omega)
          have s5 : IntKind.i64.wrap (n0 + n1 + n2 + n3 + n4) = n0 + n1 + n2 + n3 + n4 := wrap_of (by omega) (by omega)
          have s6 : IntKind.i64.wrap (n0 + n1 + n2 + n3 + n4 + n5) = n0 + n1 + n2 + n3 + n4 + n5 := wrap_of (by omega) (by omega)
          have s7 : IntKind.i64.wrap (n0 + n1 + n2 + n3 + n4 + n5 + n6) = n0 + n1 + n2 + n3 + n4 + n5 + n6 := wrap_of (by omega) (by omega)
          have s8 : IntKind.i64.wrap (n0 + n1 + n2 + n3 + n4 + n5 + n6 + n7) = n0 + n1 + n2 + n3 + n4 + n5 + n6 + n7 := wrap_of (by omega) (by omega)
          have HSUM := Lib.hid (show ([n0, n1, n2, n3, n4, n5, n6, n7] : List Int).sum = n0 + n1 + n2 + n3 + n4 + n5 + n6 + n7 by simp; omega)
          clear b0 b1 b2 b3 b4 b5 b6 b7
          go_wp2_with fail
          refine wp_loop_rounds 9 ?_
          iterate 8
            rw [rounds_succ]
            go_wp2_with fail
          rw [rounds_succ]
          by_cases hsu : n0 + n1 + n2 + n3 + n4 + n5 + n6 + n7 = u
          · go_wp2_with fail
            refine (ref_All u _ hu').mono ?_
            rintro e w8 ⟨v2, rfl, hb8, hO2⟩
            rw [← HLL.out] at hO2
            obtain ⟨ad2, k2, rfl⟩ : ∃ ad2 k2, v2 = .slice (some ad2) LL.length k2 := by
              rcases hO2.2 with ⟨_, h⟩ | ⟨g, cap, cur, h, _⟩
              · omega
              · exact ⟨_, _, h⟩
            replace hO2 := own_base (base' := w7.heap.size + 1) hO2 (by simp)
            have BY := (Blk.new w7 23 #[.int .i64 0, .int .i64 0, .int .i64 0, .int .i64 0, .int .i64 0, .int .i64 0, .int .i64 0, .int .i64 0]).keep hb8
            replace BN := (BN.alloc _).keep hb8
            have hw8 : Below w.heap.size w w8 := by (repeat' (first | (with_reducible exact Below.refl _ _) | (with_reducible assumption) | (with_reducible refine Below.next ?_ (by with_reducible assumption)) | (with_reducible refine Below.drew ?_) | (with_reducible refine Below.laid ?_ _) | (with_reducible refine Below.setCell ?_ ?_ _) | (with_reducible refine size_of ?_) | (with_reducible refine Nat.le_succ_of_le ?_) | go_size))
            have hsz7 : w.heap.size + 1 < w7.heap.size + 1 := by omega
            have hwl : IntKind.i64.wrap ((LL.length : Int) - 1) = (LL.length : Int) - 1 := wrap_of (by omega) (by omega)
            clear f0 f1 f2 f3 f4 f5 f6 f7 hnl s1 s2 s3 s4 s5 s6 s7 s8 hb8
            go_wp2
            go_loopw [7, 22] (fun er i wr => ∃ (k : Nat) (eN : Int) (y : List Int), k + 1 ≤ LL.length ∧ i = .int .i64 (k : Int) ∧ er = .int .i64 eN ∧ FoundTo LL [n0, n1, n2, n3, n4, n5, n6, n7] k eN y ∧ Below w.heap.size w wr ∧ Blk wr w.heap.size 23 #[.int .i64 n0, .int .i64 n1, .int .i64 n2, .int .i64 n3, .int .i64 n4, .int .i64 n5, .int .i64 n6, .int .i64 n7] ∧ Blk wr w7.heap.size 23 (cells y) ∧ wr.ownsRow (w7.heap.size + 1) 23 8 (.slice (some ad2) LL.length k2) LL.length (flat8 LL))
              (fun _ i _ => LL.length - (intOf i).toNat)
            case atStart => exact ⟨0, 5, [0, 0, 0, 0, 0, 0, 0, 0], by omega, rfl, rfl, ⟨rfl, .inl ⟨rfl, rfl, by simp⟩⟩, hw8, BN, BY, hO2⟩
            case round =>
              clear BN BY hO2 hw8
              obtain ⟨k, eN, y, hk, rfl, rfl, hF, hw8, BN, BY, hO2⟩ := hrel
              by_cases hlt : (k : Int) < (LL.length : Int) - 1
              · have hm1 : LL[k] ∈ LL := List.getElem_mem (by omega)
                have hm2 : LL[k + 1] ∈ LL := List.getElem_mem (by omega)
                obtain ⟨a0, a1, a2, a3, a4, a5, a6, a7, hx⟩ := HOF.out _ hm1
                obtain ⟨e0, e1, e2, e3, e4, e5, e6, e7, hx2⟩ := HOF.out _ hm2
                have hX1 : LL[k]? = some [a0, a1, a2, a3, a4, a5, a6, a7] := by rw [List.getElem?_eq_getElem (by omega), hx]
                have hX2 : LL[k + 1]? = some [e0, e1, e2, e3, e4, e5, e6, e7] := by rw [List.getElem?_eq_getElem (by omega), hx2]
                have HAF := Lib.hid (link_at (HLL.out ▸ (Venn.links_allC HU.out).1) hX1 hX2)
                have HTK := Lib.hid (show LL.take (k + 1) = LL.take k ++ [[a0, a1, a2, a3, a4, a5, a6, a7]] by rw [← List.take_append_getElem (by omega), hx])
                obtain ⟨p0, p1, p2, p3, p4, p5, p6, p7⟩ := ownsRow_counts hO2 H8.out hX1 ad2 rfl
                obtain ⟨r0, r1, r2, r3, r4, r5, r6, r7⟩ := ownsRow_counts hO2 H8.out hX2 ad2 rfl
                obtain ⟨y0, y1, y2, y3, y4, y5, y6, y7, rfl⟩ : ∃ y0 y1 y2 y3 y4 y5 y6 y7 : Int, y = [y0, y1, y2, y3, y4, y5, y6, y7] := by
                  match y, hF.1 with
                  | [y0, y1, y2, y3, y4, y5, y6, y7], _ => exact ⟨_, _, _, _, _, _, _, _, rfl⟩
                simp only [cells, List.map] at BY
                obtain ⟨f0, f1, f2, f3, f4, f5, f6, f7⟩ := BN.cells8.1
                have hnl := BN.lt
                obtain ⟨⟨g0, g1, g2, g3, g4, g5, g6, g7⟩, t0, t1, t2, t3, t4, t5, t6, t7⟩ := BY.cells8
                have hyl := BY.lt
                have k0 : (0 : Int) ≤ (k : Int) := by omega
                have k1 : (k : Int) < (LL.length : Int) := by omega
                have k3 : (k : Int) + 1 < (LL.length : Int) := by omega
                have k4 : (0 : Int) ≤ (k : Int) + 1 := by omega
                have k5 : IntKind.i64.wrap ((k : Int) + 1) = (k : Int) + 1 := wrap_of (by omega) (by omega)
                have hq := fun W => equal_eights a0 a1 a2 a3 a4 a5 a6 a7 n0 n1 n2 n3 n4 n5 n6 n7 W
                clear hx hx2 hX1 hX2 hm1 hm2
                cases hxe : ([a0, a1, a2, a3, a4, a5, a6, a7] : List Int) == [n0, n1, n2, n3, n4, n5, n6, n7]
                · have HNX := Lib.hid (show FoundTo LL [n0, n1, n2, n3, n4, n5, n6, n7] (k + 1) eN [y0, y1, y2, y3, y4, y5, y6, y7] by
                    refine ⟨rfl, hF.2.imp (fun h => ⟨h.1, h.2.1, fun hm => ?_⟩) id⟩
                    rw [HTK.out] at hm
                    rcases List.mem_append.1 hm with h1 | h1
                    · exact h.2.2 h1
                    · rw [List.mem_singleton.1 h1] at hxe
                      simp at hxe)
                  simp only [hxe] at hq
                  clear hxe hF
                  go_wp2_with fail
                  go_quiet (fail)
                  go_wp2
                  go_roundw
                  case rel => exact ⟨k + 1, eN, _, by omega, by go_num, rfl, HNX.out, below_drewN hw8 _, BN.drewN _, BY.drewN _, own_drewQ hO2 _⟩
                  case measure => simp [intOf]; omega
                · have HNX := Lib.hid (show FoundTo LL [n0, n1, n2, n3, n4, n5, n6, n7] (k + 1) 0 [e0, e1, e2, e3, e4, e5, e6, e7] from ⟨rfl, .inr ⟨rfl, by rw [← eq_of_beq hxe]; exact HAF.out⟩⟩)
                  simp only [hxe] at hq
                  clear hxe hF
                  go_wp2_with fail
                  go_quiet (fail)
                  go_wp2
                  go_roundw
                  case rel => exact ⟨k + 1, 0, [e0, e1, e2, e3, e4, e5, e6, e7], by omega, by go_num, rfl, HNX.out, below_set8 (below_drewN hw8 _) (show w.heap.size ≤ w7.heap.size by omega) (.int .i64 e0) (.int .i64 e1) (.int .i64 e2) (.int .i64 e3) (.int .i64 e4) (.int .i64 e5) (.int .i64 e6) (.int .i64 e7), (BN.drewN _).far8 (p := w7.heap.size) (by omega) (.int .i64 e0) (.int .i64 e1) (.int .i64 e2) (.int .i64 e3) (.int .i64 e4) (.int .i64 e5) (.int .i64 e6) (.int .i64 e7), (BY.drewN _).set8 (.int .i64 e0) (.int .i64 e1) (.int .i64 e2) (.int .i64 e3) (.int .i64 e4) (.int .i64 e5) (.int .i64 e6) (.int .i64 e7), own_but (C := fun b => b = w7.heap.size) (own_drewQ hO2 _) ((But.refl (fun b => b = w7.heap.size) _).set8 (p := w7.heap.size) rfl (.int .i64 e0) (.int .i64 e1) (.int .i64 e2) (.int .i64 e3) (.int .i64 e4) (.int .i64 e5) (.int .i64 e6) (.int .i64 e7)) (fun b hb e => by have h2 := (hO2.lt b hb).1; omega)⟩
                  case measure => simp [intOf]; omega
              · have hk1 : k + 1 = LL.length := by omega
                have hmem : [n0, n1, n2, n3, n4, n5, n6, n7] ∈ Venn.allC u := by
                  obtain ⟨b0, b1, b2, b3, b4, b5, b6, b7⟩ := counts_bound HGZ.out
                  refine (Venn.mem_allC HU.out _).2 ⟨rfl, ?_, HSUM.out.trans hsu⟩
                  simp only [List.mem_cons, List.not_mem_nil, or_false, forall_eq_or_imp, forall_eq]
                  exact ⟨b0.1, b1.1, b2.1, b3.1, b4.1, b5.1, b6.1, b7.1⟩
                rw [HLL.out] at hk1 hF
                have HNV := Lib.hid (found_next HU.out HGZ.out (HSUM.out.trans hsu) hmem hk1 hF)
                obtain ⟨y0, y1, y2, y3, y4, y5, y6, y7, rfl⟩ : ∃ y0 y1 y2 y3 y4 y5 y6 y7 : Int, y = [y0, y1, y2, y3, y4, y5, y6, y7] := by
                  match y, hF.1 with
                  | [y0, y1, y2, y3, y4, y5, y6, y7], _ => exact ⟨_, _, _, _, _, _, _, _, rfl⟩
                simp only [cells, List.map] at BY HNV
                obtain ⟨f0, f1, f2, f3, f4, f5, f6, f7⟩ := BN.cells8.1
                have hnl := BN.lt
                clear hk1 hF hmem hO2 BN
                go_wp2_with fail
                refine (fit_Next u n0 n1 n2 n3 n4 n5 n6 n7 _).mono ?_
                rintro e w9 ⟨rfl, hb9⟩
                rw [HNV.out]
                replace BY := BY.keep hb9
                have hw9 : Below w.heap.size w w9 := by (repeat' (first | (with_reducible exact Below.refl _ _) | (with_reducible assumption) | (with_reducible refine Below.next ?_ (by with_reducible assumption)) | (with_reducible refine Below.drew ?_) | (with_reducible refine Below.laid ?_ _) | (with_reducible refine Below.setCell ?_ ?_ _) | (with_reducible refine size_of ?_) | (with_reducible refine Nat.le_succ_of_le ?_) | go_size))
                go_wp2_with fail
                refine (vennsame_Error _ _ _ (HET.keep (by (repeat' (first | (with_reducible exact Below.refl _ _) | (with_reducible assumption) | (with_reducible refine Below.next ?_ (by with_reducible assumption)) | (with_reducible refine Below.drew ?_) | (with_reducible refine Below.laid ?_ _) | (with_reducible refine Below.setCell ?_ ?_ _) | (with_reducible refine size_of ?_) | (with_reducible refine Nat.le_succ_of_le ?_) | go_size))))).mono ?_
                rintro e wA ⟨rfl, hbA⟩
                have BX := (Blk.new w9 23 #[.int .i64 y0, .int .i64 y1, .int .i64 y2, .int .i64 y3, .int .i64 y4, .int .i64 y5, .int .i64 y6, .int .i64 y7]).keep hbA
                replace BY := (BY.alloc _).keep hbA
                have hwA : Below w.heap.size w wA := by (repeat' (first | (with_reducible exact Below.refl _ _) | (with_reducible assumption) | (with_reducible refine Below.next ?_ (by with_reducible assumption)) | (with_reducible refine Below.drew ?_) | (with_reducible refine Below.laid ?_ _) | (with_reducible refine Below.setCell ?_ ?_ _) | (with_reducible refine size_of ?_) | (with_reducible refine Nat.le_succ_of_le ?_) | go_size))
                obtain ⟨c0, c1', c2, c3, c4, c5, c6, c7⟩ := BX.cells8.1
                obtain ⟨d0, d1, d2, d3, d4, d5, d6, d7⟩ := BY.cells8.1
                have hq := equal_counts y0 y1 y2 y3 y4 y5 y6 y7 wA
                go_wp2
                go_ret
                exact ⟨by simp, hwA⟩
          · have HNV := Lib.hid (show nextV u [n0, n1, n2, n3, n4, n5, n6, n7] = .tuple #[.agg zero8, errV 3] by rw [nextV, if_pos HU.out, if_pos HGZ.out, if_neg (by rw [HSUM.out]; exact hsu)])
            have hsu1 : (n0 + n1 + n2 + n3 + n4 + n5 + n6 + n7 == u) = false := by simpa using hsu
            clear s1 s2 s3 s4 s5 s6 s7 s8
            go_wp2_with fail
            refine (fit_Next u n0 n1 n2 n3 n4 n5 n6 n7 _).mono ?_
            rintro e w8 ⟨rfl, hb8⟩
            rw [HNV.out]
            have BY := (Blk.new w7 23 #[.int .i64 0, .int .i64 0, .int .i64 0, .int .i64 0, .int .i64 0, .int .i64 0, .int .i64 0, .int .i64 0]).keep hb8
            have hw8 : Below w.heap.size w w8 := by (repeat' (first | (with_reducible exact Below.refl _ _) | (with_reducible assumption) | (with_reducible refine Below.next ?_ (by with_reducible assumption)) | (with_reducible refine Below.drew ?_) | (with_reducible refine Below.laid ?_ _) | (with_reducible refine Below.setCell ?_ ?_ _) | (with_reducible refine size_of ?_) | (with_reducible refine Nat.le_succ_of_le ?_) | go_size))
            go_wp2_with fail
            refine (vennsame_Error _ _ _ (HET.keep (by (repeat' (first | (with_reducible exact Below.refl _ _) | (with_reducible assumption) | (with_reducible refine Below.next ?_ (by with_reducible assumption)) | (with_reducible refine Below.drew ?_) | (with_reducible refine Below.laid ?_ _) | (with_reducible refine Below.setCell ?_ ?_ _) | (with_reducible refine size_of ?_) | (with_reducible refine Nat.le_succ_of_le ?_) | go_size))))).mono ?_
            rintro e w9 ⟨rfl, hb9⟩
            have BX := (Blk.new w8 23 #[.int .i64 0, .int .i64 0, .int .i64 0, .int .i64 0, .int .i64 0, .int .i64 0, .int .i64 0, .int .i64 0]).keep hb9
            replace BY := (BY.alloc _).keep hb9
            have hw9 : Below w.heap.size w w9 := by (repeat' (first | (with_reducible exact Below.refl _ _) | (with_reducible assumption) | (with_reducible refine Below.next ?_ (by with_reducible assumption)) | (with_reducible refine Below.drew ?_) | (with_reducible refine Below.laid ?_ _) | (with_reducible refine Below.setCell ?_ ?_ _) | (with_reducible refine size_of ?_) | (with_reducible refine Nat.le_succ_of_le ?_) | go_size))
            obtain ⟨c0, c1', c2, c3, c4, c5, c6, c7⟩ := BX.cells8.1
            obtain ⟨d0, d1, d2, d3, d4, d5, d6, d7⟩ := BY.cells8.1
            have hq := equal_counts 0 0 0 0 0 0 0 0 w9
            go_wp2
            go_ret
            exact ⟨by simp, hw9⟩
        · have HNV := Lib.hid (show nextV u [n0, n1, n2, n3, n4, n5, n6, n7] = .tuple #[.agg zero8, errV (Venn.countsChk [n0, n1, n2, n3, n4, n5, n6, n7])] by rw [nextV, if_pos HU.out, if_neg hg])
          have hg1 : (Venn.countsChk [n0, n1, n2, n3, n4, n5, n6, n7] == 0) = false := by simpa using hg
          have hg2 : ¬ Venn.countsChk [n0, n1, n2, n3, n4, n5, n6, n7] = 0 := hg
          clear hg
          generalize Venn.countsChk [n0, n1, n2, n3, n4, n5, n6, n7] = CE at HNV hg1 hg2
          go_wp2_with fail
          refine wp_loop_rounds 1 ?_
          rw [rounds_succ]
          go_wp2_with fail
          refine (fit_Next u n0 n1 n2 n3 n4 n5 n6 n7 _).mono ?_
          rintro e w8 ⟨rfl, hb8⟩
          rw [HNV.out]
          have BY := (Blk.new w7 23 #[.int .i64 0, .int .i64 0, .int .i64 0, .int .i64 0, .int .i64 0, .int .i64 0, .int .i64 0, .int .i64 0]).keep hb8
          have hw8 : Below w.heap.size w w8 := by (repeat' (first | (with_reducible exact Below.refl _ _) | (with_reducible assumption) | (with_reducible refine Below.next ?_ (by with_reducible assumption)) | (with_reducible refine Below.drew ?_) | (with_reducible refine Below.laid ?_ _) | (with_reducible refine Below.setCell ?_ ?_ _) | (with_reducible refine size_of ?_) | (with_reducible refine Nat.le_succ_of_le ?_) | go_size))
          go_wp2_with fail
          refine (vennsame_Error _ _ _ (HET.keep (by (repeat' (first | (with_reducible exact Below.refl _ _) | (with_reducible assumption) | (with_reducible refine Below.next ?_ (by with_reducible assumption)) | (with_reducible refine Below.drew ?_) | (with_reducible refine Below.laid ?_ _) | (with_reducible refine Below.setCell ?_ ?_ _) | (with_reducible refine size_of ?_) | (with_reducible refine Nat.le_succ_of_le ?_) | go_size))))).mono ?_
          rintro e w9 ⟨rfl, hb9⟩
          have BX := (Blk.new w8 23 #[.int .i64 0, .int .i64 0, .int .i64 0, .int .i64 0, .int .i64 0, .int .i64 0, .int .i64 0, .int .i64 0]).keep hb9
          replace BY := (BY.alloc _).keep hb9
          have hw9 : Below w.heap.size w w9 := by (repeat' (first | (with_reducible exact Below.refl _ _) | (with_reducible assumption) | (with_reducible refine Below.next ?_ (by with_reducible assumption)) | (with_reducible refine Below.drew ?_) | (with_reducible refine Below.laid ?_ _) | (with_reducible refine Below.setCell ?_ ?_ _) | (with_reducible refine size_of ?_) | (with_reducible refine Nat.le_succ_of_le ?_) | go_size))
          obtain ⟨c0, c1', c2, c3, c4, c5, c6, c7⟩ := BX.cells8.1
          obtain ⟨d0, d1, d2, d3, d4, d5, d6, d7⟩ := BY.cells8.1
          have hq := equal_counts 0 0 0 0 0 0 0 0 w9
          go_wp2
          go_ret
          exact ⟨by simp, hw9⟩
      · have HLV := Lib.hid (HLV1.out hcz)
        obtain ⟨z0, z1, z2, z3, z4, z5, z6, z7, hz⟩ : ∃ z0 z1 z2 z3 z4 z5 z6 z7 : Int, leastOf l LL = [z0, z1, z2, z3, z4, z5, z6, z7] := by
          have h8 := leastOf_len (l := l) (LL := LL) H8.out
          revert h8
          generalize leastOf l LL = Z
          intro h8
          match Z, h8 with
          | [z0, z1, z2, z3, z4, z5, z6, z7], _ => exact ⟨_, _, _, _, _, _, _, _, rfl⟩
        rw [hz] at HLV BZ
        simp only [cells, List.map] at HLV BZ
        have hcz1 : (cntOf l LL == 0) = false := by simpa using hcz
        have hcz2 : ¬ ((cntOf l LL : Nat) : Int) = 0 := by omega
        clear hcz hz HLV0 HLV1 HMV
        generalize cntOf l LL = CN at hcz1 hcz2
        go_wp2_with fail
        refine (fit_Least u _ l _ (HL.out.keep (by (repeat' (first | (with_reducible exact Below.refl _ _) | (with_reducible assumption) | (with_reducible refine Below.next ?_ (by with_reducible assumption)) | (with_reducible refine Below.drew ?_) | (with_reducible refine Below.laid ?_ _) | (with_reducible refine Below.setCell ?_ ?_ _) | (with_reducible refine size_of ?_) | (with_reducible refine Nat.le_succ_of_le ?_) | go_size))))).mono ?_
        rintro e w5 ⟨rfl, hb5⟩
        rw [HLV.out]
        replace BN := BN.keep hb5
        replace BZ := BZ.keep hb5
        have hw5 : Below w.heap.size w w5 := by (repeat' (first | (with_reducible exact Below.refl _ _) | (with_reducible assumption) | (with_reducible refine Below.next ?_ (by with_reducible assumption)) | (with_reducible refine Below.drew ?_) | (with_reducible refine Below.laid ?_ _) | (with_reducible refine Below.setCell ?_ ?_ _) | (with_reducible refine size_of ?_) | (with_reducible refine Nat.le_succ_of_le ?_) | go_size))
        go_wp2_with fail
        refine (vennsame_Error _ _ _ (HET.keep (by (repeat' (first | (with_reducible exact Below.refl _ _) | (with_reducible assumption) | (with_reducible refine Below.next ?_ (by with_reducible assumption)) | (with_reducible refine Below.drew ?_) | (with_reducible refine Below.laid ?_ _) | (with_reducible refine Below.setCell ?_ ?_ _) | (with_reducible refine size_of ?_) | (with_reducible refine Nat.le_succ_of_le ?_) | go_size))))).mono ?_
        rintro e w6 ⟨rfl, hb6⟩
        have BX := (Blk.new w5 23 #[.int .i64 z0, .int .i64 z1, .int .i64 z2, .int .i64 z3, .int .i64 z4, .int .i64 z5, .int .i64 z6, .int .i64 z7]).keep hb6
        replace BN := (BN.alloc _).keep hb6
        replace BZ := (BZ.alloc _).keep hb6
        have hw6 : Below w.heap.size w w6 := by (repeat' (first | (with_reducible exact Below.refl _ _) | (with_reducible assumption) | (with_reducible refine Below.next ?_ (by with_reducible assumption)) | (with_reducible refine Below.drew ?_) | (with_reducible refine Below.laid ?_ _) | (with_reducible refine Below.setCell ?_ ?_ _) | (with_reducible refine size_of ?_) | (with_reducible refine Nat.le_succ_of_le ?_) | go_size))
        obtain ⟨c0, c1', c2, c3, c4, c5, c6, c7⟩ := BX.cells8.1
        obtain ⟨d0, d1, d2, d3, d4, d5, d6, d7⟩ := BZ.cells8.1
        have hq := equal_counts z0 z1 z2 z3 z4 z5 z6 z7 w6
        go_upto_region 22 with (fail)
        clear c0 c1' c2 c3 c4 c5 c6 c7 d0 d1 d2 d3 d4 d5 d6 d7 hq hb5 hb6 BX BZ hw4 hw5
        obtain ⟨f0, f1, f2, f3, f4, f5, f6, f7⟩ := BN.cells8.1
        have hnl := BN.lt
        go_wp2_with fail
        refine (ref_Counts _ _ _ _ _ _ _ _ _).mono ?_
        rintro e w7 ⟨rfl, hb7⟩
        replace BN := BN.keep hb7
        have hw7 : Below w.heap.size w w7 := by (repeat' (first | (with_reducible exact Below.refl _ _) | (with_reducible assumption) | (with_reducible refine Below.next ?_ (by with_reducible assumption)) | (with_reducible refine Below.drew ?_) | (with_reducible refine Below.laid ?_ _) | (with_reducible refine Below.setCell ?_ ?_ _) | (with_reducible refine size_of ?_) | (with_reducible refine Nat.le_succ_of_le ?_) | go_size))
        clear f0 f1 f2 f3 f4 f5 f6 f7 hnl hb7 hw6
        obtain ⟨f0, f1, f2, f3, f4, f5, f6, f7⟩ := BN.cells8.1
        have hnl := BN.lt
        by_cases hg : Venn.countsChk [n0, n1, n2, n3, n4, n5, n6, n7] = 0
        · have HGZ := Lib.hid hg
          obtain ⟨b0, b1, b2, b3, b4, b5, b6, b7⟩ := counts_bound hg
          rw [hg]
          clear hg
          have s1 : IntKind.i64.wrap n0 = n0 := wrap_of (by omega) (by omega)
          have s2 : IntKind.i64.wrap (n0 + n1) = n0 + n1 := wrap_of (by omega) (by omega)
          have s3 : IntKind.i64.wrap (n0 + n1 + n2) = n0 + n1 + n2 := wrap_of (by omega) (by omega)
          have s4 : IntKind.i64.wrap (n0 + n1 + n2 + n3) = n0 + n1 + n2 + n3 := wrap_of (by omega) (by omega)
          have s5 : IntKind.i64.wrap (n0 + n1 + n2 + n3 + n4) = n0 + n1 + n2 + n3 + n4 := wrap_of (by omega) (by omega)
          have s6 : IntKind.i64.wrap (n0 + n1 + n2 + n3 + n4 + n5) = n0 + n1 + n2 + n3 + n4 + n5 := wrap_of (by omega) (by omega)
          have s7 : IntKind.i64.wrap (n0 + n1 + n2 + n3 + n4 + n5 + n6) = n0 + n1 + n2 + n3 + n4 + n5 + n6 := wrap_of (by omega) (by omega)
          have s8 : IntKind.i64.wrap (n0 + n1 + n2 + n3 + n4 + n5 + n6 + n7) = n0 + n1 + n2 + n3 + n4 + n5 + n6 + n7 := wrap_of (by omega) (by omega)
          have HSUM := Lib.hid (show ([n0, n1, n2, n3, n4, n5, n6, n7] : List Int).sum = n0 + n1 + n2 + n3 + n4 + n5 + n6 + n7 by simp; omega)
          clear b0 b1 b2 b3 b4 b5 b6 b7
          go_wp2_with fail
          refine wp_loop_rounds 9 ?_
          iterate 8
            rw [rounds_succ]
            go_wp2_with fail
          rw [rounds_succ]
          by_cases hsu : n0 + n1 + n2 + n3 + n4 + n5 + n6 + n7 = u
          · go_wp2_with fail
            refine (ref_All u _ hu').mono ?_
            rintro e w8 ⟨v2, rfl, hb8, hO2⟩
            rw [← HLL.out] at hO2
            obtain ⟨ad2, k2, rfl⟩ : ∃ ad2 k2, v2 = .slice (some ad2) LL.length k2 := by
              rcases hO2.2 with ⟨_, h⟩ | ⟨g, cap, cur, h, _⟩
              · omega
              · exact ⟨_, _, h⟩
            replace hO2 := own_base (base' := w7.heap.size + 1) hO2 (by simp)
            have BY := (Blk.new w7 23 #[.int .i64 0, .int .i64 0, .int .i64 0, .int .i64 0, .int .i64 0, .int .i64 0, .int .i64 0, .int .i64 0]).keep hb8
            replace BN := (BN.alloc _).keep hb8
            have hw8 : Below w.heap.size w w8 := by (repeat' (first | (with_reducible exact Below.refl _ _) | (with_reducible assumption) | (with_reducible refine Below.next ?_ (by with_reducible assumption)) | (with_reducible refine Below.drew ?_) | (with_reducible refine Below.laid ?_ _) | (with_reducible refine Below.setCell ?_ ?_ _) | (with_reducible refine size_of ?_) | (with_reducible refine Nat.le_succ_of_le ?_) | go_size))
            have hsz7 : w.heap.size + 1 < w7.heap.size + 1 := by omega
            have hwl : IntKind.i64.wrap ((LL.length : Int) - 1) = (LL.length : Int) - 1 := wrap_of (by omega) (by omega)
            clear f0 f1 f2 f3 f4 f5 f6 f7 hnl s1 s2 s3 s4 s5 s6 s7 s8 hb8
            go_wp2
            go_loopw [7, 22] (fun er i wr => ∃ (k : Nat) (eN : Int) (y : List Int), k + 1 ≤ LL.length ∧ i = .int .i64 (k : Int) ∧ er = .int .i64 eN ∧ FoundTo LL [n0, n1, n2, n3, n4, n5, n6, n7] k eN y ∧ Below w.heap.size w wr ∧ Blk wr w.heap.size 23 #[.int .i64 n0, .int .i64 n1, .int .i64 n2, .int .i64 n3, .int .i64 n4, .int .i64 n5, .int .i64 n6, .int .i64 n7] ∧ Blk wr w7.heap.size 23 (cells y) ∧ wr.ownsRow (w7.heap.size + 1) 23 8 (.slice (some ad2) LL.length k2) LL.length (flat8 LL))
              (fun _ i _ => LL.length - (intOf i).toNat)
            case atStart => exact ⟨0, 5, [0, 0, 0, 0, 0, 0, 0, 0], by omega, rfl, rfl, ⟨rfl, .inl ⟨rfl, rfl, by simp⟩⟩, hw8, BN, BY, hO2⟩
            case round =>
              clear BN BY hO2 hw8
              obtain ⟨k, eN, y, hk, rfl, rfl, hF, hw8, BN, BY, hO2⟩ := hrel
              by_cases hlt : (k : Int) < (LL.length : Int) - 1
              · have hm1 : LL[k] ∈ LL := List.getElem_mem (by omega)
                have hm2 : LL[k + 1] ∈ LL := List.getElem_mem (by omega)
                obtain ⟨a0, a1, a2, a3, a4, a5, a6, a7, hx⟩ := HOF.out _ hm1
                obtain ⟨e0, e1, e2, e3, e4, e5, e6, e7, hx2⟩ := HOF.out _ hm2
                have hX1 : LL[k]? = some [a0, a1, a2, a3, a4, a5, a6, a7] := by rw [List.getElem?_eq_getElem (by omega), hx]
                have hX2 : LL[k + 1]? = some [e0, e1, e2, e3, e4, e5, e6, e7] := by rw [List.getElem?_eq_getElem (by omega), hx2]
                have HAF := Lib.hid (link_at (HLL.out ▸ (Venn.links_allC HU.out).1) hX1 hX2)
                have HTK := Lib.hid (show LL.take (k + 1) = LL.take k ++ [[a0, a1, a2, a3, a4, a5, a6, a7]] by rw [← List.take_append_getElem (by omega), hx])
                obtain ⟨p0, p1, p2, p3, p4, p5, p6, p7⟩ := ownsRow_counts hO2 H8.out hX1 ad2 rfl
                obtain ⟨r0, r1, r2, r3, r4, r5, r6, r7⟩ := ownsRow_counts hO2 H8.out hX2 ad2 rfl
                obtain ⟨y0, y1, y2, y3, y4, y5, y6, y7, rfl⟩ : ∃ y0 y1 y2 y3 y4 y5 y6 y7 : Int, y = [y0, y1, y2, y3, y4, y5, y6, y7] := by
                  match y, hF.1 with
                  | [y0, y1, y2, y3, y4, y5, y6, y7], _ => exact ⟨_, _, _, _, _, _, _, _, rfl⟩
                simp only [cells, List.map] at BY
                obtain ⟨f0, f1, f2, f3, f4, f5, f6, f7⟩ := BN.cells8.1
                have hnl := BN.lt
                obtain ⟨⟨g0, g1, g2, g3, g4, g5, g6, g7⟩, t0, t1, t2, t3, t4, t5, t6, t7⟩ := BY.cells8
                have hyl := BY.lt
                have k0 : (0 : Int) ≤ (k : Int) := by omega
                have k1 : (k : Int) < (LL.length : Int) := by omega
                have k3 : (k : Int) + 1 < (LL.length : Int) := by omega
                have k4 : (0 : Int) ≤ (k : Int) + 1 := by omega
                have k5 : IntKind.i64.wrap ((k : Int) + 1) = (k : Int) + 1 := wrap_of (by omega) (by omega)
                have hq := fun W => equal_eights a0 a1 a2 a3 a4 a5 a6 a7 n0 n1 n2 n3 n4 n5 n6 n7 W
                clear hx hx2 hX1 hX2 hm1 hm2
                cases hxe : ([a0, a1, a2, a3, a4, a5, a6, a7] : List Int) == [n0, n1, n2, n3, n4, n5, n6, n7]
                · have HNX := Lib.hid (show FoundTo LL [n0, n1, n2, n3, n4, n5, n6, n7] (k + 1) eN [y0, y1, y2, y3, y4, y5, y6, y7] by
                    refine ⟨rfl, hF.2.imp (fun h => ⟨h.1, h.2.1, fun hm => ?_⟩) id⟩
                    rw [HTK.out] at hm
                    rcases List.mem_append.1 hm with h1 | h1
                    · exact h.2.2 h1
                    · rw [List.mem_singleton.1 h1] at hxe
                      simp at hxe)
                  simp only [hxe] at hq
                  clear hxe hF
                  go_wp2_with fail
                  go_quiet (fail)
                  go_wp2
                  go_roundw
                  case rel => exact ⟨k + 1, eN, _, by omega, by go_num, rfl, HNX.out, below_drewN hw8 _, BN.drewN _, BY.drewN _, own_drewQ hO2 _⟩
                  case measure => simp [intOf]; omega
                · have HNX := Lib.hid (show FoundTo LL [n0, n1, n2, n3, n4, n5, n6, n7] (k + 1) 0 [e0, e1, e2, e3, e4, e5, e6, e7] from ⟨rfl, .inr ⟨rfl, by rw [← eq_of_beq hxe]; exact HAF.out⟩⟩)
                  simp only [hxe] at hq
                  clear hxe hF
                  go_wp2_with fail
                  go_quiet (fail)
                  go_wp2
                  go_roundw
                  case rel => exact ⟨k + 1, 0, [e0, e1, e2, e3, e4, e5, e6, e7], by omega, by go_num, rfl, HNX.out, below_set8 (below_drewN hw8 _) (show w.heap.size ≤ w7.heap.size by omega) (.int .i64 e0) (.int .i64 e1) (.int .i64 e2) (.int .i64 e3) (.int .i64 e4) (.int .i64 e5) (.int .i64 e6) (.int .i64 e7), (BN.drewN _).far8 (p := w7.heap.size) (by omega) (.int .i64 e0) (.int .i64 e1) (.int .i64 e2) (.int .i64 e3) (.int .i64 e4) (.int .i64 e5) (.int .i64 e6) (.int .i64 e7), (BY.drewN _).set8 (.int .i64 e0) (.int .i64 e1) (.int .i64 e2) (.int .i64 e3) (.int .i64 e4) (.int .i64 e5) (.int .i64 e6) (.int .i64 e7), own_but (C := fun b => b = w7.heap.size) (own_drewQ hO2 _) ((But.refl (fun b => b = w7.heap.size) _).set8 (p := w7.heap.size) rfl (.int .i64 e0) (.int .i64 e1) (.int .i64 e2) (.int .i64 e3) (.int .i64 e4) (.int .i64 e5) (.int .i64 e6) (.int .i64 e7)) (fun b hb e => by have h2 := (hO2.lt b hb).1; omega)⟩
                  case measure => simp [intOf]; omega
              · have hk1 : k + 1 = LL.length := by omega
                have hmem : [n0, n1, n2, n3, n4, n5, n6, n7] ∈ Venn.allC u := by
                  obtain ⟨b0, b1, b2, b3, b4, b5, b6, b7⟩ := counts_bound HGZ.out
                  refine (Venn.mem_allC HU.out _).2 ⟨rfl, ?_, HSUM.out.trans hsu⟩
                  simp only [List.mem_cons, List.not_mem_nil, or_false, forall_eq_or_imp, forall_eq]
                  exact ⟨b0.1, b1.1, b2.1, b3.1, b4.1, b5.1, b6.1, b7.1⟩
                rw [HLL.out] at hk1 hF
                have HNV := Lib.hid (found_next HU.out HGZ.out (HSUM.out.trans hsu) hmem hk1 hF)
                obtain ⟨y0, y1, y2, y3, y4, y5, y6, y7, rfl⟩ : ∃ y0 y1 y2 y3 y4 y5 y6 y7 : Int, y = [y0, y1, y2, y3, y4, y5, y6, y7] := by
                  match y, hF.1 with
                  | [y0, y1, y2, y3, y4, y5, y6, y7], _ => exact ⟨_, _, _, _, _, _, _, _, rfl⟩
                simp only [cells, List.map] at BY HNV
                obtain ⟨f0, f1, f2, f3, f4, f5, f6, f7⟩ := BN.cells8.1
                have hnl := BN.lt
                clear hk1 hF hmem hO2 BN
                go_wp2_with fail
                refine (fit_Next u n0 n1 n2 n3 n4 n5 n6 n7 _).mono ?_
                rintro e w9 ⟨rfl, hb9⟩
                rw [HNV.out]
                replace BY := BY.keep hb9
                have hw9 : Below w.heap.size w w9 := by (repeat' (first | (with_reducible exact Below.refl _ _) | (with_reducible assumption) | (with_reducible refine Below.next ?_ (by with_reducible assumption)) | (with_reducible refine Below.drew ?_) | (with_reducible refine Below.laid ?_ _) | (with_reducible refine Below.setCell ?_ ?_ _) | (with_reducible refine size_of ?_) | (with_reducible refine Nat.le_succ_of_le ?_) | go_size))
                go_wp2_with fail
                refine (vennsame_Error _ _ _ (HET.keep (by (repeat' (first | (with_reducible exact Below.refl _ _) | (with_reducible assumption) | (with_reducible refine Below.next ?_ (by with_reducible assumption)) | (with_reducible refine Below.drew ?_) | (with_reducible refine Below.laid ?_ _) | (with_reducible refine Below.setCell ?_ ?_ _) | (with_reducible refine size_of ?_) | (with_reducible refine Nat.le_succ_of_le ?_) | go_size))))).mono ?_
                rintro e wA ⟨rfl, hbA⟩
                have BX := (Blk.new w9 23 #[.int .i64 y0, .int .i64 y1, .int .i64 y2, .int .i64 y3, .int .i64 y4, .int .i64 y5, .int .i64 y6, .int .i64 y7]).keep hbA
                replace BY := (BY.alloc _).keep hbA
                have hwA : Below w.heap.size w wA := by (repeat' (first | (with_reducible exact Below.refl _ _) | (with_reducible assumption) | (with_reducible refine Below.next ?_ (by with_reducible assumption)) | (with_reducible refine Below.drew ?_) | (with_reducible refine Below.laid ?_ _) | (with_reducible refine Below.setCell ?_ ?_ _) | (with_reducible refine size_of ?_) | (with_reducible refine Nat.le_succ_of_le ?_) | go_size))
                obtain ⟨c0, c1', c2, c3, c4, c5, c6, c7⟩ := BX.cells8.1
                obtain ⟨d0, d1, d2, d3, d4, d5, d6, d7⟩ := BY.cells8.1
                have hq := equal_counts y0 y1 y2 y3 y4 y5 y6 y7 wA
                go_wp2
                go_ret
                exact ⟨by simp, hwA⟩
          · have HNV := Lib.hid (show nextV u [n0, n1, n2, n3, n4, n5, n6, n7] = .tuple #[.agg zero8, errV 3] by rw [nextV, if_pos HU.out, if_pos HGZ.out, if_neg (by rw [HSUM.out]; exact hsu)])
            have hsu1 : (n0 + n1 + n2 + n3 + n4 + n5 + n6 + n7 == u) = false := by simpa using hsu
            clear s1 s2 s3 s4 s5 s6 s7 s8
            go_wp2_with fail
            refine (fit_Next u n0 n1 n2 n3 n4 n5 n6 n7 _).mono ?_
            rintro e w8 ⟨rfl, hb8⟩
            rw [HNV.out]
            have BY := (Blk.new w7 23 #[.int .i64 0, .int .i64 0, .int .i64 0, .int .i64 0, .int .i64 0, .int .i64 0, .int .i64 0, .int .i64 0]).keep hb8
            have hw8 : Below w.heap.size w w8 := by (repeat' (first | (with_reducible exact Below.refl _ _) | (with_reducible assumption) | (with_reducible refine Below.next ?_ (by with_reducible assumption)) | (with_reducible refine Below.drew ?_) | (with_reducible refine Below.laid ?_ _) | (with_reducible refine Below.setCell ?_ ?_ _) | (with_reducible refine size_of ?_) | (with_reducible refine Nat.le_succ_of_le ?_) | go_size))
            go_wp2_with fail
            refine (vennsame_Error _ _ _ (HET.keep (by (repeat' (first | (with_reducible exact Below.refl _ _) | (with_reducible assumption) | (with_reducible refine Below.next ?_ (by with_reducible assumption)) | (with_reducible refine Below.drew ?_) | (with_reducible refine Below.laid ?_ _) | (with_reducible refine Below.setCell ?_ ?_ _) | (with_reducible refine size_of ?_) | (with_reducible refine Nat.le_succ_of_le ?_) | go_size))))).mono ?_
            rintro e w9 ⟨rfl, hb9⟩
            have BX := (Blk.new w8 23 #[.int .i64 0, .int .i64 0, .int .i64 0, .int .i64 0, .int .i64 0, .int .i64 0, .int .i64 0, .int .i64 0]).keep hb9
            replace BY := (BY.alloc _).keep hb9
            have hw9 : Below w.heap.size w w9 := by (repeat' (first | (with_reducible exact Below.refl _ _) | (with_reducible assumption) | (with_reducible refine Below.next ?_ (by with_reducible assumption)) | (with_reducible refine Below.drew ?_) | (with_reducible refine Below.laid ?_ _) | (with_reducible refine Below.setCell ?_ ?_ _) | (with_reducible refine size_of ?_) | (with_reducible refine Nat.le_succ_of_le ?_) | go_size))
            obtain ⟨c0, c1', c2, c3, c4, c5, c6, c7⟩ := BX.cells8.1
            obtain ⟨d0, d1, d2, d3, d4, d5, d6, d7⟩ := BY.cells8.1
            have hq := equal_counts 0 0 0 0 0 0 0 0 w9
            go_wp2
            go_ret
            exact ⟨by simp, hw9⟩
        · have HNV := Lib.hid (show nextV u [n0, n1, n2, n3, n4, n5, n6, n7] = .tuple #[.agg zero8, errV (Venn.countsChk [n0, n1, n2, n3, n4, n5, n6, n7])] by rw [nextV, if_pos HU.out, if_neg hg])
          have hg1 : (Venn.countsChk [n0, n1, n2, n3, n4, n5, n6, n7] == 0) = false := by simpa using hg
          have hg2 : ¬ Venn.countsChk [n0, n1, n2, n3, n4, n5, n6, n7] = 0 := hg
          clear hg
          generalize Venn.countsChk [n0, n1, n2, n3, n4, n5, n6, n7] = CE at HNV hg1 hg2
          go_wp2_with fail
          refine wp_loop_rounds 1 ?_
          rw [rounds_succ]
          go_wp2_with fail
          refine (fit_Next u n0 n1 n2 n3 n4 n5 n6 n7 _).mono ?_
          rintro e w8 ⟨rfl, hb8⟩
          rw [HNV.out]
          have BY := (Blk.new w7 23 #[.int .i64 0, .int .i64 0, .int .i64 0, .int .i64 0, .int .i64 0, .int .i64 0, .int .i64 0, .int .i64 0]).keep hb8
          have hw8 : Below w.heap.size w w8 := by (repeat' (first | (with_reducible exact Below.refl _ _) | (with_reducible assumption) | (with_reducible refine Below.next ?_ (by with_reducible assumption)) | (with_reducible refine Below.drew ?_) | (with_reducible refine Below.laid ?_ _) | (with_reducible refine Below.setCell ?_ ?_ _) | (with_reducible refine size_of ?_) | (with_reducible refine Nat.le_succ_of_le ?_) | go_size))
          go_wp2_with fail
          refine (vennsame_Error _ _ _ (HET.keep (by (repeat' (first | (with_reducible exact Below.refl _ _) | (with_reducible assumption) | (with_reducible refine Below.next ?_ (by with_reducible assumption)) | (with_reducible refine Below.drew ?_) | (with_reducible refine Below.laid ?_ _) | (with_reducible refine Below.setCell ?_ ?_ _) | (with_reducible refine size_of ?_) | (with_reducible refine Nat.le_succ_of_le ?_) | go_size))))).mono ?_
          rintro e w9 ⟨rfl, hb9⟩
          have BX := (Blk.new w8 23 #[.int .i64 0, .int .i64 0, .int .i64 0, .int .i64 0, .int .i64 0, .int .i64 0, .int .i64 0, .int .i64 0]).keep hb9
          replace BY := (BY.alloc _).keep hb9
          have hw9 : Below w.heap.size w w9 := by (repeat' (first | (with_reducible exact Below.refl _ _) | (with_reducible assumption) | (with_reducible refine Below.next ?_ (by with_reducible assumption)) | (with_reducible refine Below.drew ?_) | (with_reducible refine Below.laid ?_ _) | (with_reducible refine Below.setCell ?_ ?_ _) | (with_reducible refine size_of ?_) | (with_reducible refine Nat.le_succ_of_le ?_) | go_size))
          obtain ⟨c0, c1', c2, c3, c4, c5, c6, c7⟩ := BX.cells8.1
          obtain ⟨d0, d1, d2, d3, d4, d5, d6, d7⟩ := BY.cells8.1
          have hq := equal_counts 0 0 0 0 0 0 0 0 w9
          go_wp2
          go_ret
          exact ⟨by simp, hw9⟩
    · obtain ⟨m, rfl⟩ : ∃ m, k = m + 1 := ⟨k - 1, by omega⟩
      obtain rfl : j = (m : Int) := by omega
      have hmem : LL[m] ∈ LL := List.getElem_mem (by omega)
      obtain ⟨a0, a1, a2, a3, a4, a5, a6, a7, hx⟩ := HOF.out _ hmem
      have HC := Lib.hid (HCK.out _ hmem)
      have HD := Lib.hid (show LL.drop m = [a0, a1, a2, a3, a4, a5, a6, a7] :: LL.drop (m + 1) by rw [List.drop_eq_getElem_cons (by omega), hx])
      rw [hx] at HC
      have HX := Lib.hid (show LL[m]? = some [a0, a1, a2, a3, a4, a5, a6, a7] by rw [List.getElem?_eq_getElem (by omega), hx])
      obtain ⟨z0, z1, z2, z3, z4, z5, z6, z7, hz⟩ : ∃ z0 z1 z2 z3 z4 z5 z6 z7 : Int, leastOf l (LL.drop (m + 1)) = [z0, z1, z2, z3, z4, z5, z6, z7] := by
        have h8 := leastOf_len (l := l) (LL := LL.drop (m + 1)) (fun r h => H8.out r (List.mem_of_mem_drop h))
        revert h8
        generalize leastOf l (LL.drop (m + 1)) = Z
        intro h8
        match Z, h8 with
        | [z0, z1, z2, z3, z4, z5, z6, z7], _ => exact ⟨_, _, _, _, _, _, _, _, rfl⟩
      have HCB := Lib.hid (show cntOf l (LL.drop (m + 1)) ≤ 2000 by
        have h1 := List.length_filter_le (Venn.rowsSo l) (LL.drop (m + 1))
        simp only [List.length_drop] at h1
        unfold cntOf
        omega)
      clear hmem hx
      have HZ := Lib.hid hz
      rw [hz] at BZ
      simp only [cells, List.map] at BZ
      obtain ⟨p0, p1, p2, p3, p4, p5, p6, p7⟩ := ownsRow_counts hO H8.out HX.out ad rfl
      have m0 : (0 : Int) ≤ (m : Int) := by omega
      have m1 : (m : Int) < (LL.length : Int) := by omega
      clear hz
      go_wp2_with fail
      refine (ref_Fits _ l a0 a1 a2 a3 a4 a5 a6 a7 _ (HL.out.keep (by (repeat' (first | (with_reducible exact Below.refl _ _) | (with_reducible assumption) | (with_reducible refine Below.next ?_ (by with_reducible assumption)) | (with_reducible refine Below.drew ?_) | (with_reducible refine Below.laid ?_ _) | (with_reducible refine Below.setCell ?_ ?_ _) | (with_reducible refine size_of ?_) | (with_reducible refine Nat.le_succ_of_le ?_) | go_size)))) HALL.out HC.out).mono ?_
      rintro e w3 ⟨rfl, hb3⟩
      replace BN := BN.keep hb3
      replace BZ := BZ.keep hb3
      replace hO := own_below hO hb3
      have hw3 : Below w.heap.size w w3 := by (repeat' (first | (with_reducible exact Below.refl _ _) | (with_reducible assumption) | (with_reducible refine Below.next ?_ (by with_reducible assumption)) | (with_reducible refine Below.drew ?_) | (with_reducible refine Below.laid ?_ _) | (with_reducible refine Below.setCell ?_ ?_ _) | (with_reducible refine size_of ?_) | (with_reducible refine Nat.le_succ_of_le ?_) | go_size))
      clear p0 p1 p2 p3 p4 p5 p6 p7
      obtain ⟨p0, p1, p2, p3, p4, p5, p6, p7⟩ := ownsRow_counts hO H8.out HX.out ad rfl
      obtain ⟨⟨g0, g1, g2, g3, g4, g5, g6, g7⟩, e0, e1, e2, e3, e4, e5, e6, e7⟩ := BZ.cells8
      have zl := BZ.lt
      generalize hC1 : cntOf l (LL.drop (m + 1)) = C1 at HCB
      have hwc : IntKind.i64.wrap ((C1 : Int) + 1) = (C1 : Int) + 1 := wrap_of (by have := HCB.out; omega) (by have := HCB.out; omega)
      cases hso : Venn.rowsSo l [a0, a1, a2, a3, a4, a5, a6, a7]
      · have HC2 := Lib.hid ((cntOf_no (LL := LL.drop (m + 1)) hso).trans hC1)
        have HL2 := Lib.hid ((leastOf_no (LL := LL.drop (m + 1)) hso).trans HZ.out)
        clear hC1 hso
        go_wp2
        go_roundw
        case rel => exact ⟨m, (m : Int) - 1, by omega, by omega, by go_num, by rw [HD.out, HC2.out], hw3, BN, by rw [HD.out, HL2.out]; exact BZ, hO⟩
        case measure => simp [intOf]
      · have HC2 := Lib.hid ((cntOf_yes (LL := LL.drop (m + 1)) hso).trans (congrArg (· + 1) hC1))
        have HL2 := Lib.hid (leastOf_yes (LL := LL.drop (m + 1)) hso)
        clear hC1 hso
        go_wp2
        go_roundw
        case rel => exact ⟨m, (m : Int) - 1, by omega, by omega, by go_num, by rw [HD.out, HC2.out]; simp, below_set8 hw3 (show w.heap.size ≤ w.heap.size + 1 by omega) (.int .i64 a0) (.int .i64 a1) (.int .i64 a2) (.int .i64 a3) (.int .i64 a4) (.int .i64 a5) (.int .i64 a6) (.int .i64 a7), BN.far8 (p := w.heap.size + 1) (by omega) (.int .i64 a0) (.int .i64 a1) (.int .i64 a2) (.int .i64 a3) (.int .i64 a4) (.int .i64 a5) (.int .i64 a6) (.int .i64 a7), by rw [HD.out, HL2.out]; exact BZ.set8 (.int .i64 a0) (.int .i64 a1) (.int .i64 a2) (.int .i64 a3) (.int .i64 a4) (.int .i64 a5) (.int .i64 a6) (.int .i64 a7), own_but (C := fun b => b = w.heap.size + 1) hO ((But.refl (fun b => b = w.heap.size + 1) w3).set8 (p := w.heap.size + 1) rfl (.int .i64 a0) (.int .i64 a1) (.int .i64 a2) (.int .i64 a3) (.int .i64 a4) (.int .i64 a5) (.int .i64 a6) (.int .i64 a7)) (fun b hb e => by have h2 := (hO.lt b hb).1; omega)⟩
        case measure => simp [intOf]
set_option maxHeartbeats 4000000 in
set_option maxRecDepth 100000 in
theorem fitTells_b (u : Int) (v : Value) (l : List (List Int)) (n0 n1 n2 n3 n4 n5 n6 n7 : Int) (w : World) (hl : IsRows w v l) (HET : EtOk w) (hu : Venn.things u = true) (hr : Venn.rowsChk l ≠ 0) :
    Calls Tryd.prog 3 #[.int .i64 u, v, .agg #[.int .i64 n0, .int .i64 n1, .int .i64 n2, .int .i64 n3, .int .i64 n4, .int .i64 n5, .int .i64 n6, .int .i64 n7]] w (Keeps (.bool true) w) := by
  obtain ⟨rA, rc, rfl, hl'⟩ := hl
  have HL := Lib.hid (show IsRows w (.slice rA l.length rc) l from ⟨rA, rc, rfl, hl'⟩)
  have HU := Lib.hid hu
  have hu' : 0 ≤ u ∧ u ≤ 6 := by simpa [Venn.things] using hu
  have q1 : ¬ u < 0 := by omega
  have q2 : ¬ 6 < u := by omega
  have H8 := Lib.hid (show ∀ r ∈ Venn.allC u, r.length = 8 from fun r h => ((Venn.mem_allC hu r).1 h).1)
  have HOF := Lib.hid (show ∀ r ∈ Venn.allC u, ∃ a0 a1 a2 a3 a4 a5 a6 a7 : Int, r = [a0, a1, a2, a3, a4, a5, a6, a7] from fun r h => by
    obtain ⟨a0, a1, a2, a3, a4, a5, a6, a7, e, _⟩ := Venn.of_allC hu h
    exact ⟨a0, a1, a2, a3, a4, a5, a6, a7, e⟩)
  have hlen := len_allC' hu
  have hpos : 0 < (Venn.allC u).length := by
    obtain ⟨x, hx⟩ := Venn.allC_ne hu
    exact List.length_pos_of_mem hx
  have h0 : Venn.fitChk u l = Venn.rowsChk l := by rw [Venn.fitChk, if_pos hu]
  have HMV := Lib.hid (show manyV u l = .tuple #[.int .i64 0, errV (Venn.rowsChk l)] by rw [manyV, if_neg (by rw [h0]; exact hr), h0])
  have HLV := Lib.hid (show leastV u l = .tuple #[.agg zero8, errV (Venn.rowsChk l)] by rw [leastV, if_neg (by rw [h0]; exact hr), h0])
  have hr1 : (Venn.rowsChk l == 0) = false := by simpa using hr
  have hr2 : ¬ Venn.rowsChk l = 0 := hr
  clear hl' hr hu h0
  obtain ⟨LL, hLL⟩ : ∃ LL, LL = Venn.allC u := ⟨_, rfl⟩
  rw [← hLL] at H8 HOF hlen hpos
  have HLL := Lib.hid hLL
  clear hLL
  go_enter Tryd.func3, Tryd.ntmps3
  go_wp2_with fail
  refine (ref_Rows _ l _ (HL.out.keep (by (repeat' (first | (with_reducible exact Below.refl _ _) | (with_reducible assumption) | (with_reducible refine Below.next ?_ (by with_reducible assumption)) | (with_reducible refine Below.drew ?_) | (with_reducible refine Below.laid ?_ _) | (with_reducible refine Below.setCell ?_ ?_ _) | (with_reducible refine size_of ?_) | (with_reducible refine Nat.le_succ_of_le ?_) | go_size))))).mono ?_
  rintro e w' ⟨rfl, rfl⟩
  go_wp2_with fail
  refine (fit_Many u _ l _ (HL.out.keep (by (repeat' (first | (with_reducible exact Below.refl _ _) | (with_reducible assumption) | (with_reducible refine Below.next ?_ (by with_reducible assumption)) | (with_reducible refine Below.drew ?_) | (with_reducible refine Below.laid ?_ _) | (with_reducible refine Below.setCell ?_ ?_ _) | (with_reducible refine size_of ?_) | (with_reducible refine Nat.le_succ_of_le ?_) | go_size))))).mono ?_
  rintro e w3 ⟨rfl, hb3⟩
  rw [HMV.out]
  have BN := ((Blk.new w 23 #[.int .i64 n0, .int .i64 n1, .int .i64 n2, .int .i64 n3, .int .i64 n4, .int .i64 n5, .int .i64 n6, .int .i64 n7]).alloc _).keep hb3
  have BZ := (Blk.newAt (w := w.alloc (.cells #[.int .i64 n0, .int .i64 n1, .int .i64 n2, .int .i64 n3, .int .i64 n4, .int .i64 n5, .int .i64 n6, .int .i64 n7] 23)) (g := w.heap.size + 1) (by simp) 23 #[.int .i64 0, .int .i64 0, .int .i64 0, .int .i64 0, .int .i64 0, .int .i64 0, .int .i64 0, .int .i64 0]).keep hb3
  have hw3 : Below w.heap.size w w3 := by (repeat' (first | (with_reducible exact Below.refl _ _) | (with_reducible assumption) | (with_reducible refine Below.next ?_ (by with_reducible assumption)) | (with_reducible refine Below.drew ?_) | (with_reducible refine Below.laid ?_ _) | (with_reducible refine Below.setCell ?_ ?_ _) | (with_reducible refine size_of ?_) | (with_reducible refine Nat.le_succ_of_le ?_) | go_size))
  go_wp2_with fail
  refine (vennsame_Error _ _ _ (HET.keep (by (repeat' (first | (with_reducible exact Below.refl _ _) | (with_reducible assumption) | (with_reducible refine Below.next ?_ (by with_reducible assumption)) | (with_reducible refine Below.drew ?_) | (with_reducible refine Below.laid ?_ _) | (with_reducible refine Below.setCell ?_ ?_ _) | (with_reducible refine size_of ?_) | (with_reducible refine Nat.le_succ_of_le ?_) | go_size))))).mono ?_
  rintro e w4 ⟨rfl, hb4⟩
  replace BN := BN.keep hb4
  replace BZ := BZ.keep hb4
  have hw4 : Below w.heap.size w w4 := by (repeat' (first | (with_reducible exact Below.refl _ _) | (with_reducible assumption) | (with_reducible refine Below.next ?_ (by with_reducible assumption)) | (with_reducible refine Below.drew ?_) | (with_reducible refine Below.laid ?_ _) | (with_reducible refine Below.setCell ?_ ?_ _) | (with_reducible refine size_of ?_) | (with_reducible refine Nat.le_succ_of_le ?_) | go_size))
  clear hb3 hb4 hw3
  go_wp2_with fail
  refine (fit_Least u _ l _ (HL.out.keep (by (repeat' (first | (with_reducible exact Below.refl _ _) | (with_reducible assumption) | (with_reducible refine Below.next ?_ (by with_reducible assumption)) | (with_reducible refine Below.drew ?_) | (with_reducible refine Below.laid ?_ _) | (with_reducible refine Below.setCell ?_ ?_ _) | (with_reducible refine size_of ?_) | (with_reducible refine Nat.le_succ_of_le ?_) | go_size))))).mono ?_
  rintro e w5 ⟨rfl, hb5⟩
  rw [HLV.out]
  replace BN := BN.keep hb5
  replace BZ := BZ.keep hb5
  have hw5 : Below w.heap.size w w5 := by (repeat' (first | (with_reducible exact Below.refl _ _) | (with_reducible assumption) | (with_reducible refine Below.next ?_ (by with_reducible assumption)) | (with_reducible refine Below.drew ?_) | (with_reducible refine Below.laid ?_ _) | (with_reducible refine Below.setCell ?_ ?_ _) | (with_reducible refine size_of ?_) | (with_reducible refine Nat.le_succ_of_le ?_) | go_size))
  go_wp2_with fail
  refine (vennsame_Error _ _ _ (HET.keep (by (repeat' (first | (with_reducible exact Below.refl _ _) | (with_reducible assumption) | (with_reducible refine Below.next ?_ (by with_reducible assumption)) | (with_reducible refine Below.drew ?_) | (with_reducible refine Below.laid ?_ _) | (with_reducible refine Below.setCell ?_ ?_ _) | (with_reducible refine size_of ?_) | (with_reducible refine Nat.le_succ_of_le ?_) | go_size))))).mono ?_
  rintro e w6 ⟨rfl, hb6⟩
  have BX := (Blk.new w5 23 #[.int .i64 0, .int .i64 0, .int .i64 0, .int .i64 0, .int .i64 0, .int .i64 0, .int .i64 0, .int .i64 0]).keep hb6
  replace BN := (BN.alloc _).keep hb6
  replace BZ := (BZ.alloc _).keep hb6
  have hw6 : Below w.heap.size w w6 := by (repeat' (first | (with_reducible exact Below.refl _ _) | (with_reducible assumption) | (with_reducible refine Below.next ?_ (by with_reducible assumption)) | (with_reducible refine Below.drew ?_) | (with_reducible refine Below.laid ?_ _) | (with_reducible refine Below.setCell ?_ ?_ _) | (with_reducible refine size_of ?_) | (with_reducible refine Nat.le_succ_of_le ?_) | go_size))
  obtain ⟨c0, c1', c2, c3, c4, c5, c6, c7⟩ := BX.cells8.1
  obtain ⟨d0, d1, d2, d3, d4, d5, d6, d7⟩ := BZ.cells8.1
  have hq := equal_counts 0 0 0 0 0 0 0 0 w6
  go_upto_region 22 with (fail)
  clear c0 c1' c2 c3 c4 c5 c6 c7 d0 d1 d2 d3 d4 d5 d6 d7 hq hb5 hb6 BX BZ hw4 hw5
  obtain ⟨f0, f1, f2, f3, f4, f5, f6, f7⟩ := BN.cells8.1
  have hnl := BN.lt
  go_wp2_with fail
  refine (ref_Counts _ _ _ _ _ _ _ _ _).mono ?_
  rintro e w7 ⟨rfl, hb7⟩
  replace BN := BN.keep hb7
  have hw7 : Below w.heap.size w w7 := by (repeat' (first | (with_reducible exact Below.refl _ _) | (with_reducible assumption) | (with_reducible refine Below.next ?_ (by with_reducible assumption)) | (with_reducible refine Below.drew ?_) | (with_reducible refine Below.laid ?_ _) | (with_reducible refine Below.setCell ?_ ?_ _) | (with_reducible refine size_of ?_) | (with_reducible refine Nat.le_succ_of_le ?_) | go_size))
  clear f0 f1 f2 f3 f4 f5 f6 f7 hnl hb7 hw6
  obtain ⟨f0, f1, f2, f3, f4, f5, f6, f7⟩ := BN.cells8.1
  have hnl := BN.lt
  by_cases hg : Venn.countsChk [n0, n1, n2, n3, n4, n5, n6, n7] = 0
  · have HGZ := Lib.hid hg
    obtain ⟨b0, b1, b2, b3, b4, b5, b6, b7⟩ := counts_bound hg
    rw [hg]
    clear hg
    have s1 : IntKind.i64.wrap n0 = n0 := wrap_of (by omega) (by omega)
    have s2 : IntKind.i64.wrap (n0 + n1) = n0 + n1 := wrap_of (by omega) (by omega)
    have s3 : IntKind.i64.wrap (n0 + n1 + n2) = n0 + n1 + n2 := wrap_of (by omega) (by omega)
    have s4 : IntKind.i64.wrap (n0 + n1 + n2 + n3) = n0 + n1 + n2 + n3 := wrap_of (by omega) (by omega)
    have s5 : IntKind.i64.wrap (n0 + n1 + n2 + n3 + n4) = n0 + n1 + n2 + n3 + n4 := wrap_of (by omega) (by omega)
    have s6 : IntKind.i64.wrap (n0 + n1 + n2 + n3 + n4 + n5) = n0 + n1 + n2 + n3 + n4 + n5 := wrap_of (by omega) (by omega)
    have s7 : IntKind.i64.wrap (n0 + n1 + n2 + n3 + n4 + n5 + n6) = n0 + n1 + n2 + n3 + n4 + n5 + n6 := wrap_of (by omega) (by omega)
    have s8 : IntKind.i64.wrap (n0 + n1 + n2 + n3 + n4 + n5 + n6 + n7) = n0 + n1 + n2 + n3 + n4 + n5 + n6 + n7 := wrap_of (by omega) (by omega)
    have HSUM := Lib.hid (show ([n0, n1, n2, n3, n4, n5, n6, n7] : List Int).sum = n0 + n1 + n2 + n3 + n4 + n5 + n6 + n7 by simp; omega)
    clear b0 b1 b2 b3 b4 b5 b6 b7
    go_wp2_with fail
    refine wp_loop_rounds 9 ?_
    iterate 8
      rw [rounds_succ]
      go_wp2_with fail
    rw [rounds_succ]
    by_cases hsu : n0 + n1 + n2 + n3 + n4 + n5 + n6 + n7 = u
    · go_wp2_with fail
      refine (ref_All u _ hu').mono ?_
      rintro e w8 ⟨v2, rfl, hb8, hO2⟩
      rw [← HLL.out] at hO2
      obtain ⟨ad2, k2, rfl⟩ : ∃ ad2 k2, v2 = .slice (some ad2) LL.length k2 := by
        rcases hO2.2 with ⟨_, h⟩ | ⟨g, cap, cur, h, _⟩
        · omega
        · exact ⟨_, _, h⟩
      replace hO2 := own_base (base' := w7.heap.size + 1) hO2 (by simp)
      have BY := (Blk.new w7 23 #[.int .i64 0, .int .i64 0, .int .i64 0, .int .i64 0, .int .i64 0, .int .i64 0, .int .i64 0, .int .i64 0]).keep hb8
      replace BN := (BN.alloc _).keep hb8
      have hw8 : Below w.heap.size w w8 := by (repeat' (first | (with_reducible exact Below.refl _ _) | (with_reducible assumption) | (with_reducible refine Below.next ?_ (by with_reducible assumption)) | (with_reducible refine Below.drew ?_) | (with_reducible refine Below.laid ?_ _) | (with_reducible refine Below.setCell ?_ ?_ _) | (with_reducible refine size_of ?_) | (with_reducible refine Nat.le_succ_of_le ?_) | go_size))
      have hsz7 : w.heap.size + 1 < w7.heap.size + 1 := by omega
      have hwl : IntKind.i64.wrap ((LL.length : Int) - 1) = (LL.length : Int) - 1 := wrap_of (by omega) (by omega)
      clear f0 f1 f2 f3 f4 f5 f6 f7 hnl s1 s2 s3 s4 s5 s6 s7 s8 hb8
      go_wp2
      go_loopw [7, 22] (fun er i wr => ∃ (k : Nat) (eN : Int) (y : List Int), k + 1 ≤ LL.length ∧ i = .int .i64 (k : Int) ∧ er = .int .i64 eN ∧ FoundTo LL [n0, n1, n2, n3, n4, n5, n6, n7] k eN y ∧ Below w.heap.size w wr ∧ Blk wr w.heap.size 23 #[.int .i64 n0, .int .i64 n1, .int .i64 n2, .int .i64 n3, .int .i64 n4, .int .i64 n5, .int .i64 n6, .int .i64 n7] ∧ Blk wr w7.heap.size 23 (cells y) ∧ wr.ownsRow (w7.heap.size + 1) 23 8 (.slice (some ad2) LL.length k2) LL.length (flat8 LL))
        (fun _ i _ => LL.length - (intOf i).toNat)
      case atStart => exact ⟨0, 5, [0, 0, 0, 0, 0, 0, 0, 0], by omega, rfl, rfl, ⟨rfl, .inl ⟨rfl, rfl, by simp⟩⟩, hw8, BN, BY, hO2⟩
      case round =>
        clear BN BY hO2 hw8
        obtain ⟨k, eN, y, hk, rfl, rfl, hF, hw8, BN, BY, hO2⟩ := hrel
        by_cases hlt : (k : Int) < (LL.length : Int) - 1
        · have hm1 : LL[k] ∈ LL := List.getElem_mem (by omega)
          have hm2 : LL[k + 1] ∈ LL := List.getElem_mem (by omega)
          obtain ⟨a0, a1, a2, a3, a4, a5, a6, a7, hx⟩ := HOF.out _ hm1
          obtain ⟨e0, e1, e2, e3, e4, e5, e6, e7, hx2⟩ := HOF.out _ hm2
          have hX1 : LL[k]? = some [a0, a1, a2, a3, a4, a5, a6, a7] := by rw [List.getElem?_eq_getElem (by omega), hx]
          have hX2 : LL[k + 1]? = some [e0, e1, e2, e3, e4, e5, e6, e7] := by rw [List.getElem?_eq_getElem (by omega), hx2]
          have HAF := Lib.hid (link_at (HLL.out ▸ (Venn.links_allC HU.out).1) hX1 hX2)
          have HTK := Lib.hid (show LL.take (k + 1) = LL.take k ++ [[a0, a1, a2, a3, a4, a5, a6, a7]] by rw [← List.take_append_getElem (by omega), hx])
          obtain ⟨p0, p1, p2, p3, p4, p5, p6, p7⟩ := ownsRow_counts hO2 H8.out hX1 ad2 rfl
          obtain ⟨r0, r1, r2, r3, r4, r5, r6, r7⟩ := ownsRow_counts hO2 H8.out hX2 ad2 rfl
          obtain ⟨y0, y1, y2, y3, y4, y5, y6, y7, rfl⟩ : ∃ y0 y1 y2 y3 y4 y5 y6 y7 : Int, y = [y0, y1, y2, y3, y4, y5, y6, y7] := by
            match y, hF.1 with
            | [y0, y1, y2, y3, y4, y5, y6, y7], _ => exact ⟨_, _, _, _, _, _, _, _, rfl⟩
          simp only [cells, List.map] at BY
          obtain ⟨f0, f1, f2, f3, f4, f5, f6, f7⟩ := BN.cells8.1
          have hnl := BN.lt
          obtain ⟨⟨g0, g1, g2, g3, g4, g5, g6, g7⟩, t0, t1, t2, t3, t4, t5, t6, t7⟩ := BY.cells8
          have hyl := BY.lt
          have k0 : (0 : Int) ≤ (k : Int) := by omega
          have k1 : (k : Int) < (LL.length : Int) := by omega
          have k3 : (k : Int) + 1 < (LL.length : Int) := by omega
          have k4 : (0 : Int) ≤ (k : Int) + 1 := by omega
          have k5 : IntKind.i64.wrap ((k : Int) + 1) = (k : Int) + 1 := wrap_of (by omega) (by omega)
          have hq := fun W => equal_eights a0 a1 a2 a3 a4 a5 a6 a7 n0 n1 n2 n3 n4 n5 n6 n7 W
          clear hx hx2 hX1 hX2 hm1 hm2
          cases hxe : ([a0, a1, a2, a3, a4, a5, a6, a7] : List Int) == [n0, n1, n2, n3, n4, n5, n6, n7]
          · have HNX := Lib.hid (show FoundTo LL [n0, n1, n2, n3, n4, n5, n6, n7] (k + 1) eN [y0, y1, y2, y3, y4, y5, y6, y7] by
              refine ⟨rfl, hF.2.imp (fun h => ⟨h.1, h.2.1, fun hm => ?_⟩) id⟩
              rw [HTK.out] at hm
              rcases List.mem_append.1 hm with h1 | h1
              · exact h.2.2 h1
              · rw [List.mem_singleton.1 h1] at hxe
                simp at hxe)
            simp only [hxe] at hq
            clear hxe hF
            go_wp2_with fail
            go_quiet (fail)
            go_wp2
            go_roundw
            case rel => exact ⟨k + 1, eN, _, by omega, by go_num, rfl, HNX.out, below_drewN hw8 _, BN.drewN _, BY.drewN _, own_drewQ hO2 _⟩
            case measure => simp [intOf]; omega
          · have HNX := Lib.hid (show FoundTo LL [n0, n1, n2, n3, n4, n5, n6, n7] (k + 1) 0 [e0, e1, e2, e3, e4, e5, e6, e7] from ⟨rfl, .inr ⟨rfl, by rw [← eq_of_beq hxe]; exact HAF.out⟩⟩)
            simp only [hxe] at hq
            clear hxe hF
            go_wp2_with fail
            go_quiet (fail)
            go_wp2
            go_roundw
            case rel => exact ⟨k + 1, 0, [e0, e1, e2, e3, e4, e5, e6, e7], by omega, by go_num, rfl, HNX.out, below_set8 (below_drewN hw8 _) (show w.heap.size ≤ w7.heap.size by omega) (.int .i64 e0) (.int .i64 e1) (.int .i64 e2) (.int .i64 e3) (.int .i64 e4) (.int .i64 e5) (.int .i64 e6) (.int .i64 e7), (BN.drewN _).far8 (p := w7.heap.size) (by omega) (.int .i64 e0) (.int .i64 e1) (.int .i64 e2) (.int .i64 e3) (.int .i64 e4) (.int .i64 e5) (.int .i64 e6) (.int .i64 e7), (BY.drewN _).set8 (.int .i64 e0) (.int .i64 e1) (.int .i64 e2) (.int .i64 e3) (.int .i64 e4) (.int .i64 e5) (.int .i64 e6) (.int .i64 e7), own_but (C := fun b => b = w7.heap.size) (own_drewQ hO2 _) ((But.refl (fun b => b = w7.heap.size) _).set8 (p := w7.heap.size) rfl (.int .i64 e0) (.int .i64 e1) (.int .i64 e2) (.int .i64 e3) (.int .i64 e4) (.int .i64 e5) (.int .i64 e6) (.int .i64 e7)) (fun b hb e => by have h2 := (hO2.lt b hb).1; omega)⟩
            case measure => simp [intOf]; omega
        · have hk1 : k + 1 = LL.length := by omega
          have hmem : [n0, n1, n2, n3, n4, n5, n6, n7] ∈ Venn.allC u := by
            obtain ⟨b0, b1, b2, b3, b4, b5, b6, b7⟩ := counts_bound HGZ.out
            refine (Venn.mem_allC HU.out _).2 ⟨rfl, ?_, HSUM.out.trans hsu⟩
            simp only [List.mem_cons, List.not_mem_nil, or_false, forall_eq_or_imp, forall_eq]
            exact ⟨b0.1, b1.1, b2.1, b3.1, b4.1, b5.1, b6.1, b7.1⟩
          rw [HLL.out] at hk1 hF
          have HNV := Lib.hid (found_next HU.out HGZ.out (HSUM.out.trans hsu) hmem hk1 hF)
          obtain ⟨y0, y1, y2, y3, y4, y5, y6, y7, rfl⟩ : ∃ y0 y1 y2 y3 y4 y5 y6 y7 : Int, y = [y0, y1, y2, y3, y4, y5, y6, y7] := by
            match y, hF.1 with
            | [y0, y1, y2, y3, y4, y5, y6, y7], _ => exact ⟨_, _, _, _, _, _, _, _, rfl⟩
          simp only [cells, List.map] at BY HNV
          obtain ⟨f0, f1, f2, f3, f4, f5, f6, f7⟩ := BN.cells8.1
          have hnl := BN.lt
          clear hk1 hF hmem hO2 BN
          go_wp2_with fail
          refine (fit_Next u n0 n1 n2 n3 n4 n5 n6 n7 _).mono ?_
          rintro e w9 ⟨rfl, hb9⟩
          rw [HNV.out]
          replace BY := BY.keep hb9
          have hw9 : Below w.heap.size w w9 := by (repeat' (first | (with_reducible exact Below.refl _ _) | (with_reducible assumption) | (with_reducible refine Below.next ?_ (by with_reducible assumption)) | (with_reducible refine Below.drew ?_) | (with_reducible refine Below.laid ?_ _) | (with_reducible refine Below.setCell ?_ ?_ _) | (with_reducible refine size_of ?_) | (with_reducible refine Nat.le_succ_of_le ?_) | go_size))
          go_wp2_with fail
          refine (vennsame_Error _ _ _ (HET.keep (by (repeat' (first | (with_reducible exact Below.refl _ _) | (with_reducible assumption) | (with_reducible refine Below.next ?_ (by with_reducible assumption)) | (with_reducible refine Below.drew ?_) | (with_reducible refine Below.laid ?_ _) | (with_reducible refine Below.setCell ?_ ?_ _) | (with_reducible refine size_of ?_) | (with_reducible refine Nat.le_succ_of_le ?_) | go_size))))).mono ?_
          rintro e wA ⟨rfl, hbA⟩
          have BX := (Blk.new w9 23 #[.int .i64 y0, .int .i64 y1, .int .i64 y2, .int .i64 y3, .int .i64 y4, .int .i64 y5, .int .i64 y6, .int .i64 y7]).keep hbA
          replace BY := (BY.alloc _).keep hbA
          have hwA : Below w.heap.size w wA := by (repeat' (first | (with_reducible exact Below.refl _ _) | (with_reducible assumption) | (with_reducible refine Below.next ?_ (by with_reducible assumption)) | (with_reducible refine Below.drew ?_) | (with_reducible refine Below.laid ?_ _) | (with_reducible refine Below.setCell ?_ ?_ _) | (with_reducible refine size_of ?_) | (with_reducible refine Nat.le_succ_of_le ?_) | go_size))
          obtain ⟨c0, c1', c2, c3, c4, c5, c6, c7⟩ := BX.cells8.1
          obtain ⟨d0, d1, d2, d3, d4, d5, d6, d7⟩ := BY.cells8.1
          have hq := equal_counts y0 y1 y2 y3 y4 y5 y6 y7 wA
          go_wp2
          go_ret
          exact ⟨by simp, hwA⟩
    · have HNV := Lib.hid (show nextV u [n0, n1, n2, n3, n4, n5, n6, n7] = .tuple #[.agg zero8, errV 3] by rw [nextV, if_pos HU.out, if_pos HGZ.out, if_neg (by rw [HSUM.out]; exact hsu)])
      have hsu1 : (n0 + n1 + n2 + n3 + n4 + n5 + n6 + n7 == u) = false := by simpa using hsu
      clear s1 s2 s3 s4 s5 s6 s7 s8
      go_wp2_with fail
      refine (fit_Next u n0 n1 n2 n3 n4 n5 n6 n7 _).mono ?_
      rintro e w8 ⟨rfl, hb8⟩
      rw [HNV.out]
      have BY := (Blk.new w7 23 #[.int .i64 0, .int .i64 0, .int .i64 0, .int .i64 0, .int .i64 0, .int .i64 0, .int .i64 0, .int .i64 0]).keep hb8
      have hw8 : Below w.heap.size w w8 := by (repeat' (first | (with_reducible exact Below.refl _ _) | (with_reducible assumption) | (with_reducible refine Below.next ?_ (by with_reducible assumption)) | (with_reducible refine Below.drew ?_) | (with_reducible refine Below.laid ?_ _) | (with_reducible refine Below.setCell ?_ ?_ _) | (with_reducible refine size_of ?_) | (with_reducible refine Nat.le_succ_of_le ?_) | go_size))
      go_wp2_with fail
      refine (vennsame_Error _ _ _ (HET.keep (by (repeat' (first | (with_reducible exact Below.refl _ _) | (with_reducible assumption) | (with_reducible refine Below.next ?_ (by with_reducible assumption)) | (with_reducible refine Below.drew ?_) | (with_reducible refine Below.laid ?_ _) | (with_reducible refine Below.setCell ?_ ?_ _) | (with_reducible refine size_of ?_) | (with_reducible refine Nat.le_succ_of_le ?_) | go_size))))).mono ?_
      rintro e w9 ⟨rfl, hb9⟩
      have BX := (Blk.new w8 23 #[.int .i64 0, .int .i64 0, .int .i64 0, .int .i64 0, .int .i64 0, .int .i64 0, .int .i64 0, .int .i64 0]).keep hb9
      replace BY := (BY.alloc _).keep hb9
      have hw9 : Below w.heap.size w w9 := by (repeat' (first | (with_reducible exact Below.refl _ _) | (with_reducible assumption) | (with_reducible refine Below.next ?_ (by with_reducible assumption)) | (with_reducible refine Below.drew ?_) | (with_reducible refine Below.laid ?_ _) | (with_reducible refine Below.setCell ?_ ?_ _) | (with_reducible refine size_of ?_) | (with_reducible refine Nat.le_succ_of_le ?_) | go_size))
      obtain ⟨c0, c1', c2, c3, c4, c5, c6, c7⟩ := BX.cells8.1
      obtain ⟨d0, d1, d2, d3, d4, d5, d6, d7⟩ := BY.cells8.1
      have hq := equal_counts 0 0 0 0 0 0 0 0 w9
      go_wp2
      go_ret
      exact ⟨by simp, hw9⟩
  · have HNV := Lib.hid (show nextV u [n0, n1, n2, n3, n4, n5, n6, n7] = .tuple #[.agg zero8, errV (Venn.countsChk [n0, n1, n2, n3, n4, n5, n6, n7])] by rw [nextV, if_pos HU.out, if_neg hg])
    have hg1 : (Venn.countsChk [n0, n1, n2, n3, n4, n5, n6, n7] == 0) = false := by simpa using hg
    have hg2 : ¬ Venn.countsChk [n0, n1, n2, n3, n4, n5, n6, n7] = 0 := hg
    clear hg
    generalize Venn.countsChk [n0, n1, n2, n3, n4, n5, n6, n7] = CE at HNV hg1 hg2
    go_wp2_with fail
    refine wp_loop_rounds 1 ?_
    rw [rounds_succ]
    go_wp2_with fail
    refine (fit_Next u n0 n1 n2 n3 n4 n5 n6 n7 _).mono ?_
    rintro e w8 ⟨rfl, hb8⟩
    rw [HNV.out]
    have BY := (Blk.new w7 23 #[.int .i64 0, .int .i64 0, .int .i64 0, .int .i64 0, .int .i64 0, .int .i64 0, .int .i64 0, .int .i64 0]).keep hb8
    have hw8 : Below w.heap.size w w8 := by (repeat' (first | (with_reducible exact Below.refl _ _) | (with_reducible assumption) | (with_reducible refine Below.next ?_ (by with_reducible assumption)) | (with_reducible refine Below.drew ?_) | (with_reducible refine Below.laid ?_ _) | (with_reducible refine Below.setCell ?_ ?_ _) | (with_reducible refine size_of ?_) | (with_reducible refine Nat.le_succ_of_le ?_) | go_size))
    go_wp2_with fail
    refine (vennsame_Error _ _ _ (HET.keep (by (repeat' (first | (with_reducible exact Below.refl _ _) | (with_reducible assumption) | (with_reducible refine Below.next ?_ (by with_reducible assumption)) | (with_reducible refine Below.drew ?_) | (with_reducible refine Below.laid ?_ _) | (with_reducible refine Below.setCell ?_ ?_ _) | (with_reducible refine size_of ?_) | (with_reducible refine Nat.le_succ_of_le ?_) | go_size))))).mono ?_
    rintro e w9 ⟨rfl, hb9⟩
    have BX := (Blk.new w8 23 #[.int .i64 0, .int .i64 0, .int .i64 0, .int .i64 0, .int .i64 0, .int .i64 0, .int .i64 0, .int .i64 0]).keep hb9
    replace BY := (BY.alloc _).keep hb9
    have hw9 : Below w.heap.size w w9 := by (repeat' (first | (with_reducible exact Below.refl _ _) | (with_reducible assumption) | (with_reducible refine Below.next ?_ (by with_reducible assumption)) | (with_reducible refine Below.drew ?_) | (with_reducible refine Below.laid ?_ _) | (with_reducible refine Below.setCell ?_ ?_ _) | (with_reducible refine size_of ?_) | (with_reducible refine Nat.le_succ_of_le ?_) | go_size))
    obtain ⟨c0, c1', c2, c3, c4, c5, c6, c7⟩ := BX.cells8.1
    obtain ⟨d0, d1, d2, d3, d4, d5, d6, d7⟩ := BY.cells8.1
    have hq := equal_counts 0 0 0 0 0 0 0 0 w9
    go_wp2
    go_ret
    exact ⟨by simp, hw9⟩
set_option maxHeartbeats 4000000 in
set_option maxRecDepth 100000 in
theorem fitTells_c (u : Int) (v : Value) (l : List (List Int)) (n0 n1 n2 n3 n4 n5 n6 n7 : Int) (w : World) (hl : IsRows w v l) (HET : EtOk w) (hu : Venn.things u = false) :
    Calls Tryd.prog 3 #[.int .i64 u, v, .agg #[.int .i64 n0, .int .i64 n1, .int .i64 n2, .int .i64 n3, .int .i64 n4, .int .i64 n5, .int .i64 n6, .int .i64 n7]] w (Keeps (.bool true) w) := by
  obtain ⟨rA, rc, rfl, hl'⟩ := hl
  have HL := Lib.hid (show IsRows w (.slice rA l.length rc) l from ⟨rA, rc, rfl, hl'⟩)
  have h0 : Venn.fitChk u l = 1 := by rw [Venn.fitChk, hu]; rfl
  have HMV := Lib.hid (show manyV u l = .tuple #[.int .i64 0, errV 1] by rw [manyV, if_neg (by rw [h0]; decide), h0])
  have HLV := Lib.hid (show leastV u l = .tuple #[.agg zero8, errV 1] by rw [leastV, if_neg (by rw [h0]; decide), h0])
  have HNV := Lib.hid (show nextV u [n0, n1, n2, n3, n4, n5, n6, n7] = .tuple #[.agg zero8, errV 1] by rw [nextV, hu]; rfl)
  have hbad : u < 0 ∨ (¬ u < 0 ∧ 6 < u) := by
    by_cases h : u < 0
    · exact .inl h
    · refine .inr ⟨h, ?_⟩
      have : ¬ (0 ≤ u ∧ u ≤ 6) := by simpa [Venn.things] using hu
      omega
  clear hl' hu h0
  rcases hbad with q1 | ⟨q1, q2⟩
  all_goals
    go_enter Tryd.func3, Tryd.ntmps3
    go_wp2_with fail
    refine (fit_Many u _ l _ (HL.out.keep (by (repeat' (first | (with_reducible exact Below.refl _ _) | (with_reducible assumption) | (with_reducible refine Below.next ?_ (by with_reducible assumption)) | (with_reducible refine Below.drew ?_) | (with_reducible refine Below.laid ?_ _) | (with_reducible refine Below.setCell ?_ ?_ _) | (with_reducible refine size_of ?_) | (with_reducible refine Nat.le_succ_of_le ?_) | go_size))))).mono ?_
    rintro e w3 ⟨rfl, hb3⟩
    rw [HMV.out]
    have BN := ((Blk.new w 23 #[.int .i64 n0, .int .i64 n1, .int .i64 n2, .int .i64 n3, .int .i64 n4, .int .i64 n5, .int .i64 n6, .int .i64 n7]).alloc _).keep hb3
    have BZ := (Blk.newAt (w := w.alloc (.cells #[.int .i64 n0, .int .i64 n1, .int .i64 n2, .int .i64 n3, .int .i64 n4, .int .i64 n5, .int .i64 n6, .int .i64 n7] 23)) (g := w.heap.size + 1) (by simp) 23 #[.int .i64 0, .int .i64 0, .int .i64 0, .int .i64 0, .int .i64 0, .int .i64 0, .int .i64 0, .int .i64 0]).keep hb3
    have hw3 : Below w.heap.size w w3 := by (repeat' (first | (with_reducible exact Below.refl _ _) | (with_reducible assumption) | (with_reducible refine Below.next ?_ (by with_reducible assumption)) | (with_reducible refine Below.drew ?_) | (with_reducible refine Below.laid ?_ _) | (with_reducible refine Below.setCell ?_ ?_ _) | (with_reducible refine size_of ?_) | (with_reducible refine Nat.le_succ_of_le ?_) | go_size))
    go_wp2_with fail
    refine (vennsame_Error _ _ _ (HET.keep (by (repeat' (first | (with_reducible exact Below.refl _ _) | (with_reducible assumption) | (with_reducible refine Below.next ?_ (by with_reducible assumption)) | (with_reducible refine Below.drew ?_) | (with_reducible refine Below.laid ?_ _) | (with_reducible refine Below.setCell ?_ ?_ _) | (with_reducible refine size_of ?_) | (with_reducible refine Nat.le_succ_of_le ?_) | go_size))))).mono ?_
    rintro e w4 ⟨rfl, hb4⟩
    replace BN := BN.keep hb4
    replace BZ := BZ.keep hb4
    have hw4 : Below w.heap.size w w4 := by (repeat' (first | (with_reducible exact Below.refl _ _) | (with_reducible assumption) | (with_reducible refine Below.next ?_ (by with_reducible assumption)) | (with_reducible refine Below.drew ?_) | (with_reducible refine Below.laid ?_ _) | (with_reducible refine Below.setCell ?_ ?_ _) | (with_reducible refine size_of ?_) | (with_reducible refine Nat.le_succ_of_le ?_) | go_size))
    clear hb3 hb4 hw3
    go_wp2_with fail
    refine (fit_Least u _ l _ (HL.out.keep (by (repeat' (first | (with_reducible exact Below.refl _ _) | (with_reducible assumption) | (with_reducible refine Below.next ?_ (by with_reducible assumption)) | (with_reducible refine Below.drew ?_) | (with_reducible refine Below.laid ?_ _) | (with_reducible refine Below.setCell ?_ ?_ _) | (with_reducible refine size_of ?_) | (with_reducible refine Nat.le_succ_of_le ?_) | go_size))))).mono ?_
    rintro e w5 ⟨rfl, hb5⟩
    rw [HLV.out]
    replace BN := BN.keep hb5
    replace BZ := BZ.keep hb5
    have hw5 : Below w.heap.size w w5 := by (repeat' (first | (with_reducible exact Below.refl _ _) | (with_reducible assumption) | (with_reducible refine Below.next ?_ (by with_reducible assumption)) | (with_reducible refine Below.drew ?_) | (with_reducible refine Below.laid ?_ _) | (with_reducible refine Below.setCell ?_ ?_ _) | (with_reducible refine size_of ?_) | (with_reducible refine Nat.le_succ_of_le ?_) | go_size))
    go_wp2_with fail
    refine (vennsame_Error _ _ _ (HET.keep (by (repeat' (first | (with_reducible exact Below.refl _ _) | (with_reducible assumption) | (with_reducible refine Below.next ?_ (by with_reducible assumption)) | (with_reducible refine Below.drew ?_) | (with_reducible refine Below.laid ?_ _) | (with_reducible refine Below.setCell ?_ ?_ _) | (with_reducible refine size_of ?_) | (with_reducible refine Nat.le_succ_of_le ?_) | go_size))))).mono ?_
    rintro e w6 ⟨rfl, hb6⟩
    have BX := (Blk.new w5 23 #[.int .i64 0, .int .i64 0, .int .i64 0, .int .i64 0, .int .i64 0, .int .i64 0, .int .i64 0, .int .i64 0]).keep hb6
    replace BN := (BN.alloc _).keep hb6
    replace BZ := (BZ.alloc _).keep hb6
    have hw6 : Below w.heap.size w w6 := by (repeat' (first | (with_reducible exact Below.refl _ _) | (with_reducible assumption) | (with_reducible refine Below.next ?_ (by with_reducible assumption)) | (with_reducible refine Below.drew ?_) | (with_reducible refine Below.laid ?_ _) | (with_reducible refine Below.setCell ?_ ?_ _) | (with_reducible refine size_of ?_) | (with_reducible refine Nat.le_succ_of_le ?_) | go_size))
    obtain ⟨c0, c1', c2, c3, c4, c5, c6, c7⟩ := BX.cells8.1
    obtain ⟨d0, d1, d2, d3, d4, d5, d6, d7⟩ := BZ.cells8.1
    have hq := equal_counts 0 0 0 0 0 0 0 0 w6
    go_upto_region 22 with (fail)
    clear c0 c1' c2 c3 c4 c5 c6 c7 d0 d1 d2 d3 d4 d5 d6 d7 hq hb5 hb6 BX BZ hw4 hw5
    obtain ⟨f0, f1, f2, f3, f4, f5, f6, f7⟩ := BN.cells8.1
    have hnl := BN.lt
    go_wp2_with fail
    refine wp_loop_rounds 1 ?_
    rw [rounds_succ]
    go_wp2_with fail
    refine (fit_Next u n0 n1 n2 n3 n4 n5 n6 n7 _).mono ?_
    rintro e w8 ⟨rfl, hb8⟩
    rw [HNV.out]
    have BY := (Blk.new w6 23 #[.int .i64 0, .int .i64 0, .int .i64 0, .int .i64 0, .int .i64 0, .int .i64 0, .int .i64 0, .int .i64 0]).keep hb8
    have hw8 : Below w.heap.size w w8 := by (repeat' (first | (with_reducible exact Below.refl _ _) | (with_reducible assumption) | (with_reducible refine Below.next ?_ (by with_reducible assumption)) | (with_reducible refine Below.drew ?_) | (with_reducible refine Below.laid ?_ _) | (with_reducible refine Below.setCell ?_ ?_ _) | (with_reducible refine size_of ?_) | (with_reducible refine Nat.le_succ_of_le ?_) | go_size))
    go_wp2_with fail
    refine (vennsame_Error _ _ _ (HET.keep (by (repeat' (first | (with_reducible exact Below.refl _ _) | (with_reducible assumption) | (with_reducible refine Below.next ?_ (by with_reducible assumption)) | (with_reducible refine Below.drew ?_) | (with_reducible refine Below.laid ?_ _) | (with_reducible refine Below.setCell ?_ ?_ _) | (with_reducible refine size_of ?_) | (with_reducible refine Nat.le_succ_of_le ?_) | go_size))))).mono ?_
    rintro e w9 ⟨rfl, hb9⟩
    have BX := (Blk.new w8 23 #[.int .i64 0, .int .i64 0, .int .i64 0, .int .i64 0, .int .i64 0, .int .i64 0, .int .i64 0, .int .i64 0]).keep hb9
    replace BY := (BY.alloc _).keep hb9
    have hw9 : Below w.heap.size w w9 := by (repeat' (first | (with_reducible exact Below.refl _ _) | (with_reducible assumption) | (with_reducible refine Below.next ?_ (by with_reducible assumption)) | (with_reducible refine Below.drew ?_) | (with_reducible refine Below.laid ?_ _) | (with_reducible refine Below.setCell ?_ ?_ _) | (with_reducible refine size_of ?_) | (with_reducible refine Nat.le_succ_of_le ?_) | go_size))
    obtain ⟨c0, c1', c2, c3, c4, c5, c6, c7⟩ := BX.cells8.1
    obtain ⟨d0, d1, d2, d3, d4, d5, d6, d7⟩ := BY.cells8.1
    have hq := equal_counts 0 0 0 0 0 0 0 0 w9
    go_wp2
    go_ret
    exact ⟨by simp, hw9⟩
theorem fitTells_walk (u : Int) (v : Value) (l : List (List Int)) (n0 n1 n2 n3 n4 n5 n6 n7 : Int) (w : World) (hl : IsRows w v l) (HET : EtOk w) :
    Calls Tryd.prog 3 #[.int .i64 u, v, .agg #[.int .i64 n0, .int .i64 n1, .int .i64 n2, .int .i64 n3, .int .i64 n4, .int .i64 n5, .int .i64 n6, .int .i64 n7]] w (Keeps (.bool true) w) := by
  cases hu : Venn.things u
  · exact fitTells_c u v l n0 n1 n2 n3 n4 n5 n6 n7 w hl HET hu
  · by_cases hr : Venn.rowsChk l = 0
    · exact fitTells_a u v l n0 n1 n2 n3 n4 n5 n6 n7 w hl HET hu hr
    · exact fitTells_b u v l n0 n1 n2 n3 n4 n5 n6 n7 w hl HET hu hr
end Go.Proofs.YtnjamgmaclmlpaaDoor
