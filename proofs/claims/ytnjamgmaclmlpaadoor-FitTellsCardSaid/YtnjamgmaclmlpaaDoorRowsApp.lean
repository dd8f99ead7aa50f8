/-
  append of rows onto a row of the call's own; the walk of rows.Fits.
-/
import Derived.Test.YtnjamgmaclmlpaaDoorRowChk
import Derived.Test.YtnjamgmaclmlpaaDoorVennP1
import Derived.Test.YtnjamgmaclmlpaaDoorApp
namespace Go.Proofs.YtnjamgmaclmlpaaDoor
open Go.RowKit

abbrev flat9 (l : List (List Int)) : List Value := l.flatMap fun r => r.map (Value.int .i64)
theorem flat_len : ∀ (l : List (List Int)), (∀ r ∈ l, r.length = 9) → (flat9 l).length = l.length * 9 := by
  intro l
  induction l with
  | nil => intro _; rfl
  | cons r l ih =>
    intro h
    have h1 := h r (by simp)
    have h2 := ih fun r hr => h r (List.mem_cons_of_mem _ hr)
    simp only [flat9, List.flatMap_cons, List.length_append, List.length_map, List.length_cons] at h2 ⊢
    omega
theorem row_info : (Tryd.prog.info? 79).map (fun i => (i.zero, i.size, i.bytes)) = some (some (.agg zero9), 9, 72) := by kernel_rfl

set_option maxRecDepth 100000 in
theorem wpList_appRows {ops : Array Oper} {rest : List Oper} {o : Oper} {a : Act} {Q : Exit → Act → World → Prop} (w : World) (hgd : o.guard = none) (s x : Operand)
    (ho : o.op = .call { callee := .builtin .append, args := #[s, x], argTypes := #[22, 22] })
    (base : Nat) (v : Value) (n : Nat) (xs : List Value) (hs : a.eval s = v) (hown : w.ownsRow base 79 9 v n xs)
    (A : Option Addr) (c : Nat) (l : List (List Int)) (hx : a.eval x = .slice A l.length c) (hr : Rd w A (flat9 l)) (h9 : ∀ r ∈ l, r.length = 9) (hn : n + l.length ≤ 1000) (hbase : base ≤ w.heap.size)
    (h : ∀ v' w', w'.ownsRow base 79 9 v' (n + l.length) (xs ++ flat9 l) → w.grownBy w' v.ownBlock → wpList Tryd.prog ops Q rest (a.put o.dst v') w') : wpList Tryd.prog ops Q (o :: rest) a w := by
  obtain ⟨i0, hi, hz0, hz1, hz2⟩ := info_parts row_info
  rcases A with _ | ad
  · have hl : l = [] := by
      rcases l with _ | ⟨y, l⟩
      · rfl
      · have hy := h9 y (by simp)
        match y, hy with
        | y0 :: y', _ =>
          obtain ⟨_, h, _⟩ := hr 0 (.int .i64 y0) (by simp [flat9])
          cases h
    subst hl
    refine wpList_plain hgd fun K hK => ?_
    have hrun := run_append_of_nil (P := Tryd.prog) w base 22 o.type 79 i0 9 Tryd.underlying22 hi v n xs hown c
    unfold Oper.wp execOp
    simp only [ho, resolve, invoke, builtin, Sem.run_bind, Sem.run_pure, Result.andThen_ok, List.map_toArray, List.map_cons, List.map_nil, hs, hx, List.length_nil, hrun]
    exact hK _ _ (h v w (by simpa [flat9] using hown) (World.grownBy.refl w _))
  · refine wpList_append_own w hgd s x _ ho base _ i0 _ 9 72 Tryd.underlying22 hi hz0 hz1 hz2 rfl (by decide) v n xs hs hown ad l.length c (flat9 l) hx (flat_len l h9) ?_ ?_ (by unfold maxLen; omega) (by omega) hbase (fun v' w' h1 h2 _ => h v' w' h1 h2)
    · intro j u hj
      obtain ⟨ad', e, hc⟩ := hr j u hj
      injection e with e
      subst e
      exact hc
    · intro u hu
      obtain ⟨r, _, hu⟩ := List.mem_flatMap.1 hu
      obtain ⟨y, _, rfl⟩ := List.mem_map.1 hu
      rfl

/-- What a row of the call's own holds reads as rows. -/
theorem IsRows.of_own {w : World} {base : Nat} {e : TypeId} {v : Value} {n : Nat} {l : List (List Int)} (h : w.ownsRow base e 9 v n (flat9 l)) (h9 : ∀ r ∈ l, r.length = 9) : IsRows w v l := by
  have hn : n = l.length := by have := h.1; rw [flat_len l h9] at this; omega
  subst hn
  rcases h.2 with ⟨rfl, hl⟩ | ⟨g, cap, cur, rfl, _, hh, hnc, hcm, hcs, ht⟩
  · have : l = [] := List.eq_nil_of_length_eq_zero hl
    subst this
    exact IsRows.nil _
  · exact ⟨_, _, rfl, fun j u hj => ⟨_, rfl, h.cells (g := g) rfl j u hj⟩, h9, hnc, hcm⟩

theorem counts_bound {n0 n1 n2 n3 n4 n5 n6 n7 : Int} (hc : Venn.countsChk [n0, n1, n2, n3, n4, n5, n6, n7] = 0) : (0 ≤ n0 ∧ n0 ≤ 6) ∧ (0 ≤ n1 ∧ n1 ≤ 6) ∧ (0 ≤ n2 ∧ n2 ≤ 6) ∧ (0 ≤ n3 ∧ n3 ≤ 6) ∧ (0 ≤ n4 ∧ n4 ≤ 6) ∧ (0 ≤ n5 ∧ n5 ≤ 6) ∧ (0 ≤ n6 ∧ n6 ≤ 6) ∧ (0 ≤ n7 ∧ n7 ≤ 6) := by
  unfold Venn.countsChk at hc
  split at hc
  · rename_i ha
    simp only [List.all_cons, List.all_nil, Bool.and_true, Bool.and_eq_true, Venn.things, decide_eq_true_eq] at ha
    omega
  · cases hc
theorem counts_sum {n0 n1 n2 n3 n4 n5 n6 n7 : Int} (hc : Venn.countsChk [n0, n1, n2, n3, n4, n5, n6, n7] = 0) : n0 + n1 + n2 + n3 + n4 + n5 + n6 + n7 ≤ 6 := by
  have hb := counts_bound hc
  unfold Venn.countsChk at hc
  split at hc
  · split at hc
    · cases hc
    · rename_i h6
      simp only [List.sum_cons, List.sum_nil] at h6
      omega
  · cases hc
set_option maxHeartbeats 1000000 in
set_option maxRecDepth 100000 in
theorem rows_Fits (v : Value) (l : List (List Int)) (n0 n1 n2 n3 n4 n5 n6 n7 : Int) (w : World) (hl : IsRows w v l) :
    Calls Tryd.prog 43 #[v, .agg #[.int .i64 n0, .int .i64 n1, .int .i64 n2, .int .i64 n3, .int .i64 n4, .int .i64 n5, .int .i64 n6, .int .i64 n7]] w
      (Keeps (.tuple #[.bool (Venn.fitsV l [n0, n1, n2, n3, n4, n5, n6, n7]), errV (Venn.fitsChk l [n0, n1, n2, n3, n4, n5, n6, n7])]) w) := by
  obtain ⟨A, c, rfl, hrest⟩ := hl
  have HL : IsRows w (.slice A l.length c) l := ⟨A, c, rfl, hrest⟩
  clear hrest
  by_cases h1 : Venn.rowsChk l = 0
  · have HX := Lib.hid (errV_zero h1)
    by_cases h2 : Venn.countsChk [n0, n1, n2, n3, n4, n5, n6, n7] = 0
    · have HY := Lib.hid (errV_zero h2)
      have hc : Venn.fitsChk l [n0, n1, n2, n3, n4, n5, n6, n7] = 0 := by rw [Venn.fitsChk, if_pos h1]; exact h2
      have hok : l.all Venn.rowOk = true := by
        unfold Venn.rowsChk at h1
        split at h1
        · cases h1
        · split at h1
          · assumption
          · cases h1
      have HB := Lib.hid (counts_bound h2)
      rw [Venn.fitsV, if_pos hc, errV_zero hc]
      clear h1 h2 hc
      go_enter Tryd.func43, Tryd.ntmps43
      go_wp2_with fail
      refine (rows_Check _ l _ (HL.keep (by (repeat' (first | (with_reducible exact Below.refl _ _) | (with_reducible assumption) | (with_reducible refine Below.next ?_ (by with_reducible assumption)) | (with_reducible refine Below.drew ?_) | (with_reducible refine Below.laid ?_ _) | (with_reducible refine Below.setCell ?_ ?_ _) | (with_reducible refine size_of ?_) | (with_reducible refine Nat.le_succ_of_le ?_) | go_size))))).mono ?_
      rintro e w1 ⟨rfl, hb1⟩
      rw [HX.out]
      have B1 := (Blk.new w 23 #[.int .i64 n0, .int .i64 n1, .int .i64 n2, .int .i64 n3, .int .i64 n4, .int .i64 n5, .int .i64 n6, .int .i64 n7]).keep hb1
      obtain ⟨⟨c0, c1, c2, c3, c4, c5, c6, c7⟩, _⟩ := B1.cells8
      go_wp2_with fail
      refine (fields_Check _ _ _ _ _ _ _ _ _).mono ?_
      rintro e w2 ⟨rfl, hb2⟩
      rw [HY.out]
      obtain ⟨⟨d0, d1, d2, d3, d4, d5, d6, d7⟩, _⟩ := (B1.keep hb2).cells8
      go_wp2_with fail
      refine (rows_So _ l n0 n1 n2 n3 n4 n5 n6 n7 _ (HL.keep (by (repeat' (first | (with_reducible exact Below.refl _ _) | (with_reducible assumption) | (with_reducible refine Below.next ?_ (by with_reducible assumption)) | (with_reducible refine Below.drew ?_) | (with_reducible refine Below.laid ?_ _) | (with_reducible refine Below.setCell ?_ ?_ _) | (with_reducible refine size_of ?_) | (with_reducible refine Nat.le_succ_of_le ?_) | go_size)))) hok HB.out).mono ?_
      rintro e w3 ⟨rfl, hb3⟩
      go_wp2
      go_ret2
      exact ⟨rfl, by (repeat' (first | (with_reducible exact Below.refl _ _) | (with_reducible assumption) | (with_reducible refine Below.next ?_ (by with_reducible assumption)) | (with_reducible refine Below.drew ?_) | (with_reducible refine Below.laid ?_ _) | (with_reducible refine Below.setCell ?_ ?_ _) | (with_reducible refine size_of ?_) | (with_reducible refine Nat.le_succ_of_le ?_) | go_size))⟩
    · have HY := Lib.hid (errV_ne h2)
      have hc : Venn.fitsChk l [n0, n1, n2, n3, n4, n5, n6, n7] = Venn.countsChk [n0, n1, n2, n3, n4, n5, n6, n7] := by rw [Venn.fitsChk, if_pos h1]
      rw [Venn.fitsV, hc, if_neg h2, errV_ne h2]
      clear h1 h2 hc
      go_enter Tryd.func43, Tryd.ntmps43
      go_wp2_with fail
      refine (rows_Check _ l _ (HL.keep (by (repeat' (first | (with_reducible exact Below.refl _ _) | (with_reducible assumption) | (with_reducible refine Below.next ?_ (by with_reducible assumption)) | (with_reducible refine Below.drew ?_) | (with_reducible refine Below.laid ?_ _) | (with_reducible refine Below.setCell ?_ ?_ _) | (with_reducible refine size_of ?_) | (with_reducible refine Nat.le_succ_of_le ?_) | go_size))))).mono ?_
      rintro e w1 ⟨rfl, hb1⟩
      rw [HX.out]
      have B1 := (Blk.new w 23 #[.int .i64 n0, .int .i64 n1, .int .i64 n2, .int .i64 n3, .int .i64 n4, .int .i64 n5, .int .i64 n6, .int .i64 n7]).keep hb1
      obtain ⟨⟨c0, c1, c2, c3, c4, c5, c6, c7⟩, _⟩ := B1.cells8
      go_wp2_with fail
      refine (fields_Check _ _ _ _ _ _ _ _ _).mono ?_
      rintro e w2 ⟨rfl, hb2⟩
      rw [HY.out]
      go_wp2
      go_ret2
      exact ⟨rfl, by (repeat' (first | (with_reducible exact Below.refl _ _) | (with_reducible assumption) | (with_reducible refine Below.next ?_ (by with_reducible assumption)) | (with_reducible refine Below.drew ?_) | (with_reducible refine Below.laid ?_ _) | (with_reducible refine Below.setCell ?_ ?_ _) | (with_reducible refine size_of ?_) | (with_reducible refine Nat.le_succ_of_le ?_) | go_size))⟩
  · have HX := Lib.hid (errV_ne h1)
    have hc : Venn.fitsChk l [n0, n1, n2, n3, n4, n5, n6, n7] = Venn.rowsChk l := by rw [Venn.fitsChk, if_neg h1]
    rw [Venn.fitsV, hc, if_neg h1, errV_ne h1]
    clear h1 hc
    go_enter Tryd.func43, Tryd.ntmps43
    go_wp2_with fail
    refine (rows_Check _ l _ (HL.keep (by (repeat' (first | (with_reducible exact Below.refl _ _) | (with_reducible assumption) | (with_reducible refine Below.next ?_ (by with_reducible assumption)) | (with_reducible refine Below.drew ?_) | (with_reducible refine Below.laid ?_ _) | (with_reducible refine Below.setCell ?_ ?_ _) | (with_reducible refine size_of ?_) | (with_reducible refine Nat.le_succ_of_le ?_) | go_size))))).mono ?_
    rintro e w1 ⟨rfl, hb1⟩
    rw [HX.out]
    go_wp2
    go_ret2
    exact ⟨rfl, by (repeat' (first | (with_reducible exact Below.refl _ _) | (with_reducible assumption) | (with_reducible refine Below.next ?_ (by with_reducible assumption)) | (with_reducible refine Below.drew ?_) | (with_reducible refine Below.laid ?_ _) | (with_reducible refine Below.setCell ?_ ?_ _) | (with_reducible refine size_of ?_) | (with_reducible refine Nat.le_succ_of_le ?_) | go_size))⟩
end Go.Proofs.YtnjamgmaclmlpaaDoor
