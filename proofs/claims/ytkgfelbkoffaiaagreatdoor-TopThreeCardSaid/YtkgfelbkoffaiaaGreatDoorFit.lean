/-
  THE WALKS of fit.Least, fit.Many, fit.Next.
-/
import Derived.Test.YtkgfelbkoffaiaaGreatDoorFitG
namespace Go.Proofs.YtkgfelbkoffaiaaGreatDoor
open Go.RowKit Go.Shelf
attribute [local go_sem] Oper.semAt_some

theorem boxes88 {w w1 : World} {tA tB : TypeId} {cs ds : Array Value}
    (hb : Below ((w.alloc (.cells cs tA)).alloc (.cells ds tB)).heap.size ((w.alloc (.cells cs tA)).alloc (.cells ds tB)) w1) :
    Blk w1 w.heap.size tA cs ∧ Blk w1 (w.heap.size + 1) tB ds :=
  ⟨((Blk.new w _ _).alloc _).keep hb, (Blk.newAt (by simp) _ _).keep hb⟩
def leastV (u : Int) (l : List (List Int)) : Value :=
  if Venn.fitChk u l = 0 then (match Venn.firstFit u l with
    | some x => .tuple #[.agg (cells x), .nilIface]
    | none => .tuple #[.agg zero8, errV 5])
  else .tuple #[.agg zero8, errV (Venn.fitChk u l)]
def manyV (u : Int) (l : List (List Int)) : Value :=
  if Venn.fitChk u l = 0 then .tuple #[.int .i64 (Venn.manyFit u l), .nilIface] else .tuple #[.int .i64 0, errV (Venn.fitChk u l)]
def nextV (u : Int) (n : List Int) : Value :=
  if Venn.things u = true then
    (if Venn.countsChk n = 0 then
      (if n.sum = u then (match Venn.afterC n with
        | some y => .tuple #[.agg (cells y), .nilIface]
        | none => .tuple #[.agg zero8, errV 5])
      else .tuple #[.agg zero8, errV 3])
    else .tuple #[.agg zero8, errV (Venn.countsChk n)])
  else .tuple #[.agg zero8, errV 1]
theorem fit_parts {u : Int} {l : List (List Int)} (h : Venn.fitChk u l = 0) : Venn.things u = true ∧ l.all Venn.rowOk = true := by
  unfold Venn.fitChk at h
  split at h
  · rename_i hu
    refine ⟨hu, ?_⟩
    unfold Venn.rowsChk at h
    split at h
    · cases h
    · split at h
      · assumption
      · cases h
  · cases h
theorem firstFit_mem {u : Int} {l : List (List Int)} {x : List Int} (h : Venn.firstFit u l = some x) : x ∈ Venn.allC u ∧ Venn.rowsSo l x = true :=
  ⟨List.mem_of_find?_eq_some h, List.find?_some h⟩

theorem len_allC : ∀ U : Fin 7, (Venn.allG 7 U.val).length ≤ 2000 := by decide +kernel
theorem len_allC' {u : Int} (h : Venn.things u = true) : (Venn.allC u).length ≤ 2000 := by
  obtain ⟨h0, h1⟩ := things_parts h
  exact len_allC ⟨u.toNat, by omega⟩
def cntOf (l : List (List Int)) (pre : List (List Int)) : Nat := (pre.filter (Venn.rowsSo l)).length
theorem cntOf_snoc (l : List (List Int)) (pre : List (List Int)) (x : List Int) : cntOf l (pre ++ [x]) = cntOf l pre + (if Venn.rowsSo l x = true then 1 else 0) := by
  unfold cntOf
  rw [List.filter_append, List.length_append, List.filter_cons]
  split <;> rfl
theorem cntOf_le (l : List (List Int)) (pre : List (List Int)) : cntOf l pre ≤ pre.length := List.length_filter_le _ _

set_option maxHeartbeats 2000000 in
set_option maxRecDepth 100000 in
theorem fit_Many (u : Int) (v : Value) (l : List (List Int)) (w : World) (hl : IsRows w v l) : Calls Tryz.prog 14 #[.int .i64 u, v] w (Keeps (manyV u l) w) := by
  obtain ⟨A, c, rfl, hrest⟩ := hl
  have HL : IsRows w (.slice A l.length c) l := ⟨A, c, rfl, hrest⟩
  clear hrest
  by_cases h0 : ¬ Venn.fitChk u l = 0
  · have HZ := Lib.hid (errV_ne h0)
    have HV := Lib.hid (show manyV u l = .tuple #[.int .i64 0, .iface 80 (.int .i64 (Venn.fitChk u l))] by rw [manyV, if_neg h0, errV_ne h0])
    clear h0
    generalize manyV u l = E at HV ⊢
    refine (callsIn_wide (n := 4)).1 ?_
    refine callsIn_of_wp_marks Tryz.func14 rfl trivial ?_ rfl
    simp only [Tryz.ntmps14, List.size_toArray, List.length_cons, List.length_nil, Nat.reduceAdd, Nat.reduceSub, Array.replicate_succ, Array.replicate_zero, List.push_toArray, List.append_toArray, List.nil_append, List.cons_append]
    gi_wp2_with (refine ⟨trivial, ?_⟩; gi_at_call 45; refine (callsIn_wide.2 (fit_check _ _ l _ (HL.keep (by (repeat' (first | (with_reducible exact Below.refl _ _) | (with_reducible assumption) | (with_reducible refine Below.next ?_ (by with_reducible assumption)) | (with_reducible refine Below.drew ?_) | (with_reducible refine Below.laid ?_ _) | (with_reducible refine Below.setCell ?_ ?_ _) | (with_reducible refine size_of ?_) | (with_reducible refine Nat.le_succ_of_le ?_) | go_size)))))).mono ?_; rintro e w1 ⟨rfl, hb1⟩; rw [HZ.out])
    refine leave_none (v := .tuple #[.int .i64 0, .iface 80 (.int .i64 (Venn.fitChk u l))]) rfl (by simp [results, Tryz.results14, go_sem]) ⟨congrArg Ending.returned HV.out.symm, by (repeat' (first | (with_reducible exact Below.refl _ _) | (with_reducible assumption) | (with_reducible refine Below.next ?_ (by with_reducible assumption)) | (with_reducible refine Below.drew ?_) | (with_reducible refine Below.laid ?_ _) | (with_reducible refine Below.setCell ?_ ?_ _) | (with_reducible refine size_of ?_) | (with_reducible refine Nat.le_succ_of_le ?_) | go_size))⟩
  replace h0 := Decidable.not_not.1 h0
  obtain ⟨hu, hok⟩ := fit_parts h0
  have HU := Lib.hid hu; have HOK := Lib.hid hok
  have HZ := Lib.hid (errV_zero h0)
  have HV := Lib.hid (show manyV u l = .tuple #[.int .i64 (cntOf l (Venn.allC u)), .nilIface] by rw [manyV, if_pos h0]; rfl)
  have hlen := len_allC' hu
  clear h0 hu hok
  generalize manyV u l = E at HV ⊢
  refine (callsIn_wide (n := 4)).1 ?_
  refine callsIn_of_wp_marks Tryz.func14 rfl trivial ?_ rfl
  simp only [Tryz.ntmps14, List.size_toArray, List.length_cons, List.length_nil, Nat.reduceAdd, Nat.reduceSub, Array.replicate_succ, Array.replicate_zero, List.push_toArray, List.append_toArray, List.nil_append, List.cons_append]
  gi_wp2_with (first
    | (refine ⟨trivial, ?_⟩; gi_at_call 45; refine (callsIn_wide.2 (fit_check _ _ l _ (HL.keep (by (repeat' (first | (with_reducible exact Below.refl _ _) | (with_reducible assumption) | (with_reducible refine Below.next ?_ (by with_reducible assumption)) | (with_reducible refine Below.drew ?_) | (with_reducible refine Below.laid ?_ _) | (with_reducible refine Below.setCell ?_ ?_ _) | (with_reducible refine size_of ?_) | (with_reducible refine Nat.le_succ_of_le ?_) | go_size)))))).mono ?_; rintro e w1 ⟨rfl, hb1⟩; rw [HZ.out])
    | (refine ⟨trivial, ?_⟩; gi_at_call 38; refine (callsIn_wide.2 (fit_All u _)).mono ?_; rintro e w' ⟨rfl, rfl⟩))
  have hB0 := (((Blk.new w 43 #[.slice A l.length c]).keep hb1).alloc (.cells #[.int .i64 0] 3)).alloc (.cells #[.int .i64 u] 3)
  have hB1 := (Blk.new w1 3 #[.int .i64 0]).alloc (.cells #[.int .i64 u] 3)
  have hB2 := Blk.newAt (w := w1.alloc (.cells #[.int .i64 0] 3)) (g := w1.heap.size + 1) (by simp) 3 #[.int .i64 u]
  have hbW : Below w.heap.size w ((w1.alloc (.cells #[.int .i64 0] 3)).alloc (.cells #[.int .i64 u] 3)) := by (repeat' (first | (with_reducible exact Below.refl _ _) | (with_reducible assumption) | (with_reducible refine Below.next ?_ (by with_reducible assumption)) | (with_reducible refine Below.drew ?_) | (with_reducible refine Below.laid ?_ _) | (with_reducible refine Below.setCell ?_ ?_ _) | (with_reducible refine size_of ?_) | (with_reducible refine Nat.le_succ_of_le ?_) | go_size))
  have hsz1 : w.heap.size < w1.heap.size := by have := hb1.size; simp at this; omega
  have hsz : ((w1.alloc (.cells #[.int .i64 0] 3)).alloc (.cells #[.int .i64 u] 3)).heap.size = w1.heap.size + 2 := by simp
  generalize ((w1.alloc (.cells #[.int .i64 0] 3)).alloc (.cells #[.int .i64 u] 3)) = W0 at hB0 hB1 hB2 hbW hsz
  have hC : ∀ b, b = w1.heap.size → w.heap.size ≤ b := by omega
  refine wpIn_rangeAll u HU.out (w1.heap.size + 1) rfl (hB2.cell 0) rfl (fun b => b = w1.heap.size) (by intro b hb; omega)
    (fun pre W => Blk W w1.heap.size 3 #[.int .i64 (cntOf l pre : Nat)]) (fun _ _ _ => False)
    (by rintro s X Y hb h; exact h.below hb (by omega)) (by rintro c s X Y hb h; exact h) hB1
    (fun x B => { tmps := #[.int .i64 u, .slice A l.length c, undef, .pointer (some ⟨w.heap.size, 0, none⟩), .int .i64 0, .nilIface, .nilIface, .pointer (some ⟨w1.heap.size, 0, none⟩), .pointer (some ⟨B, 0, none⟩), .int .i64 u, .slice A l.length c, .nilIface, .nilIface, .bool false, undef, .int .i64 u, fitAllV (w1.heap.size + 1), cntV x, undef, undef, undef, undef, undef, undef], defers := [] }) ?assign ?body ?done ?stop
  case assign =>
    intro l x W K hm hK
    obtain ⟨a0, a1, a2, a3, a4, a5, a6, a7, rfl, _⟩ := Venn.of_allC HU.out hm
    unfold cntV
    gi_wp2
    exact hK
  case body =>
    rintro lo pre x rest W Bx hxs hbut h1 hX hBx
    have hm : x ∈ Venn.allC u := by rw [hxs]; simp
    have hpl : cntOf l pre ≤ 2000 := by have := cntOf_le l pre; rw [hxs] at hlen; simp at hlen; omega
    obtain ⟨a0, a1, a2, a3, a4, a5, a6, a7, rfl, b0, b1, b2, b3, b4, b5, b6, b7, _⟩ := Venn.of_allC HU.out hm
    have HLW := Lib.hid (HL.keep (hbW.trans (hbut.below (by omega) hC)))
    have hb0 := (hB0.but hbut (by omega)).cell 0
    simp only [List.map] at hX
    obtain ⟨⟨c0, c1, c2, c3, c4, c5, c6, c7⟩, _⟩ := hX.cells8
    have HB := Lib.hid (And.intro b0 (And.intro b1 (And.intro b2 (And.intro b3 (And.intro b4 (And.intro b5 (And.intro b6 b7)))))))
    have HS1 := Lib.hid (cntOf_snoc l pre [a0, a1, a2, a3, a4, a5, a6, a7])
    clear hm hxs b0 b1 b2 b3 b4 b5 b6 b7
    generalize cntOf l pre = N at HS1 hpl h1
    unfold cntV
    have hd1 : 1 ≤ 2 := by decide
    rcases hso : Venn.rowsSo l [a0, a1, a2, a3, a4, a5, a6, a7] with _ | _
    · have HN := Lib.hid (show cntOf l (pre ++ [[a0, a1, a2, a3, a4, a5, a6, a7]]) = N by have := HS1.out; rw [hso] at this; simpa using this)
      have HS := Lib.hid hso
      clear hso HS1
      gi_wp2_with (refine ⟨trivial, ?_⟩; gi_at_call 46; refine (CallsIn.inRound lo (callsIn_wide.2 (rows_So _ l a0 a1 a2 a3 a4 a5 a6 a7 W HLW.out HOK.out HB.out))).mono ?_; rintro e W1 ⟨rfl, hb1⟩; rw [HS.out])
      exact ⟨But.of_below hb1, by show Blk _ _ _ #[.int .i64 ((cntOf l (pre ++ [[a0, a1, a2, a3, a4, a5, a6, a7]]) : Nat) : Int)]; rw [HN.out]; exact h1.keep hb1⟩
    · have HN := Lib.hid (show cntOf l (pre ++ [[a0, a1, a2, a3, a4, a5, a6, a7]]) = N + 1 by have := HS1.out; rw [hso] at this; simpa using this)
      have HS := Lib.hid hso
      clear hso HS1
      have hw : IntKind.i64.wrap ((N : Int) + 1) = (N : Int) + 1 := IntWalk.i64_in _ (by omega)
      gi_wp2_with (refine ⟨trivial, ?_⟩; gi_at_call 46; refine (CallsIn.inRound lo (callsIn_wide.2 (rows_So _ l a0 a1 a2 a3 a4 a5 a6 a7 W HLW.out HOK.out HB.out))).mono ?_; rintro e W1 ⟨rfl, hb1⟩; rw [HS.out]; have e8 := (h1.keep hb1).cell 0; have f8 := (h1.keep hb1).frozen 0)
      exact ⟨(But.of_below (C := fun b => b = w1.heap.size) hb1).set_ (p := ⟨w1.heap.size, 0, none⟩) rfl _, by show Blk _ _ _ #[.int .i64 ((cntOf l (pre ++ [[a0, a1, a2, a3, a4, a5, a6, a7]]) : Nat) : Int)]; rw [HN.out]; exact (h1.keep hb1).set_ 0 _⟩
  case done =>
    rintro D W hD hbut h1 hK
    have e8 := h1.cell 0
    gi_wp2
    exact leave_mark (v := .tuple #[.int .i64 (cntOf l (Venn.allC u) : Nat), .nilIface]) rfl hK (by simp [results, Tryz.results14, go_sem]) ⟨congrArg Ending.returned HV.out.symm, hbW.trans ((hbut.put hD _).below (by omega) hC)⟩
  case stop =>
    rintro D c pre x rest W hD hxs hbut h hK
    exact h.elim

theorem afterC_shape {n0 n1 n2 n3 n4 n5 n6 n7 : Int} {y : List Int} (h : Venn.afterC [n0, n1, n2, n3, n4, n5, n6, n7] = some y) : ∃ y0 y1 y2 y3 y4 y5 y6 y7 : Int, y = [y0, y1, y2, y3, y4, y5, y6, y7] := by
  simp only [Venn.afterC] at h
  repeat' split at h
  all_goals first
    | (simp only [Option.some.injEq] at h; subst h; exact ⟨_, _, _, _, _, _, _, _, rfl⟩)
    | cases h
end Go.Proofs.YtkgfelbkoffaiaaGreatDoor
