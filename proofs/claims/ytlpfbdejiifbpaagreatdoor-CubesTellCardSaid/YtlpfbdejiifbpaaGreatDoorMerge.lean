/-
  THE WALK of cubes.merge: slices.Grow of nil, slices.Concat of two, the library's SortFunc and Compact.
-/
import Derived.Test.YtlpfbdejiifbpaaGreatDoorFuncs
import Derived.Test.YtlpfbdejiifbpaaGreatDoorFar
import Derived.Test.YtlpfbdejiifbpaaGreatDoorCompL
import Derived.Test.YtlpfbdejiifbpaaGreatDoorVennCubes
import Derived.Lib.SlKeysI
namespace Go.Proofs.YtlpfbdejiifbpaaGreatDoor
open Go.RowKit Go.Shelf Go.Sort

set_option maxHeartbeats 1000000 in
set_option maxRecDepth 100000 in
theorem grow_nil (n : Nat) (hn : n ≤ 1000) (w : World) : Calls Tryz.prog 124 #[.slice none 0 0, .int .i64 n] w (fun e w' => ∃ v, e = .returned v ∧ w'.ownsRow w.heap.size 3 1 v 0 [] ∧ Below w.heap.size w w') := by
  obtain ⟨i0, hi, hz0, hz1, hz2⟩ := info_parts int_info
  by_cases h0 : n = 0
  · subst h0
    go_enter Tryz.func124, Tryz.ntmps124
    go_wp2
    go_ret
    exact ⟨_, rfl, World.ownsRow_nil _ _ _ _, Below.refl _ _⟩
  · have happ := Lib.run_append_nil_zeros (P := Tryz.prog) w 23 3 23 3 i0 (.int .i64 0) .i64 .i64 Tryz.underlying23 Tryz.underlying3 hi hz0 n (by omega) (by omega) (by omega) (by rw [hz2]; omega)
    have hcapge : n ≤ grownCap w n 0 3 := grownCap_ge w _ 0 _
    have hcaple : grownCap w n 0 3 ≤ maxLen := grownCap_le_maxLen w _ 0 _ (by unfold maxLen; omega)
    generalize hcap : grownCap w n 0 3 = cap2 at happ hcapge hcaple
    generalize hZ : (Builtin.zeroCells (Value.int .i64 0).cells n ++ Builtin.zeroCells (Value.int .i64 0).cells (cap2 - n)) = Z at happ
    have hZs : Z.size = cap2 := by rw [← hZ]; simp [size_zeroCells, Value.cells]; omega
    clear hcap hZ hi hz0 hz1 hz2
    have hn1 : (0 : Int) < (n : Int) := by omega
    go_enter Tryz.func124, Tryz.ntmps124
    go_wp2_with (at_builtin; refine Lib.wpList_append_run _ rfl _ _ _ _ rfl _ _ rfl rfl _ _ happ ?_)
    go_wp2
    go_ret
    refine ⟨_, rfl, ⟨rfl, .inr ⟨w.heap.size, cap2, Z, rfl, Nat.le_refl _, ?_, Nat.zero_le _, hcaple, by omega, by simp⟩⟩, by (repeat' (first | (with_reducible exact Below.refl _ _) | (with_reducible assumption) | (with_reducible refine Below.next ?_ (by with_reducible assumption)) | (with_reducible refine Below.drew ?_) | (with_reducible refine Below.laid ?_ _) | (with_reducible refine Below.setCell ?_ ?_ _) | (with_reducible refine size_of ?_) | (with_reducible refine Nat.le_succ_of_le ?_) | go_size))⟩
    exact Blk.new w 3 Z

set_option maxHeartbeats 2000000 in
theorem concat_two (g : Nat) (T : TypeId) (sa sb : Value) (la lb : List Int) (w : World) (hg : Blk w g T #[sa, sb]) (ha : IsInts w sa la) (hb : IsInts w sb lb) (h1 : la.length ≤ 100) (h2 : lb.length ≤ 100) :
    Calls Tryz.prog 114 #[.slice (some ⟨g, 0, none⟩) 2 2] w (fun e w' => ∃ v, e = .returned v ∧ w'.ownsRow w.heap.size 3 1 v (la.length + lb.length) ((la ++ lb).map (Value.int .i64)) ∧ Below w.heap.size w w') := by
  obtain ⟨A, ca, rfl, hra, _, _⟩ := ha
  obtain ⟨B, cb, rfl, hrb, _, _⟩ := hb
  have c0 := hg.cell 0
  have c1 := hg.cell 1
  simp at c0 c1
  have HG := Lib.hid hg
  have HA := Lib.hid hra
  have HB := Lib.hid hrb
  have HAB := Lib.hid (show (la ++ lb).map (Value.int .i64) = la.map (Value.int .i64) ++ lb.map (Value.int .i64) by rw [List.map_append])
  clear hg hra hrb
  generalize (la ++ lb).map (Value.int .i64) = LL at HAB ⊢
  have e1 : IntKind.i64.wrap (la.length : Int) = la.length := IntWalk.i64_in _ (by omega)
  have e2 : IntKind.i64.wrap ((la.length : Int) + (lb.length : Int)) = ((la.length + lb.length : Nat) : Int) := by rw [IntWalk.i64_in _ (by omega)]; omega
  have p1 : ¬ ((la.length : Int) < 0) := by omega
  have p2 : ¬ (((la.length + lb.length : Nat) : Int) < 0) := by omega
  go_enter Tryz.func114, Tryz.ntmps114
  go_wp2
  refine wp_loop_rounds 3 ?_
  rw [rounds_succ]
  go_wp2
  rw [rounds_succ]
  go_wp2
  rw [rounds_succ]
  go_wp2_with fail
  refine (grow_nil (la.length + lb.length) (by omega) _).mono ?_
  rintro e w1 ⟨v1, rfl, hown1, hb1⟩
  clear c0 c1
  have BG := HG.out.keep hb1
  have c0 := BG.cell 0
  have c1 := BG.cell 1
  simp at c0 c1
  obtain ⟨A1, k1, rfl⟩ := ownsRow_slice hown1
  go_wp2
  refine wp_loop_rounds 3 ?_
  rw [rounds_succ]
  go_upto_region 13 with (fail)
  go_wp2_with (at_builtin; refine wpList_appR _ rfl _ _ rfl w.heap.size _ _ _ rfl hown1 A ca la rfl (HA.out.keep hb1) (by omega) hb1.size ?_)
  intro v2 w2 hown2 hg2
  obtain ⟨A2, k2, rfl⟩ := ownsRow_slice hown2
  have hb2 : Below w.heap.size w w2 := hb1.grown hg2 hb1.size (fun b hb => by have := (hown1.lt b hb).1; omega)
  have BG2 := HG.out.keep hb2
  clear c0 c1 BG hg2 hown1
  have c0 := BG2.cell 0
  have c1 := BG2.cell 1
  simp at c0 c1
  go_upto_region 14 with (fail)
  go_wp2
  rw [rounds_succ]
  go_upto_region 13 with (fail)
  go_wp2_with (at_builtin; refine wpList_appR _ rfl _ _ rfl w.heap.size _ _ _ rfl hown2 B cb lb rfl (HB.out.keep hb2) (by omega) hb2.size ?_)
  intro v3 w3 hown3 hg3
  obtain ⟨A3, k3, rfl⟩ := ownsRow_slice hown3
  have hb3 : Below w.heap.size w w3 := hb2.grown hg3 hb2.size (fun b hb => by have := (hown2.lt b hb).1; omega)
  clear c0 c1 BG2 hg3 hown2
  go_upto_region 14 with (fail)
  go_wp2
  rw [rounds_succ]
  go_wp2
  go_ret
  exact ⟨_, rfl, by rw [HAB.out]; simpa using hown3, hb3⟩

set_option maxHeartbeats 1000000 in
theorem compact_nil (A : Option Addr) (c : Nat) (w : World) : Calls Tryz.prog 119 #[.slice A 0 c] w (Pure (.slice A 0 c) w) := by
  go_enter Tryz.func119, Tryz.ntmps119
  go_wp2
  go_ret
  exact ⟨rfl, rfl⟩

/-! ### the order of a cube's members -/
theorem farW_abs {x : Int} (h : Venn.mOk x = true) : farW x = Venn.absI x := by
  have := Venn.mOk_iff.1 h
  unfold farW Venn.absI
  rw [IntWalk.wrap64_in (-x) (by omega)]
  split <;> omega
theorem cmpF_lt (x y : Int) : ltOf cmpF x y = decide (farW x < farW y ∨ (farW x = farW y ∧ x < y)) := by
  unfold ltOf cmpF orI cmpI
  by_cases h1 : farW x < farW y
  · rw [if_pos h1, decide_eq_true (p := (farW x < farW y ∨ (farW x = farW y ∧ x < y))) (.inl h1)]
    rfl
  · rw [if_neg h1]
    by_cases h2 : farW y < farW x
    · rw [if_pos h2, decide_eq_false (p := (farW x < farW y ∨ (farW x = farW y ∧ x < y))) (by omega)]
      rfl
    · rw [if_neg h2, if_pos rfl]
      by_cases h3 : x < y
      · rw [if_pos h3, decide_eq_true (p := (farW x < farW y ∨ (farW x = farW y ∧ x < y))) (by omega)]; rfl
      · rw [if_neg h3, decide_eq_false (p := (farW x < farW y ∨ (farW x = farW y ∧ x < y))) (by omega)]
        by_cases h4 : y < x
        · rw [if_pos h4]; rfl
        · rw [if_neg h4]; rfl
theorem cmpF_swo : SWO (ltOf cmpF) where
  irrefl x := by rw [cmpF_lt]; simp
  trans x y z h1 h2 := by rw [cmpF_lt] at *; simp only [decide_eq_true_eq] at *; omega
  ntrans x y z h1 h2 := by rw [cmpF_lt] at *; simp only [decide_eq_false_iff_not] at *; omega
theorem cmpF_total (x y : Int) (h1 : ltOf cmpF x y = false) (h2 : ltOf cmpF y x = false) : x = y := by
  rw [cmpF_lt] at *
  simp only [decide_eq_false_iff_not] at *
  omega
theorem cmpF_key (x y : Int) (hx : Venn.mOk x = true) (hy : Venn.mOk y = true) : ltOf cmpF x y = true ↔ Venn.keyM x < Venn.keyM y := by
  rw [cmpF_lt, farW_abs hx, farW_abs hy, decide_eq_true_eq]
  have h1 := Venn.mOk_iff.1 hx
  have h2 := Venn.mOk_iff.1 hy
  unfold Venn.absI Venn.keyM
  split <;> split <;> split <;> split <;> omega
theorem merge_lays (g off n : Nat) (w : World) : CmpLays1 Tryz.prog 116 #[] (Value.int .i64) cmpF g off n w := by
  intro m os dk _ x y
  refine (merge_cmp x y _).mono ?_
  rintro e w' ⟨he, hw⟩
  refine ⟨he, 0, #[.cells #[.int .i64 (cmpI (farW x) (farW y)), .int .i64 (cmpI x y)] 3], ?_⟩
  rw [hw]
  exact alloc_eq_grow _ _

theorem sort_cube (g cap : Nat) (zs : List Int) (w : World) (hH : Holds (Value.int .i64) w g 0 zs.toArray) (hblk : g < w.heap.size) (hsz : zs.length ≤ 1000) :
    Calls Tryz.prog 115 #[.slice (some ⟨g, 0, none⟩) zs.length cap, .func (.func 116) #[] #[]] w fun e w' => e = .returned (.tuple #[]) ∧ ∃ n os, w' = grow (putRow (Value.int .i64) (Sort.ahead w n) g 0 (zs.mergeSort fun x y => !ltOf cmpF y x).toArray) os :=
  Any.slices_SortFunc_total sortF (Value.int .i64) (fun _ => rfl) cmpF cmpF_swo 116 #[] g 0 cap zs.toArray w (enters_of Tryz.func116 (by kernel_rfl) rfl) (merge_lays _ _ _ _) hH hblk (by show zs.length < _; omega) cmpF_total
theorem sort_cube_none (p : Option Addr) (cap : Nat) (fv : Value) (w : World) : Calls Tryz.prog 115 #[.slice p 0 cap, fv] w fun e w' => e = .returned (.tuple #[]) ∧ w' = w :=
  AnyF.slices_SortFunc_none { sortF with } p cap fv w
theorem compact_cube (g cap : Nat) (zs : List Int) (w : World) (hH : Holds (Value.int .i64) w g 0 zs.toArray) (hsz : zs.length ≤ 1000) (hcap : zs.length ≤ cap) :
    Calls Tryz.prog 119 #[.slice (some ⟨g, 0, none⟩) zs.length cap] w fun e w' => e = .returned (.slice (some ⟨g, 0, none⟩) (Lib.compactUpTo zs.toArray zs.length).length cap) ∧
      ∃ q, w' = putRow (Value.int .i64) (Sort.ahead w q) g 0 (Lib.compactUpTo zs.toArray zs.length ++ List.replicate (zs.length - (Lib.compactUpTo zs.toArray zs.length).length) 0).toArray :=
  AnyE.slices_Compact compL (Value.int .i64) (fun _ => rfl) (EqlAt.intD _ _ _) (NeqAt.intD _ _ _) 0 (fun w => Tryz.zeroValue3 w) g 0 cap zs.toArray w hH (by show zs.length ≤ _; omega) hcap

def adjFrom (l : List Int) (i : Nat) : Bool := ((List.range l.length).drop i).any fun i => decide (1 ≤ i) && (l[i]! == -l[i - 1]!)
theorem adjFrom_one (l : List Int) : Venn.adjBad l = adjFrom l 1 := by
  unfold Venn.adjBad adjFrom
  cases l with
  | nil => rfl
  | cons x r => rw [List.length_cons, List.range_succ_eq_map]; simp
theorem adjFrom_step (l : List Int) (j : Nat) (h : j + 1 < l.length) : adjFrom l (j + 1) = ((l[j + 1] == -l[j]) || adjFrom l (j + 1 + 1)) := by
  unfold adjFrom
  rw [List.drop_eq_getElem_cons (by simpa using h), List.any_cons, List.getElem_range, getElem!_pos l (j + 1) h, show j + 1 - 1 = j from rfl, getElem!_pos l j (by omega)]
  simp
theorem adjFrom_end (l : List Int) (j : Nat) (h : l.length ≤ j) : adjFrom l j = false := by
  unfold adjFrom
  rw [List.drop_eq_nil_of_le (by simpa using h)]
  rfl

theorem adr0 (g j : Nat) : (⟨g, 0, none⟩ : Addr).add j = ⟨g, j, none⟩ := by unfold Addr.add; split <;> simp_all
theorem mem_compact {d : Array Int} {m : Nat} {x : Int} (h : x ∈ Lib.compactUpTo d m) : ∃ j, j < m ∧ d[j]! = x := by
  unfold Lib.compactUpTo at h
  obtain ⟨j, hj, rfl⟩ := List.mem_map.1 h
  exact ⟨j, List.mem_range.1 (List.mem_filter.1 hj).1, rfl⟩
theorem compact_len (d : Array Int) (m : Nat) : (Lib.compactUpTo d m).length ≤ m := by
  unfold Lib.compactUpTo
  rw [List.length_map]
  exact Nat.le_trans (List.length_filter_le _ _) (by rw [List.length_range]; exact Nat.le_refl _)
theorem hown_cap {w : World} {base : Nat} {e : TypeId} {size g n cap : Nat} {xs : List Value} (h : w.ownsRow base e size (.slice (some ⟨g, 0, none⟩) n cap) n xs) : cap ≤ maxLen := by
  rcases h.2 with ⟨h1, _⟩ | ⟨_, cap', _, h1, _, _, _, h2, _⟩
  · cases h1
  · injection h1 with _ _ h1
    rw [h1]; exact h2
def MergePost (J : Option (List Int)) (w : World) (e : Ending) (w' : World) : Prop :=
  Below w.heap.size w w' ∧ ((J = none ∧ e = .returned (.tuple #[.slice none 0 0, .bool false])) ∨ ∃ c v, J = some c ∧ e = .returned (.tuple #[v, .bool true]) ∧ IsInts w' v c ∧ ∀ b, v.ownBlock = some b → w.heap.size ≤ b ∧ b < w'.heap.size)
set_option maxHeartbeats 2000000 in
set_option maxRecDepth 100000 in
theorem cubes_merge (sa sb : Value) (la lb : List Int) (w : World) (ha : IsInts w sa la) (hb : IsInts w sb lb) (h1 : la.length ≤ 100) (h2 : lb.length ≤ 100) (ma : ∀ x ∈ la, Venn.mOk x = true) (mb : ∀ x ∈ lb, Venn.mOk x = true) :
    Calls Tryz.prog 104 #[sa, sb] w (MergePost (Venn.joinV la lb) w) := by
  have HJ := Lib.hid (Venn.merge_join cmpF_swo cmpF_key ma mb)
  have HM := Lib.hid (show ∀ x ∈ la ++ lb, Venn.mOk x = true from fun x hx => (List.mem_append.1 hx).elim (ma x) (mb x))
  obtain ⟨A, ca, rfl, hra, q1, q2⟩ := ha
  obtain ⟨B, cb, rfl, hrb, q3, q4⟩ := hb
  have hb0 : Below w.heap.size w (w.alloc (.cells #[.slice A la.length ca, .slice B lb.length cb] 23)) := by (repeat' (first | (with_reducible exact Below.refl _ _) | (with_reducible assumption) | (with_reducible refine Below.next ?_ (by with_reducible assumption)) | (with_reducible refine Below.drew ?_) | (with_reducible refine Below.laid ?_ _) | (with_reducible refine Below.setCell ?_ ?_ _) | (with_reducible refine size_of ?_) | (with_reducible refine Nat.le_succ_of_le ?_) | go_size))
  have HC := Lib.hid (concat_two w.heap.size 23 _ _ la lb _ (Blk.new w 23 #[.slice A la.length ca, .slice B lb.length cb]) (IsInts.keep ⟨A, ca, rfl, hra, q1, q2⟩ hb0) (IsInts.keep ⟨B, cb, rfl, hrb, q3, q4⟩ hb0) h1 h2)
  have hn : la.length + lb.length = (la ++ lb).length := List.length_append.symm
  rw [hn] at HC HJ
  have hlen : (la ++ lb).length ≤ 200 := by omega
  generalize Venn.joinV la lb = J at HJ ⊢
  generalize la ++ lb = zs at HC HJ HM hlen
  clear hn ma mb hra hrb h1 h2 q1 q2 q3 q4
  by_cases h0 : zs.length = 0
  · have hz : zs = [] := List.eq_nil_of_length_eq_zero h0
    subst hz
    have HJ := Lib.hid (show J = some [] from HJ.out)
    go_enter Tryz.func104, Tryz.ntmps104
    go_upto_region 1 with (fail)
    go_wp2_with fail
    refine (HC.out).mono ?_
    rintro e w1 ⟨v1, rfl, hown1, hb1⟩
    obtain ⟨A1, k1, rfl⟩ := ownsRow_slice hown1
    have hI := IsInts.of_own (l := []) hown1
    have hlt := fun b e => hown1.lt b e
    have hq := hb0.trans (hb1.mono (by simp))
    clear hown1
    go_wp2_with fail
    refine (sort_cube_none _ _ _ _).mono ?_
    rintro e w2 ⟨rfl, rfl⟩
    go_wp2_with fail
    refine (compact_nil _ _ _).mono ?_
    rintro e w2 ⟨rfl, rfl⟩
    go_wp2
    refine wp_loop_rounds 1 ?_
    rw [rounds_succ]
    go_wp2
    go_ret2
    refine ⟨hq, .inr ⟨[], _, HJ.out, rfl, hI, fun b e => ?_⟩⟩
    have := hlt b e
    simp at this
    omega
  · go_enter Tryz.func104, Tryz.ntmps104
    go_upto_region 1 with (fail)
    go_wp2_with fail
    refine (HC.out).mono ?_
    rintro e w1 ⟨v1, rfl, hown1, hb1⟩
    obtain ⟨g, cap, cur, rfl, hg, hB, r1, r2, r3, r4⟩ := own_cons hown1 (by omega)
    have hH : Holds (Value.int .i64) w1 g 0 zs.toArray := holds_of_block_i hB (by simpa using r4)
    have hgl := hB.lt
    have hq := hb0.trans (hb1.mono (by simp))
    have hgw : w.heap.size ≤ g := by simp at hg; omega
    clear hb1 hb0 hown1
    go_wp2_with fail
    refine (sort_cube g cap zs _ hH hgl (by omega)).mono ?_
    rintro e w2 ⟨rfl, nn, os, rfl⟩
    have HS := Lib.hid (show (zs.mergeSort fun x y => !ltOf cmpF y x).length = zs.length from List.length_mergeSort _)
    have HMS := Lib.hid (show ∀ x ∈ (zs.mergeSort fun x y => !ltOf cmpF y x), Venn.mOk x = true from fun x hx => HM.out x ((List.mergeSort_perm _ _).mem_iff.1 hx))
    have hown2 := ownsRow_sorted_i (os := os) (n := nn) (ts := (zs.mergeSort fun x y => !ltOf cmpF y x)) HS.out hg hB r1 r2 r3
    have hb2 := hq.grown (grownBy_sorted_i (w := w1) (g := g) (n := nn) (os := os) (zs.mergeSort fun x y => !ltOf cmpF y x).toArray) hq.size (fun j hj => by cases hj; exact hgw)
    clear hH hB hq hgl
    revert hown2 hb2
    change World.ownsRow (grow (putRow (Value.int .i64) _ _ _ _) _) _ _ _ _ _ _ → Below _ _ (grow (putRow (Value.int .i64) _ _ _ _) _) → _
    generalize (zs.mergeSort fun x y => !ltOf cmpF y x) = ss at HS HMS HJ ⊢
    generalize grow (putRow (Value.int .i64) _ _ _ _) _ = w3
    intro hown2 hb2
    clear HM HC
    generalize zs.length = n at HS HJ hown2 h0 hlen r1 r4 ⊢
    obtain rfl := HS.out
    clear HS
    obtain ⟨g', cap', cur', hv', hg', hB', r1', r2', r3', r4'⟩ := own_cons hown2 (by omega)
    injection hv' with hv1 hv2 hv3
    injection hv1 with hv1
    injection hv1 with hv1
    subst hv1 hv3
    have hH : Holds (Value.int .i64) w3 g 0 ss.toArray := holds_of_block_i hB' (by simpa using r4')
    clear r1 r2 r3 r4 hown2
    have HR := Lib.hid r1'
    have hmm := Lib.hid (show ∀ x ∈ Lib.compactUpTo ss.toArray ss.length, Venn.mOk x = true from fun x hx => by
      obtain ⟨j, hj, rfl⟩ := mem_compact hx
      exact HMS.out _ (by simp [getElem!_pos, hj]))
    have hcl := Lib.hid (compact_len ss.toArray ss.length)
    go_wp2_with fail
    refine (compact_cube g cap ss _ hH (by omega) r1').mono ?_
    rintro e w4 ⟨rfl, q, rfl⟩
    have hown3 := ownsRow_sorted_i (os := #[]) (n := q) (ss := ss) (ts := Lib.compactUpTo ss.toArray ss.length ++ List.replicate (ss.length - (Lib.compactUpTo ss.toArray ss.length).length) 0) (by have := hcl.out; simp; omega) hg' hB' r1' r2' r3'
    have hb3 := hb2.grown (grownBy_sorted_i (w := w3) (g := g) (n := q) (os := #[]) (Lib.compactUpTo ss.toArray ss.length ++ List.replicate (ss.length - (Lib.compactUpTo ss.toArray ss.length).length) 0).toArray) hb2.size (fun j hj => by cases hj; exact hgw)
    rw [grow_empty] at hown3 hb3
    clear hH hB' r1' r2' r3' r4' hb2
    generalize Lib.compactUpTo ss.toArray ss.length = cs at hown3 hb3 HJ hmm hcl ⊢
    revert hown3 hb3
    change World.ownsRow (putRow (Value.int .i64) _ _ _ _) _ _ _ _ _ _ → Below _ _ (putRow (Value.int .i64) _ _ _ _) → _
    generalize putRow (Value.int .i64) _ _ _ _ = w5
    intro hown3 hb3
    have hlt3 := hown3.lt g rfl
    have hcl' := hcl.out
    have hsl : ss.length = cs.length + (ss.length - cs.length) := by omega
    have hI : IsInts w5 (.slice (some ⟨g, 0, none⟩) cs.length cap) cs := by
      refine ⟨_, _, rfl, fun j u hj => ⟨_, rfl, ?_⟩, Nat.le_trans hcl' HR.out, hown_cap hown3⟩
      refine hown3.cells (g := g) rfl j u ?_
      rw [List.map_append, List.getElem?_append_left (by rw [List.length_map]; have := (List.getElem?_eq_some_iff.1 hj).1; simpa using this)]
      exact hj
    have HI := Lib.hid hI
    have HL := Lib.hid (show g < w5.heap.size from hlt3.2)
    obtain ⟨A5, c5, e5, hrd, _, _⟩ := hI
    injection e5 with e5 _ e6
    subst e5 e6
    have HRD := Lib.hid hrd
    have hcs : cs.length ≤ 1000 := by omega
    have HJ := Lib.hid (show J = if adjFrom cs 1 = true then none else some cs by rw [← adjFrom_one]; exact HJ.out)
    clear hown3 hrd hlt3 hcl hsl hcl' HMS HR
    go_wp2
    go_loopw [7] (fun i wr => ∃ (k qq : Nat), 1 ≤ k ∧ i = .int .i64 k ∧ (J = if adjFrom cs k = true then none else some cs) ∧ wr = w5.drewN qq ∧ (k ≤ cs.length ∨ k = 1)) (fun i _ => cs.length - (intOf i).toNat)
    case atStart => exact ⟨1, 0, Nat.le_refl _, rfl, HJ.out, rfl, .inr rfl⟩
    case round =>
      obtain ⟨k, qq, hk1, rfl, hJ, rfl, hkl⟩ := hrel
      obtain ⟨j, rfl⟩ : ∃ j, k = j + 1 := ⟨k - 1, by omega⟩
      by_cases hlt : j + 1 < cs.length
      · obtain ⟨a1, e1, d1⟩ := HRD.out.int hlt
        obtain ⟨a2, e2, d2⟩ := HRD.out.int (show j < cs.length by omega)
        cases e1; cases e2
        rw [adr0] at d1 d2
        have m1 := Venn.mOk_iff.1 (hmm.out _ (List.getElem_mem hlt))
        have m2 := Venn.mOk_iff.1 (hmm.out _ (List.getElem_mem (show j < cs.length by omega)))
        rw [adjFrom_step cs j hlt] at hJ
        generalize cs[j + 1] = x at d1 m1 hJ
        generalize cs[j] = y at d2 m2 hJ
        have g1 : ((j + 1 : Nat) : Int) < (cs.length : Int) := by omega
        have g2 : (0 : Int) ≤ ((j + 1 : Nat) : Int) := by omega
        have g3 : IntKind.i64.wrap (((j + 1 : Nat) : Int) - 1) = (j : Int) := by rw [IntWalk.i64_in _ (by omega)]; omega
        have g4 : (0 : Int) ≤ (j : Int) := by omega
        have g5 : (j : Int) < (cs.length : Int) := by omega
        have g6 : wrap64 (-y) = -y := IntWalk.wrap64_in _ (by omega)
        by_cases hxy : x = -y
        · subst hxy
          have HJ := Lib.hid (show J = none by rw [hJ, beq_self_eq_true]; rfl)
          clear hJ m1 m2
          go_wp2_with fail
          go_region
          go_wp2
          go_ret2
          exact ⟨below_drewN hb3 _, .inl ⟨HJ.out, rfl⟩⟩
        · have HE := Lib.hid (show (x == -y) = false from beq_eq_false_iff_ne.2 hxy)
          have HJ := Lib.hid (show J = if adjFrom cs (j + 1 + 1) = true then none else some cs by rw [hJ, HE.out, Bool.false_or])
          clear hJ m1 m2
          go_wp2_with fail
          go_region
          go_wp2
          go_roundw
          case rel => exact ⟨j + 1 + 1, qq + 1, by omega, by go_num, HJ.out, rfl, .inl (by omega)⟩
          case measure => simp [intOf]; omega
      · have HJ := Lib.hid (show J = some cs by rw [hJ, adjFrom_end cs (j + 1) (by omega)]; rfl)
        have g1 : ¬ ((j + 1 : Nat) : Int) < (cs.length : Int) := by omega
        clear hJ
        go_wp2
        go_ret2
        refine ⟨below_drewN hb3 _, .inr ⟨cs, _, HJ.out, rfl, HI.out.keep (below_drewN (Below.refl _ _) _), fun b e => ?_⟩⟩
        simp [Value.ownBlock] at e
        subst e
        exact ⟨hgw, HL.out⟩
end Go.Proofs.YtlpfbdejiifbpaaGreatDoor
