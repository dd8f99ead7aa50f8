/-
  THE PLAIN LAW AND THE WALK of vennlaw4.CubesOne.
-/
import Derived.Test.YtlpfbdejiifbpaaDoorHolds
import Derived.Test.YtlpfbdejiifbpaaDoorSome
namespace Venn
theorem form_one {a : Atom} (c : List Int) (h1 : 0 < c.length) (h2 : c.length ≤ 20) (hc : codeChk 1 c = 0) : formChk ⟨[a], c⟩ = atomChk a := by
  unfold formChk
  rw [if_neg (by simp only [List.length_cons, List.length_nil]; omega), if_neg (by simp only [List.length_cons, List.length_nil]; omega)]
  by_cases h : atomChk a = 0
  · have e : atomsChk [a] = 0 := by simp [atomsChk, h]
    rw [if_pos e, h]
    exact hc
  · have e : atomsChk [a] = atomChk a := by simp [atomsChk, h]
    rw [if_neg (by rw [e]; exact h), e]
theorem cubes_one_ok {a : Atom} (h : atomChk a = 0) :
    (cubesErr ⟨[a], [0]⟩ = 0 ∧ cubesV ⟨[a], [0]⟩ = [[1]]) ∧ (cubesErr ⟨[a], [0, 0, 12, 10]⟩ = 0 ∧ cubesV ⟨[a], [0, 0, 12, 10]⟩ = []) ∧ (cubesErr ⟨[a], [0, 0, 12, 10, 12]⟩ = 0 ∧ cubesV ⟨[a], [0, 0, 12, 10, 12]⟩ = [[]]) := by
  have e1 := form_one (a := a) [0] (by decide) (by decide) (by decide)
  have e2 := form_one (a := a) [0, 0, 12, 10] (by decide) (by decide) (by decide)
  have e3 := form_one (a := a) [0, 0, 12, 10, 12] (by decide) (by decide) (by decide)
  rw [h] at e1 e2 e3
  unfold cubesErr cubesV
  rw [if_pos e1, if_pos e2, if_pos e3, if_pos e1, if_pos e2, if_pos e3]
  rw [show cubesO (⟨[a], [0]⟩ : Form).code = some [[1]] from rfl, show cubesO (⟨[a], [0, 0, 12, 10]⟩ : Form).code = some [] from rfl, show cubesO (⟨[a], [0, 0, 12, 10, 12]⟩ : Form).code = some [[]] from rfl]
  exact ⟨⟨rfl, rfl⟩, ⟨rfl, rfl⟩, rfl, rfl⟩
theorem cubes_one_bad {a : Atom} (h : atomChk a ≠ 0) : cubesErr ⟨[a], [0]⟩ ≠ 0 ∧ cubesErr ⟨[a], [0, 0, 12, 10]⟩ ≠ 0 ∧ cubesErr ⟨[a], [0, 0, 12, 10, 12]⟩ ≠ 0 := by
  have e1 := form_one (a := a) [0] (by decide) (by decide) (by decide)
  have e2 := form_one (a := a) [0, 0, 12, 10] (by decide) (by decide) (by decide)
  have e3 := form_one (a := a) [0, 0, 12, 10, 12] (by decide) (by decide) (by decide)
  unfold cubesErr
  rw [if_neg (by rw [e1]; exact h), if_neg (by rw [e2]; exact h), if_neg (by rw [e3]; exact h), e1, e2, e3]
  exact ⟨h, h, h⟩
end Venn
namespace Go.Proofs.YtlpfbdejiifbpaaDoor
open Go.RowKit

theorem ints_of_blk {w : World} {g : Nat} {t : TypeId} {l : List Int} (h : Blk w g t (l.map (Value.int .i64)).toArray) (hl : l.length ≤ maxLen) : IsInts w (.slice (some ⟨g, 0, none⟩) l.length l.length) l := by
  refine ⟨_, _, rfl, fun j u hj => ⟨_, rfl, ?_⟩, Nat.le_refl _, hl⟩
  rw [adr0, h.cell]
  simpa using hj
theorem lists_open {w : World} {v : Value} {x : List Int} {r : List (List Int)} (h : IsLists w v (x :: r)) : ∃ ad c xv, v = .slice (some ad) (x :: r).length c ∧ w.cell? ad = some xv ∧ IsInts w xv x := by
  obtain ⟨A, c, p, rfl, hp, hr, hok, _⟩ := h
  match p, hp with
  | y :: q, hp =>
    simp only [lVals, List.map_cons, List.cons.injEq] at hp
    obtain ⟨rfl, rfl⟩ := hp
    obtain ⟨ad, rfl, hc⟩ := hr 0 y.2 rfl
    exact ⟨ad, c, y.2, by simp, by simpa [Addr.add] using hc, hok y (by simp)⟩
theorem ints_open1 {w : World} {v : Value} {x : Int} {r : List Int} (h : IsInts w v (x :: r)) : ∃ ad c, v = .slice (some ad) (x :: r).length c ∧ w.cell? ad = some (.int .i64 x) := by
  obtain ⟨A, c, rfl, hr, _⟩ := h
  obtain ⟨ad, rfl, hc⟩ := hr 0 (.int .i64 x) rfl
  exact ⟨ad, c, rfl, by simpa [Addr.add] using hc⟩
theorem IsLists.slice {w : World} {v : Value} {L : List (List Int)} (h : IsLists w v L) : ∃ A c, v = .slice A L.length c := by
  obtain ⟨A, c, p, rfl, rfl, _⟩ := h
  exact ⟨A, c, by rw [lVals_len]⟩

set_option maxHeartbeats 4000000 in
set_option maxRecDepth 100000 in
theorem cubesOne_walk (aw an : Int) (sv tv : Value) (s t : List Int) (w : World) (hs : IsInts w sv s) (ht : IsInts w tv t) (hk : KindsOk w) :
    Calls Tryd.prog 4 #[.agg #[.int .i64 aw, sv, tv, .int .i64 an]] w (Keeps (.bool true) w) := by
  have HOF := Lib.hid (fun (W W1 : World) (code : List Int) (hb : Below w.heap.size w W) (hl : code.length ≤ maxLen) (hW : W1 = (W.alloc (.cells #[.int .i64 aw, sv, tv, .int .i64 an] 32)).alloc (.cells (code.map (Value.int .i64)).toArray 3)) =>
    show Below W.heap.size W W1 ∧ Calls Tryd.prog 17 #[.agg #[.slice (some ⟨W.heap.size, 0, none⟩) 1 1, .slice (some ⟨W.heap.size + 1, 0, none⟩) code.length code.length]] W1 (OfPost ⟨[⟨aw, s, t, an⟩], code⟩ W1) from by
      subst hW
      have hb2 : Below W.heap.size W ((W.alloc (.cells #[.int .i64 aw, sv, tv, .int .i64 an] 32)).alloc (.cells (code.map (Value.int .i64)).toArray 3)) := by (repeat' (first | (with_reducible exact Below.refl _ _) | (with_reducible assumption) | (with_reducible refine Below.next ?_ (by with_reducible assumption)) | (with_reducible refine Below.drew ?_) | (with_reducible refine Below.laid ?_ _) | (with_reducible refine Below.setCell ?_ ?_ _) | (with_reducible refine size_of ?_) | (with_reducible refine Nat.le_succ_of_le ?_) | go_size))
      have hq := Below.next hb hb2
      exact ⟨hb2, cubes_Of _ _ [⟨aw, s, t, an⟩] code _ (IsAtoms.one (a := ⟨aw, s, t, an⟩) ((Blk.new W _ _).alloc _) (hs.keep hq) (ht.keep hq)) (ints_of_blk (Blk.newAt (by simp) _ _) hl) (hk.keep hq)⟩)
  have HB0 := Lib.hid (Blk.new w 32 #[.int .i64 aw, sv, tv, .int .i64 an])
  have hb0 : Below w.heap.size w (w.alloc (.cells #[.int .i64 aw, sv, tv, .int .i64 an] 32)) := by (repeat' (first | (with_reducible exact Below.refl _ _) | (with_reducible assumption) | (with_reducible refine Below.next ?_ (by with_reducible assumption)) | (with_reducible refine Below.drew ?_) | (with_reducible refine Below.laid ?_ _) | (with_reducible refine Below.setCell ?_ ?_ _) | (with_reducible refine size_of ?_) | (with_reducible refine Nat.le_succ_of_le ?_) | go_size))
  obtain ⟨S, cS, rfl⟩ : ∃ A c, sv = .slice A s.length c := let ⟨A, c, e, _⟩ := hs; ⟨A, c, e⟩
  obtain ⟨T, cT, rfl⟩ : ∃ A c, tv = .slice A t.length c := let ⟨A, c, e, _⟩ := ht; ⟨A, c, e⟩
  obtain ⟨x0, x1, x2, x3⟩ := (HB0.out).cells4
  clear hs ht hk
  have B0 := HB0.out
  have hq0 := hb0
  by_cases hz : Venn.atomChk ⟨aw, s, t, an⟩ = 0
  · obtain ⟨⟨a1, a2⟩, ⟨b1, b2⟩, c1, c2⟩ := Venn.cubes_one_ok hz
    have HA := Lib.hid (And.intro (errV_zero a1) a2)
    have HB := Lib.hid (And.intro (errV_zero b1) b2)
    have HC := Lib.hid (And.intro (errV_zero c1) c2)
    clear hz a1 a2 b1 b2 c1 c2 HB0 hb0
    go_enter Tryd.func4, Tryd.ntmps4
    go_upto_region 1 with (fail)
    revert B0 hq0 x0 x1 x2 x3
    generalize w.alloc (.cells #[.int .i64 aw, .slice S s.length cS, .slice T t.length cT, .int .i64 an] 32) = w0
    intro x0 x1 x2 x3 B0 hq0
    go_wp2_with fail
    obtain ⟨hbc1, hcall1⟩ := HOF.out w0 _ [0] hq0 (by decide) rfl
    refine hcall1.mono ?_
    rintro e w1 ⟨hbr1, v1, rfl, hI1⟩
    clear hcall1
    have hp1 : Below w0.heap.size w0 w1 := Below.next hbc1 hbr1
    have hq1 := Below.next hq0 hp1
    clear hbc1 hbr1
    have B1 := B0.keep hp1
    clear x0 x1 x2 x3
    obtain ⟨x0, x1, x2, x3⟩ := B1.cells4
    rw [HA.out.2] at hI1
    rw [HA.out.1]
    obtain ⟨ad, c1, xv, rfl, d0, hx⟩ := lists_open hI1
    obtain ⟨xd, c2, rfl, d1⟩ := ints_open1 hx
    clear hI1 hx
    go_wp2_with fail
    obtain ⟨hbc2, hcall2⟩ := HOF.out w1 _ [0, 0, 12, 10] hq1 (by decide) rfl
    refine hcall2.mono ?_
    rintro e w2 ⟨hbr2, v2, rfl, hI2⟩
    clear hcall2
    have hp2 : Below w1.heap.size w1 w2 := Below.next hbc2 hbr2
    have hq2 := Below.next hq1 hp2
    clear hbc2 hbr2
    have B2 := B1.keep hp2
    clear x0 x1 x2 x3
    obtain ⟨x0, x1, x2, x3⟩ := B2.cells4
    rw [HB.out.2] at hI2
    rw [HB.out.1]
    obtain ⟨A2, e2, rfl⟩ := hI2.slice
    clear hI2
    have d0 := cell_keep hp2 d0
    have d1 := cell_keep hp2 d1
    go_wp2_with fail
    obtain ⟨hbc3, hcall3⟩ := HOF.out w2 _ [0, 0, 12, 10, 12] hq2 (by decide) rfl
    refine hcall3.mono ?_
    rintro e w3 ⟨hbr3, v3, rfl, hI3⟩
    clear hcall3
    have hp3 : Below w2.heap.size w2 w3 := Below.next hbc3 hbr3
    have hq3 := Below.next hq2 hp3
    clear hbc3 hbr3
    rw [HC.out.2] at hI3
    rw [HC.out.1]
    obtain ⟨bd, c3, yv, rfl, d2, hy⟩ := lists_open hI3
    obtain ⟨Y, c4, rfl⟩ : ∃ A c, yv = .slice A 0 c := let ⟨A, c, e, _⟩ := hy; ⟨A, c, e⟩
    clear hI3 hy
    have d0 := cell_keep hp3 d0
    have d1 := cell_keep hp3 d1
    clear HOF HA HB HC x0 x1 x2 x3 B0 B1 B2
    simp only [List.length_cons, List.length_nil, Nat.zero_add]
    go_wp2
    go_ret
    exact ⟨rfl, hq3⟩
  · obtain ⟨a1, b1, c1⟩ := Venn.cubes_one_bad hz
    have HA := Lib.hid (errV_ne a1)
    have HB := Lib.hid (errV_ne b1)
    have HC := Lib.hid (errV_ne c1)
    clear hz a1 b1 c1 HB0 hb0
    go_enter Tryd.func4, Tryd.ntmps4
    go_upto_region 1 with (fail)
    revert B0 hq0 x0 x1 x2 x3
    generalize w.alloc (.cells #[.int .i64 aw, .slice S s.length cS, .slice T t.length cT, .int .i64 an] 32) = w0
    intro x0 x1 x2 x3 B0 hq0
    go_wp2_with fail
    obtain ⟨hbc1, hcall1⟩ := HOF.out w0 _ [0] hq0 (by decide) rfl
    refine hcall1.mono ?_
    rintro e w1 ⟨hbr1, v1, rfl, hI1⟩
    clear hcall1
    have hp1 : Below w0.heap.size w0 w1 := Below.next hbc1 hbr1
    have hq1 := Below.next hq0 hp1
    clear hbc1 hbr1
    have B1 := B0.keep hp1
    clear x0 x1 x2 x3
    obtain ⟨x0, x1, x2, x3⟩ := B1.cells4
    rw [HA.out]
    generalize Venn.cubesErr _ = E1
    obtain ⟨A1, e1, rfl⟩ := hI1.slice
    clear hI1
    go_wp2_with fail
    obtain ⟨hbc2, hcall2⟩ := HOF.out w1 _ [0, 0, 12, 10] hq1 (by decide) rfl
    refine hcall2.mono ?_
    rintro e w2 ⟨hbr2, v2, rfl, hI2⟩
    clear hcall2
    have hp2 : Below w1.heap.size w1 w2 := Below.next hbc2 hbr2
    have hq2 := Below.next hq1 hp2
    clear hbc2 hbr2
    have B2 := B1.keep hp2
    clear x0 x1 x2 x3
    obtain ⟨x0, x1, x2, x3⟩ := B2.cells4
    rw [HB.out]
    generalize Venn.cubesErr _ = E2
    obtain ⟨A2, e2, rfl⟩ := hI2.slice
    clear hI2
    go_wp2_with fail
    obtain ⟨hbc3, hcall3⟩ := HOF.out w2 _ [0, 0, 12, 10, 12] hq2 (by decide) rfl
    refine hcall3.mono ?_
    rintro e w3 ⟨hbr3, v3, rfl, hI3⟩
    clear hcall3
    have hp3 : Below w2.heap.size w2 w3 := Below.next hbc3 hbr3
    have hq3 := Below.next hq2 hp3
    clear hbc3 hbr3
    rw [HC.out]
    generalize Venn.cubesErr _ = E3
    obtain ⟨A3, e3, rfl⟩ := hI3.slice
    clear hI3
    clear HOF HA HB HC x0 x1 x2 x3 B0 B1 B2
    go_wp2
    go_ret
    exact ⟨rfl, hq3⟩
end Go.Proofs.YtlpfbdejiifbpaaDoor
