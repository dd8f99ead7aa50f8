/-
  THE WALKS of fit.All and of the iterator that it gives.
-/
import Derived.Test.YtlpfbdejiifbpaaGreatDoorRange
import Derived.Test.YtlpfbdejiifbpaaGreatDoorCounts
import Derived.Test.YtlpfbdejiifbpaaGreatDoorRow
import Derived.Shelf.Abstract
import Derived.Shelf.RegionOpen
import Derived.OwnWalkIn
import Derived.TacticsInMore
import Derived.LoopNIn
import Derived.LoopIn
namespace Venn
def num : List Int → Int
  | [a0, a1, a2, a3, a4, a5, a6, a7] => a0 * 5764801 + a1 * 823543 + a2 * 117649 + a3 * 16807 + a4 * 2401 + a5 * 343 + a6 * 49 + a7 * 7
  | _ => 0
def rank (x : List Int) : Nat := (100000000 - num x).toNat
end Venn
namespace Go.Proofs.YtlpfbdejiifbpaaGreatDoor
open Go.RowKit Go.Shelf
attribute [local go_sem] Oper.semAt_some

def intVal : Value → Int
  | .int _ i => i
  | _ => 0
/-- How many counts are left, at most. -/
def leftOf (g : Nat) (i : Value) (W : World) : Nat := match i with
  | .bool true => (match W.heap[g]? with | some (.cells cs _ _) => Venn.rank (cs.toList.map intVal) | _ => 0) + 1
  | _ => 0
theorem map_intVal : ∀ (x : List Int), List.map (intVal ∘ Value.int IntKind.i64) x = x
  | [] => rfl
  | a :: x => by rw [List.map_cons, map_intVal x]; rfl
theorem leftOf_true {g : Nat} {W : World} {t : TypeId} {x : List Int} (h : Blk W g t (x.map (Value.int .i64)).toArray) : leftOf g (.bool true) W = Venn.rank x + 1 := by
  unfold leftOf
  unfold Blk at h
  rw [h]
  simp only [List.map_map]
  have : (List.map (intVal ∘ Value.int IntKind.i64) x) = x := by
    exact map_intVal x
  rw [this]
theorem leftOf_false (g : Nat) (W : World) : leftOf g (.bool false) W = 0 := rfl

theorem Blk.set8 {w : World} {g : Nat} {t : TypeId} {y0 y1 y2 y3 y4 y5 y6 y7 : Value} (h : Blk w g t #[y0, y1, y2, y3, y4, y5, y6, y7]) (x0 x1 x2 x3 x4 x5 x6 x7 : Value) :
    Blk ((((((((w.setCell ⟨g, 0, none⟩ x0).setCell ⟨g, 1, none⟩ x1).setCell ⟨g, 2, none⟩ x2).setCell ⟨g, 3, none⟩ x3).setCell ⟨g, 4, none⟩ x4).setCell ⟨g, 5, none⟩ x5).setCell ⟨g, 6, none⟩ x6).setCell ⟨g, 7, none⟩ x7) g t #[x0, x1, x2, x3, x4, x5, x6, x7] := by
  have := (((((((h.set_ 0 x0).set_ 1 x1).set_ 2 x2).set_ 3 x3).set_ 4 x4).set_ 5 x5).set_ 6 x6).set_ 7 x7
  have e : (((((((#[y0, y1, y2, y3, y4, y5, y6, y7].setIfInBounds 0 x0).setIfInBounds 1 x1).setIfInBounds 2 x2).setIfInBounds 3 x3).setIfInBounds 4 x4).setIfInBounds 5 x5).setIfInBounds 6 x6).setIfInBounds 7 x7 = #[x0, x1, x2, x3, x4, x5, x6, x7] := by simp
  rw [e] at this
  exact this
theorem rank_after {a0 a1 a2 a3 a4 a5 a6 a7 : Int} (hp : (0 ≤ a0 ∧ a0 ≤ 6) ∧ (0 ≤ a1 ∧ a1 ≤ 6) ∧ (0 ≤ a2 ∧ a2 ≤ 6) ∧ (0 ≤ a3 ∧ a3 ≤ 6) ∧ (0 ≤ a4 ∧ a4 ≤ 6) ∧ (0 ≤ a5 ∧ a5 ≤ 6) ∧ (0 ≤ a6 ∧ a6 ≤ 6) ∧ (0 ≤ a7 ∧ a7 ≤ 6)) {y : List Int} (h : Venn.afterC [a0, a1, a2, a3, a4, a5, a6, a7] = some y) : Venn.rank y < Venn.rank [a0, a1, a2, a3, a4, a5, a6, a7] := by
  simp only [Venn.afterC] at h
  unfold Venn.rank
  repeat' split at h
  all_goals first
    | (simp only [Option.some.injEq] at h; subst h; simp only [Venn.num]; omega)
    | cases h

def fitAllV (b : Nat) : Value := .func (.func 96) #[] #[.pointer (some ⟨b, 0, none⟩)]
set_option maxHeartbeats 1000000 in
theorem fit_All (u : Int) (w : World) : Calls Tryz.prog 80 #[.int .i64 u] w (fun e w' => e = .returned (fitAllV w.heap.size) ∧ w' = w.alloc (.cells #[.int .i64 u] 3)) := by
  go_enter Tryz.func80, Tryz.ntmps80
  go_wp2
  go_ret
  exact ⟨rfl, rfl⟩

set_option maxHeartbeats 4000000 in
set_option maxRecDepth 100000 in
/-- fit.All's closure hands over all counts, one behind the other. -/
theorem all1_runs (u : Int) (hu : Venn.things u = true) (b : Nat) (w : World) (hb : w.cell? ⟨b, 0, none⟩ = some (.int .i64 u)) (n : Nat) (hn : 1 ≤ n) :
    SeqRuns Fence.wide n Tryz.prog 96 #[.pointer (some ⟨b, 0, none⟩)] (fun x => #[cntV x]) (Venn.allC u) w := by
  intro l J Jx W hW hJ hJx hY h0
  have hbW : W.cell? ⟨b, 0, none⟩ = some (.int .i64 u) := cell_keep hW hb
  have hblt := cell_lt hbW
  obtain ⟨hlinks, r0, hr0⟩ := Venn.links_allC hu
  have HU := Lib.hid hu
  have HL := Lib.hid hlinks
  have HR := Lib.hid hr0
  have HY := Lib.hid hY
  have HJ := Lib.hid hJ
  clear hu hlinks hr0 hY hJ hJx hW
  refine callsIn_of_wp Tryz.func96 rfl trivial ?_ rfl
  simp only [Tryz.ntmps96, List.size_toArray, List.length_cons, List.length_nil, Nat.reduceAdd, Nat.reduceSub, Array.replicate_succ, Array.replicate_zero, List.push_toArray, List.append_toArray, List.nil_append, List.cons_append]
  gi_wp2
  gi_loopw [4] (fun i wr => W.heap.size ≤ wr.heap.size ∧ ((i = .bool true ∧ ∃ pre x rest, Venn.allC u = pre ++ x :: rest ∧ J pre wr ∧ Blk wr W.heap.size 88 (x.map (Value.int .i64)).toArray) ∨ (i = .bool false ∧ J (Venn.allC u) wr)))
    (fun i wr => leftOf W.heap.size i wr)
  case atStart =>
    have hbs : Below W.heap.size W (W.alloc (.cells #[.int .i64 0, .int .i64 0, .int .i64 0, .int .i64 0, .int .i64 0, .int .i64 0, .int .i64 0, .int .i64 u] 88)) := by (repeat' (first | (with_reducible exact Below.refl _ _) | (with_reducible assumption) | (with_reducible refine Below.next ?_ (by with_reducible assumption)) | (with_reducible refine Below.drew ?_) | (with_reducible refine Below.laid ?_ _) | (with_reducible refine Below.setCell ?_ ?_ _) | (with_reducible refine size_of ?_) | (with_reducible refine Nat.le_succ_of_le ?_) | go_size))
    exact ⟨hbs.size, .inl ⟨rfl, [], [0, 0, 0, 0, 0, 0, 0, u], r0, HR.out, HJ.out _ _ _ hbs h0, Blk.new W _ _⟩⟩
  case round =>
    obtain ⟨hbw, hst⟩ := hrel
    obtain ⟨wo, rfl⟩ : ∃ wo : World, wo = wr := ⟨_, rfl⟩
    rcases hst with ⟨rfl, pre, x, rest, hxs, hJs, hB⟩ | ⟨rfl, hJs⟩
    · have hmem : x ∈ Venn.allC u := by rw [hxs]; simp
      obtain ⟨a0, a1, a2, a3, a4, a5, a6, a7, rfl, b0, b1, b2, b3, b4, b5, b6, b7, hsum⟩ := Venn.of_allC HU.out hmem
      simp only [List.map] at hB
      obtain ⟨⟨c0, c1, c2, c3, c4, c5, c6, c7⟩, _⟩ := hB.cells8
      obtain ⟨fn, tmps, assign, body, hy, hR⟩ := HY.out pre _ rest wo hxs hbw hJs
      simp only [cntV, List.map] at hy
      have HXS := Lib.hid hxs
      clear hxs hmem hsum
      gi_wp2
      refine hR.mono ?_
      rintro e W3 (⟨rfl, hJ3, hk3⟩ | ⟨rfl, hJx3⟩)
      · have hB3 := hB.fromM hk3 (Nat.le_refl _)
        have hsz3 : W.heap.size ≤ W3.heap.size := Nat.le_trans hbw hk3.size
        obtain ⟨⟨d0, d1, d2, d3, d4, d5, d6, d7⟩, f0, f1, f2, f3, f4, f5, f6, f7⟩ := hB3.cells8
        have HA := Lib.hid (And.intro b0 (And.intro b1 (And.intro b2 (And.intro b3 (And.intro b4 (And.intro b5 (And.intro b6 b7)))))))
        rcases Venn.links_split pre _ rest (by rw [← HXS.out]; exact HL.out) with ⟨rfl, haf⟩ | ⟨y, r, rfl, haf⟩
        · have HAV := Lib.hid (show afterV [a0, a1, a2, a3, a4, a5, a6, a7] = .tuple #[.agg #[.int .i64 a0, .int .i64 a1, .int .i64 a2, .int .i64 a3, .int .i64 a4, .int .i64 a5, .int .i64 a6, .int .i64 a7], .bool false] by unfold afterV; rw [haf]; rfl)
          clear haf
          gi_wp2_with (refine ⟨trivial, ?_⟩; gi_at_call 97; refine (callsIn_wide.2 (fit_after _ _ _ _ _ _ _ _ _ HA.out)).mono ?_; rintro e W4 ⟨rfl, hb4⟩; rw [HAV.out]; obtain ⟨⟨e0, e1, e2, e3, e4, e5, e6, e7⟩, g0, g1, g2, g3, g4, g5, g6, g7⟩ := (hB3.keep hb4).cells8)
          go_roundw
          case rel =>
            refine ⟨?_, .inr ⟨rfl, ?_⟩⟩
            · have := hb4.size; simp; omega
            · have hJe : J (Venn.allC u) W3 := by rw [HXS.out]; exact hJ3
              exact HJ.out _ _ _ (below_set8 (hb4.mono hsz3) (Nat.le_refl _) _ _ _ _ _ _ _ _) hJe
          case measure => rw [leftOf_false, leftOf_true (x := [a0, a1, a2, a3, a4, a5, a6, a7]) hB]; omega
        · have hmy : y ∈ Venn.allC u := by rw [HXS.out]; simp
          obtain ⟨y0, y1, y2, y3, y4, y5, y6, y7, rfl, _⟩ := Venn.of_allC HU.out hmy
          have HRK := Lib.hid (rank_after HA.out haf)
          have HAV := Lib.hid (show afterV [a0, a1, a2, a3, a4, a5, a6, a7] = .tuple #[.agg #[.int .i64 y0, .int .i64 y1, .int .i64 y2, .int .i64 y3, .int .i64 y4, .int .i64 y5, .int .i64 y6, .int .i64 y7], .bool true] by unfold afterV; rw [haf]; rfl)
          clear haf hmy
          gi_wp2_with (refine ⟨trivial, ?_⟩; gi_at_call 97; refine (callsIn_wide.2 (fit_after _ _ _ _ _ _ _ _ _ HA.out)).mono ?_; rintro e W4 ⟨rfl, hb4⟩; rw [HAV.out]; obtain ⟨⟨e0, e1, e2, e3, e4, e5, e6, e7⟩, g0, g1, g2, g3, g4, g5, g6, g7⟩ := (hB3.keep hb4).cells8)
          go_roundw
          case rel =>
            refine ⟨?_, .inl ⟨rfl, pre ++ [[a0, a1, a2, a3, a4, a5, a6, a7]], [y0, y1, y2, y3, y4, y5, y6, y7], r, ?_, ?_, ?_⟩⟩
            · have := hb4.size; simp; omega
            · rw [HXS.out]; simp
            · exact HJ.out _ _ _ (below_set8 (hb4.mono hsz3) (Nat.le_refl _) _ _ _ _ _ _ _ _) hJ3
            · exact (hB3.keep hb4).set8 _ _ _ _ _ _ _ _
          case measure =>
            rw [leftOf_true (x := [y0, y1, y2, y3, y4, y5, y6, y7]) ((hB3.keep hb4).set8 _ _ _ _ _ _ _ _), leftOf_true (x := [a0, a1, a2, a3, a4, a5, a6, a7]) hB]
            have := HRK.out
            omega
      · gi_wp2
        go_end0
        exact ⟨⟨_, rfl⟩, .inr ⟨pre, _, rest, HXS.out, hJx3⟩⟩
    · gi_wp2
      refine ⟨fun _ h => (by cases h), ?_⟩
      gi_wp2
      go_end0
      exact ⟨⟨_, rfl⟩, .inl hJs⟩

/-- THE STATEMENT 'for n := range fit.All(u)': the body is walked once. -/
theorem wpIn_rangeAll {g : Operand} {ps : Array Tmp} {assign body : Code} {Q : Exit → Act → World → Prop} {a : Act} {w : World} (u : Int) (hu : Venn.things u = true) (b : Nat)
    (hg : a.eval g = fitAllV b) (hb : w.cell? ⟨b, 0, none⟩ = some (.int .i64 u)) (hps : 1 = ps.size)
    (C : Nat → Prop) (hC : ∀ b, C b → b < w.heap.size)
    (I : List (List Int) → World → Prop) (Ix : Code → List (List Int) → World → Prop) (hI : OnlyBelow w.heap.size I) (hIx : ∀ c, OnlyBelow w.heap.size (Ix c)) (h0 : I [] w)
    (act : List Int → Nat → Act)
    (hassign : ∀ (l : Nat) (x : List Int) (W : World) (K : Act → World → Prop), x ∈ Venn.allC u → K (act x W.heap.size) (W.alloc (.cells (x.map (Value.int .i64)).toArray 88)) →
      assign.wpIn (Fence.wide.inRound l) 2 Tryz.prog (Exit.then K (fun _ _ _ => False)) { tmps := (ps.zip #[cntV x]).foldl (fun t (p, v) => t.setIfInBounds p v) a.tmps, defers := [] } W)
    (hbody : ∀ (l : Nat) (pre : List (List Int)) (x : List Int) (rest : List (List Int)) (W : World) (Bx : Nat), Venn.allC u = pre ++ x :: rest → But C w W → I pre W → Blk W Bx 88 (x.map (Value.int .i64)).toArray → w.heap.size < Bx →
      body.wpIn (Fence.wide.inRound l) 2 Tryz.prog (roundP C I Ix (pre ++ [x]) W) (act x Bx) W)
    (hdone : ∀ (D : Nat) (W : World), w.heap.size ≤ D → But C w W → I (Venn.allC u) W → W.heap[D]? = some (.deferred (some [])) → Q .normal { a with defers := { target := .collected D, args := #[] } :: a.defers } W)
    (hstop : ∀ (D : Nat) (c : Code) (pre : List (List Int)) (x : List Int) (rest : List (List Int)) (W : World), w.heap.size ≤ D → Venn.allC u = pre ++ x :: rest → But C w W → Ix c (pre ++ [x]) W → W.heap[D]? = some (.deferred (some [])) →
      c.wpIn Fence.wide 4 Tryz.prog Q { a with defers := { target := .collected D, args := #[] } :: a.defers } W) :
    (Code.rangeFunc g ps assign body).wpIn Fence.wide 4 Tryz.prog Q a w :=
  wpIn_rangeRuns rfl (by decide) hg trivial (enters_of Tryz.func96 (by kernel_rfl) rfl) (all1_runs u hu b w hb 3 (by decide)) (Below.refl _ _) (fun _ => hps) C hC I Ix hI hIx h0 _ _ act hassign hbody hdone hstop

/-- The same, the round as ONE walk. -/
theorem wpIn_rangeAll2 {g : Operand} {ps : Array Tmp} {assign body : Code} {Q : Exit → Act → World → Prop} {a : Act} {w : World} (u : Int) (hu : Venn.things u = true) (b : Nat)
    (hg : a.eval g = fitAllV b) (hb : w.cell? ⟨b, 0, none⟩ = some (.int .i64 u)) (hps : 1 = ps.size)
    (C : Nat → Prop) (hC : ∀ b, C b → b < w.heap.size)
    (I : List (List Int) → World → Prop) (Ix : Code → List (List Int) → World → Prop) (hI : OnlyBelow w.heap.size I) (hIx : ∀ c, OnlyBelow w.heap.size (Ix c)) (h0 : I [] w)
    (hround : ∀ (l : Nat) (pre : List (List Int)) (x : List Int) (rest : List (List Int)) (W : World), Venn.allC u = pre ++ x :: rest →
      assign.wpIn (Fence.wide.inRound l) 2 Tryz.prog (Exit.then (fun a1 W1 => W1 = W.alloc (.cells (x.map (Value.int .i64)).toArray 88) ∧ ∀ W2, But C w W2 → I pre W2 → Blk W2 W.heap.size 88 (x.map (Value.int .i64)).toArray → w.heap.size < W.heap.size →
        body.wpIn (Fence.wide.inRound l) 2 Tryz.prog (roundP C I Ix (pre ++ [x]) W2) a1 W2) (fun _ _ _ => False)) { tmps := (ps.zip #[cntV x]).foldl (fun t (p, v) => t.setIfInBounds p v) a.tmps, defers := [] } W)
    (hdone : ∀ (D : Nat) (W : World), w.heap.size ≤ D → But C w W → I (Venn.allC u) W → W.heap[D]? = some (.deferred (some [])) → Q .normal { a with defers := { target := .collected D, args := #[] } :: a.defers } W)
    (hstop : ∀ (D : Nat) (c : Code) (pre : List (List Int)) (x : List Int) (rest : List (List Int)) (W : World), w.heap.size ≤ D → Venn.allC u = pre ++ x :: rest → But C w W → Ix c (pre ++ [x]) W → W.heap[D]? = some (.deferred (some [])) →
      c.wpIn Fence.wide 4 Tryz.prog Q { a with defers := { target := .collected D, args := #[] } :: a.defers } W) :
    (Code.rangeFunc g ps assign body).wpIn Fence.wide 4 Tryz.prog Q a w :=
  wpIn_rangeRuns2 rfl (by decide) hg trivial (enters_of Tryz.func96 (by kernel_rfl) rfl) (all1_runs u hu b w hb 3 (by decide)) (Below.refl _ _) (fun _ => hps) C hC I Ix hI hIx h0 _ _ hround hdone hstop
end Go.Proofs.YtlpfbdejiifbpaaGreatDoor
