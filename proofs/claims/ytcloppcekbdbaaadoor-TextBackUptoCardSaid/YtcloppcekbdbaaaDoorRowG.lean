/-
  THE WALK of rows.times.
  THE WALKS of fields.Check and fit.after.
  THE WALKS of rows.Row, rows.Of.
  WORDS FOR SLICES OF ROWS, and the walks of rows.So, rows.Check, rows.Fits.
  THE WALK of rows.Check.
  append(row, l...): a list of integers onto a row of the call's own; the source nil, empty or not.
  append of rows onto a row of the call's own; the walk of rows.Fits.
-/
import Derived.Test.YtcloppcekbdbaaaDoorVennP1
import Derived.Test.YtcloppcekbdbaaaDoorMem
import Derived.Deep.QuietTactic
import Derived.BigQuiet
import Derived.RegionTactic
import Derived.Test.YtcloppcekbdbaaaDoorSetsT
import Derived.Test.YtcloppcekbdbaaaDoorAtomG
import Derived.Deep.RegionHeld3
import Derived.Deep.DeepCutAuto
namespace Go.Proofs.YtcloppcekbdbaaaDoor
open Go.RowKit

def timesCells (what s t : Int) (k : Nat) : Array Value := ((List.range 8).map fun i => Value.int .i64 (if i < k then Venn.timesAt what s t i else 0)).toArray
theorem timesCells_set (what s t : Int) (k : Nat) (hk : k < 8) : (timesCells what s t k).setIfInBounds k (.int .i64 (Venn.timesAt what s t k)) = timesCells what s t (k + 1) := by
  unfold timesCells
  rcases (by omega : k = 0 ∨ k = 1 ∨ k = 2 ∨ k = 3 ∨ k = 4 ∨ k = 5 ∨ k = 6 ∨ k = 7) with rfl | rfl | rfl | rfl | rfl | rfl | rfl | rfl
  all_goals simp [List.range_succ]
theorem timesCells_8 (what s t : Int) : timesCells what s t 8 = #[.int .i64 (Venn.timesAt what s t 0), .int .i64 (Venn.timesAt what s t 1), .int .i64 (Venn.timesAt what s t 2), .int .i64 (Venn.timesAt what s t 3), .int .i64 (Venn.timesAt what s t 4), .int .i64 (Venn.timesAt what s t 5), .int .i64 (Venn.timesAt what s t 6), .int .i64 (Venn.timesAt what s t 7)] := by
  simp [timesCells, List.range_succ]
theorem timesCells_0 (what s t : Int) : timesCells what s t 0 = #[.int .i64 0, .int .i64 0, .int .i64 0, .int .i64 0, .int .i64 0, .int .i64 0, .int .i64 0, .int .i64 0] := by
  simp [timesCells, List.range_succ]
theorem Blk.cells8 {w : World} {g : Nat} {t : TypeId} {x0 x1 x2 x3 x4 x5 x6 x7 : Value} (h : Blk w g t #[x0, x1, x2, x3, x4, x5, x6, x7]) :
    (w.cell? ⟨g, 0, none⟩ = some x0 ∧ w.cell? ⟨g, 1, none⟩ = some x1 ∧ w.cell? ⟨g, 2, none⟩ = some x2 ∧ w.cell? ⟨g, 3, none⟩ = some x3 ∧ w.cell? ⟨g, 4, none⟩ = some x4 ∧ w.cell? ⟨g, 5, none⟩ = some x5 ∧ w.cell? ⟨g, 6, none⟩ = some x6 ∧ w.cell? ⟨g, 7, none⟩ = some x7) ∧
    (w.frozen? ⟨g, 0, none⟩ = false ∧ w.frozen? ⟨g, 1, none⟩ = false ∧ w.frozen? ⟨g, 2, none⟩ = false ∧ w.frozen? ⟨g, 3, none⟩ = false ∧ w.frozen? ⟨g, 4, none⟩ = false ∧ w.frozen? ⟨g, 5, none⟩ = false ∧ w.frozen? ⟨g, 6, none⟩ = false ∧ w.frozen? ⟨g, 7, none⟩ = false) :=
  ⟨⟨h.cell 0, h.cell 1, h.cell 2, h.cell 3, h.cell 4, h.cell 5, h.cell 6, h.cell 7⟩, h.frozen 0, h.frozen 1, h.frozen 2, h.frozen 3, h.frozen 4, h.frozen 5, h.frozen 6, h.frozen 7⟩
theorem below_set8 {B : Nat} {a w : World} (h : Below B a w) {g : Nat} (hg : B ≤ g) (x0 x1 x2 x3 x4 x5 x6 x7 : Value) :
    Below B a ((((((((w.setCell ⟨g, 0, none⟩ x0).setCell ⟨g, 1, none⟩ x1).setCell ⟨g, 2, none⟩ x2).setCell ⟨g, 3, none⟩ x3).setCell ⟨g, 4, none⟩ x4).setCell ⟨g, 5, none⟩ x5).setCell ⟨g, 6, none⟩ x6).setCell ⟨g, 7, none⟩ x7) :=
  (((((((h.setCell (p := ⟨g, 0, none⟩) hg _).setCell (p := ⟨g, 1, none⟩) hg _).setCell (p := ⟨g, 2, none⟩) hg _).setCell (p := ⟨g, 3, none⟩) hg _).setCell (p := ⟨g, 4, none⟩) hg _).setCell (p := ⟨g, 5, none⟩) hg _).setCell (p := ⟨g, 6, none⟩) hg _).setCell (p := ⟨g, 7, none⟩) hg _
theorem and_one (s : Int) (k : Nat) (hs : 0 ≤ s ∧ s ≤ 255) : bits .and .i64 (s / 2 ^ k) 1 = Venn.bitI s k := by
  obtain ⟨S, rfl⟩ := Int.eq_ofNat_of_zero_le hs.1
  have e : ((S : Int) / 2 ^ k) = ((S / 2 ^ k : Nat) : Int) := by simp
  have hle : S / 2 ^ k ≤ S := Nat.div_le_self _ _
  have := i64_and_nat (S / 2 ^ k) 1 (by omega) (by omega)
  unfold Venn.bitI
  rw [e]
  rw [show ((1 : Nat) : Int) = 1 from rfl] at this
  rw [this, Nat.and_one_is_mod]
  simp
theorem bits01 : ∀ a b : Fin 2, bits .andNot .i64 (a.val : Int) (b.val : Int) = Venn.timesV 1 a.val b.val ∧ bits .xor .i64 (a.val : Int) (b.val : Int) = Venn.timesV 2 a.val b.val := by decide +kernel
theorem bits01' {a b : Int} (ha : a = 0 ∨ a = 1) (hb : b = 0 ∨ b = 1) : bits .andNot .i64 a b = Venn.timesV 1 a b ∧ bits .xor .i64 a b = Venn.timesV 2 a b := by
  rcases ha with rfl | rfl <;> rcases hb with rfl | rfl
  · exact bits01 0 0
  · exact bits01 0 1
  · exact bits01 1 0
  · exact bits01 1 1

end Go.Proofs.YtcloppcekbdbaaaDoor

namespace Go.Proofs.YtcloppcekbdbaaaDoor
open Go.RowKit

theorem things_parts {u : Int} (h : Venn.things u = true) : 0 ≤ u ∧ u ≤ 6 := by simpa [Venn.things] using h
theorem things_of {u : Int} (h0 : 0 ≤ u) (h1 : u ≤ 6) : Venn.things u = true := by simp [Venn.things, h0, h1]

/-- What fit.after gives: counts, and whether there were any. -/
def afterV (n : List Int) : Value := match Venn.afterC n with
  | some m => .tuple #[.agg (m.map (Value.int .i64)).toArray, .bool true]
  | none => .tuple #[.agg (n.map (Value.int .i64)).toArray, .bool false]
end Go.Proofs.YtcloppcekbdbaaaDoor

namespace Go.Proofs.YtcloppcekbdbaaaDoor
open Go.RowKit

theorem Blk.cells9 {w : World} {g : Nat} {t : TypeId} {x0 x1 x2 x3 x4 x5 x6 x7 x8 : Value} (h : Blk w g t #[x0, x1, x2, x3, x4, x5, x6, x7, x8]) :
    (w.cell? ⟨g, 0, none⟩ = some x0 ∧ w.cell? ⟨g, 1, none⟩ = some x1 ∧ w.cell? ⟨g, 2, none⟩ = some x2 ∧ w.cell? ⟨g, 3, none⟩ = some x3 ∧ w.cell? ⟨g, 4, none⟩ = some x4 ∧ w.cell? ⟨g, 5, none⟩ = some x5 ∧ w.cell? ⟨g, 6, none⟩ = some x6 ∧ w.cell? ⟨g, 7, none⟩ = some x7 ∧ w.cell? ⟨g, 8, none⟩ = some x8) ∧
    (w.frozen? ⟨g, 0, none⟩ = false ∧ w.frozen? ⟨g, 1, none⟩ = false ∧ w.frozen? ⟨g, 2, none⟩ = false ∧ w.frozen? ⟨g, 3, none⟩ = false ∧ w.frozen? ⟨g, 4, none⟩ = false ∧ w.frozen? ⟨g, 5, none⟩ = false ∧ w.frozen? ⟨g, 6, none⟩ = false ∧ w.frozen? ⟨g, 7, none⟩ = false ∧ w.frozen? ⟨g, 8, none⟩ = false) :=
  ⟨⟨h.cell 0, h.cell 1, h.cell 2, h.cell 3, h.cell 4, h.cell 5, h.cell 6, h.cell 7, h.cell 8⟩, h.frozen 0, h.frozen 1, h.frozen 2, h.frozen 3, h.frozen 4, h.frozen 5, h.frozen 6, h.frozen 7, h.frozen 8⟩
theorem below_set9 {B : Nat} {a w : World} (h : Below B a w) {g : Nat} (hg : B ≤ g) (x0 x1 x2 x3 x4 x5 x6 x7 x8 : Value) :
    Below B a (((((((((w.setCell ⟨g, 0, none⟩ x0).setCell ⟨g, 1, none⟩ x1).setCell ⟨g, 2, none⟩ x2).setCell ⟨g, 3, none⟩ x3).setCell ⟨g, 4, none⟩ x4).setCell ⟨g, 5, none⟩ x5).setCell ⟨g, 6, none⟩ x6).setCell ⟨g, 7, none⟩ x7).setCell ⟨g, 8, none⟩ x8) :=
  (below_set8 h hg x0 x1 x2 x3 x4 x5 x6 x7).setCell (p := ⟨g, 8, none⟩) hg _
/-- A new row's nine cells. -/
abbrev zero9 : Array Value := #[.int .i64 0, .int .i64 0, .int .i64 0, .int .i64 0, .int .i64 0, .int .i64 0, .int .i64 0, .int .i64 0, .int .i64 0]
abbrev row9 (what m tm n : Int) : Array Value := #[.int .i64 (Venn.timesAt what m tm 0), .int .i64 (Venn.timesAt what m tm 1), .int .i64 (Venn.timesAt what m tm 2), .int .i64 (Venn.timesAt what m tm 3), .int .i64 (Venn.timesAt what m tm 4), .int .i64 (Venn.timesAt what m tm 5), .int .i64 (Venn.timesAt what m tm 6), .int .i64 (Venn.timesAt what m tm 7), .int .i64 n]

theorem Blk.far9 {w : World} {g : Nat} {t : TypeId} {cs : Array Value} (h : Blk w g t cs) {p : Nat} (hp : g ≠ p) (x0 x1 x2 x3 x4 x5 x6 x7 x8 : Value) :
    Blk (((((((((w.setCell ⟨p, 0, none⟩ x0).setCell ⟨p, 1, none⟩ x1).setCell ⟨p, 2, none⟩ x2).setCell ⟨p, 3, none⟩ x3).setCell ⟨p, 4, none⟩ x4).setCell ⟨p, 5, none⟩ x5).setCell ⟨p, 6, none⟩ x6).setCell ⟨p, 7, none⟩ x7).setCell ⟨p, 8, none⟩ x8) g t cs :=
  ((((((((h.far (p := ⟨p, 0, none⟩) hp _).far (p := ⟨p, 1, none⟩) hp _).far (p := ⟨p, 2, none⟩) hp _).far (p := ⟨p, 3, none⟩) hp _).far (p := ⟨p, 4, none⟩) hp _).far (p := ⟨p, 5, none⟩) hp _).far (p := ⟨p, 6, none⟩) hp _).far (p := ⟨p, 7, none⟩) hp _).far (p := ⟨p, 8, none⟩) hp _
theorem Blk.set9 {w : World} {g : Nat} {t : TypeId} {y0 y1 y2 y3 y4 y5 y6 y7 y8 : Value} (h : Blk w g t #[y0, y1, y2, y3, y4, y5, y6, y7, y8]) (x0 x1 x2 x3 x4 x5 x6 x7 x8 : Value) :
    Blk (((((((((w.setCell ⟨g, 0, none⟩ x0).setCell ⟨g, 1, none⟩ x1).setCell ⟨g, 2, none⟩ x2).setCell ⟨g, 3, none⟩ x3).setCell ⟨g, 4, none⟩ x4).setCell ⟨g, 5, none⟩ x5).setCell ⟨g, 6, none⟩ x6).setCell ⟨g, 7, none⟩ x7).setCell ⟨g, 8, none⟩ x8) g t #[x0, x1, x2, x3, x4, x5, x6, x7, x8] := by
  have := ((((((((h.set_ 0 x0).set_ 1 x1).set_ 2 x2).set_ 3 x3).set_ 4 x4).set_ 5 x5).set_ 6 x6).set_ 7 x7).set_ 8 x8
  have e : ((((((((#[y0, y1, y2, y3, y4, y5, y6, y7, y8].setIfInBounds 0 x0).setIfInBounds 1 x1).setIfInBounds 2 x2).setIfInBounds 3 x3).setIfInBounds 4 x4).setIfInBounds 5 x5).setIfInBounds 6 x6).setIfInBounds 7 x7).setIfInBounds 8 x8 = #[x0, x1, x2, x3, x4, x5, x6, x7, x8] := by simp
  rw [e] at this
  exact this
def negC (x : Nat → Int) (m : Int) (k : Nat) : Array Value := #[.int .i64 (if 0 < k then -x 0 else x 0), .int .i64 (if 1 < k then -x 1 else x 1), .int .i64 (if 2 < k then -x 2 else x 2), .int .i64 (if 3 < k then -x 3 else x 3), .int .i64 (if 4 < k then -x 4 else x 4), .int .i64 (if 5 < k then -x 5 else x 5), .int .i64 (if 6 < k then -x 6 else x 6), .int .i64 (if 7 < k then -x 7 else x 7), .int .i64 m]
theorem negC_at (x : Nat → Int) (m : Int) (k : Nat) (hk : k < 8) : (negC x m k)[k]? = some (.int .i64 (x k)) := by
  rcases (by omega : k = 0 ∨ k = 1 ∨ k = 2 ∨ k = 3 ∨ k = 4 ∨ k = 5 ∨ k = 6 ∨ k = 7) with rfl | rfl | rfl | rfl | rfl | rfl | rfl | rfl
  all_goals simp [negC]
theorem negC_set (x : Nat → Int) (m : Int) (k : Nat) (hk : k < 8) : (negC x m k).setIfInBounds k (.int .i64 (-x k)) = negC x m (k + 1) := by
  rcases (by omega : k = 0 ∨ k = 1 ∨ k = 2 ∨ k = 3 ∨ k = 4 ∨ k = 5 ∨ k = 6 ∨ k = 7) with rfl | rfl | rfl | rfl | rfl | rfl | rfl | rfl
  all_goals simp [negC]
theorem negC_8 (x : Nat → Int) (m : Int) : negC x m 8 = #[.int .i64 (-x 0), .int .i64 (-x 1), .int .i64 (-x 2), .int .i64 (-x 3), .int .i64 (-x 4), .int .i64 (-x 5), .int .i64 (-x 6), .int .i64 (-x 7), .int .i64 m] := by
  simp [negC]
theorem negC_0 (what m tm n : Int) : row9 what m tm n = negC (Venn.timesAt what m tm) n 0 := by
  simp [negC]
/-- A row as a value. -/
def rowV (a : Venn.Atom) (h : Bool) : Value := .agg #[.int .i64 (Venn.rowT a h 0), .int .i64 (Venn.rowT a h 1), .int .i64 (Venn.rowT a h 2), .int .i64 (Venn.rowT a h 3), .int .i64 (Venn.rowT a h 4), .int .i64 (Venn.rowT a h 5), .int .i64 (Venn.rowT a h 6), .int .i64 (Venn.rowT a h 7), .int .i64 (Venn.rowM a h)]
end Go.Proofs.YtcloppcekbdbaaaDoor

namespace Go.Proofs.YtcloppcekbdbaaaDoor
open Go.RowKit

theorem mul_in {x n : Int} (hx : -2 ≤ x ∧ x ≤ 2) (hn : 0 ≤ n ∧ n ≤ 6) : -12 ≤ x * n ∧ x * n ≤ 12 := by
  obtain ⟨h1, h2⟩ := hx
  rcases (by omega : x = -2 ∨ x = -1 ∨ x = 0 ∨ x = 1 ∨ x = 2) with rfl | rfl | rfl | rfl | rfl
  all_goals omega
/-- A slice of rows reads as l; a row is nine numbers. -/
def IsRows (w : World) (v : Value) (l : List (List Int)) : Prop :=
  ∃ A c, v = .slice A l.length c ∧ Rd w A (l.flatMap fun r => r.map (Value.int .i64)) ∧ (∀ r ∈ l, r.length = 9) ∧ l.length ≤ c ∧ c ≤ maxLen
theorem IsRows.keep {w w' : World} {v : Value} {l : List (List Int)} (h : IsRows w v l) (hb : Below w.heap.size w w') : IsRows w' v l := by
  obtain ⟨A, c, hv, hr, hc⟩ := h
  exact ⟨A, c, hv, hr.keep hb, hc⟩
theorem IsRows.nil (w : World) : IsRows w (.slice none 0 0) [] := ⟨none, 0, rfl, Rd.nil _ _, by simp, Nat.le_refl _, by simp⟩
theorem flat_at : ∀ (l : List (List Int)) (k j : Nat) (x : List Int) (y : Int), (∀ r ∈ l, r.length = 9) → l[k]? = some x → x[j]? = some y →
    (l.flatMap fun r => r.map (Value.int .i64))[k * 9 + j]? = some (.int .i64 y) := by
  intro l
  induction l with
  | nil => intro k j x y _ h _; simp at h
  | cons r l ih =>
    intro k j x y hl hk hj
    have hr := hl r (by simp)
    rw [List.flatMap_cons]
    cases k with
    | zero =>
      simp at hk
      subst hk
      rw [List.getElem?_append_left (by simp; have := (List.getElem?_eq_some_iff.1 hj).1; omega)]
      simp [hj]
    | succ k =>
      rw [List.getElem?_append_right (by simp; omega)]
      simp only [List.length_map, hr]
      rw [show (k + 1) * 9 + j - 9 = k * 9 + j by omega]
      exact ih k j x y (fun r hr => hl r (List.mem_cons_of_mem _ hr)) (by simpa using hk) hj
/-- Row k, cell by cell. -/
theorem Rd.row {w : World} {A : Option Addr} {l : List (List Int)} (h : Rd w A (l.flatMap fun r => r.map (Value.int .i64))) (hl : ∀ r ∈ l, r.length = 9) {k : Nat} (hk : k < l.length) :
    ∃ ad x0 x1 x2 x3 x4 x5 x6 x7 x8, A = some ad ∧ l[k] = [x0, x1, x2, x3, x4, x5, x6, x7, x8] ∧ w.cell? (ad.add (k * 9)) = some (.int .i64 x0) ∧ w.cell? ⟨(ad.add (k * 9)).block, (ad.add (k * 9)).off + 1, none⟩ = some (.int .i64 x1) ∧ w.cell? ⟨(ad.add (k * 9)).block, (ad.add (k * 9)).off + 2, none⟩ = some (.int .i64 x2) ∧ w.cell? ⟨(ad.add (k * 9)).block, (ad.add (k * 9)).off + 3, none⟩ = some (.int .i64 x3) ∧ w.cell? ⟨(ad.add (k * 9)).block, (ad.add (k * 9)).off + 4, none⟩ = some (.int .i64 x4) ∧ w.cell? ⟨(ad.add (k * 9)).block, (ad.add (k * 9)).off + 5, none⟩ = some (.int .i64 x5) ∧ w.cell? ⟨(ad.add (k * 9)).block, (ad.add (k * 9)).off + 6, none⟩ = some (.int .i64 x6) ∧ w.cell? ⟨(ad.add (k * 9)).block, (ad.add (k * 9)).off + 7, none⟩ = some (.int .i64 x7) ∧ w.cell? ⟨(ad.add (k * 9)).block, (ad.add (k * 9)).off + 8, none⟩ = some (.int .i64 x8) := by
  have hk9 := hl _ (List.getElem_mem hk)
  have hke : l[k]? = some l[k] := List.getElem?_eq_getElem hk
  generalize l[k] = x at hk9 hke
  match x, hk9 with
  | [x0, x1, x2, x3, x4, x5, x6, x7, x8], _ =>
    have hc := fun (j : Nat) (y : Int) (hj : [x0, x1, x2, x3, x4, x5, x6, x7, x8][j]? = some y) => h _ _ (flat_at l k j _ y hl hke hj)
    obtain ⟨ad, rfl, h0⟩ := hc 0 x0 rfl
    have hc' := fun (j : Nat) (y : Int) (hj : [x0, x1, x2, x3, x4, x5, x6, x7, x8][j]? = some y) => (by obtain ⟨ad', e, hh⟩ := hc j y hj; cases e; exact hh : w.cell? (ad.add (k * 9 + j)) = some (.int .i64 y))
    have hj := fun (j : Nat) (hj : j ≠ 0) => (show ad.add (k * 9 + j) = ⟨(ad.add (k * 9)).block, (ad.add (k * 9)).off + j, none⟩ by rw [← add_of_add]; exact if_neg hj)
    exact ⟨ad, x0, x1, x2, x3, x4, x5, x6, x7, x8, rfl, rfl, h0, by rw [← hj 1 (by decide)]; exact hc' 1 x1 rfl, by rw [← hj 2 (by decide)]; exact hc' 2 x2 rfl, by rw [← hj 3 (by decide)]; exact hc' 3 x3 rfl, by rw [← hj 4 (by decide)]; exact hc' 4 x4 rfl, by rw [← hj 5 (by decide)]; exact hc' 5 x5 rfl, by rw [← hj 6 (by decide)]; exact hc' 6 x6 rfl, by rw [← hj 7 (by decide)]; exact hc' 7 x7 rfl, by rw [← hj 8 (by decide)]; exact hc' 8 x8 rfl⟩

end Go.Proofs.YtcloppcekbdbaaaDoor

namespace Go.Proofs.YtcloppcekbdbaaaDoor
open Go.RowKit

end Go.Proofs.YtcloppcekbdbaaaDoor

namespace Go.Proofs.YtcloppcekbdbaaaDoor
open Go.RowKit

theorem run_append_of_nil {P : Program} (w : World) (base : Nat) (t ty e : TypeId) (i : TypeInfo) (size : Nat) (ht : P.underlying t = some (.slice e)) (hi : P.info? e = some i)
    (v : Value) (n : Nat) (xs : List Value) (hown : w.ownsRow base e size v n xs) (c : Nat) : (Builtin.append_ #[t, t] ty #[v, .slice none 0 c]).run P w = .ok v w := by
  rcases hown.2 with ⟨rfl, rfl⟩ | ⟨g, cap, cur, rfl, _, _, hnc, _⟩
  · simp [Builtin.append_, run_underlying ht, sizeOf, typeInfo, hi, Builtin.lenOf, Builtin.firstCells]
  · simp [Builtin.append_, run_underlying ht, sizeOf, typeInfo, hi, Builtin.lenOf, Builtin.firstCells, hnc, storeCells]

set_option maxRecDepth 100000 in
theorem wpList_appR {ops : Array Oper} {rest : List Oper} {o : Oper} {a : Act} {Q : Exit → Act → World → Prop} (w : World) (hgd : o.guard = none) (s x : Operand)
    (ho : o.op = .call { callee := .builtin .append, args := #[s, x], argTypes := #[23, 23] })
    (base : Nat) (v : Value) (n : Nat) (xs : List Value) (hs : a.eval s = v) (hown : w.ownsRow base 3 1 v n xs)
    (A : Option Addr) (c : Nat) (l : List Int) (hx : a.eval x = .slice A l.length c) (hr : Rd w A (l.map (Value.int .i64))) (hn : n + l.length < 1099511627776) (hbase : base ≤ w.heap.size)
    (h : ∀ v' w', w'.ownsRow base 3 1 v' (n + l.length) (xs ++ l.map (Value.int .i64)) → w.grownBy w' v.ownBlock → wpList Tryd.prog ops Q rest (a.put o.dst v') w') : wpList Tryd.prog ops Q (o :: rest) a w := by
  obtain ⟨i0, hi, hz0, hz1, hz2⟩ := info_parts int_info
  rcases A with _ | ad
  · have hl : l = [] := by
      rcases l with _ | ⟨y, l⟩
      · rfl
      · obtain ⟨_, h, _⟩ := hr 0 (.int .i64 y) (by simp)
        cases h
    subst hl
    refine wpList_plain hgd fun K hK => ?_
    have hrun := run_append_of_nil (P := Tryd.prog) w base 23 o.type 3 i0 1 Tryd.underlying23 hi v n xs hown c
    unfold Oper.wp execOp
    simp only [ho, resolve, invoke, builtin, Sem.run_bind, Sem.run_pure, Result.andThen_ok, List.map_toArray, List.map_cons, List.map_nil, hs, hx, List.length_nil, hrun]
    exact hK _ _ (h v w (by simpa using hown) (World.grownBy.refl w _))
  · refine wpList_append_own w hgd s x _ ho base _ i0 _ 1 8 Tryd.underlying23 hi hz0 hz1 hz2 rfl (by decide) v n xs hs hown ad l.length c (l.map (Value.int .i64)) hx (by simp) ?_ ?_ (by unfold maxLen; omega) (by omega) hbase (fun v' w' h1 h2 _ => h v' w' h1 h2)
    · intro j u hj
      obtain ⟨ad', e, hc⟩ := hr j u hj
      injection e with e
      subst e
      exact hc
    · intro u hu
      obtain ⟨y, _, rfl⟩ := List.mem_map.1 hu
      rfl

theorem IsInts.one (w : World) (x : Int) (t : TypeId) : IsInts (w.alloc (.cells #[.int .i64 x] t)) (.slice (some ⟨w.heap.size, 0, none⟩) 1 1) [x] := IsInts.of_new w [x] t (by simp [maxLen])

/-- What a row of the call's own holds reads as a list. -/
theorem IsInts.of_own {w : World} {base : Nat} {e : TypeId} {v : Value} {n : Nat} {l : List Int} (h : w.ownsRow base e 1 v n (l.map (Value.int .i64))) : IsInts w v l := by
  have hn : n = l.length := by have := h.1; simpa using this.symm
  subst hn
  rcases h.2 with ⟨rfl, hl⟩ | ⟨g, cap, cur, rfl, _, hh, hnc, hcm, hcs, ht⟩
  · have : l = [] := List.eq_nil_of_length_eq_zero hl
    subst this
    exact ⟨none, 0, rfl, Rd.nil _ _, Nat.le_refl _, by simp⟩
  · exact ⟨_, _, rfl, fun j u hj => ⟨_, rfl, h.cells (g := g) rfl j u hj⟩, hnc, hcm⟩

end Go.Proofs.YtcloppcekbdbaaaDoor

namespace Go.Proofs.YtcloppcekbdbaaaDoor
open Go.RowKit

abbrev flat9 (l : List (List Int)) : List Value := l.flatMap fun r => r.map (Value.int .i64)
theorem flat_len : ∀ (l : List (List Int)), (∀ r ∈ l, r.length = 9) → (flat9 l).length = l.length * 9 := by
  intro l
  induction l with
  | nil => intro _; rfl
  | cons r l ih =>
    intro h
    have h1 := h r (by simp)
    have h2 := ih fun r hr => h r (List.mem_cons_of_mem _ hr)
    simp only [flat9, List.flatMap_cons, List.length_append, List.length_map, List.length_cons] at h2 ⊢
    omega
/-- What a row of the call's own holds reads as rows. -/
theorem IsRows.of_own {w : World} {base : Nat} {e : TypeId} {v : Value} {n : Nat} {l : List (List Int)} (h : w.ownsRow base e 9 v n (flat9 l)) (h9 : ∀ r ∈ l, r.length = 9) : IsRows w v l := by
  have hn : n = l.length := by have := h.1; rw [flat_len l h9] at this; omega
  subst hn
  rcases h.2 with ⟨rfl, hl⟩ | ⟨g, cap, cur, rfl, _, hh, hnc, hcm, hcs, ht⟩
  · have : l = [] := List.eq_nil_of_length_eq_zero hl
    subst this
    exact IsRows.nil _
  · exact ⟨_, _, rfl, fun j u hj => ⟨_, rfl, h.cells (g := g) rfl j u hj⟩, h9, hnc, hcm⟩

theorem counts_bound {n0 n1 n2 n3 n4 n5 n6 n7 : Int} (hc : Venn.countsChk [n0, n1, n2, n3, n4, n5, n6, n7] = 0) : (0 ≤ n0 ∧ n0 ≤ 6) ∧ (0 ≤ n1 ∧ n1 ≤ 6) ∧ (0 ≤ n2 ∧ n2 ≤ 6) ∧ (0 ≤ n3 ∧ n3 ≤ 6) ∧ (0 ≤ n4 ∧ n4 ≤ 6) ∧ (0 ≤ n5 ∧ n5 ≤ 6) ∧ (0 ≤ n6 ∧ n6 ≤ 6) ∧ (0 ≤ n7 ∧ n7 ≤ 6) := by
  unfold Venn.countsChk at hc
  split at hc
  · rename_i ha
    simp only [List.all_cons, List.all_nil, Bool.and_true, Bool.and_eq_true, Venn.things, decide_eq_true_eq] at ha
    omega
  · cases hc
theorem counts_sum {n0 n1 n2 n3 n4 n5 n6 n7 : Int} (hc : Venn.countsChk [n0, n1, n2, n3, n4, n5, n6, n7] = 0) : n0 + n1 + n2 + n3 + n4 + n5 + n6 + n7 ≤ 6 := by
  have hb := counts_bound hc
  unfold Venn.countsChk at hc
  split at hc
  · split at hc
    · cases hc
    · rename_i h6
      simp only [List.sum_cons, List.sum_nil] at h6
      omega
  · cases hc
end Go.Proofs.YtcloppcekbdbaaaDoor
