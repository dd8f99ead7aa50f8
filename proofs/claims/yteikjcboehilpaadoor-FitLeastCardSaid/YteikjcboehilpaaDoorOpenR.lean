/-
  ARGUMENTS OPENED: a row, a slice of rows.
-/
import Derived.Test.YteikjcboehilpaaDoorOpenW
import Derived.Test.YteikjcboehilpaaDoorRowSo
namespace Go.Proofs.YteikjcboehilpaaDoor
open Go.ChangeShapes Go.WideShapes Go.ChangeAt Go.RowKit Go.Deep
section
variable {H : Type} {enc : TypeId × Value → H} {P : Program} {w : World} {base b0 : Nat} {spare : Nat → Bool} {held : Bool} {r : Reach} {v : Value} {d : DataW H} {ps : List MemPlace}
theorem row_of_trod {tw ta ti : TypeId} {f0 f1 : Field} (h0 : P.underlying tw = some (.struct #[f0, f1])) (hf0 : f0.type = ta) (hf1 : f1.type = ti) (ho0 : f0.offset = 0) (ho1 : f1.offset = 8)
    (hta : P.underlying ta = some (.array 8 ti)) (hti : P.underlying ti = some (.int .i64)) (c1 : P.cellsOf ti = 1) (c8 : P.cellsOf ta = 8)
    {fuel : Nat} {cs : List Value} {x : DataW H × List MemPlace} (h : DataW.trod enc P w base spare held fuel tw cs = some x) (hcs : cs.length = 9) :
    ∃ l : List Int, l.length = 9 ∧ cs = l.map (Value.int .i64) ∧ ∀ z ∈ l, (Lit.int .i64 z).wf = true := by
  obtain ⟨y0, y1, n, _, _, g0, g1⟩ := trod_struct2 h0 h
  subst hf0 hf1
  obtain ⟨l, hl, e1, w1⟩ := trod_intsArr hta hti c1 c8 g0
  obtain ⟨m, e0, _, w0⟩ := DataW.trod_int hti g1
  rw [c1, ho1] at e0
  rw [c8, ho0] at e1
  refine ⟨l ++ [m], by simp [hl], ?_, fun z hz => ?_⟩
  · match cs, hcs, e0, e1 with
    | [x0, x1, x2, x3, x4, x5, x6, x7, x8], _, e0, e1 =>
      simp at e0 e1
      rw [List.map_append, ← e1]
      simp [e0]
  · rcases List.mem_append.1 hz with hz | hz
    · exact w1 z hz
    · rw [List.mem_singleton.1 hz]; exact w0
theorem cells_len {a : Addr} {n : Nat} {cs : List Value} (h : w.cells? base a n = some cs) : cs.length = n ∧ ∀ (j : Nat) (u : Value), cs[j]? = some u → w.cell? (a.add j) = some u := by
  obtain ⟨_, hl, hc⟩ := World.cells?_some h
  exact ⟨hl, fun j u hj => (hc j (by have := (List.getElem?_eq_some_iff.1 hj).1; omega)).trans hj⟩
theorem flat_get : ∀ (l : List (List Int)) (j : Nat) (u : Value), (∀ r ∈ l, r.length = 9) → (l.flatMap fun r => r.map (Value.int .i64))[j]? = some u → ∃ r y, l[j / 9]? = some r ∧ r[j % 9]? = some y ∧ u = .int .i64 y := by
  intro l
  induction l with
  | nil => intro j u _ h; simp at h
  | cons r l ih =>
    intro j u hl h
    have hr := hl r (by simp)
    rw [List.flatMap_cons] at h
    rcases Nat.lt_or_ge j 9 with hj | hj
    · rw [List.getElem?_append_left (by simp; omega), List.getElem?_map] at h
      obtain ⟨y, hy, rfl⟩ := Option.map_eq_some_iff.1 h
      exact ⟨r, y, by rw [Nat.div_eq_of_lt hj]; rfl, by rw [Nat.mod_eq_of_lt hj]; exact hy, rfl⟩
    · rw [List.getElem?_append_right (by simp; omega)] at h
      simp only [List.length_map, hr] at h
      obtain ⟨r', y, h1, h2, h3⟩ := ih (j - 9) u (fun r hr => hl r (List.mem_cons_of_mem _ hr)) h
      refine ⟨r', y, ?_, ?_, h3⟩
      · rw [show j / 9 = (j - 9) / 9 + 1 by omega]
        simpa using h1
      · rw [show j % 9 = (j - 9) % 9 by omega]
        exact h2
theorem open_rows_of {ts tw : TypeId} (hts : P.underlying ts = some (.slice tw)) (c9 : P.cellsOf tw = 9)
    (hrow : ∀ (fuel : Nat) (cs : List Value) (x : DataW H × List MemPlace), DataW.trod enc P w base spare held fuel tw cs = some x → cs.length = 9 → ∃ l : List Int, l.length = 9 ∧ cs = l.map (Value.int .i64) ∧ ∀ z ∈ l, (Lit.int .i64 z).wf = true)
    (hok : Value.okWide P w r b0 ts v) (h : DataW.Trod enc P w base spare held ts v d ps) : ∃ l : List (List Int), IsRows w v l := by
  obtain ⟨a0, len, cap, rfl⟩ := okWide_slice hts hok
  obtain ⟨fuel, hf⟩ := h
  rcases DataW.trod_slice hts hf with ⟨hcs, _⟩ | ⟨a, len', cap', elems, rest, n, _, hcs, _, _, hl, hm, hel, hcell, _⟩
  · simp [Value.cells] at hcs
    obtain ⟨rfl, rfl, rfl⟩ := hcs
    exact ⟨[], IsRows.nil _⟩
  · simp [Value.cells] at hcs
    obtain ⟨rfl, rfl, rfl⟩ := hcs
    have hx : ∀ i, i < len → ∃ r : List Int, r.length = 9 ∧ ∀ (j : Nat) (y : Int), r[j]? = some y → w.cell? (a.add (i * 9 + j)) = some (.int .i64 y) := by
      intro i hi
      have := hcell i hi
      rw [c9, List.getElem?_eq_getElem (by omega)] at this
      obtain ⟨cs, h1, h2⟩ := Option.bind_eq_some_iff.1 this
      obtain ⟨k1, k2⟩ := cells_len h1
      obtain ⟨l, hl9, rfl, _⟩ := hrow _ _ _ h2 k1
      refine ⟨l, hl9, fun j y hj => ?_⟩
      have := k2 j (.int .i64 y) (by rw [List.getElem?_map, hj]; rfl)
      rwa [add_of_add] at this
    have hx' : ∀ i : Nat, ∃ r : List Int, i < len → (r.length = 9 ∧ ∀ (j : Nat) (y : Int), r[j]? = some y → w.cell? (a.add (i * 9 + j)) = some (.int .i64 y)) := by
      intro i
      by_cases hi : i < len
      · obtain ⟨r, hr⟩ := hx i hi
        exact ⟨r, fun _ => hr⟩
      · exact ⟨[], fun h => absurd h hi⟩
    obtain ⟨f, hf⟩ := Classical.axiomOfChoice hx'
    have hl9 : ∀ r ∈ (List.range len).map f, r.length = 9 := by
      intro r hr
      obtain ⟨i, hi, rfl⟩ := List.mem_map.1 hr
      exact (hf i (List.mem_range.1 hi)).1
    refine ⟨(List.range len).map f, some a, cap, by simp, fun j u hj => ⟨a, rfl, ?_⟩, hl9, by simpa using hl, hm⟩
    obtain ⟨r, y, h1, h2, rfl⟩ := flat_get _ j u hl9 hj
    rw [List.getElem?_map] at h1
    obtain ⟨i, hi, rfl⟩ := Option.map_eq_some_iff.1 h1
    have hil := List.getElem?_eq_some_iff.1 hi
    simp at hil
    have := (hf i (by omega)).2 (j % 9) y h2
    rwa [show i * 9 + j % 9 = j by omega] at this
end
section
variable {H : Type} {enc : TypeId × Value → H} {w : World} {base b0 : Nat} {spare : Nat → Bool} {held : Bool} {r : Reach} {v : Value} {d : DataW H} {ps : List MemPlace}
theorem cellsRow : Tryd.prog.cellsOf 27 = 9 := by kernel_rfl
set_option maxRecDepth 100000 in
theorem open_row (hok : Value.okWide Tryd.prog w r b0 27 v) (h : DataW.Trod enc Tryd.prog w base spare held 27 v d ps) :
    ∃ l : List Int, l.length = 9 ∧ v = .agg (l.map (Value.int .i64)).toArray := by
  obtain ⟨cs, rfl, hsz⟩ := okWide_struct Tryd.underlying27 hok
  obtain ⟨fuel, hf⟩ := h
  rw [cellsRow] at hsz
  obtain ⟨l, hl, e, _⟩ := row_of_trod Tryd.underlying27 rfl rfl rfl rfl Tryd.underlying25 Tryd.underlying3 cellsInt cells8 hf (by simpa [Value.cells] using hsz)
  refine ⟨l, hl, ?_⟩
  obtain ⟨xs⟩ := cs
  simp [Value.cells] at e
  rw [e]
set_option maxRecDepth 100000 in
theorem open_rows (hok : Value.okWide Tryd.prog w r b0 55 v) (h : DataW.Trod enc Tryd.prog w base spare held 55 v d ps) : ∃ l : List (List Int), IsRows w v l :=
  open_rows_of Tryd.underlying55 cellsRow (fun _ _ _ h hl => row_of_trod Tryd.underlying27 rfl rfl rfl rfl Tryd.underlying25 Tryd.underlying3 cellsInt cells8 h hl) hok h
end
end Go.Proofs.YteikjcboehilpaaDoor
