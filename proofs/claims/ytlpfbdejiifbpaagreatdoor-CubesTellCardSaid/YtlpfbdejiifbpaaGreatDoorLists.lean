/-
  LISTS OF LISTS of integers in memory: a slice that reads as one; a row of the call's own whose cells are slices.
-/
import Derived.Test.YtlpfbdejiifbpaaGreatDoorOwnA
import Derived.Test.YtlpfbdejiifbpaaGreatDoorRange
namespace Go.Proofs.YtlpfbdejiifbpaaGreatDoor
open Go.RowKit

/-- A list and the value of its slice. -/
abbrev LV := List Int × Value
def lCells (p : List LV) : List Value := p.map fun x => x.2
def lVals (p : List LV) : List (List Int) := p.map fun x => x.1
theorem lCells_len (p : List LV) : (lCells p).length = p.length := List.length_map _
theorem lVals_len (p : List LV) : (lVals p).length = p.length := List.length_map _
theorem lCells_app (p q : List LV) : lCells (p ++ q) = lCells p ++ lCells q := List.map_append
theorem lVals_app (p q : List LV) : lVals (p ++ q) = lVals p ++ lVals q := List.map_append
def LOk (w : World) (p : List LV) : Prop := ∀ x ∈ p, IsInts w x.2 x.1
theorem LOk.keep {w w' : World} {p : List LV} (h : LOk w p) (hb : Below w.heap.size w w') : LOk w' p := fun x hx => (h x hx).keep hb
theorem LOk.nil (w : World) : LOk w [] := fun x hx => by cases hx
theorem ints_one {w : World} {v : Value} {l : List Int} (h : IsInts w v l) : v.oneCell' = true := by
  obtain ⟨A, c, rfl, _⟩ := h
  rfl
theorem lCells_one {w : World} {p : List LV} (h : LOk w p) : ∀ u ∈ lCells p, u.oneCell' = true := by
  intro u hu
  obtain ⟨x, hx, rfl⟩ := List.mem_map.1 hu
  exact ints_one (h x hx)
/-- A slice of slices reads as L. -/
def IsLists (w : World) (v : Value) (L : List (List Int)) : Prop :=
  ∃ A c p, v = .slice A p.length c ∧ lVals p = L ∧ Rd w A (lCells p) ∧ LOk w p ∧ p.length ≤ c ∧ c ≤ maxLen
theorem IsLists.keep {w w' : World} {v : Value} {L : List (List Int)} (h : IsLists w v L) (hb : Below w.heap.size w w') : IsLists w' v L := by
  obtain ⟨A, c, p, hv, hL, hr, ho, hc⟩ := h
  exact ⟨A, c, p, hv, hL, hr.keep hb, ho.keep hb, hc⟩
theorem IsLists.nil (w : World) : IsLists w (.slice none 0 0) [] := ⟨none, 0, [], rfl, rfl, Rd.nil _ _, LOk.nil _, Nat.le_refl _, by simp [maxLen]⟩
theorem lists_of_own {w : World} {base : Nat} {e : TypeId} {v : Value} {n : Nat} {p : List LV} (h : w.ownsRow base e 1 v n (lCells p)) (hp : LOk w p) : IsLists w v (lVals p) := by
  have hn : n = p.length := by have := h.1; rw [lCells_len] at this; omega
  subst hn
  rcases h.2 with ⟨rfl, hl⟩ | ⟨g, cap, cur, rfl, _, hh, hnc, hcm, hcs, ht⟩
  · have : p = [] := List.eq_nil_of_length_eq_zero hl
    subst this
    exact IsLists.nil _
  · exact ⟨_, _, p, rfl, rfl, fun j u hj => ⟨_, rfl, h.cells (g := g) rfl j u hj⟩, hp, hnc, hcm⟩
/-- The cell of a list that is not empty lies in memory. -/
theorem ints_lt {w : World} {v : Value} {l : List Int} (h : IsInts w v l) (hl : l ≠ []) {b : Nat} (hb : v.ownBlock = some b) : b < w.heap.size := by
  obtain ⟨A, c, rfl, hr, _⟩ := h
  have h0 : 0 < l.length := List.length_pos_iff.2 hl
  obtain ⟨ad, rfl, hc⟩ := hr.int h0
  have := cell_lt hc
  rw [block_of_add] at this
  simp only [Value.ownBlock] at hb
  injection hb with hb
  omega
theorem IsInts.but' {C : Nat → Prop} {w w' : World} {v : Value} {l : List Int} (h : IsInts w v l) (hb : But C w w') (hc : l ≠ [] → ∀ b, v.ownBlock = some b → ¬ C b) : IsInts w' v l := by
  by_cases hl : l = []
  · subst hl
    obtain ⟨A, c, rfl, hr, h1, h2⟩ := h
    exact ⟨A, c, rfl, Rd.nil _ _, h1, h2⟩
  · exact h.but hb (hc hl)

/-- A row of the call's own whose cells are slices; their lists lie elsewhere. -/
structure OwnL (base : Nat) (w : World) (v : Value) (p : List LV) : Prop where
  own : w.ownsRow base 23 1 v p.length (lCells p)
  ok : LOk w p
  far : ∀ x ∈ p, x.1 ≠ [] → ∀ b, x.2.ownBlock = some b → v.ownBlock ≠ some b
theorem OwnL.nil (base : Nat) (w : World) : OwnL base w (.slice none 0 0) [] := ⟨World.ownsRow_nil _ _ _ _, LOk.nil _, fun x hx => by cases hx⟩
theorem OwnL.lists {base : Nat} {w : World} {v : Value} {p : List LV} (h : OwnL base w v p) : IsLists w v (lVals p) := lists_of_own h.own h.ok
theorem OwnL.but {base : Nat} {C : Nat → Prop} {w w' : World} {v : Value} {p : List LV} (h : OwnL base w v p) (hb : But C w w') (hv : ∀ b, v.ownBlock = some b → ¬ C b) (hp : ∀ x ∈ p, x.1 ≠ [] → ∀ b, x.2.ownBlock = some b → ¬ C b) : OwnL base w' v p :=
  ⟨own_but h.own hb hv, fun x hx => (h.ok x hx).but' hb (hp x hx), h.far⟩
theorem OwnL.keep {base : Nat} {w w' : World} {v : Value} {p : List LV} (h : OwnL base w v p) (hb : Below w.heap.size w w') : OwnL base w' v p :=
  h.but (C := fun _ => False) (But.of_below hb) (fun _ _ => id) (fun _ _ _ _ _ => id)
theorem OwnL.slice {base : Nat} {w : World} {v : Value} {p : List LV} (h : OwnL base w v p) : ∃ A c, v = .slice A p.length c := ownsRow_slice h.own
theorem OwnL.drew {base : Nat} {w : World} {v : Value} {p : List LV} (h : OwnL base w v p) : OwnL base w.drew v p := h.keep ((Below.refl _ w).drew)
/-- One more. -/
theorem OwnL.step {base : Nat} {w w' : World} {v v' : Value} {p : List LV} (h : OwnL base w v p) {y : LV} (hg : w.grownBy w' v.ownBlock) (hown : w'.ownsRow base 23 1 v' (p.length + 1) (lCells p ++ [y.2]))
    (hat : v'.ownBlock = v.ownBlock ∨ v'.ownBlock = some w.heap.size) (hy : IsInts w y.2 y.1) (hf : y.1 ≠ [] → ∀ b, y.2.ownBlock = some b → v.ownBlock ≠ some b) : OwnL base w' v' (p ++ [y]) := by
  have hbut : But (fun b => v.ownBlock = some b) w w' := But.of_grown hg
  have hok : LOk w (p ++ [y]) := fun x hx => by
    rcases List.mem_append.1 hx with hx | hx
    · exact h.ok x hx
    · rw [List.mem_singleton.1 hx]; exact hy
  have hfar : ∀ x ∈ p ++ [y], x.1 ≠ [] → ∀ b, x.2.ownBlock = some b → v.ownBlock ≠ some b := fun x hx => by
    rcases List.mem_append.1 hx with hx | hx
    · exact h.far x hx
    · rw [List.mem_singleton.1 hx]; exact hf
  refine ⟨?_, fun x hx => (hok x hx).but' hbut (hfar x hx), fun x hx hl b hb => ?_⟩
  · rw [List.length_append, lCells_app]
    exact hown
  · rcases hat with h' | h'
    · rw [h']; exact hfar x hx hl b hb
    · rw [h']
      intro e
      injection e with e
      have := ints_lt (hok x hx) hl hb
      omega

theorem ints_info : (Tryz.prog.info? 23).map (fun i => (i.zero, i.size, i.bytes)) = some (some (.slice none 0 0), 1, 24) := by kernel_rfl
/-- append(row, l): one slice onto a row of the call's own. -/
theorem wpList_appL {ops : Array Oper} {rest : List Oper} {o : Oper} {a : Act} {Q : Exit → Act → World → Prop} (w : World) (hgd : o.guard = none) (s x : Operand)
    (ho : o.op = .call { callee := .builtin .append, args := #[s, x], argTypes := #[26, 26] })
    (base : Nat) (v : Value) (p : List LV) (hs : a.eval s = v) (hown : OwnL base w v p)
    (g c : Nat) (y : LV) (hx : a.eval x = .slice (some ⟨g, 0, none⟩) 1 c) (hc : w.cell? ⟨g, 0, none⟩ = some y.2) (hy : IsInts w y.2 y.1) (hf : y.1 ≠ [] → ∀ b, y.2.ownBlock = some b → v.ownBlock ≠ some b) (hn : p.length < 1000000) (hbase : base ≤ w.heap.size)
    (h : ∀ v' w', OwnL base w' v' (p ++ [y]) → w.grownBy w' v.ownBlock → (v'.ownBlock = v.ownBlock ∨ v'.ownBlock = some w.heap.size) → wpList Tryz.prog ops Q rest (a.put o.dst v') w') : wpList Tryz.prog ops Q (o :: rest) a w := by
  obtain ⟨i0, hi, hz0, hz1, hz2⟩ := info_parts ints_info
  refine wpList_append_own_at w hgd s x _ ho base _ i0 _ 1 24 Tryz.underlying26 hi hz0 hz1 hz2 rfl (by decide) v p.length (lCells p) hs hown.own ⟨g, 0, none⟩ 1 c [y.2] hx rfl ?_ ?_ (by unfold maxLen; omega) (by omega) hbase (fun v' w' h1 h2 _ h4 => h v' w' (hown.step h2 h1 h4 hy hf) h2 h4)
  · intro j u hj
    match j, hj with
    | 0, hj => simp at hj; subst hj; simpa [Addr.add] using hc
  · intro u hu; simp at hu; subst hu; exact ints_one hy
/-- append(row, l...): slices onto a row of the call's own. -/
theorem wpList_appLs {ops : Array Oper} {rest : List Oper} {o : Oper} {a : Act} {Q : Exit → Act → World → Prop} (w : World) (hgd : o.guard = none) (s x : Operand)
    (ho : o.op = .call { callee := .builtin .append, args := #[s, x], argTypes := #[26, 26] })
    (base : Nat) (v : Value) (n : Nat) (xs : List Value) (hs : a.eval s = v) (hown : w.ownsRow base 23 1 v n xs)
    (ad : Addr) (c : Nat) (p : List LV) (hx : a.eval x = .slice (some ad) p.length c) (hr : Rd w (some ad) (lCells p)) (hp : LOk w p) (hn : n + p.length ≤ 1000000) (hbase : base ≤ w.heap.size)
    (h : ∀ v' w', w'.ownsRow base 23 1 v' (n + p.length) (xs ++ lCells p) → w.grownBy w' v.ownBlock → (v'.ownBlock = v.ownBlock ∨ v'.ownBlock = some w.heap.size) → wpList Tryz.prog ops Q rest (a.put o.dst v') w') : wpList Tryz.prog ops Q (o :: rest) a w := by
  obtain ⟨i0, hi, hz0, hz1, hz2⟩ := info_parts ints_info
  refine wpList_append_own_at w hgd s x _ ho base _ i0 _ 1 24 Tryz.underlying26 hi hz0 hz1 hz2 rfl (by decide) v n xs hs hown ad p.length c (lCells p) hx (by rw [lCells_len]; omega) ?_ (lCells_one hp) (by unfold maxLen; omega) (by omega) hbase (fun v' w' h1 h2 _ h4 => h v' w' h1 h2 h4)
  intro j u hj
  obtain ⟨ad', e, hc⟩ := hr j u hj
  cases e
  exact hc
end Go.Proofs.YtlpfbdejiifbpaaGreatDoor
