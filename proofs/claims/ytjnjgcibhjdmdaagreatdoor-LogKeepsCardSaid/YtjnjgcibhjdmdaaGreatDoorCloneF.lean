/-
  LISTS OF FORMULAS opened; slices.Clone of formulas (the lines of RefW, for a program without the reference).
-/
import Derived.Test.YtjnjgcibhjdmdaaGreatDoorSpanG
import Derived.Test.YtjnjgcibhjdmdaaGreatDoorFormG
namespace Go.Proofs.YtjnjgcibhjdmdaaGreatDoor
open Go.RowKit

abbrev FV := Venn.Form × Value × Value
def fCells : List FV → List Value
  | [] => []
  | x :: r => x.2.1 :: x.2.2 :: fCells r
theorem fCells_len : ∀ p : List FV, (fCells p).length = p.length * 2 := by
  intro p
  induction p with
  | nil => rfl
  | cons x r ih => simp only [fCells, List.length_cons, ih]; omega
theorem fCells_app : ∀ p q : List FV, fCells (p ++ q) = fCells p ++ fCells q := by
  intro p q
  induction p with
  | nil => rfl
  | cons x r ih => simp only [fCells, List.cons_append, ih]
theorem fCells_at : ∀ (p : List FV) (k : Nat) (x : FV), p[k]? = some x → (fCells p)[k * 2]? = some x.2.1 ∧ (fCells p)[k * 2 + 1]? = some x.2.2 := by
  intro p
  induction p with
  | nil => intro k x h; simp at h
  | cons y r ih =>
    intro k x h
    cases k with
    | zero => simp at h; subst h; exact ⟨rfl, rfl⟩
    | succ k =>
      have := ih k x (by simpa using h)
      rw [Nat.succ_mul, show k * 2 + 2 + 1 = k * 2 + 1 + 2 by omega]
      simpa only [fCells, List.getElem?_cons_succ] using this
def FOk (w : World) (p : List FV) : Prop := ∀ x ∈ p, IsAtoms w x.2.1 x.1.atoms ∧ IsInts w x.2.2 x.1.code
theorem FOk.keep {w w' : World} {p : List FV} (h : FOk w p) (hb : Below w.heap.size w w') : FOk w' p := fun x hx => ⟨(h x hx).1.keep hb, (h x hx).2.keep hb⟩
theorem fCells_one {w : World} : ∀ {p : List FV}, FOk w p → ∀ u ∈ fCells p, u.oneCell' = true := by
  intro p
  induction p with
  | nil => intro _ u h; cases h
  | cons x r ih =>
    intro h u hu
    obtain ⟨⟨A, c, hs, _⟩, ⟨B, d, ht, _⟩⟩ := h x (by simp)
    simp only [fCells, List.mem_cons] at hu
    rcases hu with rfl | rfl | hu
    · rw [hs]; rfl
    · rw [ht]; rfl
    · exact ih (fun y hy => h y (List.mem_cons_of_mem _ hy)) u hu
theorem forms_open {w : World} {v : Value} {l : List Venn.Form} (h : IsForms w v l) : ∃ A c p, v = .slice A p.length c ∧ p.map (fun x : FV => x.1) = l ∧ Rd w A (fCells p) ∧ FOk w p ∧ p.length ≤ c ∧ c ≤ maxLen := by
  obtain ⟨A, c, rfl, hr, h1, h2⟩ := h
  have hx : ∀ k : Nat, ∃ q : Value × Value, ∀ f, l[k]? = some f → ∃ ad, A = some ad ∧ w.cell? (ad.add (k * 2)) = some q.1 ∧ w.cell? ⟨(ad.add (k * 2)).block, (ad.add (k * 2)).off + 1, none⟩ = some q.2 ∧ IsAtoms w q.1 f.atoms ∧ IsInts w q.2 f.code := by
    intro k
    cases hk : l[k]? with
    | none => exact ⟨(default, default), fun a h => by cases h⟩
    | some a =>
      obtain ⟨ad, sv, tv, h⟩ := hr k a hk
      exact ⟨(sv, tv), fun b hb => by cases hb; exact ⟨ad, h⟩⟩
  obtain ⟨f, hf⟩ := Classical.axiomOfChoice hx
  have hlen : ((List.range l.length).map fun k => ((((l[k]?).getD ⟨[], []⟩ : Venn.Form), f k) : FV)).length = l.length := by simp
  have hget : ∀ k x, ((List.range l.length).map fun k => ((((l[k]?).getD ⟨[], []⟩ : Venn.Form), f k) : FV))[k]? = some x → l[k]? = some x.1 ∧ x.2 = f k := by
    intro k x h
    rw [List.getElem?_map] at h
    obtain ⟨i, hi, rfl⟩ := Option.map_eq_some_iff.1 h
    have := List.getElem?_eq_some_iff.1 hi
    simp at this
    obtain ⟨h3, rfl⟩ := this
    simp [h3]
  refine ⟨A, c, (List.range l.length).map fun k => ((((l[k]?).getD ⟨[], []⟩ : Venn.Form), f k) : FV), by rw [hlen], ?_, ?_, ?_, by rw [hlen]; exact h1, h2⟩
  · refine List.ext_getElem? fun k => ?_
    by_cases hk : k < l.length
    · simp [hk]
    · rw [List.getElem?_eq_none (by simp; omega), List.getElem?_eq_none (by omega)]
  · intro j u hj
    have hjl := (List.getElem?_eq_some_iff.1 hj).1
    rw [fCells_len, hlen] at hjl
    have hk : ((List.range l.length).map fun k => ((((l[k]?).getD ⟨[], []⟩ : Venn.Form), f k) : FV))[j / 2]? = some ((l[j / 2]?).getD ⟨[], []⟩, f (j / 2)) := by
      rw [List.getElem?_map, List.getElem?_range (by omega)]; rfl
    obtain ⟨c0, c1⟩ := fCells_at _ _ _ hk
    obtain ⟨e1, e2⟩ := hget _ _ hk
    obtain ⟨ad, e, h0, g1, _⟩ := hf (j / 2) _ e1
    refine ⟨ad, e, ?_⟩
    rcases (by omega : j = j / 2 * 2 ∨ j = j / 2 * 2 + 1) with hh | hh
    · rw [hh] at hj ⊢; rw [c0] at hj; cases hj; exact h0
    · rw [hh] at hj ⊢; rw [c1] at hj; cases hj; rw [adr_add _ _ _ (by decide)]; exact g1
  · intro x hx
    obtain ⟨k, hk, he⟩ := List.getElem_of_mem hx
    obtain ⟨e1, e2⟩ := hget k x (by rw [List.getElem?_eq_getElem hk, he])
    obtain ⟨ad, e, _, _, hs, ht⟩ := hf k _ e1
    rw [e2]
    exact ⟨hs, ht⟩
theorem forms_close {w : World} {A : Option Addr} {c : Nat} {p : List FV} (hr : Rd w A (fCells p)) (hp : FOk w p) (h1 : p.length ≤ c) (h2 : c ≤ maxLen) : IsForms w (.slice A p.length c) (p.map (fun x : FV => x.1)) := by
  refine ⟨A, c, by simp, fun k a hk => ?_, by simpa using h1, h2⟩
  rw [List.getElem?_map] at hk
  obtain ⟨x, hx, rfl⟩ := Option.map_eq_some_iff.1 hk
  obtain ⟨c0, c1⟩ := fCells_at p k x hx
  obtain ⟨ad, rfl, g0⟩ := hr _ _ c0
  obtain ⟨ad1, e1, g1⟩ := hr _ _ c1
  cases e1
  rw [adr_add _ _ _ (by decide)] at g1
  obtain ⟨hs, ht⟩ := hp x (List.mem_of_getElem? hx)
  exact ⟨ad, _, _, rfl, g0, g1, hs, ht⟩
theorem forms_of_own {w : World} {base : Nat} {e : TypeId} {v : Value} {n : Nat} {p : List FV} (h : w.ownsRow base e 2 v n (fCells p)) (hp : FOk w p) : IsForms w v (p.map (fun x : FV => x.1)) := by
  have hn : n = p.length := by have := h.1; rw [fCells_len] at this; omega
  subst hn
  rcases h.2 with ⟨rfl, hl⟩ | ⟨g, cap, cur, rfl, _, hh, hnc, hcm, hcs, ht⟩
  · have : p = [] := List.eq_nil_of_length_eq_zero hl
    subst this
    exact IsForms.nil _
  · exact forms_close (fun j u hj => ⟨_, rfl, h.cells (g := g) rfl j u hj⟩) hp hnc hcm
theorem form_infoK : (Tryz.prog.info? 38).map (fun i => (i.zero, i.size, i.bytes)) = some (some (.agg #[.slice none 0 0, .slice none 0 0]), 2, 48) := by kernel_rfl
set_option maxRecDepth 100000 in
theorem wpList_appF {ops : Array Oper} {rest : List Oper} {o : Oper} {a : Act} {Q : Exit → Act → World → Prop} (w : World) (hgd : o.guard = none) (s x : Operand)
    (ho : o.op = .call { callee := .builtin .append, args := #[s, x], argTypes := #[35, 35] })
    (base : Nat) (v : Value) (n : Nat) (xs : List Value) (hs : a.eval s = v) (hown : w.ownsRow base 38 2 v n xs)
    (ad : Addr) (c : Nat) (p : List FV) (hx : a.eval x = .slice (some ad) p.length c) (hr : Rd w (some ad) (fCells p)) (hp : FOk w p) (hn : n + p.length ≤ 1000) (hbase : base ≤ w.heap.size)
    (h : ∀ v' w', w'.ownsRow base 38 2 v' (n + p.length) (xs ++ fCells p) → w.grownBy w' v.ownBlock → wpList Tryz.prog ops Q rest (a.put o.dst v') w') : wpList Tryz.prog ops Q (o :: rest) a w := by
  obtain ⟨i0, hi, hz0, hz1, hz2⟩ := info_parts form_infoK
  refine wpList_append_own w hgd s x _ ho base _ i0 _ 2 48 Tryz.underlying35 hi hz0 hz1 hz2 rfl (by decide) v n xs hs hown ad p.length c (fCells p) hx (fCells_len p) ?_ (fCells_one hp) (by unfold maxLen; omega) (by omega) hbase (fun v' w' h1 h2 _ => h v' w' h1 h2)
  intro j u hj
  obtain ⟨ad', e, hc⟩ := hr j u hj
  cases e
  exact hc
def CloneFPost (p : List FV) (w : World) (e : Ending) (w' : World) : Prop := ∃ v', e = .returned v' ∧ Below w.heap.size w w' ∧ w'.ownsRow w.heap.size 38 2 v' p.length (fCells p)
set_option maxHeartbeats 1000000 in
set_option maxRecDepth 100000 in
theorem clone_forms (ad : Addr) (c : Nat) (p : List FV) (w : World) (hr : Rd w (some ad) (fCells p)) (hp : FOk w p) (hl : p.length ≤ 100) : Calls Tryz.prog 26 #[.slice (some ad) p.length c] w (CloneFPost p w) := by
  have hown : (w.alloc (.cells #[] 38)).ownsRow w.heap.size 38 2 (.slice (some ⟨w.heap.size, 0, none⟩) 0 0) 0 [] :=
    ⟨rfl, .inr ⟨w.heap.size, 0, #[], rfl, Nat.le_refl _, Blk.new w 38 #[], Nat.le_refl _, by simp [maxLen], rfl, rfl⟩⟩
  have hr2 : Rd (w.alloc (.cells #[] 38)) (some ad) (fCells p) := hr.keep (by (repeat' (first | (with_reducible exact Below.refl _ _) | (with_reducible assumption) | (with_reducible refine Below.next ?_ (by with_reducible assumption)) | (with_reducible refine Below.drew ?_) | (with_reducible refine Below.laid ?_ _) | (with_reducible refine Below.setCell ?_ ?_ _) | (with_reducible refine size_of ?_) | (with_reducible refine Nat.le_succ_of_le ?_) | go_size)))
  have hp2 : FOk (w.alloc (.cells #[] 38)) p := hp.keep (by (repeat' (first | (with_reducible exact Below.refl _ _) | (with_reducible assumption) | (with_reducible refine Below.next ?_ (by with_reducible assumption)) | (with_reducible refine Below.drew ?_) | (with_reducible refine Below.laid ?_ _) | (with_reducible refine Below.setCell ?_ ?_ _) | (with_reducible refine size_of ?_) | (with_reducible refine Nat.le_succ_of_le ?_) | go_size)))
  have q38 : ∀ (w : World) (a : Option Addr) (n c n' c' : Nat), (binOp .eql 35 (.slice a n c) (.slice none n' c')).run Tryz.prog w = .ok (.bool a.isNone) w := fun w a n c n' c' => Lib.run_eql_slice_nil w _ _ a n c n' c' Tryz.underlying35
  go_enter Tryz.func26, Tryz.ntmps26
  go_wp2_with (at_builtin; refine wpList_appF _ rfl _ _ rfl w.heap.size _ _ _ rfl hown ad c p rfl hr2 hp2 (by omega) (by simp) ?_)
  intro v' w1 hown' hg'
  go_wp2
  go_ret
  refine ⟨v', rfl, ?_, by simpa using hown'⟩
  exact ((Below.refl _ w).alloc (Nat.le_refl _) (.cells #[] 38)).grown hg' (by simp) (fun g hg => by simp [Value.ownBlock] at hg; omega)
/-- A clone of nil is nil. -/
theorem clone_forms_none (c : Nat) (w : World) : Calls Tryz.prog 26 #[.slice none 0 c] w (Keeps (.slice none 0 0) w) := by
  have q38 : ∀ (w : World) (a : Option Addr) (n c n' c' : Nat), (binOp .eql 35 (.slice a n c) (.slice none n' c')).run Tryz.prog w = .ok (.bool a.isNone) w := fun w a n c n' c' => Lib.run_eql_slice_nil w _ _ a n c n' c' Tryz.underlying35
  go_enter Tryz.func26, Tryz.ntmps26
  go_wp2
  go_ret
  exact ⟨rfl, Below.refl _ _⟩
end Go.Proofs.YtjnjgcibhjdmdaaGreatDoor
