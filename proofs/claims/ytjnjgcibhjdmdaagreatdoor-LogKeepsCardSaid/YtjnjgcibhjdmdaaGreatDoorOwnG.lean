/-
  THE WALKS of package alike.
  THE WALKS of slices.Clone (integers) and alike.Swap.
  ATOMS BY VALUE: a slice of atoms as its cells; what is out of some blocks; the walk of slices.Clone at atoms.
-/
import Derived.Test.YtjnjgcibhjdmdaaGreatDoorSetsT
import Derived.Test.YtjnjgcibhjdmdaaGreatDoorMem
import Derived.Test.YtjnjgcibhjdmdaaGreatDoorVennP1
import Derived.Test.YtjnjgcibhjdmdaaGreatDoorRowG
import Derived.Test.YtjnjgcibhjdmdaaGreatDoorFormG
import Derived.Lib.SliceRun
import Derived.WalkSmall
import Derived.Test.YtjnjgcibhjdmdaaGreatDoorFitG
namespace Go.Proofs.YtjnjgcibhjdmdaaGreatDoor
open Go.RowKit

theorem masks_andNot (s t : List Int) : bits .andNot .i64 (Venn.mask s) (Venn.mask t) = ((Venn.andNot (Venn.mask s).toNat (Venn.mask t).toNat : Nat) : Int) := by
  have h1 := Venn.mask_range s
  have h2 := Venn.mask_range t
  have := i64_andNot_nat (Venn.mask s).toNat (Venn.mask t).toNat (by omega) (by omega)
  rwa [Int.toNat_of_nonneg h1.1, Int.toNat_of_nonneg h2.1] at this
theorem masks_and (s t : List Int) : bits .and .i64 (Venn.mask s) (Venn.mask t) = (((Venn.mask s).toNat &&& (Venn.mask t).toNat : Nat) : Int) := by
  have h1 := Venn.mask_range s
  have h2 := Venn.mask_range t
  have := i64_and_nat (Venn.mask s).toNat (Venn.mask t).toNat (by omega) (by omega)
  rwa [Int.toNat_of_nonneg h1.1, Int.toNat_of_nonneg h2.1] at this

end Go.Proofs.YtjnjgcibhjdmdaaGreatDoor

namespace Venn
def swapL (t : List Int) (x y : Int) : List Int := t.map fun s => if s = x then y else if s = y then x else s
def swapChk (t : List Int) (x y : Int) : Int := if termChk t = 0 then (if nameOk x = true ∧ nameOk y = true then 0 else 1) else termChk t
end Venn
namespace Go.Proofs.YtjnjgcibhjdmdaaGreatDoor
open Go.RowKit

/-- A copy of the call's own. -/
def ClonePost (l : List Int) (w : World) (e : Ending) (w' : World) : Prop := ∃ v', e = .returned v' ∧ Below w.heap.size w w' ∧ w'.ownsRow w.heap.size 3 1 v' l.length (l.map (Value.int .i64))
set_option maxHeartbeats 1000000 in
set_option maxRecDepth 100000 in
theorem clone_ints (v : Value) (l : List Int) (w : World) (h : IsInts w v l) (hl : l.length < 1000000000000) : Calls Tryz.prog 61 #[v] w (ClonePost l w) := by
  obtain ⟨A, c, rfl, hr, hlc, hc⟩ := h
  rcases A with _ | ad
  · have hnil : l = [] := by
      rcases l with _ | ⟨y, l⟩
      · rfl
      · obtain ⟨_, h, _⟩ := hr 0 (.int .i64 y) (by simp)
        cases h
    subst hnil
    have q38 : ∀ (w : World) (a : Option Addr) (n c n' c' : Nat), (binOp .eql 30 (.slice a n c) (.slice none n' c')).run Tryz.prog w = .ok (.bool a.isNone) w := fun w a n c n' c' => Lib.run_eql_slice_nil w _ _ a n c n' c' Tryz.underlying30
    go_enter Tryz.func61, Tryz.ntmps61
    go_wp2
    go_ret
    exact ⟨_, rfl, by (repeat' (first | (with_reducible exact Below.refl _ _) | (with_reducible assumption) | (with_reducible refine Below.next ?_ (by with_reducible assumption)) | (with_reducible refine Below.drew ?_) | (with_reducible refine Below.laid ?_ _) | (with_reducible refine Below.setCell ?_ ?_ _) | (with_reducible refine size_of ?_) | (with_reducible refine Nat.le_succ_of_le ?_) | go_size)), World.ownsRow_nil _ _ _ _⟩
  · have hown : (w.alloc (.cells #[] 3)).ownsRow w.heap.size 3 1 (.slice (some ⟨w.heap.size, 0, none⟩) 0 0) 0 [] :=
      ⟨rfl, .inr ⟨w.heap.size, 0, #[], rfl, Nat.le_refl _, Blk.new w 3 #[], Nat.le_refl _, by simp [maxLen], rfl, rfl⟩⟩
    have hr2 : Rd (w.alloc (.cells #[] 3)) (some ad) (l.map (Value.int .i64)) := hr.keep (by (repeat' (first | (with_reducible exact Below.refl _ _) | (with_reducible assumption) | (with_reducible refine Below.next ?_ (by with_reducible assumption)) | (with_reducible refine Below.drew ?_) | (with_reducible refine Below.laid ?_ _) | (with_reducible refine Below.setCell ?_ ?_ _) | (with_reducible refine size_of ?_) | (with_reducible refine Nat.le_succ_of_le ?_) | go_size)))
    have q38 : ∀ (w : World) (a : Option Addr) (n c n' c' : Nat), (binOp .eql 30 (.slice a n c) (.slice none n' c')).run Tryz.prog w = .ok (.bool a.isNone) w := fun w a n c n' c' => Lib.run_eql_slice_nil w _ _ a n c n' c' Tryz.underlying30
    go_enter Tryz.func61, Tryz.ntmps61
    go_wp2_with (at_builtin; refine wpList_appR _ rfl _ _ rfl w.heap.size _ _ _ rfl hown (some ad) c l rfl hr2 (by omega) (by simp) ?_)
    intro v' w1 hown' hg'
    go_wp2
    go_ret
    refine ⟨v', rfl, ?_, by simpa using hown'⟩
    exact ((Below.refl _ w).alloc (Nat.le_refl _) (.cells #[] 3)).grown hg' (by simp) (fun g hg => by simp [Value.ownBlock] at hg; omega)

def SwapPost (t : List Int) (x y : Int) (w : World) (e : Ending) (w' : World) : Prop :=
  ∃ v', e = .returned (.tuple #[v', errV (Venn.swapChk t x y)]) ∧ Below w.heap.size w w' ∧ IsInts w' v' (if Venn.swapChk t x y = 0 then Venn.swapL t x y else [])
theorem swap_step (t : List Int) (x y : Int) (k : Nat) (h : k < t.length) : Venn.swapL (t.take (k + 1)) x y = Venn.swapL (t.take k) x y ++ [if t[k] = x then y else if t[k] = y then x else t[k]] := by
  unfold Venn.swapL
  rw [List.take_succ_eq_append_getElem h, List.map_append]
  rfl
end Go.Proofs.YtjnjgcibhjdmdaaGreatDoor

namespace Go.Proofs.YtjnjgcibhjdmdaaGreatDoor
open Go.RowKit

/-- An atom and the values of its two slices. -/
abbrev AV := Venn.Atom × Value × Value
def aCells : List AV → List Value
  | [] => []
  | x :: r => .int .i64 x.1.what :: x.2.1 :: x.2.2 :: .int .i64 x.1.n :: aCells r
theorem aCells_len : ∀ p : List AV, (aCells p).length = p.length * 4 := by
  intro p
  induction p with
  | nil => rfl
  | cons x r ih => simp only [aCells, List.length_cons, ih]; omega
theorem aCells_app : ∀ p q : List AV, aCells (p ++ q) = aCells p ++ aCells q := by
  intro p q
  induction p with
  | nil => rfl
  | cons x r ih => simp only [aCells, List.cons_append, ih]
theorem aCells_at : ∀ (p : List AV) (k : Nat) (x : AV), p[k]? = some x →
    (aCells p)[k * 4]? = some (.int .i64 x.1.what) ∧ (aCells p)[k * 4 + 1]? = some x.2.1 ∧ (aCells p)[k * 4 + 2]? = some x.2.2 ∧ (aCells p)[k * 4 + 3]? = some (.int .i64 x.1.n) := by
  intro p
  induction p with
  | nil => intro k x h; simp at h
  | cons y r ih =>
    intro k x h
    cases k with
    | zero => simp at h; subst h; exact ⟨rfl, rfl, rfl, rfl⟩
    | succ k =>
      have := ih k x (by simpa using h)
      rw [Nat.succ_mul, show k * 4 + 4 + 1 = k * 4 + 1 + 4 by omega, show k * 4 + 4 + 2 = k * 4 + 2 + 4 by omega, show k * 4 + 4 + 3 = k * 4 + 3 + 4 by omega]
      simpa only [aCells, List.getElem?_cons_succ] using this
def AOk (w : World) (p : List AV) : Prop := ∀ x ∈ p, IsInts w x.2.1 x.1.s ∧ IsInts w x.2.2 x.1.t
theorem AOk.keep {w w' : World} {p : List AV} (h : AOk w p) (hb : Below w.heap.size w w') : AOk w' p := fun x hx => ⟨(h x hx).1.keep hb, (h x hx).2.keep hb⟩
theorem aCells_one {w : World} : ∀ {p : List AV}, AOk w p → ∀ u ∈ aCells p, u.oneCell' = true := by
  intro p
  induction p with
  | nil => intro _ u h; cases h
  | cons x r ih =>
    intro h u hu
    obtain ⟨⟨A, c, hs, _⟩, ⟨B, d, ht, _⟩⟩ := h x (by simp)
    simp only [aCells, List.mem_cons] at hu
    rcases hu with rfl | rfl | rfl | rfl | hu
    · rfl
    · rw [hs]; rfl
    · rw [ht]; rfl
    · rfl
    · exact ih (fun y hy => h y (List.mem_cons_of_mem _ hy)) u hu
theorem adr_add (a : Addr) (m i : Nat) (h : i ≠ 0) : a.add (m + i) = ⟨(a.add m).block, (a.add m).off + i, none⟩ := by
  rw [← add_of_add]
  simp [Addr.add, h]
theorem atoms_open {w : World} {v : Value} {l : List Venn.Atom} (h : IsAtoms w v l) : ∃ A c p, v = .slice A p.length c ∧ p.map (fun x : AV => x.1) = l ∧ Rd w A (aCells p) ∧ AOk w p ∧ p.length ≤ c ∧ c ≤ maxLen := by
  obtain ⟨A, c, rfl, hr, h1, h2⟩ := h
  have hx : ∀ k : Nat, ∃ q : Value × Value, ∀ a, l[k]? = some a → ∃ ad, A = some ad ∧ w.cell? (ad.add (k * 4)) = some (.int .i64 a.what) ∧ w.cell? ⟨(ad.add (k * 4)).block, (ad.add (k * 4)).off + 1, none⟩ = some q.1 ∧
      w.cell? ⟨(ad.add (k * 4)).block, (ad.add (k * 4)).off + 2, none⟩ = some q.2 ∧ w.cell? ⟨(ad.add (k * 4)).block, (ad.add (k * 4)).off + 3, none⟩ = some (.int .i64 a.n) ∧ IsInts w q.1 a.s ∧ IsInts w q.2 a.t := by
    intro k
    cases hk : l[k]? with
    | none => exact ⟨(default, default), fun a h => by cases h⟩
    | some a =>
      obtain ⟨ad, sv, tv, h⟩ := hr k a hk
      exact ⟨(sv, tv), fun b hb => by cases hb; exact ⟨ad, h⟩⟩
  obtain ⟨f, hf⟩ := Classical.axiomOfChoice hx
  have hlen : ((List.range l.length).map fun k => ((((l[k]?).getD ⟨0, [], [], 0⟩ : Venn.Atom), f k) : AV)).length = l.length := by simp
  have hget : ∀ k x, ((List.range l.length).map fun k => ((((l[k]?).getD ⟨0, [], [], 0⟩ : Venn.Atom), f k) : AV))[k]? = some x → l[k]? = some x.1 ∧ x.2 = f k := by
    intro k x h
    rw [List.getElem?_map] at h
    obtain ⟨i, hi, rfl⟩ := Option.map_eq_some_iff.1 h
    have := List.getElem?_eq_some_iff.1 hi
    simp at this
    obtain ⟨h3, rfl⟩ := this
    simp [h3]
  refine ⟨A, c, (List.range l.length).map fun k => ((((l[k]?).getD ⟨0, [], [], 0⟩ : Venn.Atom), f k) : AV), by rw [hlen], ?_, ?_, ?_, by rw [hlen]; exact h1, h2⟩
  · refine List.ext_getElem? fun k => ?_
    by_cases hk : k < l.length
    · simp [hk]
    · rw [List.getElem?_eq_none (by simp; omega), List.getElem?_eq_none (by omega)]
  · intro j u hj
    have hjl := (List.getElem?_eq_some_iff.1 hj).1
    rw [aCells_len, hlen] at hjl
    have hk : ((List.range l.length).map fun k => ((((l[k]?).getD ⟨0, [], [], 0⟩ : Venn.Atom), f k) : AV))[j / 4]? = some ((l[j / 4]?).getD ⟨0, [], [], 0⟩, f (j / 4)) := by
      rw [List.getElem?_map, List.getElem?_range (by omega)]; rfl
    obtain ⟨c0, c1, c2, c3⟩ := aCells_at _ _ _ hk
    obtain ⟨e1, e2⟩ := hget _ _ hk
    obtain ⟨ad, e, h0, g1, g2, g3, _⟩ := hf (j / 4) _ e1
    refine ⟨ad, e, ?_⟩
    rcases (by omega : j = j / 4 * 4 ∨ j = j / 4 * 4 + 1 ∨ j = j / 4 * 4 + 2 ∨ j = j / 4 * 4 + 3) with hh | hh | hh | hh
    · rw [hh] at hj ⊢; rw [c0] at hj; cases hj; exact h0
    · rw [hh] at hj ⊢; rw [c1] at hj; cases hj; rw [adr_add _ _ _ (by decide)]; exact g1
    · rw [hh] at hj ⊢; rw [c2] at hj; cases hj; rw [adr_add _ _ _ (by decide)]; exact g2
    · rw [hh] at hj ⊢; rw [c3] at hj; cases hj; rw [adr_add _ _ _ (by decide)]; exact g3
  · intro x hx
    obtain ⟨k, hk, he⟩ := List.getElem_of_mem hx
    obtain ⟨e1, e2⟩ := hget k x (by rw [List.getElem?_eq_getElem hk, he])
    obtain ⟨ad, e, _, _, _, _, hs, ht⟩ := hf k _ e1
    rw [e2]
    exact ⟨hs, ht⟩
theorem atoms_close {w : World} {A : Option Addr} {c : Nat} {p : List AV} (hr : Rd w A (aCells p)) (hp : AOk w p) (h1 : p.length ≤ c) (h2 : c ≤ maxLen) : IsAtoms w (.slice A p.length c) (p.map (fun x : AV => x.1)) := by
  refine ⟨A, c, by simp, fun k a hk => ?_, by simpa using h1, h2⟩
  rw [List.getElem?_map] at hk
  obtain ⟨x, hx, rfl⟩ := Option.map_eq_some_iff.1 hk
  obtain ⟨c0, c1, c2, c3⟩ := aCells_at p k x hx
  obtain ⟨ad, rfl, g0⟩ := hr _ _ c0
  obtain ⟨ad1, e1, g1⟩ := hr _ _ c1
  obtain ⟨ad2, e2, g2⟩ := hr _ _ c2
  obtain ⟨ad3, e3, g3⟩ := hr _ _ c3
  cases e1; cases e2; cases e3
  rw [adr_add _ _ _ (by decide)] at g1 g2 g3
  obtain ⟨hs, ht⟩ := hp x (List.mem_of_getElem? hx)
  exact ⟨ad, _, _, rfl, g0, g1, g2, g3, hs, ht⟩
theorem atoms_of_own {w : World} {base : Nat} {e : TypeId} {v : Value} {n : Nat} {p : List AV} (h : w.ownsRow base e 4 v n (aCells p)) (hp : AOk w p) : IsAtoms w v (p.map (fun x : AV => x.1)) := by
  have hn : n = p.length := by have := h.1; rw [aCells_len] at this; omega
  subst hn
  rcases h.2 with ⟨rfl, hl⟩ | ⟨g, cap, cur, rfl, _, hh, hnc, hcm, hcs, ht⟩
  · have : p = [] := List.eq_nil_of_length_eq_zero hl
    subst this
    exact IsAtoms.nil _
  · exact atoms_close (fun j u hj => ⟨_, rfl, h.cells (g := g) rfl j u hj⟩) hp hnc hcm

/-! ### what lies out of some blocks -/
theorem cell_but {C : Nat → Prop} {w w' : World} (hb : But C w w') {a : Addr} {v : Value} (h : w.cell? a = some v) (hc : ¬ C a.block) : w'.cell? a = some v :=
  (World.cell?_of_block (hb.block a.block (cell_lt h) hc)).trans h
theorem IsInts.but {C : Nat → Prop} {w w' : World} {v : Value} {l : List Int} (h : IsInts w v l) (hb : But C w w') (hc : ∀ b, v.ownBlock = some b → ¬ C b) : IsInts w' v l := by
  obtain ⟨A, c, rfl, hr, h1, h2⟩ := h
  refine ⟨A, c, rfl, fun j u hj => ?_, h1, h2⟩
  obtain ⟨ad, rfl, hcell⟩ := hr j u hj
  exact ⟨ad, rfl, cell_but hb hcell (by rw [block_of_add]; exact hc _ rfl)⟩
theorem But.of_grown {w w' : World} {row : Option Nat} (h : w.grownBy w' row) : But (fun b => row = some b) w w' :=
  ⟨h.os, h.tape, h.output, h.size, fun k hk hc => h.block k hk (fun e => hc e.symm)⟩
theorem But.wide {C D : Nat → Prop} {w w' : World} (h : But C w w') (hcd : ∀ b, C b → D b) : But D w w' := ⟨h.os, h.tape, h.output, h.size, fun k hk hc => h.block k hk (fun e => hc (hcd _ e))⟩
theorem AOk.but {C : Nat → Prop} {w w' : World} {p : List AV} (h : AOk w p) (hb : But C w w') (hc : ∀ x ∈ p, ∀ b, (x.2.1.ownBlock = some b ∨ x.2.2.ownBlock = some b) → ¬ C b) : AOk w' p :=
  fun x hx => ⟨(h x hx).1.but hb fun b e => hc x hx b (.inl e), (h x hx).2.but hb fun b e => hc x hx b (.inr e)⟩
theorem own_but {C : Nat → Prop} {w w' : World} {base : Nat} {e : TypeId} {size : Nat} {v : Value} {n : Nat} {xs : List Value} (h : w.ownsRow base e size v n xs) (hb : But C w w') (hc : ∀ b, v.ownBlock = some b → ¬ C b) : w'.ownsRow base e size v n xs := by
  refine ⟨h.1, ?_⟩
  rcases h.2 with hn | ⟨g, cap, cur, rfl, hbb, hgg, rest⟩
  · exact .inl hn
  · exact .inr ⟨g, cap, cur, rfl, hbb, (hb.block g (Array.getElem?_eq_some_iff.1 hgg).1 (hc g rfl)).trans hgg, rest⟩
theorem own_below {w w' : World} {base : Nat} {e : TypeId} {size : Nat} {v : Value} {n : Nat} {xs : List Value} (h : w.ownsRow base e size v n xs) (hb : Below w.heap.size w w') : w'.ownsRow base e size v n xs :=
  own_but h (But.of_below (C := fun _ => False) hb) (fun _ _ h => h)
theorem own_base {w : World} {base base' : Nat} {e : TypeId} {size : Nat} {v : Value} {n : Nat} {xs : List Value} (h : w.ownsRow base e size v n xs) (hb : base' ≤ base) : w.ownsRow base' e size v n xs := by
  refine ⟨h.1, ?_⟩
  rcases h.2 with hn | ⟨g, cap, cur, rfl, hbb, rest⟩
  · exact .inl hn
  · exact .inr ⟨g, cap, cur, rfl, by omega, rest⟩

/-! ### slices.Clone at atoms -/
theorem atom_info : (Tryz.prog.info? 32).map (fun i => (i.zero, i.size, i.bytes)) = some (some (.agg #[.int .i64 0, .slice none 0 0, .slice none 0 0, .int .i64 0]), 4, 64) := by kernel_rfl
def CloneAPost (p : List AV) (w : World) (e : Ending) (w' : World) : Prop := ∃ v', e = .returned v' ∧ Below w.heap.size w w' ∧ w'.ownsRow w.heap.size 32 4 v' p.length (aCells p)
set_option maxRecDepth 100000 in
theorem wpList_appA {ops : Array Oper} {rest : List Oper} {o : Oper} {a : Act} {Q : Exit → Act → World → Prop} (w : World) (hgd : o.guard = none) (s x : Operand)
    (ho : o.op = .call { callee := .builtin .append, args := #[s, x], argTypes := #[22, 22] })
    (base : Nat) (v : Value) (n : Nat) (xs : List Value) (hs : a.eval s = v) (hown : w.ownsRow base 32 4 v n xs)
    (ad : Addr) (c : Nat) (p : List AV) (hx : a.eval x = .slice (some ad) p.length c) (hr : Rd w (some ad) (aCells p)) (hp : AOk w p) (hn : n + p.length ≤ 1000) (hbase : base ≤ w.heap.size)
    (h : ∀ v' w', w'.ownsRow base 32 4 v' (n + p.length) (xs ++ aCells p) → w.grownBy w' v.ownBlock → wpList Tryz.prog ops Q rest (a.put o.dst v') w') : wpList Tryz.prog ops Q (o :: rest) a w := by
  obtain ⟨i0, hi, hz0, hz1, hz2⟩ := info_parts atom_info
  refine wpList_append_own w hgd s x _ ho base _ i0 _ 4 64 Tryz.underlying22 hi hz0 hz1 hz2 rfl (by decide) v n xs hs hown ad p.length c (aCells p) hx (aCells_len p) ?_ (aCells_one hp) (by unfold maxLen; omega) (by omega) hbase (fun v' w' h1 h2 _ => h v' w' h1 h2)
  intro j u hj
  obtain ⟨ad', e, hc⟩ := hr j u hj
  cases e
  exact hc
set_option maxHeartbeats 1000000 in
set_option maxRecDepth 100000 in
theorem clone_atoms (ad : Addr) (c : Nat) (p : List AV) (w : World) (hr : Rd w (some ad) (aCells p)) (hp : AOk w p) (hl : p.length ≤ 100) : Calls Tryz.prog 60 #[.slice (some ad) p.length c] w (CloneAPost p w) := by
  have hown : (w.alloc (.cells #[] 32)).ownsRow w.heap.size 32 4 (.slice (some ⟨w.heap.size, 0, none⟩) 0 0) 0 [] :=
    ⟨rfl, .inr ⟨w.heap.size, 0, #[], rfl, Nat.le_refl _, Blk.new w 32 #[], Nat.le_refl _, by simp [maxLen], rfl, rfl⟩⟩
  have hr2 : Rd (w.alloc (.cells #[] 32)) (some ad) (aCells p) := hr.keep (by (repeat' (first | (with_reducible exact Below.refl _ _) | (with_reducible assumption) | (with_reducible refine Below.next ?_ (by with_reducible assumption)) | (with_reducible refine Below.drew ?_) | (with_reducible refine Below.laid ?_ _) | (with_reducible refine Below.setCell ?_ ?_ _) | (with_reducible refine size_of ?_) | (with_reducible refine Nat.le_succ_of_le ?_) | go_size)))
  have hp2 : AOk (w.alloc (.cells #[] 32)) p := hp.keep (by (repeat' (first | (with_reducible exact Below.refl _ _) | (with_reducible assumption) | (with_reducible refine Below.next ?_ (by with_reducible assumption)) | (with_reducible refine Below.drew ?_) | (with_reducible refine Below.laid ?_ _) | (with_reducible refine Below.setCell ?_ ?_ _) | (with_reducible refine size_of ?_) | (with_reducible refine Nat.le_succ_of_le ?_) | go_size)))
  have q38 : ∀ (w : World) (a : Option Addr) (n c n' c' : Nat), (binOp .eql 22 (.slice a n c) (.slice none n' c')).run Tryz.prog w = .ok (.bool a.isNone) w := fun w a n c n' c' => Lib.run_eql_slice_nil w _ _ a n c n' c' Tryz.underlying22
  go_enter Tryz.func60, Tryz.ntmps60
  go_wp2_with (at_builtin; refine wpList_appA _ rfl _ _ rfl w.heap.size _ _ _ rfl hown ad c p rfl hr2 hp2 (by omega) (by simp) ?_)
  intro v' w1 hown' hg'
  go_wp2
  go_ret
  refine ⟨v', rfl, ?_, by simpa using hown'⟩
  exact ((Below.refl _ w).alloc (Nat.le_refl _) (.cells #[] 32)).grown hg' (by simp) (fun g hg => by simp [Value.ownBlock] at hg; omega)
end Go.Proofs.YtjnjgcibhjdmdaaGreatDoor
