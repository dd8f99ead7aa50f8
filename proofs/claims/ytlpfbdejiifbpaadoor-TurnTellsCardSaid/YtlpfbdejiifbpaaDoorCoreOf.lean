/-
  THE WALK of core.Of.
-/
import Derived.Test.YtlpfbdejiifbpaaDoorDelete
import Derived.Test.YtlpfbdejiifbpaaDoorCoreSome
import Derived.Test.YtlpfbdejiifbpaaDoorOwn
import Derived.Maps.AppendAt
namespace Go.Proofs.YtlpfbdejiifbpaaDoor
open Go.RowKit

/-- append(row, y), and where the row lies then. -/
theorem wpList_app1_at {ops : Array Oper} {rest : List Oper} {o : Oper} {a : Act} {Q : Exit → Act → World → Prop} (w : World) (hgd : o.guard = none) (s x : Operand)
    (ho : o.op = .call { callee := .builtin .append, args := #[s, x], argTypes := #[23, 23] })
    (base : Nat) (v : Value) (n : Nat) (xs : List Value) (hs : a.eval s = v) (hown : w.ownsRow base 3 1 v n xs)
    (g c : Nat) (y : Int) (hx : a.eval x = .slice (some ⟨g, 0, none⟩) 1 c) (hy : w.cell? ⟨g, 0, none⟩ = some (.int .i64 y)) (hn : n < 1099511627776) (hbase : base ≤ w.heap.size)
    (h : ∀ v' w', w'.ownsRow base 3 1 v' (n + 1) (xs ++ [.int .i64 y]) → w.grownBy w' v.ownBlock → (v'.ownBlock = v.ownBlock ∨ v'.ownBlock = some w.heap.size) → wpList Tryd.prog ops Q rest (a.put o.dst v') w') : wpList Tryd.prog ops Q (o :: rest) a w := by
  obtain ⟨i0, hi, hz0, hz1, hz2⟩ := info_parts int_info
  refine wpList_append_own_at w hgd s x _ ho base _ i0 _ 1 8 Tryd.underlying23 hi hz0 hz1 hz2 rfl (by decide) v n xs hs hown ⟨g, 0, none⟩ 1 c [.int .i64 y] hx rfl ?_ ?_ (by unfold maxLen; omega) (by omega) hbase (fun v' w' h1 h2 _ h4 => h v' w' h1 h2 h4)
  · intro j u hj
    match j, hj with
    | 0, hj => simp at hj; subst hj; simpa [Addr.add] using hy
  · intro u hu; simp at hu; subst hu; rfl
theorem rd_of_blk {w : World} {g : Nat} {t : TypeId} {cur : Array Value} {n : Nat} {xs : List Value} (h : Blk w g t cur) (ht : cur.toList.take n = xs) : Rd w (some ⟨g, 0, none⟩) xs := by
  intro j u hj
  refine ⟨_, rfl, ?_⟩
  have hadd : (⟨g, 0, none⟩ : Addr).add j = ⟨g, j, none⟩ := by unfold Addr.add; split <;> simp_all
  rw [hadd, h.cell]
  rw [← ht, List.getElem?_take] at hj
  split at hj
  · simpa using hj
  · cases hj
theorem map_erase {α β : Type} (f : α → β) : ∀ (l : List α) (k : Nat), (l.eraseIdx k).map f = (l.map f).eraseIdx k := by
  intro l
  induction l with
  | nil => intro k; rfl
  | cons x l ih => intro k; cases k <;> simp [ih]

/-- The loop's state: what is left, and what was found. -/
structure CoreAt (w wr : World) (p q : List FV) (gl cl : Nat) (o : Value) (out : List Int) : Prop where
  below : Below w.heap.size w wr
  rd : Rd wr (some ⟨gl, 0, none⟩) (fCells q)
  lo : w.heap.size ≤ gl
  lt : gl < wr.heap.size
  sub : ∀ x ∈ q, x ∈ p
  cap : q.length ≤ cl ∧ cl ≤ maxLen
  own : wr.ownsRow w.heap.size 3 1 o out.length (out.map (Value.int .i64))
  ne : o.ownBlock ≠ some gl
def CorePost (ls : List Venn.Form) (u : Int) (w : World) (e : Ending) (w' : World) : Prop :=
  ∃ v, e = .returned (.tuple #[v, errV (Venn.coreErr ls u)]) ∧ Below w.heap.size w w' ∧ IsInts w' v (Venn.coreV ls u)

end Go.Proofs.YtlpfbdejiifbpaaDoor
