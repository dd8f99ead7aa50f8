/-
  THE LAW OF 'for x := range seq', where the iterator keeps its state in cells of its own: the iterator's contract (SeqRuns) and the statement's law.
  THE WALKS of fit.All and of the iterator that it gives.
  THE WALK of fit.First.
-/
import Derived.Test.YtjnjgcibhjdmdaaGreatDoorMem
import Derived.RangeFuncNested
import Derived.RangeFuncBound
import Derived.RangeFuncCalls
import Derived.RangeFuncLeaves
import Derived.Test.YtjnjgcibhjdmdaaGreatDoorRowG
import Derived.Shelf.Abstract
import Derived.Shelf.RegionOpen
import Derived.OwnWalkIn
import Derived.TacticsInMore
import Derived.LoopNIn
import Derived.LoopIn
namespace Go.Proofs.YtjnjgcibhjdmdaaGreatDoor
open Go.RowKit

theorem size_putObj (W : World) (l : Nat) (o : Obj) : (W.putObj l o).heap.size = W.heap.size := by simp [World.putObj]
/-- I speaks of nothing but what lies below B. -/
def OnlyBelow {σ : Type} (B : Nat) (I : σ → World → Prop) : Prop := ∀ s X Y, Below B X Y → I s X → I s Y

/-- But for the blocks of C, what lay lies as it lay. -/
structure But (C : Nat → Prop) (X Y : World) : Prop where
  os : Y.os = X.os
  tape : Y.tape = X.tape
  output : Y.output = X.output
  size : X.heap.size ≤ Y.heap.size
  block : ∀ k, k < X.heap.size → ¬ C k → Y.heap[k]? = X.heap[k]?
theorem But.refl (C : Nat → Prop) (X : World) : But C X X := ⟨rfl, rfl, rfl, Nat.le_refl _, fun _ _ _ => rfl⟩
theorem But.trans {C : Nat → Prop} {X Y Z : World} (h : But C X Y) (k : But C Y Z) : But C X Z :=
  ⟨k.os.trans h.os, k.tape.trans h.tape, k.output.trans h.output, Nat.le_trans h.size k.size, fun i hi hc => (k.block i (Nat.lt_of_lt_of_le hi h.size) hc).trans (h.block i hi hc)⟩
theorem But.of_below {C : Nat → Prop} {X Y : World} (h : Below X.heap.size X Y) : But C X Y := ⟨h.os, h.tape, h.output, h.size, fun k hk _ => h.block k hk⟩
theorem But.below {C : Nat → Prop} {B : Nat} {X Y : World} (h : But C X Y) (hB : B ≤ X.heap.size) (hC : ∀ b, C b → B ≤ b) : Below B X Y :=
  ⟨h.os, h.tape, h.output, h.size, fun k hk => h.block k (Nat.lt_of_lt_of_le hk hB) (fun hc => by have := hC k hc; omega)⟩
theorem But.set_ {C : Nat → Prop} {X Y : World} (h : But C X Y) {p : Addr} (hp : C p.block) (v : Value) : But C X (Y.setCell p v) :=
  ⟨h.os, h.tape, h.output, by simpa using h.size, fun k hk hc => (Below.heap_setCell Y p v k (fun e => hc (e ▸ hp))).trans (h.block k hk hc)⟩
theorem But.put {C : Nat → Prop} {X Y : World} (h : But C X Y) {l : Nat} (hl : X.heap.size ≤ l) (o : Obj) : But C X (Y.putObj l o) :=
  ⟨h.os, h.tape, h.output, by rw [size_putObj]; exact h.size, fun k hk hc => (World.putObj_heap_other (by omega)).trans (h.block k hk hc)⟩
theorem But.drew {C : Nat → Prop} {X Y : World} (h : But C X Y) : But C X Y.drew := ⟨h.os, h.tape, h.output, h.size, h.block⟩
theorem But.alloc {C : Nat → Prop} {X Y : World} (h : But C X Y) (o : Obj) : But C X (Y.alloc o) :=
  h.trans (But.of_below ((Below.refl _ _).alloc (Nat.le_refl _) o))
theorem But.next {C : Nat → Prop} {X Y Z : World} (h : But C X Y) (k : Below Y.heap.size Y Z) : But C X Z := h.trans (But.of_below k)
theorem Blk.but {C : Nat → Prop} {X Y : World} {g : Nat} {t : TypeId} {cs : Array Value} (h : Blk X g t cs) (hb : But C X Y) (hg : ¬ C g) : Blk Y g t cs := (hb.block g h.lt hg).trans h

/-- What a round keeps for the iterator: the blocks from m on. -/
structure FromM (m : Nat) (X Y : World) : Prop where
  size : X.heap.size ≤ Y.heap.size
  block : ∀ k, m ≤ k → k < X.heap.size → Y.heap[k]? = X.heap[k]?
theorem Blk.fromM {m : Nat} {X Y : World} {g : Nat} {t : TypeId} {cs : Array Value} (h : Blk X g t cs) (hb : FromM m X Y) (hg : m ≤ g) : Blk Y g t cs := (hb.block g hg h.lt).trans h

/-- THE ITERATOR's CONTRACT: called with yield it hands over xs, one behind the other, till a round says 'no more'. -/
def SeqRuns {α : Type} (F : Fence) (n : Nat) (P : Program) (g : Nat) (lb : Array Value) (encs : α → Array Value) (xs : List α) (w : World) : Prop :=
  ∀ (l : Nat) (J Jx : List α → World → Prop) (W : World), Below w.heap.size w W → OnlyBelow W.heap.size J → OnlyBelow W.heap.size Jx →
    (∀ pre x rest W1, xs = pre ++ x :: rest → W.heap.size ≤ W1.heap.size → J pre W1 → YieldAt F (n - 1) P l (encs x) W1 fun e W' =>
      (e = .returned (.bool true) ∧ J (pre ++ [x]) W' ∧ FromM W.heap.size W1 W') ∨ (e = .returned (.bool false) ∧ Jx (pre ++ [x]) W')) →
    J [] W →
    CallsIn F n P g (#[.func (.yield l) #[] #[]] ++ lb) W fun e W' => (∃ v, e = .returned v) ∧ (J xs W' ∨ ∃ pre x rest, xs = pre ++ x :: rest ∧ Jx (pre ++ [x]) W')

/-- How the body of a round may be left. -/
def roundP {α : Type} (C : Nat → Prop) (I : List α → World → Prop) (Ix : Code → List α → World → Prop) (ys : List α) (W : World) : Exit → Act → World → Prop
  | .normal, _, W' => But C W W' ∧ I ys W'
  | .ret, _, W' => But C W W' ∧ Ix .ret ys W'
  | .exit id, _, W' => But C W W' ∧ Ix (.exit id) ys W'
  | .goto t, _, W' => But C W W' ∧ Ix (.goto t) ys W'
  | .panic _, _, _ => False
  | .outgrown, _, _ => False

variable {F : Fence} {n : Nat} {P : Program}

/-- The round as ONE walk: the assignment, then the body in any world that keeps the promises. -/
theorem wpIn_rangeRuns2 {α : Type} {g : Operand} {ps : Array Tmp} {assign body : Code} {Q : Exit → Act → World → Prop} {a : Act} {w : World}
    (hro : F.round = none) (h1 : 1 ≤ n) {gf : Nat} {lb : Array Value} (hg : a.eval g = .func (.func gf) #[] lb) (hFg : F.fn gf) (eg : ∀ args w, (callFunc gf args).run P w = .ok (.enter gf args) w)
    {encs : α → Array Value} {xs : List α} {w0 : World} (hseq : SeqRuns F (n - 1) P gf lb encs xs w0) (hb0 : Below w0.heap.size w0 w) (hps : ∀ x, (encs x).size = ps.size)
    (C : Nat → Prop) (hC : ∀ b, C b → b < w.heap.size)
    (I : List α → World → Prop) (Ix : Code → List α → World → Prop) (hI : OnlyBelow w.heap.size I) (hIx : ∀ c, OnlyBelow w.heap.size (Ix c)) (h0 : I [] w)
    (t : TypeId) (cs : α → Array Value)
    (hround : ∀ (l : Nat) (pre : List α) (x : α) (rest : List α) (W : World), xs = pre ++ x :: rest →
      assign.wpIn (F.inRound l) (n - 1 - 1) P (Exit.then (fun a1 W1 => W1 = W.alloc (.cells (cs x) t) ∧ ∀ W2, But C w W2 → I pre W2 → Blk W2 W.heap.size t (cs x) → w.heap.size < W.heap.size →
        body.wpIn (F.inRound l) (n - 1 - 1) P (roundP C I Ix (pre ++ [x]) W2) a1 W2) (fun _ _ _ => False)) { tmps := (ps.zip (encs x)).foldl (fun t (p, v) => t.setIfInBounds p v) a.tmps, defers := [] } W)
    (hdone : ∀ (D : Nat) (W : World), w.heap.size ≤ D → But C w W → I xs W → W.heap[D]? = some (.deferred (some [])) → Q .normal { a with defers := { target := .collected D, args := #[] } :: a.defers } W)
    (hstop : ∀ (D : Nat) (c : Code) (pre : List α) (x : α) (rest : List α) (W : World), w.heap.size ≤ D → xs = pre ++ x :: rest → But C w W → Ix c (pre ++ [x]) W → W.heap[D]? = some (.deferred (some [])) → c.wpIn F n P Q { a with defers := { target := .collected D, args := #[] } :: a.defers } W) :
    (Code.rangeFunc g ps assign body).wpIn F n P Q a w := by
  refine wpIn_rangeFunc ?_
  intro fn hfn
  rw [hro]
  obtain ⟨rec, hrec⟩ : ∃ rec : LoopState → Option Code → Loop, rec = fun st pe => { state := st, pending := pe, fn, tmps := a.tmps, params := ps, assign, body, defers := w.heap.size } := ⟨_, rfl⟩
  obtain ⟨W1, hW1⟩ : ∃ W1, (w.alloc (.deferred (some []))).alloc (.loop (rec .ready none)) = W1 := ⟨_, rfl⟩
  have hL1 : W1.heap[w.heap.size + 1]? = some (.loop (rec .ready none)) := by
    rw [← hW1]; have := World.alloc_heap_new (w.alloc (.deferred (some []))) (.loop (rec .ready none)); rwa [World.size_alloc] at this
  have hK1 : W1.heap[w.heap.size]? = some (.deferred (some [])) := by
    rw [← hW1]; exact (Below.heap_alloc _ _ _ (by simp)).trans (World.alloc_heap_new w _)
  have hwW : Below w.heap.size w W1 := by rw [← hW1]; exact ((Below.refl _ w).alloc (Nat.le_refl _) _).alloc (by simp) _
  have hs1 : W1.heap.size = w.heap.size + 2 := by rw [← hW1]; simp
  have hI1 : I [] W1 := hI _ _ _ hwW h0
  have hb1 : Below w0.heap.size w0 W1 := hb0.trans (hwW.mono hb0.size)
  have hput : ∀ (o : Obj) (W : World), Below w.heap.size W (W.putObj (w.heap.size + 1) o) := fun o W => ⟨rfl, rfl, rfl, Nat.le_of_eq (size_putObj _ _ _).symm, fun k hk => World.putObj_heap_other (by omega)⟩
  refine ⟨w.heap.size + 1, [{ target := .collected w.heap.size, args := #[] }], W1, { target := .fn (.func gf) lb, args := #[.func (.yield (w.heap.size + 1)) #[] #[]] }, W1, gf,
    #[.func (.yield (w.heap.size + 1)) #[] #[]] ++ lb, W1, ?_, ?_, ?_, ?_, fun _ => h1, ?_⟩
  · rw [← hW1, hrec]; exact run_enterLoop_outer _ _ _ _ _
  · simp only [resolve, hg]
    simp [go_sem]
  · intro f' hf'; simp [Target.leads] at hf'; subst hf'; exact hFg
  · simp [invoke, go_sem, eg]
  · refine (hseq (w.heap.size + 1)
      (fun pre W => (But C w W ∧ I pre W) ∧ W.heap[w.heap.size + 1]? = some (.loop (rec .ready none)) ∧ W.heap[w.heap.size]? = some (.deferred (some [])))
      (fun pre W => ∃ c, (But C w W ∧ Ix c pre W) ∧ W.heap[w.heap.size + 1]? = some (.loop (rec .done (some c))) ∧ W.heap[w.heap.size]? = some (.deferred (some [])))
      W1 hb1 ?_ ?_ ?_ ⟨⟨But.of_below hwW, hI1⟩, hL1, hK1⟩).mono ?_
    · rintro s X Y hb ⟨⟨hk, hi⟩, hl, hd⟩
      rw [hs1] at hb
      exact ⟨⟨⟨hb.os.trans hk.os, hb.tape.trans hk.tape, hb.output.trans hk.output, Nat.le_trans hk.size hb.size, fun k hk' hc => (hb.block k (by omega)).trans (hk.block k hk' hc)⟩, hI _ _ _ (hb.mono (by omega)) hi⟩,
        (hb.block _ (by omega)).trans hl, (hb.block _ (by omega)).trans hd⟩
    · rintro s X Y hb ⟨c, ⟨hk, hi⟩, hl, hd⟩
      rw [hs1] at hb
      exact ⟨c, ⟨⟨hb.os.trans hk.os, hb.tape.trans hk.tape, hb.output.trans hk.output, Nat.le_trans hk.size hb.size, fun k hk' hc => (hb.block k (by omega)).trans (hk.block k hk' hc)⟩, hIx _ _ _ _ (hb.mono (by omega)) hi⟩,
        (hb.block _ (by omega)).trans hl, (hb.block _ (by omega)).trans hd⟩
    · -- ONE ROUND
      rintro pre x rest W hxs hsz ⟨⟨hbk, hi⟩, hl, hk⟩
      have hlt : w.heap.size + 1 < W.heap.size := by omega
      have hy := run_yield (P := P) (args := encs x) hl (by rw [hrec]; exact hps x)
      rw [hrec] at hy
      refine ⟨fn, _, assign, body, hy, roundIn_of_wpIn hfn (wpIn_mono (hround _ pre x rest W hxs) ?_)⟩
      clear hy
      rintro e a1 Wa h1
      cases e with
      | ret => exact h1.elim
      | exit id => exact h1.elim
      | goto t => exact h1.elim
      | panic ch => exact h1.elim
      | outgrown => exact h1.elim
      | normal =>
      obtain ⟨rfl, hbody⟩ := h1
      have hA : Below W.heap.size W (W.alloc (.cells (cs x) t)) := (Below.refl _ W).alloc (Nat.le_refl _) _
      have hBx : Blk (W.alloc (.cells (cs x) t)) W.heap.size t (cs x) := Blk.new W t (cs x)
      have hszA : (W.alloc (.cells (cs x) t)).heap.size = W.heap.size + 1 := by simp
      generalize W.alloc (.cells (cs x) t) = Wa at hA hBx hszA
      have hla : Wa.heap[w.heap.size + 1]? = some (.loop (rec .ready none)) := (hA.block _ hlt).trans hl
      have hka : Wa.heap[w.heap.size]? = some (.deferred (some [])) := (hA.block _ (by omega)).trans hk
      refine ⟨_, run_beginRound hla (by rw [hrec]), ?_⟩
      have hl2 : (Wa.putObj (w.heap.size + 1) (.loop { rec .ready none with state := .busy })).heap[w.heap.size + 1]? = some (.loop { rec .ready none with state := .busy }) := World.putObj_heap_same (by omega)
      have hk2 : (Wa.putObj (w.heap.size + 1) (.loop { rec .ready none with state := .busy })).heap[w.heap.size]? = some (.deferred (some [])) := (World.putObj_heap_other (by omega)).trans hka
      have hbx2 : Blk (Wa.putObj (w.heap.size + 1) (.loop { rec .ready none with state := .busy })) W.heap.size t (cs x) := (World.putObj_heap_other (by omega)).trans hBx
      have hsz2 : (Wa.putObj (w.heap.size + 1) (.loop { rec .ready none with state := .busy })).heap.size = W.heap.size + 1 := by rw [size_putObj]; exact hszA
      have hW2 : ∀ k, k < W.heap.size → k ≠ w.heap.size + 1 → (Wa.putObj (w.heap.size + 1) (.loop { rec .ready none with state := .busy })).heap[k]? = W.heap[k]? := fun k hk hne => (World.putObj_heap_other (by omega)).trans (hA.block k hk)
      have hbw2 : Below w.heap.size W (Wa.putObj (w.heap.size + 1) (.loop { rec .ready none with state := .busy })) := (hA.mono (by omega)).trans (hput _ _)
      have hb2 := (hbk.trans (But.of_below hA)).put (l := w.heap.size + 1) (by omega) (.loop { rec .ready none with state := .busy })
      refine wpIn_mono (hbody _ hb2 (hI _ _ _ hbw2 hi) hbx2 (by omega)) ?_
      have hnC : ∀ b, w.heap.size ≤ b → ¬ C b := fun b hb hc => by have := hC b hc; omega
      have fin : ∀ (jump : Option Code) (W3 : World), But C (Wa.putObj (w.heap.size + 1) (.loop { rec .ready none with state := .busy })) W3 →
          (Instr.endRound (w.heap.size + 1) jump).run P W3 = .ok (.bool jump.isNone) (W3.putObj (w.heap.size + 1) (.loop (rec (if jump.isNone then .ready else .done) jump))) ∧
          (W3.putObj (w.heap.size + 1) (.loop (rec (if jump.isNone then .ready else .done) jump))).heap[w.heap.size + 1]? = some (.loop (rec (if jump.isNone then .ready else .done) jump)) ∧
          (W3.putObj (w.heap.size + 1) (.loop (rec (if jump.isNone then .ready else .done) jump))).heap[w.heap.size]? = some (.deferred (some [])) := fun jump W3 hk3 => by
        have hl3 := (hk3.block _ (by omega) (hnC _ (by omega))).trans hl2
        have hk3' := (hk3.block w.heap.size (by omega) (hnC _ (by omega))).trans hk2
        have := run_endRound (P := P) jump hl3
        rw [hrec] at this ⊢
        exact ⟨this, World.putObj_heap_same (Array.getElem?_eq_some_iff.1 hl3).1, (World.putObj_heap_other (by omega)).trans hk3'⟩
      rintro e a3 W3 hp
      cases e with
      | normal =>
        obtain ⟨hk3, hi3⟩ := hp
        obtain ⟨hr, hl4, hk4⟩ := fin none W3 hk3
        refine ⟨_, _, hr, .inl ⟨rfl, ⟨⟨(hb2.trans hk3).put (by omega) _, hI _ _ _ (hput _ _) hi3⟩, hl4, hk4⟩, ?_, fun k hk' hk2' => ?_⟩⟩
        · have h3 := hk3.size
          rw [hsz2] at h3
          rw [size_putObj]; omega
        · rw [World.putObj_heap_other (by omega), hk3.block k (by rw [hsz2]; omega) (hnC k (by omega)), hW2 k hk2' (by omega)]
      | ret =>
        obtain ⟨hk3, hi3⟩ := hp
        obtain ⟨hr, hl4, hk4⟩ := fin (some .ret) W3 hk3
        exact ⟨_, _, hr, .inr ⟨rfl, .ret, ⟨(hb2.trans hk3).put (by omega) _, hIx _ _ _ _ (hput _ _) hi3⟩, hl4, hk4⟩⟩
      | exit id =>
        obtain ⟨hk3, hi3⟩ := hp
        obtain ⟨hr, hl4, hk4⟩ := fin (some (.exit id)) W3 hk3
        exact ⟨_, _, hr, .inr ⟨rfl, .exit id, ⟨(hb2.trans hk3).put (by omega) _, hIx _ _ _ _ (hput _ _) hi3⟩, hl4, hk4⟩⟩
      | goto t =>
        obtain ⟨hk3, hi3⟩ := hp
        obtain ⟨hr, hl4, hk4⟩ := fin (some (.goto t)) W3 hk3
        exact ⟨_, _, hr, .inr ⟨rfl, .goto t, ⟨(hb2.trans hk3).put (by omega) _, hIx _ _ _ _ (hput _ _) hi3⟩, hl4, hk4⟩⟩
      | panic ch => exact hp.elim
      | outgrown => exact hp.elim
    · -- BEHIND THE ITERATOR
      rintro e W2 ⟨⟨v, rfl⟩, (⟨⟨hb, hi⟩, hl, hk⟩ | ⟨pre, x, rest, hxs, c, ⟨hb, hi⟩, hl, hk⟩)⟩
      · exact ⟨none, _, by have := run_endLoop (P := P) hl (by rw [hrec]; simp); rw [hrec] at this; exact this, hdone _ _ (Nat.le_refl _) (hb.put (by omega) _) (hI _ _ _ (hput _ _) hi) ((World.putObj_heap_other (by omega)).trans hk)⟩
      · exact ⟨some c, _, by have := run_endLoop (P := P) hl (by rw [hrec]; simp); rw [hrec] at this; exact this, hstop _ c pre x rest _ (Nat.le_refl _) hxs (hb.put (by omega) _) (hIx _ _ _ _ (hput _ _) hi) ((World.putObj_heap_other (by omega)).trans hk)⟩

theorem wpIn_rangeRuns {α : Type} {g : Operand} {ps : Array Tmp} {assign body : Code} {Q : Exit → Act → World → Prop} {a : Act} {w : World}
    (hro : F.round = none) (h1 : 1 ≤ n) {gf : Nat} {lb : Array Value} (hg : a.eval g = .func (.func gf) #[] lb) (hFg : F.fn gf) (eg : ∀ args w, (callFunc gf args).run P w = .ok (.enter gf args) w)
    {encs : α → Array Value} {xs : List α} {w0 : World} (hseq : SeqRuns F (n - 1) P gf lb encs xs w0) (hb0 : Below w0.heap.size w0 w) (hps : ∀ x, (encs x).size = ps.size)
    (C : Nat → Prop) (hC : ∀ b, C b → b < w.heap.size)
    (I : List α → World → Prop) (Ix : Code → List α → World → Prop) (hI : OnlyBelow w.heap.size I) (hIx : ∀ c, OnlyBelow w.heap.size (Ix c)) (h0 : I [] w)
    (t : TypeId) (cs : α → Array Value) (act : α → Nat → Act)
    (hassign : ∀ (l : Nat) (x : α) (W : World) (K : Act → World → Prop), x ∈ xs → K (act x W.heap.size) (W.alloc (.cells (cs x) t)) →
      assign.wpIn (F.inRound l) (n - 1 - 1) P (Exit.then K (fun _ _ _ => False)) { tmps := (ps.zip (encs x)).foldl (fun t (p, v) => t.setIfInBounds p v) a.tmps, defers := [] } W)
    (hbody : ∀ (l : Nat) (pre : List α) (x : α) (rest : List α) (W : World) (Bx : Nat), xs = pre ++ x :: rest → But C w W → I pre W → Blk W Bx t (cs x) → w.heap.size < Bx →
      body.wpIn (F.inRound l) (n - 1 - 1) P (roundP C I Ix (pre ++ [x]) W) (act x Bx) W)
    (hdone : ∀ (D : Nat) (W : World), w.heap.size ≤ D → But C w W → I xs W → W.heap[D]? = some (.deferred (some [])) → Q .normal { a with defers := { target := .collected D, args := #[] } :: a.defers } W)
    (hstop : ∀ (D : Nat) (c : Code) (pre : List α) (x : α) (rest : List α) (W : World), w.heap.size ≤ D → xs = pre ++ x :: rest → But C w W → Ix c (pre ++ [x]) W → W.heap[D]? = some (.deferred (some [])) → c.wpIn F n P Q { a with defers := { target := .collected D, args := #[] } :: a.defers } W) :
    (Code.rangeFunc g ps assign body).wpIn F n P Q a w :=
  wpIn_rangeRuns2 hro h1 hg hFg eg hseq hb0 hps C hC I Ix hI hIx h0 t cs (fun l pre x rest W hxs =>
    hassign l x W _ (by rw [hxs]; simp) ⟨rfl, fun W2 h1 h2 h3 h4 => hbody l pre x rest W2 W.heap.size hxs h1 h2 h3 h4⟩) hdone hstop

theorem Blk.put {X : World} {g : Nat} {t : TypeId} {cs : Array Value} (h : Blk X g t cs) {D : Nat} (hD : g ≠ D) (o : Obj) : Blk (X.putObj D o) g t cs := (World.putObj_heap_other hD).trans h
theorem def_keep {X : World} {D : Nat} {o : Obj} (h : X.heap[D]? = some o) {p : Addr} (hp : D ≠ p.block) (v : Value) : (X.setCell p v).heap[D]? = some o := (Below.heap_setCell X p v D hp).trans h
/-- It is left ahead of the range. -/
theorem leave_none {fn : Func} {R : Ending → World → Prop} {a : Act} {W : World} {v : Value} (hd : a.defers = []) (hr : (results fn a.tmps).run P W = .ok v W) (hR : R (.returned v) W) : bodyPostM F n P fn R .ret a W := by
  show LeavesInM F n P fn a.tmps R a.defers .returning W
  rw [hd]
  exact ⟨_, hr, hR⟩
/-- A function that holds one range over a function is left: its mark is shut. -/
theorem leave_mark {fn : Func} {R : Ending → World → Prop} {a : Act} {W : World} {D : Nat} {v : Value} (hd : a.defers = [{ target := .collected D, args := #[] }]) (hK : W.heap[D]? = some (.deferred (some [])))
    (hr : (results fn a.tmps).run P (W.putObj D (.deferred none)) = .ok v (W.putObj D (.deferred none))) (hR : R (.returned v) (W.putObj D (.deferred none))) : bodyPostM F n P fn R .ret a W := by
  show LeavesInM F n P fn a.tmps R a.defers .returning W
  rw [hd]
  exact ⟨by simp, .inl ⟨_, _, rfl, run_takeDeferred hK, ⟨_, hr, hR⟩⟩⟩
end Go.Proofs.YtjnjgcibhjdmdaaGreatDoor

namespace Venn
def num : List Int → Int
  | [a0, a1, a2, a3, a4, a5, a6, a7] => a0 * 5764801 + a1 * 823543 + a2 * 117649 + a3 * 16807 + a4 * 2401 + a5 * 343 + a6 * 49 + a7 * 7
  | _ => 0
def rank (x : List Int) : Nat := (100000000 - num x).toNat
end Venn
namespace Go.Proofs.YtjnjgcibhjdmdaaGreatDoor
open Go.RowKit Go.Shelf
attribute [local go_sem] Oper.semAt_some

def intVal : Value → Int
  | .int _ i => i
  | _ => 0
/-- How many counts are left, at most. -/
def leftOf (g : Nat) (i : Value) (W : World) : Nat := match i with
  | .bool true => (match W.heap[g]? with | some (.cells cs _ _) => Venn.rank (cs.toList.map intVal) | _ => 0) + 1
  | _ => 0
theorem map_intVal : ∀ (x : List Int), List.map (intVal ∘ Value.int IntKind.i64) x = x
  | [] => rfl
  | a :: x => by rw [List.map_cons, map_intVal x]; rfl
theorem leftOf_true {g : Nat} {W : World} {t : TypeId} {x : List Int} (h : Blk W g t (x.map (Value.int .i64)).toArray) : leftOf g (.bool true) W = Venn.rank x + 1 := by
  unfold leftOf
  unfold Blk at h
  rw [h]
  simp only [List.map_map]
  have : (List.map (intVal ∘ Value.int IntKind.i64) x) = x := by
    exact map_intVal x
  rw [this]
theorem leftOf_false (g : Nat) (W : World) : leftOf g (.bool false) W = 0 := rfl

theorem Blk.set8 {w : World} {g : Nat} {t : TypeId} {y0 y1 y2 y3 y4 y5 y6 y7 : Value} (h : Blk w g t #[y0, y1, y2, y3, y4, y5, y6, y7]) (x0 x1 x2 x3 x4 x5 x6 x7 : Value) :
    Blk ((((((((w.setCell ⟨g, 0, none⟩ x0).setCell ⟨g, 1, none⟩ x1).setCell ⟨g, 2, none⟩ x2).setCell ⟨g, 3, none⟩ x3).setCell ⟨g, 4, none⟩ x4).setCell ⟨g, 5, none⟩ x5).setCell ⟨g, 6, none⟩ x6).setCell ⟨g, 7, none⟩ x7) g t #[x0, x1, x2, x3, x4, x5, x6, x7] := by
  have := (((((((h.set_ 0 x0).set_ 1 x1).set_ 2 x2).set_ 3 x3).set_ 4 x4).set_ 5 x5).set_ 6 x6).set_ 7 x7
  have e : (((((((#[y0, y1, y2, y3, y4, y5, y6, y7].setIfInBounds 0 x0).setIfInBounds 1 x1).setIfInBounds 2 x2).setIfInBounds 3 x3).setIfInBounds 4 x4).setIfInBounds 5 x5).setIfInBounds 6 x6).setIfInBounds 7 x7 = #[x0, x1, x2, x3, x4, x5, x6, x7] := by simp
  rw [e] at this
  exact this
theorem rank_after {a0 a1 a2 a3 a4 a5 a6 a7 : Int} (hp : (0 ≤ a0 ∧ a0 ≤ 6) ∧ (0 ≤ a1 ∧ a1 ≤ 6) ∧ (0 ≤ a2 ∧ a2 ≤ 6) ∧ (0 ≤ a3 ∧ a3 ≤ 6) ∧ (0 ≤ a4 ∧ a4 ≤ 6) ∧ (0 ≤ a5 ∧ a5 ≤ 6) ∧ (0 ≤ a6 ∧ a6 ≤ 6) ∧ (0 ≤ a7 ∧ a7 ≤ 6)) {y : List Int} (h : Venn.afterC [a0, a1, a2, a3, a4, a5, a6, a7] = some y) : Venn.rank y < Venn.rank [a0, a1, a2, a3, a4, a5, a6, a7] := by
  simp only [Venn.afterC] at h
  unfold Venn.rank
  repeat' split at h
  all_goals first
    | (simp only [Option.some.injEq] at h; subst h; simp only [Venn.num]; omega)
    | cases h

def fitAllV (b : Nat) : Value := .func (.func 79) #[] #[.pointer (some ⟨b, 0, none⟩)]
set_option maxHeartbeats 1000000 in
theorem fit_All (u : Int) (w : World) : Calls Tryz.prog 50 #[.int .i64 u] w (fun e w' => e = .returned (fitAllV w.heap.size) ∧ w' = w.alloc (.cells #[.int .i64 u] 3)) := by
  go_enter Tryz.func50, Tryz.ntmps50
  go_wp2
  go_ret
  exact ⟨rfl, rfl⟩

set_option maxHeartbeats 4000000 in
set_option maxRecDepth 100000 in
/-- fit.All's closure hands over all counts, one behind the other. -/
theorem all1_runs (u : Int) (hu : Venn.things u = true) (b : Nat) (w : World) (hb : w.cell? ⟨b, 0, none⟩ = some (.int .i64 u)) (n : Nat) (hn : 1 ≤ n) :
    SeqRuns Fence.wide n Tryz.prog 79 #[.pointer (some ⟨b, 0, none⟩)] (fun x => #[cntV x]) (Venn.allC u) w := by
  intro l J Jx W hW hJ hJx hY h0
  have hbW : W.cell? ⟨b, 0, none⟩ = some (.int .i64 u) := cell_keep hW hb
  have hblt := cell_lt hbW
  obtain ⟨hlinks, r0, hr0⟩ := Venn.links_allC hu
  have HU := Lib.hid hu
  have HL := Lib.hid hlinks
  have HR := Lib.hid hr0
  have HY := Lib.hid hY
  have HJ := Lib.hid hJ
  clear hu hlinks hr0 hY hJ hJx hW
  refine callsIn_of_wp Tryz.func79 rfl trivial ?_ rfl
  simp only [Tryz.ntmps79, List.size_toArray, List.length_cons, List.length_nil, Nat.reduceAdd, Nat.reduceSub, Array.replicate_succ, Array.replicate_zero, List.push_toArray, List.append_toArray, List.nil_append, List.cons_append]
  gi_wp2
  gi_loopw [4] (fun i wr => W.heap.size ≤ wr.heap.size ∧ ((i = .bool true ∧ ∃ pre x rest, Venn.allC u = pre ++ x :: rest ∧ J pre wr ∧ Blk wr W.heap.size 75 (x.map (Value.int .i64)).toArray) ∨ (i = .bool false ∧ J (Venn.allC u) wr)))
    (fun i wr => leftOf W.heap.size i wr)
  case atStart =>
    have hbs : Below W.heap.size W (W.alloc (.cells #[.int .i64 0, .int .i64 0, .int .i64 0, .int .i64 0, .int .i64 0, .int .i64 0, .int .i64 0, .int .i64 u] 75)) := by (repeat' (first | (with_reducible exact Below.refl _ _) | (with_reducible assumption) | (with_reducible refine Below.next ?_ (by with_reducible assumption)) | (with_reducible refine Below.drew ?_) | (with_reducible refine Below.laid ?_ _) | (with_reducible refine Below.setCell ?_ ?_ _) | (with_reducible refine size_of ?_) | (with_reducible refine Nat.le_succ_of_le ?_) | go_size))
    exact ⟨hbs.size, .inl ⟨rfl, [], [0, 0, 0, 0, 0, 0, 0, u], r0, HR.out, HJ.out _ _ _ hbs h0, Blk.new W _ _⟩⟩
  case round =>
    obtain ⟨hbw, hst⟩ := hrel
    obtain ⟨wo, rfl⟩ : ∃ wo : World, wo = wr := ⟨_, rfl⟩
    rcases hst with ⟨rfl, pre, x, rest, hxs, hJs, hB⟩ | ⟨rfl, hJs⟩
    · have hmem : x ∈ Venn.allC u := by rw [hxs]; simp
      obtain ⟨a0, a1, a2, a3, a4, a5, a6, a7, rfl, b0, b1, b2, b3, b4, b5, b6, b7, hsum⟩ := Venn.of_allC HU.out hmem
      simp only [List.map] at hB
      obtain ⟨⟨c0, c1, c2, c3, c4, c5, c6, c7⟩, _⟩ := hB.cells8
      obtain ⟨fn, tmps, assign, body, hy, hR⟩ := HY.out pre _ rest wo hxs hbw hJs
      simp only [cntV, List.map] at hy
      have HXS := Lib.hid hxs
      clear hxs hmem hsum
      gi_wp2
      refine hR.mono ?_
      rintro e W3 (⟨rfl, hJ3, hk3⟩ | ⟨rfl, hJx3⟩)
      · have hB3 := hB.fromM hk3 (Nat.le_refl _)
        have hsz3 : W.heap.size ≤ W3.heap.size := Nat.le_trans hbw hk3.size
        obtain ⟨⟨d0, d1, d2, d3, d4, d5, d6, d7⟩, f0, f1, f2, f3, f4, f5, f6, f7⟩ := hB3.cells8
        have HA := Lib.hid (And.intro b0 (And.intro b1 (And.intro b2 (And.intro b3 (And.intro b4 (And.intro b5 (And.intro b6 b7)))))))
        rcases Venn.links_split pre _ rest (by rw [← HXS.out]; exact HL.out) with ⟨rfl, haf⟩ | ⟨y, r, rfl, haf⟩
        · have HAV := Lib.hid (show afterV [a0, a1, a2, a3, a4, a5, a6, a7] = .tuple #[.agg #[.int .i64 a0, .int .i64 a1, .int .i64 a2, .int .i64 a3, .int .i64 a4, .int .i64 a5, .int .i64 a6, .int .i64 a7], .bool false] by unfold afterV; rw [haf]; rfl)
          clear haf
          gi_wp2_with (refine ⟨trivial, ?_⟩; gi_at_call 80; refine (callsIn_wide.2 (fit_after _ _ _ _ _ _ _ _ _ HA.out)).mono ?_; rintro e W4 ⟨rfl, hb4⟩; rw [HAV.out]; obtain ⟨⟨e0, e1, e2, e3, e4, e5, e6, e7⟩, g0, g1, g2, g3, g4, g5, g6, g7⟩ := (hB3.keep hb4).cells8)
          go_roundw
          case rel =>
            refine ⟨?_, .inr ⟨rfl, ?_⟩⟩
            · have := hb4.size; simp; omega
            · have hJe : J (Venn.allC u) W3 := by rw [HXS.out]; exact hJ3
              exact HJ.out _ _ _ (below_set8 (hb4.mono hsz3) (Nat.le_refl _) _ _ _ _ _ _ _ _) hJe
          case measure => rw [leftOf_false, leftOf_true (x := [a0, a1, a2, a3, a4, a5, a6, a7]) hB]; omega
        · have hmy : y ∈ Venn.allC u := by rw [HXS.out]; simp
          obtain ⟨y0, y1, y2, y3, y4, y5, y6, y7, rfl, _⟩ := Venn.of_allC HU.out hmy
          have HRK := Lib.hid (rank_after HA.out haf)
          have HAV := Lib.hid (show afterV [a0, a1, a2, a3, a4, a5, a6, a7] = .tuple #[.agg #[.int .i64 y0, .int .i64 y1, .int .i64 y2, .int .i64 y3, .int .i64 y4, .int .i64 y5, .int .i64 y6, .int .i64 y7], .bool true] by unfold afterV; rw [haf]; rfl)
          clear haf hmy
          gi_wp2_with (refine ⟨trivial, ?_⟩; gi_at_call 80; refine (callsIn_wide.2 (fit_after _ _ _ _ _ _ _ _ _ HA.out)).mono ?_; rintro e W4 ⟨rfl, hb4⟩; rw [HAV.out]; obtain ⟨⟨e0, e1, e2, e3, e4, e5, e6, e7⟩, g0, g1, g2, g3, g4, g5, g6, g7⟩ := (hB3.keep hb4).cells8)
          go_roundw
          case rel =>
            refine ⟨?_, .inl ⟨rfl, pre ++ [[a0, a1, a2, a3, a4, a5, a6, a7]], [y0, y1, y2, y3, y4, y5, y6, y7], r, ?_, ?_, ?_⟩⟩
            · have := hb4.size; simp; omega
            · rw [HXS.out]; simp
            · exact HJ.out _ _ _ (below_set8 (hb4.mono hsz3) (Nat.le_refl _) _ _ _ _ _ _ _ _) hJ3
            · exact (hB3.keep hb4).set8 _ _ _ _ _ _ _ _
          case measure =>
            rw [leftOf_true (x := [y0, y1, y2, y3, y4, y5, y6, y7]) ((hB3.keep hb4).set8 _ _ _ _ _ _ _ _), leftOf_true (x := [a0, a1, a2, a3, a4, a5, a6, a7]) hB]
            have := HRK.out
            omega
      · gi_wp2
        go_end0
        exact ⟨⟨_, rfl⟩, .inr ⟨pre, _, rest, HXS.out, hJx3⟩⟩
    · gi_wp2
      refine ⟨fun _ h => (by cases h), ?_⟩
      gi_wp2
      go_end0
      exact ⟨⟨_, rfl⟩, .inl hJs⟩

/-- THE STATEMENT 'for n := range fit.All(u)': the body is walked once. -/
theorem wpIn_rangeAll {g : Operand} {ps : Array Tmp} {assign body : Code} {Q : Exit → Act → World → Prop} {a : Act} {w : World} (u : Int) (hu : Venn.things u = true) (b : Nat)
    (hg : a.eval g = fitAllV b) (hb : w.cell? ⟨b, 0, none⟩ = some (.int .i64 u)) (hps : 1 = ps.size)
    (C : Nat → Prop) (hC : ∀ b, C b → b < w.heap.size)
    (I : List (List Int) → World → Prop) (Ix : Code → List (List Int) → World → Prop) (hI : OnlyBelow w.heap.size I) (hIx : ∀ c, OnlyBelow w.heap.size (Ix c)) (h0 : I [] w)
    (act : List Int → Nat → Act)
    (hassign : ∀ (l : Nat) (x : List Int) (W : World) (K : Act → World → Prop), x ∈ Venn.allC u → K (act x W.heap.size) (W.alloc (.cells (x.map (Value.int .i64)).toArray 75)) →
      assign.wpIn (Fence.wide.inRound l) 2 Tryz.prog (Exit.then K (fun _ _ _ => False)) { tmps := (ps.zip #[cntV x]).foldl (fun t (p, v) => t.setIfInBounds p v) a.tmps, defers := [] } W)
    (hbody : ∀ (l : Nat) (pre : List (List Int)) (x : List Int) (rest : List (List Int)) (W : World) (Bx : Nat), Venn.allC u = pre ++ x :: rest → But C w W → I pre W → Blk W Bx 75 (x.map (Value.int .i64)).toArray → w.heap.size < Bx →
      body.wpIn (Fence.wide.inRound l) 2 Tryz.prog (roundP C I Ix (pre ++ [x]) W) (act x Bx) W)
    (hdone : ∀ (D : Nat) (W : World), w.heap.size ≤ D → But C w W → I (Venn.allC u) W → W.heap[D]? = some (.deferred (some [])) → Q .normal { a with defers := { target := .collected D, args := #[] } :: a.defers } W)
    (hstop : ∀ (D : Nat) (c : Code) (pre : List (List Int)) (x : List Int) (rest : List (List Int)) (W : World), w.heap.size ≤ D → Venn.allC u = pre ++ x :: rest → But C w W → Ix c (pre ++ [x]) W → W.heap[D]? = some (.deferred (some [])) →
      c.wpIn Fence.wide 4 Tryz.prog Q { a with defers := { target := .collected D, args := #[] } :: a.defers } W) :
    (Code.rangeFunc g ps assign body).wpIn Fence.wide 4 Tryz.prog Q a w :=
  wpIn_rangeRuns rfl (by decide) hg trivial (enters_of Tryz.func79 (by kernel_rfl) rfl) (all1_runs u hu b w hb 3 (by decide)) (Below.refl _ _) (fun _ => hps) C hC I Ix hI hIx h0 _ _ act hassign hbody hdone hstop

/-- The same, the round as ONE walk. -/
theorem wpIn_rangeAll2 {g : Operand} {ps : Array Tmp} {assign body : Code} {Q : Exit → Act → World → Prop} {a : Act} {w : World} (u : Int) (hu : Venn.things u = true) (b : Nat)
    (hg : a.eval g = fitAllV b) (hb : w.cell? ⟨b, 0, none⟩ = some (.int .i64 u)) (hps : 1 = ps.size)
    (C : Nat → Prop) (hC : ∀ b, C b → b < w.heap.size)
    (I : List (List Int) → World → Prop) (Ix : Code → List (List Int) → World → Prop) (hI : OnlyBelow w.heap.size I) (hIx : ∀ c, OnlyBelow w.heap.size (Ix c)) (h0 : I [] w)
    (hround : ∀ (l : Nat) (pre : List (List Int)) (x : List Int) (rest : List (List Int)) (W : World), Venn.allC u = pre ++ x :: rest →
      assign.wpIn (Fence.wide.inRound l) 2 Tryz.prog (Exit.then (fun a1 W1 => W1 = W.alloc (.cells (x.map (Value.int .i64)).toArray 75) ∧ ∀ W2, But C w W2 → I pre W2 → Blk W2 W.heap.size 75 (x.map (Value.int .i64)).toArray → w.heap.size < W.heap.size →
        body.wpIn (Fence.wide.inRound l) 2 Tryz.prog (roundP C I Ix (pre ++ [x]) W2) a1 W2) (fun _ _ _ => False)) { tmps := (ps.zip #[cntV x]).foldl (fun t (p, v) => t.setIfInBounds p v) a.tmps, defers := [] } W)
    (hdone : ∀ (D : Nat) (W : World), w.heap.size ≤ D → But C w W → I (Venn.allC u) W → W.heap[D]? = some (.deferred (some [])) → Q .normal { a with defers := { target := .collected D, args := #[] } :: a.defers } W)
    (hstop : ∀ (D : Nat) (c : Code) (pre : List (List Int)) (x : List Int) (rest : List (List Int)) (W : World), w.heap.size ≤ D → Venn.allC u = pre ++ x :: rest → But C w W → Ix c (pre ++ [x]) W → W.heap[D]? = some (.deferred (some [])) →
      c.wpIn Fence.wide 4 Tryz.prog Q { a with defers := { target := .collected D, args := #[] } :: a.defers } W) :
    (Code.rangeFunc g ps assign body).wpIn Fence.wide 4 Tryz.prog Q a w :=
  wpIn_rangeRuns2 rfl (by decide) hg trivial (enters_of Tryz.func79 (by kernel_rfl) rfl) (all1_runs u hu b w hb 3 (by decide)) (Below.refl _ _) (fun _ => hps) C hC I Ix hI hIx h0 _ _ hround hdone hstop
end Go.Proofs.YtjnjgcibhjdmdaaGreatDoor

namespace Go.Proofs.YtjnjgcibhjdmdaaGreatDoor
open Go.RowKit Go.Shelf
attribute [local go_sem] Oper.semAt_some

section
variable {X Y : World} {C : Nat → Prop}
theorem But.set8 (h : But C X Y) {p : Nat} (hp : C p) (x0 x1 x2 x3 x4 x5 x6 x7 : Value) :
    But C X ((((((((Y.setCell ⟨p, 0, none⟩ x0).setCell ⟨p, 1, none⟩ x1).setCell ⟨p, 2, none⟩ x2).setCell ⟨p, 3, none⟩ x3).setCell ⟨p, 4, none⟩ x4).setCell ⟨p, 5, none⟩ x5).setCell ⟨p, 6, none⟩ x6).setCell ⟨p, 7, none⟩ x7) :=
  (((((((h.set_ (p := ⟨p, 0, none⟩) hp _).set_ (p := ⟨p, 1, none⟩) hp _).set_ (p := ⟨p, 2, none⟩) hp _).set_ (p := ⟨p, 3, none⟩) hp _).set_ (p := ⟨p, 4, none⟩) hp _).set_ (p := ⟨p, 5, none⟩) hp _).set_ (p := ⟨p, 6, none⟩) hp _).set_ (p := ⟨p, 7, none⟩) hp _
theorem Blk.far8 {g : Nat} {t : TypeId} {cs : Array Value} (h : Blk X g t cs) {p : Nat} (hp : g ≠ p) (x0 x1 x2 x3 x4 x5 x6 x7 : Value) :
    Blk ((((((((X.setCell ⟨p, 0, none⟩ x0).setCell ⟨p, 1, none⟩ x1).setCell ⟨p, 2, none⟩ x2).setCell ⟨p, 3, none⟩ x3).setCell ⟨p, 4, none⟩ x4).setCell ⟨p, 5, none⟩ x5).setCell ⟨p, 6, none⟩ x6).setCell ⟨p, 7, none⟩ x7) g t cs :=
  (((((((h.far (p := ⟨p, 0, none⟩) hp _).far (p := ⟨p, 1, none⟩) hp _).far (p := ⟨p, 2, none⟩) hp _).far (p := ⟨p, 3, none⟩) hp _).far (p := ⟨p, 4, none⟩) hp _).far (p := ⟨p, 5, none⟩) hp _).far (p := ⟨p, 6, none⟩) hp _).far (p := ⟨p, 7, none⟩) hp _
theorem hK8 {o : Obj} {D : Nat} (h : X.heap[D]? = some o) {p : Nat} (hp : D ≠ p) (x0 x1 x2 x3 x4 x5 x6 x7 : Value) :
    ((((((((X.setCell ⟨p, 0, none⟩ x0).setCell ⟨p, 1, none⟩ x1).setCell ⟨p, 2, none⟩ x2).setCell ⟨p, 3, none⟩ x3).setCell ⟨p, 4, none⟩ x4).setCell ⟨p, 5, none⟩ x5).setCell ⟨p, 6, none⟩ x6).setCell ⟨p, 7, none⟩ x7).heap[D]? = some o :=
  def_keep (p := ⟨p, 7, none⟩) (def_keep (p := ⟨p, 6, none⟩) (def_keep (p := ⟨p, 5, none⟩) (def_keep (p := ⟨p, 4, none⟩) (def_keep (p := ⟨p, 3, none⟩) (def_keep (p := ⟨p, 2, none⟩) (def_keep (p := ⟨p, 1, none⟩) (def_keep (p := ⟨p, 0, none⟩) h hp _) hp _) hp _) hp _) hp _) hp _) hp _) hp _
end
/-- Counts as cells. -/
abbrev cells (x : List Int) : Array Value := (x.map (Value.int .i64)).toArray
abbrev zero8 : Array Value := #[.int .i64 0, .int .i64 0, .int .i64 0, .int .i64 0, .int .i64 0, .int .i64 0, .int .i64 0, .int .i64 0]
def firstV (o : Option (List Int)) : Value := match o with
  | some x => .tuple #[.agg (cells x), .bool true]
  | none => .tuple #[.agg zero8, .bool false]

set_option maxHeartbeats 2000000 in
set_option maxRecDepth 100000 in
theorem fit_First (u : Int) (v : Value) (l : List (List Int)) (w : World) (hu : Venn.things u = true) (hl : IsRows w v l) (hok : l.all Venn.rowOk = true) :
    Calls Tryz.prog 39 #[.int .i64 u, v] w (Keeps (firstV (Venn.firstFit u l)) w) := by
  obtain ⟨A, c, rfl, hrest⟩ := hl
  have HL : IsRows w (.slice A l.length c) l := ⟨A, c, rfl, hrest⟩
  clear hrest
  have HOK := Lib.hid hok
  have HU := Lib.hid hu
  obtain ⟨E, hE⟩ : ∃ E, E = firstV (Venn.firstFit u l) := ⟨_, rfl⟩
  rw [← hE]
  have HE := Lib.hid hE
  clear hok hu hE
  refine (callsIn_wide (n := 4)).1 ?_
  refine callsIn_of_wp_marks Tryz.func39 rfl trivial ?_ rfl
  simp only [Tryz.ntmps39, List.size_toArray, List.length_cons, List.length_nil, Nat.reduceAdd, Nat.reduceSub, Array.replicate_succ, Array.replicate_zero, List.push_toArray, List.append_toArray, List.nil_append, List.cons_append]
  gi_wp2_with (refine ⟨trivial, ?_⟩; gi_at_call 50; refine (callsIn_wide.2 (fit_All u _)).mono ?_; rintro e w' ⟨rfl, rfl⟩)
  have hB0 : Blk ((((w.alloc (.cells #[.slice A l.length c] 78)).alloc (.cells zero8 75)).alloc (.cells #[.bool false] 4)).alloc (.cells #[.int .i64 u] 3)) w.heap.size 78 #[.slice A l.length c] := (((Blk.new _ _ _).alloc _).alloc _).alloc _
  have hB1 : Blk ((((w.alloc (.cells #[.slice A l.length c] 78)).alloc (.cells zero8 75)).alloc (.cells #[.bool false] 4)).alloc (.cells #[.int .i64 u] 3)) (w.heap.size + 1) 75 zero8 := ((Blk.newAt (by simp) _ _).alloc _).alloc _
  have hB2 : Blk ((((w.alloc (.cells #[.slice A l.length c] 78)).alloc (.cells zero8 75)).alloc (.cells #[.bool false] 4)).alloc (.cells #[.int .i64 u] 3)) (w.heap.size + 1 + 1) 4 #[.bool false] := (Blk.newAt (by simp) _ _).alloc _
  have hB3 : Blk ((((w.alloc (.cells #[.slice A l.length c] 78)).alloc (.cells zero8 75)).alloc (.cells #[.bool false] 4)).alloc (.cells #[.int .i64 u] 3)) (w.heap.size + 1 + 1 + 1) 3 #[.int .i64 u] := Blk.newAt (by simp) _ _
  have hbW : Below w.heap.size w ((((w.alloc (.cells #[.slice A l.length c] 78)).alloc (.cells zero8 75)).alloc (.cells #[.bool false] 4)).alloc (.cells #[.int .i64 u] 3)) := by (repeat' (first | (with_reducible exact Below.refl _ _) | (with_reducible assumption) | (with_reducible refine Below.next ?_ (by with_reducible assumption)) | (with_reducible refine Below.drew ?_) | (with_reducible refine Below.laid ?_ _) | (with_reducible refine Below.setCell ?_ ?_ _) | (with_reducible refine size_of ?_) | (with_reducible refine Nat.le_succ_of_le ?_) | go_size))
  have hsz : ((((w.alloc (.cells #[.slice A l.length c] 78)).alloc (.cells zero8 75)).alloc (.cells #[.bool false] 4)).alloc (.cells #[.int .i64 u] 3)).heap.size = w.heap.size + 4 := by simp
  generalize ((((w.alloc (.cells #[.slice A l.length c] 78)).alloc (.cells zero8 75)).alloc (.cells #[.bool false] 4)).alloc (.cells #[.int .i64 u] 3)) = W0 at hB0 hB1 hB2 hB3 hbW hsz
  have hC : ∀ b, (b = w.heap.size + 1 ∨ b = w.heap.size + 1 + 1) → w.heap.size ≤ b := by omega
  refine wpIn_rangeAll u HU.out (w.heap.size + 1 + 1 + 1) rfl (hB3.cell 0) rfl (fun b => b = w.heap.size + 1 ∨ b = w.heap.size + 1 + 1) (by intro b hb; omega)
    (fun pre W => (∀ x ∈ pre, Venn.rowsSo l x = false) ∧ Blk W (w.heap.size + 1) 75 zero8 ∧ Blk W (w.heap.size + 1 + 1) 4 #[.bool false])
    (fun c pre W => c = .ret ∧ (∃ pre' x, pre = pre' ++ [x] ∧ (∀ y ∈ pre', Venn.rowsSo l y = false) ∧ Venn.rowsSo l x = true ∧ Blk W (w.heap.size + 1) 75 (cells x)) ∧ Blk W (w.heap.size + 1 + 1) 4 #[.bool true])
    (by rintro s X Y hb ⟨h1, h2, h3⟩; exact ⟨h1, h2.below hb (by omega), h3.below hb (by omega)⟩)
    (by rintro c s X Y hb ⟨h1, ⟨p, x, h2, h3, h4, h5⟩, h6⟩; exact ⟨h1, ⟨p, x, h2, h3, h4, h5.below hb (by omega)⟩, h6.below hb (by omega)⟩)
    ⟨by simp, hB1, hB2⟩
    (fun x B => { tmps := #[.int .i64 u, .slice A l.length c, undef, .pointer (some ⟨w.heap.size, 0, none⟩), .pointer (some ⟨w.heap.size + 1, 0, none⟩), .pointer (some ⟨w.heap.size + 1 + 1, 0, none⟩), .pointer (some ⟨B, 0, none⟩), .int .i64 u, fitAllV (w.heap.size + 1 + 1 + 1), cntV x, undef, undef, undef, undef, undef], defers := [] }) ?assign ?body ?done ?stop
  case assign =>
    intro l x W K hm hK
    obtain ⟨a0, a1, a2, a3, a4, a5, a6, a7, rfl, _⟩ := Venn.of_allC HU.out hm
    unfold cntV
    gi_wp2
    exact hK
  case body =>
    rintro lo pre x rest W Bx hxs hbut ⟨h1, h2, h3⟩ hX hBx
    have hm : x ∈ Venn.allC u := by rw [hxs]; simp
    obtain ⟨a0, a1, a2, a3, a4, a5, a6, a7, rfl, b0, b1, b2, b3, b4, b5, b6, b7, _⟩ := Venn.of_allC HU.out hm
    have HLW := Lib.hid (HL.keep (hbW.trans (hbut.below (by omega) hC)))
    have hb0 := (hB0.but hbut (by omega)).cell 0
    simp only [List.map] at hX
    obtain ⟨⟨c0, c1, c2, c3, c4, c5, c6, c7⟩, _⟩ := hX.cells8
    have HB := Lib.hid (And.intro b0 (And.intro b1 (And.intro b2 (And.intro b3 (And.intro b4 (And.intro b5 (And.intro b6 b7)))))))
    have H1 := Lib.hid h1
    clear hm hxs h1 b0 b1 b2 b3 b4 b5 b6 b7
    unfold cntV
    have hd1 : 1 ≤ 2 := by decide
    rcases hso : Venn.rowsSo l [a0, a1, a2, a3, a4, a5, a6, a7] with _ | _
    · have HS := Lib.hid hso
      clear hso
      gi_wp2_with (refine ⟨trivial, ?_⟩; gi_at_call 66; refine (CallsIn.inRound lo (callsIn_wide.2 (rows_So _ l a0 a1 a2 a3 a4 a5 a6 a7 W HLW.out HOK.out HB.out))).mono ?_; rintro e W1 ⟨rfl, hb1⟩; rw [HS.out])
      refine ⟨But.of_below hb1, fun x hx => ?_, h2.keep hb1, h3.keep hb1⟩
      rcases List.mem_append.1 hx with h | h
      · exact H1.out x h
      · rw [List.mem_singleton.1 h]; exact HS.out
    · have HS := Lib.hid hso
      clear hso
      gi_wp2_with (refine ⟨trivial, ?_⟩; gi_at_call 66; refine (CallsIn.inRound lo (callsIn_wide.2 (rows_So _ l a0 a1 a2 a3 a4 a5 a6 a7 W HLW.out HOK.out HB.out))).mono ?_; rintro e W1 ⟨rfl, hb1⟩; rw [HS.out]; obtain ⟨⟨d0, d1, d2, d3, d4, d5, d6, d7⟩, _⟩ := (hX.keep hb1).cells8; obtain ⟨⟨e0, e1, e2, e3, e4, e5, e6, e7⟩, f0, f1, f2, f3, f4, f5, f6, f7⟩ := (h2.keep hb1).cells8; have e8 := (h3.keep hb1).cell 0; have f8 := (h3.keep hb1).frozen 0)
      exact ⟨(But.set8 (But.of_below hb1) (.inl rfl) _ _ _ _ _ _ _ _).set_ (.inr rfl) _, rfl, ⟨pre, _, rfl, H1.out, HS.out, ((h2.keep hb1).set8 _ _ _ _ _ _ _ _).far (by simp) _⟩,
        ((h3.keep hb1).far8 (by simp) _ _ _ _ _ _ _ _).set_ 0 _⟩
  case done =>
    rintro D W hD hbut ⟨h1, h2, h3⟩ hK
    obtain ⟨⟨e0, e1, e2, e3, e4, e5, e6, e7⟩, f0, f1, f2, f3, f4, f5, f6, f7⟩ := h2.cells8
    have e8 := h3.cell 0
    have f8 := h3.frozen 0
    have H1 := Lib.hid h1
    clear h1
    gi_wp2
    have hV := Lib.hid (show E = .tuple #[.agg zero8, .bool false] by
      rw [HE.out, Venn.firstFit, List.find?_eq_none.2 (fun x hx => by rw [H1.out x hx]; decide)]; rfl)
    have hK' := def_keep (hK8 hK (p := w.heap.size + 1) (by omega) (.int .i64 0) (.int .i64 0) (.int .i64 0) (.int .i64 0) (.int .i64 0) (.int .i64 0) (.int .i64 0) (.int .i64 0)) (p := ⟨w.heap.size + 1 + 1, 0, none⟩) (by show D ≠ w.heap.size + 1 + 1; omega) (.bool false)
    have G2 := ((h2.set8 (.int .i64 0) (.int .i64 0) (.int .i64 0) (.int .i64 0) (.int .i64 0) (.int .i64 0) (.int .i64 0) (.int .i64 0)).far (p := ⟨w.heap.size + 1 + 1, 0, none⟩) (by simp) (.bool false))
    have G3 := (h3.far8 (p := w.heap.size + 1) (by simp) (.int .i64 0) (.int .i64 0) (.int .i64 0) (.int .i64 0) (.int .i64 0) (.int .i64 0) (.int .i64 0) (.int .i64 0)).set_ 0 (.bool false)
    have GB := ((But.set8 hbut (p := w.heap.size + 1) (.inl rfl) (.int .i64 0) (.int .i64 0) (.int .i64 0) (.int .i64 0) (.int .i64 0) (.int .i64 0) (.int .i64 0) (.int .i64 0)).set_ (p := ⟨w.heap.size + 1 + 1, 0, none⟩) (.inr rfl) (.bool false)).put hD (.deferred none)
    clear h2 h3 hK e0 e1 e2 e3 e4 e5 e6 e7 e8 f0 f1 f2 f3 f4 f5 f6 f7 f8
    revert hK' G2 G3 GB
    generalize World.setCell _ _ _ = W1
    intro hK' G2 G3 GB
    obtain ⟨⟨e0, e1, e2, e3, e4, e5, e6, e7⟩, _⟩ := (G2.put (D := D) (by omega) (.deferred none)).cells8
    have e8 := (G3.put (D := D) (by omega) (.deferred none)).cell 0
    refine leave_mark (v := .tuple #[.agg zero8, .bool false]) rfl hK' ?_ ⟨congrArg Ending.returned hV.out.symm, hbW.trans (GB.below (by omega) hC)⟩
    generalize W1.putObj D (.deferred none) = W2 at e0 e1 e2 e3 e4 e5 e6 e7 e8 ⊢
    simp [results, Tryz.results39, go_sem, e0, e1, e2, e3, e4, e5, e6, e7, e8]
  case stop =>
    rintro D c pre x rest W hD hxs hbut ⟨rfl, ⟨pre', y, he, h3, h4, h5⟩, h6⟩ hK
    gi_wp2
    obtain ⟨rfl, rfl⟩ : pre' = pre ∧ y = x := by
      have := List.append_inj' he rfl
      exact ⟨this.1.symm, by simpa using this.2.symm⟩
    have hm : y ∈ Venn.allC u := by rw [hxs]; simp
    obtain ⟨a0, a1, a2, a3, a4, a5, a6, a7, rfl, _⟩ := Venn.of_allC HU.out hm
    have hV := Lib.hid (show E = .tuple #[.agg (cells [a0, a1, a2, a3, a4, a5, a6, a7]), .bool true] by
      rw [HE.out, Venn.firstFit, hxs, List.find?_append, List.find?_eq_none.2 (fun x hx => by rw [h3 x hx]; decide), List.find?_cons_of_pos h4]; rfl)
    have GB := hbut.put hD (.deferred none)
    simp only [cells, List.map] at h5 hV
    obtain ⟨⟨e0, e1, e2, e3, e4, e5, e6, e7⟩, _⟩ := (h5.put (D := D) (by omega) (.deferred none)).cells8
    have e8 := (h6.put (D := D) (by omega) (.deferred none)).cell 0
    refine leave_mark (v := .tuple #[.agg #[.int .i64 a0, .int .i64 a1, .int .i64 a2, .int .i64 a3, .int .i64 a4, .int .i64 a5, .int .i64 a6, .int .i64 a7], .bool true]) rfl hK ?_ ⟨congrArg Ending.returned hV.out.symm, hbW.trans (GB.below (by omega) hC)⟩
    generalize W.putObj D (.deferred none) = W2 at e0 e1 e2 e3 e4 e5 e6 e7 e8 ⊢
    simp [results, Tryz.results39, go_sem, e0, e1, e2, e3, e4, e5, e6, e7, e8]
end Go.Proofs.YtjnjgcibhjdmdaaGreatDoor
