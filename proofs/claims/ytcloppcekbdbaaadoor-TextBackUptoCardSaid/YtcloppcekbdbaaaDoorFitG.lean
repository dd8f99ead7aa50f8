/-
  THE LAW OF 'for x := range seq', where the iterator keeps its state in cells of its own: the iterator's contract (SeqRuns) and the statement's law.
  THE WALKS of fit.All and of the iterator that it gives.
  THE WALK of fit.First.
-/
import Derived.Test.YtcloppcekbdbaaaDoorMem
import Derived.RangeFuncNested
import Derived.RangeFuncBound
import Derived.RangeFuncCalls
import Derived.RangeFuncLeaves
import Derived.Test.YtcloppcekbdbaaaDoorRowG
import Derived.Shelf.Abstract
import Derived.Shelf.RegionOpen
import Derived.OwnWalkIn
import Derived.TacticsInMore
import Derived.LoopNIn
import Derived.LoopIn
namespace Go.Proofs.YtcloppcekbdbaaaDoor
open Go.RowKit

theorem size_putObj (W : World) (l : Nat) (o : Obj) : (W.putObj l o).heap.size = W.heap.size := by simp [World.putObj]
/-- I speaks of nothing but what lies below B. -/
def OnlyBelow {σ : Type} (B : Nat) (I : σ → World → Prop) : Prop := ∀ s X Y, Below B X Y → I s X → I s Y

/-- But for the blocks of C, what lay lies as it lay. -/
structure But (C : Nat → Prop) (X Y : World) : Prop where
  os : Y.os = X.os
  tape : Y.tape = X.tape
  output : Y.output = X.output
  size : X.heap.size ≤ Y.heap.size
  block : ∀ k, k < X.heap.size → ¬ C k → Y.heap[k]? = X.heap[k]?
theorem But.refl (C : Nat → Prop) (X : World) : But C X X := ⟨rfl, rfl, rfl, Nat.le_refl _, fun _ _ _ => rfl⟩
theorem But.trans {C : Nat → Prop} {X Y Z : World} (h : But C X Y) (k : But C Y Z) : But C X Z :=
  ⟨k.os.trans h.os, k.tape.trans h.tape, k.output.trans h.output, Nat.le_trans h.size k.size, fun i hi hc => (k.block i (Nat.lt_of_lt_of_le hi h.size) hc).trans (h.block i hi hc)⟩
theorem But.of_below {C : Nat → Prop} {X Y : World} (h : Below X.heap.size X Y) : But C X Y := ⟨h.os, h.tape, h.output, h.size, fun k hk _ => h.block k hk⟩
theorem But.below {C : Nat → Prop} {B : Nat} {X Y : World} (h : But C X Y) (hB : B ≤ X.heap.size) (hC : ∀ b, C b → B ≤ b) : Below B X Y :=
  ⟨h.os, h.tape, h.output, h.size, fun k hk => h.block k (Nat.lt_of_lt_of_le hk hB) (fun hc => by have := hC k hc; omega)⟩
theorem But.set_ {C : Nat → Prop} {X Y : World} (h : But C X Y) {p : Addr} (hp : C p.block) (v : Value) : But C X (Y.setCell p v) :=
  ⟨h.os, h.tape, h.output, by simpa using h.size, fun k hk hc => (Below.heap_setCell Y p v k (fun e => hc (e ▸ hp))).trans (h.block k hk hc)⟩
theorem But.put {C : Nat → Prop} {X Y : World} (h : But C X Y) {l : Nat} (hl : X.heap.size ≤ l) (o : Obj) : But C X (Y.putObj l o) :=
  ⟨h.os, h.tape, h.output, by rw [size_putObj]; exact h.size, fun k hk hc => (World.putObj_heap_other (by omega)).trans (h.block k hk hc)⟩
theorem But.drew {C : Nat → Prop} {X Y : World} (h : But C X Y) : But C X Y.drew := ⟨h.os, h.tape, h.output, h.size, h.block⟩
theorem But.alloc {C : Nat → Prop} {X Y : World} (h : But C X Y) (o : Obj) : But C X (Y.alloc o) :=
  h.trans (But.of_below ((Below.refl _ _).alloc (Nat.le_refl _) o))
theorem But.next {C : Nat → Prop} {X Y Z : World} (h : But C X Y) (k : Below Y.heap.size Y Z) : But C X Z := h.trans (But.of_below k)
theorem Blk.but {C : Nat → Prop} {X Y : World} {g : Nat} {t : TypeId} {cs : Array Value} (h : Blk X g t cs) (hb : But C X Y) (hg : ¬ C g) : Blk Y g t cs := (hb.block g h.lt hg).trans h

/-- What a round keeps for the iterator: the blocks from m on. -/
structure FromM (m : Nat) (X Y : World) : Prop where
  size : X.heap.size ≤ Y.heap.size
  block : ∀ k, m ≤ k → k < X.heap.size → Y.heap[k]? = X.heap[k]?
theorem Blk.fromM {m : Nat} {X Y : World} {g : Nat} {t : TypeId} {cs : Array Value} (h : Blk X g t cs) (hb : FromM m X Y) (hg : m ≤ g) : Blk Y g t cs := (hb.block g hg h.lt).trans h

/-- THE ITERATOR's CONTRACT: called with yield it hands over xs, one behind the other, till a round says 'no more'. -/
def SeqRuns {α : Type} (F : Fence) (n : Nat) (P : Program) (g : Nat) (lb : Array Value) (encs : α → Array Value) (xs : List α) (w : World) : Prop :=
  ∀ (l : Nat) (J Jx : List α → World → Prop) (W : World), Below w.heap.size w W → OnlyBelow W.heap.size J → OnlyBelow W.heap.size Jx →
    (∀ pre x rest W1, xs = pre ++ x :: rest → W.heap.size ≤ W1.heap.size → J pre W1 → YieldAt F (n - 1) P l (encs x) W1 fun e W' =>
      (e = .returned (.bool true) ∧ J (pre ++ [x]) W' ∧ FromM W.heap.size W1 W') ∨ (e = .returned (.bool false) ∧ Jx (pre ++ [x]) W')) →
    J [] W →
    CallsIn F n P g (#[.func (.yield l) #[] #[]] ++ lb) W fun e W' => (∃ v, e = .returned v) ∧ (J xs W' ∨ ∃ pre x rest, xs = pre ++ x :: rest ∧ Jx (pre ++ [x]) W')

/-- How the body of a round may be left. -/
def roundP {α : Type} (C : Nat → Prop) (I : List α → World → Prop) (Ix : Code → List α → World → Prop) (ys : List α) (W : World) : Exit → Act → World → Prop
  | .normal, _, W' => But C W W' ∧ I ys W'
  | .ret, _, W' => But C W W' ∧ Ix .ret ys W'
  | .exit id, _, W' => But C W W' ∧ Ix (.exit id) ys W'
  | .goto t, _, W' => But C W W' ∧ Ix (.goto t) ys W'
  | .panic _, _, _ => False
  | .outgrown, _, _ => False

variable {F : Fence} {n : Nat} {P : Program}

/-- The round as ONE walk: the assignment, then the body in any world that keeps the promises. -/
theorem wpIn_rangeRuns2 {α : Type} {g : Operand} {ps : Array Tmp} {assign body : Code} {Q : Exit → Act → World → Prop} {a : Act} {w : World}
    (hro : F.round = none) (h1 : 1 ≤ n) {gf : Nat} {lb : Array Value} (hg : a.eval g = .func (.func gf) #[] lb) (hFg : F.fn gf) (eg : ∀ args w, (callFunc gf args).run P w = .ok (.enter gf args) w)
    {encs : α → Array Value} {xs : List α} {w0 : World} (hseq : SeqRuns F (n - 1) P gf lb encs xs w0) (hb0 : Below w0.heap.size w0 w) (hps : ∀ x, (encs x).size = ps.size)
    (C : Nat → Prop) (hC : ∀ b, C b → b < w.heap.size)
    (I : List α → World → Prop) (Ix : Code → List α → World → Prop) (hI : OnlyBelow w.heap.size I) (hIx : ∀ c, OnlyBelow w.heap.size (Ix c)) (h0 : I [] w)
    (t : TypeId) (cs : α → Array Value)
    (hround : ∀ (l : Nat) (pre : List α) (x : α) (rest : List α) (W : World), xs = pre ++ x :: rest →
      assign.wpIn (F.inRound l) (n - 1 - 1) P (Exit.then (fun a1 W1 => W1 = W.alloc (.cells (cs x) t) ∧ ∀ W2, But C w W2 → I pre W2 → Blk W2 W.heap.size t (cs x) → w.heap.size < W.heap.size →
        body.wpIn (F.inRound l) (n - 1 - 1) P (roundP C I Ix (pre ++ [x]) W2) a1 W2) (fun _ _ _ => False)) { tmps := (ps.zip (encs x)).foldl (fun t (p, v) => t.setIfInBounds p v) a.tmps, defers := [] } W)
    (hdone : ∀ (D : Nat) (W : World), w.heap.size ≤ D → But C w W → I xs W → W.heap[D]? = some (.deferred (some [])) → Q .normal { a with defers := { target := .collected D, args := #[] } :: a.defers } W)
    (hstop : ∀ (D : Nat) (c : Code) (pre : List α) (x : α) (rest : List α) (W : World), w.heap.size ≤ D → xs = pre ++ x :: rest → But C w W → Ix c (pre ++ [x]) W → W.heap[D]? = some (.deferred (some [])) → c.wpIn F n P Q { a with defers := { target := .collected D, args := #[] } :: a.defers } W) :
    (Code.rangeFunc g ps assign body).wpIn F n P Q a w := by
  refine wpIn_rangeFunc ?_
  intro fn hfn
  rw [hro]
  obtain ⟨rec, hrec⟩ : ∃ rec : LoopState → Option Code → Loop, rec = fun st pe => { state := st, pending := pe, fn, tmps := a.tmps, params := ps, assign, body, defers := w.heap.size } := ⟨_, rfl⟩
  obtain ⟨W1, hW1⟩ : ∃ W1, (w.alloc (.deferred (some []))).alloc (.loop (rec .ready none)) = W1 := ⟨_, rfl⟩
  have hL1 : W1.heap[w.heap.size + 1]? = some (.loop (rec .ready none)) := by
    rw [← hW1]; have := World.alloc_heap_new (w.alloc (.deferred (some []))) (.loop (rec .ready none)); rwa [World.size_alloc] at this
  have hK1 : W1.heap[w.heap.size]? = some (.deferred (some [])) := by
    rw [← hW1]; exact (Below.heap_alloc _ _ _ (by simp)).trans (World.alloc_heap_new w _)
  have hwW : Below w.heap.size w W1 := by rw [← hW1]; exact ((Below.refl _ w).alloc (Nat.le_refl _) _).alloc (by simp) _
  have hs1 : W1.heap.size = w.heap.size + 2 := by rw [← hW1]; simp
  have hI1 : I [] W1 := hI _ _ _ hwW h0
  have hb1 : Below w0.heap.size w0 W1 := hb0.trans (hwW.mono hb0.size)
  have hput : ∀ (o : Obj) (W : World), Below w.heap.size W (W.putObj (w.heap.size + 1) o) := fun o W => ⟨rfl, rfl, rfl, Nat.le_of_eq (size_putObj _ _ _).symm, fun k hk => World.putObj_heap_other (by omega)⟩
  refine ⟨w.heap.size + 1, [{ target := .collected w.heap.size, args := #[] }], W1, { target := .fn (.func gf) lb, args := #[.func (.yield (w.heap.size + 1)) #[] #[]] }, W1, gf,
    #[.func (.yield (w.heap.size + 1)) #[] #[]] ++ lb, W1, ?_, ?_, ?_, ?_, fun _ => h1, ?_⟩
  · rw [← hW1, hrec]; exact run_enterLoop_outer _ _ _ _ _
  · simp only [resolve, hg]
    simp [go_sem]
  · intro f' hf'; simp [Target.leads] at hf'; subst hf'; exact hFg
  · simp [invoke, go_sem, eg]
  · refine (hseq (w.heap.size + 1)
      (fun pre W => (But C w W ∧ I pre W) ∧ W.heap[w.heap.size + 1]? = some (.loop (rec .ready none)) ∧ W.heap[w.heap.size]? = some (.deferred (some [])))
      (fun pre W => ∃ c, (But C w W ∧ Ix c pre W) ∧ W.heap[w.heap.size + 1]? = some (.loop (rec .done (some c))) ∧ W.heap[w.heap.size]? = some (.deferred (some [])))
      W1 hb1 ?_ ?_ ?_ ⟨⟨But.of_below hwW, hI1⟩, hL1, hK1⟩).mono ?_
    · rintro s X Y hb ⟨⟨hk, hi⟩, hl, hd⟩
      rw [hs1] at hb
      exact ⟨⟨⟨hb.os.trans hk.os, hb.tape.trans hk.tape, hb.output.trans hk.output, Nat.le_trans hk.size hb.size, fun k hk' hc => (hb.block k (by omega)).trans (hk.block k hk' hc)⟩, hI _ _ _ (hb.mono (by omega)) hi⟩,
        (hb.block _ (by omega)).trans hl, (hb.block _ (by omega)).trans hd⟩
    · rintro s X Y hb ⟨c, ⟨hk, hi⟩, hl, hd⟩
      rw [hs1] at hb
      exact ⟨c, ⟨⟨hb.os.trans hk.os, hb.tape.trans hk.tape, hb.output.trans hk.output, Nat.le_trans hk.size hb.size, fun k hk' hc => (hb.block k (by omega)).trans (hk.block k hk' hc)⟩, hIx _ _ _ _ (hb.mono (by omega)) hi⟩,
        (hb.block _ (by omega)).trans hl, (hb.block _ (by omega)).trans hd⟩
    · -- ONE ROUND
      rintro pre x rest W hxs hsz ⟨⟨hbk, hi⟩, hl, hk⟩
      have hlt : w.heap.size + 1 < W.heap.size := by omega
      have hy := run_yield (P := P) (args := encs x) hl (by rw [hrec]; exact hps x)
      rw [hrec] at hy
      refine ⟨fn, _, assign, body, hy, roundIn_of_wpIn hfn (wpIn_mono (hround _ pre x rest W hxs) ?_)⟩
      clear hy
      rintro e a1 Wa h1
      cases e with
      | ret => exact h1.elim
      | exit id => exact h1.elim
      | goto t => exact h1.elim
      | panic ch => exact h1.elim
      | outgrown => exact h1.elim
      | normal =>
      obtain ⟨rfl, hbody⟩ := h1
      have hA : Below W.heap.size W (W.alloc (.cells (cs x) t)) := (Below.refl _ W).alloc (Nat.le_refl _) _
      have hBx : Blk (W.alloc (.cells (cs x) t)) W.heap.size t (cs x) := Blk.new W t (cs x)
      have hszA : (W.alloc (.cells (cs x) t)).heap.size = W.heap.size + 1 := by simp
      generalize W.alloc (.cells (cs x) t) = Wa at hA hBx hszA
      have hla : Wa.heap[w.heap.size + 1]? = some (.loop (rec .ready none)) := (hA.block _ hlt).trans hl
      have hka : Wa.heap[w.heap.size]? = some (.deferred (some [])) := (hA.block _ (by omega)).trans hk
      refine ⟨_, run_beginRound hla (by rw [hrec]), ?_⟩
      have hl2 : (Wa.putObj (w.heap.size + 1) (.loop { rec .ready none with state := .busy })).heap[w.heap.size + 1]? = some (.loop { rec .ready none with state := .busy }) := World.putObj_heap_same (by omega)
      have hk2 : (Wa.putObj (w.heap.size + 1) (.loop { rec .ready none with state := .busy })).heap[w.heap.size]? = some (.deferred (some [])) := (World.putObj_heap_other (by omega)).trans hka
      have hbx2 : Blk (Wa.putObj (w.heap.size + 1) (.loop { rec .ready none with state := .busy })) W.heap.size t (cs x) := (World.putObj_heap_other (by omega)).trans hBx
      have hsz2 : (Wa.putObj (w.heap.size + 1) (.loop { rec .ready none with state := .busy })).heap.size = W.heap.size + 1 := by rw [size_putObj]; exact hszA
      have hW2 : ∀ k, k < W.heap.size → k ≠ w.heap.size + 1 → (Wa.putObj (w.heap.size + 1) (.loop { rec .ready none with state := .busy })).heap[k]? = W.heap[k]? := fun k hk hne => (World.putObj_heap_other (by omega)).trans (hA.block k hk)
      have hbw2 : Below w.heap.size W (Wa.putObj (w.heap.size + 1) (.loop { rec .ready none with state := .busy })) := (hA.mono (by omega)).trans (hput _ _)
      have hb2 := (hbk.trans (But.of_below hA)).put (l := w.heap.size + 1) (by omega) (.loop { rec .ready none with state := .busy })
      refine wpIn_mono (hbody _ hb2 (hI _ _ _ hbw2 hi) hbx2 (by omega)) ?_
      have hnC : ∀ b, w.heap.size ≤ b → ¬ C b := fun b hb hc => by have := hC b hc; omega
      have fin : ∀ (jump : Option Code) (W3 : World), But C (Wa.putObj (w.heap.size + 1) (.loop { rec .ready none with state := .busy })) W3 →
          (Instr.endRound (w.heap.size + 1) jump).run P W3 = .ok (.bool jump.isNone) (W3.putObj (w.heap.size + 1) (.loop (rec (if jump.isNone then .ready else .done) jump))) ∧
          (W3.putObj (w.heap.size + 1) (.loop (rec (if jump.isNone then .ready else .done) jump))).heap[w.heap.size + 1]? = some (.loop (rec (if jump.isNone then .ready else .done) jump)) ∧
          (W3.putObj (w.heap.size + 1) (.loop (rec (if jump.isNone then .ready else .done) jump))).heap[w.heap.size]? = some (.deferred (some [])) := fun jump W3 hk3 => by
        have hl3 := (hk3.block _ (by omega) (hnC _ (by omega))).trans hl2
        have hk3' := (hk3.block w.heap.size (by omega) (hnC _ (by omega))).trans hk2
        have := run_endRound (P := P) jump hl3
        rw [hrec] at this ⊢
        exact ⟨this, World.putObj_heap_same (Array.getElem?_eq_some_iff.1 hl3).1, (World.putObj_heap_other (by omega)).trans hk3'⟩
      rintro e a3 W3 hp
      cases e with
      | normal =>
        obtain ⟨hk3, hi3⟩ := hp
        obtain ⟨hr, hl4, hk4⟩ := fin none W3 hk3
        refine ⟨_, _, hr, .inl ⟨rfl, ⟨⟨(hb2.trans hk3).put (by omega) _, hI _ _ _ (hput _ _) hi3⟩, hl4, hk4⟩, ?_, fun k hk' hk2' => ?_⟩⟩
        · have h3 := hk3.size
          rw [hsz2] at h3
          rw [size_putObj]; omega
        · rw [World.putObj_heap_other (by omega), hk3.block k (by rw [hsz2]; omega) (hnC k (by omega)), hW2 k hk2' (by omega)]
      | ret =>
        obtain ⟨hk3, hi3⟩ := hp
        obtain ⟨hr, hl4, hk4⟩ := fin (some .ret) W3 hk3
        exact ⟨_, _, hr, .inr ⟨rfl, .ret, ⟨(hb2.trans hk3).put (by omega) _, hIx _ _ _ _ (hput _ _) hi3⟩, hl4, hk4⟩⟩
      | exit id =>
        obtain ⟨hk3, hi3⟩ := hp
        obtain ⟨hr, hl4, hk4⟩ := fin (some (.exit id)) W3 hk3
        exact ⟨_, _, hr, .inr ⟨rfl, .exit id, ⟨(hb2.trans hk3).put (by omega) _, hIx _ _ _ _ (hput _ _) hi3⟩, hl4, hk4⟩⟩
      | goto t =>
        obtain ⟨hk3, hi3⟩ := hp
        obtain ⟨hr, hl4, hk4⟩ := fin (some (.goto t)) W3 hk3
        exact ⟨_, _, hr, .inr ⟨rfl, .goto t, ⟨(hb2.trans hk3).put (by omega) _, hIx _ _ _ _ (hput _ _) hi3⟩, hl4, hk4⟩⟩
      | panic ch => exact hp.elim
      | outgrown => exact hp.elim
    · -- BEHIND THE ITERATOR
      rintro e W2 ⟨⟨v, rfl⟩, (⟨⟨hb, hi⟩, hl, hk⟩ | ⟨pre, x, rest, hxs, c, ⟨hb, hi⟩, hl, hk⟩)⟩
      · exact ⟨none, _, by have := run_endLoop (P := P) hl (by rw [hrec]; simp); rw [hrec] at this; exact this, hdone _ _ (Nat.le_refl _) (hb.put (by omega) _) (hI _ _ _ (hput _ _) hi) ((World.putObj_heap_other (by omega)).trans hk)⟩
      · exact ⟨some c, _, by have := run_endLoop (P := P) hl (by rw [hrec]; simp); rw [hrec] at this; exact this, hstop _ c pre x rest _ (Nat.le_refl _) hxs (hb.put (by omega) _) (hIx _ _ _ _ (hput _ _) hi) ((World.putObj_heap_other (by omega)).trans hk)⟩

theorem wpIn_rangeRuns {α : Type} {g : Operand} {ps : Array Tmp} {assign body : Code} {Q : Exit → Act → World → Prop} {a : Act} {w : World}
    (hro : F.round = none) (h1 : 1 ≤ n) {gf : Nat} {lb : Array Value} (hg : a.eval g = .func (.func gf) #[] lb) (hFg : F.fn gf) (eg : ∀ args w, (callFunc gf args).run P w = .ok (.enter gf args) w)
    {encs : α → Array Value} {xs : List α} {w0 : World} (hseq : SeqRuns F (n - 1) P gf lb encs xs w0) (hb0 : Below w0.heap.size w0 w) (hps : ∀ x, (encs x).size = ps.size)
    (C : Nat → Prop) (hC : ∀ b, C b → b < w.heap.size)
    (I : List α → World → Prop) (Ix : Code → List α → World → Prop) (hI : OnlyBelow w.heap.size I) (hIx : ∀ c, OnlyBelow w.heap.size (Ix c)) (h0 : I [] w)
    (t : TypeId) (cs : α → Array Value) (act : α → Nat → Act)
    (hassign : ∀ (l : Nat) (x : α) (W : World) (K : Act → World → Prop), x ∈ xs → K (act x W.heap.size) (W.alloc (.cells (cs x) t)) →
      assign.wpIn (F.inRound l) (n - 1 - 1) P (Exit.then K (fun _ _ _ => False)) { tmps := (ps.zip (encs x)).foldl (fun t (p, v) => t.setIfInBounds p v) a.tmps, defers := [] } W)
    (hbody : ∀ (l : Nat) (pre : List α) (x : α) (rest : List α) (W : World) (Bx : Nat), xs = pre ++ x :: rest → But C w W → I pre W → Blk W Bx t (cs x) → w.heap.size < Bx →
      body.wpIn (F.inRound l) (n - 1 - 1) P (roundP C I Ix (pre ++ [x]) W) (act x Bx) W)
    (hdone : ∀ (D : Nat) (W : World), w.heap.size ≤ D → But C w W → I xs W → W.heap[D]? = some (.deferred (some [])) → Q .normal { a with defers := { target := .collected D, args := #[] } :: a.defers } W)
    (hstop : ∀ (D : Nat) (c : Code) (pre : List α) (x : α) (rest : List α) (W : World), w.heap.size ≤ D → xs = pre ++ x :: rest → But C w W → Ix c (pre ++ [x]) W → W.heap[D]? = some (.deferred (some [])) → c.wpIn F n P Q { a with defers := { target := .collected D, args := #[] } :: a.defers } W) :
    (Code.rangeFunc g ps assign body).wpIn F n P Q a w :=
  wpIn_rangeRuns2 hro h1 hg hFg eg hseq hb0 hps C hC I Ix hI hIx h0 t cs (fun l pre x rest W hxs =>
    hassign l x W _ (by rw [hxs]; simp) ⟨rfl, fun W2 h1 h2 h3 h4 => hbody l pre x rest W2 W.heap.size hxs h1 h2 h3 h4⟩) hdone hstop

theorem Blk.put {X : World} {g : Nat} {t : TypeId} {cs : Array Value} (h : Blk X g t cs) {D : Nat} (hD : g ≠ D) (o : Obj) : Blk (X.putObj D o) g t cs := (World.putObj_heap_other hD).trans h
theorem def_keep {X : World} {D : Nat} {o : Obj} (h : X.heap[D]? = some o) {p : Addr} (hp : D ≠ p.block) (v : Value) : (X.setCell p v).heap[D]? = some o := (Below.heap_setCell X p v D hp).trans h
/-- It is left ahead of the range. -/
theorem leave_none {fn : Func} {R : Ending → World → Prop} {a : Act} {W : World} {v : Value} (hd : a.defers = []) (hr : (results fn a.tmps).run P W = .ok v W) (hR : R (.returned v) W) : bodyPostM F n P fn R .ret a W := by
  show LeavesInM F n P fn a.tmps R a.defers .returning W
  rw [hd]
  exact ⟨_, hr, hR⟩
/-- A function that holds one range over a function is left: its mark is shut. -/
theorem leave_mark {fn : Func} {R : Ending → World → Prop} {a : Act} {W : World} {D : Nat} {v : Value} (hd : a.defers = [{ target := .collected D, args := #[] }]) (hK : W.heap[D]? = some (.deferred (some [])))
    (hr : (results fn a.tmps).run P (W.putObj D (.deferred none)) = .ok v (W.putObj D (.deferred none))) (hR : R (.returned v) (W.putObj D (.deferred none))) : bodyPostM F n P fn R .ret a W := by
  show LeavesInM F n P fn a.tmps R a.defers .returning W
  rw [hd]
  exact ⟨by simp, .inl ⟨_, _, rfl, run_takeDeferred hK, ⟨_, hr, hR⟩⟩⟩
end Go.Proofs.YtcloppcekbdbaaaDoor

namespace Venn
def num : List Int → Int
  | [a0, a1, a2, a3, a4, a5, a6, a7] => a0 * 5764801 + a1 * 823543 + a2 * 117649 + a3 * 16807 + a4 * 2401 + a5 * 343 + a6 * 49 + a7 * 7
  | _ => 0
def rank (x : List Int) : Nat := (100000000 - num x).toNat
end Venn
namespace Go.Proofs.YtcloppcekbdbaaaDoor
open Go.RowKit Go.Shelf
attribute [local go_sem] Oper.semAt_some

def intVal : Value → Int
  | .int _ i => i
  | _ => 0
/-- How many counts are left, at most. -/
def leftOf (g : Nat) (i : Value) (W : World) : Nat := match i with
  | .bool true => (match W.heap[g]? with | some (.cells cs _ _) => Venn.rank (cs.toList.map intVal) | _ => 0) + 1
  | _ => 0
theorem map_intVal : ∀ (x : List Int), List.map (intVal ∘ Value.int IntKind.i64) x = x
  | [] => rfl
  | a :: x => by rw [List.map_cons, map_intVal x]; rfl
theorem leftOf_true {g : Nat} {W : World} {t : TypeId} {x : List Int} (h : Blk W g t (x.map (Value.int .i64)).toArray) : leftOf g (.bool true) W = Venn.rank x + 1 := by
  unfold leftOf
  unfold Blk at h
  rw [h]
  simp only [List.map_map]
  have : (List.map (intVal ∘ Value.int IntKind.i64) x) = x := by
    exact map_intVal x
  rw [this]
theorem leftOf_false (g : Nat) (W : World) : leftOf g (.bool false) W = 0 := rfl

theorem Blk.set8 {w : World} {g : Nat} {t : TypeId} {y0 y1 y2 y3 y4 y5 y6 y7 : Value} (h : Blk w g t #[y0, y1, y2, y3, y4, y5, y6, y7]) (x0 x1 x2 x3 x4 x5 x6 x7 : Value) :
    Blk ((((((((w.setCell ⟨g, 0, none⟩ x0).setCell ⟨g, 1, none⟩ x1).setCell ⟨g, 2, none⟩ x2).setCell ⟨g, 3, none⟩ x3).setCell ⟨g, 4, none⟩ x4).setCell ⟨g, 5, none⟩ x5).setCell ⟨g, 6, none⟩ x6).setCell ⟨g, 7, none⟩ x7) g t #[x0, x1, x2, x3, x4, x5, x6, x7] := by
  have := (((((((h.set_ 0 x0).set_ 1 x1).set_ 2 x2).set_ 3 x3).set_ 4 x4).set_ 5 x5).set_ 6 x6).set_ 7 x7
  have e : (((((((#[y0, y1, y2, y3, y4, y5, y6, y7].setIfInBounds 0 x0).setIfInBounds 1 x1).setIfInBounds 2 x2).setIfInBounds 3 x3).setIfInBounds 4 x4).setIfInBounds 5 x5).setIfInBounds 6 x6).setIfInBounds 7 x7 = #[x0, x1, x2, x3, x4, x5, x6, x7] := by simp
  rw [e] at this
  exact this
theorem rank_after {a0 a1 a2 a3 a4 a5 a6 a7 : Int} (hp : (0 ≤ a0 ∧ a0 ≤ 6) ∧ (0 ≤ a1 ∧ a1 ≤ 6) ∧ (0 ≤ a2 ∧ a2 ≤ 6) ∧ (0 ≤ a3 ∧ a3 ≤ 6) ∧ (0 ≤ a4 ∧ a4 ≤ 6) ∧ (0 ≤ a5 ∧ a5 ≤ 6) ∧ (0 ≤ a6 ∧ a6 ≤ 6) ∧ (0 ≤ a7 ∧ a7 ≤ 6)) {y : List Int} (h : Venn.afterC [a0, a1, a2, a3, a4, a5, a6, a7] = some y) : Venn.rank y < Venn.rank [a0, a1, a2, a3, a4, a5, a6, a7] := by
  simp only [Venn.afterC] at h
  unfold Venn.rank
  repeat' split at h
  all_goals first
    | (simp only [Option.some.injEq] at h; subst h; simp only [Venn.num]; omega)
    | cases h

end Go.Proofs.YtcloppcekbdbaaaDoor

namespace Go.Proofs.YtcloppcekbdbaaaDoor
open Go.RowKit Go.Shelf
attribute [local go_sem] Oper.semAt_some

section
variable {X Y : World} {C : Nat → Prop}
theorem But.set8 (h : But C X Y) {p : Nat} (hp : C p) (x0 x1 x2 x3 x4 x5 x6 x7 : Value) :
    But C X ((((((((Y.setCell ⟨p, 0, none⟩ x0).setCell ⟨p, 1, none⟩ x1).setCell ⟨p, 2, none⟩ x2).setCell ⟨p, 3, none⟩ x3).setCell ⟨p, 4, none⟩ x4).setCell ⟨p, 5, none⟩ x5).setCell ⟨p, 6, none⟩ x6).setCell ⟨p, 7, none⟩ x7) :=
  (((((((h.set_ (p := ⟨p, 0, none⟩) hp _).set_ (p := ⟨p, 1, none⟩) hp _).set_ (p := ⟨p, 2, none⟩) hp _).set_ (p := ⟨p, 3, none⟩) hp _).set_ (p := ⟨p, 4, none⟩) hp _).set_ (p := ⟨p, 5, none⟩) hp _).set_ (p := ⟨p, 6, none⟩) hp _).set_ (p := ⟨p, 7, none⟩) hp _
theorem Blk.far8 {g : Nat} {t : TypeId} {cs : Array Value} (h : Blk X g t cs) {p : Nat} (hp : g ≠ p) (x0 x1 x2 x3 x4 x5 x6 x7 : Value) :
    Blk ((((((((X.setCell ⟨p, 0, none⟩ x0).setCell ⟨p, 1, none⟩ x1).setCell ⟨p, 2, none⟩ x2).setCell ⟨p, 3, none⟩ x3).setCell ⟨p, 4, none⟩ x4).setCell ⟨p, 5, none⟩ x5).setCell ⟨p, 6, none⟩ x6).setCell ⟨p, 7, none⟩ x7) g t cs :=
  (((((((h.far (p := ⟨p, 0, none⟩) hp _).far (p := ⟨p, 1, none⟩) hp _).far (p := ⟨p, 2, none⟩) hp _).far (p := ⟨p, 3, none⟩) hp _).far (p := ⟨p, 4, none⟩) hp _).far (p := ⟨p, 5, none⟩) hp _).far (p := ⟨p, 6, none⟩) hp _).far (p := ⟨p, 7, none⟩) hp _
theorem hK8 {o : Obj} {D : Nat} (h : X.heap[D]? = some o) {p : Nat} (hp : D ≠ p) (x0 x1 x2 x3 x4 x5 x6 x7 : Value) :
    ((((((((X.setCell ⟨p, 0, none⟩ x0).setCell ⟨p, 1, none⟩ x1).setCell ⟨p, 2, none⟩ x2).setCell ⟨p, 3, none⟩ x3).setCell ⟨p, 4, none⟩ x4).setCell ⟨p, 5, none⟩ x5).setCell ⟨p, 6, none⟩ x6).setCell ⟨p, 7, none⟩ x7).heap[D]? = some o :=
  def_keep (p := ⟨p, 7, none⟩) (def_keep (p := ⟨p, 6, none⟩) (def_keep (p := ⟨p, 5, none⟩) (def_keep (p := ⟨p, 4, none⟩) (def_keep (p := ⟨p, 3, none⟩) (def_keep (p := ⟨p, 2, none⟩) (def_keep (p := ⟨p, 1, none⟩) (def_keep (p := ⟨p, 0, none⟩) h hp _) hp _) hp _) hp _) hp _) hp _) hp _) hp _
end
/-- Counts as cells. -/
abbrev cells (x : List Int) : Array Value := (x.map (Value.int .i64)).toArray
abbrev zero8 : Array Value := #[.int .i64 0, .int .i64 0, .int .i64 0, .int .i64 0, .int .i64 0, .int .i64 0, .int .i64 0, .int .i64 0]
def firstV (o : Option (List Int)) : Value := match o with
  | some x => .tuple #[.agg (cells x), .bool true]
  | none => .tuple #[.agg zero8, .bool false]

end Go.Proofs.YtcloppcekbdbaaaDoor
