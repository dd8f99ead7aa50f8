/-
  THE WALKS of span.Of and span.Exact.
  WORDS FOR LISTS OF FORMULAS IN MEMORY, and the walks of core.Check, core.So.
  THE WALK of form.Own: a copy of a formula, the call's own.
  LISTS OF LISTS of integers in memory: a slice that reads as one; a row of the call's own whose cells are slices.
  THE WALKS of slices.IndexFunc, slices.ContainsFunc (at integers, and at lists of these; the predicate may lay blocks of its own), slices.Equal, slices.Grow of nil, slices.Concat of two.
-/
import Derived.Test.YtcloppcekbdbaaaDoorFitG
import Derived.Test.YtcloppcekbdbaaaDoorFormG
import Derived.Test.YtcloppcekbdbaaaDoorSetsT
import Derived.Test.YtcloppcekbdbaaaDoorVennP2
import Derived.Test.YtcloppcekbdbaaaDoorOwnG
import Derived.Deep.RegionLaw
import Derived.Deep.RegionHeld3
import Derived.Test.YtcloppcekbdbaaaDoorRowG
import Derived.Lib.AppendZeros
import Derived.Lib.Walk
namespace Go.Proofs.YtcloppcekbdbaaaDoor
open Go.RowKit Go.Shelf
attribute [local go_sem] Oper.semAt_some

theorem Blk.cells2 {w : World} {g : Nat} {t : TypeId} {x0 x1 : Value} (h : Blk w g t #[x0, x1]) :
    (w.cell? ⟨g, 0, none⟩ = some x0 ∧ w.cell? ⟨g, 1, none⟩ = some x1) ∧ (w.frozen? ⟨g, 0, none⟩ = false ∧ w.frozen? ⟨g, 1, none⟩ = false) :=
  ⟨⟨h.cell 0, h.cell 1⟩, h.frozen 0, h.frozen 1⟩
theorem Blk.set2 {w : World} {g : Nat} {t : TypeId} {y0 y1 : Value} (h : Blk w g t #[y0, y1]) (x0 x1 : Value) : Blk ((w.setCell ⟨g, 0, none⟩ x0).setCell ⟨g, 1, none⟩ x1) g t #[x0, x1] := by
  have := (h.set_ 0 x0).set_ 1 x1
  have e : ((#[y0, y1].setIfInBounds 0 x0).setIfInBounds 1 x1) = #[x0, x1] := by simp
  rw [e] at this
  exact this
theorem below_set2 {B : Nat} {a w : World} (h : Below B a w) {g : Nat} (hg : B ≤ g) (x0 x1 : Value) : Below B a ((w.setCell ⟨g, 0, none⟩ x0).setCell ⟨g, 1, none⟩ x1) :=
  (h.setCell (p := ⟨g, 0, none⟩) hg _).setCell (p := ⟨g, 1, none⟩) hg _
theorem blk_eq2 {w : World} {g : Nat} {t : TypeId} {a b a' b' : Int} (h : Blk w g t #[.int .i64 a, .int .i64 b]) (h1 : a = a') (h2 : b = b') : Blk w g t #[.int .i64 a', .int .i64 b'] := by rw [← h1, ← h2]; exact h
theorem below_put {B : Nat} {a W : World} (h : Below B a W) {D : Nat} (hD : B ≤ D) (o : Obj) : Below B a (W.putObj D o) :=
  ⟨h.os, h.tape, h.output, by rw [size_putObj]; exact h.size, fun k hk => (World.putObj_heap_other (by omega)).trans (h.block k hk)⟩
theorem spanChk_parts {f : Venn.Form} {t : List Int} {u : Int} (h1 : Venn.formChk f = 0) (h2 : Venn.termChk t = 0) (h3 : Venn.things u = true) :
    Venn.spanChk f t u = if (Venn.spanGo f t u (Venn.allC u)).2 < 0 then 5 else 0 := by
  rw [Venn.spanChk, if_pos h1, if_pos h2, if_pos h3]
def spanVv (f : Venn.Form) (t : List Int) (u : Int) : Value := .tuple #[.agg #[.int .i64 (Venn.spanV f t u).1, .int .i64 (Venn.spanV f t u).2], errV (Venn.spanChk f t u)]
theorem spanVv_bad {f : Venn.Form} {t : List Int} {u e : Int} (h : Venn.spanChk f t u = e) (he : e ≠ 0) : spanVv f t u = .tuple #[.agg #[.int .i64 0, .int .i64 0], .iface 52 (.int .i64 e)] := by
  rw [spanVv, Venn.spanV, if_neg (by rw [h]; exact he), h, errV_ne he]
theorem wrap1 {u : Int} (hu : Venn.things u = true) : IntKind.i64.wrap (u + 1) = u + 1 := by
  simp only [Venn.things, Bool.and_eq_true, decide_eq_true_eq] at hu
  exact IntWalk.i64_in _ (by omega)

def exactVv (f : Venn.Form) (t : List Int) (u : Int) : Value := .tuple #[.int .i64 (Venn.exactV f t u), errV (Venn.exactChk f t u)]
end Go.Proofs.YtcloppcekbdbaaaDoor

namespace Go.Proofs.YtcloppcekbdbaaaDoor
open Go.RowKit Go.Shelf

/-- A slice of formulas reads as l. -/
def IsForms (w : World) (v : Value) (l : List Venn.Form) : Prop :=
  ∃ A c, v = .slice A l.length c ∧ (∀ (k : Nat) (f : Venn.Form), l[k]? = some f → ∃ ad sa sc, A = some ad ∧ w.cell? (ad.add (k * 2)) = some sa ∧ w.cell? ⟨(ad.add (k * 2)).block, (ad.add (k * 2)).off + 1, none⟩ = some sc ∧
    IsAtoms w sa f.atoms ∧ IsInts w sc f.code) ∧ l.length ≤ c ∧ c ≤ maxLen
theorem IsForms.keep {w w' : World} {v : Value} {l : List Venn.Form} (h : IsForms w v l) (hb : Below w.heap.size w w') : IsForms w' v l := by
  obtain ⟨A, c, hv, hr, hc⟩ := h
  refine ⟨A, c, hv, fun k a ha => ?_, hc⟩
  obtain ⟨ad, sa, sc, e, h0, h1, hs, ht⟩ := hr k a ha
  exact ⟨ad, sa, sc, e, cell_keep hb h0, cell_keep hb h1, hs.keep hb, ht.keep hb⟩
theorem IsForms.nil (w : World) : IsForms w (.slice none 0 0) [] := ⟨none, 0, rfl, fun k a h => by simp at h, Nat.le_refl _, by simp⟩
theorem IsForms.one {w : World} {g : Nat} {t : TypeId} {f : Venn.Form} {sa sc : Value} (h : Blk w g t #[sa, sc]) (ha : IsAtoms w sa f.atoms) (hc : IsInts w sc f.code) : IsForms w (.slice (some ⟨g, 0, none⟩) 1 1) [f] := by
  refine ⟨_, _, rfl, fun k x hx => ?_, Nat.le_refl _, by simp [maxLen]⟩
  match k, hx with
  | 0, hx =>
    simp at hx
    subst hx
    exact ⟨_, sa, sc, rfl, h.cell 0, h.cell 1, ha, hc⟩
theorem IsAtoms.slice {w : World} {v : Value} {l : List Venn.Atom} (h : IsAtoms w v l) : ∃ A c, v = .slice A l.length c := let ⟨A, c, e, _⟩ := h; ⟨A, c, e⟩
theorem IsInts.slice {w : World} {v : Value} {l : List Int} (h : IsInts w v l) : ∃ A c, v = .slice A l.length c := let ⟨A, c, e, _⟩ := h; ⟨A, c, e⟩

/-- The first that does not hold. -/
def idxF (W : Venn.World) : List Venn.Form → Nat → Int
  | [], _ => -1
  | f :: r, k => if Venn.formTrue f W = true then idxF W r (k + 1) else k
theorem idxF_nonneg (W : Venn.World) : ∀ (l : List Venn.Form) (k : Nat), decide (0 ≤ idxF W l k) = !Venn.formsTrue l W := by
  intro l
  induction l with
  | nil => intro k; simp [idxF, Venn.formsTrue]
  | cons f l ih =>
    intro k
    unfold idxF
    have e : Venn.formsTrue (f :: l) W = (Venn.formTrue f W && Venn.formsTrue l W) := rfl
    by_cases h : Venn.formTrue f W = true
    · rw [if_pos h, ih, e, h, Bool.true_and]
    · have h' : Venn.formTrue f W = false := by simpa using h
      rw [if_neg h, e, h']; simp
end Go.Proofs.YtcloppcekbdbaaaDoor

namespace Go.Proofs.YtcloppcekbdbaaaDoor
open Go.RowKit

theorem aCells_set : ∀ (p1 : List AV) (x : AV) (rest : List AV) (sv tv : Value), ((aCells (p1 ++ x :: rest)).set (p1.length * 4 + 1) sv).set (p1.length * 4 + 2) tv = aCells (p1 ++ (x.1, sv, tv) :: rest) := by
  intro p1
  induction p1 with
  | nil => intro x rest sv tv; rfl
  | cons y p1 ih =>
    intro x rest sv tv
    rw [List.length_cons, Nat.succ_mul, show p1.length * 4 + 4 + 1 = p1.length * 4 + 1 + 4 by omega, show p1.length * 4 + 4 + 2 = p1.length * 4 + 2 + 4 by omega]
    simp only [List.cons_append, aCells, List.set_cons_succ]
    rw [ih]
theorem own_cons {w : World} {base : Nat} {e : TypeId} {size : Nat} {v : Value} {n : Nat} {xs : List Value} (h : w.ownsRow base e size v n xs) (hn : 0 < n) :
    ∃ g cap cur, v = .slice (some ⟨g, 0, none⟩) n cap ∧ base ≤ g ∧ Blk w g e cur ∧ n ≤ cap ∧ cap ≤ maxLen ∧ cur.size = cap * size ∧ cur.toList.take (n * size) = xs := by
  rcases h.2 with ⟨_, h0⟩ | ⟨g, cap, cur, e1, e2, e3, e4, e5, e6, e7⟩
  · omega
  · exact ⟨g, cap, cur, e1, e2, e3, e4, e5, e6, e7⟩

/-- A formula of a call's own: its two rows, and what its atoms' slices hold. -/
structure OwnForm (B : Nat) (w' : World) (va vc : Value) (p : List AV) (c : List Int) : Prop where
  aRow : w'.ownsRow B 31 4 va p.length (aCells p)
  cRow : w'.ownsRow B 3 1 vc c.length (c.map (Value.int .i64))
  ok : AOk w' p
  ne : ∀ a b, va.ownBlock = some a → vc.ownBlock = some b → a < b
  far : ∀ x ∈ p, ∀ b, (x.2.1.ownBlock = some b ∨ x.2.2.ownBlock = some b) → B ≤ b ∧ va.ownBlock ≠ some b ∧ vc.ownBlock ≠ some b
def OwnPost (l : List Venn.Atom) (c : List Int) (w : World) (e : Ending) (w' : World) : Prop :=
  ∃ (p : List AV) (ga ka gc kc : Nat), e = .returned (.agg #[.slice (some ⟨ga, 0, none⟩) l.length ka, .slice (some ⟨gc, 0, none⟩) c.length kc]) ∧ Below w.heap.size w w' ∧ p.map (fun x : AV => x.1) = l ∧
    OwnForm w.heap.size w' (.slice (some ⟨ga, 0, none⟩) l.length ka) (.slice (some ⟨gc, 0, none⟩) c.length kc) p c
theorem OwnForm.isAtoms {B : Nat} {w : World} {va vc : Value} {p : List AV} {c : List Int} (h : OwnForm B w va vc p c) : IsAtoms w va (p.map (fun x : AV => x.1)) := atoms_of_own h.aRow h.ok
theorem OwnForm.isInts {B : Nat} {w : World} {va vc : Value} {p : List AV} {c : List Int} (h : OwnForm B w va vc p c) : IsInts w vc c := IsInts.of_own h.cRow

theorem OwnForm.but {C : Nat → Prop} {B : Nat} {w w' : World} {va vc : Value} {p : List AV} {c : List Int} (h : OwnForm B w va vc p c) (hb : But C w w') (hc : ∀ b, C b → b < B) : OwnForm B w' va vc p c :=
  ⟨own_but h.aRow hb fun b e hC => by have := (h.aRow.lt b e).1; have := hc b hC; omega, own_but h.cRow hb fun b e hC => by have := (h.cRow.lt b e).1; have := hc b hC; omega,
    h.ok.but hb fun x hx b e hC => by have := (h.far x hx b e).1; have := hc b hC; omega, h.ne, h.far⟩
theorem OwnForm.mono {B B' : Nat} {w : World} {va vc : Value} {p : List AV} {c : List Int} (h : OwnForm B w va vc p c) (hb : B' ≤ B) : OwnForm B' w va vc p c :=
  ⟨own_base h.aRow hb, own_base h.cRow hb, h.ok, h.ne, fun x hx b e => ⟨Nat.le_trans hb (h.far x hx b e).1, (h.far x hx b e).2⟩⟩
theorem OwnForm.keep {B : Nat} {w w' : World} {va vc : Value} {p : List AV} {c : List Int} (h : OwnForm B w va vc p c) (hb : Below w.heap.size w w') : OwnForm B w' va vc p c :=
  h.but (But.of_below (C := fun _ => False) hb) fun _ h => h.elim
/-- The loop's state: k atoms have their own slices. -/
structure OwnAt (w wr : World) (p p1 : List AV) (va vc : Value) (ga ka gc : Nat) (qc cur : Array Value) (k : Nat) : Prop where
  below : Below w.heap.size w wr
  box : Blk wr w.heap.size 25 #[va, vc]
  res : Blk wr (w.heap.size + 1) 25 #[.slice none 0 0, .slice none 0 0]
  row : Blk wr ga 31 cur
  size : cur.size = ka * 4
  cells : cur.toList.take (p.length * 4) = aCells (p1 ++ p.drop k)
  done : p1.map (fun x : AV => x.1) = (p.take k).map (fun x : AV => x.1)
  ok : AOk wr p1
  far : ∀ x ∈ p1, ∀ b, (x.2.1.ownBlock = some b ∨ x.2.2.ownBlock = some b) → gc < b
  code : Blk wr gc 3 qc
  lo : w.heap.size + 1 < ga
  lt : ga < gc
theorem OwnAt.step {w wr w2 : World} {p p1 : List AV} {va vc : Value} {ga ka gc : Nat} {qc cur : Array Value} {k : Nat} (h : OwnAt w wr p p1 va vc ga ka gc qc cur k) {x : AV} (hx : p[k]? = some x) (hb : Below wr.heap.size wr w2)
    {sv tv : Value} (hs : IsInts w2 sv x.1.s) (ht : IsInts w2 tv x.1.t) (hsb : ∀ b, sv.ownBlock = some b → wr.heap.size ≤ b) (htb : ∀ b, tv.ownBlock = some b → wr.heap.size ≤ b) :
    OwnAt w ((w2.setCell ⟨ga, k * 4 + 1, none⟩ sv).setCell ⟨ga, k * 4 + 2, none⟩ tv) p (p1 ++ [(x.1, sv, tv)]) va vc ga ka gc qc ((cur.setIfInBounds (k * 4 + 1) sv).setIfInBounds (k * 4 + 2) tv) (k + 1) := by
  have hk := (List.getElem?_eq_some_iff.1 hx).1
  have hxe := (List.getElem?_eq_some_iff.1 hx).2
  have hgl := h.row.lt
  have hcl := h.code.lt
  have hlen : p1.length = k := by
    have := congrArg List.length h.done
    simp only [List.length_map, List.length_take] at this
    omega
  have hbut : But (fun b => b = ga) w2 ((w2.setCell ⟨ga, k * 4 + 1, none⟩ sv).setCell ⟨ga, k * 4 + 2, none⟩ tv) :=
    ((But.refl (fun b => b = ga) w2).set_ (p := ⟨ga, k * 4 + 1, none⟩) rfl sv).set_ (p := ⟨ga, k * 4 + 2, none⟩) rfl tv
  have hlo := h.lo
  have hlt := h.lt
  refine ⟨?_, ?_, ?_, ?_, ?_, ?_, ?_, ?_, ?_, ?_, hlo, hlt⟩
  · exact ((Below.next h.below hb).setCell (by show w.heap.size ≤ ga; omega) _).setCell (by show w.heap.size ≤ ga; omega) _
  · exact (h.box.keep hb).but hbut (by omega)
  · exact (h.res.keep hb).but hbut (by omega)
  · exact ((h.row.keep hb).set_ _ _).set_ _ _
  · simpa using h.size
  · have e := h.cells
    rw [List.drop_eq_getElem_cons hk, hxe] at e
    rw [Array.toList_setIfInBounds, Array.toList_setIfInBounds, List.take_set, List.take_set, e, ← hlen, aCells_set, hlen]
    simp
  · rw [List.map_append, h.done, List.take_succ_eq_append_getElem hk, List.map_append, hxe]
    rfl
  · intro y hy
    rcases List.mem_append.1 hy with hy | hy
    · have hf := h.far y hy
      exact ⟨((h.ok y hy).1.keep hb).but hbut fun b e => by have := hf b (.inl e); omega, ((h.ok y hy).2.keep hb).but hbut fun b e => by have := hf b (.inr e); omega⟩
    · rw [List.mem_singleton.1 hy]
      exact ⟨hs.but hbut fun b e => by have := hsb b e; omega, ht.but hbut fun b e => by have := htb b e; omega⟩
  · intro y hy b e
    rcases List.mem_append.1 hy with hy | hy
    · exact h.far y hy b e
    · rw [List.mem_singleton.1 hy] at e
      rcases e with e | e
      · have := hsb b e; omega
      · have := htb b e; omega
  · exact (h.code.keep hb).but hbut (by omega)
theorem OwnAt.cur {w wr : World} {p p1 : List AV} {va vc : Value} {ga ka gc : Nat} {qc cur : Array Value} {k : Nat} (h : OwnAt w wr p p1 va vc ga ka gc qc cur k) {x : AV} (hx : p[k]? = some x) :
    cur[k * 4]? = some (.int .i64 x.1.what) ∧ cur[k * 4 + 1]? = some x.2.1 ∧ cur[k * 4 + 2]? = some x.2.2 ∧ cur[k * 4 + 3]? = some (.int .i64 x.1.n) := by
  have hk := (List.getElem?_eq_some_iff.1 hx).1
  have hxe := (List.getElem?_eq_some_iff.1 hx).2
  have hlen : p1.length = k := by
    have := congrArg List.length h.done
    simp only [List.length_map, List.length_take] at this
    omega
  have hat : (p1 ++ p.drop k)[k]? = some x := by
    rw [List.drop_eq_getElem_cons hk, hxe, ← hlen]
    simp
  have key : ∀ i, i < p.length * 4 → cur[i]? = (aCells (p1 ++ p.drop k))[i]? := fun i hi => by
    rw [← h.cells, List.getElem?_take, if_pos hi]
    simp
  obtain ⟨c0, c1, c2, c3⟩ := aCells_at _ _ _ hat
  exact ⟨(key _ (by omega)).trans c0, (key _ (by omega)).trans c1, (key _ (by omega)).trans c2, (key _ (by omega)).trans c3⟩
theorem held_own {W : World} {f x : Nat} {tF tA : TypeId} {va vc a0 a3 sv tv : Value} (hB : Blk W f tF #[va, vc]) (hX : Blk W x tA #[a0, sv, tv, a3]) :
    W.cell? ⟨f, 0, none⟩ = some va ∧ W.cell? ⟨x, 1, none⟩ = some sv ∧ W.cell? ⟨x, 2, none⟩ = some tv := ⟨hB.cell 0, hX.cell 1, hX.cell 2⟩
/-- The loop's beginning: the two rows are copied. -/
def OwnStart (w wx : World) (p : List AV) (c : List Int) : Prop := ∃ (ga ka : Nat) (qa : Array Value) (gc kc : Nat) (qc : Array Value),
  OwnAt w wx p [] (.slice (some ⟨ga, 0, none⟩) p.length ka) (.slice (some ⟨gc, 0, none⟩) c.length kc) ga ka gc qc qa 0 ∧ p.length ≤ ka ∧ ka ≤ maxLen ∧ c.length ≤ kc ∧ kc ≤ maxLen ∧ qc.size = kc * 1 ∧ qc.toList.take (c.length * 1) = c.map (Value.int .i64)
/-- The loop's end. -/
theorem OwnAt.post {w wr : World} {p p1 : List AV} {c : List Int} {ga ka gc kc : Nat} {qc cur : Array Value} (h : OwnAt w wr p p1 (.slice (some ⟨ga, 0, none⟩) p.length ka) (.slice (some ⟨gc, 0, none⟩) c.length kc) ga ka gc qc cur p.length)
    (h1 : p.length ≤ ka) (h2 : ka ≤ maxLen) (h3 : c.length ≤ kc) (h4 : kc ≤ maxLen) (h5 : qc.size = kc * 1) (h6 : qc.toList.take (c.length * 1) = c.map (Value.int .i64)) :
    OwnForm (w.heap.size + 2) wr (.slice (some ⟨ga, 0, none⟩) p.length ka) (.slice (some ⟨gc, 0, none⟩) c.length kc) p1 c ∧ p1.map (fun x : AV => x.1) = p.map (fun x : AV => x.1) := by
  have hd : p1.map (fun x : AV => x.1) = p.map (fun x : AV => x.1) := by rw [h.done, List.take_length]
  have hlen : p1.length = p.length := by simpa using congrArg List.length hd
  have hlo := h.lo
  have hlt := h.lt
  have e := h.cells
  rw [List.drop_length, List.append_nil] at e
  refine ⟨⟨⟨by rw [aCells_len], .inr ⟨ga, ka, cur, by rw [hlen], by omega, h.row, by omega, h2, h.size, by rw [hlen]; exact e⟩⟩,
    ⟨by simp, .inr ⟨gc, kc, qc, rfl, by omega, h.code, h3, h4, h5, h6⟩⟩, h.ok, fun a b ea eb => ?_, fun x hx b eb => ?_⟩, hd⟩
  · simp only [Value.ownBlock, Option.some.injEq] at ea eb
    omega
  · have := h.far x hx b eb
    simp only [Value.ownBlock, ne_eq, Option.some.injEq]
    omega
theorem form_small {l : List Venn.Atom} {c : List Int} (h : Venn.formChk ⟨l, c⟩ = 0) : (0 < l.length ∧ l.length ≤ 6) ∧ (0 < c.length ∧ c.length ≤ 20) ∧ ∀ a ∈ l, a.s.length ≤ 12 ∧ a.t.length ≤ 12 := by
  obtain ⟨h1, h2, h3, h4, h5, _, _⟩ := Venn.formChk_parts h
  have ht : ∀ {t : List Int}, Venn.termChk t = 0 → t.length ≤ 12 := fun {t} h => by
    unfold Venn.termChk at h
    split at h
    · cases h
    split at h
    · cases h
    omega
  refine ⟨⟨h1, h2⟩, ⟨h3, h4⟩, fun a ha => ?_⟩
  obtain ⟨_, _, hs, ht1, ht2, _⟩ := Venn.atomChk_parts (Venn.atomsChk_mem h5 a ha)
  refine ⟨ht hs, ?_⟩
  cases hT : Venn.hasT a.what
  · rw [ht2 hT]; simp
  · exact ht (ht1 hT)

end Go.Proofs.YtcloppcekbdbaaaDoor

namespace Go.Proofs.YtcloppcekbdbaaaDoor
open Go.RowKit

/-- A list and the value of its slice. -/
abbrev LV := List Int × Value
def lCells (p : List LV) : List Value := p.map fun x => x.2
def lVals (p : List LV) : List (List Int) := p.map fun x => x.1
theorem lCells_len (p : List LV) : (lCells p).length = p.length := List.length_map _
theorem lVals_len (p : List LV) : (lVals p).length = p.length := List.length_map _
theorem lCells_app (p q : List LV) : lCells (p ++ q) = lCells p ++ lCells q := List.map_append
theorem lVals_app (p q : List LV) : lVals (p ++ q) = lVals p ++ lVals q := List.map_append
def LOk (w : World) (p : List LV) : Prop := ∀ x ∈ p, IsInts w x.2 x.1
theorem LOk.keep {w w' : World} {p : List LV} (h : LOk w p) (hb : Below w.heap.size w w') : LOk w' p := fun x hx => (h x hx).keep hb
theorem LOk.nil (w : World) : LOk w [] := fun x hx => by cases hx
theorem ints_one {w : World} {v : Value} {l : List Int} (h : IsInts w v l) : v.oneCell' = true := by
  obtain ⟨A, c, rfl, _⟩ := h
  rfl
theorem lCells_one {w : World} {p : List LV} (h : LOk w p) : ∀ u ∈ lCells p, u.oneCell' = true := by
  intro u hu
  obtain ⟨x, hx, rfl⟩ := List.mem_map.1 hu
  exact ints_one (h x hx)
/-- A slice of slices reads as L. -/
def IsLists (w : World) (v : Value) (L : List (List Int)) : Prop :=
  ∃ A c p, v = .slice A p.length c ∧ lVals p = L ∧ Rd w A (lCells p) ∧ LOk w p ∧ p.length ≤ c ∧ c ≤ maxLen
theorem IsLists.keep {w w' : World} {v : Value} {L : List (List Int)} (h : IsLists w v L) (hb : Below w.heap.size w w') : IsLists w' v L := by
  obtain ⟨A, c, p, hv, hL, hr, ho, hc⟩ := h
  exact ⟨A, c, p, hv, hL, hr.keep hb, ho.keep hb, hc⟩
theorem IsLists.nil (w : World) : IsLists w (.slice none 0 0) [] := ⟨none, 0, [], rfl, rfl, Rd.nil _ _, LOk.nil _, Nat.le_refl _, by simp [maxLen]⟩
theorem lists_of_own {w : World} {base : Nat} {e : TypeId} {v : Value} {n : Nat} {p : List LV} (h : w.ownsRow base e 1 v n (lCells p)) (hp : LOk w p) : IsLists w v (lVals p) := by
  have hn : n = p.length := by have := h.1; rw [lCells_len] at this; omega
  subst hn
  rcases h.2 with ⟨rfl, hl⟩ | ⟨g, cap, cur, rfl, _, hh, hnc, hcm, hcs, ht⟩
  · have : p = [] := List.eq_nil_of_length_eq_zero hl
    subst this
    exact IsLists.nil _
  · exact ⟨_, _, p, rfl, rfl, fun j u hj => ⟨_, rfl, h.cells (g := g) rfl j u hj⟩, hp, hnc, hcm⟩
/-- The cell of a list that is not empty lies in memory. -/
theorem ints_lt {w : World} {v : Value} {l : List Int} (h : IsInts w v l) (hl : l ≠ []) {b : Nat} (hb : v.ownBlock = some b) : b < w.heap.size := by
  obtain ⟨A, c, rfl, hr, _⟩ := h
  have h0 : 0 < l.length := List.length_pos_iff.2 hl
  obtain ⟨ad, rfl, hc⟩ := hr.int h0
  have := cell_lt hc
  rw [block_of_add] at this
  simp only [Value.ownBlock] at hb
  injection hb with hb
  omega
theorem IsInts.but' {C : Nat → Prop} {w w' : World} {v : Value} {l : List Int} (h : IsInts w v l) (hb : But C w w') (hc : l ≠ [] → ∀ b, v.ownBlock = some b → ¬ C b) : IsInts w' v l := by
  by_cases hl : l = []
  · subst hl
    obtain ⟨A, c, rfl, hr, h1, h2⟩ := h
    exact ⟨A, c, rfl, Rd.nil _ _, h1, h2⟩
  · exact h.but hb (hc hl)

/-- A row of the call's own whose cells are slices; their lists lie elsewhere. -/
structure OwnL (base : Nat) (w : World) (v : Value) (p : List LV) : Prop where
  own : w.ownsRow base 23 1 v p.length (lCells p)
  ok : LOk w p
  far : ∀ x ∈ p, x.1 ≠ [] → ∀ b, x.2.ownBlock = some b → v.ownBlock ≠ some b
theorem OwnL.nil (base : Nat) (w : World) : OwnL base w (.slice none 0 0) [] := ⟨World.ownsRow_nil _ _ _ _, LOk.nil _, fun x hx => by cases hx⟩
theorem OwnL.lists {base : Nat} {w : World} {v : Value} {p : List LV} (h : OwnL base w v p) : IsLists w v (lVals p) := lists_of_own h.own h.ok
theorem OwnL.but {base : Nat} {C : Nat → Prop} {w w' : World} {v : Value} {p : List LV} (h : OwnL base w v p) (hb : But C w w') (hv : ∀ b, v.ownBlock = some b → ¬ C b) (hp : ∀ x ∈ p, x.1 ≠ [] → ∀ b, x.2.ownBlock = some b → ¬ C b) : OwnL base w' v p :=
  ⟨own_but h.own hb hv, fun x hx => (h.ok x hx).but' hb (hp x hx), h.far⟩
theorem OwnL.keep {base : Nat} {w w' : World} {v : Value} {p : List LV} (h : OwnL base w v p) (hb : Below w.heap.size w w') : OwnL base w' v p :=
  h.but (C := fun _ => False) (But.of_below hb) (fun _ _ => id) (fun _ _ _ _ _ => id)
theorem OwnL.slice {base : Nat} {w : World} {v : Value} {p : List LV} (h : OwnL base w v p) : ∃ A c, v = .slice A p.length c := ownsRow_slice h.own
theorem OwnL.drew {base : Nat} {w : World} {v : Value} {p : List LV} (h : OwnL base w v p) : OwnL base w.drew v p := h.keep ((Below.refl _ w).drew)
/-- One more. -/
theorem OwnL.step {base : Nat} {w w' : World} {v v' : Value} {p : List LV} (h : OwnL base w v p) {y : LV} (hg : w.grownBy w' v.ownBlock) (hown : w'.ownsRow base 23 1 v' (p.length + 1) (lCells p ++ [y.2]))
    (hat : v'.ownBlock = v.ownBlock ∨ v'.ownBlock = some w.heap.size) (hy : IsInts w y.2 y.1) (hf : y.1 ≠ [] → ∀ b, y.2.ownBlock = some b → v.ownBlock ≠ some b) : OwnL base w' v' (p ++ [y]) := by
  have hbut : But (fun b => v.ownBlock = some b) w w' := But.of_grown hg
  have hok : LOk w (p ++ [y]) := fun x hx => by
    rcases List.mem_append.1 hx with hx | hx
    · exact h.ok x hx
    · rw [List.mem_singleton.1 hx]; exact hy
  have hfar : ∀ x ∈ p ++ [y], x.1 ≠ [] → ∀ b, x.2.ownBlock = some b → v.ownBlock ≠ some b := fun x hx => by
    rcases List.mem_append.1 hx with hx | hx
    · exact h.far x hx
    · rw [List.mem_singleton.1 hx]; exact hf
  refine ⟨?_, fun x hx => (hok x hx).but' hbut (hfar x hx), fun x hx hl b hb => ?_⟩
  · rw [List.length_append, lCells_app]
    exact hown
  · rcases hat with h' | h'
    · rw [h']; exact hfar x hx hl b hb
    · rw [h']
      intro e
      injection e with e
      have := ints_lt (hok x hx) hl hb
      omega

theorem ints_info : (Tryd.prog.info? 23).map (fun i => (i.zero, i.size, i.bytes)) = some (some (.slice none 0 0), 1, 24) := by kernel_rfl
end Go.Proofs.YtcloppcekbdbaaaDoor

namespace Go.Proofs.YtcloppcekbdbaaaDoor
open Go.RowKit

/-- What a function value answers at x, in every world in which what lies in w lies unturned. -/
def FnGives (g : Nat) (lb : Array Value) (w : World) (x : Value) (b : Bool) : Prop := ∀ W, Below w.heap.size w W → Calls Tryd.prog g (#[x] ++ lb) W (Keeps (.bool b) W)
theorem FnGives.keep {g : Nat} {lb : Array Value} {w w' : World} {x : Value} {b : Bool} (h : FnGives g lb w x b) (hb : Below w.heap.size w w') : FnGives g lb w' x b := fun W hW => h W (Below.next hb hW)
def Finds (b : Bool) (w : World) (e : Ending) (w' : World) : Prop := ∃ k : Int, e = .returned (.int .i64 k) ∧ decide (0 ≤ k) = b ∧ Below w.heap.size w w'
theorem any_drop {α : Type} (p : α → Bool) (l : List α) (k : Nat) (x : α) (h : l[k]? = some x) : (l.drop k).any p = (p x || (l.drop (k + 1)).any p) := by
  obtain ⟨hk, rfl⟩ := List.getElem?_eq_some_iff.1 h
  rw [List.drop_eq_getElem_cons hk, List.any_cons]

set_option maxHeartbeats 1000000 in
theorem indexFunc_ints (g : Nat) (lb : Array Value) (eg : ∀ args w, (callFunc g args).run Tryd.prog w = .ok (.enter g args) w) (A : Option Addr) (c : Nat) (l : List Int) (p : Int → Bool) (w : World) (hr : Rd w A (l.map (Value.int .i64)))
    (hf : ∀ x ∈ l, FnGives g lb w (.int .i64 x) (p x)) (hlen : l.length ≤ maxLen) :
    Calls Tryd.prog 58 #[.slice A l.length c, .func (.func g) #[] lb] w (Finds (l.any p) w) := by
  have hn1 : l.length ≤ 9223372036854775807 := by unfold maxLen at hlen; omega
  clear hlen
  have HF := Lib.hid hf
  have HR := Lib.hid hr
  have HB := Lib.hid (show l.any p = (l.drop 0).any p by rw [List.drop_zero])
  generalize l.any p = B at HB ⊢
  clear hf hr
  go_enter Tryd.func58, Tryd.ntmps58
  go_wp2
  go_loopw [5, 8] (fun _ i wr => ∃ k : Nat, k ≤ l.length ∧ i = .int .i64 k ∧ B = (l.drop k).any p ∧ Below w.heap.size w wr) (fun _ i _ => l.length - (intOf i).toNat)
  case atStart => exact ⟨0, Nat.zero_le _, rfl, HB.out, Below.refl _ _⟩
  case round =>
    obtain ⟨k, hk, rfl, hB, hbel⟩ := hrel
    obtain ⟨wo, rfl⟩ : ∃ wo : World, wo = wr := ⟨_, rfl⟩
    by_cases hlt : k < l.length
    · obtain ⟨x, hx⟩ : ∃ x, l[k]? = some x := ⟨l[k], List.getElem?_eq_getElem hlt⟩
      obtain ⟨ad, rfl, hc0⟩ := HR.out k (.int .i64 x) (by rw [List.getElem?_map, hx]; rfl)
      have hc := cell_keep hbel hc0
      have hcall := HF.out x (List.mem_of_getElem? hx) wo hbel
      have hk1 : (k : Int) < (l.length : Int) := by omega
      have hk0 : (0 : Int) ≤ (k : Int) := by omega
      rw [any_drop p l k x hx] at hB
      clear hc0 hx
      have HC := Lib.hid hcall
      clear hcall
      cases hp : p x with
      | true =>
        have HB := Lib.hid (show B = true by rw [hB, hp]; rfl)
        have HC := Lib.hid (by have := HC.out; rw [hp] at this; exact this)
        clear hB hp
        go_wp2_with (go_at_fn g; refine (HC.out).mono ?_; rintro e w1 ⟨rfl, hb1⟩)
        go_ret
        exact ⟨k, rfl, by rw [HB.out]; simp, Below.next hbel hb1⟩
      | false =>
        have HB := Lib.hid (show B = (l.drop (k + 1)).any p by rw [hB, hp]; rfl)
        have HC := Lib.hid (by have := HC.out; rw [hp] at this; exact this)
        clear hB hp
        go_wp2_with (go_at_fn g; refine (HC.out).mono ?_; rintro e w1 ⟨rfl, hb1⟩)
        go_roundw
        case rel => exact ⟨k + 1, by omega, by go_num, HB.out, Below.next hbel hb1⟩
        case measure => simp [intOf]; omega
    · have hk' : k = l.length := by omega
      subst hk'
      have HB := Lib.hid (show B = false by rw [hB, List.drop_length]; rfl)
      clear hB
      go_wp2
      go_ret
      exact ⟨-1, rfl, by rw [HB.out]; rfl, hbel⟩

set_option maxHeartbeats 1000000 in
theorem containsFunc_ints (g : Nat) (lb : Array Value) (eg : ∀ args w, (callFunc g args).run Tryd.prog w = .ok (.enter g args) w) (A : Option Addr) (c : Nat) (l : List Int) (p : Int → Bool) (w : World) (hr : Rd w A (l.map (Value.int .i64)))
    (hf : ∀ x ∈ l, FnGives g lb w (.int .i64 x) (p x)) (hlen : l.length ≤ maxLen) :
    Calls Tryd.prog 42 #[.slice A l.length c, .func (.func g) #[] lb] w (Keeps (.bool (l.any p)) w) := by
  have HC := Lib.hid (indexFunc_ints g lb eg A c l p w hr hf hlen)
  clear hr hf
  generalize l.any p = B at HC ⊢
  go_enter Tryd.func42, Tryd.ntmps42
  go_wp2_with (go_at_call 58; refine (HC.out).mono ?_; rintro e w1 ⟨k, rfl, hk, hb1⟩)
  go_ret
  exact ⟨by rw [← hk]; rfl, hb1⟩

theorem eq_drop {l m : List Int} {k : Nat} (h : k < l.length) (h' : k < m.length) : (l.drop k == m.drop k) = (l[k] == m[k] && (l.drop (k + 1) == m.drop (k + 1))) := by
  rw [List.drop_eq_getElem_cons h, List.drop_eq_getElem_cons h']
  rfl
end Go.Proofs.YtcloppcekbdbaaaDoor
