/-
  THE FRAME OF A LAW: a call that answers true, and keeps what lay, leaves each argument as it read.
  ARGUMENTS OPENED: what reads as data, in the walks' words.
  ARGUMENTS OPENED: a world, counts, an atom.
  ARGUMENTS OPENED: a row, a slice of rows.
  ARGUMENTS OPENED: a formula, a slice of formulas.
  THE DOOR: package-level variables as the row lists them; errors.As at *api.Errno by its contract; plain.Told, vennsame.Error.
  THE DOOR's FRAME: what a row's list gives of the variables' cells.
  THE TABLE of atoms' kinds: its cells, out of the row's list.
-/
import Derived.Test.YtjnjgcibhjdmdaaGreatDoorRows
import Derived.ProofKit
import Derived.OpenShut
import Derived.Test.YtjnjgcibhjdmdaaGreatDoorMem
import Derived.Deep.Strs
import Derived.Test.YtjnjgcibhjdmdaaGreatDoorRowG
import Derived.Test.YtjnjgcibhjdmdaaGreatDoorSpanG
import Derived.LaidEql
import Derived.Stop.Asserts
import Derived.RowKitTokens
import Derived.Test.YtjnjgcibhjdmdaaGreatDoorCards
import Derived.Test.YtjnjgcibhjdmdaaGreatDoorTie
import Derived.Deep.DeepHandedRow
import Derived.LaidSub
import Derived.LaidMore
import Derived.LaidHandle
import Derived.SevenTiedAt
import Derived.SevenTiedPlain
namespace Go.Proofs.YtjnjgcibhjdmdaaGreatDoor
open Go.ChangeShapes Go.WideShapes Go.ChangeAt Go.RowKit

theorem own : ownKnob Tryz.prog.godebug = none := by kernel_rfl
theorem laidOut : laidOutB Tryz.prog = true := by kernel_rfl

theorem trodAll_below {H : Type} {enc : TypeId × Value → H} {P : Program} (hl : laidOutB P = true) {W W' : World} (hb : Below W.heap.size W W') :
    ∀ (ts : List TypeId) (vs : List Value) (ds : List (DataW H)) (ps : List MemPlace), (ts.all fun t => P.readableRec t && decide (t < P.types.size)) = true → (∀ x ∈ ps, x.block < W.heap.size) →
      DataW.TrodAll enc P W 0 (fun _ => true) true ts vs ds ps → DataW.TrodAll enc P W' 0 (fun b => decide (b < W.heap.size)) true ts vs ds ps
  | [], vs, ds, ps, _, _, h => by
    obtain ⟨rfl, rfl, rfl⟩ := trodAll_nil h
    simp [DataW.TrodAll]
  | t :: ts, vs, ds, ps, ht, hlt, h => by
    obtain ⟨v, vs', d, ds', p, q, rfl, rfl, rfl, hd, hr⟩ := trodAll_cons h
    simp only [List.all_cons, Bool.and_eq_true, decide_eq_true_eq] at ht
    exact trodAll_cons_mk (Below.trod hl ht.1.1 ht.1.2 hd hb fun x hx => hlt x (by simp [hx])) (trodAll_below hl hb ts vs' ds' q ht.2 (fun x hx => hlt x (by simp [hx])) hr)

/-- THE ROW's POST: the call answers true; its arguments read as they read. -/
theorem law_post {H : Type} {enc : TypeId × Value → H} {P : Program} (hl : laidOutB P = true) {f : Func} {s : ChangeSpec} {tb : TypeId} (htb : P.underlying tb = some .bool) (hres : f.resultTypes = #[tb]) (hsv : s.vars = [])
    (hty : (f.params.toList.all fun t => P.readableRec t && decide (t < P.types.size)) = true)
    {W W' : World} {args : Array Value} {ds gs : List (DataW H)} {before : List MemPlace} (hW : DataW.Whole enc P f.params.toList s.vars false W args.toList ds gs before)
    (hs : s.fn H (ds ++ gs) = { results := [.lit (.bool true)], args := ds }) (hB : Below W.heap.size W W') :
    s.post enc P f false true false false W args (.bool true) W' := by
  have hlt : ∀ p ∈ before, p.block < W.heap.size := fun p hp => hW.lt p hp
  have hW' := hW
  obtain ⟨p, q, hA, hV, hbq, _, _⟩ := hW'
  rw [hsv] at hV
  obtain ⟨rfl, rfl⟩ := trodVars_none hV
  simp only [List.append_nil] at hbq hs
  subst hbq
  refine ⟨ds, [], before, [], before, [], hW, ?_, ?_, ?_, World.keptBut_mono (fun p hp => ⟨hp, Or.inr (Or.inl hp)⟩) (hB.frame (· ∈ before)), fun h => by cases h⟩
  · rw [hres]
    simp only [List.append_nil, hs]
    exact trodAll_mk1 (shut_bool htb true)
  · simp only [List.append_nil, hs]
    exact trodAll_below hl hB _ _ _ _ hty hlt hA
  · simp only [List.append_nil, hs, hsv]
    rfl

end Go.Proofs.YtjnjgcibhjdmdaaGreatDoor

namespace Go.Proofs.YtjnjgcibhjdmdaaGreatDoor
open Go.ChangeShapes Go.WideShapes Go.ChangeAt Go.RowKit

theorem open_isInts {H : Type} {enc : TypeId × Value → H} {P : Program} {w : World} {base b0 : Nat} {spare : Nat → Bool} {held : Bool} {r : Reach} {t e : TypeId} {v : Value} {d : DataW H} {ps : List MemPlace}
    (ht : P.underlying t = some (.slice e)) (he : P.underlying e = some (.int .i64)) (hc : P.cellsOf e = 1) (hok : Value.okWide P w r b0 t v) (h : DataW.Trod enc P w base spare held t v d ps) :
    ∃ l : List Int, IsInts w v l ∧ ∀ n ∈ l, (Lit.int .i64 n).wf = true := by
  obtain ⟨a0, len, cap, rfl⟩ := okWide_slice ht hok
  obtain ⟨fuel, hf⟩ := h
  rcases open_ints ht he hc hf with ⟨hcs, _⟩ | ⟨a, len', cap', zs, hcs, _, hl, hm, hz, _, hcell, hwf⟩
  · simp [Value.cells] at hcs
    obtain ⟨rfl, rfl, rfl⟩ := hcs
    exact ⟨[], ⟨none, 0, rfl, Rd.nil _ _, Nat.le_refl _, by simp⟩, fun n hn => by simp at hn⟩
  · simp [Value.cells] at hcs
    obtain ⟨rfl, rfl, rfl⟩ := hcs
    have hlen : len ≤ zs.length := by rw [hz]; split <;> omega
    have htl : (zs.take len).length = len := by simp; omega
    refine ⟨zs.take len, ⟨some a, cap, by rw [htl], fun j u hj => ?_, by omega, hm⟩, fun n hn => hwf n (List.mem_of_mem_take hn)⟩
    rw [List.getElem?_map] at hj
    obtain ⟨x, hx, rfl⟩ := Option.map_eq_some_iff.1 hj
    have hjl : j < len := by
      have := (List.getElem?_eq_some_iff.1 hx).1
      omega
    rw [List.getElem?_take_of_lt hjl] at hx
    refine ⟨a, rfl, ?_⟩
    rw [hcell j (by omega), List.getD_eq_getElem?_getD, hx]
    rfl

end Go.Proofs.YtjnjgcibhjdmdaaGreatDoor

namespace Go.Proofs.YtjnjgcibhjdmdaaGreatDoor
open Go.ChangeShapes Go.WideShapes Go.ChangeAt Go.RowKit Go.Deep

theorem trod_intsArr {H : Type} {enc : TypeId × Value → H} {P : Program} {w : World} {base : Nat} {spare : Nat → Bool} {held : Bool} {fuel n : Nat} {t e : TypeId} {cs : List Value} {x : DataW H × List MemPlace}
    (ht : P.underlying t = some (.array n e)) (he : P.underlying e = some (.int .i64)) (hc : P.cellsOf e = 1) (hct : P.cellsOf t = n) (h : DataW.trod enc P w base spare held fuel t cs = some x) :
    ∃ l : List Int, l.length = n ∧ cs = l.map (Value.int .i64) ∧ ∀ z ∈ l, (Lit.int .i64 z).wf = true := by
  obtain ⟨xs, m, _, _, hl, hxl, hf⟩ := DataW.trod_array ht h
  rw [hct] at hl
  have cell : ∀ i, i < n → ∃ z, cs[i]? = some (.int .i64 z) ∧ (Lit.int .i64 z).wf = true := by
    intro i hi
    have := hf i hi
    rw [hc, Nat.mul_one] at this
    obtain ⟨y, hy⟩ : ∃ y, xs[i]? = some y := ⟨xs[i], List.getElem?_eq_getElem (by omega)⟩
    rw [hy] at this
    obtain ⟨z, ez, _, hw⟩ := DataW.trod_int he this
    refine ⟨z, ?_, hw⟩
    have h0 : ((cs.drop i).take 1)[0]? = some (.int .i64 z) := by rw [ez]; rfl
    simpa using h0
  refine ⟨cs.map intOf, by simp [hl], ?_, ?_⟩
  · refine List.ext_getElem? fun i => ?_
    by_cases hi : i < n
    · obtain ⟨z, hz, _⟩ := cell i hi
      simp [hz, intOf]
    · rw [List.getElem?_eq_none (by omega), List.getElem?_eq_none (by simp; omega)]
  · intro z hz
    obtain ⟨v, hv, rfl⟩ := List.mem_map.1 hz
    obtain ⟨i, hi, rfl⟩ := List.getElem_of_mem hv
    obtain ⟨z, hz, hw⟩ := cell i (by omega)
    rw [List.getElem?_eq_getElem hi] at hz
    rw [Option.some.inj hz]
    exact hw
theorem okWide_array {P : Program} {w : World} {r : Reach} {base n : Nat} {t e : TypeId} {v : Value} (ht : P.underlying t = some (.array n e)) (h : Value.okWide P w r base t v) : ∃ cs, v = .agg cs ∧ cs.size = P.cellsOf t := by
  simp only [Value.okWide, ht] at h
  obtain ⟨cs, h1, h2, _⟩ := h
  exact ⟨cs, h1, h2⟩
section
variable {H : Type} {enc : TypeId × Value → H} {P : Program} {w : World} {base b0 : Nat} {spare : Nat → Bool} {held : Bool} {r : Reach} {v : Value} {d : DataW H} {ps : List MemPlace}
theorem open_world_of {tw ta ti : TypeId} {f0 f1 : Field} (h0 : P.underlying tw = some (.struct #[f0, f1])) (hf0 : f0.type = ti) (hf1 : f1.type = ta) (ho0 : f0.offset = 0) (ho1 : f1.offset = 1)
    (hta : P.underlying ta = some (.array 3 ti)) (hti : P.underlying ti = some (.int .i64)) (c1 : P.cellsOf ti = 1) (c3 : P.cellsOf ta = 3) (c4 : P.cellsOf tw = 4) (hok : Value.okWide P w r b0 tw v) (h : DataW.Trod enc P w base spare held tw v d ps) :
    ∃ th a b c : Int, v = .agg #[.int .i64 th, .int .i64 a, .int .i64 b, .int .i64 c] ∧ (∀ x ∈ [th, a, b, c], (Lit.int .i64 x).wf = true) := by
  obtain ⟨cs, rfl, hsz⟩ := okWide_struct h0 hok
  obtain ⟨fuel, hf⟩ := h
  obtain ⟨y0, y1, n, _, _, g0, g1⟩ := trod_struct2 h0 hf
  subst hf0 hf1
  obtain ⟨th, e0, _, w0⟩ := DataW.trod_int hti g0
  obtain ⟨l, hl, e1, w1⟩ := trod_intsArr hta hti c1 c3 g1
  rw [c4] at hsz
  rw [c1, ho0] at e0
  rw [c3, ho1] at e1
  obtain ⟨xs⟩ := cs
  match l, hl, xs, hsz, e0, e1, w1 with
  | [a, b, c], _, [x0, x1, x2, x3], _, e0, e1, w1 =>
    simp [Value.cells] at e0 e1
    refine ⟨th, a, b, c, by simp [e0, e1], fun x hx => ?_⟩
    rcases List.mem_cons.1 hx with rfl | hx
    · exact w0
    · exact w1 x hx
theorem open_counts_of {ta ti : TypeId} (hta : P.underlying ta = some (.array 8 ti)) (hti : P.underlying ti = some (.int .i64)) (c1 : P.cellsOf ti = 1) (c8 : P.cellsOf ta = 8)
    (hok : Value.okWide P w r b0 ta v) (h : DataW.Trod enc P w base spare held ta v d ps) :
    ∃ n0 n1 n2 n3 n4 n5 n6 n7 : Int, v = .agg #[.int .i64 n0, .int .i64 n1, .int .i64 n2, .int .i64 n3, .int .i64 n4, .int .i64 n5, .int .i64 n6, .int .i64 n7] ∧ (∀ x ∈ [n0, n1, n2, n3, n4, n5, n6, n7], (Lit.int .i64 x).wf = true) := by
  obtain ⟨cs, rfl, hsz⟩ := okWide_array hta hok
  obtain ⟨fuel, hf⟩ := h
  obtain ⟨l, hl, e1, w1⟩ := trod_intsArr hta hti c1 c8 hf
  obtain ⟨xs⟩ := cs
  match l, hl, e1, w1 with
  | [n0, n1, n2, n3, n4, n5, n6, n7], _, e1, w1 =>
    refine ⟨n0, n1, n2, n3, n4, n5, n6, n7, ?_, w1⟩
    simp [Value.cells] at e1
    simp [e1]
/-- A slice's cell reads as a list. -/
theorem isInts_of_trod {t e : TypeId} (ht : P.underlying t = some (.slice e)) (he : P.underlying e = some (.int .i64)) (hc : P.cellsOf e = 1) {fuel : Nat} {cs : List Value} {x : DataW H × List MemPlace} (h : DataW.trod enc P w base spare held fuel t cs = some x) :
    ∃ (l : List Int) (u : Value), cs = [u] ∧ IsInts w u l ∧ ∀ n ∈ l, (Lit.int .i64 n).wf = true := by
  rcases open_ints ht he hc h with ⟨hcs, _⟩ | ⟨a, len', cap', zs, hcs, _, hl, hm, hz, _, hcell, hwf⟩
  · exact ⟨[], _, hcs, ⟨none, 0, rfl, Rd.nil _ _, Nat.le_refl _, by simp⟩, fun n hn => by simp at hn⟩
  · have hlen : len' ≤ zs.length := by rw [hz]; split <;> omega
    have htl : (zs.take len').length = len' := by simp; omega
    refine ⟨zs.take len', .slice (some a) len' cap', hcs, ⟨some a, cap', by rw [htl], fun j u hj => ?_, by omega, hm⟩, fun n hn => hwf n (List.mem_of_mem_take hn)⟩
    rw [List.getElem?_map] at hj
    obtain ⟨x, hx, rfl⟩ := Option.map_eq_some_iff.1 hj
    have hjl : j < len' := by
      have := (List.getElem?_eq_some_iff.1 hx).1
      omega
    rw [List.getElem?_take_of_lt hjl] at hx
    refine ⟨a, rfl, ?_⟩
    rw [hcell j (by omega), List.getD_eq_getElem?_getD, hx]
    rfl
theorem cells_atom_of {tt ts ti : TypeId} {f0 f1 f2 f3 : Field} (h0 : P.underlying tt = some (.struct #[f0, f1, f2, f3])) (hf : f0.type = ti ∧ f1.type = ts ∧ f2.type = ts ∧ f3.type = ti) (ho : f0.offset = 0 ∧ f1.offset = 1 ∧ f2.offset = 2 ∧ f3.offset = 3)
    (hts : P.underlying ts = some (.slice ti)) (hti : P.underlying ti = some (.int .i64)) (c1 : P.cellsOf ti = 1) (c2 : P.cellsOf ts = 1) (c4 : P.cellsOf tt = 4)
    {fuel : Nat} {cs : List Value} {x : DataW H × List MemPlace} (h : DataW.trod enc P w base spare held fuel tt cs = some x) :
    ∃ (what n : Int) (s t : List Int) (sv tv : Value), cs = [.int .i64 what, sv, tv, .int .i64 n] ∧ IsInts w sv s ∧ IsInts w tv t ∧ (Lit.int .i64 what).wf = true ∧ (Lit.int .i64 n).wf = true := by
  obtain ⟨xs, m, _, _, hl, hxl, hf'⟩ := DataW.trod_struct h0 h
  rw [c4] at hl
  obtain ⟨t0, t1, t2, t3⟩ := hf
  obtain ⟨o0, o1, o2, o3⟩ := ho
  have g0 := hf' 0 f0 rfl
  have g1 := hf' 1 f1 rfl
  have g2 := hf' 2 f2 rfl
  have g3 := hf' 3 f3 rfl
  rw [t0, o0, c1] at g0
  rw [t1, o1, c2] at g1
  rw [t2, o2, c2] at g2
  rw [t3, o3, c1] at g3
  obtain ⟨z0, e0⟩ : ∃ z, xs[0]? = some z := ⟨xs[0]'(by rw [hxl]; simp), List.getElem?_eq_getElem _⟩
  obtain ⟨z1, e1⟩ : ∃ z, xs[1]? = some z := ⟨xs[1]'(by rw [hxl]; simp), List.getElem?_eq_getElem _⟩
  obtain ⟨z2, e2⟩ : ∃ z, xs[2]? = some z := ⟨xs[2]'(by rw [hxl]; simp), List.getElem?_eq_getElem _⟩
  obtain ⟨z3, e3⟩ : ∃ z, xs[3]? = some z := ⟨xs[3]'(by rw [hxl]; simp), List.getElem?_eq_getElem _⟩
  rw [e0] at g0; rw [e1] at g1; rw [e2] at g2; rw [e3] at g3
  clear hf' h e0 e1 e2 e3 hxl
  obtain ⟨what, e0, _, w0⟩ := DataW.trod_int hti g0
  obtain ⟨n, e3, _, w3⟩ := DataW.trod_int hti g3
  obtain ⟨s, sv, e1, hs, _⟩ := isInts_of_trod hts hti c1 g1
  obtain ⟨t, tv, e2, ht, _⟩ := isInts_of_trod hts hti c1 g2
  clear g0 g1 g2 g3
  match cs, hl, e0, e1, e2, e3 with
  | [c0, c1, c2, c3], _, e0, e1, e2, e3 =>
    simp at e0 e1 e2 e3
    subst e0 e1 e2 e3
    exact ⟨what, n, s, t, _, _, rfl, hs, ht, w0, w3⟩
end
theorem cellsInt : Tryz.prog.cellsOf 3 = 1 := by kernel_rfl
section
variable {H : Type} {enc : TypeId × Value → H} {w : World} {base b0 : Nat} {spare : Nat → Bool} {held : Bool} {r : Reach} {v : Value} {d : DataW H} {ps : List MemPlace}
theorem cells3 : Tryz.prog.cellsOf 43 = 3 := by kernel_rfl
theorem cellsWorld : Tryz.prog.cellsOf 45 = 4 := by kernel_rfl
set_option maxRecDepth 100000 in
theorem open_world (hok : Value.okWide Tryz.prog w r b0 45 v) (h : DataW.Trod enc Tryz.prog w base spare held 45 v d ps) :
    ∃ th a b c : Int, v = .agg #[.int .i64 th, .int .i64 a, .int .i64 b, .int .i64 c] ∧ (∀ x ∈ [th, a, b, c], (Lit.int .i64 x).wf = true) :=
  open_world_of Tryz.underlying45 rfl rfl rfl rfl Tryz.underlying43 Tryz.underlying3 cellsInt cells3 cellsWorld hok h
theorem cells8 : Tryz.prog.cellsOf 75 = 8 := by kernel_rfl
set_option maxRecDepth 100000 in
theorem open_counts (hok : Value.okWide Tryz.prog w r b0 75 v) (h : DataW.Trod enc Tryz.prog w base spare held 75 v d ps) :
    ∃ n0 n1 n2 n3 n4 n5 n6 n7 : Int, v = .agg #[.int .i64 n0, .int .i64 n1, .int .i64 n2, .int .i64 n3, .int .i64 n4, .int .i64 n5, .int .i64 n6, .int .i64 n7] ∧ (∀ x ∈ [n0, n1, n2, n3, n4, n5, n6, n7], (Lit.int .i64 x).wf = true) :=
  open_counts_of Tryz.underlying75 Tryz.underlying3 cellsInt cells8 hok h
theorem cellsInts : Tryz.prog.cellsOf 30 = 1 := by kernel_rfl
theorem cellsAtom : Tryz.prog.cellsOf 32 = 4 := by kernel_rfl
set_option maxRecDepth 100000 in
theorem cells_atom {fuel : Nat} {cs : List Value} {x : DataW H × List MemPlace} (h : DataW.trod enc Tryz.prog w base spare held fuel 32 cs = some x) :
    ∃ (what n : Int) (s t : List Int) (sv tv : Value), cs = [.int .i64 what, sv, tv, .int .i64 n] ∧ IsInts w sv s ∧ IsInts w tv t ∧ (Lit.int .i64 what).wf = true ∧ (Lit.int .i64 n).wf = true :=
  cells_atom_of Tryz.underlying32 ⟨rfl, rfl, rfl, rfl⟩ ⟨rfl, rfl, rfl, rfl⟩ Tryz.underlying30 Tryz.underlying3 cellsInt cellsInts cellsAtom h
set_option maxRecDepth 100000 in
theorem open_atom (hok : Value.okWide Tryz.prog w r b0 32 v) (h : DataW.Trod enc Tryz.prog w base spare held 32 v d ps) :
    ∃ (what n : Int) (s t : List Int) (sv tv : Value), v = .agg #[.int .i64 what, sv, tv, .int .i64 n] ∧ IsInts w sv s ∧ IsInts w tv t ∧ (Lit.int .i64 what).wf = true ∧ (Lit.int .i64 n).wf = true := by
  obtain ⟨cs, rfl, hsz⟩ := okWide_struct Tryz.underlying32 hok
  obtain ⟨fuel, hf⟩ := h
  obtain ⟨what, n, s, t, sv, tv, e, hs, ht, w0, w3⟩ := cells_atom hf
  refine ⟨what, n, s, t, sv, tv, ?_, hs, ht, w0, w3⟩
  obtain ⟨xs⟩ := cs
  simp [Value.cells] at e
  rw [e]
end
end Go.Proofs.YtjnjgcibhjdmdaaGreatDoor

namespace Go.Proofs.YtjnjgcibhjdmdaaGreatDoor
open Go.ChangeShapes Go.WideShapes Go.ChangeAt Go.RowKit Go.Deep
section
variable {H : Type} {enc : TypeId × Value → H} {P : Program} {w : World} {base b0 : Nat} {spare : Nat → Bool} {held : Bool} {r : Reach} {v : Value} {d : DataW H} {ps : List MemPlace}
theorem row_of_trod {tw ta ti : TypeId} {f0 f1 : Field} (h0 : P.underlying tw = some (.struct #[f0, f1])) (hf0 : f0.type = ta) (hf1 : f1.type = ti) (ho0 : f0.offset = 0) (ho1 : f1.offset = 8)
    (hta : P.underlying ta = some (.array 8 ti)) (hti : P.underlying ti = some (.int .i64)) (c1 : P.cellsOf ti = 1) (c8 : P.cellsOf ta = 8)
    {fuel : Nat} {cs : List Value} {x : DataW H × List MemPlace} (h : DataW.trod enc P w base spare held fuel tw cs = some x) (hcs : cs.length = 9) :
    ∃ l : List Int, l.length = 9 ∧ cs = l.map (Value.int .i64) ∧ ∀ z ∈ l, (Lit.int .i64 z).wf = true := by
  obtain ⟨y0, y1, n, _, _, g0, g1⟩ := trod_struct2 h0 h
  subst hf0 hf1
  obtain ⟨l, hl, e1, w1⟩ := trod_intsArr hta hti c1 c8 g0
  obtain ⟨m, e0, _, w0⟩ := DataW.trod_int hti g1
  rw [c1, ho1] at e0
  rw [c8, ho0] at e1
  refine ⟨l ++ [m], by simp [hl], ?_, fun z hz => ?_⟩
  · match cs, hcs, e0, e1 with
    | [x0, x1, x2, x3, x4, x5, x6, x7, x8], _, e0, e1 =>
      simp at e0 e1
      rw [List.map_append, ← e1]
      simp [e0]
  · rcases List.mem_append.1 hz with hz | hz
    · exact w1 z hz
    · rw [List.mem_singleton.1 hz]; exact w0
theorem cells_len {a : Addr} {n : Nat} {cs : List Value} (h : w.cells? base a n = some cs) : cs.length = n ∧ ∀ (j : Nat) (u : Value), cs[j]? = some u → w.cell? (a.add j) = some u := by
  obtain ⟨_, hl, hc⟩ := World.cells?_some h
  exact ⟨hl, fun j u hj => (hc j (by have := (List.getElem?_eq_some_iff.1 hj).1; omega)).trans hj⟩
theorem flat_get : ∀ (l : List (List Int)) (j : Nat) (u : Value), (∀ r ∈ l, r.length = 9) → (l.flatMap fun r => r.map (Value.int .i64))[j]? = some u → ∃ r y, l[j / 9]? = some r ∧ r[j % 9]? = some y ∧ u = .int .i64 y := by
  intro l
  induction l with
  | nil => intro j u _ h; simp at h
  | cons r l ih =>
    intro j u hl h
    have hr := hl r (by simp)
    rw [List.flatMap_cons] at h
    rcases Nat.lt_or_ge j 9 with hj | hj
    · rw [List.getElem?_append_left (by simp; omega), List.getElem?_map] at h
      obtain ⟨y, hy, rfl⟩ := Option.map_eq_some_iff.1 h
      exact ⟨r, y, by rw [Nat.div_eq_of_lt hj]; rfl, by rw [Nat.mod_eq_of_lt hj]; exact hy, rfl⟩
    · rw [List.getElem?_append_right (by simp; omega)] at h
      simp only [List.length_map, hr] at h
      obtain ⟨r', y, h1, h2, h3⟩ := ih (j - 9) u (fun r hr => hl r (List.mem_cons_of_mem _ hr)) h
      refine ⟨r', y, ?_, ?_, h3⟩
      · rw [show j / 9 = (j - 9) / 9 + 1 by omega]
        simpa using h1
      · rw [show j % 9 = (j - 9) % 9 by omega]
        exact h2
theorem open_rows_of {ts tw : TypeId} (hts : P.underlying ts = some (.slice tw)) (c9 : P.cellsOf tw = 9)
    (hrow : ∀ (fuel : Nat) (cs : List Value) (x : DataW H × List MemPlace), DataW.trod enc P w base spare held fuel tw cs = some x → cs.length = 9 → ∃ l : List Int, l.length = 9 ∧ cs = l.map (Value.int .i64) ∧ ∀ z ∈ l, (Lit.int .i64 z).wf = true)
    (hok : Value.okWide P w r b0 ts v) (h : DataW.Trod enc P w base spare held ts v d ps) : ∃ l : List (List Int), IsRows w v l := by
  obtain ⟨a0, len, cap, rfl⟩ := okWide_slice hts hok
  obtain ⟨fuel, hf⟩ := h
  rcases DataW.trod_slice hts hf with ⟨hcs, _⟩ | ⟨a, len', cap', elems, rest, n, _, hcs, _, _, hl, hm, hel, hcell, _⟩
  · simp [Value.cells] at hcs
    obtain ⟨rfl, rfl, rfl⟩ := hcs
    exact ⟨[], IsRows.nil _⟩
  · simp [Value.cells] at hcs
    obtain ⟨rfl, rfl, rfl⟩ := hcs
    have hx : ∀ i, i < len → ∃ r : List Int, r.length = 9 ∧ ∀ (j : Nat) (y : Int), r[j]? = some y → w.cell? (a.add (i * 9 + j)) = some (.int .i64 y) := by
      intro i hi
      have := hcell i hi
      rw [c9, List.getElem?_eq_getElem (by omega)] at this
      obtain ⟨cs, h1, h2⟩ := Option.bind_eq_some_iff.1 this
      obtain ⟨k1, k2⟩ := cells_len h1
      obtain ⟨l, hl9, rfl, _⟩ := hrow _ _ _ h2 k1
      refine ⟨l, hl9, fun j y hj => ?_⟩
      have := k2 j (.int .i64 y) (by rw [List.getElem?_map, hj]; rfl)
      rwa [add_of_add] at this
    have hx' : ∀ i : Nat, ∃ r : List Int, i < len → (r.length = 9 ∧ ∀ (j : Nat) (y : Int), r[j]? = some y → w.cell? (a.add (i * 9 + j)) = some (.int .i64 y)) := by
      intro i
      by_cases hi : i < len
      · obtain ⟨r, hr⟩ := hx i hi
        exact ⟨r, fun _ => hr⟩
      · exact ⟨[], fun h => absurd h hi⟩
    obtain ⟨f, hf⟩ := Classical.axiomOfChoice hx'
    have hl9 : ∀ r ∈ (List.range len).map f, r.length = 9 := by
      intro r hr
      obtain ⟨i, hi, rfl⟩ := List.mem_map.1 hr
      exact (hf i (List.mem_range.1 hi)).1
    refine ⟨(List.range len).map f, some a, cap, by simp, fun j u hj => ⟨a, rfl, ?_⟩, hl9, by simpa using hl, hm⟩
    obtain ⟨r, y, h1, h2, rfl⟩ := flat_get _ j u hl9 hj
    rw [List.getElem?_map] at h1
    obtain ⟨i, hi, rfl⟩ := Option.map_eq_some_iff.1 h1
    have hil := List.getElem?_eq_some_iff.1 hi
    simp at hil
    have := (hf i (by omega)).2 (j % 9) y h2
    rwa [show i * 9 + j % 9 = j by omega] at this
end
section
variable {H : Type} {enc : TypeId × Value → H} {w : World} {base b0 : Nat} {spare : Nat → Bool} {held : Bool} {r : Reach} {v : Value} {d : DataW H} {ps : List MemPlace}
theorem cellsRow : Tryz.prog.cellsOf 110 = 9 := by kernel_rfl
set_option maxRecDepth 100000 in
theorem open_row (hok : Value.okWide Tryz.prog w r b0 110 v) (h : DataW.Trod enc Tryz.prog w base spare held 110 v d ps) :
    ∃ l : List Int, l.length = 9 ∧ v = .agg (l.map (Value.int .i64)).toArray := by
  obtain ⟨cs, rfl, hsz⟩ := okWide_struct Tryz.underlying110 hok
  obtain ⟨fuel, hf⟩ := h
  rw [cellsRow] at hsz
  obtain ⟨l, hl, e, _⟩ := row_of_trod Tryz.underlying110 rfl rfl rfl rfl Tryz.underlying75 Tryz.underlying3 cellsInt cells8 hf (by simpa [Value.cells] using hsz)
  refine ⟨l, hl, ?_⟩
  obtain ⟨xs⟩ := cs
  simp [Value.cells] at e
  rw [e]
set_option maxRecDepth 100000 in
theorem open_rows (hok : Value.okWide Tryz.prog w r b0 78 v) (h : DataW.Trod enc Tryz.prog w base spare held 78 v d ps) : ∃ l : List (List Int), IsRows w v l :=
  open_rows_of Tryz.underlying78 cellsRow (fun _ _ _ h hl => row_of_trod Tryz.underlying110 rfl rfl rfl rfl Tryz.underlying75 Tryz.underlying3 cellsInt cells8 h hl) hok h
end
end Go.Proofs.YtjnjgcibhjdmdaaGreatDoor

namespace Go.Proofs.YtjnjgcibhjdmdaaGreatDoor
open Go.ChangeShapes Go.WideShapes Go.ChangeAt Go.RowKit Go.Deep
theorem add1 (a : Addr) : a.add 1 = ⟨a.block, a.off + 1, none⟩ := by simp [Addr.add]
theorem add2 (a : Addr) : a.add 2 = ⟨a.block, a.off + 2, none⟩ := by simp [Addr.add]
theorem add3 (a : Addr) : a.add 3 = ⟨a.block, a.off + 3, none⟩ := by simp [Addr.add]
theorem add0 (a : Addr) : a.add 0 = a := by simp [Addr.add]
section
variable {H : Type} {enc : TypeId × Value → H} {P : Program} {w : World} {base b0 : Nat} {spare : Nat → Bool} {held : Bool} {r : Reach} {v : Value} {d : DataW H} {ps : List MemPlace}
theorem atoms_of_trod {ts tw : TypeId} (hts : P.underlying ts = some (.slice tw)) (c4 : P.cellsOf tw = 4)
    (hat : ∀ (fuel : Nat) (cs : List Value) (x : DataW H × List MemPlace), DataW.trod enc P w base spare held fuel tw cs = some x →
      ∃ (what n : Int) (s t : List Int) (sv tv : Value), cs = [.int .i64 what, sv, tv, .int .i64 n] ∧ IsInts w sv s ∧ IsInts w tv t ∧ (Lit.int .i64 what).wf = true ∧ (Lit.int .i64 n).wf = true)
    {fuel : Nat} {cs : List Value} {x : DataW H × List MemPlace} (h : DataW.trod enc P w base spare held fuel ts cs = some x) : ∃ (l : List Venn.Atom) (u : Value), cs = [u] ∧ IsAtoms w u l := by
  rcases DataW.trod_slice hts h with ⟨hcs, _⟩ | ⟨a, len, cap, elems, rest, n, _, hcs, _, _, hl, hm, hel, hcell, _⟩
  · exact ⟨[], _, hcs, IsAtoms.nil _⟩
  · have hx : ∀ i : Nat, ∃ q : Venn.Atom, i < len → ∃ sv tv, w.cell? (a.add (i * 4)) = some (.int .i64 q.what) ∧ w.cell? ⟨(a.add (i * 4)).block, (a.add (i * 4)).off + 1, none⟩ = some sv ∧
        w.cell? ⟨(a.add (i * 4)).block, (a.add (i * 4)).off + 2, none⟩ = some tv ∧ w.cell? ⟨(a.add (i * 4)).block, (a.add (i * 4)).off + 3, none⟩ = some (.int .i64 q.n) ∧ IsInts w sv q.s ∧ IsInts w tv q.t := by
      intro i
      by_cases hi : i < len
      · have := hcell i hi
        rw [c4, List.getElem?_eq_getElem (by omega)] at this
        obtain ⟨cs, h1, h2⟩ := Option.bind_eq_some_iff.1 this
        obtain ⟨k1, k2⟩ := cells_len h1
        obtain ⟨what, n, s, t, sv, tv, rfl, hs, ht, _, _⟩ := hat _ _ _ h2
        refine ⟨⟨what, s, t, n⟩, fun _ => ⟨sv, tv, ?_, ?_, ?_, ?_, hs, ht⟩⟩
        · have := k2 0 _ rfl; rwa [add0] at this
        · have := k2 1 _ rfl; rwa [add1] at this
        · have := k2 2 _ rfl; rwa [add2] at this
        · have := k2 3 _ rfl; rwa [add3] at this
      · exact ⟨⟨0, [], [], 0⟩, fun h => absurd h hi⟩
    obtain ⟨f, hf⟩ := Classical.axiomOfChoice hx
    refine ⟨(List.range len).map f, _, hcs, some a, cap, by simp, fun k q hk => ?_, by simpa using hl, hm⟩
    rw [List.getElem?_map] at hk
    obtain ⟨i, hi, rfl⟩ := Option.map_eq_some_iff.1 hk
    have hil := List.getElem?_eq_some_iff.1 hi
    simp at hil
    obtain ⟨hil, rfl⟩ := hil
    obtain ⟨sv, tv, h0, h1, h2, h3, hs, ht⟩ := hf k hil
    exact ⟨a, sv, tv, rfl, h0, h1, h2, h3, hs, ht⟩
theorem form_of_trod {tt ts tc tw ti : TypeId} {f0 f1 : Field} (h0 : P.underlying tt = some (.struct #[f0, f1])) (hf0 : f0.type = ts) (hf1 : f1.type = tc) (ho0 : f0.offset = 0) (ho1 : f1.offset = 1)
    (hts : P.underlying ts = some (.slice tw)) (htc : P.underlying tc = some (.slice ti)) (hti : P.underlying ti = some (.int .i64)) (c1 : P.cellsOf ti = 1) (cs1 : P.cellsOf ts = 1) (cc1 : P.cellsOf tc = 1) (c4 : P.cellsOf tw = 4)
    (hat : ∀ (fuel : Nat) (cs : List Value) (x : DataW H × List MemPlace), DataW.trod enc P w base spare held fuel tw cs = some x →
      ∃ (what n : Int) (s t : List Int) (sv tv : Value), cs = [.int .i64 what, sv, tv, .int .i64 n] ∧ IsInts w sv s ∧ IsInts w tv t ∧ (Lit.int .i64 what).wf = true ∧ (Lit.int .i64 n).wf = true)
    {fuel : Nat} {cs : List Value} {x : DataW H × List MemPlace} (h : DataW.trod enc P w base spare held fuel tt cs = some x) (hcs : cs.length = 2) :
    ∃ (l : List Venn.Atom) (c : List Int) (sa sc : Value), cs = [sa, sc] ∧ IsAtoms w sa l ∧ IsInts w sc c := by
  obtain ⟨y0, y1, n, _, _, g0, g1⟩ := trod_struct2 h0 h
  subst hf0 hf1
  rw [cs1, ho0] at g0
  rw [cc1, ho1] at g1
  obtain ⟨l, sa, e0, hl⟩ := atoms_of_trod hts c4 hat g0
  obtain ⟨c, sc, e1, hc, _⟩ := isInts_of_trod htc hti c1 g1
  match cs, hcs, e0, e1 with
  | [x0, x1], _, e0, e1 =>
    simp at e0 e1
    subst e0 e1
    exact ⟨l, c, _, _, rfl, hl, hc⟩
theorem forms_of_trod {ts tw : TypeId} (hts : P.underlying ts = some (.slice tw)) (c2 : P.cellsOf tw = 2)
    (hat : ∀ (fuel : Nat) (cs : List Value) (x : DataW H × List MemPlace), DataW.trod enc P w base spare held fuel tw cs = some x → cs.length = 2 →
      ∃ (l : List Venn.Atom) (c : List Int) (sa sc : Value), cs = [sa, sc] ∧ IsAtoms w sa l ∧ IsInts w sc c)
    {fuel : Nat} {cs : List Value} {x : DataW H × List MemPlace} (h : DataW.trod enc P w base spare held fuel ts cs = some x) : ∃ (l : List Venn.Form) (u : Value), cs = [u] ∧ IsForms w u l := by
  rcases DataW.trod_slice hts h with ⟨hcs, _⟩ | ⟨a, len, cap, elems, rest, n, _, hcs, _, _, hl, hm, hel, hcell, _⟩
  · exact ⟨[], _, hcs, IsForms.nil _⟩
  · have hx : ∀ i : Nat, ∃ q : Venn.Form, i < len → ∃ sa sc, w.cell? (a.add (i * 2)) = some sa ∧ w.cell? ⟨(a.add (i * 2)).block, (a.add (i * 2)).off + 1, none⟩ = some sc ∧ IsAtoms w sa q.atoms ∧ IsInts w sc q.code := by
      intro i
      by_cases hi : i < len
      · have := hcell i hi
        rw [c2, List.getElem?_eq_getElem (by omega)] at this
        obtain ⟨cs, h1, h2⟩ := Option.bind_eq_some_iff.1 this
        obtain ⟨k1, k2⟩ := cells_len h1
        obtain ⟨l, c, sa, sc, rfl, hs, ht⟩ := hat _ _ _ h2 k1
        refine ⟨⟨l, c⟩, fun _ => ⟨sa, sc, ?_, ?_, hs, ht⟩⟩
        · have := k2 0 _ rfl; rwa [add0] at this
        · have := k2 1 _ rfl; rwa [add1] at this
      · exact ⟨⟨[], []⟩, fun h => absurd h hi⟩
    obtain ⟨f, hf⟩ := Classical.axiomOfChoice hx
    refine ⟨(List.range len).map f, _, hcs, some a, cap, by simp, fun k q hk => ?_, by simpa using hl, hm⟩
    rw [List.getElem?_map] at hk
    obtain ⟨i, hi, rfl⟩ := Option.map_eq_some_iff.1 hk
    have hil := List.getElem?_eq_some_iff.1 hi
    simp at hil
    obtain ⟨hil, rfl⟩ := hil
    obtain ⟨sa, sc, h0, h1, hs, ht⟩ := hf k hil
    exact ⟨a, sa, sc, rfl, h0, h1, hs, ht⟩
end
section
variable {H : Type} {enc : TypeId × Value → H} {w : World} {base b0 : Nat} {spare : Nat → Bool} {held : Bool} {r : Reach} {v : Value} {d : DataW H} {ps : List MemPlace}
theorem cellsAtoms : Tryz.prog.cellsOf 22 = 1 := by kernel_rfl
theorem cellsForm : Tryz.prog.cellsOf 38 = 2 := by kernel_rfl
set_option maxRecDepth 100000 in
theorem cells_form {fuel : Nat} {cs : List Value} {x : DataW H × List MemPlace} (h : DataW.trod enc Tryz.prog w base spare held fuel 38 cs = some x) (hcs : cs.length = 2) :
    ∃ (l : List Venn.Atom) (c : List Int) (sa sc : Value), cs = [sa, sc] ∧ IsAtoms w sa l ∧ IsInts w sc c :=
  form_of_trod Tryz.underlying38 rfl rfl rfl rfl Tryz.underlying22 Tryz.underlying30 Tryz.underlying3 cellsInt cellsAtoms cellsInts cellsAtom (fun _ _ _ h => cells_atom h) h hcs
set_option maxRecDepth 100000 in
theorem open_form (hok : Value.okWide Tryz.prog w r b0 38 v) (h : DataW.Trod enc Tryz.prog w base spare held 38 v d ps) :
    ∃ (l : List Venn.Atom) (c : List Int) (sa sc : Value), v = .agg #[sa, sc] ∧ IsAtoms w sa l ∧ IsInts w sc c := by
  obtain ⟨cs, rfl, hsz⟩ := okWide_struct Tryz.underlying38 hok
  obtain ⟨fuel, hf⟩ := h
  rw [cellsForm] at hsz
  obtain ⟨l, c, sa, sc, e, hs, ht⟩ := cells_form hf (by simpa [Value.cells] using hsz)
  refine ⟨l, c, sa, sc, ?_, hs, ht⟩
  obtain ⟨xs⟩ := cs
  simp [Value.cells] at e
  rw [e]
set_option maxRecDepth 100000 in
theorem open_forms (hok : Value.okWide Tryz.prog w r b0 35 v) (h : DataW.Trod enc Tryz.prog w base spare held 35 v d ps) : ∃ l : List Venn.Form, IsForms w v l := by
  obtain ⟨a0, len, cap, rfl⟩ := okWide_slice Tryz.underlying35 hok
  obtain ⟨fuel, hf⟩ := h
  obtain ⟨l, u, e, hl⟩ := forms_of_trod Tryz.underlying35 cellsForm (fun _ _ _ h hc => cells_form h hc) hf
  simp [Value.cells] at e
  exact ⟨l, e ▸ hl⟩
end
end Go.Proofs.YtjnjgcibhjdmdaaGreatDoor

namespace Go.Proofs.YtjnjgcibhjdmdaaGreatDoor
open Go.RowKit Go.Extern.Stop Go.Stop Go.Extern

/-- errors.errorType holds the handle of type error. -/
def EtOk (w : World) : Prop := w.cell? ⟨2, 0, none⟩ = some (.iface 167 (.agg #[.pointer (some ⟨6, 26, none⟩)]))
theorem EtOk.keep {w w' : World} (h : EtOk w) (hb : Below w.heap.size w w') : EtOk w' := cell_keep hb h

/-! ### closed facts on the entries for internal/reflectlite -/
theorem As.valueOfP (t : Addr) (w : World) : (ReflectliteValue.unpack (.iface 113 (.pointer (some t)))).run Tryz.prog w
    = .ok (.agg #[.pointer (some ⟨6, 113, none⟩), .pointer (some ⟨w.heap.size, 0, none⟩), .int .u64 150]) (w.alloc (.cells #[.pointer (some t)] 113)) := by kernel_rfl
theorem As.typeP (a : Addr) (w : World) : (ReflectliteValue.methodAny (ReflectliteValue.valueError "reflectlite.Value.Type" 0) (fun t _ _ _ => ReflectliteType.toType t) #[.agg #[.pointer (some ⟨6, 113, none⟩), .pointer (some a), .int .u64 150]]).run Tryz.prog w
    = .ok (.iface 167 (.agg #[.pointer (some ⟨6, 113, none⟩)])) w := by kernel_rfl
theorem As.methodKind (h : Value) (w : World) : (Go.method 349 167 (.agg #[h]) "Kind").run Tryz.prog w = .ok (193, h) w := by kernel_rfl
theorem As.kindP (w : World) : ((ReflectliteType.abiMethod fun t => (fun a : Nat => Value.int IntKind.u8 (a : Int)) <$> Rtype.kind t) #[.pointer (some ⟨6, 113, none⟩)]).run Tryz.prog w = .ok (.int .u8 22) w := by kernel_rfl
theorem As.kindE (w : World) : ((ReflectliteType.abiMethod fun t => (fun a : Nat => Value.int IntKind.u8 (a : Int)) <$> Rtype.kind t) #[.pointer (some ⟨6, 59, none⟩)]).run Tryz.prog w = .ok (.int .u8 2) w := by kernel_rfl
theorem As.rlm (z : Sem Value) (f : TypeId → Addr → Nat → Nat → Sem Value) (v : Value) :
    ReflectliteValue.method z f #[v] = (do match ← ReflectliteValue.parts v with | none => z | some (t, a, fl) => f t a fl (fl % 32)) := rfl
theorem As.partsP (a : Addr) (w : World) : (ReflectliteValue.parts (.agg #[.pointer (some ⟨6, 113, none⟩), .pointer (some a), .int .u64 150])).run Tryz.prog w = .ok (some (113, a, 150)) w := by kernel_rfl
theorem As.isNilP (a p : Addr) (W : World) (ha : W.cell? a = some (.pointer (some p))) :
    (ReflectliteValue.method (ReflectliteValue.valueError "reflectlite.Value.IsNil" 0) ReflectliteValue.isNil #[.agg #[.pointer (some ⟨6, 113, none⟩), .pointer (some a), .int .u64 150]]).run Tryz.prog W = .ok (.bool false) W := by
  rw [As.rlm]
  simp only [Sem.run_bind, As.partsP, Result.andThen]
  simp [ReflectliteValue.isNil, loadVar, isAgg, underlying, Tryz.underlying113, ha, Result.andThen]
theorem As.methodElem (h : Value) (w : World) : (Go.method 349 167 (.agg #[h]) "Elem").run Tryz.prog w = .ok (204, .agg #[h]) w := by kernel_rfl
theorem As.methodImplements (h : Value) (w : World) : (Go.method 349 167 (.agg #[h]) "Implements").run Tryz.prog w = .ok (205, .agg #[h]) w := by kernel_rfl
theorem As.methodAssignableTo (h : Value) (w : World) : (Go.method 349 167 (.agg #[h]) "AssignableTo").run Tryz.prog w = .ok (202, .agg #[h]) w := by kernel_rfl
theorem As.elemP (w : World) : (ReflectliteType.method ReflectliteType.elem #[.agg #[.pointer (some ⟨6, 113, none⟩)]]).run Tryz.prog w = .ok (.iface 167 (.agg #[.pointer (some ⟨6, 59, none⟩)])) w := by kernel_rfl
theorem As.implementsE (w : World) : (ReflectliteType.relation "Implements" ReflectliteType.implements_ #[.agg #[.pointer (some ⟨6, 59, none⟩)], .iface 167 (.agg #[.pointer (some ⟨6, 26, none⟩)])]).run Tryz.prog w = .ok (.bool true) w := by kernel_rfl
theorem As.typeOfE (v : Value) (w : World) : (ReflectliteType.typeOf #[.iface 59 v]).run Tryz.prog w = .ok (.iface 167 (.agg #[.pointer (some ⟨6, 59, none⟩)])) w := by kernel_rfl
theorem As.assignableE (w : World) : (ReflectliteType.relation "AssignableTo" ReflectliteType.assignableTo #[.agg #[.pointer (some ⟨6, 59, none⟩)], .iface 167 (.agg #[.pointer (some ⟨6, 59, none⟩)])]).run Tryz.prog w = .ok (.bool true) w := by kernel_rfl
theorem As.valueOfE (e : Int) (w : World) : (ReflectliteValue.unpack (.iface 59 (.int .i64 e))).run Tryz.prog w
    = .ok (.agg #[.pointer (some ⟨6, 59, none⟩), .pointer (some ⟨w.heap.size, 0, none⟩), .int .u64 130]) (w.alloc (.cells #[.int .i64 e] 59)) := by kernel_rfl
theorem As.elemOfP (w : World) : (Rtype.elem? 113).run Tryz.prog w = .ok (some 59) w := by kernel_rfl
theorem As.mkE (p : Addr) (w : World) : (ReflectliteValue.mk 59 p ReflectliteValue.flagAddr).run Tryz.prog w = .ok (.agg #[.pointer (some ⟨6, 59, none⟩), .pointer (some p), .int .u64 386]) w := by kernel_rfl
theorem As.elemVP (a p : Addr) (W : World) (ha : W.cell? a = some (.pointer (some p))) :
    (ReflectliteValue.method (ReflectliteValue.valueError "reflectlite.Value.Elem" 0) ReflectliteValue.elem #[.agg #[.pointer (some ⟨6, 113, none⟩), .pointer (some a), .int .u64 150]]).run Tryz.prog W
      = .ok (.agg #[.pointer (some ⟨6, 59, none⟩), .pointer (some p), .int .u64 386]) W := by
  rw [As.rlm]
  simp only [Sem.run_bind, As.partsP, Result.andThen]
  simp [ReflectliteValue.elem, loadVar, isAgg, underlying, Tryz.underlying113, ha, Result.andThen, As.elemOfP, As.mkE]
theorem As.rls (v x : Value) : ReflectliteValue.set #[v, x] = (do
    let (some (dst, a, fl), some (src, b, _)) := (← ReflectliteValue.parts v, ← ReflectliteValue.parts x)
      | unsupported (.noEntry "extern/(internal/reflectlite.Value).Set.zeroValue")
    if fl / ReflectliteValue.flagAddr % 2 == 0 then unsupported (.noEntry "extern/(internal/reflectlite.Value).Set.unaddressable")
    let val ← loadVar src b
    if ← Rtype.directlyAssignable dst src then storeVar dst a val
    else if ← Rtype.implements dst src then
      if (← Rtype.kind src) == 20 then
        match val with
        | .nilIface => unsupported (.noEntry "extern/reflectlite: a nil value of one interface type handed on as a value of another")
        | _ => storeVar dst a val
      else storeVar dst a (.iface src val)
    else panicString ("reflectlite.Set: value of type " ++ (← Rtype.spelt src) ++ " is not assignable to type " ++ (← Rtype.spelt dst))
    pure (.tuple #[])) := rfl
theorem As.partsEa (a : Addr) (w : World) : (ReflectliteValue.parts (.agg #[.pointer (some ⟨6, 59, none⟩), .pointer (some a), .int .u64 386])).run Tryz.prog w = .ok (some (59, a, 386)) w := by kernel_rfl
theorem As.partsE (a : Addr) (w : World) : (ReflectliteValue.parts (.agg #[.pointer (some ⟨6, 59, none⟩), .pointer (some a), .int .u64 130])).run Tryz.prog w = .ok (some (59, a, 130)) w := by kernel_rfl
theorem As.directE (w : World) : (Rtype.directlyAssignable 59 59).run Tryz.prog w = .ok true w := by kernel_rfl
theorem As.sizeE (w : World) : (sizeOf 59).run Tryz.prog w = .ok 1 w := by kernel_rfl
theorem As.setE (ta b : Addr) (e : Int) (old : Value) (W : World) (hb : W.cell? b = some (.int .i64 e)) (ht : W.cell? ta = some old) (hf : W.frozen? ta = false) :
    (ReflectliteValue.set #[.agg #[.pointer (some ⟨6, 59, none⟩), .pointer (some ta), .int .u64 386], .agg #[.pointer (some ⟨6, 59, none⟩), .pointer (some b), .int .u64 130]]).run Tryz.prog W
      = .ok (.tuple #[]) (W.setCell ta (.int .i64 e)) := by
  rw [As.rls]
  simp only [Sem.run_bind, As.partsEa, As.partsE, Result.andThen]
  simp [ReflectliteValue.flagAddr, loadVar, isAgg, underlying, Tryz.underlying59, hb, Result.andThen, As.directE, storeVar, Value.cells, storeCells, Addr.add]
  rw [run_store Tryz.prog W ta _ _ (by rfl)]
  simp [ht, hf]

set_option maxHeartbeats 4000000 in
theorem errors_As (e : Int) (t : Addr) (old : Value) (w : World) (hg : EtOk w) (ht0 : w.cell? t = some old) (hf0 : w.frozen? t = false) :
    Calls Tryz.prog 68 #[.iface 59 (.int .i64 e), .iface 113 (.pointer (some t))] w fun ev w' => ev = .returned (.bool true) ∧ w' = ((((w.alloc (.cells #[.pointer (some t)] 113)).alloc (.cells #[.pointer (some ⟨6, 113, none⟩), .pointer (some ⟨w.heap.size, 0, none⟩), .int .u64 150] 144)).alloc (.cells #[.pointer (some ⟨6, 113, none⟩), .pointer (some ⟨w.heap.size, 0, none⟩), .int .u64 150] 144)).alloc (.cells #[.int .i64 e] 59)).setCell t (.int .i64 e) := by
  unfold EtOk at hg
  have h6 := @run_callFunc_extern Tryz.prog 93 _ (fun args => ReflectliteValue.unpack (args.getD 0 (.tuple #[]))) Tryz.func93 (by kernel_rfl) (by kernel_rfl) (by kernel_rfl) (by kernel_rfl)
  have h7 := @run_callFunc_extern Tryz.prog 94 _ (ReflectliteValue.methodAny (ReflectliteValue.valueError "reflectlite.Value.Type" 0) (fun t _ _ _ => ReflectliteType.toType t)) Tryz.func94 (by kernel_rfl) (by kernel_rfl) (by kernel_rfl) (by kernel_rfl)
  have h8 := @run_callFunc_extern Tryz.prog 95 _ (ReflectliteValue.method (ReflectliteValue.valueError "reflectlite.Value.IsNil" 0) ReflectliteValue.isNil) Tryz.func95 (by kernel_rfl) (by kernel_rfl) (by kernel_rfl) (by kernel_rfl)
  have h27 := @run_callFunc_extern Tryz.prog 193 _ (ReflectliteType.abiMethod fun t => do pure (.int .u8 (← Rtype.kind t))) Tryz.func193 (by kernel_rfl) (by kernel_rfl) (by kernel_rfl) (by kernel_rfl)
  have h37 := @run_callFunc_extern Tryz.prog 204 _ (ReflectliteType.method ReflectliteType.elem) Tryz.func204 (by kernel_rfl) (by kernel_rfl) (by kernel_rfl) (by kernel_rfl)
  have h38 := @run_callFunc_extern Tryz.prog 205 _ (ReflectliteType.relation "Implements" ReflectliteType.implements_) Tryz.func205 (by kernel_rfl) (by kernel_rfl) (by kernel_rfl) (by kernel_rfl)
  have h10 := @run_callFunc_extern Tryz.prog 116 _ ReflectliteType.typeOf Tryz.func116 (by kernel_rfl) (by kernel_rfl) (by kernel_rfl) (by kernel_rfl)
  have h35 := @run_callFunc_extern Tryz.prog 202 _ (ReflectliteType.relation "AssignableTo" ReflectliteType.assignableTo) Tryz.func202 (by kernel_rfl) (by kernel_rfl) (by kernel_rfl) (by kernel_rfl)
  have h11 := @run_callFunc_extern Tryz.prog 117 _ (ReflectliteValue.method (ReflectliteValue.valueError "reflectlite.Value.Elem" 0) ReflectliteValue.elem) Tryz.func117 (by kernel_rfl) (by kernel_rfl) (by kernel_rfl) (by kernel_rfl)
  have h12 := @run_callFunc_extern Tryz.prog 118 _ ReflectliteValue.set Tryz.func118 (by kernel_rfl) (by kernel_rfl) (by kernel_rfl) (by kernel_rfl)
  have tO := As.typeOfE
  have mA := As.methodAssignableTo
  have a25 := As.assignableE
  have v25 := As.valueOfE
  have f6 := As.valueOfP
  have f7 := As.typeP
  have mK := As.methodKind
  have mE := As.methodElem
  have mI := As.methodImplements
  have k27 := As.kindP
  have k25 := As.kindE
  have e27 := As.elemP
  have i25 := As.implementsE
  have n8 := As.isNilP ⟨w.heap.size, 0, none⟩ t ((w.alloc (.cells #[.pointer (some t)] 113)).alloc (.cells #[.pointer (some ⟨6, 113, none⟩), .pointer (some ⟨w.heap.size, 0, none⟩), .int .u64 150] 144)) (by simp)
  have hlt : 2 < w.heap.size := cell_lt (a := ⟨2, 0, none⟩) hg
  have hg2 : ((w.alloc (.cells #[.pointer (some t)] 113)).alloc (.cells #[.pointer (some ⟨6, 113, none⟩), .pointer (some ⟨w.heap.size, 0, none⟩), .int .u64 150] 144)).cell? ⟨2, 0, none⟩ = some (.iface 167 (.agg #[.pointer (some ⟨6, 26, none⟩)])) := by
    rw [World.cell?_alloc_lt _ _ ⟨2, 0, none⟩ (by simp; omega), World.cell?_alloc_lt _ _ ⟨2, 0, none⟩ hlt]; exact hg
  have htl : t.block < w.heap.size := cell_lt ht0
  have el := As.elemVP ⟨w.heap.size, 0, none⟩ t (((w.alloc (.cells #[.pointer (some t)] 113)).alloc (.cells #[.pointer (some ⟨6, 113, none⟩), .pointer (some ⟨w.heap.size, 0, none⟩), .int .u64 150] 144)).alloc (.cells #[.pointer (some ⟨6, 113, none⟩), .pointer (some ⟨w.heap.size, 0, none⟩), .int .u64 150] 144)) (by rw [World.cell?_alloc_lt _ _ ⟨w.heap.size, 0, none⟩ (by simp; omega)]; simp)
  have st := As.setE t ⟨w.heap.size + 1 + 1 + 1, 0, none⟩ e old ((((w.alloc (.cells #[.pointer (some t)] 113)).alloc (.cells #[.pointer (some ⟨6, 113, none⟩), .pointer (some ⟨w.heap.size, 0, none⟩), .int .u64 150] 144)).alloc (.cells #[.pointer (some ⟨6, 113, none⟩), .pointer (some ⟨w.heap.size, 0, none⟩), .int .u64 150] 144)).alloc (.cells #[.int .i64 e] 59))
    (by rw [World.cell?_alloc_at _ _ _ _ (by simp)]; rfl)
    (by rw [World.cell?_alloc_lt _ _ t (by simp; omega), World.cell?_alloc_lt _ _ t (by simp; omega), World.cell?_alloc_lt _ _ t (by simp; omega), World.cell?_alloc_lt _ _ t htl]; exact ht0)
    (by rw [World.frozen?_alloc_old _ _ t (by simp; omega), World.frozen?_alloc_old _ _ t (by simp; omega), World.frozen?_alloc_old _ _ t (by simp; omega), World.frozen?_alloc_old _ _ t (Nat.ne_of_lt htl)]; exact hf0)
  go_enter Tryz.func68, Tryz.ntmps68
  go_wp2
  refine wp_loop_rounds 1 ?_
  rw [rounds_succ]
  go_wp2
  go_ret
  exact ⟨rfl, rfl⟩

set_option maxHeartbeats 1000000 in
theorem plain_Told (e : Int) (w : World) (hg : EtOk w) : Calls Tryz.prog 42 #[errV e] w (Keeps (.int .i64 e) w) := by
  by_cases h : e = 0
  · subst h
    rw [errV_zero rfl]
    go_enter Tryz.func42, Tryz.ntmps42
    go_wp2
    go_ret
    exact ⟨rfl, Below.refl _ _⟩
  · rw [errV_ne h]
    have hgA : EtOk (w.alloc (.cells #[.int .i64 0] 59)) := hg.keep ((Below.refl _ w).alloc (Nat.le_refl _) _)
    have htA : (w.alloc (.cells #[.int .i64 0] 59)).cell? ⟨w.heap.size, 0, none⟩ = some (.int .i64 0) := by simp
    have hfA : (w.alloc (.cells #[.int .i64 0] 59)).frozen? ⟨w.heap.size, 0, none⟩ = false := by simp
    clear h
    go_enter Tryz.func42, Tryz.ntmps42
    go_wp2_with (go_at_call 68; refine (errors_As _ _ (.int .i64 0) _ hgA htA hfA).mono ?_; rintro e w' ⟨rfl, rfl⟩)
    go_ret
    exact ⟨rfl, by (repeat' (first | (with_reducible exact Below.refl _ _) | (with_reducible assumption) | (with_reducible refine Below.next ?_ (by with_reducible assumption)) | (with_reducible refine Below.drew ?_) | (with_reducible refine Below.laid ?_ _) | (with_reducible refine Below.setCell ?_ ?_ _) | (with_reducible refine size_of ?_) | (with_reducible refine Nat.le_succ_of_le ?_) | go_size))⟩

set_option maxHeartbeats 1000000 in
theorem vennsame_Error (e f : Int) (w : World) (hg : EtOk w) : Calls Tryz.prog 15 #[errV e, .int .i64 f] w (Keeps (.bool (e == f)) w) := by
  go_enter Tryz.func15, Tryz.ntmps15
  go_wp2_with (go_at_call 42; refine (plain_Told _ _ hg).mono ?_; rintro e w1 ⟨rfl, hb1⟩)
  go_ret
  exact ⟨rfl, hb1⟩

end Go.Proofs.YtjnjgcibhjdmdaaGreatDoor

namespace Go.Proofs.YtjnjgcibhjdmdaaGreatDoor
open Go.ChangeShapes Go.WideShapes Go.ChangeAt Go.RowKit

theorem globEt : Tryz.prog.globalNamed "errors.errorType" = some 2 := by kernel_rfl
theorem rtypeT : (Tryz.prog.cutTypes.find? (·.1 == "internal/reflectlite.rtype")).map (·.2) = some 167 := by kernel_rfl
theorem oneRow : ((List.range 249).filter fun t => Tryz.prog.rowNamed t [101, 114, 114, 111, 114]) = [26] := by kernel_rfl
theorem sizeTypes : Tryz.prog.types.size = 249 := by kernel_rfl
theorem et_of_laid {l : List (String × DataW Unit)} {W : World} (h : laidMetH Tryz.prog l W) (hm : ("errors.errorType", (Rows.laid_errors_errorType : DataW Unit)) ∈ l) : EtOk W := by
  have h' := (laidMetH_iff.1 h).2 _ (List.mem_filter.2 ⟨hm, by kernel_rfl⟩)
  obtain ⟨name, u, ty, e1, e2, e3, e4, e5⟩ := h'
  have en : name = [101, 114, 114, 111, 114] := (Option.some.inj e1).symm
  subst en
  obtain rfl := Option.some.inj (rtypeT.symm.trans e2)
  have hm' : ty ∈ (List.range 249).filter fun t => Tryz.prog.rowNamed t [101, 114, 114, 111, 114] := List.mem_filter.2 ⟨List.mem_range.2 (by rw [← sizeTypes]; exact e3), e4⟩
  rw [oneRow] at hm'
  obtain rfl := List.mem_singleton.1 hm'
  have hh : typeHandle Tryz.prog 26 = .pointer (some ⟨6, 26, none⟩) := by kernel_rfl
  rw [hh] at e5
  unfold EtOk
  simpa using World.var?_cell globEt e5 0

end Go.Proofs.YtjnjgcibhjdmdaaGreatDoor

namespace Go.Proofs.YtjnjgcibhjdmdaaGreatDoor
open Go.ChangeShapes Go.WideShapes Go.ChangeAt Go.RowKit Go.Deep

theorem laidVars_mem {P : Program} {w : World} {n : String} {d : DataW Unit} : ∀ {l : List (String × DataW Unit)} {ps : List MemPlace}, DataW.LaidVars P w l ps → (n, d) ∈ l →
    ∃ g t cs fuel p, P.globalNamed n = some g ∧ (P.globals[g]?).map (·.type) = some t ∧ w.var? P n = some cs ∧ DataW.trod (fun _ => ()) P w 0 (fun _ => true) false fuel t cs.toList = some (d, p)
  | [], _, _, hm => by cases hm
  | (n', d') :: r, ps, h, hm => by
    obtain ⟨g, t, cs, fuel, p, q, h1, h2, h3, h4, h5, _⟩ := h
    rcases List.mem_cons.1 hm with e | hm
    · injection e with e1 e2; subst e1 e2; exact ⟨g, t, cs, fuel, p, h1, h2, h3, h4⟩
    · exact laidVars_mem h5 hm

theorem len3 {α : Type} {l : List α} (h : l.length = 3) : ∃ a b c, l = [a, b, c] := by
  match l, h with
  | [a, b, c], _ => exact ⟨a, b, c, rfl⟩
theorem rows18 {l : List Value} (h : l.length = 18) {a0 a1 a2 b0 b1 b2 c0 c1 c2 d0 d1 d2 e0 e1 e2 f0 f1 f2 : Value} (h0 : (l.drop (0 * 3)).take 3 = [a0, a1, a2]) (h1 : (l.drop (1 * 3)).take 3 = [b0, b1, b2]) (h2 : (l.drop (2 * 3)).take 3 = [c0, c1, c2])
    (h3 : (l.drop (3 * 3)).take 3 = [d0, d1, d2]) (h4 : (l.drop (4 * 3)).take 3 = [e0, e1, e2]) (h5 : (l.drop (5 * 3)).take 3 = [f0, f1, f2]) :
    l = [a0, a1, a2, b0, b1, b2, c0, c1, c2, d0, d1, d2, e0, e1, e2, f0, f1, f2] := by
  match l, h with
  | [x0, x1, x2, x3, x4, x5, x6, x7, x8, x9, x10, x11, x12, x13, x14, x15, x16, x17], _ =>
    simp at h0 h1 h2 h3 h4 h5
    simp [h0, h1, h2, h3, h4, h5]

theorem globKinds : Tryz.prog.globalNamed "vennhouse/atom.kinds" = some 0 := by kernel_rfl
theorem kindsT : (Tryz.prog.globals[0]?).map (·.type) = some 92 := by kernel_rfl
theorem cellsKind : Tryz.prog.cellsOf 91 = 3 := by kernel_rfl
theorem cellsKinds : Tryz.prog.cellsOf 92 = 18 := by kernel_rfl
theorem cellsStr : Tryz.prog.cellsOf 9 = 1 := by kernel_rfl
theorem cellsBool : Tryz.prog.cellsOf 4 = 1 := by kernel_rfl

theorem kind_row {w : World} {fuel : Nat} {cs : List Value} {x : DataW Unit × List MemPlace} (h : DataW.trod (fun _ => ()) Tryz.prog w 0 (fun _ => true) false fuel 91 cs = some x) :
    ∃ (s : ByteArray) (b c : Bool), cs = [.string s, .bool b, .bool c] ∧ x.1 = .agg [.lit (.string s.data.toList), .lit (.bool b), .lit (.bool c)] := by
  obtain ⟨y0, y1, y2, n, rfl, hl, h0, h1, h2⟩ := trod_struct3 Tryz.underlying91 h
  obtain ⟨s, e0, rfl, _⟩ := DataW.trod_string Tryz.underlying9 h0
  obtain ⟨b, e1, rfl⟩ := DataW.trod_bool Tryz.underlying4 h1
  obtain ⟨c, e2, rfl⟩ := DataW.trod_bool Tryz.underlying4 h2
  rw [cellsKind] at hl
  obtain ⟨c0, c1, c2, rfl⟩ := len3 hl
  rw [cellsStr] at e0
  rw [cellsBool] at e1 e2
  simp at e0 e1 e2
  subst e0 e1 e2
  exact ⟨s, b, c, rfl, rfl⟩

theorem kinds_of_laid {l : List (String × DataW Unit)} {W : World} (h : laidMetH Tryz.prog l W) (hm : ("vennhouse/atom.kinds", (Rows.laid_vennhouse_atom_kinds : DataW Unit)) ∈ l) : KindsOk W := by
  obtain ⟨ps, hlv, _, _⟩ := (laidMetH_iff.1 h).1
  obtain ⟨g, t, cs, fuel, p, e1, e2, e3, e4⟩ := laidVars_mem hlv (List.mem_filter.2 ⟨hm, by kernel_rfl⟩)
  obtain rfl := Option.some.inj (globKinds.symm.trans e1)
  obtain rfl := Option.some.inj (kindsT.symm.trans e2)
  obtain ⟨xs, m, _, hx, hcl, hxl, hf⟩ := DataW.trod_array Tryz.underlying92 e4
  rw [cellsKinds] at hcl
  have hxs : xs.map (·.1) = [.agg [.lit (.string []), .lit (.bool false), .lit (.bool false)], .agg [.lit (.string [115, 117, 98]), .lit (.bool true), .lit (.bool false)], .agg [.lit (.string [115, 97, 109, 101]), .lit (.bool true), .lit (.bool false)], .agg [.lit (.string [108, 101, 97, 115, 116]), .lit (.bool false), .lit (.bool true)], .agg [.lit (.string [109, 111, 115, 116]), .lit (.bool false), .lit (.bool true)], .agg [.lit (.string [110, 111, 109, 111, 114, 101]), .lit (.bool true), .lit (.bool true)]] := by
    have := congrArg Prod.fst hx
    unfold Rows.laid_vennhouse_atom_kinds at this
    injection this with this
    exact this.symm
  have row : ∀ (i : Nat) (bs : List UInt8) (b c : Bool), (xs.map (·.1))[i]? = some (.agg [.lit (.string bs), .lit (.bool b), .lit (.bool c)]) → (cs.toList.drop (i * 3)).take 3 = [str bs, .bool b, .bool c] := by
    intro i bs b c hi
    rw [List.getElem?_map] at hi
    obtain ⟨y, hy, hy1⟩ := Option.map_eq_some_iff.1 hi
    have hlt : i < 6 := by rw [← hxl]; exact (List.getElem?_eq_some_iff.1 hy).1
    have := hf i hlt
    rw [hy, cellsKind] at this
    obtain ⟨s, b', c', ec, ed⟩ := kind_row this
    rw [hy1] at ed
    simp at ed
    obtain ⟨e1, e2, e3⟩ := ed
    rw [ec, ← e2, ← e3, str, e1]
  have rows : cs.toList = kindCells := by
    have r0 := row 0 _ _ _ (by rw [hxs]; rfl)
    have r1 := row 1 _ _ _ (by rw [hxs]; rfl)
    have r2 := row 2 _ _ _ (by rw [hxs]; rfl)
    have r3 := row 3 _ _ _ (by rw [hxs]; rfl)
    have r4 := row 4 _ _ _ (by rw [hxs]; rfl)
    have r5 := row 5 _ _ _ (by rw [hxs]; rfl)
    exact rows18 hcl r0 r1 r2 r3 r4 r5
  intro i v hv
  rw [← rows] at hv
  rw [World.var?_cell globKinds e3 i]
  simpa using hv

end Go.Proofs.YtjnjgcibhjdmdaaGreatDoor
