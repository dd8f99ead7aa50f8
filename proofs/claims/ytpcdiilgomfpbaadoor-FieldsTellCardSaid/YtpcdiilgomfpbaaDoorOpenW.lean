/-
  ARGUMENTS OPENED: a world, counts, an atom.
-/
import Derived.Test.YtpcdiilgomfpbaaDoorOpen
import Derived.OpenShut
import Derived.Deep.Strs
namespace Go.Proofs.YtpcdiilgomfpbaaDoor
open Go.ChangeShapes Go.WideShapes Go.ChangeAt Go.RowKit Go.Deep

theorem trod_intsArr {H : Type} {enc : TypeId × Value → H} {P : Program} {w : World} {base : Nat} {spare : Nat → Bool} {held : Bool} {fuel n : Nat} {t e : TypeId} {cs : List Value} {x : DataW H × List MemPlace}
    (ht : P.underlying t = some (.array n e)) (he : P.underlying e = some (.int .i64)) (hc : P.cellsOf e = 1) (hct : P.cellsOf t = n) (h : DataW.trod enc P w base spare held fuel t cs = some x) :
    ∃ l : List Int, l.length = n ∧ cs = l.map (Value.int .i64) ∧ ∀ z ∈ l, (Lit.int .i64 z).wf = true := by
  obtain ⟨xs, m, _, _, hl, hxl, hf⟩ := DataW.trod_array ht h
  rw [hct] at hl
  have cell : ∀ i, i < n → ∃ z, cs[i]? = some (.int .i64 z) ∧ (Lit.int .i64 z).wf = true := by
    intro i hi
    have := hf i hi
    rw [hc, Nat.mul_one] at this
    obtain ⟨y, hy⟩ : ∃ y, xs[i]? = some y := ⟨xs[i], List.getElem?_eq_getElem (by omega)⟩
    rw [hy] at this
    obtain ⟨z, ez, _, hw⟩ := DataW.trod_int he this
    refine ⟨z, ?_, hw⟩
    have h0 : ((cs.drop i).take 1)[0]? = some (.int .i64 z) := by rw [ez]; rfl
    simpa using h0
  refine ⟨cs.map intOf, by simp [hl], ?_, ?_⟩
  · refine List.ext_getElem? fun i => ?_
    by_cases hi : i < n
    · obtain ⟨z, hz, _⟩ := cell i hi
      simp [hz, intOf]
    · rw [List.getElem?_eq_none (by omega), List.getElem?_eq_none (by simp; omega)]
  · intro z hz
    obtain ⟨v, hv, rfl⟩ := List.mem_map.1 hz
    obtain ⟨i, hi, rfl⟩ := List.getElem_of_mem hv
    obtain ⟨z, hz, hw⟩ := cell i (by omega)
    rw [List.getElem?_eq_getElem hi] at hz
    rw [Option.some.inj hz]
    exact hw
theorem okWide_array {P : Program} {w : World} {r : Reach} {base n : Nat} {t e : TypeId} {v : Value} (ht : P.underlying t = some (.array n e)) (h : Value.okWide P w r base t v) : ∃ cs, v = .agg cs ∧ cs.size = P.cellsOf t := by
  simp only [Value.okWide, ht] at h
  obtain ⟨cs, h1, h2, _⟩ := h
  exact ⟨cs, h1, h2⟩
section
variable {H : Type} {enc : TypeId × Value → H} {P : Program} {w : World} {base b0 : Nat} {spare : Nat → Bool} {held : Bool} {r : Reach} {v : Value} {d : DataW H} {ps : List MemPlace}
theorem open_world_of {tw ta ti : TypeId} {f0 f1 : Field} (h0 : P.underlying tw = some (.struct #[f0, f1])) (hf0 : f0.type = ti) (hf1 : f1.type = ta) (ho0 : f0.offset = 0) (ho1 : f1.offset = 1)
    (hta : P.underlying ta = some (.array 3 ti)) (hti : P.underlying ti = some (.int .i64)) (c1 : P.cellsOf ti = 1) (c3 : P.cellsOf ta = 3) (c4 : P.cellsOf tw = 4) (hok : Value.okWide P w r b0 tw v) (h : DataW.Trod enc P w base spare held tw v d ps) :
    ∃ th a b c : Int, v = .agg #[.int .i64 th, .int .i64 a, .int .i64 b, .int .i64 c] ∧ (∀ x ∈ [th, a, b, c], (Lit.int .i64 x).wf = true) := by
  obtain ⟨cs, rfl, hsz⟩ := okWide_struct h0 hok
  obtain ⟨fuel, hf⟩ := h
  obtain ⟨y0, y1, n, _, _, g0, g1⟩ := trod_struct2 h0 hf
  subst hf0 hf1
  obtain ⟨th, e0, _, w0⟩ := DataW.trod_int hti g0
  obtain ⟨l, hl, e1, w1⟩ := trod_intsArr hta hti c1 c3 g1
  rw [c4] at hsz
  rw [c1, ho0] at e0
  rw [c3, ho1] at e1
  obtain ⟨xs⟩ := cs
  match l, hl, xs, hsz, e0, e1, w1 with
  | [a, b, c], _, [x0, x1, x2, x3], _, e0, e1, w1 =>
    simp [Value.cells] at e0 e1
    refine ⟨th, a, b, c, by simp [e0, e1], fun x hx => ?_⟩
    rcases List.mem_cons.1 hx with rfl | hx
    · exact w0
    · exact w1 x hx
theorem open_counts_of {ta ti : TypeId} (hta : P.underlying ta = some (.array 8 ti)) (hti : P.underlying ti = some (.int .i64)) (c1 : P.cellsOf ti = 1) (c8 : P.cellsOf ta = 8)
    (hok : Value.okWide P w r b0 ta v) (h : DataW.Trod enc P w base spare held ta v d ps) :
    ∃ n0 n1 n2 n3 n4 n5 n6 n7 : Int, v = .agg #[.int .i64 n0, .int .i64 n1, .int .i64 n2, .int .i64 n3, .int .i64 n4, .int .i64 n5, .int .i64 n6, .int .i64 n7] ∧ (∀ x ∈ [n0, n1, n2, n3, n4, n5, n6, n7], (Lit.int .i64 x).wf = true) := by
  obtain ⟨cs, rfl, hsz⟩ := okWide_array hta hok
  obtain ⟨fuel, hf⟩ := h
  obtain ⟨l, hl, e1, w1⟩ := trod_intsArr hta hti c1 c8 hf
  obtain ⟨xs⟩ := cs
  match l, hl, e1, w1 with
  | [n0, n1, n2, n3, n4, n5, n6, n7], _, e1, w1 =>
    refine ⟨n0, n1, n2, n3, n4, n5, n6, n7, ?_, w1⟩
    simp [Value.cells] at e1
    simp [e1]
/-- A slice's cell reads as a list. -/
theorem isInts_of_trod {t e : TypeId} (ht : P.underlying t = some (.slice e)) (he : P.underlying e = some (.int .i64)) (hc : P.cellsOf e = 1) {fuel : Nat} {cs : List Value} {x : DataW H × List MemPlace} (h : DataW.trod enc P w base spare held fuel t cs = some x) :
    ∃ (l : List Int) (u : Value), cs = [u] ∧ IsInts w u l ∧ ∀ n ∈ l, (Lit.int .i64 n).wf = true := by
  rcases open_ints ht he hc h with ⟨hcs, _⟩ | ⟨a, len', cap', zs, hcs, _, hl, hm, hz, _, hcell, hwf⟩
  · exact ⟨[], _, hcs, ⟨none, 0, rfl, Rd.nil _ _, Nat.le_refl _, by simp⟩, fun n hn => by simp at hn⟩
  · have hlen : len' ≤ zs.length := by rw [hz]; split <;> omega
    have htl : (zs.take len').length = len' := by simp; omega
    refine ⟨zs.take len', .slice (some a) len' cap', hcs, ⟨some a, cap', by rw [htl], fun j u hj => ?_, by omega, hm⟩, fun n hn => hwf n (List.mem_of_mem_take hn)⟩
    rw [List.getElem?_map] at hj
    obtain ⟨x, hx, rfl⟩ := Option.map_eq_some_iff.1 hj
    have hjl : j < len' := by
      have := (List.getElem?_eq_some_iff.1 hx).1
      omega
    rw [List.getElem?_take_of_lt hjl] at hx
    refine ⟨a, rfl, ?_⟩
    rw [hcell j (by omega), List.getD_eq_getElem?_getD, hx]
    rfl
theorem cells_atom_of {tt ts ti : TypeId} {f0 f1 f2 f3 : Field} (h0 : P.underlying tt = some (.struct #[f0, f1, f2, f3])) (hf : f0.type = ti ∧ f1.type = ts ∧ f2.type = ts ∧ f3.type = ti) (ho : f0.offset = 0 ∧ f1.offset = 1 ∧ f2.offset = 2 ∧ f3.offset = 3)
    (hts : P.underlying ts = some (.slice ti)) (hti : P.underlying ti = some (.int .i64)) (c1 : P.cellsOf ti = 1) (c2 : P.cellsOf ts = 1) (c4 : P.cellsOf tt = 4)
    {fuel : Nat} {cs : List Value} {x : DataW H × List MemPlace} (h : DataW.trod enc P w base spare held fuel tt cs = some x) :
    ∃ (what n : Int) (s t : List Int) (sv tv : Value), cs = [.int .i64 what, sv, tv, .int .i64 n] ∧ IsInts w sv s ∧ IsInts w tv t ∧ (Lit.int .i64 what).wf = true ∧ (Lit.int .i64 n).wf = true := by
  obtain ⟨xs, m, _, _, hl, hxl, hf'⟩ := DataW.trod_struct h0 h
  rw [c4] at hl
  obtain ⟨t0, t1, t2, t3⟩ := hf
  obtain ⟨o0, o1, o2, o3⟩ := ho
  have g0 := hf' 0 f0 rfl
  have g1 := hf' 1 f1 rfl
  have g2 := hf' 2 f2 rfl
  have g3 := hf' 3 f3 rfl
  rw [t0, o0, c1] at g0
  rw [t1, o1, c2] at g1
  rw [t2, o2, c2] at g2
  rw [t3, o3, c1] at g3
  obtain ⟨z0, e0⟩ : ∃ z, xs[0]? = some z := ⟨xs[0]'(by rw [hxl]; simp), List.getElem?_eq_getElem _⟩
  obtain ⟨z1, e1⟩ : ∃ z, xs[1]? = some z := ⟨xs[1]'(by rw [hxl]; simp), List.getElem?_eq_getElem _⟩
  obtain ⟨z2, e2⟩ : ∃ z, xs[2]? = some z := ⟨xs[2]'(by rw [hxl]; simp), List.getElem?_eq_getElem _⟩
  obtain ⟨z3, e3⟩ : ∃ z, xs[3]? = some z := ⟨xs[3]'(by rw [hxl]; simp), List.getElem?_eq_getElem _⟩
  rw [e0] at g0; rw [e1] at g1; rw [e2] at g2; rw [e3] at g3
  clear hf' h e0 e1 e2 e3 hxl
  obtain ⟨what, e0, _, w0⟩ := DataW.trod_int hti g0
  obtain ⟨n, e3, _, w3⟩ := DataW.trod_int hti g3
  obtain ⟨s, sv, e1, hs, _⟩ := isInts_of_trod hts hti c1 g1
  obtain ⟨t, tv, e2, ht, _⟩ := isInts_of_trod hts hti c1 g2
  clear g0 g1 g2 g3
  match cs, hl, e0, e1, e2, e3 with
  | [c0, c1, c2, c3], _, e0, e1, e2, e3 =>
    simp at e0 e1 e2 e3
    subst e0 e1 e2 e3
    exact ⟨what, n, s, t, _, _, rfl, hs, ht, w0, w3⟩
end
theorem cellsInt : Tryd.prog.cellsOf 3 = 1 := by kernel_rfl
section
variable {H : Type} {enc : TypeId × Value → H} {w : World} {base b0 : Nat} {spare : Nat → Bool} {held : Bool} {r : Reach} {v : Value} {d : DataW H} {ps : List MemPlace}
theorem cells3 : Tryd.prog.cellsOf 39 = 3 := by kernel_rfl
theorem cellsWorld : Tryd.prog.cellsOf 41 = 4 := by kernel_rfl
set_option maxRecDepth 100000 in
theorem open_world (hok : Value.okWide Tryd.prog w r b0 41 v) (h : DataW.Trod enc Tryd.prog w base spare held 41 v d ps) :
    ∃ th a b c : Int, v = .agg #[.int .i64 th, .int .i64 a, .int .i64 b, .int .i64 c] ∧ (∀ x ∈ [th, a, b, c], (Lit.int .i64 x).wf = true) :=
  open_world_of Tryd.underlying41 rfl rfl rfl rfl Tryd.underlying39 Tryd.underlying3 cellsInt cells3 cellsWorld hok h
theorem cells8 : Tryd.prog.cellsOf 23 = 8 := by kernel_rfl
set_option maxRecDepth 100000 in
theorem open_counts (hok : Value.okWide Tryd.prog w r b0 23 v) (h : DataW.Trod enc Tryd.prog w base spare held 23 v d ps) :
    ∃ n0 n1 n2 n3 n4 n5 n6 n7 : Int, v = .agg #[.int .i64 n0, .int .i64 n1, .int .i64 n2, .int .i64 n3, .int .i64 n4, .int .i64 n5, .int .i64 n6, .int .i64 n7] ∧ (∀ x ∈ [n0, n1, n2, n3, n4, n5, n6, n7], (Lit.int .i64 x).wf = true) :=
  open_counts_of Tryd.underlying23 Tryd.underlying3 cellsInt cells8 hok h
theorem cellsInts : Tryd.prog.cellsOf 38 = 1 := by kernel_rfl
theorem cellsAtom : Tryd.prog.cellsOf 47 = 4 := by kernel_rfl
set_option maxRecDepth 100000 in
theorem cells_atom {fuel : Nat} {cs : List Value} {x : DataW H × List MemPlace} (h : DataW.trod enc Tryd.prog w base spare held fuel 47 cs = some x) :
    ∃ (what n : Int) (s t : List Int) (sv tv : Value), cs = [.int .i64 what, sv, tv, .int .i64 n] ∧ IsInts w sv s ∧ IsInts w tv t ∧ (Lit.int .i64 what).wf = true ∧ (Lit.int .i64 n).wf = true :=
  cells_atom_of Tryd.underlying47 ⟨rfl, rfl, rfl, rfl⟩ ⟨rfl, rfl, rfl, rfl⟩ Tryd.underlying38 Tryd.underlying3 cellsInt cellsInts cellsAtom h
set_option maxRecDepth 100000 in
theorem open_atom (hok : Value.okWide Tryd.prog w r b0 47 v) (h : DataW.Trod enc Tryd.prog w base spare held 47 v d ps) :
    ∃ (what n : Int) (s t : List Int) (sv tv : Value), v = .agg #[.int .i64 what, sv, tv, .int .i64 n] ∧ IsInts w sv s ∧ IsInts w tv t ∧ (Lit.int .i64 what).wf = true ∧ (Lit.int .i64 n).wf = true := by
  obtain ⟨cs, rfl, hsz⟩ := okWide_struct Tryd.underlying47 hok
  obtain ⟨fuel, hf⟩ := h
  obtain ⟨what, n, s, t, sv, tv, e, hs, ht, w0, w3⟩ := cells_atom hf
  refine ⟨what, n, s, t, sv, tv, ?_, hs, ht, w0, w3⟩
  obtain ⟨xs⟩ := cs
  simp [Value.cells] at e
  rw [e]
end
end Go.Proofs.YtpcdiilgomfpbaaDoor
