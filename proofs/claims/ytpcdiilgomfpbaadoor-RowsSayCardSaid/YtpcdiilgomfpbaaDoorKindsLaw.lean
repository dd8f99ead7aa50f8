/-
  THE TABLE of atoms' kinds: its cells, out of the row's list.
-/
import Derived.Test.YtpcdiilgomfpbaaDoorKinds
import Derived.Test.YtpcdiilgomfpbaaDoorDoorLaw
import Derived.Deep.Strs
namespace Go.Proofs.YtpcdiilgomfpbaaDoor
open Go.ChangeShapes Go.WideShapes Go.ChangeAt Go.RowKit Go.Deep

theorem laidVars_mem {P : Program} {w : World} {n : String} {d : DataW Unit} : ∀ {l : List (String × DataW Unit)} {ps : List MemPlace}, DataW.LaidVars P w l ps → (n, d) ∈ l →
    ∃ g t cs fuel p, P.globalNamed n = some g ∧ (P.globals[g]?).map (·.type) = some t ∧ w.var? P n = some cs ∧ DataW.trod (fun _ => ()) P w 0 (fun _ => true) false fuel t cs.toList = some (d, p)
  | [], _, _, hm => by cases hm
  | (n', d') :: r, ps, h, hm => by
    obtain ⟨g, t, cs, fuel, p, q, h1, h2, h3, h4, h5, _⟩ := h
    rcases List.mem_cons.1 hm with e | hm
    · injection e with e1 e2; subst e1 e2; exact ⟨g, t, cs, fuel, p, h1, h2, h3, h4⟩
    · exact laidVars_mem h5 hm

theorem len3 {α : Type} {l : List α} (h : l.length = 3) : ∃ a b c, l = [a, b, c] := by
  match l, h with
  | [a, b, c], _ => exact ⟨a, b, c, rfl⟩
theorem rows18 {l : List Value} (h : l.length = 18) {a0 a1 a2 b0 b1 b2 c0 c1 c2 d0 d1 d2 e0 e1 e2 f0 f1 f2 : Value} (h0 : (l.drop (0 * 3)).take 3 = [a0, a1, a2]) (h1 : (l.drop (1 * 3)).take 3 = [b0, b1, b2]) (h2 : (l.drop (2 * 3)).take 3 = [c0, c1, c2])
    (h3 : (l.drop (3 * 3)).take 3 = [d0, d1, d2]) (h4 : (l.drop (4 * 3)).take 3 = [e0, e1, e2]) (h5 : (l.drop (5 * 3)).take 3 = [f0, f1, f2]) :
    l = [a0, a1, a2, b0, b1, b2, c0, c1, c2, d0, d1, d2, e0, e1, e2, f0, f1, f2] := by
  match l, h with
  | [x0, x1, x2, x3, x4, x5, x6, x7, x8, x9, x10, x11, x12, x13, x14, x15, x16, x17], _ =>
    simp at h0 h1 h2 h3 h4 h5
    simp [h0, h1, h2, h3, h4, h5]

theorem globKinds : Tryd.prog.globalNamed "vennhouse/atom.kinds" = some 0 := by kernel_rfl
theorem kindsT : (Tryd.prog.globals[0]?).map (·.type) = some 166 := by kernel_rfl
theorem cellsKind : Tryd.prog.cellsOf 165 = 3 := by kernel_rfl
theorem cellsKinds : Tryd.prog.cellsOf 166 = 18 := by kernel_rfl
theorem cellsStr : Tryd.prog.cellsOf 9 = 1 := by kernel_rfl
theorem cellsBool : Tryd.prog.cellsOf 4 = 1 := by kernel_rfl

theorem kind_row {w : World} {fuel : Nat} {cs : List Value} {x : DataW Unit × List MemPlace} (h : DataW.trod (fun _ => ()) Tryd.prog w 0 (fun _ => true) false fuel 165 cs = some x) :
    ∃ (s : ByteArray) (b c : Bool), cs = [.string s, .bool b, .bool c] ∧ x.1 = .agg [.lit (.string s.data.toList), .lit (.bool b), .lit (.bool c)] := by
  obtain ⟨y0, y1, y2, n, rfl, hl, h0, h1, h2⟩ := trod_struct3 Tryd.underlying165 h
  obtain ⟨s, e0, rfl, _⟩ := DataW.trod_string Tryd.underlying9 h0
  obtain ⟨b, e1, rfl⟩ := DataW.trod_bool Tryd.underlying4 h1
  obtain ⟨c, e2, rfl⟩ := DataW.trod_bool Tryd.underlying4 h2
  rw [cellsKind] at hl
  obtain ⟨c0, c1, c2, rfl⟩ := len3 hl
  rw [cellsStr] at e0
  rw [cellsBool] at e1 e2
  simp at e0 e1 e2
  subst e0 e1 e2
  exact ⟨s, b, c, rfl, rfl⟩

theorem kinds_of_laid {l : List (String × DataW Unit)} {W : World} (h : laidMetH Tryd.prog l W) (hm : ("vennhouse/atom.kinds", (Rows.laid_vennhouse_atom_kinds : DataW Unit)) ∈ l) : KindsOk W := by
  obtain ⟨ps, hlv, _, _⟩ := (laidMetH_iff.1 h).1
  obtain ⟨g, t, cs, fuel, p, e1, e2, e3, e4⟩ := laidVars_mem hlv (List.mem_filter.2 ⟨hm, by kernel_rfl⟩)
  obtain rfl := Option.some.inj (globKinds.symm.trans e1)
  obtain rfl := Option.some.inj (kindsT.symm.trans e2)
  obtain ⟨xs, m, _, hx, hcl, hxl, hf⟩ := DataW.trod_array Tryd.underlying166 e4
  rw [cellsKinds] at hcl
  have hxs : xs.map (·.1) = [.agg [.lit (.string []), .lit (.bool false), .lit (.bool false)], .agg [.lit (.string [115, 117, 98]), .lit (.bool true), .lit (.bool false)], .agg [.lit (.string [115, 97, 109, 101]), .lit (.bool true), .lit (.bool false)], .agg [.lit (.string [108, 101, 97, 115, 116]), .lit (.bool false), .lit (.bool true)], .agg [.lit (.string [109, 111, 115, 116]), .lit (.bool false), .lit (.bool true)], .agg [.lit (.string [110, 111, 109, 111, 114, 101]), .lit (.bool true), .lit (.bool true)]] := by
    have := congrArg Prod.fst hx
    unfold Rows.laid_vennhouse_atom_kinds at this
    injection this with this
    exact this.symm
  have row : ∀ (i : Nat) (bs : List UInt8) (b c : Bool), (xs.map (·.1))[i]? = some (.agg [.lit (.string bs), .lit (.bool b), .lit (.bool c)]) → (cs.toList.drop (i * 3)).take 3 = [str bs, .bool b, .bool c] := by
    intro i bs b c hi
    rw [List.getElem?_map] at hi
    obtain ⟨y, hy, hy1⟩ := Option.map_eq_some_iff.1 hi
    have hlt : i < 6 := by rw [← hxl]; exact (List.getElem?_eq_some_iff.1 hy).1
    have := hf i hlt
    rw [hy, cellsKind] at this
    obtain ⟨s, b', c', ec, ed⟩ := kind_row this
    rw [hy1] at ed
    simp at ed
    obtain ⟨e1, e2, e3⟩ := ed
    rw [ec, ← e2, ← e3, str, e1]
  have rows : cs.toList = kindCells := by
    have r0 := row 0 _ _ _ (by rw [hxs]; rfl)
    have r1 := row 1 _ _ _ (by rw [hxs]; rfl)
    have r2 := row 2 _ _ _ (by rw [hxs]; rfl)
    have r3 := row 3 _ _ _ (by rw [hxs]; rfl)
    have r4 := row 4 _ _ _ (by rw [hxs]; rfl)
    have r5 := row 5 _ _ _ (by rw [hxs]; rfl)
    exact rows18 hcl r0 r1 r2 r3 r4 r5
  intro i v hv
  rw [← rows] at hv
  rw [World.var?_cell globKinds e3 i]
  simpa using hv

end Go.Proofs.YtpcdiilgomfpbaaDoor
