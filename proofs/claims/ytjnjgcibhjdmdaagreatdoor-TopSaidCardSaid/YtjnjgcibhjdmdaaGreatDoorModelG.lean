/-
  THE WALK of model.lines.
  THE WALK of model.Of.
-/
import Derived.Test.YtjnjgcibhjdmdaaGreatDoorVennC
import Derived.Test.YtjnjgcibhjdmdaaGreatDoorRowG
import Derived.Test.YtjnjgcibhjdmdaaGreatDoorFitG
import Derived.Test.YtjnjgcibhjdmdaaGreatDoorCubesH
namespace Venn
theorem linesV_step (l : List Atom) (c : List Int) (k : Nat) (h : k < c.length) : linesV l (c.take (k + 1)) = linesV l (c.take k) ++ [rowOf l c[k]] := by
  unfold linesV
  rw [List.take_succ_eq_append_getElem h, List.map_append]
  rfl
theorem linesV_len (l : List Atom) (c : List Int) : (linesV l c).length = c.length := List.length_map _
end Venn
namespace Go.Proofs.YtjnjgcibhjdmdaaGreatDoor
open Go.RowKit

theorem rows_nine {l : List Venn.Atom} (ha : ∀ a ∈ l, Venn.atomChk a = 0) {c : List Int} (hm : ∀ m ∈ c, m ≠ 0 ∧ -(l.length : Int) ≤ m ∧ m ≤ l.length) : ∀ r ∈ Venn.linesV l c, r.length = 9 := by
  intro r hr
  obtain ⟨m, hmc, rfl⟩ := List.mem_map.1 hr
  obtain ⟨a, _, _, e⟩ := Venn.rowOf_ok ha (hm m hmc)
  rw [e]
  rfl
theorem row_open (a : Venn.Atom) (h : Bool) : ∃ r0 r1 r2 r3 r4 r5 r6 r7 r8 : Int, rowV a h = .agg #[.int .i64 r0, .int .i64 r1, .int .i64 r2, .int .i64 r3, .int .i64 r4, .int .i64 r5, .int .i64 r6, .int .i64 r7, .int .i64 r8] ∧ Venn.rowL a h = [r0, r1, r2, r3, r4, r5, r6, r7, r8] :=
  ⟨_, _, _, _, _, _, _, _, _, rfl, rfl⟩
theorem rd_row (w : World) (T : TypeId) (r0 r1 r2 r3 r4 r5 r6 r7 r8 : Int) : Rd (w.alloc (.cells #[.int .i64 r0, .int .i64 r1, .int .i64 r2, .int .i64 r3, .int .i64 r4, .int .i64 r5, .int .i64 r6, .int .i64 r7, .int .i64 r8] T)) (some ⟨w.heap.size, 0, none⟩) (flat9 [[r0, r1, r2, r3, r4, r5, r6, r7, r8]]) := by
  intro j u hj
  refine ⟨_, rfl, ?_⟩
  rw [adr0, (Blk.new w T _).cell]
  have : (flat9 [[r0, r1, r2, r3, r4, r5, r6, r7, r8]]).toArray = #[.int .i64 r0, .int .i64 r1, .int .i64 r2, .int .i64 r3, .int .i64 r4, .int .i64 r5, .int .i64 r6, .int .i64 r7, .int .i64 r8] := rfl
  rw [← this]
  simpa using hj
theorem flat9_app (a b : List (List Int)) : flat9 (a ++ b) = flat9 a ++ flat9 b := List.flatMap_append
def LinesPost (L : List (List Int)) (w : World) (e : Ending) (w' : World) : Prop := ∃ v, e = .returned v ∧ Below w.heap.size w w' ∧ IsRows w' v L
set_option maxHeartbeats 4000000 in
set_option maxRecDepth 100000 in
theorem model_lines (sa sc cv : Value) (l : List Venn.Atom) (c : List Int) (w : World) (ha : IsAtoms w sa l) (hcv : IsInts w cv c) (hat : ∀ a ∈ l, Venn.atomChk a = 0) (hl6 : l.length ≤ 6) (hm : ∀ m ∈ c, m ≠ 0 ∧ -(l.length : Int) ≤ m ∧ m ≤ l.length) (hc6 : c.length ≤ 6) :
    Calls Tryz.prog 40 #[.agg #[sa, sc], cv] w (LinesPost (Venn.linesV l c) w) := by
  have H9 := Lib.hid (rows_nine hat hm)
  obtain ⟨A, cA, rfl, hra, _, _⟩ := ha
  obtain ⟨C, cc, rfl, hr, _, _⟩ := hcv
  have HRA := Lib.hid hra
  have HR := Lib.hid hr
  have HAT := Lib.hid hat
  have HM := Lib.hid hm
  have HB0 := Lib.hid (Blk.new w 38 #[.slice A l.length cA, sc])
  have hb0 : Below w.heap.size w (w.alloc (.cells #[.slice A l.length cA, sc] 38)) := by (repeat' (first | (with_reducible exact Below.refl _ _) | (with_reducible assumption) | (with_reducible refine Below.next ?_ (by with_reducible assumption)) | (with_reducible refine Below.drew ?_) | (with_reducible refine Below.laid ?_ _) | (with_reducible refine Below.setCell ?_ ?_ _) | (with_reducible refine size_of ?_) | (with_reducible refine Nat.le_succ_of_le ?_) | go_size))
  clear hra hr hat hm
  go_enter Tryz.func40, Tryz.ntmps40
  go_upto_region 1 with (fail)
  obtain ⟨w0, hw0⟩ : ∃ w0, w0 = w.alloc (.cells #[.slice A l.length cA, sc] 38) := ⟨_, rfl⟩
  have HS0 := Lib.hid (show w0.heap.size = w.heap.size + 1 by rw [hw0]; simp)
  rw [← hw0] at HB0 hb0 ⊢
  clear hw0
  go_wp2
  go_loopw [5, 10] (fun v i wr => ∃ k : Nat, k ≤ c.length ∧ i = .int .i64 k ∧ wr.ownsRow (w.heap.size + 1) 110 9 v k (flat9 (Venn.linesV l (c.take k))) ∧ Below w0.heap.size w0 wr) (fun _ i _ => c.length - (intOf i).toNat)
  case atStart => exact ⟨0, Nat.zero_le _, rfl, World.ownsRow_nil _ _ _ _, Below.refl _ _⟩
  case round =>
    obtain ⟨k, hk, rfl, hown, hbw⟩ := hrel
    obtain ⟨wo, rfl⟩ : ∃ wo : World, wo = wr := ⟨_, rfl⟩
    have hq := Below.next hb0 hbw
    have f0 := ((HB0.out).keep hbw).cell 0
    simp at f0
    obtain ⟨V0, k0, rfl⟩ := ownsRow_slice hown
    have HO := Lib.hid hown
    clear hown
    by_cases hlt : k < c.length
    · obtain ⟨ad, rfl, hd0⟩ := HR.out.int hlt
      have hd := cell_keep hq hd0
      have hm := HM.out _ (List.getElem_mem hlt)
      have HL := Lib.hid (Venn.linesV_step l c k hlt)
      generalize c[k] = m at hd hm HL
      obtain ⟨N, hN⟩ : ∃ N : Nat, (N : Int) = Venn.absI m - 1 := ⟨(Venn.absI m - 1).toNat, by unfold Venn.absI; split <;> omega⟩
      have hNl : N < l.length := by unfold Venn.absI at hN; split at hN <;> omega
      have hmax : max m (wrap64 (-m)) = (N : Int) + 1 := by
        rw [IntWalk.wrap64_in (-m) (by omega)]
        unfold Venn.absI at hN
        split at hN <;> omega
      obtain ⟨⟨aw, aS, aT, an⟩, hx⟩ : ∃ x, l[N]? = some x := ⟨l[N], List.getElem?_eq_getElem hNl⟩
      obtain ⟨bd, sv, tv, rfl, g0, g1, g2, g3, hs, ht⟩ := HRA.out N _ hx
      have hrow : Venn.rowOf l m = Venn.rowL ⟨aw, aS, aT, an⟩ (decide (0 < m)) := by
        unfold Venn.rowOf
        rw [show (Venn.absI m - 1).toNat = N by omega, hx]
      rw [hrow] at HL
      have HRR := Lib.hid (fun (h : Bool) => rows_Row aw an sv tv aS aT h wo (hs.keep hq) (ht.keep hq) (HAT.out _ (List.mem_of_getElem? hx)))
      have g0 := cell_keep hq g0
      have g1 := cell_keep hq g1
      have g2 := cell_keep hq g2
      have g3 := cell_keep hq g3
      obtain ⟨S1, cS1, rfl, _⟩ := hs
      obtain ⟨T1, cT1, rfl, _⟩ := ht
      simp at g0 g1 g2 g3
      have hk1 : (k : Int) < (c.length : Int) := by omega
      have hk0 : (0 : Int) ≤ (k : Int) := by omega
      have e1 : IntKind.i64.wrap (N : Int) = (N : Int) := IntWalk.i64_in _ (by omega)
      have e2 : IntKind.i64.wrap ((N : Int) + 1 - 1) = (N : Int) := by rw [show (N : Int) + 1 - 1 = N by omega]; exact e1
      have e3 : (N : Int) < (l.length : Int) := by omega
      have e4 : (0 : Int) ≤ (N : Int) := by omega
      clear hd0 hm hN hx hrow
      go_wp2_with fail
      refine (HRR.out _).mono ?_
      rintro e w1 ⟨rfl, hb1⟩
      clear g0 g1 g2 g3 hd f0
      generalize decide (0 < m) = hh at HL ⊢
      obtain ⟨r0, r1, r2, r3, r4, r5, r6, r7, r8, hv, hl⟩ := row_open ⟨aw, aS, aT, an⟩ hh
      rw [hl] at HL
      rw [hv]
      clear hv hl
      have hb2 : Below w1.heap.size w1 (w1.alloc (.cells #[.int .i64 r0, .int .i64 r1, .int .i64 r2, .int .i64 r3, .int .i64 r4, .int .i64 r5, .int .i64 r6, .int .i64 r7, .int .i64 r8] 110)) := by (repeat' (first | (with_reducible exact Below.refl _ _) | (with_reducible assumption) | (with_reducible refine Below.next ?_ (by with_reducible assumption)) | (with_reducible refine Below.drew ?_) | (with_reducible refine Below.laid ?_ _) | (with_reducible refine Below.setCell ?_ ?_ _) | (with_reducible refine size_of ?_) | (with_reducible refine Nat.le_succ_of_le ?_) | go_size))
      have hb12 := Below.next hb1 hb2
      have hbase : w.heap.size + 1 ≤ (w1.alloc (.cells #[.int .i64 r0, .int .i64 r1, .int .i64 r2, .int .i64 r3, .int .i64 r4, .int .i64 r5, .int .i64 r6, .int .i64 r7, .int .i64 r8] 110)).heap.size := by have h1 := hbw.size; have h2 := hb12.size; have h3 := HS0.out; omega
      have hrd := rd_row w1 110 r0 r1 r2 r3 r4 r5 r6 r7 r8
      have HO2 := Lib.hid (own_below HO.out hb12)
      go_wp2_with (at_builtin; refine wpList_appRows _ rfl _ _ rfl (w.heap.size + 1) _ k _ rfl HO2.out (some ⟨w1.heap.size, 0, none⟩) 1 [[r0, r1, r2, r3, r4, r5, r6, r7, r8]] rfl hrd (by simp) (by simp; omega) hbase ?_)
      intro v' w3 hown3 hg3
      have hbel := (Below.next hbw hb12).grown hg3 (Nat.le_trans hbw.size hb12.size) (fun b e => by have := (HO.out.lt b e).1; have := HS0.out; omega)
      have HO3 := Lib.hid (show w3.ownsRow (w.heap.size + 1) 110 9 v' (k + 1) (flat9 (Venn.linesV l (c.take (k + 1)))) by rw [HL.out, flat9_app]; exact hown3)
      clear hown3 hg3 hrd hb2 hb12 hbase
      go_wp2
      go_roundw
      case rel => exact ⟨k + 1, by omega, by go_num, HO3.out, hbel⟩
      case measure => simp [intOf]; omega
    · have hk' : k = c.length := by omega
      have HI := Lib.hid (show IsRows wo (.slice V0 k k0) (Venn.linesV l c) by
        have := HO.out
        rw [hk', List.take_length] at this
        rw [hk']
        exact IsRows.of_own this H9.out)
      have hk1 : ¬ (k : Int) < (c.length : Int) := by omega
      clear hk' f0
      go_wp2
      go_ret
      exact ⟨_, rfl, hq, HI.out⟩
end Go.Proofs.YtjnjgcibhjdmdaaGreatDoor

namespace Go.Proofs.YtjnjgcibhjdmdaaGreatDoor
open Go.RowKit

theorem rowL_ok {a : Venn.Atom} (ha : Venn.atomChk a = 0) (h : Bool) : Venn.rowOk (Venn.rowL a h) = true := by
  obtain ⟨_, _, _, _, _, h1, h2, _⟩ := Venn.atomChk_parts ha
  have ht : ∀ f, -1 ≤ Venn.rowT a h f ∧ Venn.rowT a h f ≤ 1 := fun f => by
    have := Venn.timesAt_range a.what (Venn.mask a.s) (Venn.tMask a) f
    unfold Venn.rowT
    split <;> omega
  have hm : -100 ≤ Venn.rowM a h ∧ Venn.rowM a h ≤ 100 := by
    unfold Venn.rowM
    split <;> split <;> omega
  have h0 := ht 0; have g1 := ht 1; have g2 := ht 2; have h3 := ht 3; have h4 := ht 4; have h5 := ht 5; have h6 := ht 6; have h7 := ht 7
  simp only [Venn.rowL, Venn.rowOk, Bool.and_eq_true, decide_eq_true_eq]
  refine ⟨⟨⟨⟨⟨⟨⟨⟨?_, ?_⟩, ?_⟩, ?_⟩, ?_⟩, ?_⟩, ?_⟩, ?_⟩, ?_⟩ <;> omega
theorem lines_ok {l : List Venn.Atom} (ha : ∀ a ∈ l, Venn.atomChk a = 0) {c : List Int} (hm : ∀ m ∈ c, m ≠ 0 ∧ -(l.length : Int) ≤ m ∧ m ≤ l.length) : (Venn.linesV l c).all Venn.rowOk = true := by
  rw [List.all_eq_true]
  intro r hr
  obtain ⟨m, hmc, rfl⟩ := List.mem_map.1 hr
  obtain ⟨a, _, h1, e⟩ := Venn.rowOf_ok ha (hm m hmc)
  rw [e]
  exact rowL_ok h1 _
theorem Blk.set4m {w : World} {g : Nat} {t : TypeId} {y0 y1 y2 y3 : Value} (h : Blk w g t #[y0, y1, y2, y3]) (x0 x1 x2 x3 : Value) :
    Blk ((((w.setCell ⟨g, 0, none⟩ x0).setCell ⟨g, 1, none⟩ x1).setCell ⟨g, 2, none⟩ x2).setCell ⟨g, 3, none⟩ x3) g t #[x0, x1, x2, x3] := by
  have := (((h.set_ 0 x0).set_ 1 x1).set_ 2 x2).set_ 3 x3
  simpa using this
theorem below_set4m {B : Nat} {a w : World} (h : Below B a w) {g : Nat} (hg : B ≤ g) (x0 x1 x2 x3 : Value) : Below B a ((((w.setCell ⟨g, 0, none⟩ x0).setCell ⟨g, 1, none⟩ x1).setCell ⟨g, 2, none⟩ x2).setCell ⟨g, 3, none⟩ x3) :=
  (((h.setCell (p := ⟨g, 0, none⟩) hg x0).setCell (p := ⟨g, 1, none⟩) hg x1).setCell (p := ⟨g, 2, none⟩) hg x2).setCell (p := ⟨g, 3, none⟩) hg x3
theorem IsLists.sliceM {w : World} {v : Value} {L : List (List Int)} (h : IsLists w v L) : ∃ A c, v = .slice A L.length c := by
  obtain ⟨A, c, p, rfl, rfl, _⟩ := h
  exact ⟨A, c, by rw [lVals_len]⟩
def worldM (x : Venn.World) : Value := .agg #[.int .i64 x.things, .int .i64 x.a, .int .i64 x.b, .int .i64 x.c]
def ModelPost (x : Venn.World) (er : Int) (w : World) (e : Ending) (w' : World) : Prop := e = .returned (.tuple #[worldM x, errV er]) ∧ Below w.heap.size w w'
theorem made8 (n : List Int) (h : n.length = 8) : ∃ a0 a1 a2 a3 a4 a5 a6 a7, n = [a0, a1, a2, a3, a4, a5, a6, a7] := by
  match n, h with
  | [a0, a1, a2, a3, a4, a5, a6, a7], _ => exact ⟨_, _, _, _, _, _, _, _, rfl⟩
set_option maxHeartbeats 8000000 in
set_option maxRecDepth 100000 in
theorem model_Of (sa sc : Value) (l : List Venn.Atom) (c : List Int) (u : Int) (w : World) (ha : IsAtoms w sa l) (hc : IsInts w sc c) (hk : KindsOk w) :
    Calls Tryz.prog 14 #[.agg #[sa, sc], .int .i64 u] w (ModelPost (Venn.modelV ⟨l, c⟩ u) (Venn.modelErr ⟨l, c⟩ u) w) := by
  have HA := Lib.hid ha
  have HC := Lib.hid hc
  have HK := Lib.hid hk
  obtain ⟨A, cA, rfl, _⟩ := ha
  obtain ⟨C, cC, rfl, _⟩ := hc
  have HOF := Lib.hid (fun W (hW : Below w.heap.size w W) => cubes_Of _ _ l c W (HA.out.keep hW) (HC.out.keep hW) (HK.out.keep hW))
  have HB0 := Lib.hid ((Blk.new w 38 #[.slice A l.length cA, .slice C c.length cC]).alloc (.cells #[.int .i64 0, .int .i64 0, .int .i64 0, .int .i64 0] 45))
  have HR0 := Lib.hid (Blk.newAt (w := w.alloc (.cells #[.slice A l.length cA, .slice C c.length cC] 38)) (g := w.heap.size + 1) (by simp) 45 #[.int .i64 0, .int .i64 0, .int .i64 0, .int .i64 0])
  have hb0 : Below w.heap.size w ((w.alloc (.cells #[.slice A l.length cA, .slice C c.length cC] 38)).alloc (.cells #[.int .i64 0, .int .i64 0, .int .i64 0, .int .i64 0] 45)) := by (repeat' (first | (with_reducible exact Below.refl _ _) | (with_reducible assumption) | (with_reducible refine Below.next ?_ (by with_reducible assumption)) | (with_reducible refine Below.drew ?_) | (with_reducible refine Below.laid ?_ _) | (with_reducible refine Below.setCell ?_ ?_ _) | (with_reducible refine size_of ?_) | (with_reducible refine Nat.le_succ_of_le ?_) | go_size))
  clear hk
  have b0 := (HB0.out).cell 0
  have b1 := (HB0.out).cell 1
  simp at b0 b1
  have HE := Lib.hid (show Venn.modelErr ⟨l, c⟩ u = if Venn.cubesErr ⟨l, c⟩ = 0 then (if Venn.things u = true then (match Venn.firstM l u (Venn.cubesV ⟨l, c⟩) with | some _ => 0 | none => 5) else 1) else Venn.cubesErr ⟨l, c⟩ from rfl)
  have HV := Lib.hid (show Venn.modelV ⟨l, c⟩ u = if Venn.cubesErr ⟨l, c⟩ = 0 then (if Venn.things u = true then (match Venn.firstM l u (Venn.cubesV ⟨l, c⟩) with | some n => Venn.made n | none => ⟨0, 0, 0, 0⟩) else ⟨0, 0, 0, 0⟩) else ⟨0, 0, 0, 0⟩ from rfl)
  generalize Venn.modelErr ⟨l, c⟩ u = ME at HE ⊢
  generalize Venn.modelV ⟨l, c⟩ u = MV at HV ⊢
  by_cases hz : Venn.cubesErr ⟨l, c⟩ = 0
  · rw [if_pos hz] at HE HV
    obtain ⟨hf, L, hL, hv⟩ := Venn.cubesErr_form hz
    have HIN := Lib.hid (Venn.cubes_in hf hL)
    have HL6 := Lib.hid (fun c hc => ((Venn.cubesO_ok hf hL).1.1 c hc).2.2)
    have HAT := Lib.hid (Venn.chk_atoms hf)
    obtain ⟨p1, p2, _⟩ := Venn.formChk_parts hf
    have hl6 : l.length ≤ 6 := p2
    have HVL := Lib.hid hv
    rw [hv] at HE HV
    have HZ := Lib.hid (errV_zero hz)
    clear hz hf hL hv p1 p2
    simp only at HIN HAT
    have HTH := Lib.hid (fun W => sets_Things u W)
    cases hu : Venn.things u with
    | false =>
      rw [hu] at HE HV HTH
      have HE := Lib.hid (show ME = 1 from HE.out)
      have HV := Lib.hid (show MV = ⟨0, 0, 0, 0⟩ from HV.out)
      clear hu
      go_enter Tryz.func14, Tryz.ntmps14
      go_wp2_with fail
      refine (HOF.out _ hb0).mono ?_
      rintro e w1 ⟨hb1, v1, rfl, hI1⟩
      rw [HZ.out]
      have hq1 := Below.next hb0 hb1
      obtain ⟨P, k1, rfl⟩ := hI1.sliceM
      clear b0 b1 hI1
      go_wp2_with fail
      refine (HTH.out _).mono ?_
      rintro e w2 ⟨rfl, rfl⟩
      have BR := (HR0.out).keep hb1
      obtain ⟨r0, r1, r2, r3⟩ := (BR).cells4
      have s0 := (BR).frozen 0
      have s1 := (BR).frozen 1
      have s2 := (BR).frozen 2
      have s3 := (BR).frozen 3
      have GL := below_set4m (hq1) (show w.heap.size ≤ w.heap.size + 1 by omega) (.int .i64 0) (.int .i64 0) (.int .i64 0) (.int .i64 0)
      have GS := (BR).set4m (.int .i64 0) (.int .i64 0) (.int .i64 0) (.int .i64 0)
      go_wp2
      clear r0 r1 r2 r3 s0 s1 s2 s3
      revert GL GS
      generalize World.setCell _ _ _ = Wf
      intro GL GS
      obtain ⟨e0, e1, e2, e3⟩ := GS.cells4
      refine bodyPost_ret (v := .tuple #[.agg #[.int .i64 0, .int .i64 0, .int .i64 0, .int .i64 0], .iface 59 (.int .i64 1)]) (by simp [results, Tryz.results14, go_sem, e0, e1, e2, e3]) rfl ⟨by rw [HE.out, HV.out, errV_ne (show (1 : Int) ≠ 0 by decide)]; rfl, GL⟩
    | true =>
      rw [hu] at HE HV HTH
      have HE := Lib.hid (show ME = (match Venn.firstM l u L with | some _ => 0 | none => 5) from HE.out)
      have HV := Lib.hid (show MV = (match Venn.firstM l u L with | some n => Venn.made n | none => ⟨0, 0, 0, 0⟩) from HV.out)
      have HU := Lib.hid hu
      clear hu
      go_enter Tryz.func14, Tryz.ntmps14
      go_wp2_with fail
      refine (HOF.out _ hb0).mono ?_
      rintro e w1 ⟨hb1, v1, rfl, hI1⟩
      rw [HVL.out] at hI1
      rw [HZ.out]
      have hq1 := Below.next hb0 hb1
      obtain ⟨P, k1, p, rfl, rfl, hrp, hop, s5, s6⟩ := hI1
      have hn1 : p.length ≤ 9223372036854775807 := by unfold maxLen at s6; omega
      have HRP := Lib.hid hrp
      have HOP := Lib.hid hop
      have HF0 := Lib.hid (show Venn.firstM l u (lVals p) = Venn.firstM l u ((lVals p).drop 0) by rw [List.drop_zero])
      generalize Venn.firstM l u (lVals p) = R at HF0 HE HV
      have BF1 := Lib.hid ((HB0.out).keep hb1)
      have BR1 := Lib.hid ((HR0.out).keep hb1)
      clear b0 b1 hrp hop s5 s6 HB0 HR0 hb1
      go_wp2_with fail
      refine (HTH.out _).mono ?_
      rintro e w2 ⟨rfl, rfl⟩
      go_wp2
      go_loopw [28] (fun i wr => ∃ k : Nat, k ≤ p.length ∧ i = .int .i64 k ∧ Below w1.heap.size w1 wr ∧ R = Venn.firstM l u ((lVals p).drop k)) (fun i _ => p.length - (intOf i).toNat)
      case atStart => exact ⟨0, Nat.zero_le _, rfl, Below.refl _ _, HF0.out⟩
      case round =>
        clear HF0
        obtain ⟨k, hk, rfl, hbw, hR⟩ := hrel
        obtain ⟨wo, rfl⟩ : ∃ wo : World, wo = wr := ⟨_, rfl⟩
        have hq := Below.next hq1 hbw
        have BFo := Lib.hid (BF1.out.keep hbw)
        have BRo := Lib.hid (BR1.out.keep hbw)
        by_cases hlt : k < p.length
        · obtain ⟨⟨x, xv⟩, hx⟩ : ∃ x, p[k]? = some x := ⟨p[k], List.getElem?_eq_getElem hlt⟩
          obtain ⟨ad, rfl, hc0⟩ := HRP.out k xv (by unfold lCells; rw [List.getElem?_map, hx]; rfl)
          have hc := cell_keep hbw hc0
          have hxi := (HOP.out _ (List.mem_of_getElem? hx)).keep hbw
          have hxm := HIN.out _ (lVals_mem (List.mem_of_getElem? hx))
          have hx6 := HL6.out _ (lVals_mem (List.mem_of_getElem? hx))
          rw [lVals_at hx, Venn.firstM] at hR
          simp only at hxi hxm hx6 hR
          have HLI := Lib.hid (model_lines _ (.slice C c.length cC) xv l x wo (HA.out.keep hq) hxi HAT.out hl6 hxm hx6)
          have HFF := Lib.hid (fun v W (h : IsRows W v (Venn.linesV l x)) => fit_First u v (Venn.linesV l x) W HU.out h (lines_ok HAT.out hxm))
          have f0 := (BFo.out).cell 0
          have f1 := (BFo.out).cell 1
          simp at f0 f1
          obtain ⟨X, cX, rfl, _⟩ := hxi
          have hk1 : (k : Int) < (p.length : Int) := by omega
          have hk0 : (0 : Int) ≤ (k : Int) := by omega
          clear hx hc0 hxm hx6
          cases hff : Venn.firstFit u (Venn.linesV l x) with
          | none =>
            rw [hff] at HFF
            have HR := Lib.hid (show R = Venn.firstM l u ((lVals p).drop (k + 1)) by rw [hR, hff])
            have HFF := Lib.hid (fun v W h => show Calls Tryz.prog 39 #[.int .i64 u, v] W (Keeps (.tuple #[.agg zero8, .bool false]) W) from HFF.out v W h)
            clear hR hff
            go_wp2_with fail
            refine (HLI.out).mono ?_
            rintro e w3 ⟨v3, rfl, hb3, hi3⟩
            have HI3 := Lib.hid hi3
            obtain ⟨Y, cY, rfl, _⟩ := hi3
            go_wp2_with fail
            refine (HFF.out _ _ HI3.out).mono ?_
            rintro e w4 ⟨rfl, hb4⟩
            have hb34 := Below.next hbw (Below.next hb3 hb4)
            clear f0 f1 hc
            go_wp2
            go_roundw
            case rel => exact ⟨k + 1, by omega, by go_num, by (repeat' (first | (with_reducible exact Below.refl _ _) | (with_reducible assumption) | (with_reducible refine Below.next ?_ (by with_reducible assumption)) | (with_reducible refine Below.drew ?_) | (with_reducible refine Below.laid ?_ _) | (with_reducible refine Below.setCell ?_ ?_ _) | (with_reducible refine size_of ?_) | (with_reducible refine Nat.le_succ_of_le ?_) | go_size)), HR.out⟩
            case measure => simp [intOf]; omega
          | some n =>
            rw [hff] at HFF
            have hmem : n ∈ Venn.allC u := List.mem_of_find?_eq_some hff
            obtain ⟨m1, m2, m3⟩ := (Venn.mem_allC HU.out n).1 hmem
            obtain ⟨a0, a1, a2, a3, a4, a5, a6, a7, rfl⟩ := made8 n m1
            have HRN := Lib.hid (show R = some [a0, a1, a2, a3, a4, a5, a6, a7] by rw [hR, hff])
            have hu6 : u ≤ 6 := by have := HU.out; simp only [Venn.things, Bool.and_eq_true, decide_eq_true_eq] at this; omega
            have HMD := Lib.hid (fun W => fields_Made a0 a1 a2 a3 a4 a5 a6 a7 W m2 (by omega))
            have HFF := Lib.hid (fun v W h => show Calls Tryz.prog 39 #[.int .i64 u, v] W (Keeps (.tuple #[.agg #[.int .i64 a0, .int .i64 a1, .int .i64 a2, .int .i64 a3, .int .i64 a4, .int .i64 a5, .int .i64 a6, .int .i64 a7], .bool true]) W) from HFF.out v W h)
            have HME := Lib.hid (show ME = 0 by rw [HE.out, HRN.out]; rfl)
            have HMV := Lib.hid (show MV = Venn.made [a0, a1, a2, a3, a4, a5, a6, a7] by rw [HV.out, HRN.out]; rfl)
            generalize Venn.made [a0, a1, a2, a3, a4, a5, a6, a7] = MD at HMD HMV
            obtain ⟨mt, ma, mb, mc⟩ := MD
            simp only at HMD
            clear hR hff hmem m1 m2 m3
            go_wp2_with fail
            refine (HLI.out).mono ?_
            rintro e w3 ⟨v3, rfl, hb3, hi3⟩
            have HI3 := Lib.hid hi3
            obtain ⟨Y, cY, rfl, _⟩ := hi3
            go_wp2_with fail
            refine (HFF.out _ _ HI3.out).mono ?_
            rintro e w4 ⟨rfl, hb4⟩
            have hb34 := Below.next hb3 hb4
            have hq4 := Below.next hq hb34
            have BR4 := Lib.hid (BRo.out.keep hb34)
            clear f0 f1 hc hb3 hb4
            have hb5 : Below w4.heap.size w4 (w4.alloc (.cells #[.int .i64 a0, .int .i64 a1, .int .i64 a2, .int .i64 a3, .int .i64 a4, .int .i64 a5, .int .i64 a6, .int .i64 a7] 75)) := by (repeat' (first | (with_reducible exact Below.refl _ _) | (with_reducible assumption) | (with_reducible refine Below.next ?_ (by with_reducible assumption)) | (with_reducible refine Below.drew ?_) | (with_reducible refine Below.laid ?_ _) | (with_reducible refine Below.setCell ?_ ?_ _) | (with_reducible refine size_of ?_) | (with_reducible refine Nat.le_succ_of_le ?_) | go_size))
            obtain ⟨⟨q0, q1, q2, q3, q4, q5, q6, q7⟩, _⟩ := (Blk.new w4 75 #[.int .i64 a0, .int .i64 a1, .int .i64 a2, .int .i64 a3, .int .i64 a4, .int .i64 a5, .int .i64 a6, .int .i64 a7]).cells8
            go_wp2_with fail
            refine (HMD.out _).mono ?_
            rintro e w6 ⟨rfl, hb6⟩
            have hb56 := Below.next hb5 hb6
            have hq6 := Below.next hq4 hb56
            have BR := BR4.out.keep hb56
            clear q0 q1 q2 q3 q4 q5 q6 q7 hb5 hb6
            obtain ⟨r0, r1, r2, r3⟩ := (BR).cells4
            have s0 := (BR).frozen 0
            have s1 := (BR).frozen 1
            have s2 := (BR).frozen 2
            have s3 := (BR).frozen 3
            have GL := below_set4m (hq6) (show w.heap.size ≤ w.heap.size + 1 by omega) (.int .i64 mt) (.int .i64 ma) (.int .i64 mb) (.int .i64 mc)
            have GS := (BR).set4m (.int .i64 mt) (.int .i64 ma) (.int .i64 mb) (.int .i64 mc)
            go_wp2
            clear r0 r1 r2 r3 s0 s1 s2 s3
            revert GL GS
            generalize World.setCell _ _ _ = Wf
            intro GL GS
            obtain ⟨e0, e1, e2, e3⟩ := GS.cells4
            refine bodyPost_ret (v := .tuple #[.agg #[.int .i64 mt, .int .i64 ma, .int .i64 mb, .int .i64 mc], .nilIface]) (by simp [results, Tryz.results14, go_sem, e0, e1, e2, e3]) rfl ⟨by rw [HME.out, HMV.out, errV_zero rfl]; rfl, GL⟩
        · have hk' : k = p.length := by omega
          have hk1 : ¬ (k : Int) < (p.length : Int) := by omega
          have HRN := Lib.hid (show R = none by rw [hR, hk', List.drop_eq_nil_of_le (by rw [lVals_len]; exact Nat.le_refl _)]; rfl)
          have HME := Lib.hid (show ME = 5 by rw [HE.out, HRN.out]; rfl)
          have HMV := Lib.hid (show MV = ⟨0, 0, 0, 0⟩ by rw [HV.out, HRN.out]; rfl)
          have BR := BRo.out
          clear hk' hR
          obtain ⟨r0, r1, r2, r3⟩ := (BR).cells4
          have s0 := (BR).frozen 0
          have s1 := (BR).frozen 1
          have s2 := (BR).frozen 2
          have s3 := (BR).frozen 3
          have GL := below_set4m (hq) (show w.heap.size ≤ w.heap.size + 1 by omega) (.int .i64 0) (.int .i64 0) (.int .i64 0) (.int .i64 0)
          have GS := (BR).set4m (.int .i64 0) (.int .i64 0) (.int .i64 0) (.int .i64 0)
          go_wp2
          clear r0 r1 r2 r3 s0 s1 s2 s3
          revert GL GS
          generalize World.setCell _ _ _ = Wf
          intro GL GS
          obtain ⟨e0, e1, e2, e3⟩ := GS.cells4
          refine bodyPost_ret (v := .tuple #[.agg #[.int .i64 0, .int .i64 0, .int .i64 0, .int .i64 0], .iface 59 (.int .i64 5)]) (by simp [results, Tryz.results14, go_sem, e0, e1, e2, e3]) rfl ⟨by rw [HME.out, HMV.out, errV_ne (show (5 : Int) ≠ 0 by decide)]; rfl, GL⟩
  · rw [if_neg hz] at HE HV
    have HZ := Lib.hid (errV_ne hz)
    have HME := Lib.hid (show errV ME = errV (Venn.cubesErr ⟨l, c⟩) by rw [HE.out])
    rw [HZ.out] at HME
    clear hz
    go_enter Tryz.func14, Tryz.ntmps14
    go_wp2_with fail
    refine (HOF.out _ hb0).mono ?_
    rintro e w1 ⟨hb1, v1, rfl, hI1⟩
    rw [HZ.out]
    have hq1 := Below.next hb0 hb1
    obtain ⟨P, k1, rfl⟩ := hI1.sliceM
    have BR := (HR0.out).keep hb1
    clear b0 b1 hI1
    generalize Venn.cubesErr ⟨l, c⟩ = EE at HME ⊢
    obtain ⟨r0, r1, r2, r3⟩ := (BR).cells4
    have s0 := (BR).frozen 0
    have s1 := (BR).frozen 1
    have s2 := (BR).frozen 2
    have s3 := (BR).frozen 3
    have GL := below_set4m (hq1) (show w.heap.size ≤ w.heap.size + 1 by omega) (.int .i64 0) (.int .i64 0) (.int .i64 0) (.int .i64 0)
    have GS := (BR).set4m (.int .i64 0) (.int .i64 0) (.int .i64 0) (.int .i64 0)
    go_wp2
    clear r0 r1 r2 r3 s0 s1 s2 s3
    revert GL GS
    generalize World.setCell _ _ _ = Wf
    intro GL GS
    obtain ⟨e0, e1, e2, e3⟩ := GS.cells4
    refine bodyPost_ret (v := .tuple #[.agg #[.int .i64 0, .int .i64 0, .int .i64 0, .int .i64 0], .iface 59 (.int .i64 EE)]) (by simp [results, Tryz.results14, go_sem, e0, e1, e2, e3]) rfl ⟨by rw [HME.out, HV.out]; rfl, GL⟩
end Go.Proofs.YtjnjgcibhjdmdaaGreatDoor
