/-
  THE PLAIN LAW of venntop.TopNames: two names are swapped; counts, least and span stay.
  THE WALK of venntop.TopNames.
-/
import Derived.Test.YtcloppcekbdbaaaGreatDoorVennRenG
import Derived.Test.YtcloppcekbdbaaaGreatDoorVennLowG
import Derived.Test.YtcloppcekbdbaaaGreatDoorVennP2
import Derived.Test.YtcloppcekbdbaaaGreatDoorOwnG
import Derived.Test.YtcloppcekbdbaaaGreatDoorAsk
import Derived.Test.YtcloppcekbdbaaaGreatDoorFormG
import Derived.Test.YtcloppcekbdbaaaGreatDoorTurnNamesG
import Derived.Test.YtcloppcekbdbaaaGreatDoorTextParse
import Derived.Test.YtcloppcekbdbaaaGreatDoorPrint
import Derived.Test.YtcloppcekbdbaaaGreatDoorSameFormG
import Derived.Test.YtcloppcekbdbaaaGreatDoorWays
import Derived.Test.YtcloppcekbdbaaaGreatDoorLow
import Derived.Test.YtcloppcekbdbaaaGreatDoorSpanG
import Derived.Test.YtcloppcekbdbaaaGreatDoorLawF
import Derived.Deep.DeepCutAuto
import Derived.Deep.CutBlock
namespace Venn
def swN (x y s : Int) : Int := if s = x then y else if s = y then x else s
theorem swN_twice (x y s : Int) : swN x y (swN x y s) = s := by unfold swN; repeat' split <;> omega
theorem swapL_sw (t : List Int) (x y : Int) : swapL t x y = t.map (swN x y) := rfl
theorem name_cases {x : Int} (h : 0 ≤ x ∧ x ≤ 2) : x = 0 ∨ x = 1 ∨ x = 2 := by omega
theorem renS_sw {x y : Int} (hx : 0 ≤ x ∧ x ≤ 2) (hy : 0 ≤ y ∧ y ≤ 2) (s : Int) : renS (swN x y 0) (swN x y 1) (swN x y 2) s = swN x y s := by
  unfold renS
  split
  · next h => rw [h]
  · split
    · next h => rw [h]
    · split
      · next h => rw [h]
      · unfold swN
        rw [if_neg (by omega), if_neg (by omega)]
theorem renT_sw {x y : Int} (hx : 0 ≤ x ∧ x ≤ 2) (hy : 0 ≤ y ∧ y ≤ 2) (t : List Int) : renT (swN x y 0) (swN x y 1) (swN x y 2) t = swapL t x y :=
  List.map_congr_left fun s _ => renS_sw hx hy s
theorem sw_once {x y : Int} (hx : 0 ≤ x ∧ x ≤ 2) (hy : 0 ≤ y ∧ y ≤ 2) : onceV [swN x y 0, swN x y 1, swN x y 2] = true := by
  rcases name_cases hx with rfl | rfl | rfl <;> rcases name_cases hy with rfl | rfl | rfl <;> exact once_of (by decide)
theorem swapL_twice (t : List Int) (x y : Int) : swapL (swapL t x y) x y = t := by
  rw [swapL_sw, swapL_sw, List.map_map]
  exact (List.map_congr_left fun s _ => swN_twice x y s).trans (List.map_id t)
theorem renF_twice {x y : Int} (hx : 0 ≤ x ∧ x ≤ 2) (hy : 0 ≤ y ∧ y ≤ 2) (f : Form) : renF (swN x y 0) (swN x y 1) (swN x y 2) (renF (swN x y 0) (swN x y 1) (swN x y 2) f) = f := by
  obtain ⟨l, c⟩ := f
  unfold renF
  simp only [List.map_map]
  congr 1
  refine (List.map_congr_left fun a _ => ?_).trans (List.map_id l)
  obtain ⟨wh, s, t, n⟩ := a
  simp only [Function.comp, renA, renT_sw hx hy, swapL_twice, id]
theorem cubes_ren {a b c : Int} (h : onceV [a, b, c] = true) (f : Form) : cubesErr (renF a b c f) = cubesErr f := by
  unfold cubesErr
  rw [formChk_ren (once_in3 h)]
  rfl
theorem model_ren {a b c : Int} (h : onceV [a, b, c] = true) {f : Form} {k : Nat} (hk : k < 7) (hc : cubesErr f = 0) (h0 : modelErr f (k : Int) = 0) : modelErr (renF a b c f) (k : Int) = 0 := by
  obtain ⟨m1, m2, m3, m4⟩ := model_zero h0
  rcases modelErr_lt (f := renF a b c f) hk (by rw [cubes_ren h]; exact hc) with e | e
  · exact e
  · have h1 := model_five e (by rw [formChk_ren (once_in3 h)]; exact m1) (renW_right h m2) m3
    rw [formTrue_ren h _ m1, m4] at h1
    cases h1
theorem low_sw {x y : Int} (hx : 0 ≤ x ∧ x ≤ 2) (hy : 0 ≤ y ∧ y ≤ 2) (f : Form) : lowE (renF (swN x y 0) (swN x y 1) (swN x y 2) f) = lowE f ∧ lowV (renF (swN x y 0) (swN x y 1) (swN x y 2) f) = lowV f := by
  have h := sw_once hx hy
  have hc := cubes_ren h f
  have hl : lowL (renF (swN x y 0) (swN x y 1) (swN x y 2) f) = lowL f := by
    unfold lowL
    rw [hc]
    by_cases h0 : cubesErr f = 0
    · rw [if_pos h0, if_pos h0]
      refine List.map_congr_left fun u hu => ?_
      have hu7 := List.mem_range.1 hu
      have e : modelErr (renF (swN x y 0) (swN x y 1) (swN x y 2) f) (u : Int) = 0 ↔ modelErr f (u : Int) = 0 := by
        refine ⟨fun q => ?_, fun q => model_ren h hu7 h0 q⟩
        have := model_ren h hu7 (by rw [hc]; exact h0) q
        rwa [renF_twice hx hy] at this
      simp only [e]
    · rw [if_neg h0, if_neg h0]
  unfold lowE lowV
  rw [hc, hl]
  exact ⟨rfl, rfl⟩
theorem span_one {a b c : Int} (h : onceV [a, b, c] = true) {f : Form} (hf : formChk f = 0) {t : List Int} (ht : termChk t = 0) {u : Int} (hu : things u = true) :
    (spanGo (renF a b c f) (renT a b c t) u (allC u)).1 ≤ (spanGo f t u (allC u)).1 ∧ (spanGo f t u (allC u)).2 ≤ (spanGo (renF a b c f) (renT a b c t) u (allC u)).2 := by
  have hg := formChk_ren (once_in3 h) f
  have key : ∀ x ∈ allC u, formTrue f (made x) = true → permC a b x ∈ allC u ∧ formTrue (renF a b c f) (made (permC a b x)) = true ∧ cntT (renT a b c t) (permC a b x) = cntT t x := fun x hx hT => by
    obtain ⟨m1, m2⟩ := made_allC hu hx
    have r1 := renW_right h m1
    refine ⟨permC_mem h hu hx, ?_, ?_⟩
    · unfold permC
      rw [formTrue_made (by rw [hg]; exact hf) r1, formTrue_ren h (made x) hf]
      exact hT
    · unfold permC
      rw [cntT_world (by rw [termChk_ren (once_in3 h)]; exact ht) r1, termSet_ren h (made x) (term_pos ht)]
      rfl
  obtain ⟨g1, g2, g3, g4, g5⟩ := span_fold f t (allC u) (u + 1, -1)
  obtain ⟨k1, k2, k3, k4, k5⟩ := span_fold (renF a b c f) (renT a b c t) (allC u) (u + 1, -1)
  constructor
  · rcases g4 with e | ⟨x, hx, hT, e⟩
    · exact Int.le_trans k1 (Int.le_of_eq e.symm)
    · obtain ⟨q1, q2, q3⟩ := key x hx hT
      have := (k3 _ q1 q2).1
      rw [q3, e] at this
      exact this
  · rcases g5 with e | ⟨x, hx, hT, e⟩
    · exact Int.le_trans (Int.le_of_eq e) k2
    · obtain ⟨q1, q2, q3⟩ := key x hx hT
      have := (k3 _ q1 q2).2
      rw [q3, e] at this
      exact this
theorem span_sw {x y : Int} (hx : 0 ≤ x ∧ x ≤ 2) (hy : 0 ≤ y ∧ y ≤ 2) {f : Form} (hf : formChk f = 0) {t : List Int} (ht : termChk t = 0) (u : Int) :
    spanChk (renF (swN x y 0) (swN x y 1) (swN x y 2) f) (swapL t x y) u = spanChk f t u ∧ spanV (renF (swN x y 0) (swN x y 1) (swN x y 2) f) (swapL t x y) u = spanV f t u := by
  have h := sw_once hx hy
  have hg := formChk_ren (once_in3 h) f
  have htt := termChk_ren (once_in3 h) t
  have hrt := renT_sw hx hy t
  have hrr := renF_twice hx hy f
  have hss := swapL_twice t x y
  rw [← hrt] at hss
  have htw : renT (swN x y 0) (swN x y 1) (swN x y 2) (renT (swN x y 0) (swN x y 1) (swN x y 2) t) = t := by rw [renT_sw hx hy, hss]
  rw [← hrt]
  have hgo : things u = true → spanGo (renF (swN x y 0) (swN x y 1) (swN x y 2) f) (renT (swN x y 0) (swN x y 1) (swN x y 2) t) u (allC u) = spanGo f t u (allC u) := fun hu => by
    have a1 := span_one h hf ht hu
    have a2 := span_one h (f := renF (swN x y 0) (swN x y 1) (swN x y 2) f) (by rw [hg]; exact hf) (t := renT (swN x y 0) (swN x y 1) (swN x y 2) t) (by rw [htt]; exact ht) hu
    rw [hrr, htw] at a2
    exact Prod.ext (by omega) (by omega)
  have hchk : spanChk (renF (swN x y 0) (swN x y 1) (swN x y 2) f) (renT (swN x y 0) (swN x y 1) (swN x y 2) t) u = spanChk f t u := by
    unfold spanChk
    rw [hg, htt]
    by_cases hu : things u = true
    · rw [hgo hu]
    · simp only [if_neg hu]
  refine ⟨hchk, ?_⟩
  unfold spanV
  rw [hchk]
  by_cases hu : things u = true
  · rw [hgo hu]
  · have : ¬ spanChk f t u = 0 := by
      unfold spanChk
      rw [if_pos hf, if_pos ht, if_neg hu]
      decide
    rw [if_neg this, if_neg this]
theorem worlds_sw {x y : Int} (hx : 0 ≤ x ∧ x ≤ 2) (hy : 0 ≤ y ∧ y ≤ 2) {f : Form} (hf : formChk f = 0) {u : Int} (h4 : u ≤ 4) :
    worldsV (renF (swN x y 0) (swN x y 1) (swN x y 2) f) u = worldsV f u ∧ worldsChk (renF (swN x y 0) (swN x y 1) (swN x y 2) f) u = worldsChk f u := by
  have h := sw_once hx hy
  have hg := formChk_ren (once_in3 h) f
  have hchk : worldsChk (renF (swN x y 0) (swN x y 1) (swN x y 2) f) u = worldsChk f u := by unfold worldsChk; rw [hg]
  refine ⟨?_, hchk⟩
  by_cases hu : things u = true
  · exact worlds_ren h hf hu h4
  · have : ¬ worldsChk f u = 0 := by
      unfold worldsChk
      rw [if_pos hf, if_neg hu]
      decide
    unfold worldsV
    rw [hchk, if_neg this, if_neg this]
end Venn

namespace Go.Proofs.YtcloppcekbdbaaaGreatDoor
open Go.RowKit

theorem one_ask : askVv [Venn.moreForm 0 2] (Venn.moreForm 0 1) 2 = .tuple #[.int .i64 1, .nilIface] := by
  obtain ⟨g1, g2⟩ := Venn.ask_more 0 2 1 2 (by decide) (by decide) (by decide) (by decide) (by decide)
  rw [askVv, g1, g2]
  rfl
set_option maxHeartbeats 2000000 in
set_option maxRecDepth 100000 in
theorem venntop_one (w : World) (hk : KindsOk w) : Calls Tryz.prog 9 #[] w (Keeps (.bool true) w) := by
  have HK := Lib.hid hk
  have HX := Lib.hid one_ask
  clear hk
  go_enter Tryz.func9, Tryz.ntmps9
  go_wp2_with fail
  refine (ask_Of _ _ _ [Venn.moreForm 0 2] [⟨3, [0], [], 1⟩] [0] 2 _ (IsForms.one (t := 38) (f := Venn.moreForm 0 2) (by repeat (first | (refine Blk.newAt ?_ _ _; simp; done) | refine Blk.alloc ?_ _)) (IsAtoms.one (t := 32) (a := ⟨3, [0], [], 2⟩) (by repeat (first | (refine Blk.newAt ?_ _ _; simp; done) | refine Blk.alloc ?_ _)) (IsInts.of_blk1 (t := 3) (by repeat (first | (refine Blk.newAt ?_ _ _; simp; done) | refine Blk.alloc ?_ _))) (IsIntsNil _)) (IsInts.of_blk1 (t := 3) (by repeat (first | (refine Blk.newAt ?_ _ _; simp; done) | refine Blk.alloc ?_ _))))
    (IsAtoms.one (t := 32) (a := ⟨3, [0], [], 1⟩) (by repeat (first | (refine Blk.newAt ?_ _ _; simp; done) | refine Blk.alloc ?_ _)) (IsInts.of_blk1 (t := 3) (by repeat (first | (refine Blk.newAt ?_ _ _; simp; done) | refine Blk.alloc ?_ _))) (IsIntsNil _)) (IsInts.of_blk1 (t := 3) (by repeat (first | (refine Blk.newAt ?_ _ _; simp; done) | refine Blk.alloc ?_ _))) (HK.out.keep (by (repeat' (first | (with_reducible exact Below.refl _ _) | (with_reducible assumption) | (with_reducible refine Below.next ?_ (by with_reducible assumption)) | (with_reducible refine Below.drew ?_) | (with_reducible refine Below.laid ?_ _) | (with_reducible refine Below.setCell ?_ ?_ _) | (with_reducible refine size_of ?_) | (with_reducible refine Nat.le_succ_of_le ?_) | go_size))))).mono ?_
  rintro e w1 ⟨rfl, hb1⟩
  rw [HX.out]
  go_wp2
  go_ret
  exact ⟨rfl, by (repeat' (first | (with_reducible exact Below.refl _ _) | (with_reducible assumption) | (with_reducible refine Below.next ?_ (by with_reducible assumption)) | (with_reducible refine Below.drew ?_) | (with_reducible refine Below.laid ?_ _) | (with_reducible refine Below.setCell ?_ ?_ _) | (with_reducible refine size_of ?_) | (with_reducible refine Nat.le_succ_of_le ?_) | go_size))⟩
end Go.Proofs.YtcloppcekbdbaaaGreatDoor

namespace Go.Proofs.YtcloppcekbdbaaaGreatDoor
open Go.RowKit

theorem errV_or (E : Int) : errV E = .nilIface ∨ ∃ x : Int, errV E = .iface 92 (.int .i64 x) := by
  by_cases h : E = 0
  · exact .inl (errV_zero h)
  · exact .inr ⟨E, errV_ne h⟩
set_option maxHeartbeats 8000000 in
set_option maxRecDepth 100000 in
theorem topNames_walk (sa sc tv : Value) (l : List Venn.Atom) (c t : List Int) (x y u : Int) (w : World) (ha : IsAtoms w sa l) (hc : IsInts w sc c) (ht : IsInts w tv t)
    (hk : KindsOk w) (het : EtOk w) (htab : TabOk w) (hwo : WordsOk w) (he : ErrsOk w) (hm : MaxOk w) :
    Calls Tryz.prog 8 #[.agg #[sa, sc], tv, .int .i64 x, .int .i64 y, .int .i64 u] w (Keeps (.bool true) w) := by
  have HA := Lib.hid ha
  have HC := Lib.hid hc
  have HT := Lib.hid ht
  obtain ⟨A, cA, rfl⟩ := ha.slice
  obtain ⟨C, cC, rfl⟩ := hc.slice
  obtain ⟨T, cT, rfl⟩ := ht.slice
  have HON := Lib.hid (fun W (hW : Below w.heap.size w W) => venntop_one W (hk.keep hW))
  have HNA := Lib.hid (fun n0 n1 n2 W (hW : Below w.heap.size w W) => turn_Names _ _ l c n0 n1 n2 W (HA.out.keep hW) (HC.out.keep hW) (hk.keep hW))
  have HFC := Lib.hid (fun W (hW : Below w.heap.size w W) => form_Check _ _ l c W (HA.out.keep hW) (HC.out.keep hW) (hk.keep hW))
  have HPA := Lib.hid (fun x (hx : x.size < 4294967281) W (hW : Below w.heap.size w W) => text_Parse x W hx (hwo.keep hW) (hk.keep hW) (htab.keep hW) (he.keep hW) (hm.keep hW))
  have HPR := Lib.hid (fun sa sc l c W (hW : Below w.heap.size w W) (h1 : IsAtoms W sa l) (h2 : IsInts W sc c) => text_Print sa sc l c W h1 h2 (hk.keep hW) (htab.keep hW) (hwo.keep hW))
  have HWO := Lib.hid (fun sa sc l c W (hW : Below w.heap.size w W) (h1 : IsAtoms W sa l) (h2 : IsInts W sc c) => worlds_Of sa sc l c u W h1 h2 (hk.keep hW))
  have HLO := Lib.hid (fun sa sc l c W (hW : Below w.heap.size w W) (h1 : IsAtoms W sa l) (h2 : IsInts W sc c) => least_Of sa sc l c W h1 h2 (hk.keep hW) (het.keep hW))
  have HSW := Lib.hid (fun W (hW : Below w.heap.size w W) => alike_Swap _ t x y W (HT.out.keep hW))
  have HSP := Lib.hid (fun sa sc tv l c t W (hW : Below w.heap.size w W) (h1 : IsAtoms W sa l) (h2 : IsInts W sc c) (h3 : IsInts W tv t) => span_Of sa sc tv l c t u W h1 h2 h3 (hk.keep hW))
  clear ha hc ht hk het htab hwo he hm
  have BA0 := Lib.hid (Blk.new w 38 #[.slice A l.length cA, .slice C c.length cC])
  have hb0 : Below w.heap.size w (w.alloc (.cells #[.slice A l.length cA, .slice C c.length cC] 38)) := by (repeat' (first | (with_reducible exact Below.refl _ _) | (with_reducible assumption) | (with_reducible refine Below.next ?_ (by with_reducible assumption)) | (with_reducible refine Below.drew ?_) | (with_reducible refine Below.laid ?_ _) | (with_reducible refine Below.setCell ?_ ?_ _) | (with_reducible refine size_of ?_) | (with_reducible refine Nat.le_succ_of_le ?_) | go_size))
  go_enter Tryz.func8, Tryz.ntmps8
  go_upto_region 1 with (fail)
  revert BA0 hb0
  generalize w.alloc (.cells #[.slice A l.length cA, .slice C c.length cC] 38) = w0
  intro BA0 hb0
  go_wp2_with fail
  refine (HON.out _ hb0).mono ?_
  rintro e w1 ⟨rfl, hb1⟩
  have hq1 := Below.next hb0 hb1
  have BA1 := Lib.hid (BA0.out.keep hb1)
  clear hb0 hb1 BA0 HON
  by_cases hbad : x < 0 ∨ (¬ x < 0 ∧ 2 < x) ∨ (¬ x < 0 ∧ ¬ 2 < x ∧ y < 0) ∨ (¬ x < 0 ∧ ¬ 2 < x ∧ ¬ y < 0 ∧ 2 < y) ∨ (¬ x < 0 ∧ ¬ 2 < x ∧ ¬ y < 0 ∧ ¬ 2 < y ∧ 4 < u)
  · rcases hbad with h1 | ⟨h1, h2⟩ | ⟨h1, h2, h3⟩ | ⟨h1, h2, h3, h4⟩ | ⟨h1, h2, h3, h4, h5⟩
    all_goals
      go_wp2
      go_ret
      exact ⟨rfl, hq1⟩
  · obtain ⟨h1, h2, h3, h4, h5⟩ : ¬ x < 0 ∧ ¬ 2 < x ∧ ¬ y < 0 ∧ ¬ 2 < y ∧ ¬ 4 < u := by
      refine ⟨fun h => hbad (.inl h), fun h => ?_, fun h => ?_, fun h => ?_, fun h => ?_⟩ <;> (apply hbad; omega)
    clear hbad
    go_upto_region 7 with (fail)
    obtain ⟨X, rfl⟩ : ∃ X : Nat, x = (X : Int) := ⟨x.toNat, by omega⟩
    obtain ⟨Y, rfl⟩ : ∃ Y : Nat, y = (Y : Int) := ⟨y.toNat, by omega⟩
    have hX : (0 : Int) ≤ (X : Int) := by omega
    have hX3 : (X : Int) < 3 := by omega
    have hY : (0 : Int) ≤ (Y : Int) := by omega
    have hY3 : (Y : Int) < 3 := by omega
    have BP0 := Blk.new w1 43 #[.int .i64 0, .int .i64 1, .int .i64 2]
    have hq2 : Below w.heap.size w (w1.alloc (.cells #[.int .i64 0, .int .i64 1, .int .i64 2] 43)) := Below.laid hq1 _
    have BA2 := BA1.out.alloc (.cells #[.int .i64 0, .int .i64 1, .int .i64 2] 43)
    have hg : w.heap.size < w1.heap.size := BA1.out.lt
    revert BP0 hq2 BA2 hg
    generalize w1.alloc (.cells #[.int .i64 0, .int .i64 1, .int .i64 2] 43) = w2
    generalize w1.heap.size = g
    intro BP0 hq2 BA2 hg
    have z0 := BP0.frozen X
    have p0 : w2.cell? ⟨g, X, none⟩ = some (.int .i64 (X : Int)) := by
      rw [BP0.cell X]
      have : X = 0 ∨ X = 1 ∨ X = 2 := by omega
      rcases this with rfl | rfl | rfl <;> rfl
    have BP1 := BP0.set_ X (.int .i64 (Y : Int))
    have BA3 := BA2.far (p := ⟨g, X, none⟩) (by show _ ≠ g; omega) (.int .i64 (Y : Int))
    have hq3 : Below w.heap.size w (w2.setCell ⟨g, X, none⟩ (.int .i64 (Y : Int))) := hq2.setCell (p := ⟨g, X, none⟩) (by show _ ≤ g; omega) _
    have HP1 := Lib.hid (And.intro BP1 (And.intro BA3 hq3))
    clear BP1 BA3 hq3 BP0 hq2 BA2 BA1 hq1
    go_upto_region 8 with (fail)
    obtain ⟨BP1, BA3, hq3⟩ := HP1.out
    clear HP1 z0 p0
    revert BP1 BA3 hq3
    generalize w2.setCell ⟨g, X, none⟩ (.int .i64 (Y : Int)) = w3
    intro BP1 BA3 hq3
    have z0 := BP1.frozen Y
    have p0 : w3.cell? ⟨g, Y, none⟩ = some (.int .i64 (Y : Int)) := by
      rw [BP1.cell Y]
      have hc1 : X = 0 ∨ X = 1 ∨ X = 2 := by omega
      have hc2 : Y = 0 ∨ Y = 1 ∨ Y = 2 := by omega
      rcases hc1 with rfl | rfl | rfl <;> rcases hc2 with rfl | rfl | rfl <;> rfl
    have BP2 := BP1.set_ Y (.int .i64 (X : Int))
    have harr : ((#[.int .i64 0, .int .i64 1, .int .i64 2] : Array Value).setIfInBounds X (.int .i64 (Y : Int))).setIfInBounds Y (.int .i64 (X : Int)) = #[.int .i64 (Venn.swN (X : Int) (Y : Int) 0), .int .i64 (Venn.swN (X : Int) (Y : Int) 1), .int .i64 (Venn.swN (X : Int) (Y : Int) 2)] := by
      have hc1 : X = 0 ∨ X = 1 ∨ X = 2 := by omega
      have hc2 : Y = 0 ∨ Y = 1 ∨ Y = 2 := by omega
      rcases hc1 with rfl | rfl | rfl <;> rcases hc2 with rfl | rfl | rfl <;> rfl
    rw [harr] at BP2
    have BA4 := BA3.far (p := ⟨g, Y, none⟩) (by show _ ≠ g; omega) (.int .i64 (X : Int))
    have hq4 : Below w.heap.size w (w3.setCell ⟨g, Y, none⟩ (.int .i64 (X : Int))) := hq3.setCell (p := ⟨g, Y, none⟩) (by show _ ≤ g; omega) _
    have HP2 := Lib.hid (And.intro BP2 (And.intro BA4 hq4))
    clear BP2 BA4 hq4 BP1 hq3 BA3 harr
    go_upto_region 9 with (fail)
    obtain ⟨BP2, BA4, hq4⟩ := HP2.out
    clear HP2 z0 p0 hX hX3 hY hY3
    revert BP2 BA4 hq4
    generalize w3.setCell ⟨g, Y, none⟩ (.int .i64 (X : Int)) = w4
    intro BP2 BA4 hq4
    have HN := Lib.hid (HNA.out (Venn.swN (X : Int) (Y : Int) 0) (Venn.swN (X : Int) (Y : Int) 1) (Venn.swN (X : Int) (Y : Int) 2) w4 hq4)
    have HXY := Lib.hid (show (0 ≤ (X : Int) ∧ (X : Int) ≤ 2) ∧ (0 ≤ (Y : Int) ∧ (Y : Int) ≤ 2) ∧ u ≤ 4 by omega)
    have BA5 := Lib.hid BA4
    have BP5 := Lib.hid BP2
    have f0 := BA4.cell 0
    have f1 := BA4.cell 1
    have p0 := BP2.cell 0
    have p1 := BP2.cell 1
    have p2 := BP2.cell 2
    simp at f0 f1 p0 p1 p2
    clear BA4 BP2 HNA h1 h2 h3 h4 h5
    generalize hn0 : Venn.swN (X : Int) (Y : Int) 0 = n0 at HN p0
    generalize hn1 : Venn.swN (X : Int) (Y : Int) 1 = n1 at HN p1
    generalize hn2 : Venn.swN (X : Int) (Y : Int) 2 = n2 at HN p2
    have HNN := Lib.hid (And.intro hn0 (And.intro hn1 hn2))
    clear hn0 hn1 hn2
    go_wp2_with fail
    refine (HN.out).mono ?_
    rintro e w5 ⟨A5, kA5, C5, kC5, rfl, hb5, hA5, hC5⟩
    have hq5 := Below.next hq4 hb5
    have BA6 := Lib.hid (BA5.out.keep hb5)
    have hg5 : w.heap.size < w5.heap.size := BA6.out.lt
    obtain ⟨HX, HY, HU⟩ := HXY.out
    have HON := Venn.sw_once HX HY
    rw [HNN.out.1, HNN.out.2.1, HNN.out.2.2] at HON
    by_cases hf : ¬ Venn.formChk ⟨l, c⟩ = 0
    · have hne : Venn.namesErr ⟨l, c⟩ n0 n1 n2 = Venn.formChk ⟨l, c⟩ := by unfold Venn.namesErr; rw [if_neg hf]
      rw [hne, errV_ne hf]
      have HFN := Lib.hid (HFC.out _ (Below.laid hq5 (.cells #[.slice A5 (Venn.namesV ⟨l, c⟩ n0 n1 n2).atoms.length kA5, .slice C5 (Venn.namesV ⟨l, c⟩ n0 n1 n2).code.length kC5] 38)))
      rw [errV_ne hf] at HFN
      have BA7 := BA6.out.alloc (.cells #[.slice A5 (Venn.namesV ⟨l, c⟩ n0 n1 n2).atoms.length kA5, .slice C5 (Venn.namesV ⟨l, c⟩ n0 n1 n2).code.length kC5] 38)
      have hq7 := Below.laid hq5 (.cells #[.slice A5 (Venn.namesV ⟨l, c⟩ n0 n1 n2).atoms.length kA5, .slice C5 (Venn.namesV ⟨l, c⟩ n0 n1 n2).code.length kC5] 38)
      clear hne hf HN f0 f1 p0 p1 p2 hA5 hC5 HON
      generalize (Venn.namesV ⟨l, c⟩ n0 n1 n2).atoms.length = m1 at HFN BA7 hq7 ⊢
      generalize (Venn.namesV ⟨l, c⟩ n0 n1 n2).code.length = m2 at HFN BA7 hq7 ⊢
      obtain ⟨f0, f1⟩ : _ ∧ _ := And.intro (BA7.cell 0) (BA7.cell 1)
      simp at f0 f1
      go_wp2_with fail
      refine (HFN.out).mono ?_
      rintro e w8 ⟨rfl, hb8⟩
      go_wp2
      go_ret
      exact ⟨rfl, Below.next hq7 hb8⟩
    · replace hf := Decidable.not_not.1 hf
      have hne : Venn.namesErr ⟨l, c⟩ n0 n1 n2 = 0 := by unfold Venn.namesErr; rw [if_pos hf, if_pos HON]
      have hnv : Venn.namesV ⟨l, c⟩ n0 n1 n2 = Venn.renF n0 n1 n2 ⟨l, c⟩ := by unfold Venn.namesV; rw [if_pos hne]
      have hgc : Venn.formChk (Venn.renF n0 n1 n2 ⟨l, c⟩) = 0 := by rw [Venn.formChk_ren (Venn.once_in3 HON)]; exact hf
      have hws := Venn.worlds_sw HX HY hf HU
      have hlo := Venn.low_sw HX HY ⟨l, c⟩
      have hsp := fun ht => Venn.span_sw HX HY hf (t := t) ht u
      rw [HNN.out.1, HNN.out.2.1, HNN.out.2.2] at hws hlo hsp
      rw [hne, errV_zero rfl, hnv]
      rw [hnv] at hA5 hC5
      generalize Venn.renF n0 n1 n2 ⟨l, c⟩ = G at hA5 hC5 hgc hws hlo hsp ⊢
      obtain ⟨gl, gc⟩ := G
      have HWS := Lib.hid (show worldsVv ⟨gl, gc⟩ u = worldsVv ⟨l, c⟩ u by unfold worldsVv; rw [hws.1, hws.2])
      have HLW := Lib.hid hlo
      have HSV := Lib.hid (show ∀ ht, spanVv ⟨gl, gc⟩ (Venn.swapL t (X : Int) (Y : Int)) u = spanVv ⟨l, c⟩ t u from fun ht => by unfold spanVv; rw [(hsp ht).1, (hsp ht).2])
      have HGC := Lib.hid hgc
      have HF := Lib.hid hf
      clear hne hnv hgc hws hlo hsp HON HN hf
      simp only at hA5 hC5 ⊢
      have hq6 := Below.laid hq5 (.cells #[.slice A5 gl.length kA5, .slice C5 gc.length kC5] 38)
      have BA7 := BA6.out.alloc (.cells #[.slice A5 gl.length kA5, .slice C5 gc.length kC5] 38)
      have BG7 := Blk.new w5 38 #[.slice A5 gl.length kA5, .slice C5 gc.length kC5]
      have hA6 := hA5.keep (Below.laid (Below.refl _ _) (.cells #[.slice A5 gl.length kA5, .slice C5 gc.length kC5] 38))
      have hC6 := hC5.keep (Below.laid (Below.refl _ _) (.cells #[.slice A5 gl.length kA5, .slice C5 gc.length kC5] 38))
      clear hA5 hC5 f0 f1 p0 p1 p2 BA6 BA5 BP5 hb5 hq4 hq5
      go_upto_region 10 with (fail)
      revert hq6 BA7 BG7 hA6 hC6
      generalize w5.alloc (.cells #[.slice A5 gl.length kA5, .slice C5 gc.length kC5] 38) = w6
      generalize w5.heap.size = g1 at hg5 ⊢
      intro hq6 BA7 BG7 hA6 hC6
      have HA6 := Lib.hid hA6
      have HC6 := Lib.hid hC6
      have HP := Lib.hid (HPR.out _ _ gl gc w6 hq6 hA6 hC6)
      rw [show printF ⟨gl, gc⟩ = .tuple #[.string ⟨(printB ⟨gl, gc⟩).toArray⟩, .nilIface] from if_pos HGC.out] at HP
      have hps := print_form HGC.out
      have hpz : (⟨(printB ⟨gl, gc⟩).toArray⟩ : ByteArray).size < 4294967281 := by
        show (printB ⟨gl, gc⟩).toArray.size < _
        rw [List.size_toArray]
        have := (print_count HGC.out).2
        omega
      generalize (⟨(printB ⟨gl, gc⟩).toArray⟩ : ByteArray) = S at HP hps hpz
      have HPS := Lib.hid hps
      have HPZ := Lib.hid hpz
      obtain ⟨f0, f1⟩ : _ ∧ _ := And.intro (BG7.cell 0) (BG7.cell 1)
      simp at f0 f1
      clear hA6 hC6 hps hpz HPR
      go_wp2_with fail
      refine (HP.out).mono ?_
      rintro e w7 ⟨rfl, hb7⟩
      have hq7 := Below.next hq6 hb7
      have HPP := Lib.hid (HPA.out S HPZ.out w7 hq7)
      rw [HPS.out.1, HPS.out.2] at HPP
      clear f0 f1 HP HPA HPZ HPS
      go_wp2_with fail
      refine (HPP.out).mono ?_
      rintro e w8 ⟨A8, n8, c8, A9, n9, c9, rfl, hb8, hA8, hC8⟩
      rw [errV_zero rfl]
      simp only at hA8 hC8
      have hq8 := Below.next hq7 hb8
      have hb68 := Below.next hb7 hb8
      have HB69 := Lib.hid (Below.laid hb68 (.cells #[.slice A8 n8 c8, .slice A9 n9 c9] 38))
      have HQ9 := Lib.hid (Below.laid hq8 (.cells #[.slice A8 n8 c8, .slice A9 n9 c9] 38))
      have HBH := Lib.hid (Blk.new w8 38 #[.slice A8 n8 c8, .slice A9 n9 c9])
      have HA9 := Lib.hid (hA8.keep (Below.laid (Below.refl _ _) (.cells #[.slice A8 n8 c8, .slice A9 n9 c9] 38)))
      have HC9 := Lib.hid (hC8.keep (Below.laid (Below.refl _ _) (.cells #[.slice A8 n8 c8, .slice A9 n9 c9] 38)))
      have BA8 := Lib.hid BA7
      have BG8 := Lib.hid BG7
      clear hb68 hb7 hb8 hq6 hq7 hq8 hA8 hC8 HPP BA7 BG7
      go_upto_region 14 with (fail)
      revert HB69 HQ9 HBH HA9 HC9
      generalize w8.alloc (.cells #[.slice A8 n8 c8, .slice A9 n9 c9] 38) = w9
      generalize w8.heap.size = g2
      intro HB69 HQ9 HBH HA9 HC9
      have BA9 := Lib.hid (BA8.out.keep HB69.out)
      have BG9 := Lib.hid (BG8.out.keep HB69.out)
      have HS := Lib.hid (same_Form _ _ _ _ gl gc w9 (HA6.out.keep HB69.out) (HC6.out.keep HB69.out) HA9.out HC9.out)
      obtain ⟨f0, f1⟩ : _ ∧ _ := And.intro (BG9.out.cell 0) (BG9.out.cell 1)
      obtain ⟨h0, h1⟩ : _ ∧ _ := And.intro (HBH.out.cell 0) (HBH.out.cell 1)
      simp at f0 f1 h0 h1
      clear BG8 BA8
      go_wp2_with fail
      refine (HS.out).mono ?_
      rintro e w10 ⟨rfl, hb10⟩
      clear f0 f1 h0 h1 HS HA6 HC6 BG9 HFC HB69
      have HQ := Lib.hid (fun W (hW : Below w9.heap.size w9 W) => Below.next HQ9.out hW)
      have HW1 := Lib.hid (fun W (hW : Below w9.heap.size w9 W) => HWO.out _ _ l c W (HQ.out W hW) (HA.out.keep (HQ.out W hW)) (HC.out.keep (HQ.out W hW)))
      have HW2 := Lib.hid (fun W (hW : Below w9.heap.size w9 W) => HWO.out _ _ gl gc W (HQ.out W hW) (HA9.out.keep hW) (HC9.out.keep hW))
      have HL1 := Lib.hid (fun W (hW : Below w9.heap.size w9 W) => HLO.out _ _ l c W (HQ.out W hW) (HA.out.keep (HQ.out W hW)) (HC.out.keep (HQ.out W hW)))
      have HL2 := Lib.hid (fun W (hW : Below w9.heap.size w9 W) => HLO.out _ _ gl gc W (HQ.out W hW) (HA9.out.keep hW) (HC9.out.keep hW))
      rw [HWS.out] at HW2
      rw [HLW.out.1, HLW.out.2] at HL2
      rw [show worldsVv ⟨l, c⟩ u = .tuple #[.int .i64 (Venn.worldsV ⟨l, c⟩ u), errV (Venn.worldsChk ⟨l, c⟩ u)] from rfl] at HW1 HW2
      generalize Venn.worldsV ⟨l, c⟩ u = N1 at HW1 HW2
      generalize Venn.worldsChk ⟨l, c⟩ u = E1 at HW1 HW2
      generalize Venn.lowV ⟨l, c⟩ = N2 at HL1 HL2
      generalize Venn.lowE ⟨l, c⟩ = E2 at HL1 HL2
      clear HWO HLO HWS HLW
      rcases errV_or E1 with hE | ⟨x1, hE⟩
      all_goals
        rw [hE] at HW1 HW2
        clear hE
        obtain ⟨f0, f1⟩ : _ ∧ _ := And.intro ((BA9.out.keep hb10).cell 0) ((BA9.out.keep hb10).cell 1)
        obtain ⟨h0, h1⟩ : _ ∧ _ := And.intro ((HBH.out.keep hb10).cell 0) ((HBH.out.keep hb10).cell 1)
        simp at f0 f1 h0 h1
        go_wp2_with fail
        refine (HW1.out _ hb10).mono ?_
        rintro e w11 ⟨rfl, hb⟩
        have hb11 := Below.next hb10 hb
        clear f0 f1 h0 h1 hb
        obtain ⟨f0, f1⟩ : _ ∧ _ := And.intro ((BA9.out.keep hb11).cell 0) ((BA9.out.keep hb11).cell 1)
        obtain ⟨h0, h1⟩ : _ ∧ _ := And.intro ((HBH.out.keep hb11).cell 0) ((HBH.out.keep hb11).cell 1)
        simp at f0 f1 h0 h1
        go_wp2_with fail
        refine (HW2.out _ hb11).mono ?_
        rintro e w12 ⟨rfl, hb⟩
        have hb12 := Below.next hb11 hb
        clear f0 f1 h0 h1 hb
        clear HW1 HW2
        go_wp2_with fail
        go_quiet (fail)
        rcases errV_or E2 with hE | ⟨x2, hE⟩
        all_goals
          rw [hE] at HL1 HL2
          clear hE
          obtain ⟨f0, f1⟩ : _ ∧ _ := And.intro ((BA9.out.keep hb12).cell 0) ((BA9.out.keep hb12).cell 1)
          obtain ⟨h0, h1⟩ : _ ∧ _ := And.intro ((HBH.out.keep hb12).cell 0) ((HBH.out.keep hb12).cell 1)
          simp at f0 f1 h0 h1
          go_wp2_with fail
          refine (HL1.out _ (below_drewN hb12 _)).mono ?_
          rintro e w13 ⟨rfl, hb⟩
          have hb13 := Below.next (below_drewN hb12 _) hb
          clear f0 f1 h0 h1 hb
          obtain ⟨f0, f1⟩ : _ ∧ _ := And.intro ((BA9.out.keep hb13).cell 0) ((BA9.out.keep hb13).cell 1)
          obtain ⟨h0, h1⟩ : _ ∧ _ := And.intro ((HBH.out.keep hb13).cell 0) ((HBH.out.keep hb13).cell 1)
          simp at f0 f1 h0 h1
          go_wp2_with fail
          refine (HL2.out _ hb13).mono ?_
          rintro e w14 ⟨rfl, hb⟩
          have hb14 := Below.next hb13 hb
          clear f0 f1 h0 h1 hb
          clear HL1 HL2
          go_wp2_with fail
          go_quiet (fail)
          have HSX := Lib.hid (HSW.out _ (HQ.out _ (below_drewN hb14 nq)))
          go_wp2_with fail
          refine (HSX.out).mono ?_
          rintro e w15 ⟨v, rfl, hb, hv⟩
          have hb15 := Below.next (below_drewN hb14 nq) hb
          clear hb HSX
          by_cases hsw : ¬ Venn.swapChk t (X : Int) (Y : Int) = 0
          · rw [errV_ne hsw]
            clear hsw hv
            go_wp2
            go_ret
            exact ⟨rfl, HQ.out _ hb15⟩
          · replace hsw := Decidable.not_not.1 hsw
            rw [errV_zero hsw]
            rw [if_pos hsw] at hv
            have htc : Venn.termChk t = 0 := by
              unfold Venn.swapChk at hsw
              split at hsw
              · assumption
              · exact hsw
            have HV := Lib.hid hv
            obtain ⟨VA, vn, rfl⟩ : ∃ VA vn, v = .slice VA (Venn.swapL t (X : Int) (Y : Int)).length vn := by
              obtain ⟨VA, vn, e, _⟩ := hv
              exact ⟨VA, vn, e⟩
            have HS1 := Lib.hid (HSP.out _ _ _ l c t w15 (HQ.out _ hb15) (HA.out.keep (HQ.out _ hb15)) (HC.out.keep (HQ.out _ hb15)) (HT.out.keep (HQ.out _ hb15)))
            have HS2 := Lib.hid (fun W (hW : Below w15.heap.size w15 W) => HSP.out _ _ _ gl gc (Venn.swapL t (X : Int) (Y : Int)) W (HQ.out _ (Below.next hb15 hW)) (HA9.out.keep (Below.next hb15 hW)) (HC9.out.keep (Below.next hb15 hW)) (HV.out.keep hW))
            rw [HSV.out htc] at HS2
            rw [show spanVv ⟨l, c⟩ t u = .tuple #[.agg #[.int .i64 (Venn.spanV ⟨l, c⟩ t u).1, .int .i64 (Venn.spanV ⟨l, c⟩ t u).2], errV (Venn.spanChk ⟨l, c⟩ t u)] from rfl] at HS1 HS2
            generalize (Venn.spanV ⟨l, c⟩ t u).1 = P1 at HS1 HS2
            generalize (Venn.spanV ⟨l, c⟩ t u).2 = P2 at HS1 HS2
            generalize Venn.spanChk ⟨l, c⟩ t u = E3 at HS1 HS2
            generalize (Venn.swapL t (X : Int) (Y : Int)).length = vm at HS2 ⊢
            clear hsw htc hv HV
            rcases errV_or E3 with hE | ⟨x3, hE⟩
            all_goals
              rw [hE] at HS1 HS2
              clear hE
              obtain ⟨f0, f1⟩ : _ ∧ _ := And.intro ((BA9.out.keep hb15).cell 0) ((BA9.out.keep hb15).cell 1)
              simp at f0 f1
              go_wp2_with fail
              refine (HS1.out).mono ?_
              rintro e w16 ⟨rfl, hb⟩
              have hx16 := Below.laid hb (.cells #[.int .i64 P1, .int .i64 P2] 87)
              have BS := Blk.new w16 87 #[.int .i64 P1, .int .i64 P2]
              clear f0 f1 hb HS1
              go_upto_region 28 with (fail)
              revert hx16 BS
              generalize w16.alloc (.cells #[.int .i64 P1, .int .i64 P2] 87) = w17
              generalize w16.heap.size = g3
              intro hx16 BS
              have hb17 := Below.next hb15 hx16
              obtain ⟨h0, h1⟩ : _ ∧ _ := And.intro ((HBH.out.keep hb17).cell 0) ((HBH.out.keep hb17).cell 1)
              simp at h0 h1
              go_wp2_with fail
              refine (HS2.out _ hx16).mono ?_
              rintro e w18 ⟨rfl, hb⟩
              have hb18 := Below.laid (Below.next hb17 hb) (.cells #[.int .i64 P1, .int .i64 P2] 87)
              have BR := Blk.new w18 87 #[.int .i64 P1, .int .i64 P2]
              have BS2 := (BS.keep hb).alloc (.cells #[.int .i64 P1, .int .i64 P2] 87)
              clear h0 h1 hb HS2 BS
              go_upto_region 29 with (fail)
              revert hb18 BR BS2
              generalize w18.alloc (.cells #[.int .i64 P1, .int .i64 P2] 87) = w19
              generalize w18.heap.size = g4
              intro hb18 BR BS2
              obtain ⟨f0, f1⟩ : _ ∧ _ := And.intro (BS2.cell 0) (BS2.cell 1)
              obtain ⟨h0, h1⟩ : _ ∧ _ := And.intro (BR.cell 0) (BR.cell 1)
              simp at f0 f1 h0 h1
              clear BR BS2
              go_wp2_with fail
              go_quiet (fail)
              go_wp2
              go_ret
              exact ⟨by simp, HQ.out _ (below_drewN hb18 _)⟩
end Go.Proofs.YtcloppcekbdbaaaGreatDoor
