/-
  THE WALK of vennlaw2.CoreEnough.
-/
import Derived.Test.YtcbjmfljdmomhaaDoorFormAt
import Derived.Test.YtcbjmfljdmomhaaDoorCoreOf
import Derived.Test.YtcbjmfljdmomhaaDoorFormHolds
import Derived.Test.YtcbjmfljdmomhaaDoorSame
import Derived.Test.YtcbjmfljdmomhaaDoorLawF
import Derived.Test.YtcbjmfljdmomhaaDoorVennEnough
import Derived.Deep.RegionHeld3
import Derived.Deep.DeepCutAuto
import Derived.Deep.CutBlock
import Derived.BigQuiet
import Derived.IntWalk
namespace Venn
set_option maxRecDepth 1000000 in
theorem enough_fact : coreErr [⟨[⟨3, [0], [], 1⟩], [0]⟩, ⟨[⟨3, [0], [], 1⟩], [0]⟩, ⟨[⟨4, [0], [], 0⟩], [0]⟩] 2 = 0 ∧ coreV [⟨[⟨3, [0], [], 1⟩], [0]⟩, ⟨[⟨3, [0], [], 1⟩], [0]⟩, ⟨[⟨4, [0], [], 0⟩], [0]⟩] 2 = [1, 2] := by decide +kernel
end Venn
namespace Go.Proofs.YtcbjmfljdmomhaaDoor
open Go.RowKit

def EnSo (ls : List Venn.Form) (W : Venn.World) (th u : Int) (k : Nat) (x : Bool) : Prop := x = true → th = u ∧ (0 < k → Venn.worldChk W = 0) ∧ ∀ f ∈ ls.take k, Venn.formTrue f W = true
theorem EnSo.no {ls : List Venn.Form} {W : Venn.World} {th u : Int} {k : Nat} : EnSo ls W th u k false := fun h => by cases h
theorem held_enough {W : World} {x : Nat} {tW : TypeId} {ad : Addr} {va vc c0 c1 c2 c3 : Value} (hX : Blk W x tW #[c0, c1, c2, c3]) (h0 : W.cell? ad = some va) (h1 : W.cell? ⟨ad.block, ad.off + 1, none⟩ = some vc) :
    W.cell? ad = some va ∧ W.cell? ⟨ad.block, ad.off + 1, none⟩ = some vc ∧ W.cell? ⟨x, 0, none⟩ = some c0 ∧ W.cell? ⟨x, 1, none⟩ = some c1 ∧ W.cell? ⟨x, 2, none⟩ = some c2 ∧ W.cell? ⟨x, 3, none⟩ = some c3 := ⟨h0, h1, hX.cell 0, hX.cell 1, hX.cell 2, hX.cell 3⟩
def noFV : FV := (⟨[], []⟩, .slice none 0 0, .slice none 0 0)
def atP (p : List FV) (y : Int) : FV := p.getD y.toNat noFV
theorem atP_map (p : List FV) (ls : List Venn.Form) (h : p.map (fun x : FV => x.1) = ls) (xs : List Int) : (xs.map (atP p)).map (fun x : FV => x.1) = xs.map (Venn.atF ls) := by
  rw [List.map_map]
  refine List.map_congr_left fun y _ => ?_
  subst h
  simp only [Function.comp, atP, Venn.atF, List.getD_eq_getElem?_getD, List.getElem?_map]
  cases p[y.toNat]? <;> rfl
theorem atP_mem {p : List FV} {y : Int} (h0 : 0 ≤ y) (h1 : y < (p.length : Int)) : atP p y ∈ p := by
  have hlt : y.toNat < p.length := by omega
  simp [atP, List.getD, hlt]
theorem IsForms.take1 {w : World} {A : Option Addr} {n c : Nat} {l : List Venn.Form} (h : IsForms w (.slice A n c) l) (h0 : l.length ≠ 0) : IsForms w (.slice A 1 c) (l.take 1) := by
  obtain ⟨A', c', e, hr, h1, h2⟩ := h
  injection e with e1 e2 e3
  subst e1 e3
  refine ⟨A, c, by rw [List.length_take]; congr 1; omega, fun k x hk => hr k x ?_, by rw [List.length_take]; omega, h2⟩
  rw [List.getElem?_take] at hk
  split at hk
  · exact hk
  · cases hk

set_option maxHeartbeats 8000000 in
set_option maxRecDepth 100000 in
theorem coreEnough_bad (v : Value) (ls : List Venn.Form) (u th a b d : Int) (w : World) (hl : IsForms w v ls) (hk : KindsOk w) (het : EtOk w) (hz : Venn.coreChk ls u ≠ 0) :
    Calls Tryd.prog 3 #[v, .int .i64 u, .agg #[.int .i64 th, .int .i64 a, .int .i64 b, .int .i64 d]] w (Keeps (.bool true) w) := by
  obtain ⟨L, cL, rfl⟩ := forms_slice hl
  have HL := Lib.hid hl
  have HK := Lib.hid hk
  have HET := Lib.hid het
  have HF1 := Lib.hid Venn.enough_fact.1
  have HF2 := Lib.hid Venn.enough_fact.2
  have HVO := Lib.hid (openVv_bad hz)
  clear hl hk het hz
  go_enter Tryd.func3, Tryd.ntmps3
  go_upto_region 1 with (fail)
  have BW := Blk.new w 25 #[.int .i64 th, .int .i64 a, .int .i64 b, .int .i64 d]
  have hw1 : Below w.heap.size w (w.alloc (.cells #[.int .i64 th, .int .i64 a, .int .i64 b, .int .i64 d] 25)) := (by (repeat' (first | (with_reducible exact Below.refl _ _) | (with_reducible assumption) | (with_reducible refine Below.next ?_ (by with_reducible assumption)) | (with_reducible refine Below.drew ?_) | (with_reducible refine Below.laid ?_ _) | (with_reducible refine Below.setCell ?_ ?_ _) | (with_reducible refine size_of ?_) | (with_reducible refine Nat.le_succ_of_le ?_) | go_size)))
  revert BW hw1
  generalize World.alloc _ _ = w1
  intro BW hw1
  go_upto_region 2 with (fail)
  obtain ⟨F1, hq1'⟩ := FormAt.one (w1.alloc (.cells #[.int .i64 0] 3)) 3 1 (.slice (some ⟨w1.heap.size, 0, none⟩) 1 1) [0] (IsInts.of_blk1 (t := 3) (Blk.new _ _ _))
  have hq2 : Below w1.heap.size w1 _ := Below.next (Below.laid (Below.refl _ w1) (.cells #[.int .i64 0] 3)) hq1'
  rw [World.size_alloc] at F1
  revert F1 hq2
  simp only [World.size_alloc]
  generalize World.alloc (World.alloc _ _) _ = w2
  intro F1 hq2
  have hw2 := Below.next hw1 hq2
  replace BW := BW.keep hq2
  go_upto_region 3 with (fail)
  obtain ⟨F2, hq2'⟩ := FormAt.one (w2.alloc (.cells #[.int .i64 0] 3)) 4 0 (.slice (some ⟨w2.heap.size, 0, none⟩) 1 1) [0] (IsInts.of_blk1 (t := 3) (Blk.new _ _ _))
  have hq3 : Below w2.heap.size w2 _ := Below.next (Below.laid (Below.refl _ w2) (.cells #[.int .i64 0] 3)) hq2'
  rw [World.size_alloc] at F2
  revert F2 hq3
  simp only [World.size_alloc]
  generalize World.alloc (World.alloc _ _) _ = w3
  intro F2 hq3
  clear hq1' hq2'
  have hw3 := Below.next hw2 hq3
  replace BW := BW.keep hq3
  replace F1 := F1.keep hq3
  obtain ⟨⟨x0, x1⟩, _⟩ := F1.box.cells2
  obtain ⟨⟨y0, y1⟩, _⟩ := F2.box.cells2
  have xl := F1.box.lt
  have yl := F2.box.lt
  go_wp2_with fail
  refine (core_Of _ [⟨[⟨3, [0], [], 1⟩], [0]⟩, ⟨[⟨3, [0], [], 1⟩], [0]⟩, ⟨[⟨4, [0], [], 0⟩], [0]⟩] 2 _ (IsForms.three (Blk.new _ _ _) (F1.ha.keep (by (repeat' (first | (with_reducible exact Below.refl _ _) | (with_reducible assumption) | (with_reducible refine Below.next ?_ (by with_reducible assumption)) | (with_reducible refine Below.drew ?_) | (with_reducible refine Below.laid ?_ _) | (with_reducible refine Below.setCell ?_ ?_ _) | (with_reducible refine size_of ?_) | (with_reducible refine Nat.le_succ_of_le ?_) | go_size)))) (F1.hc.keep (by (repeat' (first | (with_reducible exact Below.refl _ _) | (with_reducible assumption) | (with_reducible refine Below.next ?_ (by with_reducible assumption)) | (with_reducible refine Below.drew ?_) | (with_reducible refine Below.laid ?_ _) | (with_reducible refine Below.setCell ?_ ?_ _) | (with_reducible refine size_of ?_) | (with_reducible refine Nat.le_succ_of_le ?_) | go_size)))) (F1.ha.keep (by (repeat' (first | (with_reducible exact Below.refl _ _) | (with_reducible assumption) | (with_reducible refine Below.next ?_ (by with_reducible assumption)) | (with_reducible refine Below.drew ?_) | (with_reducible refine Below.laid ?_ _) | (with_reducible refine Below.setCell ?_ ?_ _) | (with_reducible refine size_of ?_) | (with_reducible refine Nat.le_succ_of_le ?_) | go_size)))) (F1.hc.keep (by (repeat' (first | (with_reducible exact Below.refl _ _) | (with_reducible assumption) | (with_reducible refine Below.next ?_ (by with_reducible assumption)) | (with_reducible refine Below.drew ?_) | (with_reducible refine Below.laid ?_ _) | (with_reducible refine Below.setCell ?_ ?_ _) | (with_reducible refine size_of ?_) | (with_reducible refine Nat.le_succ_of_le ?_) | go_size)))) (F2.ha.keep (by (repeat' (first | (with_reducible exact Below.refl _ _) | (with_reducible assumption) | (with_reducible refine Below.next ?_ (by with_reducible assumption)) | (with_reducible refine Below.drew ?_) | (with_reducible refine Below.laid ?_ _) | (with_reducible refine Below.setCell ?_ ?_ _) | (with_reducible refine size_of ?_) | (with_reducible refine Nat.le_succ_of_le ?_) | go_size)))) (F2.hc.keep (by (repeat' (first | (with_reducible exact Below.refl _ _) | (with_reducible assumption) | (with_reducible refine Below.next ?_ (by with_reducible assumption)) | (with_reducible refine Below.drew ?_) | (with_reducible refine Below.laid ?_ _) | (with_reducible refine Below.setCell ?_ ?_ _) | (with_reducible refine size_of ?_) | (with_reducible refine Nat.le_succ_of_le ?_) | go_size))))) (HK.out.keep (by (repeat' (first | (with_reducible exact Below.refl _ _) | (with_reducible assumption) | (with_reducible refine Below.next ?_ (by with_reducible assumption)) | (with_reducible refine Below.drew ?_) | (with_reducible refine Below.laid ?_ _) | (with_reducible refine Below.setCell ?_ ?_ _) | (with_reducible refine size_of ?_) | (with_reducible refine Nat.le_succ_of_le ?_) | go_size))))).mono ?_
  rintro e w4 ⟨v4, rfl, hb4, hI4⟩
  rw [HF2.out] at hI4
  rw [HF1.out, errV_zero rfl]
  have hq4 : Below w3.heap.size w3 w4 := (by (repeat' (first | (with_reducible exact Below.refl _ _) | (with_reducible assumption) | (with_reducible refine Below.next ?_ (by with_reducible assumption)) | (with_reducible refine Below.drew ?_) | (with_reducible refine Below.laid ?_ _) | (with_reducible refine Below.setCell ?_ ?_ _) | (with_reducible refine size_of ?_) | (with_reducible refine Nat.le_succ_of_le ?_) | go_size)))
  have hw4 := Below.next hw3 hq4
  replace BW := BW.keep hq4
  obtain ⟨A4, c4, rfl, hrd4, _, _⟩ := hI4
  obtain ⟨ad4, rfl, hc40⟩ := hrd4 0 (.int .i64 1) rfl
  obtain ⟨ad4', e4, hc41⟩ := hrd4 1 (.int .i64 2) rfl
  cases e4
  simp only [List.length_cons, List.length_nil, Nat.zero_add, Nat.reduceAdd]
  have hc42 := hc41
  simp only [Addr.add, if_true] at hc40
  simp only [Addr.add, Nat.one_ne_zero, if_false] at hc41
  clear x0 x1 y0 y1 xl yl F1 F2 hq2 hq3 hq4 hb4 hrd4 HF1 HF2
  go_wp2_with fail
  refine (core_Open _ ls u _ (HL.out.keep (by (repeat' (first | (with_reducible exact Below.refl _ _) | (with_reducible assumption) | (with_reducible refine Below.next ?_ (by with_reducible assumption)) | (with_reducible refine Below.drew ?_) | (with_reducible refine Below.laid ?_ _) | (with_reducible refine Below.setCell ?_ ?_ _) | (with_reducible refine size_of ?_) | (with_reducible refine Nat.le_succ_of_le ?_) | go_size)))) (HK.out.keep (by (repeat' (first | (with_reducible exact Below.refl _ _) | (with_reducible assumption) | (with_reducible refine Below.next ?_ (by with_reducible assumption)) | (with_reducible refine Below.drew ?_) | (with_reducible refine Below.laid ?_ _) | (with_reducible refine Below.setCell ?_ ?_ _) | (with_reducible refine size_of ?_) | (with_reducible refine Nat.le_succ_of_le ?_) | go_size))))).mono ?_
  rintro e w5 ⟨rfl, hb5⟩
  rw [HVO.out]
  go_wp2
  go_ret
  exact ⟨rfl, (by (repeat' (first | (with_reducible exact Below.refl _ _) | (with_reducible assumption) | (with_reducible refine Below.next ?_ (by with_reducible assumption)) | (with_reducible refine Below.drew ?_) | (with_reducible refine Below.laid ?_ _) | (with_reducible refine Below.setCell ?_ ?_ _) | (with_reducible refine size_of ?_) | (with_reducible refine Nat.le_succ_of_le ?_) | go_size)))⟩
set_option maxHeartbeats 8000000 in
set_option maxRecDepth 100000 in
theorem coreEnough_ok (v : Value) (ls : List Venn.Form) (u th a b d : Int) (w : World) (hl : IsForms w v ls) (hk : KindsOk w) (het : EtOk w) (hz : Venn.coreChk ls u = 0) :
    Calls Tryd.prog 3 #[v, .int .i64 u, .agg #[.int .i64 th, .int .i64 a, .int .i64 b, .int .i64 d]] w (Keeps (.bool true) w) := by
  obtain ⟨L, cL, rfl⟩ := forms_slice hl
  have HL := Lib.hid hl
  have HK := Lib.hid hk
  have HET := Lib.hid het
  have HF1 := Lib.hid Venn.enough_fact.1
  have HF2 := Lib.hid Venn.enough_fact.2
  have HLF := Lib.hid hl
  obtain ⟨h0, h6, hfs, hu⟩ := Venn.coreChk_parts hz
  obtain ⟨o, ho⟩ : ∃ o, o = Venn.openV ls u := ⟨_, rfl⟩
  have HVO := Lib.hid (openVv_ok hz ho.symm)
  have HWO := Lib.hid (fun (hw : Venn.worldChk ⟨th, a, b, d⟩ = 0) (ht : th = u) (h : ∀ f ∈ ls, Venn.formTrue f ⟨th, a, b, d⟩ = true) => (by rw [ho]; exact Venn.openV_world (Venn.formsChk_mem hfs) hw ht (List.all_eq_true.2 h) : o = true))
  have HOP := Lib.hid (fun (h : o = true) => (by obtain ⟨g1, g2, g3⟩ := Venn.enough_open hz (ho.symm.trans h); exact ⟨g1, openVv_ok g2 g3⟩ : Venn.coreErr ls u = 8 ∧ openVv (ls.take 1) u = .tuple #[.bool true, .nilIface]))
  have HSH := Lib.hid (fun (h : o = false) => Venn.enough_shut hz (ho.symm.trans h))
  obtain ⟨L', cL', p, hv, hpl, hrd, hpo, hpc, hcm⟩ := forms_open hl
  have hplen : p.length = ls.length := by rw [← hpl]; simp
  obtain ⟨ad, rfl⟩ : ∃ ad, L = some ad := by
    obtain ⟨x, hx⟩ : ∃ x, p[0]? = some x := ⟨p[0]'(by omega), List.getElem?_eq_getElem (by omega)⟩
    obtain ⟨ad, e, _⟩ := hrd _ _ (fCells_at p 0 x hx).1
    refine ⟨ad, ?_⟩
    injection hv with q1
    rw [q1, e]
  have hLe : L' = some ad := by injection hv with q1; exact q1.symm
  have hce : cL = cL' := by injection hv
  subst hLe hce
  have HRD := Lib.hid hrd
  have HPO := Lib.hid hpo
  have HPL := Lib.hid hpl
  have HPLEN := Lib.hid hplen
  have HC := Lib.hid (And.intro hpc hcm)
  have HN := Lib.hid (And.intro h0 h6)
  clear hl hk het hz h0 h6 hfs hu ho hv hpl hrd hpo hpc hcm hplen
  go_enter Tryd.func3, Tryd.ntmps3
  go_upto_region 1 with (fail)
  have BW := Blk.new w 25 #[.int .i64 th, .int .i64 a, .int .i64 b, .int .i64 d]
  have hw1 : Below w.heap.size w (w.alloc (.cells #[.int .i64 th, .int .i64 a, .int .i64 b, .int .i64 d] 25)) := (by (repeat' (first | (with_reducible exact Below.refl _ _) | (with_reducible assumption) | (with_reducible refine Below.next ?_ (by with_reducible assumption)) | (with_reducible refine Below.drew ?_) | (with_reducible refine Below.laid ?_ _) | (with_reducible refine Below.setCell ?_ ?_ _) | (with_reducible refine size_of ?_) | (with_reducible refine Nat.le_succ_of_le ?_) | go_size)))
  revert BW hw1
  generalize World.alloc _ _ = w1
  intro BW hw1
  go_upto_region 2 with (fail)
  obtain ⟨F1, hq1'⟩ := FormAt.one (w1.alloc (.cells #[.int .i64 0] 3)) 3 1 (.slice (some ⟨w1.heap.size, 0, none⟩) 1 1) [0] (IsInts.of_blk1 (t := 3) (Blk.new _ _ _))
  have hq2 : Below w1.heap.size w1 _ := Below.next (Below.laid (Below.refl _ w1) (.cells #[.int .i64 0] 3)) hq1'
  rw [World.size_alloc] at F1
  revert F1 hq2
  simp only [World.size_alloc]
  generalize World.alloc (World.alloc _ _) _ = w2
  intro F1 hq2
  have hw2 := Below.next hw1 hq2
  replace BW := BW.keep hq2
  go_upto_region 3 with (fail)
  obtain ⟨F2, hq2'⟩ := FormAt.one (w2.alloc (.cells #[.int .i64 0] 3)) 4 0 (.slice (some ⟨w2.heap.size, 0, none⟩) 1 1) [0] (IsInts.of_blk1 (t := 3) (Blk.new _ _ _))
  have hq3 : Below w2.heap.size w2 _ := Below.next (Below.laid (Below.refl _ w2) (.cells #[.int .i64 0] 3)) hq2'
  rw [World.size_alloc] at F2
  revert F2 hq3
  simp only [World.size_alloc]
  generalize World.alloc (World.alloc _ _) _ = w3
  intro F2 hq3
  clear hq1' hq2'
  have hw3 := Below.next hw2 hq3
  replace BW := BW.keep hq3
  replace F1 := F1.keep hq3
  obtain ⟨⟨x0, x1⟩, _⟩ := F1.box.cells2
  obtain ⟨⟨y0, y1⟩, _⟩ := F2.box.cells2
  have xl := F1.box.lt
  have yl := F2.box.lt
  go_wp2_with fail
  refine (core_Of _ [⟨[⟨3, [0], [], 1⟩], [0]⟩, ⟨[⟨3, [0], [], 1⟩], [0]⟩, ⟨[⟨4, [0], [], 0⟩], [0]⟩] 2 _ (IsForms.three (Blk.new _ _ _) (F1.ha.keep (by (repeat' (first | (with_reducible exact Below.refl _ _) | (with_reducible assumption) | (with_reducible refine Below.next ?_ (by with_reducible assumption)) | (with_reducible refine Below.drew ?_) | (with_reducible refine Below.laid ?_ _) | (with_reducible refine Below.setCell ?_ ?_ _) | (with_reducible refine size_of ?_) | (with_reducible refine Nat.le_succ_of_le ?_) | go_size)))) (F1.hc.keep (by (repeat' (first | (with_reducible exact Below.refl _ _) | (with_reducible assumption) | (with_reducible refine Below.next ?_ (by with_reducible assumption)) | (with_reducible refine Below.drew ?_) | (with_reducible refine Below.laid ?_ _) | (with_reducible refine Below.setCell ?_ ?_ _) | (with_reducible refine size_of ?_) | (with_reducible refine Nat.le_succ_of_le ?_) | go_size)))) (F1.ha.keep (by (repeat' (first | (with_reducible exact Below.refl _ _) | (with_reducible assumption) | (with_reducible refine Below.next ?_ (by with_reducible assumption)) | (with_reducible refine Below.drew ?_) | (with_reducible refine Below.laid ?_ _) | (with_reducible refine Below.setCell ?_ ?_ _) | (with_reducible refine size_of ?_) | (with_reducible refine Nat.le_succ_of_le ?_) | go_size)))) (F1.hc.keep (by (repeat' (first | (with_reducible exact Below.refl _ _) | (with_reducible assumption) | (with_reducible refine Below.next ?_ (by with_reducible assumption)) | (with_reducible refine Below.drew ?_) | (with_reducible refine Below.laid ?_ _) | (with_reducible refine Below.setCell ?_ ?_ _) | (with_reducible refine size_of ?_) | (with_reducible refine Nat.le_succ_of_le ?_) | go_size)))) (F2.ha.keep (by (repeat' (first | (with_reducible exact Below.refl _ _) | (with_reducible assumption) | (with_reducible refine Below.next ?_ (by with_reducible assumption)) | (with_reducible refine Below.drew ?_) | (with_reducible refine Below.laid ?_ _) | (with_reducible refine Below.setCell ?_ ?_ _) | (with_reducible refine size_of ?_) | (with_reducible refine Nat.le_succ_of_le ?_) | go_size)))) (F2.hc.keep (by (repeat' (first | (with_reducible exact Below.refl _ _) | (with_reducible assumption) | (with_reducible refine Below.next ?_ (by with_reducible assumption)) | (with_reducible refine Below.drew ?_) | (with_reducible refine Below.laid ?_ _) | (with_reducible refine Below.setCell ?_ ?_ _) | (with_reducible refine size_of ?_) | (with_reducible refine Nat.le_succ_of_le ?_) | go_size))))) (HK.out.keep (by (repeat' (first | (with_reducible exact Below.refl _ _) | (with_reducible assumption) | (with_reducible refine Below.next ?_ (by with_reducible assumption)) | (with_reducible refine Below.drew ?_) | (with_reducible refine Below.laid ?_ _) | (with_reducible refine Below.setCell ?_ ?_ _) | (with_reducible refine size_of ?_) | (with_reducible refine Nat.le_succ_of_le ?_) | go_size))))).mono ?_
  rintro e w4 ⟨v4, rfl, hb4, hI4⟩
  rw [HF2.out] at hI4
  rw [HF1.out, errV_zero rfl]
  have hq4 : Below w3.heap.size w3 w4 := (by (repeat' (first | (with_reducible exact Below.refl _ _) | (with_reducible assumption) | (with_reducible refine Below.next ?_ (by with_reducible assumption)) | (with_reducible refine Below.drew ?_) | (with_reducible refine Below.laid ?_ _) | (with_reducible refine Below.setCell ?_ ?_ _) | (with_reducible refine size_of ?_) | (with_reducible refine Nat.le_succ_of_le ?_) | go_size)))
  have hw4 := Below.next hw3 hq4
  replace BW := BW.keep hq4
  obtain ⟨A4, c4, rfl, hrd4, _, _⟩ := hI4
  obtain ⟨ad4, rfl, hc40⟩ := hrd4 0 (.int .i64 1) rfl
  obtain ⟨ad4', e4, hc41⟩ := hrd4 1 (.int .i64 2) rfl
  cases e4
  simp only [List.length_cons, List.length_nil, Nat.zero_add, Nat.reduceAdd]
  have hc42 := hc41
  simp only [Addr.add, if_true] at hc40
  simp only [Addr.add, Nat.one_ne_zero, if_false] at hc41
  clear x0 x1 y0 y1 xl yl F1 F2 hq2 hq3 hq4 hb4 hrd4 HF1 HF2
  go_wp2_with fail
  refine (core_Open _ ls u _ (HL.out.keep (by (repeat' (first | (with_reducible exact Below.refl _ _) | (with_reducible assumption) | (with_reducible refine Below.next ?_ (by with_reducible assumption)) | (with_reducible refine Below.drew ?_) | (with_reducible refine Below.laid ?_ _) | (with_reducible refine Below.setCell ?_ ?_ _) | (with_reducible refine size_of ?_) | (with_reducible refine Nat.le_succ_of_le ?_) | go_size)))) (HK.out.keep (by (repeat' (first | (with_reducible exact Below.refl _ _) | (with_reducible assumption) | (with_reducible refine Below.next ?_ (by with_reducible assumption)) | (with_reducible refine Below.drew ?_) | (with_reducible refine Below.laid ?_ _) | (with_reducible refine Below.setCell ?_ ?_ _) | (with_reducible refine size_of ?_) | (with_reducible refine Nat.le_succ_of_le ?_) | go_size))))).mono ?_
  rintro e w5 ⟨rfl, hb5⟩
  rw [HVO.out]
  have hq5 : Below w4.heap.size w4 w5 := (by (repeat' (first | (with_reducible exact Below.refl _ _) | (with_reducible assumption) | (with_reducible refine Below.next ?_ (by with_reducible assumption)) | (with_reducible refine Below.drew ?_) | (with_reducible refine Below.laid ?_ _) | (with_reducible refine Below.setCell ?_ ?_ _) | (with_reducible refine size_of ?_) | (with_reducible refine Nat.le_succ_of_le ?_) | go_size)))
  have hw5 := Below.next hw4 hq5
  replace BW := BW.keep hq5
  clear hc40 hc41 hc42 hq5 hb5 HVO hw1 hw2 hw3 hw4
  obtain ⟨BW0, BW1, BW2, BW3⟩ := BW.cells4
  have BWl := BW.lt
  go_upto_region 10 with (fail)
  clear BW0 BW1 BW2 BW3 BWl
  go_upto_block 0 with fail
  go_cut [13] (fun s13 wx => ∃ x : Bool, s13 = .bool x ∧ (o = false → x = false) ∧ Below w.heap.size w wx)
  case first =>
    go_wp2_with fail
    go_loopw [13, 14] (fun al i wr => ∃ (k : Nat) (x : Bool), k ≤ ls.length ∧ i = .int .i64 k ∧ al = .bool x ∧ EnSo ls ⟨th, a, b, d⟩ th u k x ∧ Below w.heap.size w wr ∧ Blk wr w.heap.size 25 #[.int .i64 th, .int .i64 a, .int .i64 b, .int .i64 d])
      (fun _ i _ => ls.length - (intOf i).toNat)
    case atStart => exact ⟨0, th == u, Nat.zero_le _, rfl, rfl, fun h => ⟨by simpa using h, fun h => absurd h (by decide), fun f hf => by simp at hf⟩, hw5, BW⟩
    case round =>
      clear BW hw5
      obtain ⟨k, x, hk, rfl, rfl, hAS, hw6, BW⟩ := hrel
      obtain ⟨wo, rfl⟩ : ∃ wo : World, wo = wr := ⟨_, rfl⟩
      have HAS := Lib.hid hAS
      clear hAS
      obtain ⟨BW0, BW1, BW2, BW3⟩ := BW.cells4
      have BWl := BW.lt
      by_cases hlt : k < ls.length
      · obtain ⟨⟨⟨fl, fc⟩, fa, fd⟩, hx⟩ : ∃ x : FV, p[k]? = some x := ⟨p[k]'(by rw [HPLEN.out]; exact hlt), List.getElem?_eq_getElem _⟩
        obtain ⟨g0, g1⟩ := fCells_at p k _ hx
        obtain ⟨ad2, e2, hd0⟩ := HRD.out _ _ g0
        obtain ⟨ad3, e3, hd1⟩ := HRD.out _ _ g1
        cases e2
        cases e3
        rw [adr_add _ _ _ (by decide)] at hd1
        obtain ⟨hfa, hfd⟩ := HPO.out _ (List.mem_of_getElem? hx)
        simp only at hd0 hd1 hfa hfd
        obtain ⟨FA, fA, rfl⟩ := hfa.slice
        obtain ⟨FD, fD, rfl⟩ := hfd.slice
        have d0 := cell_keep hw6 hd0
        have d1 := cell_keep hw6 hd1
        have HFA' := Lib.hid hfa
        have HFD := Lib.hid hfd
        have hget : ls[k]? = some ⟨fl, fc⟩ := by rw [← HPL.out, List.getElem?_map, hx]; rfl
        have HGE := Lib.hid hget
        have hk1 : (k : Int) < (ls.length : Int) := by omega
        have hk0 : (0 : Int) ≤ (k : Int) := by omega
        have hk6 : (k : Int) ≤ 6 := by have := HN.out.2; omega
        have HSTEP := Lib.hid (show x = true → Venn.formHoldsChk ⟨fl, fc⟩ ⟨th, a, b, d⟩ = 0 → Venn.formHoldsV ⟨fl, fc⟩ ⟨th, a, b, d⟩ = true → EnSo ls ⟨th, a, b, d⟩ th u (k + 1) true from fun e1 e2 e3 _ => by
          obtain ⟨q1, q2, q3⟩ := HAS.out e1
          have e4 : Venn.worldChk ⟨th, a, b, d⟩ = 0 := by
            rw [Venn.formHoldsChk] at e2
            split at e2
            · exact e2
            · contradiction
          refine ⟨q1, fun _ => e4, fun f hf => ?_⟩
          rw [List.take_add_one, HGE.out] at hf
          rcases List.mem_append.1 hf with hf | hf
          · exact q3 f hf
          · simp at hf
            rw [hf]
            rw [Venn.formHoldsV, if_pos e2] at e3
            exact e3)
        clear hfa hfd hd0 hd1 hx g0 g1 hget
        have d0' : wo.drew.cell? (ad.add (k * 2)) = some (.slice FA fl.length fA) := d0
        have d1' : wo.drew.cell? ⟨(ad.add (k * 2)).block, (ad.add (k * 2)).off + 1, none⟩ = some (.slice FD fc.length fD) := d1
        have BWd := BW.drew
        go_wp2_with fail
        go_region_held3 (fun w' => w'.cell? (ad.add (k * 2)) = some (.slice FA fl.length fA) ∧ w'.cell? ⟨(ad.add (k * 2)).block, (ad.add (k * 2)).off + 1, none⟩ = some (.slice FD fc.length fD) ∧ w'.cell? ⟨w.heap.size, 0, none⟩ = some (.int .i64 th) ∧ w'.cell? ⟨w.heap.size, 1, none⟩ = some (.int .i64 a) ∧ w'.cell? ⟨w.heap.size, 2, none⟩ = some (.int .i64 b) ∧ w'.cell? ⟨w.heap.size, 3, none⟩ = some (.int .i64 d))
          (first | with_reducible exact held_enough (W := wo) BW d0 d1 | with_reducible exact held_enough (W := wo.drew) BWd d0' d1' | with_reducible exact held_enough (W := w7) GW e0 e1)
          (first
          | (go_at_call 11; refine (form_Holds _ _ fl fc _ _ _ _ _ (HFA'.out.keep (by (repeat' (first | (with_reducible exact Below.refl _ _) | (with_reducible assumption) | (with_reducible refine Below.next ?_ (by with_reducible assumption)) | (with_reducible refine Below.drew ?_) | (with_reducible refine Below.laid ?_ _) | (with_reducible refine Below.setCell ?_ ?_ _) | (with_reducible refine size_of ?_) | (with_reducible refine Nat.le_succ_of_le ?_) | go_size)))) (HFD.out.keep (by (repeat' (first | (with_reducible exact Below.refl _ _) | (with_reducible assumption) | (with_reducible refine Below.next ?_ (by with_reducible assumption)) | (with_reducible refine Below.drew ?_) | (with_reducible refine Below.laid ?_ _) | (with_reducible refine Below.setCell ?_ ?_ _) | (with_reducible refine size_of ?_) | (with_reducible refine Nat.le_succ_of_le ?_) | go_size)))) (HK.out.keep (by (repeat' (first | (with_reducible exact Below.refl _ _) | (with_reducible assumption) | (with_reducible refine Below.next ?_ (by with_reducible assumption)) | (with_reducible refine Below.drew ?_) | (with_reducible refine Below.laid ?_ _) | (with_reducible refine Below.setCell ?_ ?_ _) | (with_reducible refine size_of ?_) | (with_reducible refine Nat.le_succ_of_le ?_) | go_size))))).mono ?_; rintro e w7 ⟨rfl, hb7⟩
             first
             | (have GW := BW.keep hb7; have hw7 := Below.next hw6 hb7; have e0 := cell_keep hb7 d0; have e1 := cell_keep hb7 d1)
             | (have GW := BW.drew.keep hb7; have hw7 := Below.next (Below.drew hw6) hb7; have e0 := cell_keep hb7 d0'; have e1 := cell_keep hb7 d1')))
        all_goals
          clear d0 d1 d0' d1' e0 e1 BWd BW0 BW1 BW2 BW3 BWl
          cases x
          · go_wp2
            go_roundw
            case rel => exact ⟨k + 1, false, by omega, by go_num, rfl, EnSo.no, hw7, GW⟩
            case measure => simp [intOf]; omega
          · by_cases hchk : Venn.formHoldsChk ⟨fl, fc⟩ ⟨th, a, b, d⟩ = 0
            · rw [errV_zero hchk]
              have HST := Lib.hid (HSTEP.out rfl hchk)
              clear hchk HSTEP
              cases hv : Venn.formHoldsV ⟨fl, fc⟩ ⟨th, a, b, d⟩
              · clear HST hv
                go_wp2
                go_roundw
                case rel => exact ⟨k + 1, false, by omega, by go_num, rfl, EnSo.no, hw7, GW⟩
                case measure => simp [intOf]; omega
              · have hs := HST.out hv
                have HS := Lib.hid hs
                clear HST hv hs
                go_wp2
                go_roundw
                case rel => exact ⟨k + 1, true, by omega, by go_num, rfl, HS.out, hw7, GW⟩
                case measure => simp [intOf]; omega
            · rw [errV_ne hchk]
              clear hchk HSTEP
              generalize Venn.formHoldsV ⟨fl, fc⟩ ⟨th, a, b, d⟩ = hv
              go_wp2
              go_roundw
              case rel => exact ⟨k + 1, false, by omega, by go_num, rfl, EnSo.no, hw7, GW⟩
              case measure => simp [intOf]; omega
      · have hk' : k = ls.length := by omega
        subst hk'
        have HX := Lib.hid (show o = false → x = false from fun h => by
          cases x
          · rfl
          · obtain ⟨q1, q2, q3⟩ := HAS.out rfl
            have := HWO.out (q2 (by have := HN.out.1; omega)) q1 (fun f hf => q3 f (by rw [List.take_length]; exact hf))
            rw [h] at this
            cases this)
        clear BW0 BW1 BW2 BW3 BWl BW HAS
        go_wp2
        go_meet
        case rel => exact ⟨x, rfl, HX.out, hw6⟩
  case rest =>
  obtain ⟨x, rfl, hx, hw6⟩ := hcut
  obtain ⟨w6, rfl⟩ : ∃ w6 : World, w6 = wc := ⟨_, rfl⟩
  clear BW hw5 HWO
  have hk0 : ¬ (ls.length : Int) < 1 := by have := HN.out.1; omega
  cases o
  rotate_left
  · -- it is open
    obtain ⟨g1, g2⟩ := HOP.out rfl
    have HE := Lib.hid g1
    have H1 := Lib.hid g2
    have hcap := HC.out
    have hn := HN.out
    rw [HPLEN.out] at hcap
    have hc1 : 1 ≤ cL := by omega
    have HL1 := Lib.hid (HLF.out.take1 HN.out.1)
    clear HSH HOP hx g1 g2 hcap hn
    cases x
    all_goals
      go_wp2_with fail
      refine (core_Of _ ls u _ (HL.out.keep (by (repeat' (first | (with_reducible exact Below.refl _ _) | (with_reducible assumption) | (with_reducible refine Below.next ?_ (by with_reducible assumption)) | (with_reducible refine Below.drew ?_) | (with_reducible refine Below.laid ?_ _) | (with_reducible refine Below.setCell ?_ ?_ _) | (with_reducible refine size_of ?_) | (with_reducible refine Nat.le_succ_of_le ?_) | go_size)))) (HK.out.keep (by (repeat' (first | (with_reducible exact Below.refl _ _) | (with_reducible assumption) | (with_reducible refine Below.next ?_ (by with_reducible assumption)) | (with_reducible refine Below.drew ?_) | (with_reducible refine Below.laid ?_ _) | (with_reducible refine Below.setCell ?_ ?_ _) | (with_reducible refine size_of ?_) | (with_reducible refine Nat.le_succ_of_le ?_) | go_size))))).mono ?_
      rintro e w7 ⟨v7, rfl, hb7, hI7⟩
      rw [HE.out]
      have hw7 := Below.next hw6 hb7
      clear hI7
      go_wp2_with fail
      refine (vennsame_Error 8 8 _ (HET.out.keep (by (repeat' (first | (with_reducible exact Below.refl _ _) | (with_reducible assumption) | (with_reducible refine Below.next ?_ (by with_reducible assumption)) | (with_reducible refine Below.drew ?_) | (with_reducible refine Below.laid ?_ _) | (with_reducible refine Below.setCell ?_ ?_ _) | (with_reducible refine size_of ?_) | (with_reducible refine Nat.le_succ_of_le ?_) | go_size))))).mono ?_
      rintro e w8 ⟨rfl, hb8⟩
      go_wp2_with fail
      refine (core_Open _ (ls.take 1) u _ (HL1.out.keep (by (repeat' (first | (with_reducible exact Below.refl _ _) | (with_reducible assumption) | (with_reducible refine Below.next ?_ (by with_reducible assumption)) | (with_reducible refine Below.drew ?_) | (with_reducible refine Below.laid ?_ _) | (with_reducible refine Below.setCell ?_ ?_ _) | (with_reducible refine size_of ?_) | (with_reducible refine Nat.le_succ_of_le ?_) | go_size)))) (HK.out.keep (by (repeat' (first | (with_reducible exact Below.refl _ _) | (with_reducible assumption) | (with_reducible refine Below.next ?_ (by with_reducible assumption)) | (with_reducible refine Below.drew ?_) | (with_reducible refine Below.laid ?_ _) | (with_reducible refine Below.setCell ?_ ?_ _) | (with_reducible refine size_of ?_) | (with_reducible refine Nat.le_succ_of_le ?_) | go_size))))).mono ?_
      rintro e w9 ⟨rfl, hb9⟩
      rw [H1.out]
      go_wp2
      go_ret
      exact ⟨rfl, (by (repeat' (first | (with_reducible exact Below.refl _ _) | (with_reducible assumption) | (with_reducible refine Below.next ?_ (by with_reducible assumption)) | (with_reducible refine Below.drew ?_) | (with_reducible refine Below.laid ?_ _) | (with_reducible refine Below.setCell ?_ ?_ _) | (with_reducible refine size_of ?_) | (with_reducible refine Nat.le_succ_of_le ?_) | go_size)))⟩
  · -- it is not
    obtain ⟨xs, hxs⟩ := HSH.out rfl
    obtain rfl := hx rfl
    have HXS := Lib.hid hxs
    clear HSH HOP hx hxs
    go_wp2_with fail
    refine (core_Of _ ls u _ (HL.out.keep (by (repeat' (first | (with_reducible exact Below.refl _ _) | (with_reducible assumption) | (with_reducible refine Below.next ?_ (by with_reducible assumption)) | (with_reducible refine Below.drew ?_) | (with_reducible refine Below.laid ?_ _) | (with_reducible refine Below.setCell ?_ ?_ _) | (with_reducible refine size_of ?_) | (with_reducible refine Nat.le_succ_of_le ?_) | go_size)))) (HK.out.keep (by (repeat' (first | (with_reducible exact Below.refl _ _) | (with_reducible assumption) | (with_reducible refine Below.next ?_ (by with_reducible assumption)) | (with_reducible refine Below.drew ?_) | (with_reducible refine Below.laid ?_ _) | (with_reducible refine Below.setCell ?_ ?_ _) | (with_reducible refine size_of ?_) | (with_reducible refine Nat.le_succ_of_le ?_) | go_size))))).mono ?_
    rintro e w7 ⟨v7, rfl, hb7, hI7⟩
    rw [HXS.out.val] at hI7
    rw [HXS.out.err]
    have hw7 := Below.next hw6 hb7
    obtain ⟨X7, c7, rfl, hrd7, hc71, hc72⟩ := hI7
    go_wp2_with fail
    refine (vennsame_Error 0 8 _ (HET.out.keep (by (repeat' (first | (with_reducible exact Below.refl _ _) | (with_reducible assumption) | (with_reducible refine Below.next ?_ (by with_reducible assumption)) | (with_reducible refine Below.drew ?_) | (with_reducible refine Below.laid ?_ _) | (with_reducible refine Below.setCell ?_ ?_ _) | (with_reducible refine size_of ?_) | (with_reducible refine Nat.le_succ_of_le ?_) | go_size))))).mono ?_
    rintro e w8 ⟨rfl, hb8⟩
    have hw8 := Below.next hw7 hb8
    replace hrd7 := hrd7.keep hb8
    have HN7 := Lib.hid (And.intro hc71 hc72)
    have HRX := Lib.hid hrd7
    clear hc71 hc72 hrd7 hb7 hb8 hw6 hw7
    obtain ⟨w9, rfl⟩ : ∃ w9 : World, w9 = w8 := ⟨_, rfl⟩
    have hxl := HXS.out.six
    go_upto_region 24 with (fail)
    go_upto_block 2 with fail
    go_cut [20] (fun s20 wx => ∃ g c, s20 = .slice (some ⟨g, 0, none⟩) xs.length c ∧ xs.length ≤ c ∧ c ≤ maxLen ∧ Rd wx (some ⟨g, 0, none⟩) (fCells (xs.map (atP p))) ∧ Below w.heap.size w wx ∧ g < wx.heap.size)
    case first =>
      go_wp2_with fail
      go_loopw [20, 21] (fun o i wr => ∃ (k : Nat), k ≤ xs.length ∧ i = .int .i64 k ∧ wr.ownsRow w9.heap.size 31 2 o k (fCells ((xs.take k).map (atP p))) ∧ Below w9.heap.size w9 wr)
        (fun _ i _ => xs.length - (intOf i).toNat)
      case atStart => exact ⟨0, Nat.zero_le _, rfl, World.ownsRow_nil _ _ _ _, Below.refl _ _⟩
      case round =>
        obtain ⟨k, hk, rfl, hown, hbw⟩ := hrel
        obtain ⟨wo, rfl⟩ : ∃ wo : World, wo = wr := ⟨_, rfl⟩
        obtain ⟨OA, oc, rfl⟩ := ownsRow_slice hown
        have HOWN := Lib.hid hown
        have HBW := Lib.hid hbw
        clear hown hbw
        by_cases hlt : k < xs.length
        · obtain ⟨x, hx⟩ : ∃ x, xs[k]? = some x := ⟨xs[k], List.getElem?_eq_getElem hlt⟩
          obtain ⟨y0, y1⟩ := HXS.out.rng x (List.mem_of_getElem? hx)
          obtain ⟨y, rfl⟩ := Int.eq_ofNat_of_zero_le y0
          obtain ⟨adx, rfl, hcx⟩ := HRX.out k (.int .i64 y) (by rw [List.getElem?_map, hx]; rfl)
          have hcx' : wo.cell? (adx.add k) = some (.int .i64 y) := cell_keep HBW.out hcx
          have hk1 : (k : Int) < (xs.length : Int) := by omega
          have hk6 : (k : Int) ≤ 6 := by omega
          have hy0 : ¬ (y : Int) < 0 := by omega
          have hy1 : ¬ (ls.length : Int) ≤ (y : Int) := by omega
          have hpy : y < p.length := by rw [HPLEN.out]; omega
          have HTK := Lib.hid (show (xs.take (k + 1)).map (atP p) = (xs.take k).map (atP p) ++ [atP p (y : Int)] by rw [List.take_add_one, hx, List.map_append]; rfl)
          obtain ⟨⟨⟨fl, fc⟩, fa, fd⟩, hpx⟩ : ∃ x : FV, p[y]? = some x := ⟨p[y], List.getElem?_eq_getElem hpy⟩
          have HAT := Lib.hid (show atP p (y : Int) = (⟨fl, fc⟩, fa, fd) by simp [atP, List.getD, hpx])
          obtain ⟨g0, g1⟩ := fCells_at p y _ hpx
          obtain ⟨ad2, e2, hd0⟩ := HRD.out _ _ g0
          obtain ⟨ad3, e3, hd1⟩ := HRD.out _ _ g1
          cases e2
          cases e3
          rw [adr_add _ _ _ (by decide)] at hd1
          obtain ⟨hfa, hfd⟩ := HPO.out _ (List.mem_of_getElem? hpx)
          simp only at hd0 hd1 hfa hfd
          obtain ⟨FA, fA, rfl⟩ := hfa.slice
          obtain ⟨FD, fD, rfl⟩ := hfd.slice
          have hw9 : Below w.heap.size w wo := Below.next hw8 HBW.out
          have d0 := cell_keep hw9 hd0
          have d1 := cell_keep hw9 hd1
          have HFA' := Lib.hid (hfa.keep hw9)
          have HFD := Lib.hid (hfd.keep hw9)
          have HD := Lib.hid (And.intro d0 d1)
          have hy1' : ((y : Nat) : Int) < (ls.length : Int) := by omega
          have HSUC := Lib.hid (show ∀ j : Nat, k = j + 1 → ∃ z : Nat, (z : Int) < (y : Int) ∧ xs[j]? = some (z : Int) from fun j e => by
            have hj : j < xs.length := by omega
            have hr := List.pairwise_iff_getElem.1 HXS.out.rise j k hj hlt (by omega)
            rw [List.getElem?_eq_getElem hlt] at hx
            have hy' : xs[k] = (y : Int) := by injection hx
            rw [hy'] at hr
            obtain ⟨q0, _⟩ := HXS.out.rng xs[j] (List.getElem_mem hj)
            obtain ⟨z, hz⟩ := Int.eq_ofNat_of_zero_le q0
            exact ⟨z, by rw [← hz]; exact hr, by rw [List.getElem?_eq_getElem hj, hz]⟩)
          clear hcx hd0 hd1 hfa hfd g0 g1 y0 y1 hx hpx d0 d1
          go_upto_region 27 with (fail)
          go_cut [168] (fun s wx => s = .bool false ∧ ∃ q, wx = wo.drewN q)
          case first =>
            by_cases h0 : 0 < (k : Int)
            · obtain ⟨j, hj⟩ : ∃ j, k = j + 1 := ⟨k - 1, by omega⟩
              obtain ⟨z, hzy, hz⟩ := HSUC.out j hj
              have hzy' : ¬ (y : Int) ≤ (z : Int) := by omega
              obtain ⟨ad5, e5, hcz⟩ := HRX.out j (.int .i64 z) (by rw [List.getElem?_map, hz]; rfl)
              cases e5
              have hcz' : wo.cell? (adx.add j) = some (.int .i64 z) := cell_keep HBW.out hcz
              have hwj : IntKind.i64.wrap ((k : Int) - 1) = (j : Int) := by rw [IntWalk.i64_in _ (by omega)]; omega
              have hj1 : (j : Int) < (xs.length : Int) := by omega
              have hj0 : (0 : Int) ≤ (j : Int) := by omega
              have hk0 : (0 : Int) ≤ (k : Int) := by omega
              have h0n : 0 < k := by omega
              clear hcz hz HSUC hj
              go_quiet (fail)
              go_wp2
              go_meet
              case rel => exact ⟨rfl, nq, rfl⟩
            · have hk0 : (0 : Int) ≤ (k : Int) := by omega
              have h0n : ¬ 0 < k := by omega
              clear HSUC
              go_quiet (fail)
              go_wp2
              go_meet
              case rel => exact ⟨rfl, nq, rfl⟩
          case rest =>
          obtain ⟨rfl, q, hwq⟩ := hcut
          have hbq : Below wo.heap.size wo wc := by rw [hwq]; exact below_drewN (Below.refl _ _) _
          clear hwq
          have hcx2 := cell_keep hbq hcx'
          have d0 := cell_keep hbq HD.out.1
          have d1 := cell_keep hbq HD.out.2
          have hownq := own_below HOWN.out hbq
          have hbq9 := Below.next HBW.out hbq
          have hok2 : FOk (wc.alloc (.cells #[.slice FA fl.length fA, .slice FD fc.length fD] 31)) [(⟨fl, fc⟩, .slice FA fl.length fA, .slice FD fc.length fD)] := fun x hx => by
            rw [List.mem_singleton.1 hx]
            exact ⟨HFA'.out.keep (Below.laid hbq _), HFD.out.keep (Below.laid hbq _)⟩
          have hrd2 : Rd (wc.alloc (.cells #[.slice FA fl.length fA, .slice FD fc.length fD] 31)) (some ⟨wc.heap.size, 0, none⟩) (fCells [((⟨fl, fc⟩ : Venn.Form), .slice FA fl.length fA, .slice FD fc.length fD)]) := rd_of_blk (n := 2) (Blk.new _ _ _) rfl
          have HOK2 := Lib.hid hok2
          have HRD2 := Lib.hid hrd2
          have HOWNQ := Lib.hid hownq
          clear hok2 hrd2 hownq
          obtain ⟨wo2, rfl⟩ : ∃ wo2 : World, wo2 = wc := ⟨_, rfl⟩
          go_wp2_with (at_builtin; refine wpList_appF _ rfl _ _ rfl w9.heap.size _ k _ rfl (HOWNQ.out.alloc _) ⟨wo2.heap.size, 0, none⟩ 1 [(⟨fl, fc⟩, .slice FA fl.length fA, .slice FD fc.length fD)] rfl HRD2.out HOK2.out ?hn2 ?hb2 ?_)
          case hn2 => (try simp); omega
          case hb2 => have := hbq9.size; simp; omega
          intro v11 w11 hown11 hgr11
          rw [← fCells_app] at hown11
          try simp only [List.length_cons, List.length_nil, Nat.zero_add] at hown11
          obtain ⟨gb, kb, qb, rfl, hgb, _⟩ := own_cons hown11 (by omega)
          have hb11 : Below w9.heap.size w9 w11 := (hbq9.alloc hbq9.size _).grown hgr11 (by have := hbq9.size; simp; omega) (fun g hg => (HOWNQ.out.lt g hg).1)
          have HB11 := Lib.hid hb11
          have HO11 := Lib.hid hown11
          clear hown11 hgr11 hb11 hcx2 d0 d1 hcx' hbq
          go_wp2
          go_roundw
          case rel => exact ⟨k + 1, by omega, by go_num, by rw [HTK.out, HAT.out, List.map_take]; exact HO11.out, HB11.out⟩
          case measure => simp [intOf]; omega
        · have hk' : k = xs.length := by omega
          subst hk'
          obtain ⟨g, cap, cur, e1, hg, hB, r1, r2, r3, r4⟩ := own_cons HOWN.out HXS.out.pos
          cases e1
          have hw9 : Below w.heap.size w wo := Below.next hw8 HBW.out
          have HR := Lib.hid (rd_of_blk hB r4)
          rw [List.take_length] at HR
          have HG := Lib.hid hB.lt
          clear hB r3 r4
          go_wp2
          go_meet
          case rel => exact ⟨g, _, rfl, r1, r2, HR.out, hw9, HG.out⟩
    case rest =>
    obtain ⟨g, c, rfl, hgc, hcm, hrdL, hw10, hgl⟩ := hcut
    obtain ⟨w10, rfl⟩ : ∃ w10 : World, w10 = wc := ⟨_, rfl⟩
    have hmemP : ∀ x ∈ xs.map (atP p), x ∈ p := fun x hx => by
      obtain ⟨y, hy, rfl⟩ := List.mem_map.1 hx
      obtain ⟨q0, q1⟩ := HXS.out.rng y hy
      exact atP_mem q0 (by rw [HPLEN.out]; exact q1)
    have HLM := Lib.hid (atP_map p ls HPL.out xs)
    have HCHK := Lib.hid HXS.out.chk
    have HSHUT := Lib.hid HXS.out.shut
    have HLESS := Lib.hid HXS.out.less
    have hx0 := HXS.out.pos
    have hxm : (xs.map (atP p)).length = xs.length := by simp
    rw [← HLM.out] at HCHK HSHUT HLESS
    have hpoP : FOk w (xs.map (atP p)) := fun x hx => HPO.out x (hmemP x hx)
    have HMM := Lib.hid (fun i => map_erase (fun x : FV => x.1) (xs.map (atP p)) i)
    generalize xs.map (atP p) = q at *
    have HXM := Lib.hid hxm
    have HPO2 := Lib.hid hpoP
    have HRL := Lib.hid hrdL
    have HVO := Lib.hid (show openVv (q.map fun x : FV => x.1) u = .tuple #[.bool false, .nilIface] from openVv_ok HCHK.out HSHUT.out)
    have hF : IsForms w10 (.slice (some ⟨g, 0, none⟩) xs.length c) (q.map fun x : FV => x.1) := by
      have := forms_close hrdL (hpoP.keep hw10) (c := c) (by rw [hxm]; exact hgc) hcm
      rwa [hxm] at this
    have HFF := Lib.hid hF
    clear hmemP hpoP hxm hrdL hF HRX HN7 HXS HLM HCHK HSHUT HPL HRD
    go_wp2_with fail
    refine (core_Open _ _ u _ (HFF.out.keep (Below.refl _ _)) (HK.out.keep (by (repeat' (first | (with_reducible exact Below.refl _ _) | (with_reducible assumption) | (with_reducible refine Below.next ?_ (by with_reducible assumption)) | (with_reducible refine Below.drew ?_) | (with_reducible refine Below.laid ?_ _) | (with_reducible refine Below.setCell ?_ ?_ _) | (with_reducible refine size_of ?_) | (with_reducible refine Nat.le_succ_of_le ?_) | go_size))))).mono ?_
    rintro e w11 ⟨rfl, hb11⟩
    rw [HVO.out]
    have hw11 := Below.next hw10 hb11
    have hgl11 : g < w11.heap.size := Nat.lt_of_lt_of_le hgl hb11.size
    replace HRL := Lib.hid (HRL.out.keep hb11)
    clear hw8 hw10 hb11 hgl
    go_wp2
    go_loopw [24] (fun i wr => ∃ k : Nat, k ≤ xs.length ∧ i = .int .i64 k ∧ Below w11.heap.size w11 wr) (fun i _ => xs.length - (intOf i).toNat)
    case atStart => exact ⟨0, Nat.zero_le _, rfl, Below.refl _ _⟩
    case round =>
      obtain ⟨k, hk, rfl, hbw⟩ := hrel
      obtain ⟨wo, rfl⟩ : ∃ wo : World, wo = wr := ⟨_, rfl⟩
      by_cases hlt : k < xs.length
      · have hk1 : (k : Int) < (xs.length : Int) := by omega
        have hk6 : (k : Int) ≤ 6 := by omega
        have hkc : k ≤ c := by omega
        have hkc1 : k + 1 ≤ c := by omega
        have hwk : IntKind.i64.wrap ((k : Int) + 1) = ((k + 1 : Nat) : Int) := by rw [IntWalk.i64_in _ (by omega)]; omega
        have htl : (q.take k).length = k := by rw [List.length_take, HXM.out]; omega
        have hdl : (q.drop (k + 1)).length = xs.length - (k + 1) := by rw [List.length_drop, HXM.out]
        have hrdo := HRL.out.keep hbw
        have hpoo := HPO2.out.keep (Below.next hw11 hbw)
        have hrt : Rd wo (some ⟨g, 0, none⟩) (fCells (q.take k)) := fun j x hj => hrdo j x (by
          have e := fCells_app (q.take k) (q.drop k)
          rw [List.take_append_drop] at e
          rw [e, List.getElem?_append_left (List.getElem?_eq_some_iff.1 hj).1]
          exact hj)
        have HRT := Lib.hid hrt
        have HPT := Lib.hid (show FOk wo (q.take k) from fun x hx => hpoo x (List.mem_of_mem_take hx))
        clear hrdo hpoo hrt
        go_wp2_with (at_builtin; refine wpList_appF _ rfl _ _ rfl wo.heap.size _ 0 [] rfl (World.ownsRow_nil _ _ _ _) ⟨g, 0, none⟩ c (q.take k) ?hx1 HRT.out HPT.out ?hn1 (Nat.le_refl _) ?_)
        case hx1 => rw [htl]; rfl
        case hn1 => rw [htl]; omega
        intro v12 w12 hown12 hgr12
        obtain ⟨O12, c12, rfl⟩ := ownsRow_slice hown12
        have hb12 : Below wo.heap.size wo w12 := (Below.refl _ _).grown hgr12 (Nat.le_refl _) (fun g hg => by simp [Value.ownBlock] at hg)
        clear hgr12
        have hpd : FOk w12 (q.drop (k + 1)) := fun x hx => (HPO2.out.keep (Below.next (Below.next hw11 hbw) hb12)) x (List.mem_of_mem_drop hx)
        have hrdd : Rd w12 (some ⟨g, (k + 1) * 2, none⟩) (fCells (q.drop (k + 1))) := fun j x hj => by
          have e := fCells_app (q.take (k + 1)) (q.drop (k + 1))
          rw [List.take_append_drop] at e
          have hl2 : (fCells (q.take (k + 1))).length = (k + 1) * 2 := by rw [fCells_len, List.length_take, HXM.out, Nat.min_eq_left (by omega)]
          obtain ⟨a1, e1, hc1⟩ := (HRL.out.keep (Below.next hbw hb12)) ((k + 1) * 2 + j) x (by rw [e, List.getElem?_append_right (by omega), hl2, Nat.add_sub_cancel_left]; exact hj)
          cases e1
          refine ⟨_, rfl, ?_⟩
          rw [← hc1]
          congr 1
          simp only [Addr.add]
          split <;> split <;> simp <;> omega
        have HPD := Lib.hid hpd
        have HRDD := Lib.hid hrdd
        have HDL := Lib.hid hdl
        have HO12 := Lib.hid hown12
        have hz12 := hb12.size
        clear hpd hrdd hdl htl hown12
        by_cases hcap : c = k + 1
        focus
          have hxk : xs.length = k + 1 := by omega
          have hd0 : q.drop (k + 1) = [] := List.eq_nil_of_length_eq_zero (by rw [HDL.out]; omega)
          have HD0 := Lib.hid hd0
          have HXK := Lib.hid (show xs.length - (k + 1) = 0 by omega)
          clear hd0 hxk
          subst hcap
          go_wp2_with (at_builtin; refine wpList_appF _ rfl _ _ rfl wo.heap.size (.slice O12 k c12) k (fCells (q.take k)) rfl HO12.out ⟨g, 0, none⟩ 0 (q.drop (k + 1)) ?hx2 ?hr2 HPD.out ?hn2' hz12 ?_)
          case hx2 => rw [HDL.out, HXK.out]; rfl
          case hr2 => rw [HD0.out]; exact Rd.nil _ _
          case hn2' => rw [HDL.out]; omega
        rotate_left
        focus
          go_wp2_with (at_builtin; refine wpList_appF _ rfl _ _ rfl wo.heap.size (.slice O12 k c12) k (fCells (q.take k)) rfl HO12.out ⟨g, (k + 1) * 2, none⟩ (c - (k + 1)) (q.drop (k + 1)) ?hx3 HRDD.out HPD.out ?hn3 hz12 ?_)
          case hx3 => rw [HDL.out]; rfl
          case hn3 => rw [HDL.out]; omega
        all_goals
          intro v13 w13 hown13 hgr13
          rw [← fCells_app, ← List.eraseIdx_eq_take_drop_succ] at hown13
          obtain ⟨m, hm⟩ : ∃ m, m = k + (q.length - (k + 1)) := ⟨_, rfl⟩
          rw [← hm] at hown13
          rw [HXM.out] at hm
          obtain ⟨O13, c13, rfl⟩ := ownsRow_slice hown13
          have hb13 : Below wo.heap.size wo w13 := hb12.grown hgr13 hz12 (fun g hg => (HO12.out.lt g hg).1)
          have hbw13 := Below.next hbw hb13
          have hokE : FOk w13 (q.eraseIdx k) := fun x hx => (HPO2.out.keep (Below.next hw11 hbw13)) x (List.mem_of_mem_eraseIdx hx)
          have hF13 := forms_of_own hown13 hokE
          rw [HMM.out k] at hF13
          have HF13 := Lib.hid hF13
          clear hF13 hokE hown13 hgr13 HRDD HPD HRT HPT
          by_cases hm0 : m = 0
          · have hmz : ((m : Int) == 0) = true := beq_iff_eq.2 (by omega)
            subst hm0
            clear hm hmz
            go_wp2
            go_roundw
            case rel => exact ⟨k + 1, by omega, by go_num, hbw13⟩
            case measure => simp [intOf]; omega
          · have hmz : ((m : Int) == 0) = false := beq_eq_false_iff_ne.2 (by omega)
            obtain ⟨g1, g2⟩ := HLESS.out k hlt (by omega)
            have HV13 := Lib.hid (show openVv ((q.map fun x : FV => x.1).eraseIdx k) u = .tuple #[.bool true, .nilIface] from openVv_ok g1 g2)
            clear hm g1 g2
            go_wp2_with fail
            refine (core_Open _ _ u _ HF13.out (HK.out.keep (by (repeat' (first | (with_reducible exact Below.refl _ _) | (with_reducible assumption) | (with_reducible refine Below.next ?_ (by with_reducible assumption)) | (with_reducible refine Below.drew ?_) | (with_reducible refine Below.laid ?_ _) | (with_reducible refine Below.setCell ?_ ?_ _) | (with_reducible refine size_of ?_) | (with_reducible refine Nat.le_succ_of_le ?_) | go_size))))).mono ?_
            rintro e w14 ⟨rfl, hb14⟩
            rw [HV13.out]
            have hbw14 := Below.next hbw13 hb14
            go_wp2
            go_roundw
            case rel => exact ⟨k + 1, by omega, by go_num, hbw14⟩
            case measure => simp [intOf]; omega
      · have hk' : k = xs.length := by omega
        subst hk'
        go_wp2
        go_ret
        exact ⟨rfl, Below.next hw11 hbw⟩


set_option maxHeartbeats 1000000 in
theorem coreEnough_walk (v : Value) (ls : List Venn.Form) (u th a b d : Int) (w : World) (hl : IsForms w v ls) (hk : KindsOk w) (het : EtOk w) :
    Calls Tryd.prog 3 #[v, .int .i64 u, .agg #[.int .i64 th, .int .i64 a, .int .i64 b, .int .i64 d]] w (Keeps (.bool true) w) := by
  by_cases hz : Venn.coreChk ls u = 0
  · exact coreEnough_ok v ls u th a b d w hl hk het hz
  · exact coreEnough_bad v ls u th a b d w hl hk het hz
end Go.Proofs.YtcbjmfljdmomhaaDoor
