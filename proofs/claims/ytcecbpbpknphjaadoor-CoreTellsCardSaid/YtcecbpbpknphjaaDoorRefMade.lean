/-
  THE WALKS of the reference's Made and Lies.
-/
import Derived.Test.YtcecbpbpknphjaaDoorRefTerm
import Derived.Test.YtcecbpbpknphjaaDoorFitFirst
import Derived.Test.YtcecbpbpknphjaaDoorVennP2
import Derived.StillTailTactics
namespace Go.Proofs.YtcecbpbpknphjaaDoor
open Go.RowKit

theorem orBit_has0 : ∀ (T : Fin 6) (s : Fin 64) (f : Fin 8), Venn.setChk (T.val : Nat) (s.val : Nat) = 0 → Venn.orBit (s.val : Nat) f.val 0 (T.val : Nat) = if Venn.bit (f.val : Nat) 0 = true then ((s.val : Nat) : Int) + ((2 ^ T.val : Nat) : Int) else ((s.val : Nat) : Int) := by decide +kernel
theorem orBit_has1 : ∀ (T : Fin 6) (s : Fin 64) (f : Fin 8), Venn.setChk (T.val : Nat) (s.val : Nat) = 0 → Venn.orBit (s.val : Nat) f.val 1 (T.val : Nat) = if Venn.bit (f.val : Nat) 1 = true then ((s.val : Nat) : Int) + ((2 ^ T.val : Nat) : Int) else ((s.val : Nat) : Int) := by decide +kernel
theorem orBit_has2 : ∀ (T : Fin 6) (s : Fin 64) (f : Fin 8), Venn.setChk (T.val : Nat) (s.val : Nat) = 0 → Venn.orBit (s.val : Nat) f.val 2 (T.val : Nat) = if Venn.bit (f.val : Nat) 2 = true then ((s.val : Nat) : Int) + ((2 ^ T.val : Nat) : Int) else ((s.val : Nat) : Int) := by decide +kernel
theorem orBit_has {T f : Nat} {s : Int} (hT : T ≤ 5) (hf : f < 8) (h : Venn.setChk (T : Int) s = 0) :
    Venn.orBit s f 0 (T : Int) = (if Venn.bit (f : Int) 0 = true then s + ((2 ^ T : Nat) : Int) else s) ∧ Venn.orBit s f 1 (T : Int) = (if Venn.bit (f : Int) 1 = true then s + ((2 ^ T : Nat) : Int) else s) ∧ Venn.orBit s f 2 (T : Int) = (if Venn.bit (f : Int) 2 = true then s + ((2 ^ T : Nat) : Int) else s) := by
  obtain ⟨_, S, _, rfl⟩ := Venn.small_of h
  exact ⟨orBit_has0 ⟨T, by omega⟩ S ⟨f, hf⟩ h, orBit_has1 ⟨T, by omega⟩ S ⟨f, hf⟩ h, orBit_has2 ⟨T, by omega⟩ S ⟨f, hf⟩ h⟩

/-- What lies while the reference makes a world. -/
structure RBlk (w wr : World) (box cs : Array Value) : Prop where
  below : Below w.heap.size w wr
  box : Blk wr w.heap.size 77 box
  res : Blk wr (w.heap.size + 1) 28 #[.int .i64 0, .int .i64 0, .int .i64 0, .int .i64 0]
  blk : Blk wr (w.heap.size + 1 + 1) 28 cs
theorem RBlk.drew {w wr : World} {box cs : Array Value} (h : RBlk w wr box cs) : RBlk w wr.drew box cs := ⟨h.below.drew, h.box.drew, h.res.drew, h.blk.drew⟩
theorem RBlk.store {w wr : World} {box cs : Array Value} (h : RBlk w wr box cs) (i : Nat) (u : Value) : RBlk w (wr.setCell ⟨w.heap.size + 1 + 1, i, none⟩ u) box (cs.setIfInBounds i u) :=
  ⟨h.below.setCell (p := ⟨w.heap.size + 1 + 1, i, none⟩) (by simp; omega) _, h.box.far (p := ⟨w.heap.size + 1 + 1, i, none⟩) (by simp; omega) _, h.res.far (p := ⟨w.heap.size + 1 + 1, i, none⟩) (by simp) _, h.blk.set_ i u⟩

/-- The cells while the names are gone through. -/
def namesAt (T a b c a' b' c' : Int) (k : Nat) : Array Value :=
  if k = 0 then #[.int .i64 T, .int .i64 a, .int .i64 b, .int .i64 c] else if k = 1 then #[.int .i64 T, .int .i64 a', .int .i64 b, .int .i64 c] else if k = 2 then #[.int .i64 T, .int .i64 a', .int .i64 b', .int .i64 c] else #[.int .i64 T, .int .i64 a', .int .i64 b', .int .i64 c']

set_option maxHeartbeats 4000000 in
set_option maxRecDepth 100000 in
theorem ref_Made (n0 n1 n2 n3 n4 n5 n6 n7 : Int) (w : World) (hp : ∀ x ∈ [n0, n1, n2, n3, n4, n5, n6, n7], 0 ≤ x) (hs : [n0, n1, n2, n3, n4, n5, n6, n7].sum ≤ 6) :
    Calls Tryd.prog 47 #[.agg #[.int .i64 n0, .int .i64 n1, .int .i64 n2, .int .i64 n3, .int .i64 n4, .int .i64 n5, .int .i64 n6, .int .i64 n7]] w
      (Keeps (.agg #[.int .i64 (Venn.made [n0, n1, n2, n3, n4, n5, n6, n7]).things, .int .i64 (Venn.made [n0, n1, n2, n3, n4, n5, n6, n7]).a, .int .i64 (Venn.made [n0, n1, n2, n3, n4, n5, n6, n7]).b, .int .i64 (Venn.made [n0, n1, n2, n3, n4, n5, n6, n7]).c]) w) := by
  generalize hl : [n0, n1, n2, n3, n4, n5, n6, n7] = l at hp hs ⊢
  obtain ⟨bx, hbx⟩ : ∃ bx : Array Value, bx = #[.int .i64 n0, .int .i64 n1, .int .i64 n2, .int .i64 n3, .int .i64 n4, .int .i64 n5, .int .i64 n6, .int .i64 n7] := ⟨_, rfl⟩
  have hidx : ∀ k (h : k < l.length), bx[k]? = some (.int .i64 l[k]) := by
    intro k hk
    subst hl hbx
    simp only [List.length_cons, List.length_nil] at hk
    rcases (by omega : k = 0 ∨ k = 1 ∨ k = 2 ∨ k = 3 ∨ k = 4 ∨ k = 5 ∨ k = 6 ∨ k = 7) with rfl | rfl | rfl | rfl | rfl | rfl | rfl | rfl
    all_goals rfl
  have hlen : l.length = 8 := by subst hl; rfl
  have HI := Lib.hid hidx
  have HP := Lib.hid hp
  have HBX := Lib.hid hbx
  clear hl hidx hp hbx
  go_enter Tryd.func47, Tryd.ntmps47
  go_wp2
  have hpre : ∀ k (h : k < l.length), 0 ≤ l[k] := fun k h => HP.out _ (List.getElem_mem h)
  have HPR := Lib.hid hpre; clear hpre
  go_loopw [4] (fun i wr => ∃ (k : Nat) (W : Venn.World), k ≤ 8 ∧ i = .int .i64 k ∧ RBlk w wr bx #[.int .i64 W.things, .int .i64 W.a, .int .i64 W.b, .int .i64 W.c] ∧ Venn.worldChk W = 0 ∧ W.things + (l.drop k).sum ≤ 6 ∧ Venn.madeGo k (l.drop k) W = Venn.made l)
    (fun i _ => 8 - (intOf i).toNat)
  case atStart =>
    exact ⟨0, ⟨0, 0, 0, 0⟩, by omega, rfl, ⟨by (repeat' (first | (with_reducible exact Below.refl _ _) | (with_reducible assumption) | (with_reducible refine Below.next ?_ (by with_reducible assumption)) | (with_reducible refine Below.drew ?_) | (with_reducible refine Below.laid ?_ _) | (with_reducible refine Below.setCell ?_ ?_ _) | (with_reducible refine size_of ?_) | (with_reducible refine Nat.le_succ_of_le ?_) | go_size)), by rw [HBX.out]; exact ((Blk.new _ _ _).alloc _).alloc _, (Blk.newAt (by simp) _ _).alloc _, Blk.newAt (by simp) _ _⟩, by decide, by simpa using hs, rfl⟩
  case round =>
    obtain ⟨k, W, hk, rfl, hinv, hchk, hsum, hgo⟩ := hrel
    obtain ⟨wo, rfl⟩ : ∃ wo : World, wo = wr := ⟨_, rfl⟩
    have HG := Lib.hid hgo; clear hgo
    by_cases hlt : k < 8
    · have hkl : k < l.length := by omega
      have HD := Lib.hid (List.drop_eq_getElem_cons hkl)
      have hx0 := HPR.out k hkl
      have hbox := HI.out k hkl
      generalize l[k] = x at hbox HD hx0
      obtain ⟨n, rfl⟩ := Int.eq_ofNat_of_zero_le hx0
      rw [HD.out, List.sum_cons] at hsum
      have hk1 : (k : Int) < 8 := by omega
      have hk0 : (0 : Int) ≤ (k : Int) := by omega
      have hrest0 : 0 ≤ (l.drop (k + 1)).sum := Venn.sum_nonneg _ fun x hx => HP.out x (List.mem_of_mem_drop hx)
      have ht0 : 0 ≤ W.things := by have := (Venn.worldChk_iff.1 hchk).1; simp only [Venn.things, Bool.and_eq_true, decide_eq_true_eq] at this; exact this.1
      have hn6 : n ≤ 6 := by omega
      have HBOX := Lib.hid hbox
      clear hbox
      go_wp2
      go_loopw [5] (fun i wr => ∃ (j : Nat) (W' : Venn.World), j ≤ n ∧ i = .int .i64 j ∧ RBlk w wr bx #[.int .i64 W'.things, .int .i64 W'.a, .int .i64 W'.b, .int .i64 W'.c] ∧ Venn.worldChk W' = 0 ∧ W'.things + (n - j : Nat) = W.things + n ∧ Venn.addMany k (n - j) W' = Venn.addMany k n W)
        (fun i _ => n - (intOf i).toNat)
      case atStart => exact ⟨0, W, by omega, rfl, hinv, hchk, by simp, by simp⟩
      case round =>
        obtain ⟨j, W', hj, rfl, hin, hc', hth, hadd⟩ := hrel
        obtain ⟨wi, rfl⟩ : ∃ wi : World, wi = wr := ⟨_, rfl⟩
        have HA := Lib.hid hadd; clear hadd
        have hcell : wi.cell? ⟨w.heap.size, k, none⟩ = some (.int .i64 (n : Int)) := (hin.box.cell k).trans HBOX.out
        have hlb := hin.box.lt
        have hj6 : (j : Int) ≤ 6 := by omega
        by_cases hjn : j < n
        · have hjn' : (j : Int) < (n : Int) := by omega
          obtain ⟨h0, ra, rb, rc⟩ := Venn.worldChk_iff.1 hc'
          simp only [Venn.things, Bool.and_eq_true, decide_eq_true_eq] at h0
          have HCN := Lib.hid (Venn.addThing_right (k := k) (by omega) hc' (by omega))
          have HTN := Lib.hid (show (Venn.addThing k W').things = W'.things + 1 from rfl)
          have HADD := Lib.hid (show Venn.addMany k (n - (j + 1)) (Venn.addThing k W') = Venn.addMany k n W by rw [← HA.out, show n - j = (n - (j + 1)) + 1 by omega]; rfl)
          obtain ⟨T0, a, b, c⟩ := W'
          simp only at hin h0 ra rb rc hth HCN HTN HADD
          obtain ⟨T, rfl⟩ := Int.eq_ofNat_of_zero_le h0.1
          have hT5 : T ≤ 5 := by omega
          have HOA := Lib.hid (orBit_has hT5 hlt ra).1
          have HOB := Lib.hid (orBit_has hT5 hlt rb).2.1
          have HOC := Lib.hid (orBit_has hT5 hlt rc).2.2
          have ba := setChk_63 ra
          have bb := setChk_63 rb
          have bc := setChk_63 rc
          have h2 : 2 ^ T ≤ 2 ^ 6 := Nat.pow_le_pow_right (by omega) (by omega)
          have HPW := Lib.hid (fun W => ref_Power (T : Int) W (by omega))
          rw [Int.toNat_natCast] at HPW
          simp only [Venn.addThing] at HCN HTN HADD
          clear hc' ra rb rc
          have HHAS := Lib.hid (fun (nm : Int) (hnm : 0 ≤ nm ∧ nm ≤ 5) W => ref_Has (k : Int) nm W (by omega) hnm)
          generalize Venn.orBit a k 0 (T : Int) = a' at HOA HCN HADD
          generalize Venn.orBit b k 1 (T : Int) = b' at HOB HCN HADD
          generalize Venn.orBit c k 2 (T : Int) = c' at HOC HCN HADD
          generalize 2 ^ T = P2 at HPW HOA HOB HOC h2
          have hwa : IntKind.i64.wrap (a + (P2 : Int)) = a + (P2 : Int) := IntWalk.i64_in _ (by omega)
          have hwb : IntKind.i64.wrap (b + (P2 : Int)) = b + (P2 : Int) := IntWalk.i64_in _ (by omega)
          have hwc : IntKind.i64.wrap (c + (P2 : Int)) = c + (P2 : Int) := IntWalk.i64_in _ (by omega)
          go_wp2
          go_loopw [6] (fun kk wr => ∃ q : Nat, q ≤ 3 ∧ kk = .int .i64 q ∧ RBlk w wr bx (namesAt T a b c a' b' c' q)) (fun kk _ => 3 - (intOf kk).toNat)
          case atStart => exact ⟨0, by omega, rfl, hin⟩
          case round =>
            clear hcell hlb
            obtain ⟨q, hq, rfl, hB⟩ := hrel
            obtain ⟨wk, rfl⟩ : ∃ wk : World, wk = wr := ⟨_, rfl⟩
            rcases (by omega : q = 0 ∨ q = 1 ∨ q = 2 ∨ q = 3) with rfl | rfl | rfl | rfl
            · have B : RBlk w wk bx #[.int .i64 T, .int .i64 a, .int .i64 b, .int .i64 c] := hB
              clear hB
              obtain ⟨c0, c1, c2, c3⟩ := B.blk.cells4
              have f1 := B.blk.frozen 1
              cases hbt : Venn.bit (k : Int) 0
              · have HB := Lib.hid hbt
                have HE := Lib.hid (show a' = a by rw [HOA.out, hbt]; rfl)
                clear hbt
                go_wp2_with (go_at_call 55; refine (HHAS.out _ (by decide) _).mono ?_; rintro e w' ⟨rfl, rfl⟩; rw [show Venn.bit (k : Int) (0 : Int).toNat = false from HB.out])
                go_roundw
                case rel => exact ⟨1, by omega, by go_num, by show RBlk w _ bx #[.int .i64 T, .int .i64 a', .int .i64 b, .int .i64 c]; rw [HE.out]; exact B⟩
                case measure => simp [intOf]
              · have HB := Lib.hid hbt
                have HE := Lib.hid (show a' = a + (P2 : Int) by rw [HOA.out, hbt]; rfl)
                clear hbt
                go_wp2_with (go_at_call 55; refine (HHAS.out _ (by decide) _).mono ?_; rintro e w' ⟨rfl, rfl⟩; rw [show Venn.bit (k : Int) (0 : Int).toNat = true from HB.out])
                go_still_tail 11, (by kernel_rfl)
                first
                  | still_call (Pure.still (HPW.out _))
                  | refine ⟨_, Pure.still (HPW.out _), ?_⟩
                repeat still_step
                refine wpStill_nil ?_
                go_wp2
                have B2 := B.drew.store 1 (.int .i64 (a + (P2 : Int)))
                simp only [List.setIfInBounds_toArray, List.set_cons_zero, List.set_cons_succ] at B2
                go_roundw
                case rel => exact ⟨1, by omega, by go_num, by show RBlk w _ bx #[.int .i64 T, .int .i64 a', .int .i64 b, .int .i64 c]; rw [HE.out]; exact B2⟩
                case measure => simp [intOf]
            · have B : RBlk w wk bx #[.int .i64 T, .int .i64 a', .int .i64 b, .int .i64 c] := hB
              clear hB
              obtain ⟨c0, c1, c2, c3⟩ := B.blk.cells4
              have f1 := B.blk.frozen 2
              cases hbt : Venn.bit (k : Int) 1
              · have HB := Lib.hid hbt
                have HE := Lib.hid (show b' = b by rw [HOB.out, hbt]; rfl)
                clear hbt
                go_wp2_with (go_at_call 55; refine (HHAS.out _ (by decide) _).mono ?_; rintro e w' ⟨rfl, rfl⟩; rw [show Venn.bit (k : Int) (1 : Int).toNat = false from HB.out])
                go_roundw
                case rel => exact ⟨2, by omega, by go_num, by show RBlk w _ bx #[.int .i64 T, .int .i64 a', .int .i64 b', .int .i64 c]; rw [HE.out]; exact B⟩
                case measure => simp [intOf]
              · have HB := Lib.hid hbt
                have HE := Lib.hid (show b' = b + (P2 : Int) by rw [HOB.out, hbt]; rfl)
                clear hbt
                go_wp2_with (go_at_call 55; refine (HHAS.out _ (by decide) _).mono ?_; rintro e w' ⟨rfl, rfl⟩; rw [show Venn.bit (k : Int) (1 : Int).toNat = true from HB.out])
                go_still_tail 11, (by kernel_rfl)
                first
                  | still_call (Pure.still (HPW.out _))
                  | refine ⟨_, Pure.still (HPW.out _), ?_⟩
                repeat still_step
                refine wpStill_nil ?_
                go_wp2
                have B2 := B.drew.store 2 (.int .i64 (b + (P2 : Int)))
                simp only [List.setIfInBounds_toArray, List.set_cons_zero, List.set_cons_succ] at B2
                go_roundw
                case rel => exact ⟨2, by omega, by go_num, by show RBlk w _ bx #[.int .i64 T, .int .i64 a', .int .i64 b', .int .i64 c]; rw [HE.out]; exact B2⟩
                case measure => simp [intOf]
            · have B : RBlk w wk bx #[.int .i64 T, .int .i64 a', .int .i64 b', .int .i64 c] := hB
              clear hB
              obtain ⟨c0, c1, c2, c3⟩ := B.blk.cells4
              have f1 := B.blk.frozen 3
              cases hbt : Venn.bit (k : Int) 2
              · have HB := Lib.hid hbt
                have HE := Lib.hid (show c' = c by rw [HOC.out, hbt]; rfl)
                clear hbt
                go_wp2_with (go_at_call 55; refine (HHAS.out _ (by decide) _).mono ?_; rintro e w' ⟨rfl, rfl⟩; rw [show Venn.bit (k : Int) (2 : Int).toNat = false from HB.out])
                go_roundw
                case rel => exact ⟨3, by omega, by go_num, by show RBlk w _ bx #[.int .i64 T, .int .i64 a', .int .i64 b', .int .i64 c']; rw [HE.out]; exact B⟩
                case measure => simp [intOf]
              · have HB := Lib.hid hbt
                have HE := Lib.hid (show c' = c + (P2 : Int) by rw [HOC.out, hbt]; rfl)
                clear hbt
                go_wp2_with (go_at_call 55; refine (HHAS.out _ (by decide) _).mono ?_; rintro e w' ⟨rfl, rfl⟩; rw [show Venn.bit (k : Int) (2 : Int).toNat = true from HB.out])
                go_still_tail 11, (by kernel_rfl)
                first
                  | still_call (Pure.still (HPW.out _))
                  | refine ⟨_, Pure.still (HPW.out _), ?_⟩
                repeat still_step
                refine wpStill_nil ?_
                go_wp2
                have B2 := B.drew.store 3 (.int .i64 (c + (P2 : Int)))
                simp only [List.setIfInBounds_toArray, List.set_cons_zero, List.set_cons_succ] at B2
                go_roundw
                case rel => exact ⟨3, by omega, by go_num, by show RBlk w _ bx #[.int .i64 T, .int .i64 a', .int .i64 b', .int .i64 c']; rw [HE.out]; exact B2⟩
                case measure => simp [intOf]
            · have B : RBlk w wk bx #[.int .i64 T, .int .i64 a', .int .i64 b', .int .i64 c'] := hB
              clear hB
              obtain ⟨c0, c1, c2, c3⟩ := B.blk.cells4
              have f0 := B.blk.frozen 0
              have hwt : IntKind.i64.wrap ((T : Int) + 1) = (T : Int) + 1 := IntWalk.i64_in _ (by omega)
              go_wp2
              have B2 := B.store 0 (.int .i64 ((T : Int) + 1))
              simp only [List.setIfInBounds_toArray, List.set_cons_zero] at B2
              go_roundw
              case rel => exact ⟨j + 1, ⟨(T : Int) + 1, a', b', c'⟩, by omega, by go_num, B2, HCN.out, by simp only; omega, HADD.out⟩
              case measure => simp [intOf]; omega
        · have hjn' : j = n := by omega
          subst hjn'
          rw [Nat.sub_self] at HA hth
          have hnn : ¬ (j : Int) < (j : Int) := by omega
          go_wp2
          go_roundw
          case rel =>
            refine ⟨k + 1, W', by omega, by go_num, hin, hc', by omega, ?_⟩
            rw [← HG.out, HD.out, Venn.madeGo, Int.toNat_natCast, ← HA.out]
            rfl
          case measure => simp [intOf]; omega
    · have hk8 : k = 8 := by omega
      subst hk8
      have hG := HG.out
      rw [List.drop_eq_nil_of_le (by omega)] at hG
      have hW := Lib.hid (show W = Venn.made l from hG)
      obtain ⟨c0, c1, c2, c3⟩ := hinv.blk.cells4
      obtain ⟨d0, d1, d2, d3⟩ := hinv.res.cells4
      have f0 := hinv.res.frozen 0
      have f1 := hinv.res.frozen 1
      have f2 := hinv.res.frozen 2
      have f3 := hinv.res.frozen 3
      have HIN := Lib.hid hinv
      clear hG hinv HI HP HPR
      go_wp2
      refine bodyPost_ret (v := .agg #[.int .i64 W.things, .int .i64 W.a, .int .i64 W.b, .int .i64 W.c]) (by simp [results, Tryd.results47, go_sem, d0, d1, d2, d3]) rfl ⟨by rw [hW.out], ?_⟩
      exact (((HIN.out.below.setCell (p := ⟨w.heap.size + 1, 0, none⟩) (by simp) _).setCell (p := ⟨w.heap.size + 1, 1, none⟩) (by simp) _).setCell (p := ⟨w.heap.size + 1, 2, none⟩) (by simp) _).setCell (p := ⟨w.heap.size + 1, 3, none⟩) (by simp) _

/-- A list of a single 1. -/
def unitL (f : Nat) : List Int := (List.replicate 8 (0 : Int)).set f 1
theorem made_unit : ∀ f : Fin 8, Venn.made (unitL f.val) = ⟨1, ((f.val % 2 : Nat) : Int), ((f.val / 2 % 2 : Nat) : Int), ((f.val / 4 % 2 : Nat) : Int)⟩ := by
  intro f
  rcases (by omega : f.val = 0 ∨ f.val = 1 ∨ f.val = 2 ∨ f.val = 3 ∨ f.val = 4 ∨ f.val = 5 ∨ f.val = 6 ∨ f.val = 7) with h | h | h | h | h | h | h | h
  all_goals rw [h]; rfl
theorem lies_bit (t : List Int) (f : Nat) : Venn.lies t f = if Venn.bit (Venn.lies t f) 0 = true then 1 else 0 := by
  rcases (by have := Venn.lies_01 t f; omega : Venn.lies t f = 0 ∨ Venn.lies t f = 1) with h | h <;> rw [h] <;> decide
end Go.Proofs.YtcecbpbpknphjaaDoor
