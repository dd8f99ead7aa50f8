/-
  THE WALK of fields.Made: the world of so many in each field.
-/
import Derived.Test.YtpcdiilgomfpbaaDoorSets
import Derived.Test.YtpcdiilgomfpbaaDoorMem
import Derived.Test.YtpcdiilgomfpbaaDoorVennL
import Derived.StillTailTactics
namespace Go.Proofs.YtpcdiilgomfpbaaDoor
open Go.RowKit

/-- Between two things: the world so far lies in its block. -/
structure MadeInv (w wr : World) (W : Venn.World) : Prop where
  below : Below w.heap.size w wr
  res : Blk wr (w.heap.size + 1) 41 #[.int .i64 0, .int .i64 0, .int .i64 0, .int .i64 0]
  blk : Blk wr (w.heap.size + 1 + 1) 41 #[.int .i64 W.things, .int .i64 W.a, .int .i64 W.b, .int .i64 W.c]
  t0 : 0 ≤ W.things
  a63 : 0 ≤ W.a ∧ W.a ≤ 63
  b63 : 0 ≤ W.b ∧ W.b ≤ 63
  c63 : 0 ≤ W.c ∧ W.c ≤ 63

/-- What lies between two stores. -/
structure MadeBlk (w wr : World) (cs : Array Value) : Prop where
  below : Below w.heap.size w wr
  res : Blk wr (w.heap.size + 1) 41 #[.int .i64 0, .int .i64 0, .int .i64 0, .int .i64 0]
  blk : Blk wr (w.heap.size + 1 + 1) 41 cs
theorem MadeBlk.put {w wr : World} {cs : Array Value} (h : MadeBlk w wr cs) (i : Nat) (u : Value) : MadeBlk w (wr.setCell ⟨w.heap.size + 1 + 1, i, none⟩ u).drew (cs.setIfInBounds i u) :=
  ⟨(h.below.setCell (p := ⟨w.heap.size + 1 + 1, i, none⟩) (by simp; omega) _).drew, (h.res.far (p := ⟨w.heap.size + 1 + 1, i, none⟩) (by simp) _).drew, (h.blk.set_ i u).drew⟩
theorem MadeBlk.store {w wr : World} {cs : Array Value} (h : MadeBlk w wr cs) (i : Nat) (u : Value) : MadeBlk w (wr.setCell ⟨w.heap.size + 1 + 1, i, none⟩ u) (cs.setIfInBounds i u) :=
  ⟨h.below.setCell (p := ⟨w.heap.size + 1 + 1, i, none⟩) (by simp; omega) _, h.res.far (p := ⟨w.heap.size + 1 + 1, i, none⟩) (by simp) _, h.blk.set_ i u⟩
theorem MadeBlk.cells {w wr : World} {x0 x1 x2 x3 : Value} (h : MadeBlk w wr #[x0, x1, x2, x3]) :
    (wr.cell? ⟨w.heap.size + 1 + 1, 0, none⟩ = some x0 ∧ wr.cell? ⟨w.heap.size + 1 + 1, 1, none⟩ = some x1 ∧ wr.cell? ⟨w.heap.size + 1 + 1, 2, none⟩ = some x2 ∧ wr.cell? ⟨w.heap.size + 1 + 1, 3, none⟩ = some x3) ∧
    (wr.frozen? ⟨w.heap.size + 1 + 1, 0, none⟩ = false ∧ wr.frozen? ⟨w.heap.size + 1 + 1, 1, none⟩ = false ∧ wr.frozen? ⟨w.heap.size + 1 + 1, 2, none⟩ = false ∧ wr.frozen? ⟨w.heap.size + 1 + 1, 3, none⟩ = false) :=
  ⟨⟨h.blk.cell 0, h.blk.cell 1, h.blk.cell 2, h.blk.cell 3⟩, h.blk.frozen 0, h.blk.frozen 1, h.blk.frozen 2, h.blk.frozen 3⟩

theorem or_small0 : ∀ (k : Fin 8) (T : Fin 6) (s : Fin 64), bits .or .i64 (s.val : Int) (wrap64 (bits .and .i64 (k.val : Int) 1 * 2 ^ T.val)) = Venn.orBit s.val k.val 0 T.val ∧ Venn.orBit s.val k.val 0 T.val ≤ 63 := by decide +kernel
theorem or_small1 : ∀ (k : Fin 8) (T : Fin 6) (s : Fin 64), bits .or .i64 (s.val : Int) (wrap64 (bits .and .i64 ((k.val : Int) / 2) 1 * 2 ^ T.val)) = Venn.orBit s.val k.val 1 T.val ∧ Venn.orBit s.val k.val 1 T.val ≤ 63 := by decide +kernel
theorem or_small2 : ∀ (k : Fin 8) (T : Fin 6) (s : Fin 64), bits .or .i64 (s.val : Int) (wrap64 (bits .and .i64 ((k.val : Int) / 4) 1 * 2 ^ T.val)) = Venn.orBit s.val k.val 2 T.val ∧ Venn.orBit s.val k.val 2 T.val ≤ 63 := by decide +kernel
theorem or_bit0 {k T : Nat} {s : Int} (hk : k < 8) (hT : T ≤ 5) (hs : 0 ≤ s ∧ s ≤ 63) : bits .or .i64 s (wrap64 (bits .and .i64 (k : Int) 1 * 2 ^ T)) = Venn.orBit s k 0 T ∧ Venn.orBit s k 0 T ≤ 63 := by
  obtain ⟨S, rfl⟩ := Int.eq_ofNat_of_zero_le hs.1
  exact or_small0 ⟨k, hk⟩ ⟨T, by omega⟩ ⟨S, by omega⟩
theorem or_bit1 {k T : Nat} {s : Int} (hk : k < 8) (hT : T ≤ 5) (hs : 0 ≤ s ∧ s ≤ 63) : bits .or .i64 s (wrap64 (bits .and .i64 ((k : Int) / 2) 1 * 2 ^ T)) = Venn.orBit s k 1 T ∧ Venn.orBit s k 1 T ≤ 63 := by
  obtain ⟨S, rfl⟩ := Int.eq_ofNat_of_zero_le hs.1
  exact or_small1 ⟨k, hk⟩ ⟨T, by omega⟩ ⟨S, by omega⟩
theorem or_bit2 {k T : Nat} {s : Int} (hk : k < 8) (hT : T ≤ 5) (hs : 0 ≤ s ∧ s ≤ 63) : bits .or .i64 s (wrap64 (bits .and .i64 ((k : Int) / 4) 1 * 2 ^ T)) = Venn.orBit s k 2 T ∧ Venn.orBit s k 2 T ≤ 63 := by
  obtain ⟨S, rfl⟩ := Int.eq_ofNat_of_zero_le hs.1
  exact or_small2 ⟨k, hk⟩ ⟨T, by omega⟩ ⟨S, by omega⟩
theorem orBit_nonneg (s : Int) (k nm : Nat) (t : Int) : 0 ≤ Venn.orBit s k nm t := by unfold Venn.orBit; omega

/-- Eight counts as a value. -/
def cntV (l : List Int) : Value := .agg (l.map (Value.int .i64)).toArray

theorem idx8_0 (n0 n1 n2 n3 n4 n5 n6 n7 : Int) (W : World) : (Instr.index 23 (.agg #[.int .i64 n0, .int .i64 n1, .int .i64 n2, .int .i64 n3, .int .i64 n4, .int .i64 n5, .int .i64 n6, .int .i64 n7]) (.int .i64 0)).run Tryd.prog W = .ok (.int .i64 n0) W := by kernel_rfl
theorem idx8_1 (n0 n1 n2 n3 n4 n5 n6 n7 : Int) (W : World) : (Instr.index 23 (.agg #[.int .i64 n0, .int .i64 n1, .int .i64 n2, .int .i64 n3, .int .i64 n4, .int .i64 n5, .int .i64 n6, .int .i64 n7]) (.int .i64 1)).run Tryd.prog W = .ok (.int .i64 n1) W := by kernel_rfl
theorem idx8_2 (n0 n1 n2 n3 n4 n5 n6 n7 : Int) (W : World) : (Instr.index 23 (.agg #[.int .i64 n0, .int .i64 n1, .int .i64 n2, .int .i64 n3, .int .i64 n4, .int .i64 n5, .int .i64 n6, .int .i64 n7]) (.int .i64 2)).run Tryd.prog W = .ok (.int .i64 n2) W := by kernel_rfl
theorem idx8_3 (n0 n1 n2 n3 n4 n5 n6 n7 : Int) (W : World) : (Instr.index 23 (.agg #[.int .i64 n0, .int .i64 n1, .int .i64 n2, .int .i64 n3, .int .i64 n4, .int .i64 n5, .int .i64 n6, .int .i64 n7]) (.int .i64 3)).run Tryd.prog W = .ok (.int .i64 n3) W := by kernel_rfl
theorem idx8_4 (n0 n1 n2 n3 n4 n5 n6 n7 : Int) (W : World) : (Instr.index 23 (.agg #[.int .i64 n0, .int .i64 n1, .int .i64 n2, .int .i64 n3, .int .i64 n4, .int .i64 n5, .int .i64 n6, .int .i64 n7]) (.int .i64 4)).run Tryd.prog W = .ok (.int .i64 n4) W := by kernel_rfl
theorem idx8_5 (n0 n1 n2 n3 n4 n5 n6 n7 : Int) (W : World) : (Instr.index 23 (.agg #[.int .i64 n0, .int .i64 n1, .int .i64 n2, .int .i64 n3, .int .i64 n4, .int .i64 n5, .int .i64 n6, .int .i64 n7]) (.int .i64 5)).run Tryd.prog W = .ok (.int .i64 n5) W := by kernel_rfl
theorem idx8_6 (n0 n1 n2 n3 n4 n5 n6 n7 : Int) (W : World) : (Instr.index 23 (.agg #[.int .i64 n0, .int .i64 n1, .int .i64 n2, .int .i64 n3, .int .i64 n4, .int .i64 n5, .int .i64 n6, .int .i64 n7]) (.int .i64 6)).run Tryd.prog W = .ok (.int .i64 n6) W := by kernel_rfl
theorem idx8_7 (n0 n1 n2 n3 n4 n5 n6 n7 : Int) (W : World) : (Instr.index 23 (.agg #[.int .i64 n0, .int .i64 n1, .int .i64 n2, .int .i64 n3, .int .i64 n4, .int .i64 n5, .int .i64 n6, .int .i64 n7]) (.int .i64 7)).run Tryd.prog W = .ok (.int .i64 n7) W := by kernel_rfl
theorem idx8 (n0 n1 n2 n3 n4 n5 n6 n7 : Int) (k : Nat) (W : World) (hk : k < 8) : (Instr.index 23 (.agg #[.int .i64 n0, .int .i64 n1, .int .i64 n2, .int .i64 n3, .int .i64 n4, .int .i64 n5, .int .i64 n6, .int .i64 n7]) (.int .i64 (k : Int))).run Tryd.prog W = .ok (.int .i64 ([n0, n1, n2, n3, n4, n5, n6, n7][k]?.getD 0)) W := by
  obtain rfl | rfl | rfl | rfl | rfl | rfl | rfl | rfl : k = 0 ∨ k = 1 ∨ k = 2 ∨ k = 3 ∨ k = 4 ∨ k = 5 ∨ k = 6 ∨ k = 7 := by omega
  · exact idx8_0 n0 n1 n2 n3 n4 n5 n6 n7 W
  · exact idx8_1 n0 n1 n2 n3 n4 n5 n6 n7 W
  · exact idx8_2 n0 n1 n2 n3 n4 n5 n6 n7 W
  · exact idx8_3 n0 n1 n2 n3 n4 n5 n6 n7 W
  · exact idx8_4 n0 n1 n2 n3 n4 n5 n6 n7 W
  · exact idx8_5 n0 n1 n2 n3 n4 n5 n6 n7 W
  · exact idx8_6 n0 n1 n2 n3 n4 n5 n6 n7 W
  · exact idx8_7 n0 n1 n2 n3 n4 n5 n6 n7 W

set_option maxHeartbeats 4000000 in
set_option maxRecDepth 100000 in
theorem fields_Made (n0 n1 n2 n3 n4 n5 n6 n7 : Int) (w : World) (hp : ∀ x ∈ [n0, n1, n2, n3, n4, n5, n6, n7], 0 ≤ x) (hs : [n0, n1, n2, n3, n4, n5, n6, n7].sum ≤ 6) :
    Calls Tryd.prog 76 #[.agg #[.int .i64 n0, .int .i64 n1, .int .i64 n2, .int .i64 n3, .int .i64 n4, .int .i64 n5, .int .i64 n6, .int .i64 n7]] w
      (Keeps (.agg #[.int .i64 (Venn.made [n0, n1, n2, n3, n4, n5, n6, n7]).things, .int .i64 (Venn.made [n0, n1, n2, n3, n4, n5, n6, n7]).a, .int .i64 (Venn.made [n0, n1, n2, n3, n4, n5, n6, n7]).b, .int .i64 (Venn.made [n0, n1, n2, n3, n4, n5, n6, n7]).c]) w) := by
  generalize hl : [n0, n1, n2, n3, n4, n5, n6, n7] = l at hp hs
  have hidx : ∀ (k : Nat) (W : World), k < 8 → (Instr.index 23 (.agg #[.int .i64 n0, .int .i64 n1, .int .i64 n2, .int .i64 n3, .int .i64 n4, .int .i64 n5, .int .i64 n6, .int .i64 n7]) (.int .i64 (k : Int))).run Tryd.prog W = .ok (.int .i64 (l[k]?.getD 0)) W := by
    intro k W hk
    subst hl
    exact idx8 _ _ _ _ _ _ _ _ k W hk
  have hlen : l.length = 8 := by subst hl; rfl
  have HL := Lib.hid hl
  have HI := Lib.hid hidx
  have HP := Lib.hid hp
  clear hl hidx hp
  go_enter Tryd.func76, Tryd.ntmps76
  go_wp2
  have hpre : ∀ k (h : k < l.length), 0 ≤ l[k] := fun k h => HP.out _ (List.getElem_mem h)
  have HPR := Lib.hid hpre; clear hpre
  go_loopw [8] (fun i wr => ∃ (k : Nat) (W : Venn.World), k ≤ 8 ∧ i = .int .i64 k ∧ MadeInv w wr W ∧ W.things + (l.drop k).sum ≤ 6 ∧ Venn.madeGo k (l.drop k) W = Venn.made l)
    (fun i _ => 8 - (intOf i).toNat)
  case atStart =>
    exact ⟨0, ⟨0, 0, 0, 0⟩, by omega, rfl, ⟨by go_grown, (Blk.newAt (by simp) _ _).alloc _, Blk.newAt (by simp) _ _, by decide, by decide, by decide, by decide⟩, by simpa using hs, rfl⟩
  case round =>
    obtain ⟨k, W, hk, rfl, hinv, hsum, hgo⟩ := hrel
    obtain ⟨wo, rfl⟩ : ∃ wo : World, wo = wr := ⟨_, rfl⟩
    have HG := Lib.hid hgo; clear hgo
    by_cases hlt : k < 8
    · have hix := HI.out k wo hlt
      have hkl : k < l.length := by omega
      have HD := Lib.hid (List.drop_eq_getElem_cons hkl)
      have hx0 := HPR.out k hkl
      rw [List.getElem?_eq_getElem hkl, Option.getD_some] at hix
      generalize l[k] = x at hix HD hx0
      obtain ⟨n, rfl⟩ := Int.eq_ofNat_of_zero_le hx0
      rw [HD.out, List.sum_cons] at hsum
      have hdec : decide ((k : Int) < 8) = true := by simp; omega
      have hrest0 : 0 ≤ (l.drop (k + 1)).sum := Venn.sum_nonneg _ fun x hx => HP.out x (List.mem_of_mem_drop hx)
      go_wp2
      have hn6 : n ≤ 6 := by have := hinv.t0; omega
      go_loopw [13] (fun i wr => ∃ (j : Nat) (W' : Venn.World), j ≤ n ∧ i = .int .i64 j ∧ MadeInv w wr W' ∧ W'.things + (n - j : Nat) = W.things + n ∧ Venn.addMany k (n - j) W' = Venn.addMany k n W)
        (fun i _ => n - (intOf i).toNat)
      case atStart => exact ⟨0, W, by omega, rfl, hinv, by simp, by simp⟩
      case round =>
        obtain ⟨j, W', hj, rfl, hin, hth, hadd⟩ := hrel
        obtain ⟨wi, rfl⟩ : ∃ wi : World, wi = wr := ⟨_, rfl⟩
        have HA := Lib.hid hadd; clear hadd
        have HIN := Lib.hid hin
        have hj6 : (j : Int) ≤ 6 := by omega
        by_cases hjn : j < n
        · have ht0 := hin.t0
          obtain ⟨T, hT⟩ := Int.eq_ofNat_of_zero_le ht0
          have c0 := hin.blk.cell 0
          have c1 := hin.blk.cell 1
          have c2 := hin.blk.cell 2
          have c3 := hin.blk.cell 3
          have f0 := hin.blk.frozen 0
          have f1 := hin.blk.frozen 1
          have f2 := hin.blk.frozen 2
          have f3 := hin.blk.frozen 3
          simp at c0 c1 c2 c3
          have hT5 : T ≤ 5 := by omega
          rw [hT] at c0
          have HTH := Lib.hid hth
          have HT := Lib.hid hT; clear hT hin hinv ht0 hth
          go_wp2
          have q0 : MadeBlk w wi #[.int .i64 T, .int .i64 W'.a, .int .i64 W'.b, .int .i64 W'.c] := ⟨HIN.out.below, HIN.out.res, by rw [← HT.out]; exact HIN.out.blk⟩
          clear c0 c1 c2 c3 f0 f1 f2 f3
          have E1 := Lib.hid (or_bit0 hlt hT5 HIN.out.a63)
          have E2 := Lib.hid (or_bit1 hlt hT5 HIN.out.b63)
          have E3 := Lib.hid (or_bit2 hlt hT5 HIN.out.c63)
          refine wp_loop_rounds 4 ?_
          rw [rounds_succ]
          obtain ⟨⟨c0, c1, c2, c3⟩, f0, f1, f2, f3⟩ := q0.cells
          go_wp2
          go_still_tail 14, (by kernel_rfl)
          go_wp2
          have q1 := q0.put 1 (.int .i64 (bits BinOp.or IntKind.i64 W'.a (wrap64 (bits BinOp.and IntKind.i64 ((k : Int)) 1 * 2 ^ T))))
          simp only [List.setIfInBounds_toArray, List.set_cons_zero, List.set_cons_succ] at q1
          generalize (World.setCell wi ⟨w.heap.size + 1 + 1, 1, none⟩ (.int .i64 (bits BinOp.or IntKind.i64 W'.a (wrap64 (bits BinOp.and IntKind.i64 ((k : Int)) 1 * 2 ^ T))))).drew = wi1 at q1 ⊢
          generalize bits BinOp.or IntKind.i64 W'.a (wrap64 (bits BinOp.and IntKind.i64 ((k : Int)) 1 * 2 ^ T)) = V1 at q1 E1 ⊢
          clear c0 c1 c2 c3 f0 f1 f2 f3
          rw [rounds_succ]
          obtain ⟨⟨c0, c1, c2, c3⟩, f0, f1, f2, f3⟩ := q1.cells
          go_wp2
          go_still_tail 14, (by kernel_rfl)
          go_wp2
          have q2 := q1.put 2 (.int .i64 (bits BinOp.or IntKind.i64 W'.b (wrap64 (bits BinOp.and IntKind.i64 ((k : Int) / 2) 1 * 2 ^ T))))
          simp only [List.setIfInBounds_toArray, List.set_cons_zero, List.set_cons_succ] at q2
          generalize (World.setCell wi1 ⟨w.heap.size + 1 + 1, 2, none⟩ (.int .i64 (bits BinOp.or IntKind.i64 W'.b (wrap64 (bits BinOp.and IntKind.i64 ((k : Int) / 2) 1 * 2 ^ T))))).drew = wi2 at q2 ⊢
          generalize bits BinOp.or IntKind.i64 W'.b (wrap64 (bits BinOp.and IntKind.i64 ((k : Int) / 2) 1 * 2 ^ T)) = V2 at q2 E2 ⊢
          clear c0 c1 c2 c3 f0 f1 f2 f3
          rw [rounds_succ]
          obtain ⟨⟨c0, c1, c2, c3⟩, f0, f1, f2, f3⟩ := q2.cells
          go_wp2
          go_still_tail 14, (by kernel_rfl)
          go_wp2
          have q3 := q2.put 3 (.int .i64 (bits BinOp.or IntKind.i64 W'.c (wrap64 (bits BinOp.and IntKind.i64 ((k : Int) / 4) 1 * 2 ^ T))))
          simp only [List.setIfInBounds_toArray, List.set_cons_zero, List.set_cons_succ] at q3
          generalize (World.setCell wi2 ⟨w.heap.size + 1 + 1, 3, none⟩ (.int .i64 (bits BinOp.or IntKind.i64 W'.c (wrap64 (bits BinOp.and IntKind.i64 ((k : Int) / 4) 1 * 2 ^ T))))).drew = wi3 at q3 ⊢
          generalize bits BinOp.or IntKind.i64 W'.c (wrap64 (bits BinOp.and IntKind.i64 ((k : Int) / 4) 1 * 2 ^ T)) = V3 at q3 E3 ⊢
          clear c0 c1 c2 c3 f0 f1 f2 f3
          rw [rounds_succ]
          obtain ⟨⟨c0, c1, c2, c3⟩, f0, f1, f2, f3⟩ := q3.cells
          go_wp2
          have q4 := q3.store 0 (.int .i64 ((T : Int) + 1))
          simp only [List.setIfInBounds_toArray, List.set_cons_zero] at q4
          go_roundw
          case rel =>
            refine ⟨j + 1, Venn.addThing k W', by omega, by go_num, ⟨q4.below, q4.res, ?_, ?_, ?_, ?_, ?_⟩, ?_, ?_⟩
            · have := q4.blk
              rw [E1.out.1, E2.out.1, E3.out.1] at this
              unfold Venn.addThing
              rw [HT.out]
              exact this
            · unfold Venn.addThing; rw [HT.out]; show (0 : Int) ≤ T + 1; omega
            · exact ⟨orBit_nonneg _ _ _ _, by unfold Venn.addThing; rw [HT.out]; exact E1.out.2⟩
            · exact ⟨orBit_nonneg _ _ _ _, by unfold Venn.addThing; rw [HT.out]; exact E2.out.2⟩
            · exact ⟨orBit_nonneg _ _ _ _, by unfold Venn.addThing; rw [HT.out]; exact E3.out.2⟩
            · have := HTH.out; unfold Venn.addThing; simp only; omega
            · rw [← HA.out, show n - j = (n - (j + 1)) + 1 by omega]; rfl
          case measure => simp [intOf]; omega
        · have hjn' : j = n := by omega
          subst hjn'
          rw [Nat.sub_self] at HA hth
          go_wp2
          go_roundw
          case rel =>
            refine ⟨k + 1, W', by omega, by go_num, hin, by omega, ?_⟩
            rw [← HG.out, HD.out, Venn.madeGo, Int.toNat_natCast, ← HA.out]
            rfl
          case measure => simp [intOf]; omega
    · have hk8 : k = 8 := by omega
      subst hk8
      have hG := HG.out
      rw [List.drop_eq_nil_of_le (by omega)] at hG
      have hW := Lib.hid (show W = Venn.made l from hG)
      have c0 := hinv.blk.cell 0
      have c1 := hinv.blk.cell 1
      have c2 := hinv.blk.cell 2
      have c3 := hinv.blk.cell 3
      have d0 := hinv.res.cell 0
      have d1 := hinv.res.cell 1
      have d2 := hinv.res.cell 2
      have d3 := hinv.res.cell 3
      have f0 := hinv.res.frozen 0
      have f1 := hinv.res.frozen 1
      have f2 := hinv.res.frozen 2
      have f3 := hinv.res.frozen 3
      simp at c0 c1 c2 c3 d0 d1 d2 d3
      have HIN := Lib.hid hinv
      clear hG hinv HI HP HPR
      go_wp2
      refine bodyPost_ret (v := .agg #[.int .i64 W.things, .int .i64 W.a, .int .i64 W.b, .int .i64 W.c]) (by simp [results, Tryd.results76, go_sem, d0, d1, d2, d3]) rfl ⟨by rw [hW.out], ?_⟩
      exact (((HIN.out.below.setCell (p := ⟨w.heap.size + 1, 0, none⟩) (by simp) _).setCell (p := ⟨w.heap.size + 1, 1, none⟩) (by simp) _).setCell (p := ⟨w.heap.size + 1, 2, none⟩) (by simp) _).setCell (p := ⟨w.heap.size + 1, 3, none⟩) (by simp) _

end Go.Proofs.YtpcdiilgomfpbaaDoor
