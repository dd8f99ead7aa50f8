/-
  THE WALK of turn.Things: a world of other things.
-/
import Derived.Test.YtlpfbdejiifbpaaDoorTurnWorld
namespace Go.Proofs.YtlpfbdejiifbpaaDoor
open Go.RowKit

theorem and_one64 : ∀ x : Fin 64, bits .and .i64 (x.val : Int) 1 = ((x.val % 2 : Nat) : Int) := by decide +kernel
theorem or_two : ∀ (x : Fin 2) (t : Fin 6) (s : Fin 64), bits .or .i64 (s.val : Int) (wrap64 ((x.val : Int) * 2 ^ t.val)) = ((s.val ||| x.val * 2 ^ t.val : Nat) : Int) ∧ (s.val ||| x.val * 2 ^ t.val) ≤ 63 := by decide +kernel
/-- One bit of a set, elsewhere. -/
theorem thing_bit {S k t : Nat} {acc : Int} (hS : S ≤ 63) (ht : t ≤ 5) (ha : 0 ≤ acc ∧ acc ≤ 63) :
    bits .or .i64 acc (wrap64 (bits .and .i64 ((S : Int) / 2 ^ k) 1 * 2 ^ t)) = Venn.orBit acc S k (t : Int) ∧ Venn.orBit acc S k (t : Int) ≤ 63 := by
  obtain ⟨A, rfl⟩ := Int.eq_ofNat_of_zero_le ha.1
  have e : ((S : Int) / 2 ^ k) = ((S / 2 ^ k : Nat) : Int) := by simp
  have hlt : S / 2 ^ k < 64 := Nat.lt_of_le_of_lt (Nat.div_le_self _ _) (by omega)
  rw [e, and_one64 ⟨S / 2 ^ k, hlt⟩]
  obtain ⟨h1, h2⟩ := or_two ⟨S / 2 ^ k % 2, Nat.mod_lt _ (by decide)⟩ ⟨t, by omega⟩ ⟨A, by omega⟩
  refine ⟨h1, ?_⟩
  unfold Venn.orBit
  simp only [Int.toNat_natCast]
  exact_mod_cast h2
/-- The state in a round. -/
structure ThAt (w wr : World) (O : Nat) (cs : Array Value) : Prop where
  below : Below w.heap.size w wr
  res : Blk wr (w.heap.size + 1) 28 #[.int .i64 0, .int .i64 0, .int .i64 0, .int .i64 0]
  out : Blk wr O 28 cs
  lo : w.heap.size + 1 < O
theorem ThAt.put {w wr : World} {O : Nat} {cs : Array Value} (h : ThAt w wr O cs) (i : Nat) (u : Value) : ThAt w (wr.setCell ⟨O, i, none⟩ u).drew O (cs.setIfInBounds i u) :=
  ⟨(h.below.setCell (p := ⟨O, i, none⟩) (by have := h.lo; show w.heap.size ≤ O; omega) _).drew, (h.res.far (p := ⟨O, i, none⟩) (by have := h.lo; show ¬ _ = O; omega) _).drew, (h.out.set_ i u).drew, h.lo⟩
theorem thingsS_cons (s : Int) (i : Nat) (t : Int) (q : List Int) (acc : Int) : Venn.thingsS s i (t :: q) acc = Venn.thingsS s (i + 1) q (Venn.orBit acc s.toNat i t) := rfl
theorem ints_rd {w : World} {A : Option Addr} {n c : Nat} {l : List Int} (h : IsInts w (.slice A n c) l) : Rd w A (l.map (Value.int .i64)) := by
  obtain ⟨A', c', e, hr, _⟩ := h
  cases e
  exact hr
theorem worldChk_sets {th a b d : Int} (h : Venn.worldChk ⟨th, a, b, d⟩ = 0) : (0 ≤ th ∧ th ≤ 6) ∧ (0 ≤ a ∧ a ≤ 63) ∧ (0 ≤ b ∧ b ≤ 63) ∧ (0 ≤ d ∧ d ≤ 63) := by
  obtain ⟨h1, h2, h3, h4⟩ := Venn.worldChk_iff.1 h
  simp only [Venn.things, Bool.and_eq_true, decide_eq_true_eq] at h1
  have f : ∀ s, Venn.setChk th s = 0 → 0 ≤ s ∧ s ≤ 63 := fun s hs => by have := setChk_63 hs; omega
  exact ⟨h1, f _ h2, f _ h3, f _ h4⟩

set_option maxHeartbeats 8000000 in
set_option maxRecDepth 100000 in
theorem turn_Things (v : Value) (q : List Int) (th a b d : Int) (w : World) (hq : IsInts w v q) :
    Calls Tryd.prog 16 #[.agg #[.int .i64 th, .int .i64 a, .int .i64 b, .int .i64 d], v] w
      (Keeps (.tuple #[worldV (Venn.thingsV ⟨th, a, b, d⟩ q), errV (Venn.thingsErr ⟨th, a, b, d⟩ q)]) w) := by
  obtain ⟨Q, cQ, rfl⟩ := hq.slice
  have HQ := Lib.hid hq
  clear hq
  have HZV := Lib.hid (fun (h : Venn.thingsErr ⟨th, a, b, d⟩ q ≠ 0) => (show Venn.thingsV ⟨th, a, b, d⟩ q = ⟨0, 0, 0, 0⟩ by rw [Venn.thingsV, if_neg h]))
  by_cases hw : ¬ Venn.worldChk ⟨th, a, b, d⟩ = 0
  · have HX := Lib.hid (errV_ne hw)
    have hn : Venn.thingsErr ⟨th, a, b, d⟩ q = Venn.worldChk ⟨th, a, b, d⟩ := by rw [Venn.thingsErr, if_neg hw]
    rw [HZV.out (by rw [hn]; exact hw), hn]
    clear hn hw HZV
    go_enter Tryd.func16, Tryd.ntmps16
    have BW := (Blk.new w 28 #[.int .i64 th, .int .i64 a, .int .i64 b, .int .i64 d]).alloc (.cells #[.int .i64 0, .int .i64 0, .int .i64 0, .int .i64 0] 28)
    have BR := Blk.newAt (w := w.alloc (.cells #[.int .i64 th, .int .i64 a, .int .i64 b, .int .i64 d] 28)) (g := w.heap.size + 1) (by simp) 28 #[.int .i64 0, .int .i64 0, .int .i64 0, .int .i64 0]
    go_wp2_with fail
    refine (term_World _ _ _ _ _).mono ?_
    rintro e w1 ⟨rfl, hb1⟩
    rw [HX.out]
    have HWL : Below w.heap.size w w1 := (by (repeat' (first | (with_reducible exact Below.refl _ _) | (with_reducible assumption) | (with_reducible refine Below.next ?_ (by with_reducible assumption)) | (with_reducible refine Below.drew ?_) | (with_reducible refine Below.laid ?_ _) | (with_reducible refine Below.setCell ?_ ?_ _) | (with_reducible refine size_of ?_) | (with_reducible refine Nat.le_succ_of_le ?_) | go_size)))
    replace BW := BW.keep hb1
    replace BR := BR.keep hb1
    obtain ⟨c0, c1, c2, c3⟩ := BW.cells4
    obtain ⟨r0, r1, r2, r3⟩ := BR.cells4
    have s0 := BR.frozen 0
    have s1 := BR.frozen 1
    have s2 := BR.frozen 2
    have s3 := BR.frozen 3
    have GL := below_set4 HWL (show w.heap.size ≤ w.heap.size + 1 by omega) (.int .i64 0) (.int .i64 0) (.int .i64 0) (.int .i64 0)
    have GS := BR.set4 (.int .i64 0) (.int .i64 0) (.int .i64 0) (.int .i64 0)
    go_wp2
    clear r0 r1 r2 r3 s0 s1 s2 s3
    revert GL GS
    generalize World.setCell _ _ _ = Wf
    intro GL GS
    obtain ⟨e0, e1, e2, e3⟩ := GS.cells4
    refine bodyPost_ret (v := .tuple #[.agg #[.int .i64 0, .int .i64 0, .int .i64 0, .int .i64 0], .iface 58 (.int .i64 (Venn.worldChk ⟨th, a, b, d⟩))]) (by simp [results, Tryd.results16, go_sem, e0, e1, e2, e3]) rfl ⟨by rw [HX.out]; rfl, GL⟩
  replace hw := Decidable.not_not.1 hw
  have HX := Lib.hid (errV_zero hw)
  by_cases hl : ¬ (q.length : Int) = th
  · have hne : ((q.length : Int) != th) = true := by simpa using hl
    have hn : Venn.thingsErr ⟨th, a, b, d⟩ q = 3 := by rw [Venn.thingsErr, if_pos hw, if_neg hl]
    rw [HZV.out (by rw [hn]; decide), hn]
    clear hn hw HZV hl
    go_enter Tryd.func16, Tryd.ntmps16
    have BW := (Blk.new w 28 #[.int .i64 th, .int .i64 a, .int .i64 b, .int .i64 d]).alloc (.cells #[.int .i64 0, .int .i64 0, .int .i64 0, .int .i64 0] 28)
    have BR := Blk.newAt (w := w.alloc (.cells #[.int .i64 th, .int .i64 a, .int .i64 b, .int .i64 d] 28)) (g := w.heap.size + 1) (by simp) 28 #[.int .i64 0, .int .i64 0, .int .i64 0, .int .i64 0]
    go_wp2_with fail
    refine (term_World _ _ _ _ _).mono ?_
    rintro e w1 ⟨rfl, hb1⟩
    rw [HX.out]
    have HWL : Below w.heap.size w w1 := (by (repeat' (first | (with_reducible exact Below.refl _ _) | (with_reducible assumption) | (with_reducible refine Below.next ?_ (by with_reducible assumption)) | (with_reducible refine Below.drew ?_) | (with_reducible refine Below.laid ?_ _) | (with_reducible refine Below.setCell ?_ ?_ _) | (with_reducible refine size_of ?_) | (with_reducible refine Nat.le_succ_of_le ?_) | go_size)))
    replace BW := BW.keep hb1
    replace BR := BR.keep hb1
    obtain ⟨c0, c1, c2, c3⟩ := BW.cells4
    obtain ⟨r0, r1, r2, r3⟩ := BR.cells4
    have s0 := BR.frozen 0
    have s1 := BR.frozen 1
    have s2 := BR.frozen 2
    have s3 := BR.frozen 3
    have GL := below_set4 HWL (show w.heap.size ≤ w.heap.size + 1 by omega) (.int .i64 0) (.int .i64 0) (.int .i64 0) (.int .i64 0)
    have GS := BR.set4 (.int .i64 0) (.int .i64 0) (.int .i64 0) (.int .i64 0)
    go_wp2
    clear r0 r1 r2 r3 s0 s1 s2 s3
    revert GL GS
    generalize World.setCell _ _ _ = Wf
    intro GL GS
    obtain ⟨e0, e1, e2, e3⟩ := GS.cells4
    refine bodyPost_ret (v := .tuple #[.agg #[.int .i64 0, .int .i64 0, .int .i64 0, .int .i64 0], .iface 58 (.int .i64 3)]) (by simp [results, Tryd.results16, go_sem, e0, e1, e2, e3]) rfl ⟨rfl, GL⟩
  replace hl := Decidable.not_not.1 hl
  obtain ⟨⟨t0, t6⟩, ⟨a0, a6⟩, ⟨b0, b6⟩, ⟨d0, d6⟩⟩ := worldChk_sets hw
  subst hl
  have hne : ((q.length : Int) != (q.length : Int)) = false := by simp
  have hq6 : q.length ≤ 6 := by omega
  by_cases ho : ¬ Venn.onceV q = true
  · have HB := Lib.hid (show Venn.onceV q = false by simpa using ho)
    have hn : Venn.thingsErr ⟨q.length, a, b, d⟩ q = 1 := by rw [Venn.thingsErr, if_pos hw, if_pos rfl, if_neg ho]
    rw [HZV.out (by rw [hn]; decide), hn]
    clear hn hw HZV ho t0 t6 a0 a6 b0 b6 d0 d6
    go_enter Tryd.func16, Tryd.ntmps16
    have BW := (Blk.new w 28 #[.int .i64 q.length, .int .i64 a, .int .i64 b, .int .i64 d]).alloc (.cells #[.int .i64 0, .int .i64 0, .int .i64 0, .int .i64 0] 28)
    have BR := Blk.newAt (w := w.alloc (.cells #[.int .i64 q.length, .int .i64 a, .int .i64 b, .int .i64 d] 28)) (g := w.heap.size + 1) (by simp) 28 #[.int .i64 0, .int .i64 0, .int .i64 0, .int .i64 0]
    go_wp2_with fail
    refine (term_World _ _ _ _ _).mono ?_
    rintro e w1 ⟨rfl, hb1⟩
    rw [HX.out]
    have HWL : Below w.heap.size w w1 := (by (repeat' (first | (with_reducible exact Below.refl _ _) | (with_reducible assumption) | (with_reducible refine Below.next ?_ (by with_reducible assumption)) | (with_reducible refine Below.drew ?_) | (with_reducible refine Below.laid ?_ _) | (with_reducible refine Below.setCell ?_ ?_ _) | (with_reducible refine size_of ?_) | (with_reducible refine Nat.le_succ_of_le ?_) | go_size)))
    replace BW := BW.keep hb1
    replace BR := BR.keep hb1
    obtain ⟨c0, c1, c2, c3⟩ := BW.cells4
    go_wp2_with fail
    refine (turn_once _ q _ (HQ.out.keep (by (repeat' (first | (with_reducible exact Below.refl _ _) | (with_reducible assumption) | (with_reducible refine Below.next ?_ (by with_reducible assumption)) | (with_reducible refine Below.drew ?_) | (with_reducible refine Below.laid ?_ _) | (with_reducible refine Below.setCell ?_ ?_ _) | (with_reducible refine size_of ?_) | (with_reducible refine Nat.le_succ_of_le ?_) | go_size)))) (by omega)).mono ?_
    rintro e w2 ⟨rfl, hb2⟩
    rw [HB.out]
    replace HWL := Below.next HWL hb2
    replace BW := BW.keep hb2
    replace BR := BR.keep hb2
    obtain ⟨r0, r1, r2, r3⟩ := BR.cells4
    have s0 := BR.frozen 0
    have s1 := BR.frozen 1
    have s2 := BR.frozen 2
    have s3 := BR.frozen 3
    have GL := below_set4 HWL (show w.heap.size ≤ w.heap.size + 1 by omega) (.int .i64 0) (.int .i64 0) (.int .i64 0) (.int .i64 0)
    have GS := BR.set4 (.int .i64 0) (.int .i64 0) (.int .i64 0) (.int .i64 0)
    go_wp2
    clear r0 r1 r2 r3 s0 s1 s2 s3
    revert GL GS
    generalize World.setCell _ _ _ = Wf
    intro GL GS
    obtain ⟨e0, e1, e2, e3⟩ := GS.cells4
    refine bodyPost_ret (v := .tuple #[.agg #[.int .i64 0, .int .i64 0, .int .i64 0, .int .i64 0], .iface 58 (.int .i64 1)]) (by simp [results, Tryd.results16, go_sem, e0, e1, e2, e3]) rfl ⟨rfl, GL⟩
  replace ho := Decidable.not_not.1 ho
  have HB := Lib.hid ho
  have HM := Lib.hid (Venn.once_mem ho)
  have hn : Venn.thingsErr ⟨q.length, a, b, d⟩ q = 0 := by rw [Venn.thingsErr, if_pos hw, if_pos rfl, if_pos ho]
  have HV := Lib.hid (show Venn.thingsV ⟨q.length, a, b, d⟩ q = Venn.thingsW q ⟨q.length, a, b, d⟩ by rw [Venn.thingsV, if_pos hn])
  rw [HV.out, hn]
  obtain ⟨SA, rfl⟩ := Int.eq_ofNat_of_zero_le a0
  obtain ⟨SB, rfl⟩ := Int.eq_ofNat_of_zero_le b0
  obtain ⟨SD, rfl⟩ := Int.eq_ofNat_of_zero_le d0
  have HS := Lib.hid (show SA ≤ 63 ∧ SB ≤ 63 ∧ SD ≤ 63 by omega)
  clear hn hw ho HZV HV t0 t6 a0 a6 b0 b6 d0 d6
  go_enter Tryd.func16, Tryd.ntmps16
  have BW := (Blk.new w 28 #[.int .i64 q.length, .int .i64 SA, .int .i64 SB, .int .i64 SD]).alloc (.cells #[.int .i64 0, .int .i64 0, .int .i64 0, .int .i64 0] 28)
  have BR := Blk.newAt (w := w.alloc (.cells #[.int .i64 q.length, .int .i64 SA, .int .i64 SB, .int .i64 SD] 28)) (g := w.heap.size + 1) (by simp) 28 #[.int .i64 0, .int .i64 0, .int .i64 0, .int .i64 0]
  go_wp2_with fail
  refine (term_World _ _ _ _ _).mono ?_
  rintro e w1 ⟨rfl, hb1⟩
  rw [HX.out]
  have HWL : Below w.heap.size w w1 := (by (repeat' (first | (with_reducible exact Below.refl _ _) | (with_reducible assumption) | (with_reducible refine Below.next ?_ (by with_reducible assumption)) | (with_reducible refine Below.drew ?_) | (with_reducible refine Below.laid ?_ _) | (with_reducible refine Below.setCell ?_ ?_ _) | (with_reducible refine size_of ?_) | (with_reducible refine Nat.le_succ_of_le ?_) | go_size)))
  replace BW := BW.keep hb1
  replace BR := BR.keep hb1
  obtain ⟨c0, c1, c2, c3⟩ := BW.cells4
  go_wp2_with fail
  refine (turn_once _ q _ (HQ.out.keep (by (repeat' (first | (with_reducible exact Below.refl _ _) | (with_reducible assumption) | (with_reducible refine Below.next ?_ (by with_reducible assumption)) | (with_reducible refine Below.drew ?_) | (with_reducible refine Below.laid ?_ _) | (with_reducible refine Below.setCell ?_ ?_ _) | (with_reducible refine size_of ?_) | (with_reducible refine Nat.le_succ_of_le ?_) | go_size)))) (by omega)).mono ?_
  rintro e w2 ⟨rfl, hb2⟩
  rw [HB.out]
  replace HWL := Below.next HWL hb2
  replace BW := BW.keep hb2
  replace BR := BR.keep hb2
  clear c0 c1 c2 c3
  obtain ⟨c0, c1, c2, c3⟩ := BW.cells4
  have bl := BW.lt
  go_upto_region 10 with (fail)
  have hT : ThAt w (w2.alloc (.cells #[.int .i64 q.length, .int .i64 0, .int .i64 0, .int .i64 0] 28)) w2.heap.size #[.int .i64 q.length, .int .i64 0, .int .i64 0, .int .i64 0] :=
    ⟨(by (repeat' (first | (with_reducible exact Below.refl _ _) | (with_reducible assumption) | (with_reducible refine Below.next ?_ (by with_reducible assumption)) | (with_reducible refine Below.drew ?_) | (with_reducible refine Below.laid ?_ _) | (with_reducible refine Below.setCell ?_ ?_ _) | (with_reducible refine size_of ?_) | (with_reducible refine Nat.le_succ_of_le ?_) | go_size))), BR.alloc _, Blk.new _ _ _, by have := BR.lt; omega⟩
  clear c0 c1 c2 c3 bl BW BR HWL hb1 hb2
  revert hT
  generalize w2.alloc _ = w3
  generalize w2.heap.size = O
  intro hT
  have x0 := idx3_0 (SA : Int) SB SD
  have x1 := idx3_1 (SA : Int) SB SD
  have x2 := idx3_2 (SA : Int) SB SD
  refine wp_loop_rounds 4 ?_
  rw [rounds_succ]
  go_wp2
  go_loopw [43] (fun i wr => ∃ (k : Nat) (acc : Int), k ≤ q.length ∧ i = .int .i64 k ∧ (0 ≤ acc ∧ acc ≤ 63) ∧ Venn.thingsS SA k (q.drop k) acc = Venn.thingsS SA 0 q 0 ∧ ThAt w wr O #[.int .i64 q.length, .int .i64 acc, .int .i64 0, .int .i64 0])
    (fun i _ => q.length - (intOf i).toNat)
  case atStart => exact ⟨0, 0, Nat.zero_le _, rfl, ⟨by decide, by decide⟩, rfl, hT⟩
  case round =>
    clear hT
    obtain ⟨k, acc, hk, rfl, hacc, hgo, hT⟩ := hrel
    obtain ⟨wo, rfl⟩ : ∃ wo : World, wo = wr := ⟨_, rfl⟩
    have HGO := Lib.hid hgo
    have HAC := Lib.hid hacc
    clear hgo hacc
    by_cases hlt : k < q.length
    · obtain ⟨x, hx⟩ : ∃ x, q[k]? = some x := ⟨q[k], List.getElem?_eq_getElem hlt⟩
      obtain ⟨y0, y1⟩ := HM.out x (List.mem_of_getElem? hx)
      obtain ⟨t, rfl⟩ := Int.eq_ofNat_of_zero_le y0
      have ht5 : t ≤ 5 := by omega
      have hdr : q.drop k = (t : Int) :: q.drop (k + 1) := by
        rw [List.drop_eq_getElem_cons hlt]
        rw [List.getElem?_eq_getElem hlt] at hx
        injection hx with hx
        rw [hx]
      have HDR := Lib.hid hdr
      obtain ⟨adq, eq, hcq⟩ := (ints_rd (HQ.out.keep hT.below)) k (.int .i64 t) (by rw [List.getElem?_map, hx]; rfl)
      subst eq
      have hk1 : (k : Int) < (q.length : Int) := by omega
      have hk0 : (0 : Int) ≤ (k : Int) := by omega
      have HBT := Lib.hid (thing_bit (k := k) HS.out.1 ht5 HAC.out)
      have HT := Lib.hid hT
      have o0 := hT.out.cell 0
      have o1 := hT.out.cell 1
      have o2 := hT.out.frozen 1
      clear hx hdr y0 y1 hT
      go_wp2
      go_still_tail 13, (by kernel_rfl)
      go_wp2
      go_roundw
      case rel =>
        refine ⟨k + 1, Venn.orBit acc SA k t, by omega, by go_num, ⟨orBit_nonneg _ _ _ _, HBT.out.2⟩, ?_, ?_⟩
        · rw [← HGO.out, HDR.out, thingsS_cons, Int.toNat_natCast]
        · have := HT.out.put 1 (.int .i64 (Venn.orBit acc SA k t))
          rw [HBT.out.1]
          simpa using this
      case measure => simp [intOf]; omega
    · have hk' : k = q.length := by omega
      subst hk'
      have hac : acc = Venn.thingsS SA 0 q 0 := by rw [← HGO.out, List.drop_length]; rfl
      subst hac
      clear HGO HAC hlt hk
      go_wp2
      rw [rounds_succ]
      go_wp2
      go_loopw [43] (fun i wr => ∃ (k : Nat) (acc : Int), k ≤ q.length ∧ i = .int .i64 k ∧ (0 ≤ acc ∧ acc ≤ 63) ∧ Venn.thingsS SB k (q.drop k) acc = Venn.thingsS SB 0 q 0 ∧ ThAt w wr O #[.int .i64 q.length, .int .i64 (Venn.thingsS SA 0 q 0), .int .i64 acc, .int .i64 0])
        (fun i _ => q.length - (intOf i).toNat)
      case atStart => exact ⟨0, 0, Nat.zero_le _, rfl, ⟨by decide, by decide⟩, rfl, hT⟩
      case round =>
        clear hT
        obtain ⟨k, acc, hk, rfl, hacc, hgo, hT⟩ := hrel
        obtain ⟨wo, rfl⟩ : ∃ wo : World, wo = wr := ⟨_, rfl⟩
        have HGO := Lib.hid hgo
        have HAC := Lib.hid hacc
        clear hgo hacc
        by_cases hlt : k < q.length
        · obtain ⟨x, hx⟩ : ∃ x, q[k]? = some x := ⟨q[k], List.getElem?_eq_getElem hlt⟩
          obtain ⟨y0, y1⟩ := HM.out x (List.mem_of_getElem? hx)
          obtain ⟨t, rfl⟩ := Int.eq_ofNat_of_zero_le y0
          have ht5 : t ≤ 5 := by omega
          have hdr : q.drop k = (t : Int) :: q.drop (k + 1) := by
            rw [List.drop_eq_getElem_cons hlt]
            rw [List.getElem?_eq_getElem hlt] at hx
            injection hx with hx
            rw [hx]
          have HDR := Lib.hid hdr
          obtain ⟨adq, eq, hcq⟩ := (ints_rd (HQ.out.keep hT.below)) k (.int .i64 t) (by rw [List.getElem?_map, hx]; rfl)
          subst eq
          have hk1 : (k : Int) < (q.length : Int) := by omega
          have hk0 : (0 : Int) ≤ (k : Int) := by omega
          have HBT := Lib.hid (thing_bit (k := k) HS.out.2.1 ht5 HAC.out)
          have HT := Lib.hid hT
          have o0 := hT.out.cell 0
          have o1 := hT.out.cell 2
          have o2 := hT.out.frozen 2
          clear hx hdr y0 y1 hT
          go_wp2
          go_still_tail 13, (by kernel_rfl)
          go_wp2
          go_roundw
          case rel =>
            refine ⟨k + 1, Venn.orBit acc SB k t, by omega, by go_num, ⟨orBit_nonneg _ _ _ _, HBT.out.2⟩, ?_, ?_⟩
            · rw [← HGO.out, HDR.out, thingsS_cons, Int.toNat_natCast]
            · have := HT.out.put 2 (.int .i64 (Venn.orBit acc SB k t))
              rw [HBT.out.1]
              simpa using this
          case measure => simp [intOf]; omega
        · have hk' : k = q.length := by omega
          subst hk'
          have hac : acc = Venn.thingsS SB 0 q 0 := by rw [← HGO.out, List.drop_length]; rfl
          subst hac
          clear HGO HAC hlt hk
          go_wp2
          rw [rounds_succ]
          go_wp2
          go_loopw [43] (fun i wr => ∃ (k : Nat) (acc : Int), k ≤ q.length ∧ i = .int .i64 k ∧ (0 ≤ acc ∧ acc ≤ 63) ∧ Venn.thingsS SD k (q.drop k) acc = Venn.thingsS SD 0 q 0 ∧ ThAt w wr O #[.int .i64 q.length, .int .i64 (Venn.thingsS SA 0 q 0), .int .i64 (Venn.thingsS SB 0 q 0), .int .i64 acc])
            (fun i _ => q.length - (intOf i).toNat)
          case atStart => exact ⟨0, 0, Nat.zero_le _, rfl, ⟨by decide, by decide⟩, rfl, hT⟩
          case round =>
            clear hT
            obtain ⟨k, acc, hk, rfl, hacc, hgo, hT⟩ := hrel
            obtain ⟨wo, rfl⟩ : ∃ wo : World, wo = wr := ⟨_, rfl⟩
            have HGO := Lib.hid hgo
            have HAC := Lib.hid hacc
            clear hgo hacc
            by_cases hlt : k < q.length
            · obtain ⟨x, hx⟩ : ∃ x, q[k]? = some x := ⟨q[k], List.getElem?_eq_getElem hlt⟩
              obtain ⟨y0, y1⟩ := HM.out x (List.mem_of_getElem? hx)
              obtain ⟨t, rfl⟩ := Int.eq_ofNat_of_zero_le y0
              have ht5 : t ≤ 5 := by omega
              have hdr : q.drop k = (t : Int) :: q.drop (k + 1) := by
                rw [List.drop_eq_getElem_cons hlt]
                rw [List.getElem?_eq_getElem hlt] at hx
                injection hx with hx
                rw [hx]
              have HDR := Lib.hid hdr
              obtain ⟨adq, eq, hcq⟩ := (ints_rd (HQ.out.keep hT.below)) k (.int .i64 t) (by rw [List.getElem?_map, hx]; rfl)
              subst eq
              have hk1 : (k : Int) < (q.length : Int) := by omega
              have hk0 : (0 : Int) ≤ (k : Int) := by omega
              have HBT := Lib.hid (thing_bit (k := k) HS.out.2.2 ht5 HAC.out)
              have HT := Lib.hid hT
              have o0 := hT.out.cell 0
              have o1 := hT.out.cell 3
              have o2 := hT.out.frozen 3
              clear hx hdr y0 y1 hT
              go_wp2
              go_still_tail 13, (by kernel_rfl)
              go_wp2
              go_roundw
              case rel =>
                refine ⟨k + 1, Venn.orBit acc SD k t, by omega, by go_num, ⟨orBit_nonneg _ _ _ _, HBT.out.2⟩, ?_, ?_⟩
                · rw [← HGO.out, HDR.out, thingsS_cons, Int.toNat_natCast]
                · have := HT.out.put 3 (.int .i64 (Venn.orBit acc SD k t))
                  rw [HBT.out.1]
                  simpa using this
              case measure => simp [intOf]; omega
            · have hk' : k = q.length := by omega
              subst hk'
              have hac : acc = Venn.thingsS SD 0 q 0 := by rw [← HGO.out, List.drop_length]; rfl
              subst hac
              clear HGO HAC hlt hk
              go_wp2
              rw [rounds_succ]
              obtain ⟨o0, o1, o2, o3⟩ := hT.out.cells4
              have BR := hT.res
              have HWL := hT.below
              have HRV := Lib.hid (show worldV (Venn.thingsW q ⟨q.length, SA, SB, SD⟩) = .agg #[.int .i64 q.length, .int .i64 (Venn.thingsS SA 0 q 0), .int .i64 (Venn.thingsS SB 0 q 0), .int .i64 (Venn.thingsS SD 0 q 0)] from rfl)
              generalize Venn.thingsS SA 0 q 0 = FA at *
              generalize Venn.thingsS SB 0 q 0 = FB at *
              generalize Venn.thingsS SD 0 q 0 = FD at *
              clear hT
              obtain ⟨r0, r1, r2, r3⟩ := BR.cells4
              have s0 := BR.frozen 0
              have s1 := BR.frozen 1
              have s2 := BR.frozen 2
              have s3 := BR.frozen 3
              have GL := below_set4 HWL (show w.heap.size ≤ w.heap.size + 1 by omega) (.int .i64 q.length) (.int .i64 FA) (.int .i64 FB) (.int .i64 FD)
              have GS := BR.set4 (.int .i64 q.length) (.int .i64 FA) (.int .i64 FB) (.int .i64 FD)
              go_wp2
              clear o0 o1 o2 o3 r0 r1 r2 r3 s0 s1 s2 s3
              revert GL GS
              generalize World.setCell _ _ _ = Wf
              intro GL GS
              obtain ⟨e0, e1, e2, e3⟩ := GS.cells4
              refine bodyPost_ret (v := .tuple #[.agg #[.int .i64 q.length, .int .i64 FA, .int .i64 FB, .int .i64 FD], .nilIface]) (by simp [results, Tryd.results16, go_sem, e0, e1, e2, e3]) rfl ⟨by rw [HRV.out]; rfl, GL⟩
end Go.Proofs.YtlpfbdejiifbpaaDoor
