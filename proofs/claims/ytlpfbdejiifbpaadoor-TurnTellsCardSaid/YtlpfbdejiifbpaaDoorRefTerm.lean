/-
  THE WALKS of the reference's Term, World, in, In, Value.
-/
import Derived.Test.YtlpfbdejiifbpaaDoorRefSets
import Derived.Test.YtlpfbdejiifbpaaDoorSetsT
import Derived.Test.YtlpfbdejiifbpaaDoorAtomT
import Derived.Test.YtlpfbdejiifbpaaDoorVennP2
import Derived.Deep.QuietTactic
import Derived.BigQuiet
namespace Go.Proofs.YtlpfbdejiifbpaaDoor
open Go.RowKit

set_option maxHeartbeats 2000000 in
set_option maxRecDepth 100000 in
theorem ref_Term (v : Value) (t : List Int) (w : World) (h : IsInts w v t) : Calls Tryd.prog 38 #[v] w (Pure (.int .i64 (Venn.termChk t)) w) := by
  obtain ⟨A, c, rfl, hr, hlc, hc⟩ := h
  unfold maxLen at hc
  obtain ⟨E, hE⟩ : ∃ E, E = Venn.termChk t := ⟨_, rfl⟩
  rw [← hE]
  have HR := Lib.hid hr
  by_cases h0 : t.length = 0
  · have HV := Lib.hid (show E = 5 by rw [hE, Venn.termChk, if_pos h0])
    have e1 : ((t.length : Int) == 0) = true := beq_iff_eq.2 (by omega)
    clear hE h0 hr
    go_enter Tryd.func38, Tryd.ntmps38
    go_wp2
    go_ret
    exact ⟨ret_int HV.out.symm, rfl⟩
  have e1 : ((t.length : Int) == 0) = false := beq_eq_false_iff_ne.2 (by omega)
  by_cases h12 : 12 < t.length
  · have HV := Lib.hid (show E = 4 by rw [hE, Venn.termChk, if_neg h0, if_pos h12])
    have e2 : (12 : Int) < (t.length : Int) := by omega
    clear hE h0 h12 hr
    go_enter Tryd.func38, Tryd.ntmps38
    go_wp2
    go_ret
    exact ⟨ret_int HV.out.symm, rfl⟩
  have e2 : ¬ (12 : Int) < (t.length : Int) := by omega
  have H12 : t.length ≤ 12 := by omega
  have HG := Lib.hid (show E = if t.any Venn.badSign = true then 1 else Venn.shapeGo 0 t by rw [hE, Venn.termChk, if_neg h0, if_neg h12])
  clear hE h0 h12 hr
  go_enter Tryd.func38, Tryd.ntmps38
  go_wp2
  go_loop [3] (fun i => ∃ k : Nat, k ≤ t.length ∧ i = .int .i64 k ∧ (E = if (t.drop k).any Venn.badSign = true then 1 else Venn.shapeGo 0 t) ∧ (∀ y ∈ t.take k, Venn.badSign y = false)) (fun i => t.length - (intOf i).toNat)
  case atStart => exact ⟨0, Nat.zero_le _, rfl, by rw [List.drop_zero]; exact HG.out, by simp⟩
  case round =>
    obtain ⟨k, hk, rfl, hrest, hgood⟩ := hrel
    have HRS := Lib.hid hrest
    have HGD := Lib.hid hgood
    clear hrest hgood
    by_cases hlt : k < t.length
    · obtain ⟨ad, rfl, hcell⟩ := HR.out.int hlt
      have HD := Lib.hid (List.drop_eq_getElem_cons hlt)
      have HT := Lib.hid (List.take_succ_eq_append_getElem hlt)
      generalize t[k] = x at hcell HD HT
      have hk1 : (k : Int) < (t.length : Int) := by omega
      have hk0 : (0 : Int) ≤ (k : Int) := by omega
      cases hb : Venn.badSign x
      · have hx : ¬ x < 0 ∧ ¬ 8 < x := by simp [Venn.badSign] at hb; omega
        have HV := Lib.hid (show E = if (t.drop (k + 1)).any Venn.badSign = true then 1 else Venn.shapeGo 0 t by rw [HRS.out, HD.out, List.any_cons, hb, Bool.false_or])
        have HW := Lib.hid (show ∀ y ∈ t.take (k + 1), Venn.badSign y = false by
          intro y hy
          rw [HT.out] at hy
          rcases List.mem_append.1 hy with h | h
          · exact HGD.out y h
          · rw [List.mem_singleton.1 h]; exact hb)
        obtain ⟨hx0, hx8⟩ := hx
        clear hb
        go_wp2
        go_round
        case rel => exact ⟨k + 1, by omega, by go_num, HV.out, HW.out⟩
        case measure => simp [intOf]; omega
      · have HV := Lib.hid (show E = 1 by rw [HRS.out, HD.out, List.any_cons, hb]; rfl)
        have hx : x < 0 ∨ (¬ x < 0 ∧ 8 < x) := by simp [Venn.badSign] at hb; omega
        clear hb
        rcases hx with hx | ⟨hx, hx8⟩
        all_goals
          go_wp2
          go_ret
          exact ⟨ret_int HV.out.symm, rfl⟩
    · have hkt : k = t.length := by omega
      have HB := Lib.hid (show ∀ y ∈ t, 0 ≤ y ∧ y ≤ 8 by
        intro y hy
        have := HGD.out y (by rw [hkt, List.take_length]; exact hy)
        simp [Venn.badSign] at this
        omega)
      have HV := Lib.hid (show E = Venn.shapeGo 0 t by rw [HRS.out, List.drop_eq_nil_of_le (by omega)]; rfl)
      clear HRS HGD
      go_wp2
      go_loop [4, 5] (fun m i => ∃ (k : Nat) (M : Int), k ≤ t.length ∧ m = .int .i64 M ∧ i = .int .i64 k ∧ 0 ≤ M ∧ M ≤ k ∧ E = Venn.shapeGo M (t.drop k)) (fun _ i => t.length - (intOf i).toNat)
      case atStart => exact ⟨0, 0, Nat.zero_le _, rfl, rfl, by omega, by simp, by rw [List.drop_zero]; exact HV.out⟩
      case round =>
        clear hlt hkt hk
        obtain ⟨k, M, hk, rfl, rfl, hM0, hMk, hrest⟩ := hrel
        have HRS := Lib.hid hrest
        clear hrest
        by_cases hlt : k < t.length
        · obtain ⟨ad, rfl, hcell⟩ := HR.out.int hlt
          have HD := Lib.hid (List.drop_eq_getElem_cons hlt)
          have hx := HB.out _ (List.getElem_mem hlt)
          generalize t[k] = x at hcell HD hx
          have hk1 : (k : Int) < (t.length : Int) := by omega
          have hk0 : (0 : Int) ≤ (k : Int) := by omega
          by_cases h5 : x < 5
          · have ht : Venn.takes x = 0 := by unfold Venn.takes; rw [if_neg (by omega), if_neg (by omega)]
            have HN := Lib.hid (show E = Venn.shapeGo (M + 1) (t.drop (k + 1)) by rw [HRS.out, HD.out, Venn.shapeGo, ht, if_neg (by omega)]; rfl)
            have hw : IntKind.i64.wrap (M + 1) = M + 1 := IntWalk.i64_in _ (by omega)
            clear ht
            go_wp2
            go_round
            case rel => exact ⟨k + 1, M + 1, by omega, rfl, by go_num, by omega, by omega, HN.out⟩
            case measure => simp [intOf]; omega
          · by_cases h8 : x = 8
            · subst h8
              by_cases hm : M < 1
              · have HN := Lib.hid (show E = 3 by rw [HRS.out, HD.out, Venn.shapeGo, if_pos (show M < Venn.takes 8 from hm)])
                go_wp2
                go_ret
                exact ⟨ret_int HN.out.symm, rfl⟩
              · have HN := Lib.hid (show E = Venn.shapeGo M (t.drop (k + 1)) by
                  rw [HRS.out, HD.out, Venn.shapeGo, if_neg (show ¬ M < Venn.takes 8 from hm), show M + (1 - Venn.takes 8) = M by show M + (1 - 1) = M; omega])
                go_wp2
                go_round
                case rel => exact ⟨k + 1, M, by omega, rfl, by go_num, by omega, by omega, HN.out⟩
                case measure => simp [intOf]; omega
            · have hx8 : x < 8 := by omega
              have ht : Venn.takes x = 2 := by unfold Venn.takes; rw [if_neg h8, if_pos (by omega)]
              by_cases hm : M < 2
              · have HN := Lib.hid (show E = 3 by rw [HRS.out, HD.out, Venn.shapeGo, ht, if_pos hm])
                clear ht
                rcases (by omega : M < 1 ∨ ¬ M < 1) with hm1 | hm1
                all_goals
                  go_wp2
                  go_ret
                  exact ⟨ret_int HN.out.symm, rfl⟩
              · have HN := Lib.hid (show E = Venn.shapeGo (M - 1) (t.drop (k + 1)) by rw [HRS.out, HD.out, Venn.shapeGo, ht, if_neg hm, show M + (1 - 2 : Int) = M - 1 by omega])
                have hm1 : ¬ M < 1 := by omega
                have hw : IntKind.i64.wrap (M - 1) = M - 1 := IntWalk.i64_in _ (by omega)
                clear ht
                go_wp2
                go_round
                case rel => exact ⟨k + 1, M - 1, by omega, rfl, by go_num, by omega, by omega, HN.out⟩
                case measure => simp [intOf]; omega
        · have HN := Lib.hid (show E = if M = 1 then 0 else 3 by rw [HRS.out, List.drop_eq_nil_of_le (by omega)]; rfl)
          by_cases hm : M = 1
          · subst hm
            go_wp2
            go_ret
            exact ⟨ret_int (by rw [HN.out]; rfl), rfl⟩
          · have hne : (M != 1) = true := by simpa using hm
            go_wp2
            go_ret
            exact ⟨ret_int (by rw [HN.out, if_neg hm]), rfl⟩

set_option maxHeartbeats 1000000 in
set_option maxRecDepth 100000 in
theorem ref_World (th a b c : Int) (w : World) : Calls Tryd.prog 12 #[.agg #[.int .i64 th, .int .i64 a, .int .i64 b, .int .i64 c]] w (Keeps (.int .i64 (Venn.worldChk ⟨th, a, b, c⟩)) w) := by
  have hchk : Venn.worldChk ⟨th, a, b, c⟩ = if Venn.setChk th a = 0 then (if Venn.setChk th b = 0 then Venn.setChk th c else 1) else 1 := by
    unfold Venn.worldChk
    simp only
    cases ht : Venn.things th
    · have : ∀ s, Venn.setChk th s = 1 := fun s => by simp [Venn.setChk, ht]
      simp [this]
    · simp
  obtain ⟨E, hE⟩ : ∃ E, E = Venn.worldChk ⟨th, a, b, c⟩ := ⟨_, rfl⟩
  rw [← hE]
  rw [hchk] at hE
  clear hchk
  rcases setChk_01 th a with ha | ha
  · rcases setChk_01 th b with hb | hb
    · rcases setChk_01 th c with hc | hc
      · rw [ha, hb, hc] at hE
        have HA := Lib.hid ha
        have HB := Lib.hid hb
        have HC := Lib.hid hc
        obtain rfl : E = 0 := hE
        clear ha hb hc
        go_enter Tryd.func12, Tryd.ntmps12
        go_wp2
        have B0 := Blk.new w 28 #[.int .i64 th, .int .i64 a, .int .i64 b, .int .i64 c]
        have L0 : Below w.heap.size w (w.alloc (.cells #[.int .i64 th, .int .i64 a, .int .i64 b, .int .i64 c] 28)) := by (repeat' (first | (with_reducible exact Below.refl _ _) | (with_reducible assumption) | (with_reducible refine Below.next ?_ (by with_reducible assumption)) | (with_reducible refine Below.drew ?_) | (with_reducible refine Below.laid ?_ _) | (with_reducible refine Below.setCell ?_ ?_ _) | (with_reducible refine size_of ?_) | (with_reducible refine Nat.le_succ_of_le ?_) | go_size))
        generalize (w.alloc (.cells #[.int .i64 th, .int .i64 a, .int .i64 b, .int .i64 c] 28)) = W0 at B0 L0 ⊢
        refine wp_loop_rounds 4 ?_
        rw [rounds_succ]
        obtain ⟨c0, c1, c2, c3⟩ := B0.cells4
        go_wp2_with fail
        go_quiet ((go_at_call 29; refine Calls.quiet_of_same (Pure.still (ref_Set _ _ _))))
        rw [HA.out]
        go_wp2
        generalize hW : World.drewN _ _ = W1
        have B1 : Blk W1 w.heap.size 28 #[.int .i64 th, .int .i64 a, .int .i64 b, .int .i64 c] := hW ▸ B0.drewN _
        have L1 : Below w.heap.size w W1 := hW ▸ below_drewN L0 _
        clear hW c0 c1 c2 c3 L0 B0
        rw [rounds_succ]
        obtain ⟨c0, c1, c2, c3⟩ := B1.cells4
        go_wp2_with fail
        go_quiet ((go_at_call 29; refine Calls.quiet_of_same (Pure.still (ref_Set _ _ _))))
        rw [HB.out]
        go_wp2
        generalize hW : World.drewN _ _ = W2
        have B2 : Blk W2 w.heap.size 28 #[.int .i64 th, .int .i64 a, .int .i64 b, .int .i64 c] := hW ▸ B1.drewN _
        have L2 : Below w.heap.size w W2 := hW ▸ below_drewN L1 _
        clear hW c0 c1 c2 c3 L1 B1
        rw [rounds_succ]
        obtain ⟨c0, c1, c2, c3⟩ := B2.cells4
        go_wp2_with fail
        go_quiet ((go_at_call 29; refine Calls.quiet_of_same (Pure.still (ref_Set _ _ _))))
        rw [HC.out]
        go_wp2
        generalize hW : World.drewN _ _ = W3
        have B3 : Blk W3 w.heap.size 28 #[.int .i64 th, .int .i64 a, .int .i64 b, .int .i64 c] := hW ▸ B2.drewN _
        have L3 : Below w.heap.size w W3 := hW ▸ below_drewN L2 _
        clear hW c0 c1 c2 c3 L2 B2
        rw [rounds_succ]
        go_wp2
        go_ret
        exact ⟨rfl, L3⟩
      · rw [ha, hb, hc] at hE
        have HA := Lib.hid ha
        have HB := Lib.hid hb
        have HC := Lib.hid hc
        obtain rfl : E = 1 := hE
        clear ha hb hc
        go_enter Tryd.func12, Tryd.ntmps12
        go_wp2
        have B0 := Blk.new w 28 #[.int .i64 th, .int .i64 a, .int .i64 b, .int .i64 c]
        have L0 : Below w.heap.size w (w.alloc (.cells #[.int .i64 th, .int .i64 a, .int .i64 b, .int .i64 c] 28)) := by (repeat' (first | (with_reducible exact Below.refl _ _) | (with_reducible assumption) | (with_reducible refine Below.next ?_ (by with_reducible assumption)) | (with_reducible refine Below.drew ?_) | (with_reducible refine Below.laid ?_ _) | (with_reducible refine Below.setCell ?_ ?_ _) | (with_reducible refine size_of ?_) | (with_reducible refine Nat.le_succ_of_le ?_) | go_size))
        generalize (w.alloc (.cells #[.int .i64 th, .int .i64 a, .int .i64 b, .int .i64 c] 28)) = W0 at B0 L0 ⊢
        refine wp_loop_rounds 4 ?_
        rw [rounds_succ]
        obtain ⟨c0, c1, c2, c3⟩ := B0.cells4
        go_wp2_with fail
        go_quiet ((go_at_call 29; refine Calls.quiet_of_same (Pure.still (ref_Set _ _ _))))
        rw [HA.out]
        go_wp2
        generalize hW : World.drewN _ _ = W1
        have B1 : Blk W1 w.heap.size 28 #[.int .i64 th, .int .i64 a, .int .i64 b, .int .i64 c] := hW ▸ B0.drewN _
        have L1 : Below w.heap.size w W1 := hW ▸ below_drewN L0 _
        clear hW c0 c1 c2 c3 L0 B0
        rw [rounds_succ]
        obtain ⟨c0, c1, c2, c3⟩ := B1.cells4
        go_wp2_with fail
        go_quiet ((go_at_call 29; refine Calls.quiet_of_same (Pure.still (ref_Set _ _ _))))
        rw [HB.out]
        go_wp2
        generalize hW : World.drewN _ _ = W2
        have B2 : Blk W2 w.heap.size 28 #[.int .i64 th, .int .i64 a, .int .i64 b, .int .i64 c] := hW ▸ B1.drewN _
        have L2 : Below w.heap.size w W2 := hW ▸ below_drewN L1 _
        clear hW c0 c1 c2 c3 L1 B1
        rw [rounds_succ]
        obtain ⟨c0, c1, c2, c3⟩ := B2.cells4
        go_wp2_with fail
        go_quiet ((go_at_call 29; refine Calls.quiet_of_same (Pure.still (ref_Set _ _ _))))
        rw [HC.out]
        go_wp2
        go_ret
        exact ⟨rfl, below_drewN L2 _⟩
    · rw [ha, hb] at hE
      have HA := Lib.hid ha
      have HB := Lib.hid hb
      obtain rfl : E = 1 := hE
      clear ha hb
      go_enter Tryd.func12, Tryd.ntmps12
      go_wp2
      have B0 := Blk.new w 28 #[.int .i64 th, .int .i64 a, .int .i64 b, .int .i64 c]
      have L0 : Below w.heap.size w (w.alloc (.cells #[.int .i64 th, .int .i64 a, .int .i64 b, .int .i64 c] 28)) := by (repeat' (first | (with_reducible exact Below.refl _ _) | (with_reducible assumption) | (with_reducible refine Below.next ?_ (by with_reducible assumption)) | (with_reducible refine Below.drew ?_) | (with_reducible refine Below.laid ?_ _) | (with_reducible refine Below.setCell ?_ ?_ _) | (with_reducible refine size_of ?_) | (with_reducible refine Nat.le_succ_of_le ?_) | go_size))
      generalize (w.alloc (.cells #[.int .i64 th, .int .i64 a, .int .i64 b, .int .i64 c] 28)) = W0 at B0 L0 ⊢
      refine wp_loop_rounds 4 ?_
      rw [rounds_succ]
      obtain ⟨c0, c1, c2, c3⟩ := B0.cells4
      go_wp2_with fail
      go_quiet ((go_at_call 29; refine Calls.quiet_of_same (Pure.still (ref_Set _ _ _))))
      rw [HA.out]
      go_wp2
      generalize hW : World.drewN _ _ = W1
      have B1 : Blk W1 w.heap.size 28 #[.int .i64 th, .int .i64 a, .int .i64 b, .int .i64 c] := hW ▸ B0.drewN _
      have L1 : Below w.heap.size w W1 := hW ▸ below_drewN L0 _
      clear hW c0 c1 c2 c3 L0 B0
      rw [rounds_succ]
      obtain ⟨c0, c1, c2, c3⟩ := B1.cells4
      go_wp2_with fail
      go_quiet ((go_at_call 29; refine Calls.quiet_of_same (Pure.still (ref_Set _ _ _))))
      rw [HB.out]
      go_wp2
      go_ret
      exact ⟨rfl, below_drewN L1 _⟩
  · rw [ha] at hE
    have HA := Lib.hid ha
    obtain rfl : E = 1 := hE
    clear ha
    go_enter Tryd.func12, Tryd.ntmps12
    go_wp2
    have B0 := Blk.new w 28 #[.int .i64 th, .int .i64 a, .int .i64 b, .int .i64 c]
    have L0 : Below w.heap.size w (w.alloc (.cells #[.int .i64 th, .int .i64 a, .int .i64 b, .int .i64 c] 28)) := by (repeat' (first | (with_reducible exact Below.refl _ _) | (with_reducible assumption) | (with_reducible refine Below.next ?_ (by with_reducible assumption)) | (with_reducible refine Below.drew ?_) | (with_reducible refine Below.laid ?_ _) | (with_reducible refine Below.setCell ?_ ?_ _) | (with_reducible refine size_of ?_) | (with_reducible refine Nat.le_succ_of_le ?_) | go_size))
    generalize (w.alloc (.cells #[.int .i64 th, .int .i64 a, .int .i64 b, .int .i64 c] 28)) = W0 at B0 L0 ⊢
    refine wp_loop_rounds 4 ?_
    rw [rounds_succ]
    obtain ⟨c0, c1, c2, c3⟩ := B0.cells4
    go_wp2_with fail
    go_quiet ((go_at_call 29; refine Calls.quiet_of_same (Pure.still (ref_Set _ _ _))))
    rw [HA.out]
    go_wp2
    go_ret
    exact ⟨rfl, below_drewN L0 _⟩

theorem IsInts.front {w : World} {A : Option Addr} {c : Nat} {t' r : List Int} (h : IsInts w (.slice A (t' ++ r).length c) (t' ++ r)) : IsInts w (.slice A t'.length c) t' := by
  obtain ⟨A', c', e, hr, hl, hc⟩ := h
  simp only [Value.slice.injEq] at e
  obtain ⟨rfl, _, rfl⟩ := e
  refine ⟨A, c, rfl, fun j u hj => hr j u ?_, ?_, hc⟩
  · rw [List.map_append, List.getElem?_append_left (by have := (List.getElem?_eq_some_iff.1 hj).1; exact this)]
    exact hj
  · rw [List.length_append] at hl; omega

/-- What the reference's 'in' gives: the last term's answer, and what is ahead of it. -/
def InPost (p : Int → Bool) (x : Bool) (st : List Bool) (t : List Int) (A : Option Addr) (c : Nat) (w : World) (e : Ending) (w' : World) : Prop :=
  ∃ t', e = .returned (.tuple #[.bool x, .slice A t'.length c]) ∧ Below w.heap.size w w' ∧ (∃ r, t = t' ++ r) ∧ t'.length < t.length ∧ Venn.evO p t' [] = some st

end Go.Proofs.YtlpfbdejiifbpaaDoor
