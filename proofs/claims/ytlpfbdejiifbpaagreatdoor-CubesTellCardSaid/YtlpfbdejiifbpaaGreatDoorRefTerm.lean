/-
  THE WALKS of the reference's Term, World, in, In, Value.
-/
import Derived.Test.YtlpfbdejiifbpaaGreatDoorRefSets
import Derived.Test.YtlpfbdejiifbpaaGreatDoorSetsT
import Derived.Test.YtlpfbdejiifbpaaGreatDoorAtomT
import Derived.Test.YtlpfbdejiifbpaaGreatDoorVennP2
import Derived.Deep.QuietTactic
import Derived.BigQuiet
namespace Go.Proofs.YtlpfbdejiifbpaaGreatDoor
open Go.RowKit

set_option maxHeartbeats 2000000 in
set_option maxRecDepth 100000 in
theorem ref_Term (v : Value) (t : List Int) (w : World) (h : IsInts w v t) : Calls Tryz.prog 64 #[v] w (Pure (.int .i64 (Venn.termChk t)) w) := by
  obtain ⟨A, c, rfl, hr, hlc, hc⟩ := h
  unfold maxLen at hc
  obtain ⟨E, hE⟩ : ∃ E, E = Venn.termChk t := ⟨_, rfl⟩
  rw [← hE]
  have HR := Lib.hid hr
  by_cases h0 : t.length = 0
  · have HV := Lib.hid (show E = 5 by rw [hE, Venn.termChk, if_pos h0])
    have e1 : ((t.length : Int) == 0) = true := beq_iff_eq.2 (by omega)
    clear hE h0 hr
    go_enter Tryz.func64, Tryz.ntmps64
    go_wp2
    go_ret
    exact ⟨ret_int HV.out.symm, rfl⟩
  have e1 : ((t.length : Int) == 0) = false := beq_eq_false_iff_ne.2 (by omega)
  by_cases h12 : 12 < t.length
  · have HV := Lib.hid (show E = 4 by rw [hE, Venn.termChk, if_neg h0, if_pos h12])
    have e2 : (12 : Int) < (t.length : Int) := by omega
    clear hE h0 h12 hr
    go_enter Tryz.func64, Tryz.ntmps64
    go_wp2
    go_ret
    exact ⟨ret_int HV.out.symm, rfl⟩
  have e2 : ¬ (12 : Int) < (t.length : Int) := by omega
  have H12 : t.length ≤ 12 := by omega
  have HG := Lib.hid (show E = if t.any Venn.badSign = true then 1 else Venn.shapeGo 0 t by rw [hE, Venn.termChk, if_neg h0, if_neg h12])
  clear hE h0 h12 hr
  go_enter Tryz.func64, Tryz.ntmps64
  go_wp2
  go_loop [3] (fun i => ∃ k : Nat, k ≤ t.length ∧ i = .int .i64 k ∧ (E = if (t.drop k).any Venn.badSign = true then 1 else Venn.shapeGo 0 t) ∧ (∀ y ∈ t.take k, Venn.badSign y = false)) (fun i => t.length - (intOf i).toNat)
  case atStart => exact ⟨0, Nat.zero_le _, rfl, by rw [List.drop_zero]; exact HG.out, by simp⟩
  case round =>
    obtain ⟨k, hk, rfl, hrest, hgood⟩ := hrel
    have HRS := Lib.hid hrest
    have HGD := Lib.hid hgood
    clear hrest hgood
    by_cases hlt : k < t.length
    · obtain ⟨ad, rfl, hcell⟩ := HR.out.int hlt
      have HD := Lib.hid (List.drop_eq_getElem_cons hlt)
      have HT := Lib.hid (List.take_succ_eq_append_getElem hlt)
      generalize t[k] = x at hcell HD HT
      have hk1 : (k : Int) < (t.length : Int) := by omega
      have hk0 : (0 : Int) ≤ (k : Int) := by omega
      cases hb : Venn.badSign x
      · have hx : ¬ x < 0 ∧ ¬ 8 < x := by simp [Venn.badSign] at hb; omega
        have HV := Lib.hid (show E = if (t.drop (k + 1)).any Venn.badSign = true then 1 else Venn.shapeGo 0 t by rw [HRS.out, HD.out, List.any_cons, hb, Bool.false_or])
        have HW := Lib.hid (show ∀ y ∈ t.take (k + 1), Venn.badSign y = false by
          intro y hy
          rw [HT.out] at hy
          rcases List.mem_append.1 hy with h | h
          · exact HGD.out y h
          · rw [List.mem_singleton.1 h]; exact hb)
        obtain ⟨hx0, hx8⟩ := hx
        clear hb
        go_wp2
        go_round
        case rel => exact ⟨k + 1, by omega, by go_num, HV.out, HW.out⟩
        case measure => simp [intOf]; omega
      · have HV := Lib.hid (show E = 1 by rw [HRS.out, HD.out, List.any_cons, hb]; rfl)
        have hx : x < 0 ∨ (¬ x < 0 ∧ 8 < x) := by simp [Venn.badSign] at hb; omega
        clear hb
        rcases hx with hx | ⟨hx, hx8⟩
        all_goals
          go_wp2
          go_ret
          exact ⟨ret_int HV.out.symm, rfl⟩
    · have hkt : k = t.length := by omega
      have HB := Lib.hid (show ∀ y ∈ t, 0 ≤ y ∧ y ≤ 8 by
        intro y hy
        have := HGD.out y (by rw [hkt, List.take_length]; exact hy)
        simp [Venn.badSign] at this
        omega)
      have HV := Lib.hid (show E = Venn.shapeGo 0 t by rw [HRS.out, List.drop_eq_nil_of_le (by omega)]; rfl)
      clear HRS HGD
      go_wp2
      go_loop [4, 5] (fun m i => ∃ (k : Nat) (M : Int), k ≤ t.length ∧ m = .int .i64 M ∧ i = .int .i64 k ∧ 0 ≤ M ∧ M ≤ k ∧ E = Venn.shapeGo M (t.drop k)) (fun _ i => t.length - (intOf i).toNat)
      case atStart => exact ⟨0, 0, Nat.zero_le _, rfl, rfl, by omega, by simp, by rw [List.drop_zero]; exact HV.out⟩
      case round =>
        clear hlt hkt hk
        obtain ⟨k, M, hk, rfl, rfl, hM0, hMk, hrest⟩ := hrel
        have HRS := Lib.hid hrest
        clear hrest
        by_cases hlt : k < t.length
        · obtain ⟨ad, rfl, hcell⟩ := HR.out.int hlt
          have HD := Lib.hid (List.drop_eq_getElem_cons hlt)
          have hx := HB.out _ (List.getElem_mem hlt)
          generalize t[k] = x at hcell HD hx
          have hk1 : (k : Int) < (t.length : Int) := by omega
          have hk0 : (0 : Int) ≤ (k : Int) := by omega
          by_cases h5 : x < 5
          · have ht : Venn.takes x = 0 := by unfold Venn.takes; rw [if_neg (by omega), if_neg (by omega)]
            have HN := Lib.hid (show E = Venn.shapeGo (M + 1) (t.drop (k + 1)) by rw [HRS.out, HD.out, Venn.shapeGo, ht, if_neg (by omega)]; rfl)
            have hw : IntKind.i64.wrap (M + 1) = M + 1 := IntWalk.i64_in _ (by omega)
            clear ht
            go_wp2
            go_round
            case rel => exact ⟨k + 1, M + 1, by omega, rfl, by go_num, by omega, by omega, HN.out⟩
            case measure => simp [intOf]; omega
          · by_cases h8 : x = 8
            · subst h8
              by_cases hm : M < 1
              · have HN := Lib.hid (show E = 3 by rw [HRS.out, HD.out, Venn.shapeGo, if_pos (show M < Venn.takes 8 from hm)])
                go_wp2
                go_ret
                exact ⟨ret_int HN.out.symm, rfl⟩
              · have HN := Lib.hid (show E = Venn.shapeGo M (t.drop (k + 1)) by
                  rw [HRS.out, HD.out, Venn.shapeGo, if_neg (show ¬ M < Venn.takes 8 from hm), show M + (1 - Venn.takes 8) = M by show M + (1 - 1) = M; omega])
                go_wp2
                go_round
                case rel => exact ⟨k + 1, M, by omega, rfl, by go_num, by omega, by omega, HN.out⟩
                case measure => simp [intOf]; omega
            · have hx8 : x < 8 := by omega
              have ht : Venn.takes x = 2 := by unfold Venn.takes; rw [if_neg h8, if_pos (by omega)]
              by_cases hm : M < 2
              · have HN := Lib.hid (show E = 3 by rw [HRS.out, HD.out, Venn.shapeGo, ht, if_pos hm])
                clear ht
                rcases (by omega : M < 1 ∨ ¬ M < 1) with hm1 | hm1
                all_goals
                  go_wp2
                  go_ret
                  exact ⟨ret_int HN.out.symm, rfl⟩
              · have HN := Lib.hid (show E = Venn.shapeGo (M - 1) (t.drop (k + 1)) by rw [HRS.out, HD.out, Venn.shapeGo, ht, if_neg hm, show M + (1 - 2 : Int) = M - 1 by omega])
                have hm1 : ¬ M < 1 := by omega
                have hw : IntKind.i64.wrap (M - 1) = M - 1 := IntWalk.i64_in _ (by omega)
                clear ht
                go_wp2
                go_round
                case rel => exact ⟨k + 1, M - 1, by omega, rfl, by go_num, by omega, by omega, HN.out⟩
                case measure => simp [intOf]; omega
        · have HN := Lib.hid (show E = if M = 1 then 0 else 3 by rw [HRS.out, List.drop_eq_nil_of_le (by omega)]; rfl)
          by_cases hm : M = 1
          · subst hm
            go_wp2
            go_ret
            exact ⟨ret_int (by rw [HN.out]; rfl), rfl⟩
          · have hne : (M != 1) = true := by simpa using hm
            go_wp2
            go_ret
            exact ⟨ret_int (by rw [HN.out, if_neg hm]), rfl⟩

set_option maxHeartbeats 1000000 in
set_option maxRecDepth 100000 in
theorem ref_World (th a b c : Int) (w : World) : Calls Tryz.prog 15 #[.agg #[.int .i64 th, .int .i64 a, .int .i64 b, .int .i64 c]] w (Keeps (.int .i64 (Venn.worldChk ⟨th, a, b, c⟩)) w) := by
  have hchk : Venn.worldChk ⟨th, a, b, c⟩ = if Venn.setChk th a = 0 then (if Venn.setChk th b = 0 then Venn.setChk th c else 1) else 1 := by
    unfold Venn.worldChk
    simp only
    cases ht : Venn.things th
    · have : ∀ s, Venn.setChk th s = 1 := fun s => by simp [Venn.setChk, ht]
      simp [this]
    · simp
  obtain ⟨E, hE⟩ : ∃ E, E = Venn.worldChk ⟨th, a, b, c⟩ := ⟨_, rfl⟩
  rw [← hE]
  rw [hchk] at hE
  clear hchk
  rcases setChk_01 th a with ha | ha
  · rcases setChk_01 th b with hb | hb
    · rcases setChk_01 th c with hc | hc
      · rw [ha, hb, hc] at hE
        have HA := Lib.hid ha
        have HB := Lib.hid hb
        have HC := Lib.hid hc
        obtain rfl : E = 0 := hE
        clear ha hb hc
        go_enter Tryz.func15, Tryz.ntmps15
        go_wp2
        have B0 := Blk.new w 29 #[.int .i64 th, .int .i64 a, .int .i64 b, .int .i64 c]
        have L0 : Below w.heap.size w (w.alloc (.cells #[.int .i64 th, .int .i64 a, .int .i64 b, .int .i64 c] 29)) := by (repeat' (first | (with_reducible exact Below.refl _ _) | (with_reducible assumption) | (with_reducible refine Below.next ?_ (by with_reducible assumption)) | (with_reducible refine Below.drew ?_) | (with_reducible refine Below.laid ?_ _) | (with_reducible refine Below.setCell ?_ ?_ _) | (with_reducible refine size_of ?_) | (with_reducible refine Nat.le_succ_of_le ?_) | go_size))
        generalize (w.alloc (.cells #[.int .i64 th, .int .i64 a, .int .i64 b, .int .i64 c] 29)) = W0 at B0 L0 ⊢
        refine wp_loop_rounds 4 ?_
        rw [rounds_succ]
        obtain ⟨c0, c1, c2, c3⟩ := B0.cells4
        go_wp2_with fail
        go_quiet ((go_at_call 39; refine Calls.quiet_of_same (Pure.still (ref_Set _ _ _))))
        rw [HA.out]
        go_wp2
        generalize hW : World.drewN _ _ = W1
        have B1 : Blk W1 w.heap.size 29 #[.int .i64 th, .int .i64 a, .int .i64 b, .int .i64 c] := hW ▸ B0.drewN _
        have L1 : Below w.heap.size w W1 := hW ▸ below_drewN L0 _
        clear hW c0 c1 c2 c3 L0 B0
        rw [rounds_succ]
        obtain ⟨c0, c1, c2, c3⟩ := B1.cells4
        go_wp2_with fail
        go_quiet ((go_at_call 39; refine Calls.quiet_of_same (Pure.still (ref_Set _ _ _))))
        rw [HB.out]
        go_wp2
        generalize hW : World.drewN _ _ = W2
        have B2 : Blk W2 w.heap.size 29 #[.int .i64 th, .int .i64 a, .int .i64 b, .int .i64 c] := hW ▸ B1.drewN _
        have L2 : Below w.heap.size w W2 := hW ▸ below_drewN L1 _
        clear hW c0 c1 c2 c3 L1 B1
        rw [rounds_succ]
        obtain ⟨c0, c1, c2, c3⟩ := B2.cells4
        go_wp2_with fail
        go_quiet ((go_at_call 39; refine Calls.quiet_of_same (Pure.still (ref_Set _ _ _))))
        rw [HC.out]
        go_wp2
        generalize hW : World.drewN _ _ = W3
        have B3 : Blk W3 w.heap.size 29 #[.int .i64 th, .int .i64 a, .int .i64 b, .int .i64 c] := hW ▸ B2.drewN _
        have L3 : Below w.heap.size w W3 := hW ▸ below_drewN L2 _
        clear hW c0 c1 c2 c3 L2 B2
        rw [rounds_succ]
        go_wp2
        go_ret
        exact ⟨rfl, L3⟩
      · rw [ha, hb, hc] at hE
        have HA := Lib.hid ha
        have HB := Lib.hid hb
        have HC := Lib.hid hc
        obtain rfl : E = 1 := hE
        clear ha hb hc
        go_enter Tryz.func15, Tryz.ntmps15
        go_wp2
        have B0 := Blk.new w 29 #[.int .i64 th, .int .i64 a, .int .i64 b, .int .i64 c]
        have L0 : Below w.heap.size w (w.alloc (.cells #[.int .i64 th, .int .i64 a, .int .i64 b, .int .i64 c] 29)) := by (repeat' (first | (with_reducible exact Below.refl _ _) | (with_reducible assumption) | (with_reducible refine Below.next ?_ (by with_reducible assumption)) | (with_reducible refine Below.drew ?_) | (with_reducible refine Below.laid ?_ _) | (with_reducible refine Below.setCell ?_ ?_ _) | (with_reducible refine size_of ?_) | (with_reducible refine Nat.le_succ_of_le ?_) | go_size))
        generalize (w.alloc (.cells #[.int .i64 th, .int .i64 a, .int .i64 b, .int .i64 c] 29)) = W0 at B0 L0 ⊢
        refine wp_loop_rounds 4 ?_
        rw [rounds_succ]
        obtain ⟨c0, c1, c2, c3⟩ := B0.cells4
        go_wp2_with fail
        go_quiet ((go_at_call 39; refine Calls.quiet_of_same (Pure.still (ref_Set _ _ _))))
        rw [HA.out]
        go_wp2
        generalize hW : World.drewN _ _ = W1
        have B1 : Blk W1 w.heap.size 29 #[.int .i64 th, .int .i64 a, .int .i64 b, .int .i64 c] := hW ▸ B0.drewN _
        have L1 : Below w.heap.size w W1 := hW ▸ below_drewN L0 _
        clear hW c0 c1 c2 c3 L0 B0
        rw [rounds_succ]
        obtain ⟨c0, c1, c2, c3⟩ := B1.cells4
        go_wp2_with fail
        go_quiet ((go_at_call 39; refine Calls.quiet_of_same (Pure.still (ref_Set _ _ _))))
        rw [HB.out]
        go_wp2
        generalize hW : World.drewN _ _ = W2
        have B2 : Blk W2 w.heap.size 29 #[.int .i64 th, .int .i64 a, .int .i64 b, .int .i64 c] := hW ▸ B1.drewN _
        have L2 : Below w.heap.size w W2 := hW ▸ below_drewN L1 _
        clear hW c0 c1 c2 c3 L1 B1
        rw [rounds_succ]
        obtain ⟨c0, c1, c2, c3⟩ := B2.cells4
        go_wp2_with fail
        go_quiet ((go_at_call 39; refine Calls.quiet_of_same (Pure.still (ref_Set _ _ _))))
        rw [HC.out]
        go_wp2
        go_ret
        exact ⟨rfl, below_drewN L2 _⟩
    · rw [ha, hb] at hE
      have HA := Lib.hid ha
      have HB := Lib.hid hb
      obtain rfl : E = 1 := hE
      clear ha hb
      go_enter Tryz.func15, Tryz.ntmps15
      go_wp2
      have B0 := Blk.new w 29 #[.int .i64 th, .int .i64 a, .int .i64 b, .int .i64 c]
      have L0 : Below w.heap.size w (w.alloc (.cells #[.int .i64 th, .int .i64 a, .int .i64 b, .int .i64 c] 29)) := by (repeat' (first | (with_reducible exact Below.refl _ _) | (with_reducible assumption) | (with_reducible refine Below.next ?_ (by with_reducible assumption)) | (with_reducible refine Below.drew ?_) | (with_reducible refine Below.laid ?_ _) | (with_reducible refine Below.setCell ?_ ?_ _) | (with_reducible refine size_of ?_) | (with_reducible refine Nat.le_succ_of_le ?_) | go_size))
      generalize (w.alloc (.cells #[.int .i64 th, .int .i64 a, .int .i64 b, .int .i64 c] 29)) = W0 at B0 L0 ⊢
      refine wp_loop_rounds 4 ?_
      rw [rounds_succ]
      obtain ⟨c0, c1, c2, c3⟩ := B0.cells4
      go_wp2_with fail
      go_quiet ((go_at_call 39; refine Calls.quiet_of_same (Pure.still (ref_Set _ _ _))))
      rw [HA.out]
      go_wp2
      generalize hW : World.drewN _ _ = W1
      have B1 : Blk W1 w.heap.size 29 #[.int .i64 th, .int .i64 a, .int .i64 b, .int .i64 c] := hW ▸ B0.drewN _
      have L1 : Below w.heap.size w W1 := hW ▸ below_drewN L0 _
      clear hW c0 c1 c2 c3 L0 B0
      rw [rounds_succ]
      obtain ⟨c0, c1, c2, c3⟩ := B1.cells4
      go_wp2_with fail
      go_quiet ((go_at_call 39; refine Calls.quiet_of_same (Pure.still (ref_Set _ _ _))))
      rw [HB.out]
      go_wp2
      go_ret
      exact ⟨rfl, below_drewN L1 _⟩
  · rw [ha] at hE
    have HA := Lib.hid ha
    obtain rfl : E = 1 := hE
    clear ha
    go_enter Tryz.func15, Tryz.ntmps15
    go_wp2
    have B0 := Blk.new w 29 #[.int .i64 th, .int .i64 a, .int .i64 b, .int .i64 c]
    have L0 : Below w.heap.size w (w.alloc (.cells #[.int .i64 th, .int .i64 a, .int .i64 b, .int .i64 c] 29)) := by (repeat' (first | (with_reducible exact Below.refl _ _) | (with_reducible assumption) | (with_reducible refine Below.next ?_ (by with_reducible assumption)) | (with_reducible refine Below.drew ?_) | (with_reducible refine Below.laid ?_ _) | (with_reducible refine Below.setCell ?_ ?_ _) | (with_reducible refine size_of ?_) | (with_reducible refine Nat.le_succ_of_le ?_) | go_size))
    generalize (w.alloc (.cells #[.int .i64 th, .int .i64 a, .int .i64 b, .int .i64 c] 29)) = W0 at B0 L0 ⊢
    refine wp_loop_rounds 4 ?_
    rw [rounds_succ]
    obtain ⟨c0, c1, c2, c3⟩ := B0.cells4
    go_wp2_with fail
    go_quiet ((go_at_call 39; refine Calls.quiet_of_same (Pure.still (ref_Set _ _ _))))
    rw [HA.out]
    go_wp2
    go_ret
    exact ⟨rfl, below_drewN L0 _⟩

theorem IsInts.front {w : World} {A : Option Addr} {c : Nat} {t' r : List Int} (h : IsInts w (.slice A (t' ++ r).length c) (t' ++ r)) : IsInts w (.slice A t'.length c) t' := by
  obtain ⟨A', c', e, hr, hl, hc⟩ := h
  simp only [Value.slice.injEq] at e
  obtain ⟨rfl, _, rfl⟩ := e
  refine ⟨A, c, rfl, fun j u hj => hr j u ?_, ?_, hc⟩
  · rw [List.map_append, List.getElem?_append_left (by have := (List.getElem?_eq_some_iff.1 hj).1; exact this)]
    exact hj
  · rw [List.length_append] at hl; omega

/-- What the reference's 'in' gives: the last term's answer, and what is ahead of it. -/
def InPost (p : Int → Bool) (x : Bool) (st : List Bool) (t : List Int) (A : Option Addr) (c : Nat) (w : World) (e : Ending) (w' : World) : Prop :=
  ∃ t', e = .returned (.tuple #[.bool x, .slice A t'.length c]) ∧ Below w.heap.size w w' ∧ (∃ r, t = t' ++ r) ∧ t'.length < t.length ∧ Venn.evO p t' [] = some st

set_option maxHeartbeats 4000000 in
set_option maxRecDepth 100000 in
theorem ref_in (th a b c : Int) (hw : Venn.worldChk ⟨th, a, b, c⟩ = 0) (i : Nat) (hi : (i : Int) < th) : ∀ (n : Nat) (t : List Int) (x : Bool) (st : List Bool) (A : Option Addr) (cp : Nat) (w : World), t.length = n → n ≤ 12 → (∀ y ∈ t, 0 ≤ y ∧ y ≤ 8) →
    IsInts w (.slice A t.length cp) t → Venn.evO (fun k => Venn.bit ((⟨th, a, b, c⟩ : Venn.World).has k) i) t [] = some (x :: st) →
    Calls Tryz.prog 92 #[.slice A t.length cp, .agg #[.int .i64 th, .int .i64 a, .int .i64 b, .int .i64 c], .int .i64 i] w (InPost (fun k => Venn.bit ((⟨th, a, b, c⟩ : Venn.World).has k) i) x st t A cp w) := by
  obtain ⟨h0, ha, hb, hc⟩ := Venn.worldChk_iff.1 hw
  have h6 : th ≤ 6 := by have := h0; simp only [Venn.things, Bool.and_eq_true, decide_eq_true_eq] at this; exact this.2
  have ha6 := setChk_63 ha
  have hb6 := setChk_63 hb
  have hc6 := setChk_63 hc
  have HP : ∃ p : Int → Bool, p = fun k => Venn.bit ((⟨th, a, b, c⟩ : Venn.World).has k) i := ⟨_, rfl⟩
  obtain ⟨p, hp⟩ := HP
  rw [← hp]
  have p0 : p 0 = Venn.bit a i := by rw [hp]; rfl
  have p1 : p 1 = Venn.bit b i := by rw [hp]; rfl
  have p2 : p 2 = Venn.bit c i := by rw [hp]; rfl
  have P0 := Lib.hid p0
  have P1 := Lib.hid p1
  have P2 := Lib.hid p2
  have hi5 : (i : Int) ≤ 5 := by omega
  have hi0 : (0 : Int) ≤ (i : Int) := by omega
  clear hp p0 p1 p2 ha hb hc h0 hw
  intro n
  induction n using Nat.strongRecOn with
  | ind n ih =>
    intro t x st A cp w hn h12 hs hint hev
    have IH := Lib.hid ih
    clear ih
    rcases List.eq_nil_or_concat t with rfl | ⟨t', s, rfl⟩
    · simp [Venn.evO] at hev
    rw [List.concat_eq_append] at hn hs hint hev ⊢
    have hs' := hs s (by simp)
    have HS := Lib.hid (show ∀ y ∈ t', 0 ≤ y ∧ y ≤ 8 from fun y hy => hs y (by simp [hy]))
    have HF := Lib.hid hint.front
    have HI := Lib.hid hint
    have hlen : (t' ++ [s]).length = t'.length + 1 := by simp
    have hnm : n = t'.length + 1 := by omega
    have hcell : ∃ ad, A = some ad ∧ w.cell? (ad.add t'.length) = some (.int .i64 s) := by
      obtain ⟨A', c', e, hr, _, _⟩ := hint
      simp only [Value.slice.injEq] at e
      obtain ⟨rfl, _, rfl⟩ := e
      obtain ⟨ad, h1, h2⟩ := hr.int (k := t'.length) (by rw [hlen]; omega)
      refine ⟨ad, h1, ?_⟩
      rw [h2]
      simp
    have hcap : t'.length + 1 ≤ cp ∧ cp ≤ maxLen := by
      obtain ⟨A', c', e, _, h1, h2⟩ := hint
      simp only [Value.slice.injEq] at e
      obtain ⟨_, _, rfl⟩ := e
      rw [hlen] at h1
      exact ⟨by omega, h2⟩
    obtain ⟨ad, rfl, hcell⟩ := hcell
    unfold maxLen at hcap
    have HEV := Lib.hid (Venn.evO_last hs' hev)
    have hw1 : IntKind.i64.wrap (((t'.length : Int) + 1) - 1) = (t'.length : Int) := by rw [show ((t'.length : Int) + 1) - 1 = (t'.length : Int) by omega]; exact IntWalk.i64_in _ (by omega)
    have HREC : ∀ (y : Bool) (st' : List Bool) (W : World), Below w.heap.size w W → Venn.evO p t' [] = some (y :: st') → Calls Tryz.prog 92 #[.slice (some ad) t'.length cp, .agg #[.int .i64 th, .int .i64 a, .int .i64 b, .int .i64 c], .int .i64 i] W (InPost p y st' t' (some ad) cp W) := fun y st' W hbW hy =>
      IH.out t'.length (by omega) t' y st' (some ad) cp W rfl (by omega) HS.out (HF.out.keep hbW) hy
    have HREC2 : ∀ (t'' : List Int) (y : Bool) (st' : List Bool) (W : World), (∃ r, t' = t'' ++ r) → t''.length < t'.length → Below w.heap.size w W → Venn.evO p t'' [] = some (y :: st') → Calls Tryz.prog 92 #[.slice (some ad) t''.length cp, .agg #[.int .i64 th, .int .i64 a, .int .i64 b, .int .i64 c], .int .i64 i] W (InPost p y st' t'' (some ad) cp W) := by
      rintro t'' y st' W ⟨r, hr⟩ hlt hbW hy
      have h1 : IsInts w (.slice (some ad) t''.length cp) t'' := by
        have := HF.out
        rw [hr] at this
        exact this.front
      exact IH.out t''.length (by omega) t'' y st' (some ad) cp W rfl (by omega) (fun y hy => HS.out y (by rw [hr]; simp [hy])) (h1.keep hbW) hy
    have HR := Lib.hid HREC
    have HR2 := Lib.hid HREC2
    have HPRE : ∀ (t'' : List Int), (∃ r, t' = t'' ++ r) → (∃ r, t' ++ [s] = t'' ++ r) := fun _ ⟨r, hr⟩ => ⟨r ++ [s], by rw [hr]; simp⟩
    have HPR := Lib.hid HPRE
    rw [hlen]
    clear hs hint hev HREC HREC2 HPRE
    have hm0 : (0 : Int) ≤ (t'.length : Int) := by omega
    have hm1 : (t'.length : Int) < (t'.length : Int) + 1 := by omega
    have hm2 : (t'.length : Int) ≤ (cp : Int) := by omega
    have hcell2 := cell_keep (w' := w.alloc (.cells #[.int .i64 th, .int .i64 a, .int .i64 b, .int .i64 c] 29)) (by (repeat' (first | (with_reducible exact Below.refl _ _) | (with_reducible assumption) | (with_reducible refine Below.next ?_ (by with_reducible assumption)) | (with_reducible refine Below.drew ?_) | (with_reducible refine Below.laid ?_ _) | (with_reducible refine Below.setCell ?_ ?_ _) | (with_reducible refine size_of ?_) | (with_reducible refine Nat.le_succ_of_le ?_) | go_size))) hcell
    clear hcell
    rcases HEV.out with ⟨h3, hx, hst⟩ | ⟨h34, hx, hst⟩ | ⟨y, h8, hx, hst⟩ | ⟨y, z, h5, h7, hx, hst⟩
    · have HST := Lib.hid hst
      have HX := Lib.hid hx
      clear hx hst hlen
      rcases (by omega : s = 0 ∨ s = 1 ∨ s = 2) with rfl | rfl | rfl
      · go_enter Tryz.func92, Tryz.ntmps92
        go_wp2_with (go_at_call 71; refine (ref_Has _ _ _ (by assumption) (by omega)).mono ?_; rintro e w' ⟨rfl, rfl⟩; rw [Int.toNat_natCast])
        go_ret2
        exact ⟨t', by rw [HX.out, P0.out]; rfl, by (repeat' (first | (with_reducible exact Below.refl _ _) | (with_reducible assumption) | (with_reducible refine Below.next ?_ (by with_reducible assumption)) | (with_reducible refine Below.drew ?_) | (with_reducible refine Below.laid ?_ _) | (with_reducible refine Below.setCell ?_ ?_ _) | (with_reducible refine size_of ?_) | (with_reducible refine Nat.le_succ_of_le ?_) | go_size)), ⟨_, rfl⟩, by simp, HST.out⟩
      · go_enter Tryz.func92, Tryz.ntmps92
        go_wp2_with (go_at_call 71; refine (ref_Has _ _ _ (by assumption) (by omega)).mono ?_; rintro e w' ⟨rfl, rfl⟩; rw [Int.toNat_natCast])
        go_ret2
        exact ⟨t', by rw [HX.out, P1.out]; rfl, by (repeat' (first | (with_reducible exact Below.refl _ _) | (with_reducible assumption) | (with_reducible refine Below.next ?_ (by with_reducible assumption)) | (with_reducible refine Below.drew ?_) | (with_reducible refine Below.laid ?_ _) | (with_reducible refine Below.setCell ?_ ?_ _) | (with_reducible refine size_of ?_) | (with_reducible refine Nat.le_succ_of_le ?_) | go_size)), ⟨_, rfl⟩, by simp, HST.out⟩
      · go_enter Tryz.func92, Tryz.ntmps92
        go_wp2_with (go_at_call 71; refine (ref_Has _ _ _ (by assumption) (by omega)).mono ?_; rintro e w' ⟨rfl, rfl⟩; rw [Int.toNat_natCast])
        go_ret2
        exact ⟨t', by rw [HX.out, P2.out]; rfl, by (repeat' (first | (with_reducible exact Below.refl _ _) | (with_reducible assumption) | (with_reducible refine Below.next ?_ (by with_reducible assumption)) | (with_reducible refine Below.drew ?_) | (with_reducible refine Below.laid ?_ _) | (with_reducible refine Below.setCell ?_ ?_ _) | (with_reducible refine size_of ?_) | (with_reducible refine Nat.le_succ_of_le ?_) | go_size)), ⟨_, rfl⟩, by simp, HST.out⟩
    · have HST := Lib.hid hst
      have HX := Lib.hid hx
      clear hx hst hlen
      rcases h34 with rfl | rfl
      all_goals
        go_enter Tryz.func92, Tryz.ntmps92
        go_wp2
        go_ret2
        exact ⟨t', by rw [HX.out]; rfl, by (repeat' (first | (with_reducible exact Below.refl _ _) | (with_reducible assumption) | (with_reducible refine Below.next ?_ (by with_reducible assumption)) | (with_reducible refine Below.drew ?_) | (with_reducible refine Below.laid ?_ _) | (with_reducible refine Below.setCell ?_ ?_ _) | (with_reducible refine size_of ?_) | (with_reducible refine Nat.le_succ_of_le ?_) | go_size)), ⟨_, rfl⟩, by simp, HST.out⟩
    · subst h8
      have HST := Lib.hid hst
      have HX := Lib.hid hx
      clear hx hst hlen
      go_enter Tryz.func92, Tryz.ntmps92
      go_wp2_with (go_at_call 92; refine (HR.out y st _ (by (repeat' (first | (with_reducible exact Below.refl _ _) | (with_reducible assumption) | (with_reducible refine Below.next ?_ (by with_reducible assumption)) | (with_reducible refine Below.drew ?_) | (with_reducible refine Below.laid ?_ _) | (with_reducible refine Below.setCell ?_ ?_ _) | (with_reducible refine size_of ?_) | (with_reducible refine Nat.le_succ_of_le ?_) | go_size))) HST.out).mono ?_; rintro e w1 ⟨t1, rfl, hb1, hr1, hl1, he1⟩)
      go_ret2
      exact ⟨t1, by rw [HX.out]; rfl, by (repeat' (first | (with_reducible exact Below.refl _ _) | (with_reducible assumption) | (with_reducible refine Below.next ?_ (by with_reducible assumption)) | (with_reducible refine Below.drew ?_) | (with_reducible refine Below.laid ?_ _) | (with_reducible refine Below.setCell ?_ ?_ _) | (with_reducible refine size_of ?_) | (with_reducible refine Nat.le_succ_of_le ?_) | go_size)), HPR.out _ hr1, by simp; omega, he1⟩
    · have HST := Lib.hid hst
      have HX := Lib.hid hx
      clear hx hst hlen
      rcases (by omega : s = 5 ∨ s = 6 ∨ s = 7) with rfl | rfl | rfl
      all_goals
        go_enter Tryz.func92, Tryz.ntmps92
        go_wp2_with fail
        refine (HR.out z (y :: st) _ (by (repeat' (first | (with_reducible exact Below.refl _ _) | (with_reducible assumption) | (with_reducible refine Below.next ?_ (by with_reducible assumption)) | (with_reducible refine Below.drew ?_) | (with_reducible refine Below.laid ?_ _) | (with_reducible refine Below.setCell ?_ ?_ _) | (with_reducible refine size_of ?_) | (with_reducible refine Nat.le_succ_of_le ?_) | go_size))) HST.out).mono ?_
        rintro e w1 ⟨t1, rfl, hb1, hr1, hl1, he1⟩
        obtain ⟨e0, e1, e2, e3⟩ := ((Blk.new w 29 #[.int .i64 th, .int .i64 a, .int .i64 b, .int .i64 c]).keep hb1).cells4
        go_wp2_with fail
        refine (HR2.out t1 y st _ hr1 hl1 (by (repeat' (first | (with_reducible exact Below.refl _ _) | (with_reducible assumption) | (with_reducible refine Below.next ?_ (by with_reducible assumption)) | (with_reducible refine Below.drew ?_) | (with_reducible refine Below.laid ?_ _) | (with_reducible refine Below.setCell ?_ ?_ _) | (with_reducible refine size_of ?_) | (with_reducible refine Nat.le_succ_of_le ?_) | go_size))) he1).mono ?_
        rintro e w2 ⟨t2, rfl, hb2, hr2, hl2, he2⟩
        have HRR := Lib.hid (show ∃ r, t' = t2 ++ r by
          obtain ⟨r, hr⟩ := hr1
          obtain ⟨r', hr'⟩ := hr2
          exact ⟨r' ++ r, by rw [hr, hr', List.append_assoc]⟩)
        cases y <;> cases z
        all_goals
          go_wp2
          go_ret2
          exact ⟨t2, by rw [HX.out]; rfl, by (repeat' (first | (with_reducible exact Below.refl _ _) | (with_reducible assumption) | (with_reducible refine Below.next ?_ (by with_reducible assumption)) | (with_reducible refine Below.drew ?_) | (with_reducible refine Below.laid ?_ _) | (with_reducible refine Below.setCell ?_ ?_ _) | (with_reducible refine size_of ?_) | (with_reducible refine Nat.le_succ_of_le ?_) | go_size)), HPR.out _ HRR.out, by simp; omega, he2⟩

set_option maxHeartbeats 1000000 in
theorem ref_In (v : Value) (t : List Int) (th a b c : Int) (i : Nat) (w : World) (h : IsInts w v t) (ht : Venn.termChk t = 0) (hw : Venn.worldChk ⟨th, a, b, c⟩ = 0) (hi : (i : Int) < th) :
    Calls Tryz.prog 70 #[v, .agg #[.int .i64 th, .int .i64 a, .int .i64 b, .int .i64 c], .int .i64 i] w (Keeps (.bool (Venn.bit (Venn.termSet t ⟨th, a, b, c⟩) i)) w) := by
  obtain ⟨A, cp, rfl, hrest⟩ := h
  have HI := Lib.hid (show IsInts w (.slice A t.length cp) t from ⟨A, cp, rfl, hrest⟩)
  clear hrest
  have hp := Venn.termChk_parts ht
  have HV := Lib.hid (Venn.bit_termSet ht ⟨th, a, b, c⟩ (show i < th.toNat by omega))
  have HC := Lib.hid (fun W hW => ref_in th a b c hw i hi t.length t _ _ A cp W rfl hp.2.1 hp.2.2.1 (HI.out.keep hW) (Venn.evO_term ht _))
  clear hp ht hw
  rw [HV.out]
  generalize Venn.evT t (fun k => Venn.bit ((⟨th, a, b, c⟩ : Venn.World).has k) i) = x at HC
  go_enter Tryz.func70, Tryz.ntmps70
  go_wp2_with (go_at_call 92; refine (HC.out _ (by (repeat' (first | (with_reducible exact Below.refl _ _) | (with_reducible assumption) | (with_reducible refine Below.next ?_ (by with_reducible assumption)) | (with_reducible refine Below.drew ?_) | (with_reducible refine Below.laid ?_ _) | (with_reducible refine Below.setCell ?_ ?_ _) | (with_reducible refine size_of ?_) | (with_reducible refine Nat.le_succ_of_le ?_) | go_size)))).mono ?_; rintro e w1 ⟨t1, rfl, hb1, hr1, hl1, he1⟩)
  go_ret
  exact ⟨rfl, by (repeat' (first | (with_reducible exact Below.refl _ _) | (with_reducible assumption) | (with_reducible refine Below.next ?_ (by with_reducible assumption)) | (with_reducible refine Below.drew ?_) | (with_reducible refine Below.laid ?_ _) | (with_reducible refine Below.setCell ?_ ?_ _) | (with_reducible refine size_of ?_) | (with_reducible refine Nat.le_succ_of_le ?_) | go_size))⟩

set_option maxHeartbeats 1000000 in
set_option maxRecDepth 100000 in
theorem ref_Value (v : Value) (t : List Int) (th a b c : Int) (w : World) (h : IsInts w v t) (ht : Venn.termChk t = 0) (hw : Venn.worldChk ⟨th, a, b, c⟩ = 0) :
    Calls Tryz.prog 40 #[v, .agg #[.int .i64 th, .int .i64 a, .int .i64 b, .int .i64 c]] w (Keeps (.int .i64 (Venn.termSet t ⟨th, a, b, c⟩)) w) := by
  obtain ⟨A, cp, rfl, hrest⟩ := h
  have HI := Lib.hid (show IsInts w (.slice A t.length cp) t from ⟨A, cp, rfl, hrest⟩)
  clear hrest
  have hth := (Venn.worldChk_iff.1 hw).1
  simp only [Venn.things, Bool.and_eq_true, decide_eq_true_eq] at hth
  obtain ⟨T, rfl⟩ := Int.eq_ofNat_of_zero_le hth.1
  have HN := Lib.hid (fun (i : Nat) (hi : (i : Int) < (T : Int)) W hW => ref_In (.slice A t.length cp) t T a b c i W (HI.out.keep hW) ht hw hi)
  have HE := Lib.hid (Venn.bitsTo_self (Venn.termSet_right hw t))
  generalize Venn.termSet t ⟨T, a, b, c⟩ = S at HN HE ⊢
  simp only [Int.toNat_natCast] at HE
  clear ht hw
  go_enter Tryz.func40, Tryz.ntmps40
  go_wp2
  go_loopw [5, 6] (fun s i wr => ∃ k : Nat, k ≤ T ∧ i = .int .i64 k ∧ s = .int .i64 (Venn.bitsTo S k) ∧ Below w.heap.size w wr ∧ Blk wr w.heap.size 29 #[.int .i64 T, .int .i64 a, .int .i64 b, .int .i64 c]) (fun _ i _ => T - (intOf i).toNat)
  case atStart => exact ⟨0, Nat.zero_le _, rfl, rfl, by (repeat' (first | (with_reducible exact Below.refl _ _) | (with_reducible assumption) | (with_reducible refine Below.next ?_ (by with_reducible assumption)) | (with_reducible refine Below.drew ?_) | (with_reducible refine Below.laid ?_ _) | (with_reducible refine Below.setCell ?_ ?_ _) | (with_reducible refine size_of ?_) | (with_reducible refine Nat.le_succ_of_le ?_) | go_size)), Blk.new _ _ _⟩
  case round =>
    obtain ⟨k, hk, rfl, rfl, hb, hB⟩ := hrel
    obtain ⟨wo, rfl⟩ : ∃ wo : World, wo = wr := ⟨_, rfl⟩
    obtain ⟨c0, c1, c2, c3⟩ := hB.cells4
    by_cases hlt : (k : Int) < (T : Int)
    · have hr := Venn.bitsTo_range S k
      have h2 : 2 ^ k ≤ 2 ^ 6 := Nat.pow_le_pow_right (by omega) (by omega)
      have HP := Lib.hid (fun W => ref_Power (k : Int) W (by omega))
      rw [Int.toNat_natCast] at HP
      cases hbk : Venn.bit S k
      · have HX := Lib.hid hbk
        have HS := Lib.hid (show Venn.bitsTo S (k + 1) = Venn.bitsTo S k by rw [Venn.bitsTo, hbk]; rfl)
        clear hbk
        go_wp2_with (go_at_call 70; refine (HN.out k hlt _ (by (repeat' (first | (with_reducible exact Below.refl _ _) | (with_reducible assumption) | (with_reducible refine Below.next ?_ (by with_reducible assumption)) | (with_reducible refine Below.drew ?_) | (with_reducible refine Below.laid ?_ _) | (with_reducible refine Below.setCell ?_ ?_ _) | (with_reducible refine size_of ?_) | (with_reducible refine Nat.le_succ_of_le ?_) | go_size)))).mono ?_; rintro e w1 ⟨rfl, hb1⟩; rw [HX.out])
        go_roundw
        case rel => exact ⟨k + 1, by omega, by go_num, by rw [HS.out], by (repeat' (first | (with_reducible exact Below.refl _ _) | (with_reducible assumption) | (with_reducible refine Below.next ?_ (by with_reducible assumption)) | (with_reducible refine Below.drew ?_) | (with_reducible refine Below.laid ?_ _) | (with_reducible refine Below.setCell ?_ ?_ _) | (with_reducible refine size_of ?_) | (with_reducible refine Nat.le_succ_of_le ?_) | go_size)), hB.keep hb1⟩
        case measure => simp [intOf]; omega
      · have HX := Lib.hid hbk
        have HS := Lib.hid (show Venn.bitsTo S (k + 1) = Venn.bitsTo S k + ((2 ^ k : Nat) : Int) by rw [Venn.bitsTo, hbk]; rfl)
        clear hbk
        generalize Venn.bitsTo S k = B at hr HS
        generalize 2 ^ k = P at HP HS hr h2
        have hwr : IntKind.i64.wrap (B + (P : Int)) = B + (P : Int) := IntWalk.i64_in _ (by omega)
        go_wp2_with (first
          | (go_at_call 70; refine (HN.out k hlt _ (by (repeat' (first | (with_reducible exact Below.refl _ _) | (with_reducible assumption) | (with_reducible refine Below.next ?_ (by with_reducible assumption)) | (with_reducible refine Below.drew ?_) | (with_reducible refine Below.laid ?_ _) | (with_reducible refine Below.setCell ?_ ?_ _) | (with_reducible refine size_of ?_) | (with_reducible refine Nat.le_succ_of_le ?_) | go_size)))).mono ?_; rintro e w1 ⟨rfl, hb1⟩; rw [HX.out])
          | (go_at_call 69; refine (HP.out _).mono ?_; rintro e w' ⟨rfl, rfl⟩))
        go_roundw
        case rel => exact ⟨k + 1, by omega, by go_num, by rw [HS.out], by (repeat' (first | (with_reducible exact Below.refl _ _) | (with_reducible assumption) | (with_reducible refine Below.next ?_ (by with_reducible assumption)) | (with_reducible refine Below.drew ?_) | (with_reducible refine Below.laid ?_ _) | (with_reducible refine Below.setCell ?_ ?_ _) | (with_reducible refine size_of ?_) | (with_reducible refine Nat.le_succ_of_le ?_) | go_size)), hB.keep hb1⟩
        case measure => simp [intOf]; omega
    · have hkT : k = T := by omega
      subst hkT
      go_wp2
      go_ret
      exact ⟨ret_int HE.out, hb⟩
end Go.Proofs.YtlpfbdejiifbpaaGreatDoor
