/-
  THE WALK of the reference's Ways.
-/
import Derived.Test.YtcecbpbpknphjaaDoorRefFields
import Derived.Test.YtcecbpbpknphjaaDoorVennTells
namespace Go.Proofs.YtcecbpbpknphjaaDoor
open Go.RowKit

set_option maxHeartbeats 4000000 in
set_option maxRecDepth 100000 in
theorem ref_Ways (n0 n1 n2 n3 n4 n5 n6 n7 : Int) (w : World) (hp : ∀ x ∈ [n0, n1, n2, n3, n4, n5, n6, n7], 0 ≤ x) (hs : [n0, n1, n2, n3, n4, n5, n6, n7].sum ≤ 6) :
    Calls Tryd.prog 43 #[.agg #[.int .i64 n0, .int .i64 n1, .int .i64 n2, .int .i64 n3, .int .i64 n4, .int .i64 n5, .int .i64 n6, .int .i64 n7]] w (Keeps (.int .i64 (Venn.waysRef [n0, n1, n2, n3, n4, n5, n6, n7])) w) := by
  generalize hl : [n0, n1, n2, n3, n4, n5, n6, n7] = l at hp hs ⊢
  obtain ⟨bx, hbx⟩ : ∃ bx : Array Value, bx = #[.int .i64 n0, .int .i64 n1, .int .i64 n2, .int .i64 n3, .int .i64 n4, .int .i64 n5, .int .i64 n6, .int .i64 n7] := ⟨_, rfl⟩
  have hidx : ∀ k (h : k < l.length), bx[k]? = some (.int .i64 l[k]) := by
    intro k hk
    subst hl hbx
    simp only [List.length_cons, List.length_nil] at hk
    rcases (by omega : k = 0 ∨ k = 1 ∨ k = 2 ∨ k = 3 ∨ k = 4 ∨ k = 5 ∨ k = 6 ∨ k = 7) with rfl | rfl | rfl | rfl | rfl | rfl | rfl | rfl
    all_goals rfl
  have hlen : l.length = 8 := by subst hl; rfl
  have HI := Lib.hid hidx
  have HBX := Lib.hid hbx
  have HP := Lib.hid hp
  obtain ⟨E, hE⟩ : ∃ E, E = Venn.waysRef l := ⟨_, rfl⟩
  rw [← hE]
  have HE := Lib.hid (show E = l.foldl (fun w n => Venn.divTo w n.toNat) (Venn.facGo l.sum.toNat) from hE)
  have HS6 := Lib.hid hs
  clear hl hidx hbx hE hp hs
  go_enter Tryd.func43, Tryd.ntmps43
  go_wp2
  go_loopw [3, 4] (fun s i wr => ∃ (k : Nat) (S : Int), k ≤ 8 ∧ i = .int .i64 k ∧ s = .int .i64 S ∧ 0 ≤ S ∧ Below w.heap.size w wr ∧ Blk wr w.heap.size 77 bx ∧ l.sum = S + (l.drop k).sum)
    (fun _ i _ => 8 - (intOf i).toNat)
  case atStart => exact ⟨0, 0, by omega, rfl, rfl, by omega, by (repeat' (first | (with_reducible exact Below.refl _ _) | (with_reducible assumption) | (with_reducible refine Below.next ?_ (by with_reducible assumption)) | (with_reducible refine Below.drew ?_) | (with_reducible refine Below.laid ?_ _) | (with_reducible refine Below.setCell ?_ ?_ _) | (with_reducible refine size_of ?_) | (with_reducible refine Nat.le_succ_of_le ?_) | go_size)), by rw [HBX.out]; exact Blk.new _ _ _, by simp⟩
  case round =>
    obtain ⟨k, S, hk, rfl, rfl, hS0, hb, hB, hsum⟩ := hrel
    obtain ⟨wo, rfl⟩ : ∃ wo : World, wo = wr := ⟨_, rfl⟩
    have HSU := Lib.hid hsum
    clear hsum
    by_cases hlt : k < 8
    · have hkl : k < l.length := by omega
      have HD := Lib.hid (List.drop_eq_getElem_cons hkl)
      have hbox := HI.out k hkl
      have hx0 := HP.out _ (List.getElem_mem hkl)
      generalize l[k] = x at hbox HD hx0
      have hcell : wo.cell? ⟨w.heap.size, k, none⟩ = some (.int .i64 x) := (hB.cell k).trans hbox
      have hlb := hB.lt
      have hk1 : (k : Int) < 8 := by omega
      have hk0 : (0 : Int) ≤ (k : Int) := by omega
      have hr0 : 0 ≤ (l.drop (k + 1)).sum := Venn.sum_nonneg _ fun x hx => HP.out x (List.mem_of_mem_drop hx)
      have hN : l.sum = (S + x) + (l.drop (k + 1)).sum := by rw [HSU.out, HD.out, List.sum_cons]; omega
      have hSx : S + x ≤ 6 := by have := HS6.out; omega
      have HN := Lib.hid hN
      clear hbox hN hr0
      have hw : IntKind.i64.wrap (S + x) = S + x := IntWalk.i64_in _ (by omega)
      go_wp2
      go_roundw
      case rel => exact ⟨k + 1, S + x, by omega, by go_num, rfl, by omega, hb, hB, HN.out⟩
      case measure => simp [intOf]; omega
    · have hk8 : k = 8 := by omega
      subst hk8
      have hSe : l.sum = S := by rw [HSU.out, List.drop_eq_nil_of_le (by omega)]; simp
      have hS6 : S ≤ 6 := by have := HS6.out; omega
      rw [hSe] at HE
      obtain ⟨SN, rfl⟩ := Int.eq_ofNat_of_zero_le hS0
      rw [Int.toNat_natCast] at HE
      have hSN : SN ≤ 6 := by omega
      clear hSe hlt hk HSU
      go_wp2
      go_loopw [5, 6] (fun p i wr => ∃ (j : Nat) (F : Int), (j = 0 ∨ j + 1 ≤ SN) ∧ i = .int .i64 ((j : Int) + 2) ∧ p = .int .i64 F ∧ F = Venn.facGo (j + 1) ∧ Below w.heap.size w wr ∧ Blk wr w.heap.size 77 bx)
        (fun _ i _ => SN + 2 - (intOf i).toNat)
      case atStart => exact ⟨0, 1, .inl rfl, rfl, rfl, rfl, hb, hB⟩
      case round =>
        clear hb hB
        obtain ⟨j, F, hj, rfl, rfl, hF, hb, hB⟩ := hrel
        obtain ⟨wo, rfl⟩ : ∃ wo : World, wo = wr := ⟨_, rfl⟩
        have HF := Lib.hid hF
        by_cases hlt : (j : Int) + 2 ≤ (SN : Int)
        · have hr := Venn.facGo_range (j + 2) (by omega)
          have hn : Venn.facGo (j + 2) = F * ((j : Int) + 2) := by
            rw [hF]
            show Venn.facGo (j + 1) * ((j + 1 + 1 : Nat) : Int) = _
            congr 1
          have HN := Lib.hid hn
          rw [hn] at hr
          clear hF hn
          have hw : IntKind.i64.wrap (F * ((j : Int) + 2)) = F * ((j : Int) + 2) := IntWalk.i64_in _ (by omega)
          go_wp2
          go_roundw
          case rel => exact ⟨j + 1, F * ((j : Int) + 2), .inr (by omega), by go_num, rfl, HN.out.symm, hb, hB⟩
          case measure => simp [intOf]; omega
        · have hfin : F = Venn.facGo SN := by
            rcases hj with rfl | hj
            · rcases (by omega : SN = 0 ∨ SN = 1) with rfl | rfl
              · exact hF
              · exact hF
            · rw [hF, show SN = j + 1 by omega]
          rw [← hfin] at HE
          have hFr := Venn.facGo_range SN hSN
          rw [← hfin] at hFr
          clear hF hfin hj
          go_wp2
          go_loopw [5, 7] (fun p i wr => ∃ (k : Nat) (V : Int), k ≤ 8 ∧ i = .int .i64 k ∧ p = .int .i64 V ∧ 0 ≤ V ∧ V ≤ 720 ∧ Below w.heap.size w wr ∧ Blk wr w.heap.size 77 bx ∧ E = (l.drop k).foldl (fun w n => Venn.divTo w n.toNat) V)
            (fun _ i _ => 8 - (intOf i).toNat)
          case atStart => exact ⟨0, F, by omega, rfl, rfl, by omega, by omega, hb, hB, by rw [List.drop_zero]; exact HE.out⟩
          case round =>
            clear hb hB hlt
            obtain ⟨k, V, hk, rfl, rfl, hV0, hV7, hb, hB, hrest⟩ := hrel
            obtain ⟨wo, rfl⟩ : ∃ wo : World, wo = wr := ⟨_, rfl⟩
            have HR := Lib.hid hrest
            clear hrest
            by_cases hlt : k < 8
            · have hkl : k < l.length := by omega
              have HD := Lib.hid (List.drop_eq_getElem_cons hkl)
              have hbox := HI.out k hkl
              have hx0 := HP.out _ (List.getElem_mem hkl)
              generalize l[k] = x at hbox HD hx0
              obtain ⟨n, rfl⟩ := Int.eq_ofNat_of_zero_le hx0
              have hBX := Lib.hid hbox
              have hk1 : (k : Int) < 8 := by omega
              have hk0 : (0 : Int) ≤ (k : Int) := by omega
              have hn6 : n ≤ 1000000 := by
                have h1 := HS6.out
                have h2 : (n : Int) ≤ l.sum := by
                  have e : l.sum = (l.take k).sum + ((n : Int) + (l.drop (k + 1)).sum) := by
                    rw [← List.sum_cons, ← HD.out, ← List.sum_append, List.take_append_drop]
                  have g1 : 0 ≤ (l.take k).sum := Venn.sum_nonneg _ fun x hx => HP.out x (List.mem_of_mem_take hx)
                  have g2 : 0 ≤ (l.drop (k + 1)).sum := Venn.sum_nonneg _ fun x hx => HP.out x (List.mem_of_mem_drop hx)
                  omega
                omega
              clear hbox
              go_wp2
              go_loopw [5, 8] (fun p i wr => ∃ (j : Nat) (D : Int), (j = 0 ∨ j + 1 ≤ n) ∧ i = .int .i64 ((j : Int) + 2) ∧ p = .int .i64 D ∧ D = Venn.divTo V (j + 1) ∧ Below w.heap.size w wr ∧ Blk wr w.heap.size 77 bx)
                (fun _ i _ => n + 2 - (intOf i).toNat)
              case atStart => exact ⟨0, V, .inl rfl, rfl, rfl, rfl, hb, hB⟩
              case round =>
                clear hb hB
                obtain ⟨j, D, hj, rfl, rfl, hD, hb, hB⟩ := hrel
                obtain ⟨wi, rfl⟩ : ∃ wi : World, wi = wr := ⟨_, rfl⟩
                have hcell : wi.cell? ⟨w.heap.size, k, none⟩ = some (.int .i64 (n : Int)) := (hB.cell k).trans hBX.out
                have hlb := hB.lt
                have hDr := Venn.divTo_range ⟨hV0, hV7⟩ (j + 1)
                rw [← hD] at hDr
                have HDD := Lib.hid hD
                by_cases hjn : (j : Int) + 2 ≤ (n : Int)
                · have hq : D.tdiv ((j : Int) + 2) = D / ((j : Int) + 2) := Int.tdiv_eq_ediv_of_nonneg hDr.1
                  have hqr := Venn.div_range hDr (show (1 : Int) ≤ (j : Int) + 2 by omega)
                  have HQ := Lib.hid (show D / ((j : Int) + 2) = Venn.divTo V (j + 1 + 1) by
                    rw [hD]; rfl)
                  have hne : ¬ ((j : Int) + 2 = 0) := by omega
                  have hw : IntKind.i64.wrap (D / ((j : Int) + 2)) = D / ((j : Int) + 2) := IntWalk.i64_in _ (by omega)
                  clear hD
                  go_wp2
                  go_roundw
                  case rel => exact ⟨j + 1, D / ((j : Int) + 2), .inr (by omega), by go_num, rfl, HQ.out, hb, hB⟩
                  case measure => simp [intOf]; omega
                · have HF2 := Lib.hid (show D = Venn.divTo V n by
                    rcases hj with rfl | hj
                    · rcases (by omega : n = 0 ∨ n = 1) with rfl | rfl
                      · exact hD
                      · exact hD
                    · rw [hD, show n = j + 1 by omega])
                  clear hD
                  go_wp2
                  go_roundw
                  case rel => exact ⟨k + 1, D, by omega, by go_num, rfl, hDr.1, hDr.2, hb, hB, by rw [HR.out, HD.out, List.foldl_cons, Int.toNat_natCast, ← HF2.out]⟩
                  case measure => simp [intOf]; omega
            · have HV := Lib.hid (show E = V by rw [HR.out, List.drop_eq_nil_of_le (by omega)]; rfl)
              go_wp2
              go_ret
              exact ⟨ret_int HV.out.symm, hb⟩
end Go.Proofs.YtcecbpbpknphjaaDoor
