/-
  THE WALK of the reference's No.
-/
import Derived.Test.YtlpfbdejiifbpaaGreatDoorRefAnd
namespace Go.Proofs.YtlpfbdejiifbpaaGreatDoor
open Go.RowKit

def RNone (O : Nat) (J : Option (List (List Int))) (w : World) (e : Ending) (w' : World) : Prop :=
  Below w.heap.size w w' ∧ ((J = none ∧ e = .returned (.tuple #[.slice none 0 0, .int .i64 4])) ∨ ∃ v L, J = some L ∧ e = .returned (.tuple #[v, .int .i64 0]) ∧ ListsOff O w' v L)
theorem RPost.off {O : Nat} {J : Option (List (List Int))} {w w' : World} {e : Ending} (h : RPost O J w e w') (hO : O < w.heap.size) : RNone O J w e w' :=
  ⟨h.1, h.2.imp id fun ⟨v, p, h1, h2, h3, h4⟩ => ⟨v, lVals p, h1, h2, ListsOff.of_own h3 h4 hO⟩⟩
set_option maxHeartbeats 4000000 in
set_option maxRecDepth 100000 in
theorem ref_No (O : Nat) (sa : Value) (la : List (List Int)) (w : World) (hO : O < w.heap.size) (ha : IsLists w sa la) (ma : ∀ c ∈ la, ∀ x ∈ c, Venn.mOk x = true) (na : ∀ c ∈ la, c.length ≤ 6) (h1 : la.length ≤ 40) :
    Calls Tryz.prog 33 #[sa] w (RNone O (Venn.noV la) w) := by
  obtain ⟨A, ca, pa, rfl, rfl, hra, hoa, _, _⟩ := ha
  have HRA := Lib.hid hra
  have HOA := Lib.hid hoa
  have HMA := Lib.hid ma
  have HNA := Lib.hid na
  rw [lVals_len] at h1
  have HJ := Lib.hid (show Venn.noV (lVals pa) = Venn.noFrom [[]] ((lVals pa).drop 0) by rw [List.drop_zero]; rfl)
  generalize Venn.noV (lVals pa) = J at HJ ⊢
  clear hra hoa ma na
  have hb0 : Below w.heap.size w ((w.alloc (.cells #[] 3)).alloc (.cells #[.slice (some ⟨w.heap.size, 0, none⟩) 0 0] 23)) := by (repeat' (first | (with_reducible exact Below.refl _ _) | (with_reducible assumption) | (with_reducible refine Below.next ?_ (by with_reducible assumption)) | (with_reducible refine Below.drew ?_) | (with_reducible refine Below.laid ?_ _) | (with_reducible refine Below.setCell ?_ ?_ _) | (with_reducible refine size_of ?_) | (with_reducible refine Nat.le_succ_of_le ?_) | go_size))
  have HL0 := Lib.hid (show ListsOff O ((w.alloc (.cells #[] 3)).alloc (.cells #[.slice (some ⟨w.heap.size, 0, none⟩) 0 0] 23)) (.slice (some ⟨w.heap.size + 1, 0, none⟩) 1 1) [[]] from by
    refine ⟨_, _, [([], .slice (some ⟨w.heap.size, 0, none⟩) 0 0)], rfl, rfl, fun j u hj => ⟨_, rfl, ?_⟩, fun x hx => ?_, Nat.le_refl _, by simp [maxLen], fun x hx hne => ?_, fun _ b e => ?_⟩
    · match j, hj with
      | 0, hj => simp [lCells] at hj; subst hj; exact (Blk.newAt (w := w.alloc (.cells #[] 3)) (g := w.heap.size + 1) (by simp) 23 #[.slice (some ⟨w.heap.size, 0, none⟩) 0 0]).cell 0
    · rw [List.mem_singleton.1 hx]; exact ⟨_, 0, rfl, Rd.nil _ _, Nat.le_refl _, by simp [maxLen]⟩
    · rw [List.mem_singleton.1 hx] at hne; exact absurd rfl hne
    · simp [Value.ownBlock] at e; omega)
  go_enter Tryz.func33, Tryz.ntmps33
  go_upto_region 2 with (fail)
  go_wp2
  go_loopw [4, 5] (fun v i wr => ∃ (k : Nat) (o : List (List Int)), k ≤ pa.length ∧ i = .int .i64 k ∧ Below w.heap.size w wr ∧ ListsOff O wr v o ∧ Venn.COk o ∧ J = Venn.noFrom o ((lVals pa).drop k)) (fun _ i _ => pa.length - (intOf i).toNat)
  case atStart => exact ⟨0, [[]], Nat.zero_le _, rfl, hb0, HL0.out, Venn.nilnil_ok, HJ.out⟩
  case round =>
    clear HL0 HJ hb0
    obtain ⟨k, o, hk, rfl, hbw, hlo, hco, hJ⟩ := hrel
    obtain ⟨wo, rfl⟩ : ∃ wo : World, wo = wr := ⟨_, rfl⟩
    obtain ⟨V0, k0, rfl⟩ := slice_of_lists hlo
    have HLO := Lib.hid hlo
    have HCO := Lib.hid hco
    clear hlo hco
    by_cases hlt : k < pa.length
    · obtain ⟨⟨x, xv⟩, hx⟩ : ∃ x, pa[k]? = some x := ⟨pa[k], List.getElem?_eq_getElem hlt⟩
      obtain ⟨ad, rfl, hc0⟩ := HRA.out k xv (by unfold lCells; rw [List.getElem?_map, hx]; rfl)
      obtain ⟨X, cx, hxv, hrx, hx1, hx2⟩ := HOA.out _ (List.mem_of_getElem? hx)
      have hmx := HMA.out _ (lVals_mem (List.mem_of_getElem? hx))
      have hnx := HNA.out _ (lVals_mem (List.mem_of_getElem? hx))
      rw [lVals_at hx, Venn.noFrom] at hJ
      simp only at hxv hrx hx1 hmx hnx hJ
      subst hxv
      have HC0 := Lib.hid hc0
      have HMX := Lib.hid hmx
      have HRX := Lib.hid hrx
      have HJ := Lib.hid hJ
      have hk1 : (k : Int) < (pa.length : Int) := by omega
      have hk0 : (0 : Int) ≤ (k : Int) := by omega
      clear hJ hx hc0 hmx hrx hx2
      go_wp2
      go_loopw [6, 7] (fun v i wr => ∃ (j : Nat) (p : List LV), j ≤ x.length ∧ i = .int .i64 j ∧ RowAt wo wr v p ∧ lVals p = Venn.turnC (x.take j)) (fun _ i _ => x.length - (intOf i).toNat)
      case atStart => exact ⟨0, [], Nat.zero_le _, rfl, ⟨OwnL.nil _ _, Below.refl _ _⟩, rfl⟩
      case round =>
        obtain ⟨j, q, hj, rfl, hrow, hq⟩ := hrel
        obtain ⟨w1, rfl⟩ : ∃ w1 : World, w1 = wr := ⟨_, rfl⟩
        obtain ⟨V1, k1, rfl⟩ := hrow.own.slice
        have hbw1 := hrow.below
        have hql : q.length = j := by
          have := congrArg List.length hq
          rw [lVals_len, Venn.turnC, List.length_map, List.length_take] at this
          omega
        have HW := Lib.hid hrow
        have HQ := Lib.hid hq
        have hq6 : q.length < 1000000 := by omega
        have HQL := Lib.hid hql
        have hc := cell_keep (Below.next hbw hbw1) HC0.out
        clear hrow hq hql
        by_cases hlj : j < x.length
        · obtain ⟨xd, rfl, hd0⟩ := HRX.out.int hlj
          have hd := cell_keep (Below.next hbw hbw1) hd0
          have hm := Venn.mOk_iff.1 (HMX.out _ (List.getElem_mem hlj))
          have HQ2 := Lib.hid (show Venn.turnC (x.take (j + 1)) = lVals q ++ [[-x[j]]] by
            rw [HQ.out, Venn.turnC, Venn.turnC, List.take_succ_eq_append_getElem hlj, List.map_append]; rfl)
          generalize x[j] = m at hd0 hd hm HQ2
          have hw : wrap64 (-m) = -m := IntWalk.wrap64_in _ (by omega)
          have hj1 : (j : Int) < (x.length : Int) := by omega
          have hj0 : (0 : Int) ≤ (j : Int) := by omega
          clear hd0 hm
          go_upto_region 9 with (fail)
          have hb2 : Below w1.heap.size w1 (w1.alloc (.cells #[.int .i64 (-m)] 3)) := by (repeat' (first | (with_reducible exact Below.refl _ _) | (with_reducible assumption) | (with_reducible refine Below.next ?_ (by with_reducible assumption)) | (with_reducible refine Below.drew ?_) | (with_reducible refine Below.laid ?_ _) | (with_reducible refine Below.setCell ?_ ?_ _) | (with_reducible refine size_of ?_) | (with_reducible refine Nat.le_succ_of_le ?_) | go_size))
          have hI := (IsInts.one w1 (-m) 3).keep (show Below (w1.alloc (.cells #[.int .i64 (-m)] 3)).heap.size _ ((w1.alloc (.cells #[.int .i64 (-m)] 3)).alloc (.cells #[.slice (some ⟨w1.heap.size, 0, none⟩) 1 1] 23)) by (repeat' (first | (with_reducible exact Below.refl _ _) | (with_reducible assumption) | (with_reducible refine Below.next ?_ (by with_reducible assumption)) | (with_reducible refine Below.drew ?_) | (with_reducible refine Below.laid ?_ _) | (with_reducible refine Below.setCell ?_ ?_ _) | (with_reducible refine size_of ?_) | (with_reducible refine Nat.le_succ_of_le ?_) | go_size)))
          have hb3 : Below w1.heap.size w1 ((w1.alloc (.cells #[.int .i64 (-m)] 3)).alloc (.cells #[.slice (some ⟨w1.heap.size, 0, none⟩) 1 1] 23)) := by (repeat' (first | (with_reducible exact Below.refl _ _) | (with_reducible assumption) | (with_reducible refine Below.next ?_ (by with_reducible assumption)) | (with_reducible refine Below.drew ?_) | (with_reducible refine Below.laid ?_ _) | (with_reducible refine Below.setCell ?_ ?_ _) | (with_reducible refine size_of ?_) | (with_reducible refine Nat.le_succ_of_le ?_) | go_size))
          have hcell : ((w1.alloc (.cells #[.int .i64 (-m)] 3)).alloc (.cells #[.slice (some ⟨w1.heap.size, 0, none⟩) 1 1] 23)).cell? ⟨w1.heap.size + 1, 0, none⟩ = some (.slice (some ⟨w1.heap.size, 0, none⟩) 1 1) := by
            simp
          have HO3 := Lib.hid (HW.out.own.keep hb3)
          have hbase : wo.heap.size ≤ ((w1.alloc (.cells #[.int .i64 (-m)] 3)).alloc (.cells #[.slice (some ⟨w1.heap.size, 0, none⟩) 1 1] 23)).heap.size := Nat.le_trans hbw1.size hb3.size
          have hfar : ([-m] : List Int) ≠ [] → ∀ b, (Value.slice (some ⟨w1.heap.size, 0, none⟩) 1 1).ownBlock = some b → (Value.slice V1 q.length k1).ownBlock ≠ some b := fun _ b e e2 => by
            have := (HW.out.own.own.lt b e2).2
            simp [Value.ownBlock] at e
            omega
          go_wp2_with (at_builtin; refine wpList_appL _ rfl _ _ rfl wo.heap.size _ q rfl HO3.out (w1.heap.size + 1) 1 ([-m], .slice (some ⟨w1.heap.size, 0, none⟩) 1 1) rfl hcell hI hfar hq6 hbase ?_)
          intro v' w3 hown3 hg3 hat3
          have HW3 := Lib.hid ((HW.out.keep hb3).add hown3 (But.of_grown hg3))
          have HQ3 := Lib.hid (show lVals (q ++ [([-m], .slice (some ⟨w1.heap.size, 0, none⟩) 1 1)]) = Venn.turnC (x.take (j + 1)) by rw [lVals_app, HQ2.out]; rfl)
          clear hown3 hg3 hat3 hfar hI hcell hb2 hb3 hbase hc hd
          go_wp2
          go_roundw
          case rel => exact ⟨j + 1, _, by omega, by go_num, HW3.out, HQ3.out⟩
          case measure => simp [intOf]; omega
        · have hj' : j = x.length := by omega
          have HQ := Lib.hid (show lVals q = Venn.turnC x by rw [HQ.out, hj', List.take_length])
          have hql6 : q.length ≤ 6 := by have := HQL.out; omega
          have HB := Lib.hid (ref_And O (.slice V0 o.length k0) (.slice V1 q.length k1) o (lVals q) w1 (Nat.lt_of_lt_of_le hO (Nat.le_trans hbw.size hbw1.size)) (HLO.out.keep hbw1).lists HW.out.own.lists HCO.out.2 (by rw [lVals_len]; omega)
            (fun c hc => by have := (HCO.out.1.1 c hc).2.2; omega) (fun c hc => by
              rw [HQ.out] at hc
              obtain ⟨z, _, rfl⟩ := List.mem_map.1 hc
              simp))
          rw [HQ.out] at HB
          have hbw2 := Below.next hbw hbw1
          subst hj'
          cases hA : Venn.andV o (Venn.turnC x) with
          | none =>
            rw [hA] at HB
            have HJ := Lib.hid (show J = none by rw [HJ.out, hA])
            clear hA
            go_wp2_with fail
            refine (HB.out).mono ?_
            rintro e w4 ⟨hb4, ⟨_, rfl⟩ | ⟨v, p, hh, _⟩⟩
            · have hbw4 := Below.next hbw2 hb4
              go_wp2
              go_ret2
              exact ⟨hbw4, .inl ⟨HJ.out, rfl⟩⟩
            · cases hh
          | some n =>
            rw [hA] at HB
            have HC := Lib.hid (Venn.andV_ok hA)
            have HJ := Lib.hid (show J = Venn.noFrom n ((lVals pa).drop (k + 1)) by rw [HJ.out, hA])
            clear hA
            go_wp2_with fail
            refine (HB.out).mono ?_
            rintro e w4 ⟨hb4, ⟨hh, _⟩ | ⟨v, p, hh, rfl, hown4, hoff4⟩⟩
            · cases hh
            · injection hh with hh
              subst hh
              have HL4 := Lib.hid (ListsOff.of_own hown4 hoff4 (Nat.lt_of_lt_of_le hO hbw2.size))
              have hbw4 := Below.next hbw2 hb4
              clear hown4 hoff4 hb4 hc
              go_wp2
              go_roundw
              case rel => exact ⟨k + 1, _, by omega, by go_num, hbw4, HL4.out, HC.out, HJ.out⟩
              case measure => simp [intOf]; omega
    · have hk' : k = pa.length := by omega
      have HJ := Lib.hid (show J = some o by rw [hJ, hk', List.drop_eq_nil_of_le (by rw [lVals_len]; exact Nat.le_refl _)]; rfl)
      subst hk'
      clear hJ
      go_wp2
      go_ret2
      exact ⟨hbw, .inr ⟨_, _, HJ.out, rfl, HLO.out⟩⟩
end Go.Proofs.YtlpfbdejiifbpaaGreatDoor
