/-
  THE WALKS of the reference's And, Or, No.
-/
import Derived.Test.YtlpfbdejiifbpaaGreatDoorRefPut
import Derived.Deep.RegionLaw
namespace Go.Proofs.YtlpfbdejiifbpaaGreatDoor
open Go.RowKit

/-- What the reference answers that makes cubes. -/
def RPost (O : Nat) (J : Option (List (List Int))) (w : World) (e : Ending) (w' : World) : Prop :=
  Below w.heap.size w w' ∧ ((J = none ∧ e = .returned (.tuple #[.slice none 0 0, .int .i64 4])) ∨ ∃ v p, J = some (lVals p) ∧ e = .returned (.tuple #[v, .int .i64 0]) ∧ OwnL w.heap.size w' v p ∧ Off O p)
theorem merge_none {w w' : World} {e : Ending} (h : MergePost none w e w') : Below w.heap.size w w' ∧ e = .returned (.tuple #[.slice none 0 0, .bool false]) := by
  obtain ⟨h1, ⟨_, h2⟩ | ⟨_, _, h2, _⟩⟩ := h
  · exact ⟨h1, h2⟩
  · cases h2
theorem merge_some {c : List Int} {w w' : World} {e : Ending} (h : MergePost (some c) w e w') : ∃ v, Below w.heap.size w w' ∧ e = .returned (.tuple #[v, .bool true]) ∧ IsInts w' v c ∧ ∀ b, v.ownBlock = some b → w.heap.size ≤ b ∧ b < w'.heap.size := by
  obtain ⟨h1, ⟨h2, _⟩ | ⟨c', v, h2, h3, h4, h5⟩⟩ := h
  · cases h2
  · injection h2 with h2
    subst h2
    exact ⟨v, h1, h3, h4, h5⟩
set_option maxHeartbeats 8000000 in
set_option maxRecDepth 100000 in
theorem ref_And (O : Nat) (sa sb : Value) (la lb : List (List Int)) (w : World) (hO : O < w.heap.size) (ha : IsLists w sa la) (hb : IsLists w sb lb) (h1 : la.length ≤ 40) (h2 : lb.length ≤ 40)
    (na : ∀ c ∈ la, c.length ≤ 100) (nb : ∀ c ∈ lb, c.length ≤ 100) :
    Calls Tryz.prog 34 #[sa, sb] w (RPost O (Venn.andV la lb) w) := by
  obtain ⟨A, ca, pa, rfl, rfl, hra, hoa, _, _⟩ := ha
  obtain ⟨B, cb, pb, rfl, rfl, hrb, hob, _, _⟩ := hb
  have HRA := Lib.hid hra
  have HRB := Lib.hid hrb
  have HOA := Lib.hid hoa
  have HOB := Lib.hid hob
  have HNA := Lib.hid na
  have HNB := Lib.hid nb
  rw [lVals_len] at h1 h2
  have HJ := Lib.hid (show Venn.and2 (lVals pb) [] (lVals pa) = Venn.and2 (lVals pb) [] ((lVals pa).drop 0) by rw [List.drop_zero])
  have HL := Lib.hid (show (Venn.and2 (lVals pb) [] (lVals pa)).length ≤ 1600 by
    have := Venn.and2_len (b := lVals pb) (lVals pa) []
    rw [lVals_len, lVals_len, List.length_nil, Nat.zero_add] at this
    exact Nat.le_trans this (Nat.le_trans (Nat.mul_le_mul h1 h2) (by decide)))
  unfold Venn.andV
  generalize Venn.and2 (lVals pb) [] (lVals pa) = R at HJ HL ⊢
  clear hra hrb hoa hob na nb
  go_enter Tryz.func34, Tryz.ntmps34
  go_upto_region 2 with (fail)
  go_wp2
  go_loopw [6, 7] (fun v i wr => ∃ (k : Nat) (p : List LV), k ≤ pa.length ∧ i = .int .i64 k ∧ RowAt w wr v p ∧ Off O p ∧ R = Venn.and2 (lVals pb) (lVals p) ((lVals pa).drop k)) (fun _ i _ => pa.length - (intOf i).toNat)
  case atStart => exact ⟨0, [], Nat.zero_le _, rfl, ⟨OwnL.nil _ _, Below.refl _ _⟩, (fun x hx => by cases hx), HJ.out⟩
  case round =>
    obtain ⟨k, p, hk, rfl, hrow, hoff, hR⟩ := hrel
    obtain ⟨wo, rfl⟩ : ∃ wo : World, wo = wr := ⟨_, rfl⟩
    obtain ⟨V0, k0, rfl⟩ := hrow.own.slice
    have HW := Lib.hid hrow
    have HF := Lib.hid hoff
    have hbw := hrow.below
    clear hrow hoff
    by_cases hlt : k < pa.length
    · obtain ⟨⟨x, xv⟩, hx⟩ : ∃ x, pa[k]? = some x := ⟨pa[k], List.getElem?_eq_getElem hlt⟩
      obtain ⟨ad, rfl, hc0⟩ := HRA.out k xv (by unfold lCells; rw [List.getElem?_map, hx]; rfl)
      have HC0 := Lib.hid hc0
      have HXV := Lib.hid (HOA.out _ (List.mem_of_getElem? hx))
      have HNX := Lib.hid (HNA.out _ (lVals_mem (List.mem_of_getElem? hx)))
      rw [lVals_at hx, Venn.and2] at hR
      have HR := Lib.hid (show R = Venn.and2 (lVals pb) (Venn.and1 x (lVals p) ((lVals pb).drop 0)) ((lVals pa).drop (k + 1)) by rw [List.drop_zero]; exact hR)
      have hk1 : (k : Int) < (pa.length : Int) := by omega
      have hk0 : (0 : Int) ≤ (k : Int) := by omega
      simp only at HXV HNX
      clear hR hx hc0
      go_wp2
      go_loopw [6, 8] (fun v i wr => ∃ (j : Nat) (p : List LV), j ≤ pb.length ∧ i = .int .i64 j ∧ RowAt w wr v p ∧ Off O p ∧ R = Venn.and2 (lVals pb) (Venn.and1 x (lVals p) ((lVals pb).drop j)) ((lVals pa).drop (k + 1))) (fun _ i _ => pb.length - (intOf i).toNat)
      case atStart => exact ⟨0, p, Nat.zero_le _, rfl, HW.out, HF.out, HR.out⟩
      case round =>
        clear HW HR hbw HF
        obtain ⟨j, q, hj, rfl, hrow, hoff, hR⟩ := hrel
        obtain ⟨w1, rfl⟩ : ∃ w1 : World, w1 = wr := ⟨_, rfl⟩
        obtain ⟨V1, k1, rfl⟩ := hrow.own.slice
        have HW := Lib.hid hrow
        have HF := Lib.hid hoff
        have hbw := hrow.below
        clear hrow hoff
        by_cases hlj : j < pb.length
        · obtain ⟨⟨y, yv⟩, hy⟩ : ∃ x, pb[j]? = some x := ⟨pb[j], List.getElem?_eq_getElem hlj⟩
          obtain ⟨bd, rfl, hd0⟩ := HRB.out j yv (by unfold lCells; rw [List.getElem?_map, hy]; rfl)
          have hd := cell_keep hbw hd0
          have hc := cell_keep hbw HC0.out
          have HYV := Lib.hid (HOB.out _ (List.mem_of_getElem? hy))
          have HNY := Lib.hid (HNB.out _ (lVals_mem (List.mem_of_getElem? hy)))
          rw [lVals_at hy, Venn.and1] at hR
          have hj1 : (j : Int) < (pb.length : Int) := by omega
          have hj0 : (0 : Int) ≤ (j : Int) := by omega
          simp only at HYV HNY
          have HR := Lib.hid hR
          have HM := Lib.hid (fun W (hW : Below w1.heap.size w1 W) => ref_join xv yv x y W (HXV.out.keep (Below.next hbw hW)) (HYV.out.keep (Below.next hbw hW)) HNX.out HNY.out)
          clear hR hy hd0
          cases hJ : Venn.joinV x y with
          | none =>
            rw [hJ] at HM HR
            have HM := Lib.hid (fun W hW => (HM.out W hW).mono fun e w' h => merge_none h)
            clear hJ
            go_wp2_with fail
            go_region_law (go_simp; go_at_call 65; refine (HM.out _ (by (repeat' (first | (with_reducible exact Below.refl _ _) | (with_reducible assumption) | (with_reducible refine Below.next ?_ (by with_reducible assumption)) | (with_reducible refine Below.drew ?_) | (with_reducible refine Below.laid ?_ _) | (with_reducible refine Below.setCell ?_ ?_ _) | (with_reducible refine size_of ?_) | (with_reducible refine Nat.le_succ_of_le ?_) | go_size)))).mono ?_; rintro e w2 ⟨hb2, rfl⟩)
            all_goals
              have hb3 : Below w1.heap.size w1 w2 := by (repeat' (first | (with_reducible exact Below.refl _ _) | (with_reducible assumption) | (with_reducible refine Below.next ?_ (by with_reducible assumption)) | (with_reducible refine Below.drew ?_) | (with_reducible refine Below.laid ?_ _) | (with_reducible refine Below.setCell ?_ ?_ _) | (with_reducible refine size_of ?_) | (with_reducible refine Nat.le_succ_of_le ?_) | go_size))
              have HW2 := Lib.hid (HW.out.keep hb3)
              clear HW hb2 hb3 hc hd hbw
              go_wp2
              go_roundw
              case rel => exact ⟨j + 1, q, by omega, by go_num, HW2.out, HF.out, HR.out⟩
              case measure => simp [intOf]; omega
          | some c =>
            rw [hJ] at HM HR
            have HM := Lib.hid (fun W hW => (HM.out W hW).mono fun e w' h => merge_some h)
            clear hJ
            go_wp2_with fail
            go_region_law (go_simp; go_at_call 65; refine (HM.out _ (by (repeat' (first | (with_reducible exact Below.refl _ _) | (with_reducible assumption) | (with_reducible refine Below.next ?_ (by with_reducible assumption)) | (with_reducible refine Below.drew ?_) | (with_reducible refine Below.laid ?_ _) | (with_reducible refine Below.setCell ?_ ?_ _) | (with_reducible refine size_of ?_) | (with_reducible refine Nat.le_succ_of_le ?_) | go_size)))).mono ?_; rintro e w2 ⟨v, hb2, rfl, hI, hlt2⟩)
            all_goals
              have hb3 : Below w1.heap.size w1 w2 := by (repeat' (first | (with_reducible exact Below.refl _ _) | (with_reducible assumption) | (with_reducible refine Below.next ?_ (by with_reducible assumption)) | (with_reducible refine Below.drew ?_) | (with_reducible refine Below.laid ?_ _) | (with_reducible refine Below.setCell ?_ ?_ _) | (with_reducible refine size_of ?_) | (with_reducible refine Nat.le_succ_of_le ?_) | go_size))
              have hq := HW.out.own.own
              have HW2 := Lib.hid (HW.out.keep hb3)
              have hlt3 : ∀ b, v.ownBlock = some b → w1.heap.size ≤ b ∧ b < w2.heap.size := fun b e => by have := hlt2 b e; simpa using this
              have hlen : q.length < 100000 := by
                have h1 := HL.out
                rw [HR.out] at h1
                have h2 := Nat.le_trans (and1_grow (x := x) ((lVals pb).drop (j + 1)) (Venn.putV (lVals q) c)) (and2_grow (b := lVals pb) ((lVals pa).drop (k + 1)) _)
                have h3 := (Venn.putV_len (lVals q) c).2
                rw [lVals_len] at h3
                try simp only at h1
                omega
              have hbase : w.heap.size ≤ w2.heap.size := HW2.out.below.size
              have HA := Lib.hid (ref_put w.heap.size _ q (c, v) w2 HW2.out.own hI (fun _ b e => by
                intro e2
                have h1 := (hlt3 b e).1
                have h2 := (hq.lt b e2).2
                omega) hlen hbase)
              simp only at HA
              have HFY := Lib.hid (show ∀ b, v.ownBlock = some b → b ≠ O from fun b e => by have h1 := (hlt3 b e).1; have h2 := HW.out.below.size; omega)
              clear HW hb2 hb3 hI hlt2 hlt3 hq hlen hbase hc hd hbw
              go_wp2_with fail
              refine (HA.out).mono ?_
              rintro e w3 ⟨v', p', rfl, ho3, hp3, hmem, hbut, _⟩
              have HF3 := Lib.hid (show Off O p' from fun x hx hne b e => (hmem x hx).elim (fun h => HF.out x h hne b e) (fun h => HFY.out b (by rw [h] at e; exact e)))
              clear hmem
              have HW3 := Lib.hid (HW2.out.add ho3 hbut)
              have HR3 := Lib.hid (show R = Venn.and2 (lVals pb) (Venn.and1 x (lVals p') ((lVals pb).drop (j + 1))) ((lVals pa).drop (k + 1)) by rw [hp3]; exact HR.out)
              clear HW2 ho3 hp3 hbut
              go_wp2
              go_roundw
              case rel => exact ⟨j + 1, p', by omega, by go_num, HW3.out, HF3.out, HR3.out⟩
              case measure => simp [intOf]; omega
        · have hj' : j = pb.length := by omega
          have HR := Lib.hid (show R = Venn.and2 (lVals pb) (lVals q) ((lVals pa).drop (k + 1)) by rw [hR, hj', List.drop_eq_nil_of_le (by rw [lVals_len]; exact Nat.le_refl _)]; rfl)
          subst hj'
          clear hR hbw
          go_wp2
          go_roundw
          case rel => exact ⟨k + 1, q, by omega, by go_num, HW.out, HF.out, HR.out⟩
          case measure => simp [intOf]; omega
    · have hk' : k = pa.length := by omega
      have HR := Lib.hid (show R = lVals p by rw [hR, hk', List.drop_eq_nil_of_le (by rw [lVals_len]; exact Nat.le_refl _)]; rfl)
      subst hk'
      clear hR
      have hlR : R.length = p.length := by rw [HR.out, lVals_len]
      by_cases h40 : 40 < p.length
      · have HC := Lib.hid (show Venn.chkC R = none by unfold Venn.chkC; rw [if_pos (by omega)])
        have h40' : (40 : Int) < (p.length : Int) := by omega
        clear hlR
        go_wp2
        go_ret2
        exact ⟨hbw, .inl ⟨HC.out, rfl⟩⟩
      · have HC := Lib.hid (show Venn.chkC R = some (lVals p) by unfold Venn.chkC; rw [if_neg (by omega), HR.out])
        have h40' : ¬ (40 : Int) < (p.length : Int) := by omega
        clear hlR
        go_wp2
        go_ret2
        exact ⟨hbw, .inr ⟨_, p, HC.out, rfl, HW.out.own, HF.out⟩⟩

set_option maxHeartbeats 4000000 in
set_option maxRecDepth 100000 in
theorem ref_Or (O : Nat) (sa sb : Value) (la lb : List (List Int)) (w : World) (ha : ListsOff O w sa la) (hb : ListsOff O w sb lb) (h1 : la.length ≤ 40) (h2 : lb.length ≤ 40) :
    Calls Tryz.prog 35 #[sa, sb] w (RPost O (Venn.orV la lb) w) := by
  obtain ⟨A, ca, pa, rfl, rfl, hra, hoa, _, _, hfa, _⟩ := ha
  obtain ⟨B, cb, pb, rfl, rfl, hrb, hob, _, _, hfb, _⟩ := hb
  rw [lVals_len] at h1 h2
  have HFA := Lib.hid hfa
  have HFB := Lib.hid hfb
  have HRB := Lib.hid hrb
  have HOB := Lib.hid hob
  have HOA := Lib.hid hoa
  have HJ := Lib.hid (show Venn.orL (lVals pa) (lVals pb) = Venn.orL (lVals pa) ((lVals pb).drop 0) by rw [List.drop_zero])
  have HL := Lib.hid (show (Venn.orL (lVals pa) (lVals pb)).length ≤ 80 by
    have := Venn.orL_len (lVals pb) (lVals pa)
    rw [lVals_len, lVals_len] at this
    omega)
  unfold Venn.orV
  generalize Venn.orL (lVals pa) (lVals pb) = R at HJ HL ⊢
  have HAPP := Lib.hid (show ∀ (ops : Array Oper) (rest : List Oper) (o : Oper) (a : Act) (Q : Exit → Act → World → Prop), o.guard = none → ∀ (s x : Operand), o.op = .call { callee := .builtin .append, args := #[s, x], argTypes := #[26, 26] } → a.eval s = .slice none 0 0 → a.eval x = .slice A pa.length ca →
      (∀ v' w', RowAt w w' v' pa → wpList Tryz.prog ops Q rest (a.put o.dst v') w') → wpList Tryz.prog ops Q (o :: rest) a w from by
    intro ops rest o a Q hgd s x ho hs hx h
    rcases A with _ | ad
    · have hz : pa = [] := by
        rcases pa with _ | ⟨x, r⟩
        · rfl
        · obtain ⟨_, h, _⟩ := hra 0 x.2 rfl
          cases h
      subst hz
      obtain ⟨i0, hi, _⟩ := info_parts ints_info
      refine wpList_plain hgd fun K hK => ?_
      have hrun := run_append_of_nil (P := Tryz.prog) w w.heap.size 26 o.type 23 i0 1 Tryz.underlying26 hi (.slice none 0 0) 0 [] (World.ownsRow_nil _ _ _ _) ca
      unfold Oper.wp execOp
      simp only [ho, resolve, invoke, builtin, Sem.run_bind, Sem.run_pure, Result.andThen_ok, List.map_toArray, List.map_cons, List.map_nil, hs, hx, List.length_nil, hrun]
      exact hK _ _ (h _ w ⟨OwnL.nil _ _, Below.refl _ _⟩)
    · refine wpList_appLs w hgd s x ho w.heap.size _ 0 [] hs (World.ownsRow_nil _ _ _ _) ad ca pa hx hra hoa (by omega) (Nat.le_refl _) fun v' w' hown hg _ => ?_
      have hb : Below w.heap.size w w' := (Below.refl _ w).grown hg (Nat.le_refl _) (fun b e => by simp [Value.ownBlock] at e)
      exact h v' w' ⟨own_of_clone (by simpa using hown) hoa hb, hb⟩)
  clear hra hrb hoa hob hfa hfb
  go_enter Tryz.func35, Tryz.ntmps35
  go_upto_region 2 with (fail)
  go_wp2_with (at_builtin; refine HAPP.out _ _ _ _ _ rfl _ _ rfl rfl rfl ?_)
  intro v0 w0 hrow0
  obtain ⟨V0, k0, rfl⟩ := hrow0.own.slice
  have HW0 := Lib.hid hrow0
  clear hrow0 HAPP
  go_wp2
  go_loopw [6, 7] (fun v i wr => ∃ (j : Nat) (p : List LV), j ≤ pb.length ∧ i = .int .i64 j ∧ RowAt w wr v p ∧ Off O p ∧ R = Venn.orL (lVals p) ((lVals pb).drop j)) (fun _ i _ => pb.length - (intOf i).toNat)
  case atStart => exact ⟨0, pa, Nat.zero_le _, rfl, HW0.out, HFA.out, HJ.out⟩
  case round =>
    clear HW0 HJ
    obtain ⟨j, q, hj, rfl, hrow, hoff, hR⟩ := hrel
    obtain ⟨w1, rfl⟩ : ∃ w1 : World, w1 = wr := ⟨_, rfl⟩
    obtain ⟨V1, k1, rfl⟩ := hrow.own.slice
    have HW := Lib.hid hrow
    have HF := Lib.hid hoff
    have hbw := hrow.below
    clear hrow hoff
    by_cases hlj : j < pb.length
    · obtain ⟨⟨y, yv⟩, hy⟩ : ∃ x, pb[j]? = some x := ⟨pb[j], List.getElem?_eq_getElem hlj⟩
      obtain ⟨bd, rfl, hd0⟩ := HRB.out j yv (by unfold lCells; rw [List.getElem?_map, hy]; rfl)
      have hd := cell_keep hbw hd0
      have hYV := HOB.out _ (List.mem_of_getElem? hy)
      rw [lVals_at hy, Venn.orL] at hR
      have hj1 : (j : Int) < (pb.length : Int) := by omega
      have hj0 : (0 : Int) ≤ (j : Int) := by omega
      have HR := Lib.hid hR
      have hlen : q.length < 100000 := by
        have h1 := HL.out
        rw [HR.out] at h1
        have h2 := orL_grow ((lVals pb).drop (j + 1)) (Venn.putV (lVals q) y)
        have h3 := (Venn.putV_len (lVals q) y).2
        rw [lVals_len] at h3
        try simp only at h1
        omega
      have HA := Lib.hid (ref_put w.heap.size _ q (y, yv) w1 HW.out.own (hYV.keep hbw) (fun hne b e e2 => by
        have h1 := ints_lt hYV hne e
        have h2 := (HW.out.own.own.lt b e2).1
        omega) hlen hbw.size)
      simp only at HA
      have HFY := Lib.hid (HFB.out _ (List.mem_of_getElem? hy))
      clear hR hy hd0 hbw hYV hlen
      go_wp2_with fail
      clear hd
      refine (HA.out).mono ?_
      rintro e w3 ⟨v', p', rfl, ho3, hp3, hmem, hbut, _⟩
      have HF3 := Lib.hid (show Off O p' from fun x hx hne b e => (hmem x hx).elim (fun h => HF.out x h hne b e) (fun h => HFY.out (by rw [h] at hne; exact hne) b (by rw [h] at e; exact e)))
      clear hmem
      have HW3 := Lib.hid (HW.out.add ho3 hbut)
      have HR3 := Lib.hid (show R = Venn.orL (lVals p') ((lVals pb).drop (j + 1)) by rw [hp3]; exact HR.out)
      clear HW ho3 hp3 hbut
      go_wp2
      go_roundw
      case rel => exact ⟨j + 1, p', by omega, by go_num, HW3.out, HF3.out, HR3.out⟩
      case measure => simp [intOf]; omega
    · have hj' : j = pb.length := by omega
      have HR := Lib.hid (show R = lVals q by rw [hR, hj', List.drop_eq_nil_of_le (by rw [lVals_len]; exact Nat.le_refl _)]; rfl)
      subst hj'
      clear hR
      have hlR : R.length = q.length := by rw [HR.out, lVals_len]
      by_cases h40 : 40 < q.length
      · have HC := Lib.hid (show Venn.chkC R = none by unfold Venn.chkC; rw [if_pos (by omega)])
        have h40' : (40 : Int) < (q.length : Int) := by omega
        clear hlR
        go_wp2
        go_ret2
        exact ⟨hbw, .inl ⟨HC.out, rfl⟩⟩
      · have HC := Lib.hid (show Venn.chkC R = some (lVals q) by unfold Venn.chkC; rw [if_neg (by omega), HR.out])
        have h40' : ¬ (40 : Int) < (q.length : Int) := by omega
        clear hlR
        go_wp2
        go_ret2
        exact ⟨hbw, .inr ⟨_, q, HC.out, rfl, HW.out.own, HF.out⟩⟩
end Go.Proofs.YtlpfbdejiifbpaaGreatDoor
