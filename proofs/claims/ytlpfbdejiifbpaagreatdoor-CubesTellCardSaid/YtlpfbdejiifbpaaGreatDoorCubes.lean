/-
  THE WALKS of slices.Clone at lists, cubes.one, cubes.none.
-/
import Derived.Test.YtlpfbdejiifbpaaGreatDoorAdd
namespace Go.Proofs.YtlpfbdejiifbpaaGreatDoor
open Go.RowKit

/-- A clone's row of slices: the lists lie elsewhere. -/
theorem own_of_clone {w w' : World} {v : Value} {p : List LV} (hown : w'.ownsRow w.heap.size 23 1 v p.length (lCells p)) (hp : LOk w p) (hb : Below w.heap.size w w') : OwnL w.heap.size w' v p :=
  ⟨hown, hp.keep hb, fun x hx hl b e e2 => by
    have h1 := ints_lt (hp x hx) hl e
    have h2 := (hown.lt b e2).1
    omega⟩
def CloneLPost (p : List LV) (w : World) (e : Ending) (w' : World) : Prop := ∃ v', e = .returned v' ∧ RowAt w w' v' p
set_option maxHeartbeats 1000000 in
set_option maxRecDepth 100000 in
theorem clone_lists (A : Option Addr) (c : Nat) (p : List LV) (w : World) (hr : Rd w A (lCells p)) (hp : LOk w p) (hl : p.length ≤ 1000) : Calls Tryz.prog 107 #[.slice A p.length c] w (CloneLPost p w) := by
  have q38 : ∀ (w : World) (a : Option Addr) (n c n' c' : Nat), (binOp .eql 26 (.slice a n c) (.slice none n' c')).run Tryz.prog w = .ok (.bool a.isNone) w := fun w a n c n' c' => Lib.run_eql_slice_nil w _ _ a n c n' c' Tryz.underlying26
  rcases A with _ | ad
  · have hz : p = [] := by
      rcases p with _ | ⟨x, r⟩
      · rfl
      · obtain ⟨_, h, _⟩ := hr 0 x.2 rfl
        cases h
    subst hz
    go_enter Tryz.func107, Tryz.ntmps107
    go_wp2
    go_ret
    exact ⟨_, rfl, OwnL.nil _ _, Below.refl _ _⟩
  · have hown : (w.alloc (.cells #[] 23)).ownsRow w.heap.size 23 1 (.slice (some ⟨w.heap.size, 0, none⟩) 0 0) 0 [] :=
      ⟨rfl, .inr ⟨w.heap.size, 0, #[], rfl, Nat.le_refl _, Blk.new w 23 #[], Nat.le_refl _, by simp [maxLen], rfl, rfl⟩⟩
    have hr2 : Rd (w.alloc (.cells #[] 23)) (some ad) (lCells p) := hr.keep (by (repeat' (first | (with_reducible exact Below.refl _ _) | (with_reducible assumption) | (with_reducible refine Below.next ?_ (by with_reducible assumption)) | (with_reducible refine Below.drew ?_) | (with_reducible refine Below.laid ?_ _) | (with_reducible refine Below.setCell ?_ ?_ _) | (with_reducible refine size_of ?_) | (with_reducible refine Nat.le_succ_of_le ?_) | go_size)))
    have hp2 : LOk (w.alloc (.cells #[] 23)) p := hp.keep (by (repeat' (first | (with_reducible exact Below.refl _ _) | (with_reducible assumption) | (with_reducible refine Below.next ?_ (by with_reducible assumption)) | (with_reducible refine Below.drew ?_) | (with_reducible refine Below.laid ?_ _) | (with_reducible refine Below.setCell ?_ ?_ _) | (with_reducible refine size_of ?_) | (with_reducible refine Nat.le_succ_of_le ?_) | go_size)))
    go_enter Tryz.func107, Tryz.ntmps107
    go_wp2_with (at_builtin; refine wpList_appLs _ rfl _ _ rfl w.heap.size _ _ _ rfl hown ad c p rfl hr2 hp2 (by omega) (by simp) ?_)
    intro v' w1 hown' hg' _
    have hb : Below w.heap.size w w1 := ((Below.refl _ w).alloc (Nat.le_refl _) (.cells #[] 23)).grown hg' (by simp) (fun g hg => by simp [Value.ownBlock] at hg; omega)
    go_wp2
    go_ret
    exact ⟨v', rfl, own_of_clone (by simpa using hown') hp hb, hb⟩

theorem orL_grow : ∀ (b o : List (List Int)), o.length ≤ (Venn.orL o b).length := by
  intro b
  induction b with
  | nil => intro o; exact Nat.le_refl _
  | cons c r ih => intro o; exact Nat.le_trans (Venn.putV_len o c).2 (ih _)
set_option maxHeartbeats 4000000 in
set_option maxRecDepth 100000 in
theorem cubes_one (O : Nat) (sa sb : Value) (la lb : List (List Int)) (w : World) (ha : ListsOff O w sa la) (hb : ListsOff O w sb lb) (h1 : la.length ≤ 40) (h2 : lb.length ≤ 40) :
    Calls Tryz.prog 87 #[sa, sb] w (CubesPost O (Venn.orV la lb) w) := by
  obtain ⟨A, ca, pa, rfl, rfl, hra, hoa, _, _, hfa, _⟩ := ha
  obtain ⟨B, cb, pb, rfl, rfl, hrb, hob, _, _, hfb, _⟩ := hb
  rw [lVals_len] at h1 h2
  have HFA := Lib.hid hfa
  have HFB := Lib.hid hfb
  clear hfa hfb
  have HCL := Lib.hid (clone_lists A ca pa w hra hoa (by omega))
  have HRB := Lib.hid hrb
  have HOB := Lib.hid hob
  have HJ := Lib.hid (show Venn.orL (lVals pa) (lVals pb) = Venn.orL (lVals pa) ((lVals pb).drop 0) by rw [List.drop_zero])
  have HL := Lib.hid (show (Venn.orL (lVals pa) (lVals pb)).length ≤ 80 by
    have := Venn.orL_len (lVals pb) (lVals pa)
    rw [lVals_len, lVals_len] at this
    omega)
  unfold Venn.orV
  generalize Venn.orL (lVals pa) (lVals pb) = R at HJ HL ⊢
  clear hra hrb hoa hob
  go_enter Tryz.func87, Tryz.ntmps87
  go_wp2_with fail
  refine (HCL.out).mono ?_
  rintro e w0 ⟨v0, rfl, hrow0⟩
  obtain ⟨V0, k0, rfl⟩ := hrow0.own.slice
  have HW0 := Lib.hid hrow0
  clear hrow0
  go_wp2
  go_loopw [6, 13] (fun v i wr => ∃ (j : Nat) (p : List LV), j ≤ pb.length ∧ i = .int .i64 j ∧ RowAt w wr v p ∧ Off O p ∧ R = Venn.orL (lVals p) ((lVals pb).drop j)) (fun _ i _ => pb.length - (intOf i).toNat)
  case atStart => exact ⟨0, pa, Nat.zero_le _, rfl, HW0.out, HFA.out, HJ.out⟩
  case round =>
    clear HW0 HJ
    obtain ⟨j, q, hj, rfl, hrow, hoff, hR⟩ := hrel
    obtain ⟨w1, rfl⟩ : ∃ w1 : World, w1 = wr := ⟨_, rfl⟩
    obtain ⟨V1, k1, rfl⟩ := hrow.own.slice
    have HW := Lib.hid hrow
    have HF := Lib.hid hoff
    have hbw := hrow.below
    clear hrow hoff
    by_cases hlj : j < pb.length
    · obtain ⟨⟨y, yv⟩, hy⟩ : ∃ x, pb[j]? = some x := ⟨pb[j], List.getElem?_eq_getElem hlj⟩
      obtain ⟨bd, rfl, hd0⟩ := HRB.out j yv (by unfold lCells; rw [List.getElem?_map, hy]; rfl)
      have hd := cell_keep hbw hd0
      have hYV := HOB.out _ (List.mem_of_getElem? hy)
      rw [lVals_at hy, Venn.orL] at hR
      have hj1 : (j : Int) < (pb.length : Int) := by omega
      have hj0 : (0 : Int) ≤ (j : Int) := by omega
      have HR := Lib.hid hR
      have hlen : q.length < 100000 := by
        have h1 := HL.out
        rw [HR.out] at h1
        have h2 := orL_grow ((lVals pb).drop (j + 1)) (Venn.putV (lVals q) y)
        have h3 := (Venn.putV_len (lVals q) y).2
        rw [lVals_len] at h3
        simp only at h1
        omega
      have HA := Lib.hid (cubes_add w.heap.size _ q (y, yv) w1 HW.out.own (hYV.keep hbw) (fun hne b e e2 => by
        have h1 := ints_lt hYV hne e
        have h2 := (HW.out.own.own.lt b e2).1
        omega) hlen hbw.size)
      simp only at HA
      have HFY := Lib.hid (HFB.out _ (List.mem_of_getElem? hy))
      clear hR hy hd0 hbw hYV hlen
      go_wp2_with fail
      clear hd
      refine (HA.out).mono ?_
      rintro e w3 ⟨v', p', rfl, ho3, hp3, hmem, hbut, _⟩
      have HF3 := Lib.hid (show Off O p' from fun x hx hne b e => (hmem x hx).elim (fun h => HF.out x h hne b e) (fun h => HFY.out (by rw [h] at hne; exact hne) b (by rw [h] at e; exact e)))
      clear hmem
      have HW3 := Lib.hid (HW.out.add ho3 hbut)
      have HR3 := Lib.hid (show R = Venn.orL (lVals p') ((lVals pb).drop (j + 1)) by rw [hp3]; exact HR.out)
      clear HW ho3 hp3 hbut
      go_wp2
      go_roundw
      case rel => exact ⟨j + 1, p', by omega, by go_num, HW3.out, HF3.out, HR3.out⟩
      case measure => simp [intOf]; omega
    · have hj' : j = pb.length := by omega
      have HR := Lib.hid (show R = lVals q by rw [hR, hj', List.drop_eq_nil_of_le (by rw [lVals_len]; exact Nat.le_refl _)]; rfl)
      subst hj'
      clear hR
      have hlR : R.length = q.length := by rw [HR.out, lVals_len]
      by_cases h40 : 40 < q.length
      · have HC := Lib.hid (show Venn.chkC R = none by unfold Venn.chkC; rw [if_pos (by omega)])
        clear hlR
        go_wp2_with fail
        refine (cubes_checked _ _ _ _ rfl _).mono ?_
        rintro e w2 ⟨rfl, rfl⟩
        rw [if_pos h40]
        go_wp2
        go_ret2
        exact ⟨hbw, .inl ⟨HC.out, rfl⟩⟩
      · have HC := Lib.hid (show Venn.chkC R = some (lVals q) by unfold Venn.chkC; rw [if_neg (by omega), HR.out])
        clear hlR
        go_wp2_with fail
        refine (cubes_checked _ _ _ _ rfl _).mono ?_
        rintro e w2 ⟨rfl, rfl⟩
        rw [if_neg h40]
        go_wp2
        go_ret2
        exact ⟨hbw, .inr ⟨_, q, HC.out, rfl, HW.out.own, HF.out⟩⟩

/-- What a function answers that makes cubes, and whose list may lie anywhere but in O. -/
def NonePost (O : Nat) (J : Option (List (List Int))) (w : World) (e : Ending) (w' : World) : Prop :=
  Below w.heap.size w w' ∧ ((J = none ∧ e = .returned (.tuple #[.slice none 0 0, errV 4])) ∨ ∃ v L, J = some L ∧ e = .returned (.tuple #[v, errV 0]) ∧ ListsOff O w' v L)
theorem CubesPost.off {O : Nat} {J : Option (List (List Int))} {w w' : World} {e : Ending} (h : CubesPost O J w e w') (hO : O < w.heap.size) : NonePost O J w e w' :=
  ⟨h.1, h.2.imp id fun ⟨v, p, h1, h2, h3, h4⟩ => ⟨v, lVals p, h1, h2, ListsOff.of_own h3 h4 hO⟩⟩
theorem slice_of_lists {O : Nat} {w : World} {v : Value} {L : List (List Int)} (h : ListsOff O w v L) : ∃ A c, v = .slice A L.length c := by
  obtain ⟨A, c, p, rfl, rfl, _⟩ := h
  exact ⟨A, c, by rw [lVals_len]⟩
set_option maxHeartbeats 4000000 in
set_option maxRecDepth 100000 in
theorem cubes_none (O : Nat) (sa : Value) (la : List (List Int)) (w : World) (hO : O < w.heap.size) (ha : IsLists w sa la) (ma : ∀ c ∈ la, ∀ x ∈ c, Venn.mOk x = true) (na : ∀ c ∈ la, c.length ≤ 6) (h1 : la.length ≤ 40) :
    Calls Tryz.prog 85 #[sa] w (NonePost O (Venn.noV la) w) := by
  obtain ⟨A, ca, pa, rfl, rfl, hra, hoa, _, _⟩ := ha
  have HRA := Lib.hid hra
  have HOA := Lib.hid hoa
  have HMA := Lib.hid ma
  have HNA := Lib.hid na
  rw [lVals_len] at h1
  have HJ := Lib.hid (show Venn.noV (lVals pa) = Venn.noFrom [[]] ((lVals pa).drop 0) by rw [List.drop_zero]; rfl)
  generalize Venn.noV (lVals pa) = J at HJ ⊢
  clear hra hoa ma na
  have hb0 : Below w.heap.size w (w.alloc (.cells #[.slice none 0 0] 23)) := by (repeat' (first | (with_reducible exact Below.refl _ _) | (with_reducible assumption) | (with_reducible refine Below.next ?_ (by with_reducible assumption)) | (with_reducible refine Below.drew ?_) | (with_reducible refine Below.laid ?_ _) | (with_reducible refine Below.setCell ?_ ?_ _) | (with_reducible refine size_of ?_) | (with_reducible refine Nat.le_succ_of_le ?_) | go_size))
  have HL0 := Lib.hid (show ListsOff O (w.alloc (.cells #[.slice none 0 0] 23)) (.slice (some ⟨w.heap.size, 0, none⟩) 1 1) [[]] from by
    refine ⟨_, _, [([], .slice none 0 0)], rfl, rfl, fun j u hj => ⟨_, rfl, ?_⟩, fun x hx => ?_, Nat.le_refl _, by simp [maxLen], fun x hx hne => ?_, fun _ b e => ?_⟩
    · match j, hj with
      | 0, hj => simp [lCells] at hj; subst hj; exact (Blk.new w 23 #[.slice none 0 0]).cell 0
    · rw [List.mem_singleton.1 hx]; exact ⟨none, 0, rfl, Rd.nil _ _, Nat.le_refl _, by simp [maxLen]⟩
    · rw [List.mem_singleton.1 hx] at hne; exact absurd rfl hne
    · simp [Value.ownBlock] at e; omega)
  go_enter Tryz.func85, Tryz.ntmps85
  go_upto_region 2 with (fail)
  go_wp2
  go_loopw [4, 15] (fun v i wr => ∃ (k : Nat) (o : List (List Int)), k ≤ pa.length ∧ i = .int .i64 k ∧ Below w.heap.size w wr ∧ ListsOff O wr v o ∧ Venn.COk o ∧ J = Venn.noFrom o ((lVals pa).drop k)) (fun _ i _ => pa.length - (intOf i).toNat)
  case atStart => exact ⟨0, [[]], Nat.zero_le _, rfl, hb0, HL0.out, Venn.nilnil_ok, HJ.out⟩
  case round =>
    clear HL0 HJ hb0
    obtain ⟨k, o, hk, rfl, hbw, hlo, hco, hJ⟩ := hrel
    obtain ⟨wo, rfl⟩ : ∃ wo : World, wo = wr := ⟨_, rfl⟩
    obtain ⟨V0, k0, rfl⟩ := slice_of_lists hlo
    have HLO := Lib.hid hlo
    have HCO := Lib.hid hco
    clear hlo hco
    by_cases hlt : k < pa.length
    · obtain ⟨⟨x, xv⟩, hx⟩ : ∃ x, pa[k]? = some x := ⟨pa[k], List.getElem?_eq_getElem hlt⟩
      obtain ⟨ad, rfl, hc0⟩ := HRA.out k xv (by unfold lCells; rw [List.getElem?_map, hx]; rfl)
      have hc := cell_keep hbw hc0
      obtain ⟨X, cx, hxv, hrx, hx1, hx2⟩ := HOA.out _ (List.mem_of_getElem? hx)
      have hmx := HMA.out _ (lVals_mem (List.mem_of_getElem? hx))
      have hnx := HNA.out _ (lVals_mem (List.mem_of_getElem? hx))
      rw [lVals_at hx, Venn.noFrom] at hJ
      simp only at hxv hrx hx1 hmx hnx hJ
      subst hxv
      have HMX := Lib.hid hmx
      have HRX := Lib.hid hrx
      have HJ := Lib.hid hJ
      have hk1 : (k : Int) < (pa.length : Int) := by omega
      have hk0 : (0 : Int) ≤ (k : Int) := by omega
      clear hJ hx hc0 hmx hrx hx2
      go_upto_region 6 with (fail)
      clear hc
      go_wp2
      go_loopw [7, 21] (fun v i wr => ∃ (j : Nat) (p : List LV), j ≤ x.length ∧ i = .int .i64 j ∧ RowAt wo wr v p ∧ lVals p = Venn.turnC (x.take j)) (fun _ i _ => x.length - (intOf i).toNat)
      case atStart => exact ⟨0, [], Nat.zero_le _, rfl, ⟨OwnL.nil _ _, Below.refl _ _⟩, rfl⟩
      case round =>
        obtain ⟨j, q, hj, rfl, hrow, hq⟩ := hrel
        obtain ⟨w1, rfl⟩ : ∃ w1 : World, w1 = wr := ⟨_, rfl⟩
        obtain ⟨V1, k1, rfl⟩ := hrow.own.slice
        have hbw1 := hrow.below
        have hql : q.length = j := by
          have := congrArg List.length hq
          rw [lVals_len, Venn.turnC, List.length_map, List.length_take] at this
          omega
        have HW := Lib.hid hrow
        have HQ := Lib.hid hq
        have hq6 : q.length < 1000000 := by omega
        have HQL := Lib.hid hql
        clear hrow hq hql
        by_cases hlj : j < x.length
        · obtain ⟨xd, rfl, hd0⟩ := HRX.out.int hlj
          have hd := cell_keep (Below.next hbw hbw1) hd0
          have hm := Venn.mOk_iff.1 (HMX.out _ (List.getElem_mem hlj))
          have HQ2 := Lib.hid (show Venn.turnC (x.take (j + 1)) = lVals q ++ [[-x[j]]] by
            rw [HQ.out, Venn.turnC, Venn.turnC, List.take_succ_eq_append_getElem hlj, List.map_append]; rfl)
          generalize x[j] = m at hd0 hd hm HQ2
          have hw : wrap64 (-m) = -m := IntWalk.wrap64_in _ (by omega)
          have hj1 : (j : Int) < (x.length : Int) := by omega
          have hj0 : (0 : Int) ≤ (j : Int) := by omega
          clear hd0 hm
          go_upto_region 9 with (fail)
          clear hd
          have hb2 : Below w1.heap.size w1 (w1.alloc (.cells #[.int .i64 (-m)] 3)) := by (repeat' (first | (with_reducible exact Below.refl _ _) | (with_reducible assumption) | (with_reducible refine Below.next ?_ (by with_reducible assumption)) | (with_reducible refine Below.drew ?_) | (with_reducible refine Below.laid ?_ _) | (with_reducible refine Below.setCell ?_ ?_ _) | (with_reducible refine size_of ?_) | (with_reducible refine Nat.le_succ_of_le ?_) | go_size))
          have hI := (IsInts.one w1 (-m) 3).keep (show Below (w1.alloc (.cells #[.int .i64 (-m)] 3)).heap.size _ ((w1.alloc (.cells #[.int .i64 (-m)] 3)).alloc (.cells #[.slice (some ⟨w1.heap.size, 0, none⟩) 1 1] 23)) by (repeat' (first | (with_reducible exact Below.refl _ _) | (with_reducible assumption) | (with_reducible refine Below.next ?_ (by with_reducible assumption)) | (with_reducible refine Below.drew ?_) | (with_reducible refine Below.laid ?_ _) | (with_reducible refine Below.setCell ?_ ?_ _) | (with_reducible refine size_of ?_) | (with_reducible refine Nat.le_succ_of_le ?_) | go_size)))
          have hb3 : Below w1.heap.size w1 ((w1.alloc (.cells #[.int .i64 (-m)] 3)).alloc (.cells #[.slice (some ⟨w1.heap.size, 0, none⟩) 1 1] 23)) := by (repeat' (first | (with_reducible exact Below.refl _ _) | (with_reducible assumption) | (with_reducible refine Below.next ?_ (by with_reducible assumption)) | (with_reducible refine Below.drew ?_) | (with_reducible refine Below.laid ?_ _) | (with_reducible refine Below.setCell ?_ ?_ _) | (with_reducible refine size_of ?_) | (with_reducible refine Nat.le_succ_of_le ?_) | go_size))
          have hcell : ((w1.alloc (.cells #[.int .i64 (-m)] 3)).alloc (.cells #[.slice (some ⟨w1.heap.size, 0, none⟩) 1 1] 23)).cell? ⟨w1.heap.size + 1, 0, none⟩ = some (.slice (some ⟨w1.heap.size, 0, none⟩) 1 1) := by
            simp
          have HO3 := Lib.hid (HW.out.own.keep hb3)
          have hbase : wo.heap.size ≤ ((w1.alloc (.cells #[.int .i64 (-m)] 3)).alloc (.cells #[.slice (some ⟨w1.heap.size, 0, none⟩) 1 1] 23)).heap.size := Nat.le_trans hbw1.size hb3.size
          have hfar : ([-m] : List Int) ≠ [] → ∀ b, (Value.slice (some ⟨w1.heap.size, 0, none⟩) 1 1).ownBlock = some b → (Value.slice V1 q.length k1).ownBlock ≠ some b := fun _ b e e2 => by
            have := (HW.out.own.own.lt b e2).2
            simp [Value.ownBlock] at e
            omega
          go_wp2_with (at_builtin; refine wpList_appL _ rfl _ _ rfl wo.heap.size _ q rfl HO3.out (w1.heap.size + 1) 1 ([-m], .slice (some ⟨w1.heap.size, 0, none⟩) 1 1) rfl hcell hI hfar hq6 hbase ?_)
          intro v' w3 hown3 hg3 hat3
          have HW3 := Lib.hid ((HW.out.keep hb3).add hown3 (But.of_grown hg3))
          have HQ3 := Lib.hid (show lVals (q ++ [([-m], .slice (some ⟨w1.heap.size, 0, none⟩) 1 1)]) = Venn.turnC (x.take (j + 1)) by rw [lVals_app, HQ2.out]; rfl)
          clear hown3 hg3 hat3 hfar hI hcell hb2 hb3 hbase
          go_wp2
          go_roundw
          case rel => exact ⟨j + 1, _, by omega, by go_num, HW3.out, HQ3.out⟩
          case measure => simp [intOf]; omega
        · have hj' : j = x.length := by omega
          have HQ := Lib.hid (show lVals q = Venn.turnC x by rw [HQ.out, hj', List.take_length])
          have hql6 : q.length ≤ 6 := by have := HQL.out; omega
          have HB := Lib.hid (cubes_both O (.slice V0 o.length k0) (.slice V1 q.length k1) o (lVals q) w1 (Nat.lt_of_lt_of_le hO (Nat.le_trans hbw.size hbw1.size)) (HLO.out.keep hbw1).lists HW.out.own.lists HCO.out.2 (by rw [lVals_len]; omega) (Venn.mem_of_cok HCO.out) (by rw [HQ.out]; exact Venn.turnC_ok HMX.out)
            (fun c hc => by have := (HCO.out.1.1 c hc).2.2; omega) (fun c hc => by
              rw [HQ.out] at hc
              obtain ⟨z, _, rfl⟩ := List.mem_map.1 hc
              simp))
          rw [HQ.out] at HB
          have hbw2 := Below.next hbw hbw1
          subst hj'
          cases hA : Venn.andV o (Venn.turnC x) with
          | none =>
            rw [hA] at HB
            have HJ := Lib.hid (show J = none by rw [HJ.out, hA])
            clear hA
            go_wp2_with fail
            refine (HB.out).mono ?_
            rintro e w4 ⟨hb4, ⟨_, rfl⟩ | ⟨v, p, hh, _⟩⟩
            · rw [errV_ne (show (4 : Int) ≠ 0 by decide)]
              have hbw4 := Below.next hbw2 hb4
              go_wp2
              go_ret2
              exact ⟨hbw4, .inl ⟨HJ.out, by rw [errV_ne (show (4 : Int) ≠ 0 by decide)]; rfl⟩⟩
            · cases hh
          | some n =>
            rw [hA] at HB
            have HC := Lib.hid (Venn.andV_ok hA)
            have HJ := Lib.hid (show J = Venn.noFrom n ((lVals pa).drop (k + 1)) by rw [HJ.out, hA])
            clear hA
            go_wp2_with fail
            refine (HB.out).mono ?_
            rintro e w4 ⟨hb4, ⟨hh, _⟩ | ⟨v, p, hh, rfl, hown4, hoff4⟩⟩
            · cases hh
            · injection hh with hh
              subst hh
              rw [errV_zero rfl]
              have HL4 := Lib.hid (ListsOff.of_own hown4 hoff4 (Nat.lt_of_lt_of_le hO hbw2.size))
              have hbw4 := Below.next hbw2 hb4
              clear hown4 hoff4 hb4
              go_wp2
              go_roundw
              case rel => exact ⟨k + 1, _, by omega, by go_num, hbw4, HL4.out, HC.out, HJ.out⟩
              case measure => simp [intOf]; omega
    · have hk' : k = pa.length := by omega
      have HJ := Lib.hid (show J = some o by rw [hJ, hk', List.drop_eq_nil_of_le (by rw [lVals_len]; exact Nat.le_refl _)]; rfl)
      subst hk'
      clear hJ
      go_wp2
      go_ret2
      exact ⟨hbw, .inr ⟨_, _, HJ.out, by rw [errV_zero rfl]; rfl, HLO.out⟩⟩
end Go.Proofs.YtlpfbdejiifbpaaGreatDoor
