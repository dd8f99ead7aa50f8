/-
  THE WALKS of worlds.ways and worlds.Of.
-/
import Derived.Test.YtcloppcekbdbaaaGreatDoorFitG
import Derived.Test.YtcloppcekbdbaaaGreatDoorFormG
import Derived.Test.YtcloppcekbdbaaaGreatDoorVennP2
import Derived.Test.YtcloppcekbdbaaaGreatDoorSpanG
import Derived.Stop.RegionWithIn
namespace Go.Proofs.YtcloppcekbdbaaaGreatDoor
open Go.RowKit Go.Shelf
attribute [local go_sem] Oper.semAt_some

theorem seven_le : ∀ T : Fin 7, ((7 ^ T.val : Nat) : Int) ≤ 117649 := by decide
theorem ways_step {O i : Int} {T : Nat} (hT : T ≤ 5) (h0 : 0 ≤ O) (h7 : O ≤ ((7 ^ T : Nat) : Int)) (hi : 1 ≤ i) :
    (0 ≤ O * ((T : Int) + 1) ∧ O * ((T : Int) + 1) ≤ 823543) ∧ (0 ≤ O * ((T : Int) + 1) / i ∧ O * ((T : Int) + 1) / i ≤ ((7 ^ (T + 1) : Nat) : Int)) := by
  have h1 : 0 ≤ O * ((T : Int) + 1) := Int.mul_nonneg h0 (by omega)
  have h2 : O * ((T : Int) + 1) ≤ ((7 ^ T : Nat) : Int) * 7 := Int.mul_le_mul h7 (by omega) (by omega) (by omega)
  have h3 := seven_le ⟨T, by omega⟩
  simp only at h3
  have h4 : ((7 ^ (T + 1) : Nat) : Int) = ((7 ^ T : Nat) : Int) * 7 := by rw [Nat.pow_succ]; simp
  have h5 : O * ((T : Int) + 1) / i ≤ O * ((T : Int) + 1) := Int.ediv_le_self _ h1
  exact ⟨⟨h1, by omega⟩, Int.ediv_nonneg h1 (by omega), by omega⟩

set_option maxHeartbeats 2000000 in
set_option maxRecDepth 100000 in
theorem worlds_ways (n0 n1 n2 n3 n4 n5 n6 n7 : Int) (w : World) (hp : ∀ x ∈ [n0, n1, n2, n3, n4, n5, n6, n7], 0 ≤ x) (hs : [n0, n1, n2, n3, n4, n5, n6, n7].sum ≤ 6) :
    Calls Tryz.prog 95 #[.agg #[.int .i64 n0, .int .i64 n1, .int .i64 n2, .int .i64 n3, .int .i64 n4, .int .i64 n5, .int .i64 n6, .int .i64 n7]] w (Keeps (.int .i64 (Venn.ways [n0, n1, n2, n3, n4, n5, n6, n7])) w) := by
  generalize hl : [n0, n1, n2, n3, n4, n5, n6, n7] = l at hp hs ⊢
  have hidx : ∀ (k : Nat) (W : World), k < 8 → (Instr.index 105 (.agg #[.int .i64 n0, .int .i64 n1, .int .i64 n2, .int .i64 n3, .int .i64 n4, .int .i64 n5, .int .i64 n6, .int .i64 n7]) (.int .i64 (k : Int))).run Tryz.prog W = .ok (.int .i64 (l[k]?.getD 0)) W := by
    intro k W hk
    subst hl
    exact idx8 _ _ _ _ _ _ _ _ k W hk
  have hlen : l.length = 8 := by subst hl; rfl
  have HI := Lib.hid hidx
  have HP := Lib.hid hp
  obtain ⟨E, hE⟩ : ∃ E, E = Venn.ways l := ⟨_, rfl⟩
  rw [← hE]
  have HE := Lib.hid (show E = (l.foldl (fun p k => Venn.waysIn k.toNat 1 p.1 p.2) (1, 0)).1 from hE)
  clear hidx hp hl hE
  go_enter Tryz.func95, Tryz.ntmps95
  go_wp2
  have hpre : ∀ k (h : k < l.length), 0 ≤ l[k] := fun k h => HP.out _ (List.getElem_mem h)
  have HPR := Lib.hid hpre; clear hpre
  go_loopw [3, 4, 9] (fun o th i wr => ∃ (k T : Nat) (O : Int), k ≤ 8 ∧ i = .int .i64 k ∧ o = .int .i64 O ∧ th = .int .i64 T ∧ 0 ≤ O ∧ O ≤ ((7 ^ T : Nat) : Int) ∧ (T : Int) + (l.drop k).sum ≤ 6 ∧ Below w.heap.size w wr ∧ E = ((l.drop k).foldl (fun p k => Venn.waysIn k.toNat 1 p.1 p.2) (O, (T : Int))).1)
    (fun _ _ i _ => 8 - (intOf i).toNat)
  case atStart => exact ⟨0, 0, 1, by omega, rfl, rfl, rfl, by decide, by decide, by simpa using hs, by (repeat' (first | (with_reducible exact Below.refl _ _) | (with_reducible assumption) | (with_reducible refine Below.next ?_ (by with_reducible assumption)) | (with_reducible refine Below.drew ?_) | (with_reducible refine Below.laid ?_ _) | (with_reducible refine Below.setCell ?_ ?_ _) | (with_reducible refine size_of ?_) | (with_reducible refine Nat.le_succ_of_le ?_) | go_size)), by rw [List.drop_zero]; exact HE.out⟩
  case round =>
    obtain ⟨k, T, O, hk, rfl, rfl, rfl, hO0, hO7, hsum, hb, hgo⟩ := hrel
    obtain ⟨wo, rfl⟩ : ∃ wo : World, wo = wr := ⟨_, rfl⟩
    have HG := Lib.hid hgo; clear hgo
    by_cases hlt : k < 8
    · have hix := HI.out k wo hlt
      have hkl : k < l.length := by omega
      have HD := Lib.hid (List.drop_eq_getElem_cons hkl)
      have hx0 := HPR.out k hkl
      rw [List.getElem?_eq_getElem hkl, Option.getD_some] at hix
      generalize l[k] = x at hix HD hx0
      obtain ⟨n, rfl⟩ := Int.eq_ofNat_of_zero_le hx0
      rw [HD.out, List.sum_cons] at hsum
      have hdec : decide ((k : Int) < 8) = true := by simp; omega
      have hrest0 : 0 ≤ (l.drop (k + 1)).sum := Venn.sum_nonneg _ fun x hx => HP.out x (List.mem_of_mem_drop hx)
      have HO7 := Lib.hid hO7
      clear hO7
      go_wp2
      have hn6 : n ≤ 6 := by omega
      go_loopw [3, 4, 7] (fun o th i wr => ∃ (j T' : Nat) (O' : Int), j ≤ n ∧ i = .int .i64 ((j : Int) + 1) ∧ o = .int .i64 O' ∧ th = .int .i64 T' ∧ 0 ≤ O' ∧ O' ≤ ((7 ^ T' : Nat) : Int) ∧ (T' : Int) + (n - j : Nat) = T + n ∧ Below w.heap.size w wr ∧ Venn.waysIn (n - j) (j + 1) O' (T' : Int) = Venn.waysIn n 1 O (T : Int))
        (fun _ _ i _ => n + 1 - (intOf i).toNat)
      case atStart => exact ⟨0, T, O, by omega, rfl, rfl, rfl, hO0, HO7.out, by simp, hb, rfl⟩
      case round =>
        obtain ⟨j, T', O', hj, rfl, rfl, rfl, hp0, hp7, hth, hb', hadd⟩ := hrel
        obtain ⟨wi, rfl⟩ : ∃ wi : World, wi = wr := ⟨_, rfl⟩
        have HA := Lib.hid hadd; clear hadd
        have HP7 := Lib.hid hp7
        by_cases hjn : j < n
        · have hT5 : T' ≤ 5 := by omega
          obtain ⟨⟨s0, s1⟩, s2, s3⟩ := ways_step hT5 hp0 hp7 (show (1 : Int) ≤ (j : Int) + 1 by omega)
          have HD1 := Lib.hid (show (O' * ((T' : Int) + 1)).tdiv ((j : Int) + 1) = O' * ((T' : Int) + 1) / ((j : Int) + 1) from Int.tdiv_eq_ediv_of_nonneg s0)
          have HS := Lib.hid (And.intro s2 s3)
          clear hp7 s2 s3
          have hw0 : IntKind.i64.wrap ((T' : Int) + 1) = (T' : Int) + 1 := IntWalk.i64_in _ (by omega)
          have hw1 : IntKind.i64.wrap (O' * ((T' : Int) + 1)) = O' * ((T' : Int) + 1) := IntWalk.i64_in _ (by omega)
          have hw2 : IntKind.i64.wrap (O' * ((T' : Int) + 1) / ((j : Int) + 1)) = O' * ((T' : Int) + 1) / ((j : Int) + 1) := IntWalk.i64_in _ (by
            have := Int.ediv_le_self ((j : Int) + 1) s0
            have := HS.out.1
            omega)
          have hj1 : (j : Int) + 1 ≤ (n : Int) := by omega
          have hj0 : ¬ ((j : Int) + 1 = 0) := by omega
          go_wp2
          go_roundw
          case rel =>
            refine ⟨j + 1, T' + 1, O' * ((T' : Int) + 1) / ((j : Int) + 1), by omega, by go_num, rfl, by go_num, HS.out.1, HS.out.2, by omega, hb', ?_⟩
            rw [← HA.out, show n - j = (n - (j + 1)) + 1 by omega]
            rfl
          case measure => simp [intOf]; omega
        · have hjn' : j = n := by omega
          subst hjn'
          rw [Nat.sub_self] at HA hth
          go_wp2
          go_roundw
          case rel =>
            refine ⟨k + 1, T', O', by omega, by go_num, rfl, rfl, hp0, HP7.out, by omega, hb', ?_⟩
            rw [HG.out, HD.out, List.foldl_cons, Int.toNat_natCast, ← HA.out]
            rfl
          case measure => simp [intOf]; omega
    · have hk8 : k = 8 := by omega
      subst hk8
      have HV := Lib.hid (show E = O by rw [HG.out, List.drop_eq_nil_of_le (by omega)]; rfl)
      go_wp2
      go_ret
      exact ⟨ret_int HV.out.symm, hb⟩

theorem worldsGo_range (f : Venn.Form) : ∀ (l : List (List Int)), (∀ x ∈ l, 0 ≤ Venn.ways x ∧ Venn.ways x ≤ 720) → 0 ≤ Venn.worldsGo f l ∧ Venn.worldsGo f l ≤ 720 * l.length := by
  intro l
  unfold Venn.worldsGo
  have : ∀ (l : List (List Int)) (s : Int), (∀ x ∈ l, 0 ≤ Venn.ways x ∧ Venn.ways x ≤ 720) → s ≤ l.foldl (fun s x => if Venn.formTrue f (Venn.made x) = true then s + Venn.ways x else s) s ∧ l.foldl (fun s x => if Venn.formTrue f (Venn.made x) = true then s + Venn.ways x else s) s ≤ s + 720 * l.length := by
    intro l
    induction l with
    | nil => intro s _; simp
    | cons x l ih =>
      intro s h
      have h1 := h x (by simp)
      have h2 := ih (if Venn.formTrue f (Venn.made x) = true then s + Venn.ways x else s) fun y hy => h y (List.mem_cons_of_mem _ hy)
      rw [List.foldl_cons, List.length_cons]
      split at h2 <;> rename_i hc
      · rw [if_pos hc]; omega
      · rw [if_neg hc]; omega
  intro h
  have := this l 0 h
  omega
theorem ways_all {u : Int} (hu : Venn.things u = true) : ∀ x ∈ Venn.allC u, 0 ≤ Venn.ways x ∧ Venn.ways x ≤ 720 := by
  simp only [Venn.things, Bool.and_eq_true, decide_eq_true_eq] at hu
  exact Venn.ways_range ⟨u.toNat, by omega⟩
theorem len_all {u : Int} (hu : Venn.things u = true) : (Venn.allC u).length ≤ 2000 := by
  simp only [Venn.things, Bool.and_eq_true, decide_eq_true_eq] at hu
  have : ∀ U : Fin 7, (Venn.allG 7 U.val).length ≤ 2000 := by decide +kernel
  exact this ⟨u.toNat, by omega⟩
def worldsVv (f : Venn.Form) (u : Int) : Value := .tuple #[.int .i64 (Venn.worldsV f u), errV (Venn.worldsChk f u)]
theorem worldsVv_bad {f : Venn.Form} {u e : Int} (h : Venn.worldsChk f u = e) (he : e ≠ 0) : worldsVv f u = .tuple #[.int .i64 0, .iface 92 (.int .i64 e)] := by
  rw [worldsVv, Venn.worldsV, if_neg (by rw [h]; exact he), h, errV_ne he]

set_option maxHeartbeats 4000000 in
set_option maxRecDepth 100000 in
theorem worlds_Of (sa sc : Value) (l : List Venn.Atom) (c : List Int) (u : Int) (w : World) (ha : IsAtoms w sa l) (hc : IsInts w sc c) (hk : KindsOk w) :
    Calls Tryz.prog 45 #[.agg #[sa, sc], .int .i64 u] w (Keeps (worldsVv ⟨l, c⟩ u) w) := by
  obtain ⟨A, cA, rfl, hra⟩ := ha
  obtain ⟨C, cC, rfl, hrc⟩ := hc
  have HA := Lib.hid (show IsAtoms w (.slice A l.length cA) l from ⟨A, cA, rfl, hra⟩)
  have HC := Lib.hid (show IsInts w (.slice C c.length cC) c from ⟨C, cC, rfl, hrc⟩)
  have HK := Lib.hid hk
  clear hra hrc hk
  by_cases h1 : ¬ Venn.formChk ⟨l, c⟩ = 0
  · have HX1 := Lib.hid (errV_ne h1)
    have HV := Lib.hid (worldsVv_bad (show Venn.worldsChk ⟨l, c⟩ u = Venn.formChk ⟨l, c⟩ by rw [Venn.worldsChk, if_neg h1]) h1)
    clear h1
    rw [HV.out]
    refine (callsIn_wide (n := 4)).1 ?_
    refine callsIn_of_wp_marks Tryz.func45 rfl trivial ?_ rfl
    simp only [Tryz.ntmps45, List.size_toArray, List.length_cons, List.length_nil, Nat.reduceAdd, Nat.reduceSub, Array.replicate_succ, Array.replicate_zero, List.push_toArray, List.append_toArray, List.nil_append, List.cons_append]
    gi_wp2_with (refine ⟨trivial, ?_⟩; gi_at_call 28; refine (callsIn_wide.2 (form_Check _ _ l c _ (HA.out.keep (by (repeat' (first | (with_reducible exact Below.refl _ _) | (with_reducible assumption) | (with_reducible refine Below.next ?_ (by with_reducible assumption)) | (with_reducible refine Below.drew ?_) | (with_reducible refine Below.laid ?_ _) | (with_reducible refine Below.setCell ?_ ?_ _) | (with_reducible refine size_of ?_) | (with_reducible refine Nat.le_succ_of_le ?_) | go_size)))) (HC.out.keep (by (repeat' (first | (with_reducible exact Below.refl _ _) | (with_reducible assumption) | (with_reducible refine Below.next ?_ (by with_reducible assumption)) | (with_reducible refine Below.drew ?_) | (with_reducible refine Below.laid ?_ _) | (with_reducible refine Below.setCell ?_ ?_ _) | (with_reducible refine size_of ?_) | (with_reducible refine Nat.le_succ_of_le ?_) | go_size)))) (HK.out.keep (by (repeat' (first | (with_reducible exact Below.refl _ _) | (with_reducible assumption) | (with_reducible refine Below.next ?_ (by with_reducible assumption)) | (with_reducible refine Below.drew ?_) | (with_reducible refine Below.laid ?_ _) | (with_reducible refine Below.setCell ?_ ?_ _) | (with_reducible refine size_of ?_) | (with_reducible refine Nat.le_succ_of_le ?_) | go_size)))))).mono ?_; rintro e w1 ⟨rfl, hb1⟩; rw [HX1.out])
    exact leave_none (v := .tuple #[.int .i64 0, .iface 92 (.int .i64 (Venn.formChk ⟨l, c⟩))]) rfl (by simp [results, Tryz.results45, go_sem]) ⟨rfl, by (repeat' (first | (with_reducible exact Below.refl _ _) | (with_reducible assumption) | (with_reducible refine Below.next ?_ (by with_reducible assumption)) | (with_reducible refine Below.drew ?_) | (with_reducible refine Below.laid ?_ _) | (with_reducible refine Below.setCell ?_ ?_ _) | (with_reducible refine size_of ?_) | (with_reducible refine Nat.le_succ_of_le ?_) | go_size))⟩
  replace h1 := Decidable.not_not.1 h1
  have HX1 := Lib.hid (errV_zero h1)
  cases hu : Venn.things u
  · have HU := Lib.hid hu
    have HV := Lib.hid (worldsVv_bad (e := 1) (show Venn.worldsChk ⟨l, c⟩ u = 1 by rw [Venn.worldsChk, if_pos h1, hu]; rfl) (by decide))
    clear h1 hu
    rw [HV.out]
    refine (callsIn_wide (n := 4)).1 ?_
    refine callsIn_of_wp_marks Tryz.func45 rfl trivial ?_ rfl
    simp only [Tryz.ntmps45, List.size_toArray, List.length_cons, List.length_nil, Nat.reduceAdd, Nat.reduceSub, Array.replicate_succ, Array.replicate_zero, List.push_toArray, List.append_toArray, List.nil_append, List.cons_append]
    gi_wp2_with (first | (refine ⟨trivial, ?_⟩; gi_at_call 28; refine (callsIn_wide.2 (form_Check _ _ l c _ (HA.out.keep (by (repeat' (first | (with_reducible exact Below.refl _ _) | (with_reducible assumption) | (with_reducible refine Below.next ?_ (by with_reducible assumption)) | (with_reducible refine Below.drew ?_) | (with_reducible refine Below.laid ?_ _) | (with_reducible refine Below.setCell ?_ ?_ _) | (with_reducible refine size_of ?_) | (with_reducible refine Nat.le_succ_of_le ?_) | go_size)))) (HC.out.keep (by (repeat' (first | (with_reducible exact Below.refl _ _) | (with_reducible assumption) | (with_reducible refine Below.next ?_ (by with_reducible assumption)) | (with_reducible refine Below.drew ?_) | (with_reducible refine Below.laid ?_ _) | (with_reducible refine Below.setCell ?_ ?_ _) | (with_reducible refine size_of ?_) | (with_reducible refine Nat.le_succ_of_le ?_) | go_size)))) (HK.out.keep (by (repeat' (first | (with_reducible exact Below.refl _ _) | (with_reducible assumption) | (with_reducible refine Below.next ?_ (by with_reducible assumption)) | (with_reducible refine Below.drew ?_) | (with_reducible refine Below.laid ?_ _) | (with_reducible refine Below.setCell ?_ ?_ _) | (with_reducible refine size_of ?_) | (with_reducible refine Nat.le_succ_of_le ?_) | go_size)))))).mono ?_; rintro e w1 ⟨rfl, hb1⟩; rw [HX1.out]) | (refine ⟨trivial, ?_⟩; gi_at_call 49; refine (callsIn_wide.2 (sets_Things _ _)).mono ?_; rintro e w' ⟨rfl, rfl⟩; rw [HU.out]))
    exact leave_none (v := .tuple #[.int .i64 0, .iface 92 (.int .i64 1)]) rfl (by simp [results, Tryz.results45, go_sem]) ⟨rfl, by (repeat' (first | (with_reducible exact Below.refl _ _) | (with_reducible assumption) | (with_reducible refine Below.next ?_ (by with_reducible assumption)) | (with_reducible refine Below.drew ?_) | (with_reducible refine Below.laid ?_ _) | (with_reducible refine Below.setCell ?_ ?_ _) | (with_reducible refine size_of ?_) | (with_reducible refine Nat.le_succ_of_le ?_) | go_size))⟩
  have HU := Lib.hid hu
  have HF := Lib.hid h1
  obtain ⟨E, hE⟩ : ∃ E, E = worldsVv ⟨l, c⟩ u := ⟨_, rfl⟩
  have HE := Lib.hid (show E = .tuple #[.int .i64 (Venn.worldsGo ⟨l, c⟩ (Venn.allC u)), .nilIface] by
    have hp : Venn.worldsChk ⟨l, c⟩ u = 0 := by rw [Venn.worldsChk, if_pos h1, if_pos hu]
    rw [hE, worldsVv, Venn.worldsV, if_pos hp, errV_zero hp])
  rw [← hE]
  have hlen := len_all hu
  have HWA := Lib.hid (ways_all hu)
  clear hE h1 hu
  refine (callsIn_wide (n := 4)).1 ?_
  refine callsIn_of_wp_marks Tryz.func45 rfl trivial ?_ rfl
  simp only [Tryz.ntmps45, List.size_toArray, List.length_cons, List.length_nil, Nat.reduceAdd, Nat.reduceSub, Array.replicate_succ, Array.replicate_zero, List.push_toArray, List.append_toArray, List.nil_append, List.cons_append]
  gi_wp2_with (first | (refine ⟨trivial, ?_⟩; gi_at_call 28; refine (callsIn_wide.2 (form_Check _ _ l c _ (HA.out.keep (by (repeat' (first | (with_reducible exact Below.refl _ _) | (with_reducible assumption) | (with_reducible refine Below.next ?_ (by with_reducible assumption)) | (with_reducible refine Below.drew ?_) | (with_reducible refine Below.laid ?_ _) | (with_reducible refine Below.setCell ?_ ?_ _) | (with_reducible refine size_of ?_) | (with_reducible refine Nat.le_succ_of_le ?_) | go_size)))) (HC.out.keep (by (repeat' (first | (with_reducible exact Below.refl _ _) | (with_reducible assumption) | (with_reducible refine Below.next ?_ (by with_reducible assumption)) | (with_reducible refine Below.drew ?_) | (with_reducible refine Below.laid ?_ _) | (with_reducible refine Below.setCell ?_ ?_ _) | (with_reducible refine size_of ?_) | (with_reducible refine Nat.le_succ_of_le ?_) | go_size)))) (HK.out.keep (by (repeat' (first | (with_reducible exact Below.refl _ _) | (with_reducible assumption) | (with_reducible refine Below.next ?_ (by with_reducible assumption)) | (with_reducible refine Below.drew ?_) | (with_reducible refine Below.laid ?_ _) | (with_reducible refine Below.setCell ?_ ?_ _) | (with_reducible refine size_of ?_) | (with_reducible refine Nat.le_succ_of_le ?_) | go_size)))))).mono ?_; rintro e w1 ⟨rfl, hb1⟩; rw [HX1.out]) | (refine ⟨trivial, ?_⟩; gi_at_call 49; refine (callsIn_wide.2 (sets_Things _ _)).mono ?_; rintro e w' ⟨rfl, rfl⟩; rw [HU.out]) | (refine ⟨trivial, ?_⟩; gi_at_call 94; refine (callsIn_wide.2 (fit_All u _)).mono ?_; rintro e w' ⟨rfl, rfl⟩))
  have hbw1 : Below w.heap.size w w1 := by (repeat' (first | (with_reducible exact Below.refl _ _) | (with_reducible assumption) | (with_reducible refine Below.next ?_ (by with_reducible assumption)) | (with_reducible refine Below.drew ?_) | (with_reducible refine Below.laid ?_ _) | (with_reducible refine Below.setCell ?_ ?_ _) | (with_reducible refine size_of ?_) | (with_reducible refine Nat.le_succ_of_le ?_) | go_size))
  have B0 := ((Blk.new w 38 #[.slice A l.length cA, .slice C c.length cC]).keep hb1).alloc (.cells #[.int .i64 0] 3) |>.alloc (.cells #[.int .i64 u] 3)
  have B3 := (Blk.new w1 3 #[.int .i64 0]).alloc (.cells #[.int .i64 u] 3)
  have B4 := Blk.newAt (w := w1.alloc (.cells #[.int .i64 0] 3)) (g := w1.heap.size + 1) (by simp) 3 #[.int .i64 u]
  have hsz1 : w.heap.size < w1.heap.size := by have := hb1.size; simp at this; omega
  have hbW : Below w.heap.size w ((w1.alloc (.cells #[.int .i64 0] 3)).alloc (.cells #[.int .i64 u] 3)) := by (repeat' (first | (with_reducible exact Below.refl _ _) | (with_reducible assumption) | (with_reducible refine Below.next ?_ (by with_reducible assumption)) | (with_reducible refine Below.drew ?_) | (with_reducible refine Below.laid ?_ _) | (with_reducible refine Below.setCell ?_ ?_ _) | (with_reducible refine size_of ?_) | (with_reducible refine Nat.le_succ_of_le ?_) | go_size))
  have hsz : ((w1.alloc (.cells #[.int .i64 0] 3)).alloc (.cells #[.int .i64 u] 3)).heap.size = w1.heap.size + 2 := by simp
  generalize ((w1.alloc (.cells #[.int .i64 0] 3)).alloc (.cells #[.int .i64 u] 3)) = W0 at B0 B3 B4 hbW hsz ⊢
  have hC : ∀ b, b = w1.heap.size → w.heap.size ≤ b := by omega
  refine wpIn_rangeAll2 u HU.out (w1.heap.size + 1) rfl (B4.cell 0) rfl (fun b => b = w1.heap.size) (by intro b hb; omega)
    (fun pre W => Blk W w1.heap.size 3 #[.int .i64 (Venn.worldsGo ⟨l, c⟩ pre)]) (fun _ _ _ => False)
    (by rintro s X Y hb h; exact h.below hb (by omega)) (by rintro c s X Y hb h; exact h) B3 ?round ?done ?stop
  case round =>
    intro lo pre x rest W hxs
    have hm : x ∈ Venn.allC u := by rw [hxs]; simp
    have HWR := Lib.hid (Venn.made_allC HU.out hm)
    have hrg := worldsGo_range ⟨l, c⟩ pre (fun y hy => HWA.out y (by rw [hxs]; exact List.mem_append_left _ hy))
    have hpl : pre.length ≤ 2000 := by have := hlen; rw [hxs] at this; simp at this; omega
    have hwx := HWA.out x hm
    have hpar := (Venn.mem_allC HU.out x).1 hm
    have hs6 : x.sum ≤ 6 := by rw [hpar.2.2]; have := HU.out; simp only [Venn.things, Bool.and_eq_true, decide_eq_true_eq] at this; exact this.2
    obtain ⟨a0, a1, a2, a3, a4, a5, a6, a7, rfl, _⟩ := Venn.of_allC HU.out hm
    obtain ⟨M, hM⟩ : ∃ M, Venn.made [a0, a1, a2, a3, a4, a5, a6, a7] = M := ⟨_, rfl⟩
    have HMD := Lib.hid (fun W => fields_Made a0 a1 a2 a3 a4 a5 a6 a7 W hpar.2.1 hs6)
    have HWY := Lib.hid (fun W => worlds_ways a0 a1 a2 a3 a4 a5 a6 a7 W hpar.2.1 hs6)
    have HSN := Lib.hid (Venn.worldsGo_snoc ⟨l, c⟩ pre [a0, a1, a2, a3, a4, a5, a6, a7])
    rw [hM] at HMD HSN HWR
    obtain ⟨mt, ma, mb, mc⟩ := M
    replace HWR := Lib.hid HWR.out.1
    generalize Venn.ways [a0, a1, a2, a3, a4, a5, a6, a7] = WY at HWY HSN hwx
    have hwr : IntKind.i64.wrap (Venn.worldsGo ⟨l, c⟩ pre + WY) = Venn.worldsGo ⟨l, c⟩ pre + WY := IntWalk.i64_in _ (by omega)
    clear hm hxs hpar hs6 hM
    unfold cntV
    gi_wp2
    try refine ⟨rfl, ?_⟩
    intro W2 hbut h1 hX hBx
    have hbw2 := hbW.trans (hbut.below (show w.heap.size ≤ W0.heap.size by omega) hC)
    have HAW := Lib.hid (HA.out.keep hbw2)
    have HCW := Lib.hid (HC.out.keep hbw2)
    have HKW := Lib.hid (HK.out.keep hbw2)
    have BF := B0.but hbut (show ¬ w.heap.size = w1.heap.size by omega)
    try simp only [List.map] at hX
    obtain ⟨⟨c0, c1, c2, c3, c4, c5, c6, c7⟩, _⟩ := hX.cells8
    obtain ⟨f0, f1⟩ := BF.cells2.1
    have hd1 : 1 ≤ 2 := by decide
    have hp1 : w1.heap.size < W2.heap.size := h1.lt
    cases hso : Venn.formTrue ⟨l, c⟩ ⟨mt, ma, mb, mc⟩
    · have HS := Lib.hid hso
      have HN := Lib.hid (show Venn.worldsGo ⟨l, c⟩ (pre ++ [[a0, a1, a2, a3, a4, a5, a6, a7]]) = Venn.worldsGo ⟨l, c⟩ pre by rw [HSN.out, hso]; rfl)
      clear hso
      gi_wp2_with fail
      gi_region_with (first
        | (refine ⟨trivial, ?_⟩; gi_at_call 64; refine (CallsIn.inRound lo (callsIn_wide.2 (HMD.out _))).mono ?_; rintro e W3 ⟨rfl, hb3⟩; have BF3 := (BF.drew).keep hb3; obtain ⟨k0, k1⟩ := BF3.cells2.1)
        | (refine ⟨trivial, ?_⟩; gi_at_call 67; refine (CallsIn.inRound lo (callsIn_wide.2 (form_True _ _ l c _ _ _ _ _ (HAW.out.keep (by (repeat' (first | (with_reducible exact Below.refl _ _) | (with_reducible assumption) | (with_reducible refine Below.next ?_ (by with_reducible assumption)) | (with_reducible refine Below.drew ?_) | (with_reducible refine Below.laid ?_ _) | (with_reducible refine Below.setCell ?_ ?_ _) | (with_reducible refine size_of ?_) | (with_reducible refine Nat.le_succ_of_le ?_) | go_size)))) (HCW.out.keep (by (repeat' (first | (with_reducible exact Below.refl _ _) | (with_reducible assumption) | (with_reducible refine Below.next ?_ (by with_reducible assumption)) | (with_reducible refine Below.drew ?_) | (with_reducible refine Below.laid ?_ _) | (with_reducible refine Below.setCell ?_ ?_ _) | (with_reducible refine size_of ?_) | (with_reducible refine Nat.le_succ_of_le ?_) | go_size)))) (HKW.out.keep (by (repeat' (first | (with_reducible exact Below.refl _ _) | (with_reducible assumption) | (with_reducible refine Below.next ?_ (by with_reducible assumption)) | (with_reducible refine Below.drew ?_) | (with_reducible refine Below.laid ?_ _) | (with_reducible refine Below.setCell ?_ ?_ _) | (with_reducible refine size_of ?_) | (with_reducible refine Nat.le_succ_of_le ?_) | go_size)))) HF.out HWR.out))).mono ?_; rintro e W4 ⟨rfl, hb4⟩; rw [HS.out]))
      all_goals
        gi_wp2
        refine ⟨But.of_below (show Below W2.heap.size W2 W4 by (repeat' (first | (with_reducible exact Below.refl _ _) | (with_reducible assumption) | (with_reducible refine Below.next ?_ (by with_reducible assumption)) | (with_reducible refine Below.drew ?_) | (with_reducible refine Below.laid ?_ _) | (with_reducible refine Below.setCell ?_ ?_ _) | (with_reducible refine size_of ?_) | (with_reducible refine Nat.le_succ_of_le ?_) | go_size))), ?_⟩
        show Blk _ _ _ #[.int .i64 (Venn.worldsGo ⟨l, c⟩ (pre ++ [[a0, a1, a2, a3, a4, a5, a6, a7]]))]
        rw [HN.out]
        exact h1.keep (by (repeat' (first | (with_reducible exact Below.refl _ _) | (with_reducible assumption) | (with_reducible refine Below.next ?_ (by with_reducible assumption)) | (with_reducible refine Below.drew ?_) | (with_reducible refine Below.laid ?_ _) | (with_reducible refine Below.setCell ?_ ?_ _) | (with_reducible refine size_of ?_) | (with_reducible refine Nat.le_succ_of_le ?_) | go_size)))
    · have HS := Lib.hid hso
      have HN := Lib.hid (show Venn.worldsGo ⟨l, c⟩ (pre ++ [[a0, a1, a2, a3, a4, a5, a6, a7]]) = Venn.worldsGo ⟨l, c⟩ pre + WY by rw [HSN.out, hso]; rfl)
      clear hso
      gi_wp2_with fail
      gi_region_with (first
        | (refine ⟨trivial, ?_⟩; gi_at_call 64; refine (CallsIn.inRound lo (callsIn_wide.2 (HMD.out _))).mono ?_; rintro e W3 ⟨rfl, hb3⟩; have BF3 := (BF.drew).keep hb3; obtain ⟨k0, k1⟩ := BF3.cells2.1)
        | (refine ⟨trivial, ?_⟩; gi_at_call 67; refine (CallsIn.inRound lo (callsIn_wide.2 (form_True _ _ l c _ _ _ _ _ (HAW.out.keep (by (repeat' (first | (with_reducible exact Below.refl _ _) | (with_reducible assumption) | (with_reducible refine Below.next ?_ (by with_reducible assumption)) | (with_reducible refine Below.drew ?_) | (with_reducible refine Below.laid ?_ _) | (with_reducible refine Below.setCell ?_ ?_ _) | (with_reducible refine size_of ?_) | (with_reducible refine Nat.le_succ_of_le ?_) | go_size)))) (HCW.out.keep (by (repeat' (first | (with_reducible exact Below.refl _ _) | (with_reducible assumption) | (with_reducible refine Below.next ?_ (by with_reducible assumption)) | (with_reducible refine Below.drew ?_) | (with_reducible refine Below.laid ?_ _) | (with_reducible refine Below.setCell ?_ ?_ _) | (with_reducible refine size_of ?_) | (with_reducible refine Nat.le_succ_of_le ?_) | go_size)))) (HKW.out.keep (by (repeat' (first | (with_reducible exact Below.refl _ _) | (with_reducible assumption) | (with_reducible refine Below.next ?_ (by with_reducible assumption)) | (with_reducible refine Below.drew ?_) | (with_reducible refine Below.laid ?_ _) | (with_reducible refine Below.setCell ?_ ?_ _) | (with_reducible refine size_of ?_) | (with_reducible refine Nat.le_succ_of_le ?_) | go_size)))) HF.out HWR.out))).mono ?_; rintro e W4 ⟨rfl, hb4⟩; rw [HS.out]))
      all_goals
        have hb24 : Below W2.heap.size W2 W4 := by (repeat' (first | (with_reducible exact Below.refl _ _) | (with_reducible assumption) | (with_reducible refine Below.next ?_ (by with_reducible assumption)) | (with_reducible refine Below.drew ?_) | (with_reducible refine Below.laid ?_ _) | (with_reducible refine Below.setCell ?_ ?_ _) | (with_reducible refine size_of ?_) | (with_reducible refine Nat.le_succ_of_le ?_) | go_size))
        have H4 := h1.keep hb24
        have X4 := hX.keep hb24
        obtain ⟨⟨d0, d1, d2, d3, d4, d5, d6, d7⟩, _⟩ := X4.cells8
        have s4 := H4.cell 0
        have z4 := H4.frozen 0
        clear hb3 hb4 BF3 k0 k1 f0 f1 c0 c1 c2 c3 c4 c5 c6 c7
        gi_wp2_with fail
        gi_region_with (refine ⟨trivial, ?_⟩; gi_at_call 95; refine (CallsIn.inRound lo (callsIn_wide.2 (HWY.out _))).mono ?_; rintro e W5 ⟨rfl, hb5⟩; have H5 := (H4.drew).keep hb5; have s5 := H5.cell 0; have z5 := H5.frozen 0)
        all_goals
          gi_wp2
          refine ⟨(But.of_below (C := fun b => b = w1.heap.size) (show Below W2.heap.size W2 W5 by (repeat' (first | (with_reducible exact Below.refl _ _) | (with_reducible assumption) | (with_reducible refine Below.next ?_ (by with_reducible assumption)) | (with_reducible refine Below.drew ?_) | (with_reducible refine Below.laid ?_ _) | (with_reducible refine Below.setCell ?_ ?_ _) | (with_reducible refine size_of ?_) | (with_reducible refine Nat.le_succ_of_le ?_) | go_size)))).set_ (p := ⟨w1.heap.size, 0, none⟩) rfl _, ?_⟩
          show Blk _ _ _ #[.int .i64 (Venn.worldsGo ⟨l, c⟩ (pre ++ [[a0, a1, a2, a3, a4, a5, a6, a7]]))]
          rw [HN.out]
          exact H5.set_ 0 _
  case done =>
    rintro D W hD hbut h1' hK
    have h1 : Blk W w1.heap.size 3 #[.int .i64 (Venn.worldsGo ⟨l, c⟩ (Venn.allC u))] := h1'
    clear h1'
    generalize Venn.worldsGo ⟨l, c⟩ (Venn.allC u) = G at HE h1
    have e8 := h1.cell 0
    gi_wp2
    exact leave_mark (v := .tuple #[.int .i64 G, .nilIface]) rfl hK (by simp [results, Tryz.results45, go_sem]) ⟨congrArg Ending.returned HE.out.symm, hbW.trans ((hbut.put hD _).below (by omega) hC)⟩
  case stop =>
    rintro D c pre x rest W hD hxs hbut h hK
    exact h.elim
end Go.Proofs.YtcloppcekbdbaaaGreatDoor
