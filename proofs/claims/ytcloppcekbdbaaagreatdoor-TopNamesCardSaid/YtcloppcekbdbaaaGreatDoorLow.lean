/-
  THE WALKS of package least: List, Of, Firm; slices.Index at booleans; vennsame.Bools.
-/
import Derived.Test.YtcloppcekbdbaaaGreatDoorVennLowG
import Derived.Test.YtcloppcekbdbaaaGreatDoorModelS
import Derived.Test.YtcloppcekbdbaaaGreatDoorFormG
import Derived.Test.YtcloppcekbdbaaaGreatDoorLawF
import Derived.Deep.DeepCutAuto
import Derived.Deep.CutBlock
namespace Go.Proofs.YtcloppcekbdbaaaGreatDoor
open Go.RowKit

/-- A slice of booleans reads as l. -/
def IsBools (w : World) (v : Value) (l : List Bool) : Prop := ∃ A c, v = .slice A l.length c ∧ Rd w A (l.map Value.bool) ∧ l.length ≤ c ∧ c ≤ maxLen
theorem IsBools.keep {w w' : World} {v : Value} {l : List Bool} (h : IsBools w v l) (hb : Below w.heap.size w w') : IsBools w' v l := by
  obtain ⟨A, c, hv, hr, hc⟩ := h
  exact ⟨A, c, hv, hr.keep hb, hc⟩
theorem IsBools.nil (w : World) : IsBools w (.slice none 0 0) [] := ⟨none, 0, rfl, Rd.nil _ _, Nat.le_refl _, by simp⟩
theorem Rd.boo {w : World} {A : Option Addr} {l : List Bool} (h : Rd w A (l.map Value.bool)) {k : Nat} (hk : k < l.length) : ∃ ad, A = some ad ∧ w.cell? (ad.add k) = some (.bool l[k]) :=
  h k _ (by simp [hk])
theorem IsBools.of_own {w : World} {base : Nat} {e : TypeId} {v : Value} {n : Nat} {l : List Bool} (h : w.ownsRow base e 1 v n (l.map Value.bool)) : IsBools w v l := by
  have hn : n = l.length := by have := h.1; simpa using this.symm
  subst hn
  rcases h.2 with ⟨rfl, hl⟩ | ⟨g, cap, cur, rfl, _, hh, hnc, hcm, hcs, ht⟩
  · have : l = [] := List.eq_nil_of_length_eq_zero hl
    subst this
    exact ⟨none, 0, rfl, Rd.nil _ _, Nat.le_refl _, by simp⟩
  · exact ⟨_, _, rfl, fun j u hj => ⟨_, rfl, h.cells (g := g) rfl j u hj⟩, hnc, hcm⟩

set_option maxHeartbeats 1000000 in
theorem slices_IndexB (A : Option Addr) (c : Nat) (l : List Bool) (w : World) (h : Rd w A (l.map Value.bool)) (hl : l.length ≤ maxLen) :
    Calls Tryz.prog 97 #[.slice A l.length c, .bool true] w (Pure (.int .i64 (Venn.idxB l 0)) w) := by
  unfold maxLen at hl
  go_enter Tryz.func97, Tryz.ntmps97
  go_wp2
  go_loop [8] (fun i => ∃ k : Nat, k ≤ l.length ∧ i = .int .i64 k ∧ Venn.idxB (l.drop k) k = Venn.idxB l 0) (fun i => l.length - (intOf i).toNat)
  case atStart => exact ⟨0, Nat.zero_le _, rfl, by simp⟩
  case round =>
    obtain ⟨k, hk, rfl, hrest⟩ := hrel
    have HR := Lib.hid hrest; clear hrest
    by_cases hlt : k < l.length
    · obtain ⟨ad, rfl, hc⟩ := h.boo hlt
      have HD := Lib.hid (List.drop_eq_getElem_cons hlt)
      generalize l[k] = x at hc HD
      cases x
      · go_wp2
        go_round
        case rel => exact ⟨k + 1, by omega, by go_num, by rw [← HR.out, HD.out, Venn.idxB]; simp⟩
        case measure => simp [intOf]; omega
      · go_wp2
        go_ret
        exact ⟨ret_int (by rw [← HR.out, HD.out, Venn.idxB]; simp), rfl⟩
    · go_wp2
      go_ret
      exact ⟨ret_int (by rw [← HR.out, List.drop_eq_nil_of_le (by omega)]; rfl), rfl⟩

def BoolsPost (L : List Bool) (E : Int) (w : World) (e : Ending) (w' : World) : Prop := ∃ v, e = .returned (.tuple #[v, errV E]) ∧ Below w.heap.size w w' ∧ IsBools w' v L
set_option maxHeartbeats 4000000 in
set_option maxRecDepth 100000 in
theorem least_List (sa sc : Value) (l : List Venn.Atom) (c : List Int) (w : World) (ha : IsAtoms w sa l) (hc : IsInts w sc c) (hk : KindsOk w) (het : EtOk w) :
    Calls Tryz.prog 96 #[.agg #[sa, sc]] w (BoolsPost (Venn.lowL ⟨l, c⟩) (Venn.cubesErr ⟨l, c⟩) w) := by
  have HA := Lib.hid ha
  have HC := Lib.hid hc
  have HK := Lib.hid hk
  have HET := Lib.hid het
  obtain ⟨A, cA, rfl, _⟩ := ha
  obtain ⟨C, cC, rfl, _⟩ := hc
  have HCH := Lib.hid (fun W (hW : Below w.heap.size w W) => form_Check _ _ l c W (HA.out.keep hW) (HC.out.keep hW) (HK.out.keep hW))
  have HMO := Lib.hid (fun W (hW : Below w.heap.size w W) (u : Int) => model_Of _ _ l c u W (HA.out.keep hW) (HC.out.keep hW) (HK.out.keep hW))
  have HB0 := Lib.hid (Blk.new w 38 #[.slice A l.length cA, .slice C c.length cC])
  have hb0 : Below w.heap.size w (w.alloc (.cells #[.slice A l.length cA, .slice C c.length cC] 38)) := by (repeat' (first | (with_reducible exact Below.refl _ _) | (with_reducible assumption) | (with_reducible refine Below.next ?_ (by with_reducible assumption)) | (with_reducible refine Below.drew ?_) | (with_reducible refine Below.laid ?_ _) | (with_reducible refine Below.setCell ?_ ?_ _) | (with_reducible refine size_of ?_) | (with_reducible refine Nat.le_succ_of_le ?_) | go_size))
  clear hk het
  have b0 := (HB0.out).cell 0
  have b1 := (HB0.out).cell 1
  simp at b0 b1
  by_cases hf : Venn.formChk ⟨l, c⟩ = 0
  · rw [hf, errV_zero rfl] at HCH
    have HLB := Lib.hid (fun k (h : k < 7) => Venn.modelErr_lt (f := ⟨l, c⟩) (k := k) h)
    have HBA := Lib.hid (fun u => Venn.modelErr_bad (f := ⟨l, c⟩) (u := u))
    have H4 := Lib.hid (Venn.cubesErr_four hf)
    have HLS := Lib.hid (fun k (h : k < 7) hc => Venn.lowL_step ⟨l, c⟩ hc (k := k) h)
    have HLL := Lib.hid (Venn.lowL_len ⟨l, c⟩)
    have HLN := Lib.hid (Venn.lowL_bad (f := ⟨l, c⟩))
    clear hf
    generalize Venn.lowL ⟨l, c⟩ = LL at HLS HLL HLN ⊢
    generalize Venn.cubesErr ⟨l, c⟩ = CE at HLB HBA H4 HLS HLL HLN ⊢
    go_enter Tryz.func96, Tryz.ntmps96
    go_wp2_with fail
    refine (HCH.out _ hb0).mono ?_
    rintro e w1 ⟨rfl, hb1⟩
    have HB1 := Lib.hid ((HB0.out).keep hb1)
    have hq1 := Below.next hb0 hb1
    clear b0 b1 hb1 HB0 hb0
    go_wp2
    go_loopw [5, 14] (fun v i wr => ∃ k : Nat, k ≤ 7 ∧ (k ≠ 0 → CE = 0) ∧ i = .int .i64 k ∧ wr.ownsRow w1.heap.size 4 1 v k ((LL.take k).map Value.bool) ∧ Below w1.heap.size w1 wr) (fun _ i _ => 7 - (intOf i).toNat)
    case atStart => exact ⟨0, Nat.zero_le _, fun h => absurd rfl h, rfl, World.ownsRow_nil _ _ _ _, Below.refl _ _⟩
    case round =>
      obtain ⟨k, hk, hk0, rfl, hown, hbw⟩ := hrel
      obtain ⟨wo, rfl⟩ : ∃ wo : World, wo = wr := ⟨_, rfl⟩
      have hq := Below.next hq1 hbw
      have b0 := ((HB1.out).keep hbw).cell 0
      have b1 := ((HB1.out).keep hbw).cell 1
      simp at b0 b1
      obtain ⟨V0, k0, rfl⟩ := ownsRow_slice hown
      have HO := Lib.hid hown
      have HK0 := Lib.hid hk0
      clear hown hk0
      by_cases hlt : k < 7
      · have hk1 : (k : Int) < 7 := by omega
        have hki : IntKind.i64.wrap (k : Int) = (k : Int) := IntWalk.i64_in _ (by omega)
        by_cases hz : CE = 0
        · have HM := Lib.hid (HMO.out wo hq (k : Int))
          have HE := Lib.hid (HLB.out k hlt hz)
          have HL := Lib.hid (HLS.out k hlt hz)
          have HZ := Lib.hid hz
          clear hz
          generalize Venn.modelErr ⟨l, c⟩ (k : Int) = ME at HM HE HL
          generalize Venn.modelV ⟨l, c⟩ (k : Int) = MV at HM
          obtain ⟨mt, ma, mb, mc⟩ := MV
          go_wp2_with fail
          refine (HM.out).mono ?_
          rintro e w2 ⟨he, hb2⟩
          simp only [worldM] at he
          subst he
          clear b0 b1
          have hb3 : Below w2.heap.size w2 (w2.alloc (.cells #[.int .i64 mt, .int .i64 ma, .int .i64 mb, .int .i64 mc] 45)) := by (repeat' (first | (with_reducible exact Below.refl _ _) | (with_reducible assumption) | (with_reducible refine Below.next ?_ (by with_reducible assumption)) | (with_reducible refine Below.drew ?_) | (with_reducible refine Below.laid ?_ _) | (with_reducible refine Below.setCell ?_ ?_ _) | (with_reducible refine size_of ?_) | (with_reducible refine Nat.le_succ_of_le ?_) | go_size))
          have hb23 := Below.next hb2 hb3
          rcases HE.out with h0 | h5
          · have HLT := Lib.hid (show LL.take (k + 1) = LL.take k ++ [true] by rw [HL.out, h0]; rfl)
            rw [errV_zero h0]
            clear h0
            have hb4 : Below wo.heap.size wo ((w2.alloc (.cells #[.int .i64 mt, .int .i64 ma, .int .i64 mb, .int .i64 mc] 45)).alloc (.cells #[.bool true] 4)) := Below.next hb23 (by (repeat' (first | (with_reducible exact Below.refl _ _) | (with_reducible assumption) | (with_reducible refine Below.next ?_ (by with_reducible assumption)) | (with_reducible refine Below.drew ?_) | (with_reducible refine Below.laid ?_ _) | (with_reducible refine Below.setCell ?_ ?_ _) | (with_reducible refine size_of ?_) | (with_reducible refine Nat.le_succ_of_le ?_) | go_size)))
            have HO2 := Lib.hid (own_below HO.out hb4)
            have hbase : w1.heap.size ≤ ((w2.alloc (.cells #[.int .i64 mt, .int .i64 ma, .int .i64 mb, .int .i64 mc] 45)).alloc (.cells #[.bool true] 4)).heap.size := by have h1 := hbw.size; have h2 := hb4.size; omega
            go_wp2_with (at_builtin; refine wpList_app1b _ rfl _ _ rfl w1.heap.size _ k _ rfl HO2.out (w2.heap.size + 1) 1 true (by simp [go_sem]) (by simp) (by omega) hbase ?_)
            intro v' w3 hown3 hg3
            have hbel := (Below.next hbw hb4).grown hg3 (Nat.le_trans hbw.size hb4.size) (fun b e => (HO.out.lt b e).1)
            have HO3 := Lib.hid (show w3.ownsRow w1.heap.size 4 1 v' (k + 1) ((LL.take (k + 1)).map Value.bool) by rw [HLT.out, List.map_append, List.map_take]; exact hown3)
            clear hown3 hg3 hb4 hb23 hb2 hb3 hbase
            go_wp2
            go_roundw
            case rel => exact ⟨k + 1, by omega, fun _ => HZ.out, by go_num, HO3.out, hbel⟩
            case measure => simp [intOf]; omega
          · have HLT := Lib.hid (show LL.take (k + 1) = LL.take k ++ [false] by rw [HL.out, h5]; rfl)
            have HMI := Lib.hid (model_Missing 5 (by decide) _ (HET.out.keep (Below.next hq hb23)))
            rw [errV_ne (show (5 : Int) ≠ 0 by decide)] at HMI
            subst h5
            rw [errV_ne (show (5 : Int) ≠ 0 by decide)]
            go_wp2_with fail
            refine (HMI.out).mono ?_
            rintro e w4 ⟨rfl, hb4⟩
            have hb24 := Below.next hb23 hb4
            have hb5 : Below wo.heap.size wo (w4.alloc (.cells #[.bool false] 4)) := Below.next hb24 (by (repeat' (first | (with_reducible exact Below.refl _ _) | (with_reducible assumption) | (with_reducible refine Below.next ?_ (by with_reducible assumption)) | (with_reducible refine Below.drew ?_) | (with_reducible refine Below.laid ?_ _) | (with_reducible refine Below.setCell ?_ ?_ _) | (with_reducible refine size_of ?_) | (with_reducible refine Nat.le_succ_of_le ?_) | go_size)))
            have HO2 := Lib.hid (own_below HO.out hb5)
            have hbase : w1.heap.size ≤ (w4.alloc (.cells #[.bool false] 4)).heap.size := by have h1 := hbw.size; have h2 := hb5.size; omega
            clear hb4 hb3 hb2
            go_wp2_with (at_builtin; refine wpList_app1b _ rfl _ _ rfl w1.heap.size _ k _ rfl HO2.out w4.heap.size 1 false (by simp [go_sem]) (by simp) (by omega) hbase ?_)
            intro v' w5 hown3 hg3
            have hbel := (Below.next hbw hb5).grown hg3 (Nat.le_trans hbw.size hb5.size) (fun b e => (HO.out.lt b e).1)
            have HO3 := Lib.hid (show w5.ownsRow w1.heap.size 4 1 v' (k + 1) ((LL.take (k + 1)).map Value.bool) by rw [HLT.out, List.map_append, List.map_take]; exact hown3)
            clear hown3 hg3 hb5 hb23 hb24 hbase
            go_wp2
            go_roundw
            case rel => exact ⟨k + 1, by omega, fun _ => HZ.out, by go_num, HO3.out, hbel⟩
            case measure => simp [intOf]; omega
        · have HM := Lib.hid (HMO.out wo hq (k : Int))
          rw [HBA.out _ hz] at HM
          obtain rfl : CE = 4 := by rcases H4.out with h | h; exact absurd h hz; exact h
          have HLN := Lib.hid (HLN.out hz)
          clear hz
          generalize Venn.modelV ⟨l, c⟩ (k : Int) = MV at HM
          obtain ⟨mt, ma, mb, mc⟩ := MV
          go_wp2_with fail
          refine (HM.out).mono ?_
          rintro e w2 ⟨he, hb2⟩
          simp only [worldM] at he
          rw [errV_ne (show (4 : Int) ≠ 0 by decide)] at he
          subst he
          clear b0 b1
          have hb3 : Below w2.heap.size w2 (w2.alloc (.cells #[.int .i64 mt, .int .i64 ma, .int .i64 mb, .int .i64 mc] 45)) := by (repeat' (first | (with_reducible exact Below.refl _ _) | (with_reducible assumption) | (with_reducible refine Below.next ?_ (by with_reducible assumption)) | (with_reducible refine Below.drew ?_) | (with_reducible refine Below.laid ?_ _) | (with_reducible refine Below.setCell ?_ ?_ _) | (with_reducible refine size_of ?_) | (with_reducible refine Nat.le_succ_of_le ?_) | go_size))
          have hq3 := Below.next hq (Below.next hb2 hb3)
          have HMI := Lib.hid (model_Missing 4 (by decide) _ (HET.out.keep hq3))
          rw [errV_ne (show (4 : Int) ≠ 0 by decide)] at HMI
          clear hb2 hb3
          go_wp2_with fail
          refine (HMI.out).mono ?_
          rintro e w4 ⟨rfl, hb4⟩
          have hq4 := Below.next hq3 hb4
          go_wp2
          go_ret2
          exact ⟨_, by rw [errV_ne (show (4 : Int) ≠ 0 by decide)]; rfl, hq4, by rw [HLN.out]; exact IsBools.nil _⟩
      · obtain rfl : k = 7 := by omega
        have hz : CE = 0 := HK0.out (by omega)
        have HI := Lib.hid (show IsBools wo (.slice V0 7 k0) LL by
          have := HO.out
          rw [List.take_of_length_le (by rw [HLL.out hz]; exact Nat.le_refl _)] at this
          exact IsBools.of_own this)
        have HZ := Lib.hid hz
        clear hz
        go_wp2
        go_ret2
        exact ⟨_, by rw [errV_zero HZ.out]; rfl, hq, HI.out⟩
  · have HE := Lib.hid (Venn.cubesErr_chk (f := ⟨l, c⟩) hf)
    have HN := Lib.hid (Venn.lowL_bad (f := ⟨l, c⟩) (by rw [HE.out]; exact hf))
    rw [HN.out, HE.out]
    rw [errV_ne hf] at HCH
    have HNE := Lib.hid (errV_ne hf)
    generalize Venn.formChk ⟨l, c⟩ = FC at HCH HNE ⊢
    clear hf
    go_enter Tryz.func96, Tryz.ntmps96
    go_wp2_with fail
    refine (HCH.out _ hb0).mono ?_
    rintro e w1 ⟨rfl, hb1⟩
    have hq1 := Below.next hb0 hb1
    go_wp2
    go_ret2
    exact ⟨_, by rw [HNE.out]; rfl, hq1, IsBools.nil _⟩

theorem IsBools.slice {w : World} {v : Value} {l : List Bool} (h : IsBools w v l) : ∃ A c, v = .slice A l.length c ∧ Rd w A (l.map Value.bool) := by
  obtain ⟨A, c, hv, hr, _⟩ := h
  exact ⟨A, c, hv, hr⟩
set_option maxHeartbeats 4000000 in
set_option maxRecDepth 100000 in
theorem least_Of (sa sc : Value) (l : List Venn.Atom) (c : List Int) (w : World) (ha : IsAtoms w sa l) (hc : IsInts w sc c) (hk : KindsOk w) (het : EtOk w) :
    Calls Tryz.prog 46 #[.agg #[sa, sc]] w (Keeps (.tuple #[.int .i64 (Venn.lowV ⟨l, c⟩), errV (Venn.lowE ⟨l, c⟩)]) w) := by
  have HA := Lib.hid ha
  have HC := Lib.hid hc
  have HK := Lib.hid hk
  have HET := Lib.hid het
  obtain ⟨A, cA, rfl, _⟩ := ha
  obtain ⟨C, cC, rfl, _⟩ := hc
  have HLI := Lib.hid (fun W (hW : Below w.heap.size w W) => least_List _ _ l c W (HA.out.keep hW) (HC.out.keep hW) (HK.out.keep hW) (HET.out.keep hW))
  have HB0 := Lib.hid (Blk.new w 38 #[.slice A l.length cA, .slice C c.length cC])
  have hb0 : Below w.heap.size w (w.alloc (.cells #[.slice A l.length cA, .slice C c.length cC] 38)) := by (repeat' (first | (with_reducible exact Below.refl _ _) | (with_reducible assumption) | (with_reducible refine Below.next ?_ (by with_reducible assumption)) | (with_reducible refine Below.drew ?_) | (with_reducible refine Below.laid ?_ _) | (with_reducible refine Below.setCell ?_ ?_ _) | (with_reducible refine size_of ?_) | (with_reducible refine Nat.le_succ_of_le ?_) | go_size))
  clear hk het
  have b0 := (HB0.out).cell 0
  have b1 := (HB0.out).cell 1
  simp at b0 b1
  have HE := Lib.hid (show Venn.lowE ⟨l, c⟩ = if Venn.cubesErr ⟨l, c⟩ = 0 then (if Venn.idxB (Venn.lowL ⟨l, c⟩) 0 < 0 then 5 else 0) else Venn.cubesErr ⟨l, c⟩ from rfl)
  have HV := Lib.hid (show Venn.lowV ⟨l, c⟩ = if Venn.cubesErr ⟨l, c⟩ = 0 then (if Venn.idxB (Venn.lowL ⟨l, c⟩) 0 < 0 then 0 else Venn.idxB (Venn.lowL ⟨l, c⟩) 0) else 0 from rfl)
  have HLL := Lib.hid (Venn.lowL_len ⟨l, c⟩)
  generalize Venn.lowE ⟨l, c⟩ = LE at HE ⊢
  generalize Venn.lowV ⟨l, c⟩ = LV at HV ⊢
  generalize Venn.lowL ⟨l, c⟩ = LL at HLI HE HV HLL
  by_cases hz : Venn.cubesErr ⟨l, c⟩ = 0
  · have HE := Lib.hid (show LE = if Venn.idxB LL 0 < 0 then 5 else 0 by rw [HE.out, if_pos hz])
    have HV := Lib.hid (show LV = if Venn.idxB LL 0 < 0 then 0 else Venn.idxB LL 0 by rw [HV.out, if_pos hz])
    have HL7 := Lib.hid (HLL.out hz)
    rw [hz] at HLI
    clear hz
    go_enter Tryz.func46, Tryz.ntmps46
    go_wp2_with fail
    refine (HLI.out _ hb0).mono ?_
    rintro e w1 ⟨v, rfl, hb1, hv⟩
    rw [errV_zero rfl]
    have hq1 := Below.next hb0 hb1
    obtain ⟨LA, kL, rfl, hr⟩ := hv.slice
    have HIX := Lib.hid (slices_IndexB LA kL LL w1 hr (by unfold maxLen; rw [HL7.out]; omega))
    clear b0 b1 hv hr hb1
    generalize Venn.idxB LL 0 = IX at HE HV HIX
    by_cases hi : IX < 0
    · have HE := Lib.hid (show LE = 5 by rw [HE.out, if_pos hi])
      have HV := Lib.hid (show LV = 0 by rw [HV.out, if_pos hi])
      go_wp2_with (go_at_call 97; refine (HIX.out).mono ?_; rintro e w' ⟨rfl, rfl⟩)
      go_ret2
      exact ⟨by rw [HE.out, HV.out, errV_ne (show (5 : Int) ≠ 0 by decide)]; rfl, hq1⟩
    · have HE := Lib.hid (show LE = 0 by rw [HE.out, if_neg hi])
      have HV := Lib.hid (show LV = IX by rw [HV.out, if_neg hi])
      go_wp2_with (go_at_call 97; refine (HIX.out).mono ?_; rintro e w' ⟨rfl, rfl⟩)
      go_ret2
      exact ⟨by rw [HE.out, HV.out, errV_zero rfl]; rfl, hq1⟩
  · have HE := Lib.hid (show LE = Venn.cubesErr ⟨l, c⟩ by rw [HE.out, if_neg hz])
    have HV := Lib.hid (show LV = 0 by rw [HV.out, if_neg hz])
    have HNE := Lib.hid (errV_ne hz)
    generalize Venn.cubesErr ⟨l, c⟩ = CE at HLI HE HNE
    clear hz
    go_enter Tryz.func46, Tryz.ntmps46
    go_wp2_with fail
    refine (HLI.out _ hb0).mono ?_
    rintro e w1 ⟨v, rfl, hb1, hv⟩
    rw [HNE.out]
    have hq1 := Below.next hb0 hb1
    obtain ⟨LA, kL, rfl, _⟩ := hv.slice
    go_wp2
    go_ret2
    exact ⟨by rw [HE.out, HV.out, HNE.out]; rfl, hq1⟩

end Go.Proofs.YtcloppcekbdbaaaGreatDoor
