/-
  THE WALKS of cubes.All, cubes.Of.
-/
import Derived.Test.YtlpfbdejiifbpaaGreatDoorDo
namespace Go.Proofs.YtlpfbdejiifbpaaGreatDoor
open Go.RowKit

theorem rVals_split {P : List LLV} {l : List (List (List Int))} {a : List (List Int)} (h : rVals P = l ++ [a]) : ∃ R z, P = R ++ [z] ∧ rVals R = l ∧ z.1 = a := by
  unfold rVals at h
  obtain ⟨R, S, rfl, h1, h2⟩ := List.map_eq_append_iff.1 h
  obtain ⟨z, rfl, h3⟩ := List.map_eq_singleton_iff.1 h2
  exact ⟨R, z, rfl, h1, h3⟩
theorem cubes_do (base : Nat) (v : Value) (P : List LLV) (st : List (List (List Int))) (s : Int) (w : World) (hown : OwnR base w v P) (hst : rVals P = st.reverse) (hok : ∀ l ∈ st, Venn.COk l) (hs : s = 12 ∨ s = 10 ∨ s = 11 ∨ s = 13)
    (hpop : ¬ ((st.length : Int) < Venn.fTakes s)) (hbase : base ≤ w.heap.size) (hlen : P.length ≤ 100) : Calls Tryz.prog 67 #[.int .i64 s, v] w (DoPost base v (Venn.cStep st s) w) := by
  have hl : P.length = st.length := by have := congrArg List.length hst; rw [rVals_len, List.length_reverse] at this; exact this
  by_cases h12 : s = 12
  · subst h12
    match st, hst, hok, hpop, hl with
    | [], _, _, hpop, _ => simp [Venn.fTakes] at hpop
    | a :: r, hst, hok, _, hl =>
      rw [List.reverse_cons] at hst
      obtain ⟨R, z, rfl, h1, rfl⟩ := rVals_split hst
      have := cubes_do_no base v R z w hown (hok z.1 (by simp)) hbase (by simp at hlen; omega)
      rw [h1, List.reverse_reverse] at this
      exact this
  · have h3 : s = 10 ∨ s = 11 ∨ s = 13 := by omega
    have ht : Venn.fTakes s = 2 := by unfold Venn.fTakes; rw [if_neg h12, if_pos h3]
    rw [ht] at hpop
    match st, hst, hok, hpop, hl with
    | [], _, _, hpop, _ => simp at hpop
    | [_], _, _, hpop, _ => simp at hpop
    | b :: a :: r, hst, hok, _, hl =>
      rw [List.reverse_cons] at hst
      obtain ⟨R1, zb, rfl, h1, rfl⟩ := rVals_split hst
      rw [List.reverse_cons] at h1
      obtain ⟨R, za, rfl, h2, rfl⟩ := rVals_split h1
      have hR : R.length ≤ 100 := by simp at hlen; omega
      rcases h3 with rfl | rfl | rfl
      · have := cubes_do_and base v R za zb w hown (hok za.1 (by simp)) (hok zb.1 (by simp)) hbase hR
        rw [h2, List.reverse_reverse] at this
        exact this
      · have := cubes_do_or base v R za zb w hown (hok za.1 (by simp)) (hok zb.1 (by simp)) hbase hR
        rw [h2, List.reverse_reverse] at this
        exact this
      · have := cubes_do_then base v R za zb w hown (hok za.1 (by simp)) (hok zb.1 (by simp)) hbase hR
        rw [h2, List.reverse_reverse] at this
        exact this

theorem one_lists (w : World) (y : Int) (B : Nat) (hB : B < w.heap.size ∨ w.heap.size + 1 + 1 ≤ B) :
    ListsOff B ((w.alloc (.cells #[.int .i64 y] 3)).alloc (.cells #[.slice (some ⟨w.heap.size, 0, none⟩) 1 1] 23)) (.slice (some ⟨w.heap.size + 1, 0, none⟩) 1 1) [[y]] := by
  have hb : Below (w.alloc (.cells #[.int .i64 y] 3)).heap.size (w.alloc (.cells #[.int .i64 y] 3)) ((w.alloc (.cells #[.int .i64 y] 3)).alloc (.cells #[.slice (some ⟨w.heap.size, 0, none⟩) 1 1] 23)) := by (repeat' (first | (with_reducible exact Below.refl _ _) | (with_reducible assumption) | (with_reducible refine Below.next ?_ (by with_reducible assumption)) | (with_reducible refine Below.drew ?_) | (with_reducible refine Below.laid ?_ _) | (with_reducible refine Below.setCell ?_ ?_ _) | (with_reducible refine size_of ?_) | (with_reducible refine Nat.le_succ_of_le ?_) | go_size))
  refine ⟨_, _, [([y], .slice (some ⟨w.heap.size, 0, none⟩) 1 1)], rfl, rfl, fun j u hj => ⟨_, rfl, ?_⟩, fun x hx => ?_, Nat.le_refl _, by simp [maxLen], fun x hx _ b e => ?_, fun _ b e => ?_⟩
  · match j, hj with
    | 0, hj =>
      simp [lCells] at hj
      subst hj
      simp [Addr.add]
  · rw [List.mem_singleton.1 hx]; exact (IsInts.one w y 3).keep hb
  · rw [List.mem_singleton.1 hx] at e
    simp [Value.ownBlock] at e
    omega
  · simp [Value.ownBlock] at e
    omega
def AllPost (J : Option (List (List Int))) (w : World) (e : Ending) (w' : World) : Prop :=
  Below w.heap.size w w' ∧ ((J = none ∧ e = .returned (.tuple #[.slice none 0 0, errV 4])) ∨ ∃ v l, J = some l ∧ e = .returned (.tuple #[v, errV 0]) ∧ IsLists w' v l)
/-- Between two rounds. -/
structure CInv (w wr : World) (J : Option (List (List (List Int)))) (c : List Int) (v : Value) (k : Nat) (st : List (List (List Int))) : Prop where
  len : st.length ≤ k
  row : ∃ P, OwnR (w.heap.size + 1) wr v P ∧ rVals P = st.reverse
  below : Below w.heap.size w wr
  size : w.heap.size + 1 ≤ wr.heap.size
  ok : ∀ l ∈ st, Venn.COk l
  shape : Venn.fShape st.length (c.drop k) = true
  fold : J = Venn.cFold st (c.drop k)
set_option maxHeartbeats 4000000 in
set_option maxRecDepth 100000 in
theorem cubes_All (sa sc : Value) (n : Int) (c : List Int) (w : World) (hcl : IsInts w sc c) (h20 : c.length ≤ 20) (hco : c.all (Venn.codeOk n) = true) (hsh : Venn.fShape 0 c = true) :
    Calls Tryz.prog 36 #[.agg #[sa, sc]] w (AllPost (Venn.cubesO c) w) := by
  obtain ⟨C, cC, rfl, hr, hlc, hld⟩ := hcl
  have HCO := Lib.hid (fun x hx => List.all_eq_true.1 hco x hx)
  have HR := Lib.hid hr
  have HJ := Lib.hid (show Venn.cubesO c = (match Venn.cFold [] c with | none => none | some st => some (st.headD [])) from rfl)
  have HF := Lib.hid (show Venn.cFold [] c = Venn.cFold [] (c.drop 0) by rw [List.drop_zero])
  generalize Venn.cubesO c = J at HJ ⊢
  generalize Venn.cFold [] c = K at HJ HF
  have HS := Lib.hid hsh
  clear hr hco hsh
  have hb0 : Below w.heap.size w (w.alloc (.cells #[sa, .slice C c.length cC] 25)) := by (repeat' (first | (with_reducible exact Below.refl _ _) | (with_reducible assumption) | (with_reducible refine Below.next ?_ (by with_reducible assumption)) | (with_reducible refine Below.drew ?_) | (with_reducible refine Below.laid ?_ _) | (with_reducible refine Below.setCell ?_ ?_ _) | (with_reducible refine size_of ?_) | (with_reducible refine Nat.le_succ_of_le ?_) | go_size))
  have B0 := Blk.new w 25 #[sa, .slice C c.length cC]
  have b1 := B0.cell 1
  simp at b1
  go_enter Tryz.func36, Tryz.ntmps36
  go_wp2
  go_loopw [4, 12] (fun v i wr => ∃ (k : Nat) (st : List (List (List Int))), k ≤ c.length ∧ i = .int .i64 k ∧ CInv w wr K c v k st) (fun _ i _ => c.length - (intOf i).toNat)
  case atStart => exact ⟨0, [], Nat.zero_le _, rfl, by simp, ⟨[], OwnR.nil _ _, rfl⟩, hb0, by simp, (fun l h => by cases h), by simpa using HS.out, HF.out⟩
  case round =>
    clear b1 B0 hb0
    obtain ⟨k, st, hk, rfl, hinv⟩ := hrel
    obtain ⟨wo, rfl⟩ : ∃ wo : World, wo = wr := ⟨_, rfl⟩
    obtain ⟨P, hown, hst⟩ := hinv.row
    obtain ⟨A5, cp5, rfl⟩ := hown.slice
    have hPl : P.length = st.length := by have := congrArg List.length hst; rw [rVals_len, List.length_reverse] at this; exact this
    have HI := Lib.hid hinv
    have HO := Lib.hid hown
    have HST := Lib.hid hst
    have HPL := Lib.hid hPl
    clear hinv hown hst hPl
    by_cases hlt : k < c.length
    · obtain ⟨ad, rfl, hcell0⟩ := HR.out.int hlt
      have hcell := cell_keep HI.out.below hcell0
      have hco := HCO.out _ (List.getElem_mem hlt)
      have HD := Lib.hid (List.drop_eq_getElem_cons hlt)
      generalize c[k] = x at hcell hcell0 HD hco
      have hk1 : (k : Int) < (c.length : Int) := by omega
      have hk0 : (0 : Int) ≤ (k : Int) := by omega
      have hpop : ¬ ((st.length : Int) < Venn.fTakes x) := by
        have hs := HI.out.shape
        rw [HD.out, Venn.fShape] at hs
        split at hs
        · cases hs
        · assumption
      have hsh : Venn.fShape (st.length + (1 - Venn.fTakes x)) (c.drop (k + 1)) = true := by
        have hs := HI.out.shape
        rw [HD.out, Venn.fShape, if_neg hpop] at hs
        exact hs
      have HP := Lib.hid hpop
      have HSH := Lib.hid hsh
      have HKF := Lib.hid (show K = (match Venn.cStep st x with | none => none | some st' => Venn.cFold st' (c.drop (k + 1))) by
        rw [HI.out.fold, HD.out]; rfl)
      clear hcell0 hpop hsh
      by_cases hx6 : x < 6
      · have hx0 : 0 ≤ x := by rcases Venn.codeOk_cases hco with h | h | h | h | h <;> omega
        have HC := Lib.hid (show Venn.cStep st x = some ([[x + 1]] :: st) by unfold Venn.cStep; rw [if_neg (by omega), if_neg (by omega)])
        have hw : IntKind.i64.wrap (x + 1) = x + 1 := IntWalk.i64_in _ (by omega)
        have HOK := Lib.hid (Venn.cStep_ok hco HI.out.ok HC.out)
        have HLN := Lib.hid (Venn.cStep_length HP.out HC.out)
        clear hco
        go_upto_region 6 with (fail)
        clear hcell
        have hb3 : Below wo.heap.size wo (((wo.alloc (.cells #[.int .i64 (x + 1)] 3)).alloc (.cells #[.slice (some ⟨wo.heap.size, 0, none⟩) 1 1] 23)).alloc (.cells #[.slice (some ⟨wo.heap.size + 1, 0, none⟩) 1 1] 26)) := by (repeat' (first | (with_reducible exact Below.refl _ _) | (with_reducible assumption) | (with_reducible refine Below.next ?_ (by with_reducible assumption)) | (with_reducible refine Below.drew ?_) | (with_reducible refine Below.laid ?_ _) | (with_reducible refine Below.setCell ?_ ?_ _) | (with_reducible refine size_of ?_) | (with_reducible refine Nat.le_succ_of_le ?_) | go_size))
        have hb23 : Below ((wo.alloc (.cells #[.int .i64 (x + 1)] 3)).alloc (.cells #[.slice (some ⟨wo.heap.size, 0, none⟩) 1 1] 23)).heap.size ((wo.alloc (.cells #[.int .i64 (x + 1)] 3)).alloc (.cells #[.slice (some ⟨wo.heap.size, 0, none⟩) 1 1] 23)) (((wo.alloc (.cells #[.int .i64 (x + 1)] 3)).alloc (.cells #[.slice (some ⟨wo.heap.size, 0, none⟩) 1 1] 23)).alloc (.cells #[.slice (some ⟨wo.heap.size + 1, 0, none⟩) 1 1] 26)) := Below.laid (Below.refl _ _) _
        have hcell2 : (((wo.alloc (.cells #[.int .i64 (x + 1)] 3)).alloc (.cells #[.slice (some ⟨wo.heap.size, 0, none⟩) 1 1] 23)).alloc (.cells #[.slice (some ⟨wo.heap.size + 1, 0, none⟩) 1 1] 26)).cell? ⟨wo.heap.size + 1 + 1, 0, none⟩ = some (.slice (some ⟨wo.heap.size + 1, 0, none⟩) 1 1) := (Blk.newAt (w := (wo.alloc (.cells #[.int .i64 (x + 1)] 3)).alloc (.cells #[.slice (some ⟨wo.heap.size, 0, none⟩) 1 1] 23)) (g := wo.heap.size + 1 + 1) (by simp) 26 #[.slice (some ⟨wo.heap.size + 1, 0, none⟩) 1 1]).cell 0
        have hlo := fun B hB => (one_lists wo (x + 1) B hB).keep hb23
        have hbase : w.heap.size + 1 ≤ (((wo.alloc (.cells #[.int .i64 (x + 1)] 3)).alloc (.cells #[.slice (some ⟨wo.heap.size, 0, none⟩) 1 1] 23)).alloc (.cells #[.slice (some ⟨wo.heap.size + 1, 0, none⟩) 1 1] 26)).heap.size := Nat.le_trans HI.out.size hb3.size
        have HO3 := Lib.hid (HO.out.keep hb3)
        have hPlen : P.length < 1000000 := by have := HPL.out; have := HI.out.len; omega
        go_wp2_with (at_builtin; refine wpList_appRR _ rfl _ _ rfl (w.heap.size + 1) _ P rfl HO3.out (wo.heap.size + 1 + 1) 1 ([[x + 1]], .slice (some ⟨wo.heap.size + 1, 0, none⟩) 1 1) rfl hcell2 (hlo (wo.heap.size + 1 + 1) (.inr (Nat.le_refl _))).lists (fun B e => hlo B (.inl (HO.out.own.lt B e).2)) hPlen hbase ?_)
        intro v' w3 hown3 hg3
        have hbel := (HI.out.below.trans (hb3.mono HI.out.below.size)).grown hg3 (Nat.le_trans HI.out.below.size hb3.size) (fun b e => by have := (HO.out.own.lt b e).1; omega)
        have hs3 := Nat.le_trans hbase hg3.size
        clear hg3 hlo hcell2 hb3 hb23 hbase hPlen
        go_wp2
        go_roundw
        case rel =>
          refine ⟨k + 1, [[x + 1]] :: st, by omega, by go_num, by have := HI.out.len; simp; omega, ⟨_, hown3, ?_⟩, hbel, hs3, HOK.out, ?_, ?_⟩
          · rw [rVals_app, HST.out, List.reverse_cons]; rfl
          · rw [HLN.out]; exact HSH.out
          · rw [HKF.out, HC.out]
        case measure => simp [intOf]; omega
      · have hs : x = 12 ∨ x = 10 ∨ x = 11 ∨ x = 13 := by rcases Venn.codeOk_cases hco with h | h | h | h | h <;> omega
        have HD := Lib.hid (cubes_do (w.heap.size + 1) _ P st x wo HO.out HST.out HI.out.ok hs HP.out HI.out.size (by have := HPL.out; have := HI.out.len; omega))
        have HCO := Lib.hid hco
        clear hco hs
        go_wp2_with fail
        clear hcell
        refine (HD.out).mono ?_
        rintro e w2 ⟨v', hbut, ⟨hJ, rfl⟩ | ⟨P', hJ, rfl, hown2⟩⟩
        · have hbel := HI.out.below.trans (hbut.below HI.out.below.size (fun b e => by have := (HO.out.own.lt b e).1; omega))
          have HK := Lib.hid (show K = none by rw [HKF.out, hJ])
          rw [errV_ne (show (4 : Int) ≠ 0 by decide)]
          clear hbut hJ
          go_wp2
          go_ret2
          exact ⟨hbel, .inl ⟨by rw [HJ.out, HK.out], by rw [errV_ne (show (4 : Int) ≠ 0 by decide)]; rfl⟩⟩
        · have hbel := HI.out.below.trans (hbut.below HI.out.below.size (fun b e => by have := (HO.out.own.lt b e).1; omega))
          have hs2 := Nat.le_trans HI.out.size hbut.size
          rw [errV_zero rfl]
          obtain ⟨A6, c6, rfl⟩ := hown2.slice
          have HO2 := Lib.hid hown2
          have HC := Lib.hid hJ
          clear hbut hJ hown2
          go_wp2
          go_roundw
          case rel =>
            have hln := Venn.cStep_length (Int.not_lt.2 HP.out) HC.out
            have hrl : ((rVals P').reverse).length = P'.length := by rw [List.length_reverse, rVals_len]
            refine ⟨k + 1, (rVals P').reverse, by omega, by go_num, ?_, ⟨P', HO2.out, by rw [List.reverse_reverse]⟩, hbel, hs2, Venn.cStep_ok HCO.out HI.out.ok HC.out, ?_, ?_⟩
            · have := HI.out.len
              have := Venn.fTakes_012 x
              omega
            · rw [hln]; exact HSH.out
            · rw [HKF.out, HC.out]
          case measure => simp [intOf]; omega
    · have hk' : k = c.length := by omega
      have hs := HI.out.shape
      have hf := HI.out.fold
      rw [hk', List.drop_eq_nil_of_le (Nat.le_refl _)] at hs hf
      simp only [Venn.fShape, decide_eq_true_eq] at hs
      have hs1 : st.length = 1 := by omega
      obtain ⟨l, rfl⟩ : ∃ l, st = [l] := by
        match st, hs1 with
        | [l], _ => exact ⟨l, rfl⟩
      obtain ⟨z, rfl⟩ : ∃ z, P = [z] := by
        have hp1 : P.length = 1 := HPL.out
        match P, hp1 with
        | [z], _ => exact ⟨z, rfl⟩
      have hz : z.1 = l := by
        have := HST.out
        simp [rVals] at this
        exact this
      have HJ := Lib.hid (show J = some z.1 by rw [HJ.out, hf, hz]; rfl)
      obtain ⟨g, cap, e1, _, _, _, _⟩ := HO.out.form (by simp)
      injection e1 with e1 e2 e3
      subst e1 e3
      have hc0 := HO.out.cell (k := 0) (x := z) rfl
      have HZ := Lib.hid (HO.out.is z (by simp))
      have HB := Lib.hid HI.out.below
      obtain ⟨zl, zv⟩ := z
      simp only at hc0 HZ HJ
      clear hs hf hs1 hz e2
      go_wp2
      go_ret2
      exact ⟨HB.out, .inr ⟨_, _, HJ.out, by rw [errV_zero rfl]; rfl, HZ.out⟩⟩
end Go.Proofs.YtlpfbdejiifbpaaGreatDoor
