/-
  THE WALK of the reference's Cubes.
-/
import Derived.Test.YtlpfbdejiifbpaaGreatDoorRefNo
import Derived.Test.YtlpfbdejiifbpaaGreatDoorCubesOf
import Derived.Deep.RegionLaw
namespace Go.Proofs.YtlpfbdejiifbpaaGreatDoor
open Go.RowKit

theorem rnone_none {O : Nat} {w w' : World} {e : Ending} (h : RNone O none w e w') : Below w.heap.size w w' ∧ e = .returned (.tuple #[.slice none 0 0, .int .i64 4]) := by
  obtain ⟨h1, ⟨_, h2⟩ | ⟨_, _, h2, _⟩⟩ := h
  · exact ⟨h1, h2⟩
  · cases h2
theorem rnone_some {O : Nat} {L : List (List Int)} {w w' : World} {e : Ending} (h : RNone O (some L) w e w') : ∃ A c, Below w.heap.size w w' ∧ e = .returned (.tuple #[.slice A L.length c, .int .i64 0]) ∧ ListsOff O w' (.slice A L.length c) L := by
  obtain ⟨h1, ⟨h2, _⟩ | ⟨v, L', h2, h3, h4⟩⟩ := h
  · cases h2
  · injection h2 with h2
    subst h2
    obtain ⟨A, c, rfl⟩ := slice_of_lists h4
    exact ⟨A, c, h1, h3, h4⟩
def RCubes (J : Option (List (List Int))) (w : World) (e : Ending) (w' : World) : Prop :=
  Below w.heap.size w w' ∧ ((J = none ∧ e = .returned (.tuple #[.slice none 0 0, .int .i64 4])) ∨ ∃ v l, J = some l ∧ e = .returned (.tuple #[v, .int .i64 0]) ∧ IsLists w' v l)
set_option maxHeartbeats 8000000 in
set_option maxRecDepth 100000 in
theorem ref_Cubes (sa sc : Value) (n : Int) (c : List Int) (w : World) (hcl : IsInts w sc c) (h20 : c.length ≤ 20) (hco : c.all (Venn.codeOk n) = true) (hsh : Venn.fShape 0 c = true) :
    Calls Tryz.prog 11 #[.agg #[sa, sc]] w (RCubes (Venn.cubesO c) w) := by
  obtain ⟨C, cC, rfl, hr, hlc, hld⟩ := hcl
  have HCO := Lib.hid (fun x hx => List.all_eq_true.1 hco x hx)
  have HR := Lib.hid hr
  have HJ := Lib.hid (show Venn.cubesO c = (match Venn.cFold [] c with | none => none | some st => some (st.headD [])) from rfl)
  have HF := Lib.hid (show Venn.cFold [] c = Venn.cFold [] (c.drop 0) by rw [List.drop_zero])
  generalize Venn.cubesO c = J at HJ ⊢
  generalize Venn.cFold [] c = K at HJ HF
  have HS := Lib.hid hsh
  clear hr hco hsh
  have hb0 : Below w.heap.size w (w.alloc (.cells #[sa, .slice C c.length cC] 25)) := by (repeat' (first | (with_reducible exact Below.refl _ _) | (with_reducible assumption) | (with_reducible refine Below.next ?_ (by with_reducible assumption)) | (with_reducible refine Below.drew ?_) | (with_reducible refine Below.laid ?_ _) | (with_reducible refine Below.setCell ?_ ?_ _) | (with_reducible refine size_of ?_) | (with_reducible refine Nat.le_succ_of_le ?_) | go_size))
  have HB0 := Lib.hid (Blk.new w 25 #[sa, .slice C c.length cC])
  obtain ⟨w0, hw0⟩ : ∃ w0, w0 = w.alloc (.cells #[sa, .slice C c.length cC] 25) := ⟨_, rfl⟩
  have hs0 : w0.heap.size = w.heap.size + 1 := by rw [hw0]; simp
  rw [← hw0] at hb0 HB0
  have HS0 := Lib.hid hs0
  have HW0 := Lib.hid hw0
  clear hs0 hw0
  go_enter Tryz.func11, Tryz.ntmps11
  go_upto_region 1 with (fail)
  rw [← HW0.out]
  go_wp2
  go_loopw [4, 5] (fun v i wr => ∃ (k : Nat) (st : List (List (List Int))), k ≤ c.length ∧ i = .int .i64 k ∧ CInv w wr K c v k st ∧ Below w0.heap.size w0 wr) (fun _ i _ => c.length - (intOf i).toNat)
  case atStart => exact ⟨0, [], Nat.zero_le _, rfl, ⟨by simp, ⟨[], OwnR.nil _ _, rfl⟩, hb0, Nat.le_of_eq HS0.out.symm, (fun l h => by cases h), by simpa using HS.out, HF.out⟩, Below.refl _ _⟩
  case round =>
    obtain ⟨k, st, hk, rfl, hinv, hbw⟩ := hrel
    obtain ⟨wo, rfl⟩ : ∃ wo : World, wo = wr := ⟨_, rfl⟩
    obtain ⟨P, hown, hst⟩ := hinv.row
    obtain ⟨A5, cp5, rfl⟩ := hown.slice
    have hPl : P.length = st.length := by have := congrArg List.length hst; rw [rVals_len, List.length_reverse] at this; exact this
    have b1 := ((HB0.out).keep hbw).cell 1
    simp at b1
    have HI := Lib.hid hinv
    have HO := Lib.hid hown
    have HST := Lib.hid hst
    have HPL := Lib.hid hPl
    clear hinv hown hst hPl
    by_cases hlt : k < c.length
    · obtain ⟨ad, rfl, hcell0⟩ := HR.out.int hlt
      have hcell := cell_keep HI.out.below hcell0
      have hco := HCO.out _ (List.getElem_mem hlt)
      have HD := Lib.hid (List.drop_eq_getElem_cons hlt)
      generalize c[k] = x at hcell hcell0 HD hco
      have hk1 : (k : Int) < (c.length : Int) := by omega
      have hk0 : (0 : Int) ≤ (k : Int) := by omega
      have hpop : ¬ ((st.length : Int) < Venn.fTakes x) := by
        have hs := HI.out.shape
        rw [HD.out, Venn.fShape] at hs
        split at hs
        · cases hs
        · assumption
      have hsh : Venn.fShape (st.length + (1 - Venn.fTakes x)) (c.drop (k + 1)) = true := by
        have hs := HI.out.shape
        rw [HD.out, Venn.fShape, if_neg hpop] at hs
        exact hs
      have HKF := Lib.hid (show K = (match Venn.cStep st x with | none => none | some st' => Venn.cFold st' (c.drop (k + 1))) by
        rw [HI.out.fold, HD.out]; rfl)
      have HLN := Lib.hid (fun st' => Venn.cStep_length (st := st) (st' := st') hpop)
      have HCK := Lib.hid (fun st' => Venn.cStep_ok (st := st) (st' := st') hco HI.out.ok)
      have HP := Lib.hid hpop
      have HSH := Lib.hid hsh
      have HBI := Lib.hid HI.out.below
      have HSZ := Lib.hid HI.out.size
      have HLE := Lib.hid HI.out.len
      have HOK := Lib.hid HI.out.ok
      clear hcell0 hpop hsh HI
      by_cases hx6 : x < 6
      · have hx0 : 0 ≤ x := by rcases Venn.codeOk_cases hco with h | h | h | h | h <;> omega
        have HC := Lib.hid (show Venn.cStep st x = some ([[x + 1]] :: st) by unfold Venn.cStep; rw [if_neg (by omega), if_neg (by omega)])
        have hw : IntKind.i64.wrap (x + 1) = x + 1 := IntWalk.i64_in _ (by omega)
        have hx10 : x < 10 := by omega
        clear hco
        go_upto_region 8 with (fail)
        clear hcell
        have hb3 : Below wo.heap.size wo (((wo.alloc (.cells #[.int .i64 (x + 1)] 3)).alloc (.cells #[.slice (some ⟨wo.heap.size, 0, none⟩) 1 1] 23)).alloc (.cells #[.slice (some ⟨wo.heap.size + 1, 0, none⟩) 1 1] 26)) := by (repeat' (first | (with_reducible exact Below.refl _ _) | (with_reducible assumption) | (with_reducible refine Below.next ?_ (by with_reducible assumption)) | (with_reducible refine Below.drew ?_) | (with_reducible refine Below.laid ?_ _) | (with_reducible refine Below.setCell ?_ ?_ _) | (with_reducible refine size_of ?_) | (with_reducible refine Nat.le_succ_of_le ?_) | go_size))
        have hb23 : Below ((wo.alloc (.cells #[.int .i64 (x + 1)] 3)).alloc (.cells #[.slice (some ⟨wo.heap.size, 0, none⟩) 1 1] 23)).heap.size ((wo.alloc (.cells #[.int .i64 (x + 1)] 3)).alloc (.cells #[.slice (some ⟨wo.heap.size, 0, none⟩) 1 1] 23)) (((wo.alloc (.cells #[.int .i64 (x + 1)] 3)).alloc (.cells #[.slice (some ⟨wo.heap.size, 0, none⟩) 1 1] 23)).alloc (.cells #[.slice (some ⟨wo.heap.size + 1, 0, none⟩) 1 1] 26)) := Below.laid (Below.refl _ _) _
        have hcell2 : (((wo.alloc (.cells #[.int .i64 (x + 1)] 3)).alloc (.cells #[.slice (some ⟨wo.heap.size, 0, none⟩) 1 1] 23)).alloc (.cells #[.slice (some ⟨wo.heap.size + 1, 0, none⟩) 1 1] 26)).cell? ⟨wo.heap.size + 1 + 1, 0, none⟩ = some (.slice (some ⟨wo.heap.size + 1, 0, none⟩) 1 1) := (Blk.newAt (w := (wo.alloc (.cells #[.int .i64 (x + 1)] 3)).alloc (.cells #[.slice (some ⟨wo.heap.size, 0, none⟩) 1 1] 23)) (g := wo.heap.size + 1 + 1) (by simp) 26 #[.slice (some ⟨wo.heap.size + 1, 0, none⟩) 1 1]).cell 0
        have hlo := fun B hB => (one_lists wo (x + 1) B hB).keep hb23
        have hbase : w.heap.size + 1 ≤ (((wo.alloc (.cells #[.int .i64 (x + 1)] 3)).alloc (.cells #[.slice (some ⟨wo.heap.size, 0, none⟩) 1 1] 23)).alloc (.cells #[.slice (some ⟨wo.heap.size + 1, 0, none⟩) 1 1] 26)).heap.size := Nat.le_trans HSZ.out hb3.size
        have HO3 := Lib.hid (HO.out.keep hb3)
        have hPlen : P.length < 1000000 := by have := HPL.out; have := HLE.out; omega
        go_wp2_with (at_builtin; refine wpList_appRR _ rfl _ _ rfl (w.heap.size + 1) _ P rfl HO3.out (wo.heap.size + 1 + 1) 1 ([[x + 1]], .slice (some ⟨wo.heap.size + 1, 0, none⟩) 1 1) rfl hcell2 (hlo (wo.heap.size + 1 + 1) (.inr (Nat.le_refl _))).lists (fun B e => hlo B (.inl (HO.out.own.lt B e).2)) hPlen hbase ?_)
        intro v' w3 hown3 hg3
        have hbel := (HBI.out.trans (hb3.mono HBI.out.size)).grown hg3 (Nat.le_trans HBI.out.size hb3.size) (fun b e => by have := (HO.out.own.lt b e).1; omega)
        have hbel0 := (Below.next hbw hb3).grown hg3 (Nat.le_trans hbw.size hb3.size) (fun b e => by have := (HO.out.own.lt b e).1; have := HS0.out; omega)
        have hs3 := Nat.le_trans hbase hg3.size
        clear hg3 hlo hcell2 hb3 hb23 hbase hPlen b1
        go_wp2
        go_roundw
        case rel =>
          refine ⟨k + 1, [[x + 1]] :: st, by omega, by go_num, ⟨by have := HLE.out; simp; omega, ⟨_, hown3, ?_⟩, hbel, hs3, HCK.out _ HC.out, ?_, ?_⟩, hbel0⟩
          · rw [rVals_app, HST.out, List.reverse_cons]; rfl
          · rw [HLN.out _ HC.out]; exact HSH.out
          · rw [HKF.out, HC.out]
        case measure => simp [intOf]; omega
      · have hs : x = 12 ∨ x = 10 ∨ x = 11 ∨ x = 13 := by rcases Venn.codeOk_cases hco with h | h | h | h | h <;> omega
        clear hco hx6
        rcases hs with rfl | rfl | rfl | rfl
        · have hpop := HP.out
          obtain ⟨a, r, rfl⟩ : ∃ a r, st = a :: r := by
            match st, hpop with
            | [], hpop => simp [Venn.fTakes] at hpop
            | a :: r, _ => exact ⟨a, r, rfl⟩
          have hst := HST.out
          rw [List.reverse_cons] at hst
          obtain ⟨R, z, rfl, hr1, rfl⟩ := rVals_split hst
          have hlen : (R ++ [z]).length = R.length + 1 := by simp
          have hown := HO.out
          rw [hlen] at hown ⊢
          obtain ⟨g, cap, hv, hc1, hc2, hg, hgl⟩ := hown.form (by simp)
          rw [hlen] at hv hc1
          injection hv with hv1 _ hv3
          subst hv1 hv3
          have hcellz := hown.cell (k := R.length) (x := z) (by simp)
          have hzo := hown.off z (by simp) g rfl
          obtain ⟨A1, c1, hzv⟩ := slice_of_lists hzo
          have HOR := Lib.hid (hown.pop (n := R.length) rfl)
          have HRR := Lib.hid (show (rVals R).reverse = r by rw [hr1, List.reverse_reverse])
          have HZK := Lib.hid (HOK.out z.1 (by simp))
          have HN := Lib.hid (ref_No g z.2 z.1 wo hgl hzo.lists (Venn.mem_of_cok HZK.out) (fun c hc => (HZK.out.1.1 c hc).2.2) HZK.out.2)
          have HJS := Lib.hid (show Venn.cStep (z.1 :: r) 12 = (match Venn.noV z.1 with | none => none | some y => some (y :: r)) from rfl)
          have hR20 : R.length + 1 ≤ 20 := by have := HLE.out; have := HPL.out; rw [hlen] at this; simp at *; omega
          rw [hzv] at hcellz HN
          obtain ⟨m, hm⟩ : ∃ m, m = R.length := ⟨_, rfl⟩
          rw [← hm] at hc1 hcellz HOR hR20 ⊢
          have HM := Lib.hid hm
          clear hm hown hzv hlen hst hr1 hzo hpop
          have f1 : IntKind.i64.wrap (m : Int) = (m : Int) := IntWalk.i64_in _ (by omega)
          have f2 : (m : Int) < (m : Int) + 1 := by omega
          have f3 : (0 : Int) ≤ (m : Int) := by omega
          have f4 : (m : Int) ≤ (cp5 : Int) := by omega
          have f5 : IntKind.i64.wrap ((m : Int) + 1 - 1) = (m : Int) := by rw [show (m : Int) + 1 - 1 = m by omega]; exact f1
          cases hK : Venn.noV z.1 with
          | none =>
            have HJS := Lib.hid (show Venn.cStep (z.1 :: r) 12 = none by rw [HJS.out, hK])
            rw [hK] at HN
            clear hK
            go_wp2_with fail
            refine (HN.out).mono ?_
            intro e w1 hpost
            obtain ⟨hb1, rfl⟩ := rnone_none hpost
            clear hpost
            have hbel := Below.next HBI.out hb1
            have HK := Lib.hid (show K = none by rw [HKF.out, HJS.out])
            go_wp2
            go_ret2
            exact ⟨hbel, .inl ⟨by rw [HJ.out, HK.out], rfl⟩⟩
          | some L1 =>
            have HJS := Lib.hid (show Venn.cStep (z.1 :: r) 12 = some (L1 :: r) by rw [HJS.out, hK])
            rw [hK] at HN
            clear hK
            go_wp2_with fail
            refine (HN.out).mono ?_
            intro e w1 hpost
            obtain ⟨B1, e1, hb1, rfl, hl1⟩ := rnone_some hpost
            have HL1 := Lib.hid hl1
            clear hpost hl1 hcellz
            have HO1 := Lib.hid (HOR.out.keep hb1)
            have hbel1 := Below.next HBI.out hb1
            have hbel01 := Below.next hbw hb1
            have hb2 : Below w1.heap.size w1 (w1.alloc (.cells #[.slice B1 L1.length e1] 26)) := by (repeat' (first | (with_reducible exact Below.refl _ _) | (with_reducible assumption) | (with_reducible refine Below.next ?_ (by with_reducible assumption)) | (with_reducible refine Below.drew ?_) | (with_reducible refine Below.laid ?_ _) | (with_reducible refine Below.setCell ?_ ?_ _) | (with_reducible refine size_of ?_) | (with_reducible refine Nat.le_succ_of_le ?_) | go_size))
            have hsz2 : w.heap.size + 1 ≤ (w1.alloc (.cells #[.slice B1 L1.length e1] 26)).heap.size := Nat.le_trans HSZ.out (Nat.le_trans (hb1).size hb2.size)
            have hcell2 := (Blk.new w1 26 #[.slice B1 L1.length e1]).cell 0
            go_upto_region 27 with (fail)
            go_wp2_with (at_builtin; refine wpList_appRR _ rfl _ _ rfl (w.heap.size + 1) _ R rfl (HO1.out.keep hb2) w1.heap.size 1 (L1, .slice B1 L1.length e1) rfl hcell2 (HL1.out.keep hb2).lists (fun B e => by injection e with e; subst e; exact HL1.out.keep hb2) (by have := HM.out; omega) hsz2 ?_)
            intro v' w3 hown3 hg3
            have hbel := (hbel1.trans (hb2.mono hbel1.size)).grown hg3 (Nat.le_trans hbel1.size hb2.size) (fun b e => by simp [Value.ownBlock] at e; omega)
            have hbel0 := (hbel01.trans (hb2.mono hbel01.size)).grown hg3 (Nat.le_trans hbel01.size hb2.size) (fun b e => by simp [Value.ownBlock] at e; have := HS0.out; omega)
            have hs3 := Nat.le_trans hsz2 hg3.size
            clear hg3 hcell2 hb2 hsz2 hbel1 hbel01 b1
            go_wp2
            go_roundw
            case rel =>
              refine ⟨k + 1, L1 :: r, by omega, by go_num, ⟨?_, ⟨_, hown3, ?_⟩, hbel, hs3, HCK.out _ HJS.out, ?_, ?_⟩, hbel0⟩
              · have := HLE.out; simp at *; omega
              · rw [rVals_app, List.reverse_cons, ← HRR.out, List.reverse_reverse]; rfl
              · rw [HLN.out _ HJS.out]; exact HSH.out
              · rw [HKF.out, HJS.out]
            case measure => simp [intOf]; omega
        · have hpop := HP.out
          obtain ⟨b, a, r, rfl⟩ : ∃ b a r, st = b :: a :: r := by
            match st, hpop with
            | [], hpop => simp [Venn.fTakes] at hpop
            | [_], hpop => simp [Venn.fTakes] at hpop
            | b :: a :: r, _ => exact ⟨b, a, r, rfl⟩
          have hst := HST.out
          rw [List.reverse_cons] at hst
          obtain ⟨R1, y, rfl, hr0, rfl⟩ := rVals_split hst
          rw [List.reverse_cons] at hr0
          obtain ⟨R, z, rfl, hr1, rfl⟩ := rVals_split hr0
          have hlen : (R ++ [z] ++ [y]).length = R.length + 1 + 1 := by simp
          have hown := HO.out
          rw [hlen] at hown ⊢
          obtain ⟨g, cap, hv, hc1, hc2, hg, hgl⟩ := hown.form (by simp)
          rw [hlen] at hv hc1
          injection hv with hv1 _ hv3
          subst hv1 hv3
          have hcellz := hown.cell (k := R.length) (x := z) (by simp)
          have hcelly := hown.cell (k := R.length + 1) (x := y) (by simp)
          have hzo := hown.off z (by simp) g rfl
          have hyo := hown.off y (by simp) g rfl
          obtain ⟨A1, c1, hzv⟩ := slice_of_lists hzo
          obtain ⟨A2, c2, hyv⟩ := slice_of_lists hyo
          have HOR := Lib.hid ((hown.pop (n := R.length + 1) (by simp)).pop (n := R.length) rfl)
          have HRR := Lib.hid (show (rVals R).reverse = r by rw [hr1, List.reverse_reverse])
          have HZK := Lib.hid (HOK.out z.1 (by simp))
          have HYK := Lib.hid (HOK.out y.1 (by simp))
          have HN := Lib.hid (fun W (hW : Below wo.heap.size wo W) => (show Calls Tryz.prog 34 #[z.2, y.2] W (RNone g (Venn.andV z.1 y.1) W) from (ref_And g z.2 y.2 z.1 y.1 W (Nat.lt_of_lt_of_le hgl hW.size) (hzo.lists.keep hW) (hyo.lists.keep hW) HZK.out.2 HYK.out.2 (fun c hc => by have := (HZK.out.1.1 c hc).2.2; omega) (fun c hc => by have := (HYK.out.1.1 c hc).2.2; omega)).mono fun _ _ h => h.off (Nat.lt_of_lt_of_le hgl hW.size)))
          have HJS := Lib.hid (show Venn.cStep (y.1 :: z.1 :: r) 10 = (match Venn.andV z.1 y.1 with | none => none | some x => some (x :: r)) from rfl)
          have hR20 : R.length + 1 + 1 ≤ 20 := by have := HLE.out; have := HPL.out; rw [hlen] at this; simp at *; omega
          rw [hzv] at hcellz HN
          rw [hyv] at hcelly HN
          obtain ⟨m, hm⟩ : ∃ m, m = R.length := ⟨_, rfl⟩
          rw [← hm] at hc1 hcellz hcelly HOR hR20 ⊢
          have HM := Lib.hid hm
          clear hm hown hzv hyv hlen hst hr0 hr1 hzo hyo hpop
          have f1 : IntKind.i64.wrap (m : Int) = (m : Int) := IntWalk.i64_in _ (by omega)
          have f2 : (m : Int) < (m : Int) + 1 + 1 := by omega
          have f3 : (0 : Int) ≤ (m : Int) := by omega
          have f4 : (m : Int) ≤ (cp5 : Int) := by omega
          have f5 : IntKind.i64.wrap ((m : Int) + 1 + 1 - 2) = (m : Int) := by rw [show (m : Int) + 1 + 1 - 2 = m by omega]; exact f1
          have f6 : IntKind.i64.wrap ((m : Int) + 1) = (m : Int) + 1 := IntWalk.i64_in _ (by omega)
          have f7 : (m : Int) + 1 < (m : Int) + 1 + 1 := by omega
          have f8 : (0 : Int) ≤ (m : Int) + 1 := by omega
          have f9 : IntKind.i64.wrap ((m : Int) + 1 + 1 - 1) = (m : Int) + 1 := by rw [show (m : Int) + 1 + 1 - 1 = (m : Int) + 1 by omega]; exact f6
          cases hK : Venn.andV z.1 y.1 with
          | none =>
            have HJS := Lib.hid (show Venn.cStep (y.1 :: z.1 :: r) 10 = none by rw [HJS.out, hK])
            rw [hK] at HN
            have HN := Lib.hid (fun W hW => (HN.out W hW).mono fun e w' h => rnone_none h)
            clear hK
            go_wp2_with fail
            go_region_law (go_simp; go_at_call 34; refine (HN.out _ (by (repeat' (first | (with_reducible exact Below.refl _ _) | (with_reducible assumption) | (with_reducible refine Below.next ?_ (by with_reducible assumption)) | (with_reducible refine Below.drew ?_) | (with_reducible refine Below.laid ?_ _) | (with_reducible refine Below.setCell ?_ ?_ _) | (with_reducible refine size_of ?_) | (with_reducible refine Nat.le_succ_of_le ?_) | go_size)))).mono ?_; rintro e w1 ⟨hb1, rfl⟩)
            all_goals
              have hb2 : Below wo.heap.size wo w1 := by (repeat' (first | (with_reducible exact Below.refl _ _) | (with_reducible assumption) | (with_reducible refine Below.next ?_ (by with_reducible assumption)) | (with_reducible refine Below.drew ?_) | (with_reducible refine Below.laid ?_ _) | (with_reducible refine Below.setCell ?_ ?_ _) | (with_reducible refine size_of ?_) | (with_reducible refine Nat.le_succ_of_le ?_) | go_size))
              have hbel := Below.next HBI.out hb2
              have HK := Lib.hid (show K = none by rw [HKF.out, HJS.out])
              go_wp2
              go_ret2
              exact ⟨hbel, .inl ⟨by rw [HJ.out, HK.out], rfl⟩⟩
          | some L1 =>
            have HJS := Lib.hid (show Venn.cStep (y.1 :: z.1 :: r) 10 = some (L1 :: r) by rw [HJS.out, hK])
            rw [hK] at HN
            have HN := Lib.hid (fun W hW => (HN.out W hW).mono fun e w' h => rnone_some h)
            clear hK
            go_wp2_with fail
            go_region_law (go_simp; go_at_call 34; refine (HN.out _ (by (repeat' (first | (with_reducible exact Below.refl _ _) | (with_reducible assumption) | (with_reducible refine Below.next ?_ (by with_reducible assumption)) | (with_reducible refine Below.drew ?_) | (with_reducible refine Below.laid ?_ _) | (with_reducible refine Below.setCell ?_ ?_ _) | (with_reducible refine size_of ?_) | (with_reducible refine Nat.le_succ_of_le ?_) | go_size)))).mono ?_; rintro e w1 ⟨B1, e1, hb1, rfl, hl1⟩)
            all_goals
              have hbx : Below wo.heap.size wo w1 := by (repeat' (first | (with_reducible exact Below.refl _ _) | (with_reducible assumption) | (with_reducible refine Below.next ?_ (by with_reducible assumption)) | (with_reducible refine Below.drew ?_) | (with_reducible refine Below.laid ?_ _) | (with_reducible refine Below.setCell ?_ ?_ _) | (with_reducible refine size_of ?_) | (with_reducible refine Nat.le_succ_of_le ?_) | go_size))
              have HL1 := Lib.hid hl1
              clear hl1 hcellz hcelly
              have HO1 := Lib.hid (HOR.out.keep hbx)
              have hbel1 := Below.next HBI.out hbx
              have hbel01 := Below.next hbw hbx
              have hb2 : Below w1.heap.size w1 (w1.alloc (.cells #[.slice B1 L1.length e1] 26)) := by (repeat' (first | (with_reducible exact Below.refl _ _) | (with_reducible assumption) | (with_reducible refine Below.next ?_ (by with_reducible assumption)) | (with_reducible refine Below.drew ?_) | (with_reducible refine Below.laid ?_ _) | (with_reducible refine Below.setCell ?_ ?_ _) | (with_reducible refine size_of ?_) | (with_reducible refine Nat.le_succ_of_le ?_) | go_size))
              have hsz2 : w.heap.size + 1 ≤ (w1.alloc (.cells #[.slice B1 L1.length e1] 26)).heap.size := Nat.le_trans HSZ.out (Nat.le_trans (hbx).size hb2.size)
              have hcell2 := (Blk.new w1 26 #[.slice B1 L1.length e1]).cell 0
              go_upto_region 27 with (fail)
              go_wp2_with (at_builtin; refine wpList_appRR _ rfl _ _ rfl (w.heap.size + 1) _ R rfl (HO1.out.keep hb2) w1.heap.size 1 (L1, .slice B1 L1.length e1) rfl hcell2 (HL1.out.keep hb2).lists (fun B e => by injection e with e; subst e; exact HL1.out.keep hb2) (by have := HM.out; omega) hsz2 ?_)
              intro v' w3 hown3 hg3
              have hbel := (hbel1.trans (hb2.mono hbel1.size)).grown hg3 (Nat.le_trans hbel1.size hb2.size) (fun b e => by simp [Value.ownBlock] at e; omega)
              have hbel0 := (hbel01.trans (hb2.mono hbel01.size)).grown hg3 (Nat.le_trans hbel01.size hb2.size) (fun b e => by simp [Value.ownBlock] at e; have := HS0.out; omega)
              have hs3 := Nat.le_trans hsz2 hg3.size
              clear hg3 hcell2 hb2 hsz2 hbel1 hbel01 b1
              go_wp2
              go_roundw
              case rel =>
                refine ⟨k + 1, L1 :: r, by omega, by go_num, ⟨?_, ⟨_, hown3, ?_⟩, hbel, hs3, HCK.out _ HJS.out, ?_, ?_⟩, hbel0⟩
                · have := HLE.out; simp at *; omega
                · rw [rVals_app, List.reverse_cons, ← HRR.out, List.reverse_reverse]; rfl
                · rw [HLN.out _ HJS.out]; exact HSH.out
                · rw [HKF.out, HJS.out]
              case measure => simp [intOf]; omega
        · have hpop := HP.out
          obtain ⟨b, a, r, rfl⟩ : ∃ b a r, st = b :: a :: r := by
            match st, hpop with
            | [], hpop => simp [Venn.fTakes] at hpop
            | [_], hpop => simp [Venn.fTakes] at hpop
            | b :: a :: r, _ => exact ⟨b, a, r, rfl⟩
          have hst := HST.out
          rw [List.reverse_cons] at hst
          obtain ⟨R1, y, rfl, hr0, rfl⟩ := rVals_split hst
          rw [List.reverse_cons] at hr0
          obtain ⟨R, z, rfl, hr1, rfl⟩ := rVals_split hr0
          have hlen : (R ++ [z] ++ [y]).length = R.length + 1 + 1 := by simp
          have hown := HO.out
          rw [hlen] at hown ⊢
          obtain ⟨g, cap, hv, hc1, hc2, hg, hgl⟩ := hown.form (by simp)
          rw [hlen] at hv hc1
          injection hv with hv1 _ hv3
          subst hv1 hv3
          have hcellz := hown.cell (k := R.length) (x := z) (by simp)
          have hcelly := hown.cell (k := R.length + 1) (x := y) (by simp)
          have hzo := hown.off z (by simp) g rfl
          have hyo := hown.off y (by simp) g rfl
          obtain ⟨A1, c1, hzv⟩ := slice_of_lists hzo
          obtain ⟨A2, c2, hyv⟩ := slice_of_lists hyo
          have HOR := Lib.hid ((hown.pop (n := R.length + 1) (by simp)).pop (n := R.length) rfl)
          have HRR := Lib.hid (show (rVals R).reverse = r by rw [hr1, List.reverse_reverse])
          have HZK := Lib.hid (HOK.out z.1 (by simp))
          have HYK := Lib.hid (HOK.out y.1 (by simp))
          have HN := Lib.hid (fun W (hW : Below wo.heap.size wo W) => (show Calls Tryz.prog 35 #[z.2, y.2] W (RNone g (Venn.orV z.1 y.1) W) from (ref_Or g z.2 y.2 z.1 y.1 W (hzo.keep hW) (hyo.keep hW) HZK.out.2 HYK.out.2).mono fun _ _ h => h.off (Nat.lt_of_lt_of_le hgl hW.size)))
          have HJS := Lib.hid (show Venn.cStep (y.1 :: z.1 :: r) 11 = (match Venn.orV z.1 y.1 with | none => none | some x => some (x :: r)) from rfl)
          have hR20 : R.length + 1 + 1 ≤ 20 := by have := HLE.out; have := HPL.out; rw [hlen] at this; simp at *; omega
          rw [hzv] at hcellz HN
          rw [hyv] at hcelly HN
          obtain ⟨m, hm⟩ : ∃ m, m = R.length := ⟨_, rfl⟩
          rw [← hm] at hc1 hcellz hcelly HOR hR20 ⊢
          have HM := Lib.hid hm
          clear hm hown hzv hyv hlen hst hr0 hr1 hzo hyo hpop
          have f1 : IntKind.i64.wrap (m : Int) = (m : Int) := IntWalk.i64_in _ (by omega)
          have f2 : (m : Int) < (m : Int) + 1 + 1 := by omega
          have f3 : (0 : Int) ≤ (m : Int) := by omega
          have f4 : (m : Int) ≤ (cp5 : Int) := by omega
          have f5 : IntKind.i64.wrap ((m : Int) + 1 + 1 - 2) = (m : Int) := by rw [show (m : Int) + 1 + 1 - 2 = m by omega]; exact f1
          have f6 : IntKind.i64.wrap ((m : Int) + 1) = (m : Int) + 1 := IntWalk.i64_in _ (by omega)
          have f7 : (m : Int) + 1 < (m : Int) + 1 + 1 := by omega
          have f8 : (0 : Int) ≤ (m : Int) + 1 := by omega
          have f9 : IntKind.i64.wrap ((m : Int) + 1 + 1 - 1) = (m : Int) + 1 := by rw [show (m : Int) + 1 + 1 - 1 = (m : Int) + 1 by omega]; exact f6
          cases hK : Venn.orV z.1 y.1 with
          | none =>
            have HJS := Lib.hid (show Venn.cStep (y.1 :: z.1 :: r) 11 = none by rw [HJS.out, hK])
            rw [hK] at HN
            have HN := Lib.hid (fun W hW => (HN.out W hW).mono fun e w' h => rnone_none h)
            clear hK
            go_wp2_with fail
            go_region_law (go_simp; go_at_call 35; refine (HN.out _ (by (repeat' (first | (with_reducible exact Below.refl _ _) | (with_reducible assumption) | (with_reducible refine Below.next ?_ (by with_reducible assumption)) | (with_reducible refine Below.drew ?_) | (with_reducible refine Below.laid ?_ _) | (with_reducible refine Below.setCell ?_ ?_ _) | (with_reducible refine size_of ?_) | (with_reducible refine Nat.le_succ_of_le ?_) | go_size)))).mono ?_; rintro e w1 ⟨hb1, rfl⟩)
            all_goals
              have hb2 : Below wo.heap.size wo w1 := by (repeat' (first | (with_reducible exact Below.refl _ _) | (with_reducible assumption) | (with_reducible refine Below.next ?_ (by with_reducible assumption)) | (with_reducible refine Below.drew ?_) | (with_reducible refine Below.laid ?_ _) | (with_reducible refine Below.setCell ?_ ?_ _) | (with_reducible refine size_of ?_) | (with_reducible refine Nat.le_succ_of_le ?_) | go_size))
              have hbel := Below.next HBI.out hb2
              have HK := Lib.hid (show K = none by rw [HKF.out, HJS.out])
              go_wp2
              go_ret2
              exact ⟨hbel, .inl ⟨by rw [HJ.out, HK.out], rfl⟩⟩
          | some L1 =>
            have HJS := Lib.hid (show Venn.cStep (y.1 :: z.1 :: r) 11 = some (L1 :: r) by rw [HJS.out, hK])
            rw [hK] at HN
            have HN := Lib.hid (fun W hW => (HN.out W hW).mono fun e w' h => rnone_some h)
            clear hK
            go_wp2_with fail
            go_region_law (go_simp; go_at_call 35; refine (HN.out _ (by (repeat' (first | (with_reducible exact Below.refl _ _) | (with_reducible assumption) | (with_reducible refine Below.next ?_ (by with_reducible assumption)) | (with_reducible refine Below.drew ?_) | (with_reducible refine Below.laid ?_ _) | (with_reducible refine Below.setCell ?_ ?_ _) | (with_reducible refine size_of ?_) | (with_reducible refine Nat.le_succ_of_le ?_) | go_size)))).mono ?_; rintro e w1 ⟨B1, e1, hb1, rfl, hl1⟩)
            all_goals
              have hbx : Below wo.heap.size wo w1 := by (repeat' (first | (with_reducible exact Below.refl _ _) | (with_reducible assumption) | (with_reducible refine Below.next ?_ (by with_reducible assumption)) | (with_reducible refine Below.drew ?_) | (with_reducible refine Below.laid ?_ _) | (with_reducible refine Below.setCell ?_ ?_ _) | (with_reducible refine size_of ?_) | (with_reducible refine Nat.le_succ_of_le ?_) | go_size))
              have HL1 := Lib.hid hl1
              clear hl1 hcellz hcelly
              have HO1 := Lib.hid (HOR.out.keep hbx)
              have hbel1 := Below.next HBI.out hbx
              have hbel01 := Below.next hbw hbx
              have hb2 : Below w1.heap.size w1 (w1.alloc (.cells #[.slice B1 L1.length e1] 26)) := by (repeat' (first | (with_reducible exact Below.refl _ _) | (with_reducible assumption) | (with_reducible refine Below.next ?_ (by with_reducible assumption)) | (with_reducible refine Below.drew ?_) | (with_reducible refine Below.laid ?_ _) | (with_reducible refine Below.setCell ?_ ?_ _) | (with_reducible refine size_of ?_) | (with_reducible refine Nat.le_succ_of_le ?_) | go_size))
              have hsz2 : w.heap.size + 1 ≤ (w1.alloc (.cells #[.slice B1 L1.length e1] 26)).heap.size := Nat.le_trans HSZ.out (Nat.le_trans (hbx).size hb2.size)
              have hcell2 := (Blk.new w1 26 #[.slice B1 L1.length e1]).cell 0
              go_upto_region 27 with (fail)
              go_wp2_with (at_builtin; refine wpList_appRR _ rfl _ _ rfl (w.heap.size + 1) _ R rfl (HO1.out.keep hb2) w1.heap.size 1 (L1, .slice B1 L1.length e1) rfl hcell2 (HL1.out.keep hb2).lists (fun B e => by injection e with e; subst e; exact HL1.out.keep hb2) (by have := HM.out; omega) hsz2 ?_)
              intro v' w3 hown3 hg3
              have hbel := (hbel1.trans (hb2.mono hbel1.size)).grown hg3 (Nat.le_trans hbel1.size hb2.size) (fun b e => by simp [Value.ownBlock] at e; omega)
              have hbel0 := (hbel01.trans (hb2.mono hbel01.size)).grown hg3 (Nat.le_trans hbel01.size hb2.size) (fun b e => by simp [Value.ownBlock] at e; have := HS0.out; omega)
              have hs3 := Nat.le_trans hsz2 hg3.size
              clear hg3 hcell2 hb2 hsz2 hbel1 hbel01 b1
              go_wp2
              go_roundw
              case rel =>
                refine ⟨k + 1, L1 :: r, by omega, by go_num, ⟨?_, ⟨_, hown3, ?_⟩, hbel, hs3, HCK.out _ HJS.out, ?_, ?_⟩, hbel0⟩
                · have := HLE.out; simp at *; omega
                · rw [rVals_app, List.reverse_cons, ← HRR.out, List.reverse_reverse]; rfl
                · rw [HLN.out _ HJS.out]; exact HSH.out
                · rw [HKF.out, HJS.out]
              case measure => simp [intOf]; omega
        · have hpop := HP.out
          obtain ⟨b, a, r, rfl⟩ : ∃ b a r, st = b :: a :: r := by
            match st, hpop with
            | [], hpop => simp [Venn.fTakes] at hpop
            | [_], hpop => simp [Venn.fTakes] at hpop
            | b :: a :: r, _ => exact ⟨b, a, r, rfl⟩
          have hst := HST.out
          rw [List.reverse_cons] at hst
          obtain ⟨R1, y, rfl, hr0, rfl⟩ := rVals_split hst
          rw [List.reverse_cons] at hr0
          obtain ⟨R, z, rfl, hr1, rfl⟩ := rVals_split hr0
          have hlen : (R ++ [z] ++ [y]).length = R.length + 1 + 1 := by simp
          have hown := HO.out
          rw [hlen] at hown ⊢
          obtain ⟨g, cap, hv, hc1, hc2, hg, hgl⟩ := hown.form (by simp)
          rw [hlen] at hv hc1
          injection hv with hv1 _ hv3
          subst hv1 hv3
          have hcellz := hown.cell (k := R.length) (x := z) (by simp)
          have hcelly := hown.cell (k := R.length + 1) (x := y) (by simp)
          have hzo := hown.off z (by simp) g rfl
          have hyo := hown.off y (by simp) g rfl
          obtain ⟨A1, c1, hzv⟩ := slice_of_lists hzo
          obtain ⟨A2, c2, hyv⟩ := slice_of_lists hyo
          have HOR := Lib.hid ((hown.pop (n := R.length + 1) (by simp)).pop (n := R.length) rfl)
          have HRR := Lib.hid (show (rVals R).reverse = r by rw [hr1, List.reverse_reverse])
          have HZK := Lib.hid (HOK.out z.1 (by simp))
          have HYK := Lib.hid (HOK.out y.1 (by simp))
          have HN := Lib.hid (ref_No g z.2 z.1 wo hgl hzo.lists (Venn.mem_of_cok HZK.out) (fun c hc => (HZK.out.1.1 c hc).2.2) HZK.out.2)
          have HY := Lib.hid hyo
          have HJS := Lib.hid (show Venn.cStep (y.1 :: z.1 :: r) 13 = (match Venn.thenV z.1 y.1 with | none => none | some x => some (x :: r)) from rfl)
          have HOK2 := Lib.hid (show ∀ L0, Venn.noV z.1 = some L0 → Venn.COk L0 from fun L0 h => Venn.noV_ok h)
          have HYR := Lib.hid (fun W (hW : Below wo.heap.size wo W) => hown.cell (k := R.length + 1) (x := y) (by simp) |> cell_keep hW)
          have hR20 : R.length + 1 + 1 ≤ 20 := by have := HLE.out; have := HPL.out; rw [hlen] at this; simp at *; omega
          rw [hzv] at hcellz HN
          rw [hyv] at hcelly HY HYR
          obtain ⟨m, hm⟩ : ∃ m, m = R.length := ⟨_, rfl⟩
          rw [← hm] at hc1 hcellz hcelly HOR hR20 HYR ⊢
          have HM := Lib.hid hm
          clear hm hown hzv hyv hlen hst hr0 hr1 hzo hyo hpop
          have f1 : IntKind.i64.wrap (m : Int) = (m : Int) := IntWalk.i64_in _ (by omega)
          have f2 : (m : Int) < (m : Int) + 1 + 1 := by omega
          have f3 : (0 : Int) ≤ (m : Int) := by omega
          have f4 : (m : Int) ≤ (cp5 : Int) := by omega
          have f5 : IntKind.i64.wrap ((m : Int) + 1 + 1 - 2) = (m : Int) := by rw [show (m : Int) + 1 + 1 - 2 = m by omega]; exact f1
          have f6 : IntKind.i64.wrap ((m : Int) + 1) = (m : Int) + 1 := IntWalk.i64_in _ (by omega)
          have f7 : (m : Int) + 1 < (m : Int) + 1 + 1 := by omega
          have f8 : (0 : Int) ≤ (m : Int) + 1 := by omega
          have f9 : IntKind.i64.wrap ((m : Int) + 1 + 1 - 1) = (m : Int) + 1 := by rw [show (m : Int) + 1 + 1 - 1 = (m : Int) + 1 by omega]; exact f6
          cases hK : Venn.noV z.1 with
          | none =>
            have HJS := Lib.hid (show Venn.cStep (y.1 :: z.1 :: r) 13 = none by rw [HJS.out]; unfold Venn.thenV; rw [hK])
            rw [hK] at HN
            clear hK
            go_wp2_with fail
            refine (HN.out).mono ?_
            intro e w1 hpost
            obtain ⟨hb1, rfl⟩ := rnone_none hpost
            clear hpost
            have hbel := Below.next HBI.out hb1
            have HK := Lib.hid (show K = none by rw [HKF.out, HJS.out])
            go_wp2
            go_ret2
            exact ⟨hbel, .inl ⟨by rw [HJ.out, HK.out], rfl⟩⟩
          | some L0 =>
            have HK0 := Lib.hid (HOK2.out L0 hK)
            have HJS := Lib.hid (show Venn.cStep (y.1 :: z.1 :: r) 13 = (match Venn.orV L0 y.1 with | none => none | some x => some (x :: r)) by rw [HJS.out]; unfold Venn.thenV; rw [hK])
            rw [hK] at HN
            clear hK
            go_wp2_with fail
            refine (HN.out).mono ?_
            intro e w2 hpost
            obtain ⟨B0, e0, hb0', rfl, hl0⟩ := rnone_some hpost
            have HN2 := Lib.hid ((ref_Or g _ _ L0 y.1 w2 hl0 (HY.out.keep hb0') HK0.out.2 HYK.out.2).mono fun _ _ h => h.off (Nat.lt_of_lt_of_le hgl hb0'.size))
            clear hcellz hcelly
            have hcelly := HYR.out w2 hb0'
            clear hpost hl0
            cases hK : Venn.orV L0 y.1 with
            | none =>
              have HJS := Lib.hid (show Venn.cStep (y.1 :: z.1 :: r) 13 = none by rw [HJS.out, hK])
              rw [hK] at HN2
              clear hK
              go_wp2_with fail
              refine (HN2.out).mono ?_
              intro e w1 hpost
              obtain ⟨hb1, rfl⟩ := rnone_none hpost
              clear hpost
              have hbx := Below.next hb0' hb1
              have hbel := Below.next HBI.out hbx
              have HK := Lib.hid (show K = none by rw [HKF.out, HJS.out])
              go_wp2
              go_ret2
              exact ⟨hbel, .inl ⟨by rw [HJ.out, HK.out], rfl⟩⟩
            | some L1 =>
              have HJS := Lib.hid (show Venn.cStep (y.1 :: z.1 :: r) 13 = some (L1 :: r) by rw [HJS.out, hK])
              rw [hK] at HN2
              clear hK
              go_wp2_with fail
              refine (HN2.out).mono ?_
              intro e w1 hpost
              obtain ⟨B1, e1, hb1, rfl, hl1⟩ := rnone_some hpost
              have HL1 := Lib.hid hl1
              have hbx := Below.next hb0' hb1
              clear hpost hl1 hcelly
              have HO1 := Lib.hid (HOR.out.keep hbx)
              have hbel1 := Below.next HBI.out hbx
              have hbel01 := Below.next hbw hbx
              have hb2 : Below w1.heap.size w1 (w1.alloc (.cells #[.slice B1 L1.length e1] 26)) := by (repeat' (first | (with_reducible exact Below.refl _ _) | (with_reducible assumption) | (with_reducible refine Below.next ?_ (by with_reducible assumption)) | (with_reducible refine Below.drew ?_) | (with_reducible refine Below.laid ?_ _) | (with_reducible refine Below.setCell ?_ ?_ _) | (with_reducible refine size_of ?_) | (with_reducible refine Nat.le_succ_of_le ?_) | go_size))
              have hsz2 : w.heap.size + 1 ≤ (w1.alloc (.cells #[.slice B1 L1.length e1] 26)).heap.size := Nat.le_trans HSZ.out (Nat.le_trans (hbx).size hb2.size)
              have hcell2 := (Blk.new w1 26 #[.slice B1 L1.length e1]).cell 0
              go_upto_region 27 with (fail)
              go_wp2_with (at_builtin; refine wpList_appRR _ rfl _ _ rfl (w.heap.size + 1) _ R rfl (HO1.out.keep hb2) w1.heap.size 1 (L1, .slice B1 L1.length e1) rfl hcell2 (HL1.out.keep hb2).lists (fun B e => by injection e with e; subst e; exact HL1.out.keep hb2) (by have := HM.out; omega) hsz2 ?_)
              intro v' w3 hown3 hg3
              have hbel := (hbel1.trans (hb2.mono hbel1.size)).grown hg3 (Nat.le_trans hbel1.size hb2.size) (fun b e => by simp [Value.ownBlock] at e; omega)
              have hbel0 := (hbel01.trans (hb2.mono hbel01.size)).grown hg3 (Nat.le_trans hbel01.size hb2.size) (fun b e => by simp [Value.ownBlock] at e; have := HS0.out; omega)
              have hs3 := Nat.le_trans hsz2 hg3.size
              clear hg3 hcell2 hb2 hsz2 hbel1 hbel01 b1
              go_wp2
              go_roundw
              case rel =>
                refine ⟨k + 1, L1 :: r, by omega, by go_num, ⟨?_, ⟨_, hown3, ?_⟩, hbel, hs3, HCK.out _ HJS.out, ?_, ?_⟩, hbel0⟩
                · have := HLE.out; simp at *; omega
                · rw [rVals_app, List.reverse_cons, ← HRR.out, List.reverse_reverse]; rfl
                · rw [HLN.out _ HJS.out]; exact HSH.out
                · rw [HKF.out, HJS.out]
              case measure => simp [intOf]; omega
    · have hk' : k = c.length := by omega
      have hs := HI.out.shape
      have hf := HI.out.fold
      rw [hk', List.drop_eq_nil_of_le (Nat.le_refl _)] at hs hf
      simp only [Venn.fShape, decide_eq_true_eq] at hs
      have hs1 : st.length = 1 := by omega
      obtain ⟨l, rfl⟩ : ∃ l, st = [l] := by
        match st, hs1 with
        | [l], _ => exact ⟨l, rfl⟩
      obtain ⟨z, rfl⟩ : ∃ z, P = [z] := by
        have hp1 : P.length = 1 := HPL.out
        match P, hp1 with
        | [z], _ => exact ⟨z, rfl⟩
      have hz : z.1 = l := by
        have := HST.out
        simp [rVals] at this
        exact this
      have HJ := Lib.hid (show J = some z.1 by rw [HJ.out, hf, hz]; rfl)
      obtain ⟨g, cap, e1, _, _, _, _⟩ := HO.out.form (by simp)
      injection e1 with e1 e2 e3
      subst e1 e3
      have hc0 := HO.out.cell (k := 0) (x := z) rfl
      have HZ := Lib.hid (HO.out.is z (by simp))
      have HB := Lib.hid HI.out.below
      obtain ⟨zl, zv⟩ := z
      simp only at hc0 HZ HJ
      clear hs hf hs1 hz e2
      go_wp2
      go_ret2
      exact ⟨HB.out, .inr ⟨_, _, HJ.out, rfl, HZ.out⟩⟩
end Go.Proofs.YtlpfbdejiifbpaaGreatDoor
