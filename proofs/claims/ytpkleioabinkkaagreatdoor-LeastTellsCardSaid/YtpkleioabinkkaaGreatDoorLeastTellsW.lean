/-
  THE WALK of vennlaw2.LeastTells.
-/
import Derived.Test.YtpkleioabinkkaaGreatDoorLow
import Derived.Test.YtpkleioabinkkaaGreatDoorRefModel
import Derived.Test.YtpkleioabinkkaaGreatDoorRefNegate
import Derived.Deep.DeepCutAuto
import Derived.Deep.CutBlock
namespace Venn
theorem idxB_neg : ∀ (L : List Bool) (k : Int), 0 ≤ k → (idxB L k = -1 ∨ 0 ≤ idxB L k)
  | [], _, _ => .inl rfl
  | x :: r, k, h => by
    rw [idxB]
    by_cases hx : x = true
    · rw [if_pos hx]; exact .inr h
    · rw [if_neg hx]; exact idxB_neg r (k + 1) (by omega)
theorem idxB_app : ∀ (L : List Bool) (x : Bool) (k : Int), 0 ≤ k → idxB (L ++ [x]) k = if idxB L k < 0 then (if x = true then k + (L.length : Int) else -1) else idxB L k
  | [], x, k, _ => by
    show (if x = true then k else -1) = if (-1 : Int) < 0 then (if x = true then k + ((0 : Nat) : Int) else -1) else -1
    rw [if_pos (show (-1 : Int) < 0 by decide), show k + ((0 : Nat) : Int) = k by omega]
  | y :: r, x, k, h => by
    rw [List.cons_append, idxB, idxB]
    by_cases hy : y = true
    · rw [if_pos hy, if_pos hy, if_neg (by omega)]
    · rw [if_neg hy, if_neg hy, idxB_app r x (k + 1) (by omega), List.length_cons]
      rw [show k + 1 + (r.length : Int) = k + ((r.length + 1 : Nat) : Int) by omega]
theorem low_take {f : Form} (hc : cubesErr f = 0) {k : Nat} (h : k < 7) : idxB ((lowL f).take (k + 1)) 0 = if idxB ((lowL f).take k) 0 < 0 then (if modelErr f (k : Int) = 0 then (k : Int) else -1) else idxB ((lowL f).take k) 0 := by
  rw [lowL_step f hc h, idxB_app _ _ _ (by omega)]
  have e : ((lowL f).take k).length = k := by rw [List.length_take, lowL_len f hc]; omega
  rw [e]
  simp only [decide_eq_true_eq, Int.zero_add]
/-- A round of the reference's loop over the opposite. -/
theorem firm_ref {f : Form} (hn : negChk f = 0) {k : Nat} (h : k < 7) : (firmE f = 0 ∧ (modelErr (negF f) (k : Int) = 0 ∨ modelErr (negF f) (k : Int) = 5)) ∨ (firmE f = 4 ∧ modelErr (negF f) (k : Int) = 4) := by
  have he : firmE f = cubesErr (negF f) := by unfold firmE; rw [if_pos hn]
  rw [he]
  by_cases hc : cubesErr (negF f) = 0
  · exact .inl ⟨hc, modelErr_lt h hc⟩
  · have hf : formChk f = 0 := by
      have hn' := hn
      unfold negChk at hn'
      by_cases hf : formChk f = 0
      · exact hf
      · rw [if_neg hf] at hn'; exact hn'
    have hl : f.code.length < 20 := by
      have hn' := hn
      unfold negChk at hn'
      rw [if_pos hf] at hn'
      obtain ⟨_, _, _, h4, _⟩ := formChk_parts hf
      by_cases h20 : f.code.length = 20
      · rw [if_pos h20] at hn'; cases hn'
      · omega
    rcases cubesErr_four (negF_chk hf hl) with h4 | h4
    · exact absurd h4 hc
    · exact .inr ⟨h4, by rw [modelErr_bad hc, h4]⟩
theorem firm_neg {f : Form} (hn : negChk f ≠ 0) : firmE f = negChk f ∧ firmV f = false := by
  have he : firmE f = negChk f := by unfold firmE; rw [if_neg hn]
  refine ⟨he, ?_⟩
  unfold firmV
  rw [he, decide_eq_false hn, Bool.false_and]
end Venn
namespace Go.Proofs.YtpkleioabinkkaaGreatDoor
open Go.RowKit

set_option maxHeartbeats 2000000 in
theorem same_Bools (u v : Value) (s : List Bool) (w : World) (hs : IsBools w u s) (ht : IsBools w v s) : Calls Tryz.prog 23 #[u, v] w (Keeps (.bool true) w) := by
  obtain ⟨A, c, rfl, hrs, hlc, hc⟩ := hs
  obtain ⟨B, d, rfl, hrt, hld, hd⟩ := ht
  unfold maxLen at hc hd
  go_enter Tryz.func23, Tryz.ntmps23
  go_wp2
  go_loopw [5] (fun i wr => ∃ k : Nat, k ≤ s.length ∧ i = .int .i64 k ∧ Below w.heap.size w wr) (fun i _ => s.length - (intOf i).toNat)
  case atStart => exact ⟨0, Nat.zero_le _, rfl, Below.refl _ _⟩
  case round =>
    obtain ⟨k, hk, rfl, hb⟩ := hrel
    by_cases hlt : k < s.length
    · obtain ⟨ad, rfl, hca0⟩ := hrs.boo hlt
      obtain ⟨bd, rfl, hcb0⟩ := hrt.boo hlt
      have hca := cell_keep hb hca0
      have hcb := cell_keep hb hcb0
      generalize s[k] = x at hca0 hca hcb0 hcb
      clear hca0 hcb0 hrs hrt
      have b1 : (0 : Int) ≤ (k : Int) := by omega
      have b2 : (k : Int) < (s.length : Int) := by omega
      have hxx : (x != x) = false := by cases x <;> rfl
      go_wp2_with fail
      go_quiet (fail)
      go_wp2
      go_roundw
      case rel => exact ⟨k + 1, by omega, by go_num, below_drewN hb _⟩
      case measure => simp [intOf]; omega
    · go_wp2
      go_ret
      exact ⟨rfl, hb⟩
theorem nil_block {w : World} {g : Nat} {t : TypeId} {a : Addr} {k : IntKind} {x : Int} (hB : Blk w g t #[.slice none 0 0, .slice none 0 0]) (h : w.cell? a = some (.int k x)) : g ≠ a.block := by
  intro e
  unfold World.cell? at h
  rw [← e, show w.heap[g]? = some (.cells #[.slice none 0 0, .slice none 0 0] t (0, 0)) from hB] at h
  simp only at h
  split at h
  · cases h
  · rcases ho : a.off with _ | _ | n
    · rw [ho] at h; simp at h
    · rw [ho] at h; simp at h
    · rw [ho] at h; simp at h
theorem two_far {w : World} {g : Nat} {a : Addr} {u : Value} (h : w.cell? a = some u) (hn : g ≠ a.block) (x y : Value) : ((w.setCell ⟨g, 0, none⟩ x).setCell ⟨g, 1, none⟩ y).cell? a = some u := by
  rw [World.cell?_setCell_far _ ⟨g, 1, none⟩ a _ hn, World.cell?_setCell_far _ ⟨g, 0, none⟩ a _ hn]
  exact h
theorem IsInts.nset {w : World} {g : Nat} {t : TypeId} {v : Value} {l : List Int} (h : IsInts w v l) (hB : Blk w g t #[.slice none 0 0, .slice none 0 0]) (x y : Value) : IsInts ((w.setCell ⟨g, 0, none⟩ x).setCell ⟨g, 1, none⟩ y) v l := by
  obtain ⟨A, c, hv, hr, hc⟩ := h
  refine ⟨A, c, hv, fun j u hj => ?_, hc⟩
  obtain ⟨ad, e, h⟩ := hr j u hj
  obtain ⟨z, rfl⟩ : ∃ z, u = .int .i64 z := by
    rw [List.getElem?_map] at hj
    obtain ⟨z, _, rfl⟩ := Option.map_eq_some_iff.1 hj
    exact ⟨z, rfl⟩
  exact ⟨ad, e, two_far h (nil_block hB h) x y⟩
theorem IsAtoms.nset {w : World} {g : Nat} {t : TypeId} {v : Value} {l : List Venn.Atom} (h : IsAtoms w v l) (hB : Blk w g t #[.slice none 0 0, .slice none 0 0]) (x y : Value) : IsAtoms ((w.setCell ⟨g, 0, none⟩ x).setCell ⟨g, 1, none⟩ y) v l := by
  obtain ⟨A, c, hv, hr, hc⟩ := h
  refine ⟨A, c, hv, fun k a ha => ?_, hc⟩
  obtain ⟨ad, sv, tv, e, h0, h1, h2, h3, hs, ht⟩ := hr k a ha
  have hn : g ≠ (ad.add (k * 4)).block := nil_block hB h0
  exact ⟨ad, sv, tv, e, two_far h0 hn x y, two_far h1 hn x y, two_far h2 hn x y, two_far h3 hn x y, hs.nset hB x y, ht.nset hB x y⟩
/-- The law's box lies. -/
structure LtAt (w wx : World) (sa sc : Value) : Prop where
  below : Below w.heap.size w wx
  form : Blk wx w.heap.size 25 #[sa, sc]
theorem LtAt.keep {w wx wy : World} {sa sc : Value} (h : LtAt w wx sa sc) (hb : Below wx.heap.size wx wy) : LtAt w wy sa sc := ⟨Below.next h.below hb, h.form.keep hb⟩
set_option maxHeartbeats 8000000 in
set_option maxRecDepth 100000 in
theorem leastTells_walk (sa sc : Value) (l : List Venn.Atom) (c : List Int) (w : World) (ha : IsAtoms w sa l) (hc : IsInts w sc c) (hk : KindsOk w) (het : EtOk w) :
    Calls Tryz.prog 6 #[.agg #[sa, sc]] w (Keeps (.bool true) w) := by
  have HA := Lib.hid ha
  have HC := Lib.hid hc
  have HK := Lib.hid hk
  have HET := Lib.hid het
  obtain ⟨A, cA, rfl, _⟩ := ha
  obtain ⟨C, cC, rfl, _⟩ := hc
  have HRF := Lib.hid (fun W (hW : Below w.heap.size w W) => ref_Form _ _ l c W (HA.out.keep hW) (HC.out.keep hW))
  have HRM := Lib.hid (fun W (hW : Below w.heap.size w W) (u : Int) => ref_Model _ _ l c u W (HA.out.keep hW) (HC.out.keep hW))
  have HRN := Lib.hid (fun W (hW : Below w.heap.size w W) => ref_Negate _ _ l c W (HA.out.keep hW) (HC.out.keep hW))
  have HOF := Lib.hid (fun W (hW : Below w.heap.size w W) => least_Of _ _ l c W (HA.out.keep hW) (HC.out.keep hW) (HK.out.keep hW) (HET.out.keep hW))
  have HLI := Lib.hid (fun W (hW : Below w.heap.size w W) => least_List _ _ l c W (HA.out.keep hW) (HC.out.keep hW) (HK.out.keep hW) (HET.out.keep hW))
  have HFI := Lib.hid (fun W (hW : Below w.heap.size w W) => least_Firm _ _ l c W (HA.out.keep hW) (HC.out.keep hW) (HK.out.keep hW) (HET.out.keep hW))
  have HER := Lib.hid (fun (e : Int) W (hW : Below w.heap.size w W) => show Calls Tryz.prog 13 #[errV e, .int .i64 e] W (Keeps (.bool true) W) by
    have h := vennsame_Error e e W (HET.out.keep hW)
    rwa [beq_self_eq_true] at h)
  -- the plain facts
  have HLB := Lib.hid (fun k (h : k < 7) => Venn.modelErr_lt (f := ⟨l, c⟩) (k := k) h)
  have HBA := Lib.hid (fun u => Venn.modelErr_bad (f := ⟨l, c⟩) (u := u))
  have H4 := Lib.hid (Venn.cubesErr_four (f := ⟨l, c⟩))
  have HCF := Lib.hid (Venn.cubesErr_chk (f := ⟨l, c⟩))
  have HLS := Lib.hid (fun k (h : k < 7) hc => Venn.lowL_step ⟨l, c⟩ hc (k := k) h)
  have HLT := Lib.hid (fun k (h : k < 7) hc => Venn.low_take (f := ⟨l, c⟩) hc (k := k) h)
  have HLL := Lib.hid (Venn.lowL_len ⟨l, c⟩)
  have HLN := Lib.hid (Venn.lowL_bad (f := ⟨l, c⟩))
  have HE := Lib.hid (show Venn.lowE ⟨l, c⟩ = if Venn.cubesErr ⟨l, c⟩ = 0 then (if Venn.idxB (Venn.lowL ⟨l, c⟩) 0 < 0 then 5 else 0) else Venn.cubesErr ⟨l, c⟩ from rfl)
  have HV := Lib.hid (show Venn.lowV ⟨l, c⟩ = if Venn.cubesErr ⟨l, c⟩ = 0 then (if Venn.idxB (Venn.lowL ⟨l, c⟩) 0 < 0 then 0 else Venn.idxB (Venn.lowL ⟨l, c⟩) 0) else 0 from rfl)
  have HFR := Lib.hid (fun (hn : Venn.negChk ⟨l, c⟩ = 0) (k : Nat) (h : k < 7) => Venn.firm_ref (f := ⟨l, c⟩) hn h)
  have HFN := Lib.hid (Venn.firm_neg (f := ⟨l, c⟩))
  have HST := Lib.hid (fun k (h : k < 7) => Venn.firm_stop (f := ⟨l, c⟩) (k := k) h)
  have HEN := Lib.hid (Venn.firm_end (f := ⟨l, c⟩))
  have HNC := Lib.hid (show Venn.negChk ⟨l, c⟩ = if Venn.formChk ⟨l, c⟩ = 0 then Venn.negChk ⟨l, c⟩ else Venn.formChk ⟨l, c⟩ by
    by_cases h : Venn.formChk ⟨l, c⟩ = 0
    · rw [if_pos h]
    · rw [if_neg h]; unfold Venn.negChk; rw [if_neg h])
  have HNV := Lib.hid (show Venn.negChk ⟨l, c⟩ = 0 → negV ⟨l, c⟩ = Venn.negF ⟨l, c⟩ from fun h => by rw [negV, if_pos h])
  generalize Venn.lowE ⟨l, c⟩ = LE at HOF HE
  generalize Venn.lowV ⟨l, c⟩ = LV at HOF HV
  generalize Venn.lowL ⟨l, c⟩ = LL at HLI HLS HLT HLL HLN HE HV
  generalize Venn.cubesErr ⟨l, c⟩ = CE at HLI HLB HBA H4 HCF HLS HLT HLL HLN HE HV
  generalize Venn.formChk ⟨l, c⟩ = FC at HRF H4 HCF HNC
  generalize Venn.firmE ⟨l, c⟩ = FE at HFI HFR HFN HST HEN
  generalize Venn.firmV ⟨l, c⟩ = FV at HFI HFN HST HEN
  generalize Venn.negChk ⟨l, c⟩ = NC at HRN HFR HFN HNC HNV
  generalize Venn.negF ⟨l, c⟩ = NF at HFR HST HEN HNV
  have HT0 := Lib.hid (show LtAt w (w.alloc (.cells #[.slice A l.length cA, .slice C c.length cC] 25)) (.slice A l.length cA) (.slice C c.length cC) from ⟨by (repeat' (first | (with_reducible exact Below.refl _ _) | (with_reducible assumption) | (with_reducible refine Below.next ?_ (by with_reducible assumption)) | (with_reducible refine Below.drew ?_) | (with_reducible refine Below.laid ?_ _) | (with_reducible refine Below.setCell ?_ ?_ _) | (with_reducible refine size_of ?_) | (with_reducible refine Nat.le_succ_of_le ?_) | go_size)), Blk.new w _ _⟩)
  clear hk het
  have b0 := HT0.out.form.cell 0
  have b1 := HT0.out.form.cell 1
  simp at b0 b1
  go_enter Tryz.func6, Tryz.ntmps6
  go_wp2_with fail
  refine (HRF.out _ HT0.out.below).mono ?_
  rintro e w1 ⟨rfl, hb1⟩
  have HT1 := Lib.hid (HT0.out.keep hb1)
  clear b0 b1 hb1 HT0
  go_upto_block 0 with fail
  go_cut [3, 4, 5] (fun e v f wx => e = .int .i64 CE ∧ IsBools wx v LL ∧ f = .int .i64 (Venn.idxB LL 0) ∧ LtAt w wx (.slice A l.length cA) (.slice C c.length cC))
  case first =>
    go_wp2_with fail
    go_loopw [3, 4, 5, 6] (fun e v f i wr => ∃ k : Nat, k ≤ 7 ∧ i = .int .i64 k ∧ Below w1.heap.size w1 wr ∧ ((e = .int .i64 0 ∧ (k ≠ 0 → CE = 0) ∧ FC = 0 ∧ wr.ownsRow w1.heap.size 4 1 v k ((LL.take k).map Value.bool) ∧ f = .int .i64 (Venn.idxB (LL.take k) 0)) ∨ (e = .int .i64 CE ∧ CE ≠ 0 ∧ v = .slice none 0 0 ∧ f = .int .i64 (-1)))) (fun _ _ _ i _ => 7 - (intOf i).toNat)
    case atStart =>
      by_cases h : FC = 0
      · exact ⟨0, Nat.zero_le _, rfl, Below.refl _ _, .inl ⟨by rw [h], fun h => absurd rfl h, h, World.ownsRow_nil _ _ _ _, rfl⟩⟩
      · have := HCF.out h
        exact ⟨0, Nat.zero_le _, rfl, Below.refl _ _, .inr ⟨by rw [this], by rw [this]; exact h, rfl, rfl⟩⟩
    case round =>
      obtain ⟨k, hk, rfl, hbw, hst⟩ := hrel
      obtain ⟨wo, rfl⟩ : ∃ wo : World, wo = wr := ⟨_, rfl⟩
      have HTo := Lib.hid (HT1.out.keep hbw)
      have HBW := Lib.hid hbw
      clear hbw
      have hki : IntKind.i64.wrap (k : Int) = (k : Int) := IntWalk.i64_in _ (by omega)
      have hki1 : IntKind.i64.wrap ((k : Int) + 1) = (k : Int) + 1 := IntWalk.i64_in _ (by omega)
      rcases hst with ⟨rfl, hk0, hfc, hown, rfl⟩ | ⟨rfl, hz, rfl, rfl⟩
      · have HK0 := Lib.hid hk0
        have HFC0 := Lib.hid hfc
        obtain ⟨V0, k0, rfl⟩ := ownsRow_slice hown
        have HO := Lib.hid hown
        clear hown hk0 hfc
        by_cases hlt : k < 7
        · have hk6 : (k : Int) ≤ 6 := by omega
          have b0 := HTo.out.form.cell 0
          have b1 := HTo.out.form.cell 1
          simp at b0 b1
          have HM := Lib.hid (HRM.out wo HTo.out.below (k : Int))
          by_cases hz : CE = 0
          · have HEE := Lib.hid (HLB.out k hlt hz)
            have HLX0 := Lib.hid (HLS.out k hlt hz)
            have HIX0 := Lib.hid (HLT.out k hlt hz)
            have HZ := Lib.hid hz
            clear hz
            generalize Venn.modelErr ⟨l, c⟩ (k : Int) = ME at HM HEE HLX0 HIX0
            generalize Venn.modelV ⟨l, c⟩ (k : Int) = MV at HM
            obtain ⟨mt, ma, mb, mc⟩ := MV
            have HFK := Lib.hid (Venn.idxB_neg (LL.take k) 0 (by omega))
            generalize Venn.idxB (LL.take k) 0 = FK at HIX0 HFK ⊢
            rcases HEE.out with h0 | h5
            · have HLX := Lib.hid (show LL.take (k + 1) = LL.take k ++ [true] by rw [HLX0.out, h0]; rfl)
              rw [h0] at HM
              by_cases hF : FK < 0
              · have HIX := Lib.hid (show Venn.idxB (LL.take (k + 1)) 0 = (k : Int) by rw [HIX0.out, if_pos hF, if_pos h0])
                clear h0
                go_wp2_with fail
                refine (HM.out).mono ?_
                rintro e w2 ⟨he, hb2⟩
                simp only [worldM] at he
                subst he
                clear b0 b1
                have hb3 : Below w2.heap.size w2 (w2.alloc (.cells #[.int .i64 mt, .int .i64 ma, .int .i64 mb, .int .i64 mc] 28)) := by (repeat' (first | (with_reducible exact Below.refl _ _) | (with_reducible assumption) | (with_reducible refine Below.next ?_ (by with_reducible assumption)) | (with_reducible refine Below.drew ?_) | (with_reducible refine Below.laid ?_ _) | (with_reducible refine Below.setCell ?_ ?_ _) | (with_reducible refine size_of ?_) | (with_reducible refine Nat.le_succ_of_le ?_) | go_size))
                have hb23 := Below.next hb2 hb3
                clear hb2 hb3
                have hb4 : Below wo.heap.size wo ((w2.alloc (.cells #[.int .i64 mt, .int .i64 ma, .int .i64 mb, .int .i64 mc] 28)).alloc (.cells #[.bool true] 4)) := Below.next hb23 (by (repeat' (first | (with_reducible exact Below.refl _ _) | (with_reducible assumption) | (with_reducible refine Below.next ?_ (by with_reducible assumption)) | (with_reducible refine Below.drew ?_) | (with_reducible refine Below.laid ?_ _) | (with_reducible refine Below.setCell ?_ ?_ _) | (with_reducible refine size_of ?_) | (with_reducible refine Nat.le_succ_of_le ?_) | go_size)))
                have HO2 := Lib.hid (own_below HO.out hb4)
                have hbase : w1.heap.size ≤ ((w2.alloc (.cells #[.int .i64 mt, .int .i64 ma, .int .i64 mb, .int .i64 mc] 28)).alloc (.cells #[.bool true] 4)).heap.size := by have h1 := HBW.out.size; have h2 := hb4.size; omega
                go_wp2_with (at_builtin; refine wpList_app1b _ rfl _ _ rfl w1.heap.size _ k _ rfl HO2.out (w2.heap.size + 1) 1 true (by simp [go_sem]) (by simp) (by omega) hbase ?_)
                intro v' w3 hown3 hg3
                have hbel := (Below.next HBW.out hb4).grown hg3 (Nat.le_trans HBW.out.size hb4.size) (fun b e => (HO.out.lt b e).1)
                have HO3 := Lib.hid (show w3.ownsRow w1.heap.size 4 1 v' (k + 1) ((LL.take (k + 1)).map Value.bool) by rw [HLX.out, List.map_append, List.map_take]; exact hown3)
                clear hown3 hg3 hb4 hb23 hbase
                go_wp2
                go_roundw
                case rel => exact ⟨k + 1, by omega, by go_num, hbel, .inl ⟨rfl, fun _ => HZ.out, HFC0.out, HO3.out, by rw [HIX.out]⟩⟩
                case measure => simp [intOf]; omega
              · have HIX := Lib.hid (show Venn.idxB (LL.take (k + 1)) 0 = FK by rw [HIX0.out, if_neg hF])
                clear h0
                go_wp2_with fail
                refine (HM.out).mono ?_
                rintro e w2 ⟨he, hb2⟩
                simp only [worldM] at he
                subst he
                clear b0 b1
                have hb3 : Below w2.heap.size w2 (w2.alloc (.cells #[.int .i64 mt, .int .i64 ma, .int .i64 mb, .int .i64 mc] 28)) := by (repeat' (first | (with_reducible exact Below.refl _ _) | (with_reducible assumption) | (with_reducible refine Below.next ?_ (by with_reducible assumption)) | (with_reducible refine Below.drew ?_) | (with_reducible refine Below.laid ?_ _) | (with_reducible refine Below.setCell ?_ ?_ _) | (with_reducible refine size_of ?_) | (with_reducible refine Nat.le_succ_of_le ?_) | go_size))
                have hb23 := Below.next hb2 hb3
                clear hb2 hb3
                have hb4 : Below wo.heap.size wo ((w2.alloc (.cells #[.int .i64 mt, .int .i64 ma, .int .i64 mb, .int .i64 mc] 28)).alloc (.cells #[.bool true] 4)) := Below.next hb23 (by (repeat' (first | (with_reducible exact Below.refl _ _) | (with_reducible assumption) | (with_reducible refine Below.next ?_ (by with_reducible assumption)) | (with_reducible refine Below.drew ?_) | (with_reducible refine Below.laid ?_ _) | (with_reducible refine Below.setCell ?_ ?_ _) | (with_reducible refine size_of ?_) | (with_reducible refine Nat.le_succ_of_le ?_) | go_size)))
                have HO2 := Lib.hid (own_below HO.out hb4)
                have hbase : w1.heap.size ≤ ((w2.alloc (.cells #[.int .i64 mt, .int .i64 ma, .int .i64 mb, .int .i64 mc] 28)).alloc (.cells #[.bool true] 4)).heap.size := by have h1 := HBW.out.size; have h2 := hb4.size; omega
                go_wp2_with (at_builtin; refine wpList_app1b _ rfl _ _ rfl w1.heap.size _ k _ rfl HO2.out (w2.heap.size + 1) 1 true (by simp [go_sem]) (by simp) (by omega) hbase ?_)
                intro v' w3 hown3 hg3
                have hbel := (Below.next HBW.out hb4).grown hg3 (Nat.le_trans HBW.out.size hb4.size) (fun b e => (HO.out.lt b e).1)
                have HO3 := Lib.hid (show w3.ownsRow w1.heap.size 4 1 v' (k + 1) ((LL.take (k + 1)).map Value.bool) by rw [HLX.out, List.map_append, List.map_take]; exact hown3)
                clear hown3 hg3 hb4 hb23 hbase
                go_wp2
                go_roundw
                case rel => exact ⟨k + 1, by omega, by go_num, hbel, .inl ⟨rfl, fun _ => HZ.out, HFC0.out, HO3.out, by rw [HIX.out]⟩⟩
                case measure => simp [intOf]; omega
            · have HLX := Lib.hid (show LL.take (k + 1) = LL.take k ++ [false] by rw [HLX0.out, h5]; rfl)
              rw [h5] at HM
              have HIX := Lib.hid (show Venn.idxB (LL.take (k + 1)) 0 = FK by
                rw [HIX0.out]
                by_cases hF : FK < 0
                · rw [if_pos hF, if_neg (by omega)]; rcases HFK.out with h | h <;> omega
                · rw [if_neg hF])
              clear h5
              go_wp2_with fail
              refine (HM.out).mono ?_
              rintro e w2 ⟨he, hb2⟩
              simp only [worldM] at he
              subst he
              clear b0 b1
              have hb3 : Below w2.heap.size w2 (w2.alloc (.cells #[.int .i64 mt, .int .i64 ma, .int .i64 mb, .int .i64 mc] 28)) := by (repeat' (first | (with_reducible exact Below.refl _ _) | (with_reducible assumption) | (with_reducible refine Below.next ?_ (by with_reducible assumption)) | (with_reducible refine Below.drew ?_) | (with_reducible refine Below.laid ?_ _) | (with_reducible refine Below.setCell ?_ ?_ _) | (with_reducible refine size_of ?_) | (with_reducible refine Nat.le_succ_of_le ?_) | go_size))
              have hb23 := Below.next hb2 hb3
              clear hb2 hb3
              have hb4 : Below wo.heap.size wo ((w2.alloc (.cells #[.int .i64 mt, .int .i64 ma, .int .i64 mb, .int .i64 mc] 28)).alloc (.cells #[.bool false] 4)) := Below.next hb23 (by (repeat' (first | (with_reducible exact Below.refl _ _) | (with_reducible assumption) | (with_reducible refine Below.next ?_ (by with_reducible assumption)) | (with_reducible refine Below.drew ?_) | (with_reducible refine Below.laid ?_ _) | (with_reducible refine Below.setCell ?_ ?_ _) | (with_reducible refine size_of ?_) | (with_reducible refine Nat.le_succ_of_le ?_) | go_size)))
              have HO2 := Lib.hid (own_below HO.out hb4)
              have hbase : w1.heap.size ≤ ((w2.alloc (.cells #[.int .i64 mt, .int .i64 ma, .int .i64 mb, .int .i64 mc] 28)).alloc (.cells #[.bool false] 4)).heap.size := by have h1 := HBW.out.size; have h2 := hb4.size; omega
              go_wp2_with (at_builtin; refine wpList_app1b _ rfl _ _ rfl w1.heap.size _ k _ rfl HO2.out (w2.heap.size + 1) 1 false (by simp [go_sem]) (by simp) (by omega) hbase ?_)
              intro v' w3 hown3 hg3
              have hbel := (Below.next HBW.out hb4).grown hg3 (Nat.le_trans HBW.out.size hb4.size) (fun b e => (HO.out.lt b e).1)
              have HO3 := Lib.hid (show w3.ownsRow w1.heap.size 4 1 v' (k + 1) ((LL.take (k + 1)).map Value.bool) by rw [HLX.out, List.map_append, List.map_take]; exact hown3)
              clear hown3 hg3 hb4 hb23 hbase
              go_wp2
              go_roundw
              case rel => exact ⟨k + 1, by omega, by go_num, hbel, .inl ⟨rfl, fun _ => HZ.out, HFC0.out, HO3.out, by rw [HIX.out]⟩⟩
              case measure => simp [intOf]; omega
          · have h4 : CE = 4 := by
              rcases H4.out HFC0.out with h | h
              · exact absurd h hz
              · exact h
            rw [HBA.out _ hz, h4] at HM
            have HZ4 := Lib.hid h4
            clear h4 hz
            generalize Venn.modelV ⟨l, c⟩ (k : Int) = MV at HM
            obtain ⟨mt, ma, mb, mc⟩ := MV
            have hk00 : k = 0 := by
              by_cases h : k = 0
              · exact h
              · have h1 := HK0.out h
                have h2 := HZ4.out
                omega
            rw [show Venn.idxB (LL.take k) 0 = -1 by rw [hk00]; rfl]
            clear hk00
            go_wp2_with fail
            refine (HM.out).mono ?_
            rintro e w2 ⟨he, hb2⟩
            simp only [worldM] at he
            subst he
            clear b0 b1
            have hb3 : Below w2.heap.size w2 (w2.alloc (.cells #[.int .i64 mt, .int .i64 ma, .int .i64 mb, .int .i64 mc] 28)) := by (repeat' (first | (with_reducible exact Below.refl _ _) | (with_reducible assumption) | (with_reducible refine Below.next ?_ (by with_reducible assumption)) | (with_reducible refine Below.drew ?_) | (with_reducible refine Below.laid ?_ _) | (with_reducible refine Below.setCell ?_ ?_ _) | (with_reducible refine size_of ?_) | (with_reducible refine Nat.le_succ_of_le ?_) | go_size))
            have hb23 := Below.next HBW.out (Below.next hb2 hb3)
            clear hb2 hb3
            go_wp2
            go_roundw
            case rel => exact ⟨k + 1, by omega, by go_num, hb23, .inr ⟨by rw [HZ4.out], by rw [HZ4.out]; decide, rfl, rfl⟩⟩
            case measure => simp [intOf]; omega
        · have hk6 : ¬ (k : Int) ≤ 6 := by omega
          have h7 : k = 7 := by omega
          have hz : CE = 0 := HK0.out (by omega)
          have hT : LL.take k = LL := by rw [h7]; exact List.take_of_length_le (by rw [HLL.out hz]; exact Nat.le_refl _)
          have HI := Lib.hid (show IsBools wo (.slice V0 k k0) LL by
            have := HO.out
            rw [hT] at this
            exact IsBools.of_own this)
          have HT := Lib.hid hT
          have HZ := Lib.hid hz
          clear hz hT h7
          go_wp2
          go_meet
          case rel => exact ⟨by rw [HZ.out], HI.out, by rw [HT.out], HTo.out⟩
      · have hn1 : (CE == 0) = false := beq_eq_false_iff_ne.2 hz
        have HN := Lib.hid (HLN.out hz)
        clear hz
        by_cases hk6 : (k : Int) ≤ 6
        · go_wp2
          go_meet
          case rel => exact ⟨rfl, by rw [HN.out]; exact IsBools.nil _, by rw [HN.out]; rfl, HTo.out⟩
        · go_wp2
          go_meet
          case rel => exact ⟨rfl, by rw [HN.out]; exact IsBools.nil _, by rw [HN.out]; rfl, HTo.out⟩
  case rest =>
  obtain ⟨rfl, hbl, rfl, htl⟩ := hcut
  obtain ⟨w2, rfl⟩ : ∃ w2 : World, w2 = wc := ⟨_, rfl⟩
  have HBL := Lib.hid hbl
  have HT2 := Lib.hid htl
  clear hbl htl HT1 HRM HLB HBA H4 HCF HLS HLT HLL HLN
  have b0 := HT2.out.form.cell 0
  have b1 := HT2.out.form.cell 1
  simp at b0 b1
  go_wp2_with fail
  refine (HLI.out _ HT2.out.below).mono ?_
  rintro e w3 ⟨X, rfl, hb3, hx⟩
  have HT3 := Lib.hid (HT2.out.keep hb3)
  have HBX := Lib.hid hx
  have HBL3 := Lib.hid (HBL.out.keep hb3)
  clear b0 b1 hx hb3 HT2 HBL
  go_wp2_with fail
  refine (HER.out CE _ HT3.out.below).mono ?_
  rintro e w4 ⟨rfl, hb4⟩
  have HT4 := Lib.hid (HT3.out.keep hb4)
  have HSB := Lib.hid (fun u v (h1 : IsBools w4 u LL) (h2 : IsBools w4 v LL) => same_Bools u v LL w4 h1 h2)
  have HBX4 := Lib.hid (HBX.out.keep hb4)
  have HBL4 := Lib.hid (HBL3.out.keep hb4)
  clear hb4 HT3 HBX HBL3
  go_wp2_with fail
  refine (HSB.out _ _ HBX4.out HBL4.out).mono ?_
  rintro e w5 ⟨rfl, hb5⟩
  have HT5 := Lib.hid (HT4.out.keep hb5)
  clear hb5 HT4 HSB HBX4 HBL4 HLI
  have HEA := Lib.hid (show (CE = 0 ∧ Venn.idxB LL 0 < 0 → LE = 5 ∧ LV = 0) ∧ (CE = 0 ∧ ¬ Venn.idxB LL 0 < 0 → LE = 0 ∧ LV = Venn.idxB LL 0) ∧ (¬ CE = 0 → LE = CE ∧ LV = 0) from
    ⟨fun h => ⟨by rw [HE.out, if_pos h.1, if_pos h.2], by rw [HV.out, if_pos h.1, if_pos h.2]⟩, fun h => ⟨by rw [HE.out, if_pos h.1, if_neg h.2], by rw [HV.out, if_pos h.1, if_neg h.2]⟩, fun h => ⟨by rw [HE.out, if_neg h], by rw [HV.out, if_neg h]⟩⟩)
  generalize Venn.idxB LL 0 = IX at HEA ⊢
  clear HE HV
  obtain ⟨B, hB⟩ : ∃ B : Bool, B = (decide (CE = 0) && decide (IX < 0)) := ⟨_, rfl⟩
  have HBB := Lib.hid hB
  clear hB
  go_upto_region 16 with (fail)
  go_cut [74] (fun s wx => s = .bool B ∧ LtAt w wx (.slice A l.length cA) (.slice C c.length cC))
  case first =>
    by_cases hz : CE = 0
    · have hz1 : (CE == 0) = true := by rw [hz]; rfl
      have HZ := Lib.hid (decide_eq_true hz)
      clear hz
      by_cases hi : IX < 0
      · go_wp2
        go_meet
        case rel => exact ⟨by rw [HBB.out, HZ.out, decide_eq_true hi]; rfl, HT5.out⟩
      · go_wp2
        go_meet
        case rel => exact ⟨by rw [HBB.out, HZ.out, decide_eq_false (show ¬ IX < 0 by omega)]; rfl, HT5.out⟩
    · have hz1 : (CE == 0) = false := beq_eq_false_iff_ne.2 hz
      have HZ := Lib.hid (decide_eq_false hz)
      clear hz
      go_wp2
      go_meet
      case rel => exact ⟨by rw [HBB.out, HZ.out]; rfl, HT5.out⟩
  case rest =>
  obtain ⟨rfl, htl⟩ := hcut
  obtain ⟨w5, rfl⟩ : ∃ w5 : World, w5 = wc := ⟨_, rfl⟩
  have HT5 := Lib.hid htl
  clear htl
  go_upto_if 74 with (fail)
  go_cut [3] (fun e wx => e = .int .i64 LE ∧ LtAt w wx (.slice A l.length cA) (.slice C c.length cC))
  case first =>
    cases B
    · have HL := Lib.hid (show CE = LE by
        by_cases hz : CE = 0
        · by_cases hi : IX < 0
          · have := HBB.out
            rw [decide_eq_true hz, decide_eq_true hi] at this
            cases this
          · rw [(HEA.out.2.1 ⟨hz, by omega⟩).1, hz]
        · rw [(HEA.out.2.2 hz).1])
      go_wp2
      go_meet
      case rel => exact ⟨by rw [HL.out], HT5.out⟩
    · have HL := Lib.hid (show LE = 5 by
        by_cases hz : CE = 0
        · by_cases hi : IX < 0
          · exact (HEA.out.1 ⟨hz, hi⟩).1
          · have := HBB.out
            rw [decide_eq_true hz, decide_eq_false hi] at this
            cases this
        · have := HBB.out
          rw [decide_eq_false hz] at this
          cases this)
      go_wp2
      go_meet
      case rel => exact ⟨by rw [HL.out], HT5.out⟩
  case rest =>
  obtain ⟨rfl, htl⟩ := hcut
  obtain ⟨w6, rfl⟩ : ∃ w6 : World, w6 = wc := ⟨_, rfl⟩
  have HT6 := Lib.hid htl
  clear htl HT5 HBB
  have HEB := Lib.hid (show (LE = 0 → LV = IX) ∧ (LE ≠ 0 → LV = 0) by
    by_cases hz : CE = 0
    · by_cases hi : IX < 0
      · obtain ⟨h1, h2⟩ := HEA.out.1 ⟨hz, hi⟩
        exact ⟨fun h => by omega, fun _ => h2⟩
      · obtain ⟨h1, h2⟩ := HEA.out.2.1 ⟨hz, by omega⟩
        exact ⟨fun _ => h2, fun h => absurd h1 h⟩
    · obtain ⟨h1, h2⟩ := HEA.out.2.2 hz
      exact ⟨fun h => by omega, fun _ => h2⟩)
  clear HEA
  go_upto_if 76 with (fail)
  go_cut [5] (fun f wx => f = .int .i64 LV ∧ LtAt w wx (.slice A l.length cA) (.slice C c.length cC))
  case first =>
    by_cases hz : LE = 0
    · have hz1 : (LE != 0) = false := by rw [hz]; rfl
      have HL := Lib.hid (HEB.out.1 hz)
      clear hz
      go_wp2
      go_meet
      case rel => exact ⟨by rw [HL.out], HT6.out⟩
    · have hz1 : (LE != 0) = true := bne_iff_ne.2 hz
      have HL := Lib.hid (HEB.out.2 hz)
      clear hz
      go_wp2
      go_meet
      case rel => exact ⟨by rw [HL.out], HT6.out⟩
  case rest =>
  obtain ⟨rfl, htl⟩ := hcut
  obtain ⟨w7, rfl⟩ : ∃ w7 : World, w7 = wc := ⟨_, rfl⟩
  have HT7 := Lib.hid htl
  clear htl HT6 HEB
  have b0 := HT7.out.form.cell 0
  have b1 := HT7.out.form.cell 1
  simp at b0 b1
  go_wp2_with fail
  refine (HOF.out _ HT7.out.below).mono ?_
  rintro e w8 ⟨rfl, hb8⟩
  have HT8 := Lib.hid (HT7.out.keep hb8)
  clear b0 b1 hb8 HT7 HOF
  go_wp2_with fail
  refine (HER.out LE _ HT8.out.below).mono ?_
  rintro e w9 ⟨rfl, hb9⟩
  have HT9 := Lib.hid (HT8.out.keep hb9)
  clear hb9 HT8
  have b0 := HT9.out.form.cell 0
  have b1 := HT9.out.form.cell 1
  simp at b0 b1
  go_wp2_with fail
  refine (HRF.out _ HT9.out.below).mono ?_
  rintro e w10 ⟨rfl, hb10⟩
  have HT10 := Lib.hid (HT9.out.keep hb10)
  clear b0 b1 hb10 HT9 HRF
  go_upto_if 93 with (fail)
  obtain ⟨G, hG⟩ : ∃ G, G = w10.heap.size := ⟨_, rfl⟩
  have HGB := Lib.hid (Blk.newAt hG.symm 25 #[.slice none 0 0, .slice none 0 0])
  have HGF := Lib.hid (show w.heap.size ≠ G by have := HT10.out.form.lt; omega)
  have HGL := Lib.hid (show w.heap.size ≤ G by have := HT10.out.form.lt; omega)
  have HT11 := Lib.hid (HT10.out.keep (show Below w10.heap.size w10 (w10.alloc (.cells #[.slice none 0 0, .slice none 0 0] 25)) by (repeat' (first | (with_reducible exact Below.refl _ _) | (with_reducible assumption) | (with_reducible refine Below.next ?_ (by with_reducible assumption)) | (with_reducible refine Below.drew ?_) | (with_reducible refine Below.laid ?_ _) | (with_reducible refine Below.setCell ?_ ?_ _) | (with_reducible refine size_of ?_) | (with_reducible refine Nat.le_succ_of_le ?_) | go_size))))
  rw [← hG]
  clear hG HT10
  revert HGB HT11
  generalize w10.alloc (.cells #[.slice none 0 0, .slice none 0 0] 25) = w11
  intro HGB HT11
  go_cut [3] (fun e wx => e = .int .i64 NC ∧ LtAt w wx (.slice A l.length cA) (.slice C c.length cC) ∧ ∃ x y, Blk wx G 25 #[x, y] ∧ (NC = 0 → IsAtoms wx x NF.atoms ∧ IsInts wx y NF.code))
  case first =>
    by_cases hf : FC = 0
    · have hz1 : (FC == 0) = true := by rw [hf]; rfl
      clear hf
      have b0 := HT11.out.form.cell 0
      have b1 := HT11.out.form.cell 1
      simp at b0 b1
      go_wp2_with fail
      refine (HRN.out _ HT11.out.below).mono ?_
      rintro e w12 ⟨NA, kNA, NO, kNO, rfl, hb12, hna, hno⟩
      have HT12 := HT11.out.keep hb12
      have HGC := HGB.out.keep hb12
      have GT : LtAt w ((w12.setCell ⟨G, 0, none⟩ (.slice NA (negV ⟨l, c⟩).atoms.length kNA)).setCell ⟨G, 1, none⟩ (.slice NO (negV ⟨l, c⟩).code.length kNO)) (.slice A l.length cA) (.slice C c.length cC) :=
        ⟨below_set2 HT12.below HGL.out _ _, (HT12.form.far (p := ⟨G, 0, none⟩) HGF.out _).far (p := ⟨G, 1, none⟩) HGF.out _⟩
      have GB := HGC.set2 (.slice NA (negV ⟨l, c⟩).atoms.length kNA) (.slice NO (negV ⟨l, c⟩).code.length kNO)
      have GA := hna.nset HGC (.slice NA (negV ⟨l, c⟩).atoms.length kNA) (.slice NO (negV ⟨l, c⟩).code.length kNO)
      have GO := hno.nset HGC (.slice NA (negV ⟨l, c⟩).atoms.length kNA) (.slice NO (negV ⟨l, c⟩).code.length kNO)
      have G4 := Lib.hid (And.intro GT (And.intro GB (And.intro GA GO)))
      obtain ⟨⟨g0, g1⟩, f0, f1⟩ := HGC.cells2
      clear GT GB GA GO hna hno b0 b1 HT12 HGC
      go_wp2
      go_meet
      case rel => exact ⟨rfl, G4.out.1, _, _, G4.out.2.1, fun h => by rw [← HNV.out h]; exact ⟨G4.out.2.2.1, G4.out.2.2.2⟩⟩
    · have hz1 : (FC == 0) = false := beq_eq_false_iff_ne.2 hf
      have HN := Lib.hid (show NC = FC by have := HNC.out; rwa [if_neg hf] at this)
      have HF0 := Lib.hid hf
      clear hf
      go_wp2
      go_meet
      case rel => exact ⟨by rw [HN.out], HT11.out, _, _, HGB.out, fun h => absurd (HN.out.symm.trans h) HF0.out⟩
  case rest =>
  obtain ⟨rfl, htl, x, y, hgb, hgn⟩ := hcut
  obtain ⟨w12, rfl⟩ : ∃ w12 : World, w12 = wc := ⟨_, rfl⟩
  have HT12 := Lib.hid htl
  have HGB12 := Lib.hid hgb
  have HGN := Lib.hid hgn
  clear htl hgb hgn HT11 HGB HRN HNV HNC HGF HGL
  go_upto_block 2 with fail
  go_cut [3, 15] (fun e f wx => e = .int .i64 FE ∧ f = .bool FV ∧ LtAt w wx (.slice A l.length cA) (.slice C c.length cC))
  case first =>
    go_wp2_with fail
    go_loopw [3, 15, 16] (fun e f i wr => ∃ k : Nat, k ≤ 7 ∧ i = .int .i64 k ∧ Below w12.heap.size w12 wr ∧ ((e = .int .i64 0 ∧ f = .bool true ∧ NC = 0 ∧ (k ≠ 0 → FE = 0) ∧ ∀ i, i < k → Venn.modelErr NF ((i : Nat) : Int) = 5) ∨ (e = .int .i64 FE ∧ f = .bool false ∧ FV = false))) (fun _ _ i _ => 7 - (intOf i).toNat)
    case atStart =>
      by_cases h : NC = 0
      · exact ⟨0, Nat.zero_le _, rfl, Below.refl _ _, .inl ⟨by rw [h], by rw [h]; rfl, h, fun h => absurd rfl h, fun i h => absurd h (Nat.not_lt_zero _)⟩⟩
      · exact ⟨0, Nat.zero_le _, rfl, Below.refl _ _, .inr ⟨by rw [(HFN.out h).1], by rw [beq_eq_false_iff_ne.2 h], (HFN.out h).2⟩⟩
    case round =>
      obtain ⟨k, hk, rfl, hbw, hst⟩ := hrel
      obtain ⟨wo, rfl⟩ : ∃ wo : World, wo = wr := ⟨_, rfl⟩
      have HTo := Lib.hid (HT12.out.keep hbw)
      have HBW := Lib.hid hbw
      have HGo := Lib.hid (HGB12.out.keep hbw)
      clear hbw
      have hki : IntKind.i64.wrap (k : Int) = (k : Int) := IntWalk.i64_in _ (by omega)
      have hki1 : IntKind.i64.wrap ((k : Int) + 1) = (k : Int) + 1 := IntWalk.i64_in _ (by omega)
      rcases hst with ⟨rfl, rfl, hnc, hk0, hall⟩ | ⟨rfl, rfl, hfv⟩
      · have HK0 := Lib.hid hk0
        have HALL := Lib.hid hall
        have HC0 := Lib.hid hnc
        clear hk0 hall
        by_cases hlt : k < 7
        · have hk6 : (k : Int) ≤ 6 := by omega
          obtain ⟨g1, g2⟩ := HGN.out hnc
          have g1' := g1.keep HBW.out
          have g2' := g2.keep HBW.out
          obtain ⟨GA, kGA, rfl⟩ := g1.slice
          obtain ⟨GO, kGO, rfl, _⟩ := g2
          have HM := Lib.hid (ref_Model _ _ NF.atoms NF.code (k : Int) wo g1' g2')
          rw [show (⟨NF.atoms, NF.code⟩ : Venn.Form) = NF from rfl] at HM
          have HR := Lib.hid (HFR.out hnc k hlt)
          have HS := Lib.hid (HST.out k hlt)
          clear g1 g1' g2' hnc
          have HAL := Lib.hid (show Venn.modelErr NF (k : Int) = 5 → ∀ i, i < k + 1 → Venn.modelErr NF ((i : Nat) : Int) = 5 from fun h5 i hi => by
            rcases Nat.lt_succ_iff_lt_or_eq.1 hi with h | h
            · exact HALL.out i h
            · rw [h]; exact h5)
          generalize Venn.modelErr NF (k : Int) = ME at HM HR HS HAL
          generalize Venn.modelV NF (k : Int) = MV at HM
          obtain ⟨mt, ma, mb, mc⟩ := MV
          have b0 := HGo.out.cell 0
          have b1 := HGo.out.cell 1
          simp at b0 b1
          rcases HR.out with ⟨he, h0 | h5⟩ | ⟨he, h4⟩
          · have HF := Lib.hid (HS.out (.inr (by omega)))
            have HFE := Lib.hid he
            rw [h0] at HM
            clear h0 he
            go_wp2_with fail
            refine (HM.out).mono ?_
            rintro e w13 ⟨he, hb13⟩
            simp only [worldM] at he
            subst he
            clear b0 b1
            have hb3 : Below w13.heap.size w13 (w13.alloc (.cells #[.int .i64 mt, .int .i64 ma, .int .i64 mb, .int .i64 mc] 28)) := by (repeat' (first | (with_reducible exact Below.refl _ _) | (with_reducible assumption) | (with_reducible refine Below.next ?_ (by with_reducible assumption)) | (with_reducible refine Below.drew ?_) | (with_reducible refine Below.laid ?_ _) | (with_reducible refine Below.setCell ?_ ?_ _) | (with_reducible refine size_of ?_) | (with_reducible refine Nat.le_succ_of_le ?_) | go_size))
            have hb23 := Below.next HBW.out (Below.next hb13 hb3)
            clear hb13 hb3
            go_wp2
            go_roundw
            case rel => exact ⟨k + 1, by omega, by go_num, hb23, .inr ⟨by rw [HFE.out], rfl, HF.out⟩⟩
            case measure => simp [intOf]; omega
          · have HAL5 := Lib.hid (HAL.out h5)
            have HFE := Lib.hid he
            rw [h5] at HM
            clear h5 he
            go_wp2_with fail
            refine (HM.out).mono ?_
            rintro e w13 ⟨he, hb13⟩
            simp only [worldM] at he
            subst he
            clear b0 b1
            have hb3 : Below w13.heap.size w13 (w13.alloc (.cells #[.int .i64 mt, .int .i64 ma, .int .i64 mb, .int .i64 mc] 28)) := by (repeat' (first | (with_reducible exact Below.refl _ _) | (with_reducible assumption) | (with_reducible refine Below.next ?_ (by with_reducible assumption)) | (with_reducible refine Below.drew ?_) | (with_reducible refine Below.laid ?_ _) | (with_reducible refine Below.setCell ?_ ?_ _) | (with_reducible refine size_of ?_) | (with_reducible refine Nat.le_succ_of_le ?_) | go_size))
            have hb23 := Below.next HBW.out (Below.next hb13 hb3)
            clear hb13 hb3
            go_wp2
            go_roundw
            case rel => exact ⟨k + 1, by omega, by go_num, hb23, .inl ⟨rfl, rfl, HC0.out, fun _ => HFE.out, HAL5.out⟩⟩
            case measure => simp [intOf]; omega
          · have HF := Lib.hid (HS.out (.inl (by omega)))
            have HFE := Lib.hid he
            rw [h4] at HM
            clear h4 he
            go_wp2_with fail
            refine (HM.out).mono ?_
            rintro e w13 ⟨he, hb13⟩
            simp only [worldM] at he
            subst he
            clear b0 b1
            have hb3 : Below w13.heap.size w13 (w13.alloc (.cells #[.int .i64 mt, .int .i64 ma, .int .i64 mb, .int .i64 mc] 28)) := by (repeat' (first | (with_reducible exact Below.refl _ _) | (with_reducible assumption) | (with_reducible refine Below.next ?_ (by with_reducible assumption)) | (with_reducible refine Below.drew ?_) | (with_reducible refine Below.laid ?_ _) | (with_reducible refine Below.setCell ?_ ?_ _) | (with_reducible refine size_of ?_) | (with_reducible refine Nat.le_succ_of_le ?_) | go_size))
            have hb23 := Below.next HBW.out (Below.next hb13 hb3)
            clear hb13 hb3
            go_wp2
            go_roundw
            case rel => exact ⟨k + 1, by omega, by go_num, hb23, .inr ⟨by rw [HFE.out], rfl, HF.out⟩⟩
            case measure => simp [intOf]; omega
        · have hk6 : ¬ (k : Int) ≤ 6 := by omega
          have HFE := Lib.hid (HK0.out (by omega))
          have HFV := Lib.hid (HEN.out HFE.out (fun i hi => HALL.out i (by omega)))
          clear hnc
          go_wp2
          go_meet
          case rel => exact ⟨by rw [HFE.out], by rw [HFV.out], HTo.out⟩
      · have HFV := Lib.hid hfv
        clear hfv
        by_cases hk6 : (k : Int) ≤ 6
        · go_wp2
          go_meet
          case rel => exact ⟨rfl, by rw [HFV.out], HTo.out⟩
        · go_wp2
          go_meet
          case rel => exact ⟨rfl, by rw [HFV.out], HTo.out⟩
  case rest =>
  obtain ⟨rfl, rfl, htl⟩ := hcut
  obtain ⟨w13, rfl⟩ : ∃ w13 : World, w13 = wc := ⟨_, rfl⟩
  have HT13 := Lib.hid htl
  clear htl HT12 HGB12 HGN HFR HFN HST HEN
  have b0 := HT13.out.form.cell 0
  have b1 := HT13.out.form.cell 1
  simp at b0 b1
  go_wp2_with fail
  refine (HFI.out _ HT13.out.below).mono ?_
  rintro e w14 ⟨rfl, hb14⟩
  have HT14 := Lib.hid (HT13.out.keep hb14)
  clear b0 b1 hb14 HT13
  go_wp2_with fail
  refine (HER.out FE _ HT14.out.below).mono ?_
  rintro e w15 ⟨rfl, hb15⟩
  have HT15 := Lib.hid (HT14.out.keep hb15)
  have hvv : (FV == FV) = true := by cases FV <;> rfl
  go_wp2
  go_ret
  exact ⟨rfl, HT15.out.below⟩
end Go.Proofs.YtpkleioabinkkaaGreatDoor
