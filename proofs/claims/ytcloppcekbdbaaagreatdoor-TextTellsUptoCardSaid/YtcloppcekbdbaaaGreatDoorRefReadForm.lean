/-
  THE WALK of the reference's ReadForm (printed by gen_readform.py).
-/
import Derived.Test.YtcloppcekbdbaaaGreatDoorRefRead
import Derived.Test.YtcloppcekbdbaaaGreatDoorTextParse
import Derived.Test.YtcloppcekbdbaaaGreatDoorRefG
import Derived.Deep.AppendLies
import Derived.Deep.RegionLaw
namespace Go.Proofs.YtcloppcekbdbaaaGreatDoor
open Go.RowKit Go.ChangeShapes

/-- What the reference gives of a formula: it, and the fault. -/
def FormGivenR (f : Venn.Form) (e : Int) (w : World) (x : Ending) (w' : World) : Prop :=
  ∃ A n c A' n' c', x = .returned (.tuple #[.agg #[.slice A n c, .slice A' n' c'], .int .i64 e]) ∧ Below w.heap.size w w' ∧ IsAtoms w' (.slice A n c) f.atoms ∧ IsInts w' (.slice A' n' c') f.code
theorem lines_cutB (s : ByteArray) : cutB 10 s = linesOf s := strs_inj (by rw [cutB_data, lines_cut])
theorem ref_Cut10 (s : ByteArray) (w : World) (hs : s.size < 4294967281) :
    Calls Tryz.prog 77 #[.string s, .int .u8 10] w (fun e w' => ∃ v, e = .returned v ∧ Below w.heap.size w w' ∧ IsStrs w' v (linesOf s)) := by
  have h := ref_Cut s 10 w hs
  rw [lines_cutB] at h
  exact h
theorem addr_pos (ad : Addr) (k : Nat) (h : k ≠ 0) : ad.add k = ⟨ad.block, ad.off + k, none⟩ := by unfold Addr.add; rw [if_neg h]
theorem sign_lit (x : ByteArray) : (x.data.toList = [97, 110, 100] ∨ x.data.toList = [111, 114] ∨ x.data.toList = [110, 111] ∨ x.data.toList = [116, 104, 101, 110]) ∨ (x.data.toList ≠ [97, 110, 100] ∧ x.data.toList ≠ [111, 114] ∧ x.data.toList ≠ [110, 111] ∧ x.data.toList ≠ [116, 104, 101, 110]) := by
  by_cases h1 : x.data.toList = [97, 110, 100]
  · exact .inl (.inl h1)
  by_cases h2 : x.data.toList = [111, 114]
  · exact .inl (.inr (.inl h2))
  by_cases h3 : x.data.toList = [110, 111]
  · exact .inl (.inr (.inr (.inl h3)))
  by_cases h4 : x.data.toList = [116, 104, 101, 110]
  · exact .inl (.inr (.inr (.inr h4)))
  · exact .inr ⟨h1, h2, h3, h4⟩
set_option maxHeartbeats 40000000 in
set_option maxRecDepth 100000 in
theorem ref_ReadForm (s : ByteArray) (w : World) (hs : s.size < 4294967281) : Calls Tryz.prog 32 #[.string s] w (FormGivenR (formV s) (formErr s) w) := by
  have HSP := Lib.hid (fun W => ref_Cut10 s W hs)
  have HLL := Lib.hid (lines_len s)
  have HLM := Lib.hid (lines_max hs)
  have HLS := Lib.hid (lines_size hs)
  clear hs
  unfold formV formErr
  generalize linesOf s = ls at HSP HLL HLS ⊢
  generalize Lib.countB s ⟨#[10]⟩ = N1 at HLL HLM
  have hal0 : Below w.heap.size w (w.alloc (.cells #[.slice none 0 0, .slice none 0 0] 38)) := by (repeat' (first | (with_reducible exact Below.refl _ _) | (with_reducible assumption) | (with_reducible refine Below.next ?_ (by with_reducible assumption)) | (with_reducible refine Below.drew ?_) | (with_reducible refine Below.laid ?_ _) | (with_reducible refine Below.setCell ?_ ?_ _) | (with_reducible refine size_of ?_) | (with_reducible refine Nat.le_succ_of_le ?_) | go_size))
  have BR0 := Lib.hid (Blk.new w 38 #[.slice none 0 0, .slice none 0 0])
  have hErr := Lib.hid (show formErrL ls = if ls.length < 2 ∨ wordAt ls (ls.length - 1) ≠ [] then 2 else match codeO (Venn.cutL 32 (lastLine ls).data.toList) with | none => 2 | some c => if linesErr (ls.take (ls.length - 2)) = 0 then Venn.formChk ⟨linesV (ls.take (ls.length - 2)), c⟩ else linesErr (ls.take (ls.length - 2)) from rfl)
  have hVal := Lib.hid (show formVL ls = if formErrL ls = 0 then ⟨linesV (ls.take (ls.length - 2)), (codeO (Venn.cutL 32 (lastLine ls).data.toList)).getD []⟩ else ⟨[], []⟩ from rfl)
  generalize formErrL ls = E at hErr hVal ⊢
  generalize formVL ls = V at hVal ⊢
  obtain ⟨Va, Vc⟩ := V
  cases N1 with
  | zero =>
    have HE := Lib.hid (show E = 2 by rw [hErr.out, if_pos (.inl (by have := HLL.out; omega))])
    have HLN := Lib.hid (show ls.length = 1 from HLL.out)
    clear hErr
    go_enter Tryz.func32, Tryz.ntmps32
    go_upto_region 1 with (fail)
    revert hal0 BR0
    generalize w.alloc (.cells #[.slice none 0 0, .slice none 0 0] 38) = w0
    intro hal0 BR0
    go_wp2_with fail
    refine (HSP.out w0).mono ?_
    rintro e w1 ⟨v, rfl, hb1, A1, k1, hv, -, -, -⟩
    rw [HLN.out] at hv
    subst hv
    have HQ1 := Lib.hid hal0
    have BR1 := BR0
    have BRk := BR1.out.keep hb1
    have HBk := Below.next HQ1.out hb1
    obtain ⟨⟨r0, r1⟩, q0, q1⟩ := BRk.cells2
    have GL := Lib.hid (below_set2 HBk (Nat.le_refl _) (.slice none 0 0) (.slice none 0 0))
    have GS := Lib.hid (BRk.set2 (.slice none 0 0) (.slice none 0 0))
    clear BRk HBk
    go_wp2
    clear r0 r1 q0 q1
    revert GL GS
    generalize World.setCell _ _ _ = Wf
    intro GL GS
    obtain ⟨⟨e0, e1⟩, _⟩ := GS.out.cells2
    refine bodyPost_ret (v := .tuple #[.agg #[.slice none 0 0, .slice none 0 0], .int .i64 (2)]) (by simp [results, Tryz.results32, go_sem, e0, e1]) rfl ?_
    have HV := Lib.hid (show (⟨Va, Vc⟩ : Venn.Form) = ⟨[], []⟩ by rw [hVal.out, HE.out, if_neg (by decide)])
    obtain ⟨rfl, rfl⟩ : Va = [] ∧ Vc = [] := by have := HV.out; injection this with a b; exact ⟨a, b⟩
    exact ⟨none, 0, 0, none, 0, 0, by rw [HE.out], GL.out, IsAtoms.nil _, IsInts.empty _⟩
  | succ N =>
    have hN := HLM.out
    have hlen : ls.length = N + 2 := by have := HLL.out; omega
    have hsub : ls.length - 2 = N := by omega
    rw [hsub] at hVal hErr
    have HLast := Lib.hid (show lastLine ls = ls.getD N ⟨#[]⟩ by unfold lastLine; rw [hsub])
    have HEnd := Lib.hid (show wordAt ls (ls.length - 1) = (ls.getD (N + 1) ⟨#[]⟩).data.toList by unfold wordAt; rw [hlen]; rfl)
    rw [HEnd.out, HLast.out] at hErr
    rw [HLast.out] at hVal
    have HSN := Lib.hid (getD_sizeT HLS.out (by decide))
    have hnl : ¬ ls.length < 2 := by omega
    clear HLL HLM HLast HEnd hsub
    have hx1 : IntKind.i64.wrap (((N + 2 : Nat) : Int) - 2) = (N : Int) := by rw [show ((N + 2 : Nat) : Int) - 2 = (N : Int) by omega]; exact IntWalk.i64_in _ (by omega)
    have hx1' : IntKind.i64.wrap ((N : Int) + 2 - 2) = (N : Int) := by rw [show (N : Int) + 2 - 2 = (N : Int) by omega]; exact IntWalk.i64_in _ (by omega)
    have hwN : IntKind.i64.wrap (N : Int) = (N : Int) := IntWalk.i64_in _ (by omega)
    have hx2 : IntKind.i64.wrap ((N : Int) + 1) = (N : Int) + 1 := IntWalk.i64_in _ (by omega)
    have hN0 : ¬ (N : Int) < 0 := by omega
    have hN1 : (N : Int) + 1 < (N : Int) + 2 := by omega
    have hN2 : (N : Int) < (N : Int) + 2 := by omega
    have hN3 : (0 : Int) ≤ (N : Int) := by omega
    have hN4 : (0 : Int) ≤ (N : Int) + 1 := by omega
    go_enter Tryz.func32, Tryz.ntmps32
    go_upto_region 1 with (fail)
    revert hal0 BR0
    generalize w.alloc (.cells #[.slice none 0 0, .slice none 0 0] 38) = w0
    intro hal0 BR0
    go_wp2_with fail
    refine (HSP.out w0).mono ?_
    rintro e w1 ⟨v, rfl, hb1, A1, k1, hv, hr, -, -⟩
    rw [hlen] at hv
    subst hv
    obtain ⟨ad, rfl, _⟩ := strs_at hr (show 0 < ls.length by omega)
    have HWC := Lib.hid (show ∀ j, j < N + 2 → w1.cell? (ad.add j) = some (.string (ls.getD j ⟨#[]⟩)) from fun j hj => by obtain ⟨a2, e, h⟩ := strs_at hr (show j < ls.length by omega); cases e; exact h)
    clear hr HSP
    have BR1 := Lib.hid (BR0.out.keep hb1)
    have HQ1 := Lib.hid (Below.next hal0 hb1)
    have HW1 := Lib.hid (show w.heap.size < w1.heap.size from BR1.out.lt)
    clear BR0 hb1 hal0
    have cl := HWC.out (N + 1) (by omega)
    rw [addr_pos ad (N + 1) (by omega)] at cl
    have cl' := HWC.out N (by omega)
    generalize ls.getD (N + 1) ⟨#[]⟩ = XE at cl hErr
    have HXL := Lib.hid (HSN.out N)
    generalize ls.getD N ⟨#[]⟩ = XL at cl' hErr hVal HXL
    by_cases hxe : XE.data.toList = []
    · obtain rfl := bytes_eq hxe
      have q0 : ((⟨#[]⟩ : ByteArray) != ⟨#[]⟩) = false := by decide
      have HE1 := Lib.hid (show E = match codeO (Venn.cutL 32 XL.data.toList) with | none => 2 | some c => if linesErr (ls.take N) = 0 then Venn.formChk ⟨linesV (ls.take N), c⟩ else linesErr (ls.take N) by
        rw [hErr.out, if_neg]
        intro h
        rcases h with h | h
        · exact hnl h
        · exact h rfl)
      have HC2 := Lib.hid (fun W => ref_Cut32 XL W HXL.out)
      have HWL := Lib.hid (words_len XL)
      have HCB := Lib.hid (countB_bound HXL.out)
      have HWS := Lib.hid (words_size HXL.out)
      rw [← words_cut] at HE1 hVal
      clear hErr hxe
      generalize wordsOf XL = ws at HC2 HWL HWS HE1 hVal
      generalize Lib.countB XL ⟨#[32]⟩ = M at HWL HCB
      go_upto_region 5 with (fail)
      clear cl
      go_wp2_with fail
      refine (HC2.out w1).mono ?_
      rintro e w2 ⟨v, rfl, hb2, A2, k2, hv, hr, -, -⟩
      have hML := HWL.out
      have hMB := HCB.out
      rw [hML] at hv
      subst hv
      obtain ⟨bd, rfl, x0⟩ := strs_at hr (show 0 < ws.length by omega)
      have x0' := x0
      rw [add_zero] at x0'
      have HWD := Lib.hid (show ∀ j, j < M + 1 → w2.cell? (bd.add j) = some (.string (ws.getD j ⟨#[]⟩)) from fun j hj => by obtain ⟨a2, e, h⟩ := strs_at hr (show j < ws.length by omega); cases e; exact h)
      have HB2 := Lib.hid hb2
      clear hr hb2 cl' HC2
      by_cases h0 : wordAt ws 0 = [99, 111, 100, 101]
      · have hX : ws.getD 0 ⟨#[]⟩ = ⟨#[99, 111, 100, 101]⟩ := bytes_word h0
        rw [hX] at x0 x0'
        have q1 : ((⟨#[99, 111, 100, 101]⟩ : ByteArray) != ⟨#[99, 111, 100, 101]⟩) = false := by decide
        have HCO := Lib.hid (show codeO (ws.map (·.data.toList)) = signsO (ws.tail.map (·.data.toList)) by
          rw [List.map_tail]
          unfold codeO
          rw [if_pos]
          rw [← h0]
          unfold wordAt
          rw [List.getD, List.getD, List.getElem?_map]
          cases ws[0]? <;> rfl)
        rw [HCO.out] at HE1 hVal
        have HTL := Lib.hid (show ws.tail.length = M by simp; omega)
        have HTG := Lib.hid (show ∀ k, ws.getD (k + 1) ⟨#[]⟩ = ws.tail.getD k ⟨#[]⟩ from fun k => by rw [List.getD, List.getD, List.getElem?_tail])
        clear h0 hX HCO HWL hML
        generalize ws.tail = tl at HTL HTG HE1 hVal
        have BF0 := Blk.new w2 38 #[.slice none 0 0, .slice none 0 0]
        have hal2 : Below w2.heap.size w2 (w2.alloc (.cells #[.slice none 0 0, .slice none 0 0] 38)) := (Below.refl _ _).alloc (Nat.le_refl _) _
        go_upto_region 9 with (fail)
        clear x0 x0' q1
        revert BF0 hal2
        generalize w2.alloc (.cells #[.slice none 0 0, .slice none 0 0] 38) = w3
        intro BF0 hal2
        have HF0 := Lib.hid BF0
        have HAL := Lib.hid hal2
        clear BF0 hal2
        go_wp2_with fail
        go_loopw [8] (fun i wr => ∃ (k : Nat) (pre : List Int) (CA : Option Addr) (cC : Nat), k ≤ M ∧ i = .int .i64 ((k : Int) + 1) ∧ pre.length = k ∧ Blk wr w2.heap.size 38 #[.slice none 0 0, .slice CA k cC] ∧ wr.ownsRow (w2.heap.size + 1) 3 1 (.slice CA k cC) k (pre.map (Value.int .i64)) ∧
            Below w2.heap.size w2 wr ∧ signsO (tl.map (·.data.toList)) = (signsO ((tl.map (·.data.toList)).drop k)).map (pre ++ ·)) (fun i _ => M + 1 - (intOf i).toNat)
        case atStart => exact ⟨0, [], none, 0, Nat.zero_le _, rfl, rfl, HF0.out, World.ownsRow_nil _ _ _ _, HAL.out, by simp⟩
        case round =>
          obtain ⟨k, pre, CA, cC, hk, rfl, hpl, hF, hown, hb, hrest⟩ := hrel
          obtain ⟨wo, rfl⟩ : ∃ wo : World, wo = wr := ⟨_, rfl⟩
          have HF := Lib.hid hF
          have HO := Lib.hid hown
          have HB := Lib.hid hb
          have HBO := Lib.hid (Below.next HB2.out hb)
          have HPL := Lib.hid hpl
          have HR := Lib.hid hrest
          clear hF hown hb hpl hrest
          by_cases hlt : k < M
          · have hk1 : (k : Int) + 1 < (M : Int) + 1 := by omega
            have hk0 : (0 : Int) ≤ (k : Int) + 1 := by omega
            have hk2 : (k : Int) < (M : Int) := by omega
            have hki : IntKind.i64.wrap ((k : Int) + 1 + 1) = (k : Int) + 1 + 1 := IntWalk.i64_in _ (by omega)
            have hxk := cell_keep HB.out (HWD.out (k + 1) (by omega))
            rw [HTG.out, addr_pos bd (k + 1) (by omega)] at hxk
            obtain ⟨x, hx⟩ : ∃ x, tl[k]? = some x := ⟨tl[k]'(by have := HTL.out; omega), List.getElem?_eq_getElem _⟩
            have hxe2 : tl.getD k ⟨#[]⟩ = x := by rw [List.getD, hx]; rfl
            rw [hxe2] at hxk
            have HD := Lib.hid (signs_drop (W := tl.map (·.data.toList)) (k := k) (x := x.data.toList) (by rw [List.getElem?_map, hx]; rfl))
            clear hx hxe2
            have HNX := Lib.hid (show ∀ sg, signO x.data.toList = some sg → signsO (tl.map (·.data.toList)) = (signsO ((tl.map (·.data.toList)).drop (k + 1))).map ((pre ++ [sg]) ++ ·) from fun sg h => by
              rw [HR.out, HD.out, h]
              show Option.map _ (Option.map _ _) = _
              rw [Option.map_map]
              congr 1
              funext y
              simp)
            have HNO := Lib.hid (show signO x.data.toList = none → signsO (tl.map (·.data.toList)) = none from fun h => by rw [HR.out, HD.out, h]; rfl)
            obtain ⟨⟨f0, f1⟩, g0, g1⟩ := HF.out.cells2
            have hbz := HB.out.size
            have hfl := HF.out.lt
            rcases sign_lit x with hx | ⟨h1, h2, h3, h4⟩
            · rcases hx with hx | hx | hx | hx
              · have HSG := Lib.hid (show signO x.data.toList = some 10 by rw [hx]; rfl)
                obtain rfl := bytes_eq hx
                clear hx HR HD
                have qq10 : ((⟨#[97, 110, 100]⟩ : ByteArray) == ⟨#[97, 110, 100]⟩) = true := by decide
                have qq11 : ((⟨#[97, 110, 100]⟩ : ByteArray) == ⟨#[111, 114]⟩) = false := by decide
                have qq12 : ((⟨#[97, 110, 100]⟩ : ByteArray) == ⟨#[110, 111]⟩) = false := by decide
                have qq13 : ((⟨#[97, 110, 100]⟩ : ByteArray) == ⟨#[116, 104, 101, 110]⟩) = false := by decide
                go_wp2_with (at_builtin; refine wpList_app1 _ rfl _ _ rfl (w2.heap.size + 1) _ _ _ rfl (HO.out.alloc _) wo.heap.size 1 10 rfl ?hy10 (by omega) (by simp; omega) ?_)
                try case hy10 => simp
                intro v' w4 hown' hg'
                obtain ⟨CB, dC, rfl⟩ := ownsRow_slice hown'
                have HB4 := Lib.hid (show Below w2.heap.size w2 w4 from (Below.laid HB.out _).grown hg' (by have := HB.out.size; simp; omega) (fun b e => by have := (HO.out.lt b e).1; omega))
                have hnF : some w2.heap.size ≠ (Value.slice CA k cC).ownBlock := fun e => by have := (HO.out.lt _ e.symm).1; omega
                have BF4 := (HF.out.alloc (.cells #[.int .i64 10] 3)).grown hg' hnF
                have HO4 := Lib.hid hown'
                have hnO : ∀ b, (Value.slice CB (k + 1) dC).ownBlock = some b → ¬ b = w2.heap.size := fun b e => by have := (hown'.lt b e).1; omega
                have GF := Lib.hid (show Blk (w4.setCell ⟨w2.heap.size, 1, none⟩ (.slice CB (k + 1) dC)) w2.heap.size 38 #[.slice none 0 0, .slice CB (k + 1) dC] by simpa using BF4.set_ 1 (.slice CB (k + 1) dC))
                have GO := Lib.hid (own_but (C := fun b => b = w2.heap.size) hown' (But.set_ (C := fun b => b = w2.heap.size) (But.refl (fun b => b = w2.heap.size) w4) (p := ⟨w2.heap.size, 1, none⟩) rfl (.slice CB (k + 1) dC)) hnO)
                have GB := Lib.hid (HB4.out.setCell (p := ⟨w2.heap.size, 1, none⟩) (Nat.le_refl _) (.slice CB (k + 1) dC))
                obtain ⟨⟨f0', f1'⟩, g0', g1'⟩ := BF4.cells2
                clear hown' hg' hnF BF4 hnO f0 f1 g0 g1
                go_wp2_with fail
                go_roundw
                case rel => exact ⟨k + 1, pre ++ [10], CB, dC, by omega, by go_num, by simp [HPL.out], GF.out, by simpa using GO.out, GB.out, HNX.out _ HSG.out⟩
                case measure => simp [intOf]; omega
              · have HSG := Lib.hid (show signO x.data.toList = some 11 by rw [hx]; rfl)
                obtain rfl := bytes_eq hx
                clear hx HR HD
                have qq10 : ((⟨#[111, 114]⟩ : ByteArray) == ⟨#[97, 110, 100]⟩) = false := by decide
                have qq11 : ((⟨#[111, 114]⟩ : ByteArray) == ⟨#[111, 114]⟩) = true := by decide
                have qq12 : ((⟨#[111, 114]⟩ : ByteArray) == ⟨#[110, 111]⟩) = false := by decide
                have qq13 : ((⟨#[111, 114]⟩ : ByteArray) == ⟨#[116, 104, 101, 110]⟩) = false := by decide
                go_wp2_with (at_builtin; refine wpList_app1 _ rfl _ _ rfl (w2.heap.size + 1) _ _ _ rfl (HO.out.alloc _) wo.heap.size 1 11 rfl ?hy11 (by omega) (by simp; omega) ?_)
                try case hy11 => simp
                intro v' w4 hown' hg'
                obtain ⟨CB, dC, rfl⟩ := ownsRow_slice hown'
                have HB4 := Lib.hid (show Below w2.heap.size w2 w4 from (Below.laid HB.out _).grown hg' (by have := HB.out.size; simp; omega) (fun b e => by have := (HO.out.lt b e).1; omega))
                have hnF : some w2.heap.size ≠ (Value.slice CA k cC).ownBlock := fun e => by have := (HO.out.lt _ e.symm).1; omega
                have BF4 := (HF.out.alloc (.cells #[.int .i64 11] 3)).grown hg' hnF
                have HO4 := Lib.hid hown'
                have hnO : ∀ b, (Value.slice CB (k + 1) dC).ownBlock = some b → ¬ b = w2.heap.size := fun b e => by have := (hown'.lt b e).1; omega
                have GF := Lib.hid (show Blk (w4.setCell ⟨w2.heap.size, 1, none⟩ (.slice CB (k + 1) dC)) w2.heap.size 38 #[.slice none 0 0, .slice CB (k + 1) dC] by simpa using BF4.set_ 1 (.slice CB (k + 1) dC))
                have GO := Lib.hid (own_but (C := fun b => b = w2.heap.size) hown' (But.set_ (C := fun b => b = w2.heap.size) (But.refl (fun b => b = w2.heap.size) w4) (p := ⟨w2.heap.size, 1, none⟩) rfl (.slice CB (k + 1) dC)) hnO)
                have GB := Lib.hid (HB4.out.setCell (p := ⟨w2.heap.size, 1, none⟩) (Nat.le_refl _) (.slice CB (k + 1) dC))
                obtain ⟨⟨f0', f1'⟩, g0', g1'⟩ := BF4.cells2
                clear hown' hg' hnF BF4 hnO f0 f1 g0 g1
                go_wp2_with fail
                go_roundw
                case rel => exact ⟨k + 1, pre ++ [11], CB, dC, by omega, by go_num, by simp [HPL.out], GF.out, by simpa using GO.out, GB.out, HNX.out _ HSG.out⟩
                case measure => simp [intOf]; omega
              · have HSG := Lib.hid (show signO x.data.toList = some 12 by rw [hx]; rfl)
                obtain rfl := bytes_eq hx
                clear hx HR HD
                have qq10 : ((⟨#[110, 111]⟩ : ByteArray) == ⟨#[97, 110, 100]⟩) = false := by decide
                have qq11 : ((⟨#[110, 111]⟩ : ByteArray) == ⟨#[111, 114]⟩) = false := by decide
                have qq12 : ((⟨#[110, 111]⟩ : ByteArray) == ⟨#[110, 111]⟩) = true := by decide
                have qq13 : ((⟨#[110, 111]⟩ : ByteArray) == ⟨#[116, 104, 101, 110]⟩) = false := by decide
                go_wp2_with (at_builtin; refine wpList_app1 _ rfl _ _ rfl (w2.heap.size + 1) _ _ _ rfl (HO.out.alloc _) wo.heap.size 1 12 rfl ?hy12 (by omega) (by simp; omega) ?_)
                try case hy12 => simp
                intro v' w4 hown' hg'
                obtain ⟨CB, dC, rfl⟩ := ownsRow_slice hown'
                have HB4 := Lib.hid (show Below w2.heap.size w2 w4 from (Below.laid HB.out _).grown hg' (by have := HB.out.size; simp; omega) (fun b e => by have := (HO.out.lt b e).1; omega))
                have hnF : some w2.heap.size ≠ (Value.slice CA k cC).ownBlock := fun e => by have := (HO.out.lt _ e.symm).1; omega
                have BF4 := (HF.out.alloc (.cells #[.int .i64 12] 3)).grown hg' hnF
                have HO4 := Lib.hid hown'
                have hnO : ∀ b, (Value.slice CB (k + 1) dC).ownBlock = some b → ¬ b = w2.heap.size := fun b e => by have := (hown'.lt b e).1; omega
                have GF := Lib.hid (show Blk (w4.setCell ⟨w2.heap.size, 1, none⟩ (.slice CB (k + 1) dC)) w2.heap.size 38 #[.slice none 0 0, .slice CB (k + 1) dC] by simpa using BF4.set_ 1 (.slice CB (k + 1) dC))
                have GO := Lib.hid (own_but (C := fun b => b = w2.heap.size) hown' (But.set_ (C := fun b => b = w2.heap.size) (But.refl (fun b => b = w2.heap.size) w4) (p := ⟨w2.heap.size, 1, none⟩) rfl (.slice CB (k + 1) dC)) hnO)
                have GB := Lib.hid (HB4.out.setCell (p := ⟨w2.heap.size, 1, none⟩) (Nat.le_refl _) (.slice CB (k + 1) dC))
                obtain ⟨⟨f0', f1'⟩, g0', g1'⟩ := BF4.cells2
                clear hown' hg' hnF BF4 hnO f0 f1 g0 g1
                go_wp2_with fail
                go_roundw
                case rel => exact ⟨k + 1, pre ++ [12], CB, dC, by omega, by go_num, by simp [HPL.out], GF.out, by simpa using GO.out, GB.out, HNX.out _ HSG.out⟩
                case measure => simp [intOf]; omega
              · have HSG := Lib.hid (show signO x.data.toList = some 13 by rw [hx]; rfl)
                obtain rfl := bytes_eq hx
                clear hx HR HD
                have qq10 : ((⟨#[116, 104, 101, 110]⟩ : ByteArray) == ⟨#[97, 110, 100]⟩) = false := by decide
                have qq11 : ((⟨#[116, 104, 101, 110]⟩ : ByteArray) == ⟨#[111, 114]⟩) = false := by decide
                have qq12 : ((⟨#[116, 104, 101, 110]⟩ : ByteArray) == ⟨#[110, 111]⟩) = false := by decide
                have qq13 : ((⟨#[116, 104, 101, 110]⟩ : ByteArray) == ⟨#[116, 104, 101, 110]⟩) = true := by decide
                go_wp2_with (at_builtin; refine wpList_app1 _ rfl _ _ rfl (w2.heap.size + 1) _ _ _ rfl (HO.out.alloc _) wo.heap.size 1 13 rfl ?hy13 (by omega) (by simp; omega) ?_)
                try case hy13 => simp
                intro v' w4 hown' hg'
                obtain ⟨CB, dC, rfl⟩ := ownsRow_slice hown'
                have HB4 := Lib.hid (show Below w2.heap.size w2 w4 from (Below.laid HB.out _).grown hg' (by have := HB.out.size; simp; omega) (fun b e => by have := (HO.out.lt b e).1; omega))
                have hnF : some w2.heap.size ≠ (Value.slice CA k cC).ownBlock := fun e => by have := (HO.out.lt _ e.symm).1; omega
                have BF4 := (HF.out.alloc (.cells #[.int .i64 13] 3)).grown hg' hnF
                have HO4 := Lib.hid hown'
                have hnO : ∀ b, (Value.slice CB (k + 1) dC).ownBlock = some b → ¬ b = w2.heap.size := fun b e => by have := (hown'.lt b e).1; omega
                have GF := Lib.hid (show Blk (w4.setCell ⟨w2.heap.size, 1, none⟩ (.slice CB (k + 1) dC)) w2.heap.size 38 #[.slice none 0 0, .slice CB (k + 1) dC] by simpa using BF4.set_ 1 (.slice CB (k + 1) dC))
                have GO := Lib.hid (own_but (C := fun b => b = w2.heap.size) hown' (But.set_ (C := fun b => b = w2.heap.size) (But.refl (fun b => b = w2.heap.size) w4) (p := ⟨w2.heap.size, 1, none⟩) rfl (.slice CB (k + 1) dC)) hnO)
                have GB := Lib.hid (HB4.out.setCell (p := ⟨w2.heap.size, 1, none⟩) (Nat.le_refl _) (.slice CB (k + 1) dC))
                obtain ⟨⟨f0', f1'⟩, g0', g1'⟩ := BF4.cells2
                clear hown' hg' hnF BF4 hnO f0 f1 g0 g1
                go_wp2_with fail
                go_roundw
                case rel => exact ⟨k + 1, pre ++ [13], CB, dC, by omega, by go_num, by simp [HPL.out], GF.out, by simpa using GO.out, GB.out, HNX.out _ HSG.out⟩
                case measure => simp [intOf]; omega
            · obtain ⟨a1, b1, c1⟩ := bytes_ne h1
              obtain ⟨a2, b2, c2⟩ := bytes_ne h2
              obtain ⟨a3, b3, c3⟩ := bytes_ne h3
              obtain ⟨a4, b4, c4⟩ := bytes_ne h4
              by_cases hsz : x.size = 1
              · have z0 : 0 < x.size := by omega
                obtain ⟨a, ha, hl⟩ := one_byteS hsz z0
                have HSO := Lib.hid (sign_one a)
                rw [← hl] at HSO
                have hszi : (x.size : Int) = 1 := by omega
                have hz1 : (0 : Int) < (x.size : Int) := by omega
                clear h1 h2 h3 h4 hl
                generalize hy : a.toNat = y at HSO
                by_cases y1 : y < 48
                · have y1i : ((y : Nat) : Int) < 48 := by omega
                  have HNN := Lib.hid (HNO.out (by rw [HSO.out, if_neg (by omega)]))
                  have HE := Lib.hid (show E = 2 by rw [HE1.out, HNN.out])
                  have BRk := BR1.out.keep HBO.out
                  have HBk := Below.next HQ1.out HBO.out
                  obtain ⟨⟨r0, r1⟩, q0, q1⟩ := BRk.cells2
                  have GL := Lib.hid (below_set2 HBk (Nat.le_refl _) (.slice none 0 0) (.slice none 0 0))
                  have GS := Lib.hid (BRk.set2 (.slice none 0 0) (.slice none 0 0))
                  clear BRk HBk
                  go_wp2
                  clear r0 r1 q0 q1
                  revert GL GS
                  generalize World.setCell _ _ _ = Wf
                  intro GL GS
                  obtain ⟨⟨e0, e1⟩, _⟩ := GS.out.cells2
                  refine bodyPost_ret (v := .tuple #[.agg #[.slice none 0 0, .slice none 0 0], .int .i64 (2)]) (by simp [results, Tryz.results32, go_sem, e0, e1]) rfl ?_
                  have HV := Lib.hid (show (⟨Va, Vc⟩ : Venn.Form) = ⟨[], []⟩ by rw [hVal.out, HE.out, if_neg (by decide)])
                  obtain ⟨rfl, rfl⟩ : Va = [] ∧ Vc = [] := by have := HV.out; injection this with a b; exact ⟨a, b⟩
                  exact ⟨none, 0, 0, none, 0, 0, by rw [HE.out], GL.out, IsAtoms.nil _, IsInts.empty _⟩
                · have y1i : ¬ ((y : Nat) : Int) < 48 := by omega
                  by_cases y2 : 57 < y
                  · have y2i : (57 : Int) < ((y : Nat) : Int) := by omega
                    have HNN := Lib.hid (HNO.out (by rw [HSO.out, if_neg (by omega)]))
                    have HE := Lib.hid (show E = 2 by rw [HE1.out, HNN.out])
                    have BRk := BR1.out.keep HBO.out
                    have HBk := Below.next HQ1.out HBO.out
                    obtain ⟨⟨r0, r1⟩, q0, q1⟩ := BRk.cells2
                    have GL := Lib.hid (below_set2 HBk (Nat.le_refl _) (.slice none 0 0) (.slice none 0 0))
                    have GS := Lib.hid (BRk.set2 (.slice none 0 0) (.slice none 0 0))
                    clear BRk HBk
                    go_wp2
                    clear r0 r1 q0 q1
                    revert GL GS
                    generalize World.setCell _ _ _ = Wf
                    intro GL GS
                    obtain ⟨⟨e0, e1⟩, _⟩ := GS.out.cells2
                    refine bodyPost_ret (v := .tuple #[.agg #[.slice none 0 0, .slice none 0 0], .int .i64 (2)]) (by simp [results, Tryz.results32, go_sem, e0, e1]) rfl ?_
                    have HV := Lib.hid (show (⟨Va, Vc⟩ : Venn.Form) = ⟨[], []⟩ by rw [hVal.out, HE.out, if_neg (by decide)])
                    obtain ⟨rfl, rfl⟩ : Va = [] ∧ Vc = [] := by have := HV.out; injection this with a b; exact ⟨a, b⟩
                    exact ⟨none, 0, 0, none, 0, 0, by rw [HE.out], GL.out, IsAtoms.nil _, IsInts.empty _⟩
                  · have y2i : ¬ (57 : Int) < ((y : Nat) : Int) := by omega
                    have HSG := Lib.hid (show signO x.data.toList = some ((y : Int) - 48) by rw [HSO.out, if_pos (by omega)])
                    have w64 : IntKind.i64.wrap (y : Int) = (y : Int) := IntWalk.i64_in _ (by omega)
                    have w65 : IntKind.i64.wrap ((y : Int) - 48) = (y : Int) - 48 := IntWalk.i64_in _ (by omega)
                    clear HSO HNO HR HD
                    obtain ⟨i0, hi0, hz0', hz1', hz2'⟩ := info_parts int_info
                    go_upto_region 15 with (fail)
                    go_region_law (refine step_append_lies _ (by rfl) _ _ _ (by rfl) (w2.heap.size + 1) 3 i0 _ 1 8 Tryz.underlying30 hi0 hz0' hz1' hz2' rfl (by decide) (.slice CA k cC) k (pre.map (Value.int .i64)) (by rfl) ((HO.out.alloc _).drew) ⟨wo.heap.size, 0, none⟩ 1 1 [.int .i64 ((y : Int) - 48)] (by rfl) (by rfl) (World.news_of_block (cs := #[.int .i64 ((y : Int) - 48)]) (t := 3) (fr := (0, 0)) (heap_alloc_new wo _)) (by simp [Value.oneCell']) (by omega) (by unfold maxLen; omega) (by omega) (by simp; omega) (wo.heap.size + 1) (by simp) ?_; intro gg cap w4 hown1 hgrow hat hlt2; have hnF : some w2.heap.size ≠ (Value.slice CA k cC).ownBlock := (fun e => by have := (HO.out.lt _ e.symm).1; omega); have BF4 := ((HF.out.alloc (.cells #[.int .i64 ((y : Int) - 48)] 3)).drew).grown hgrow hnF; obtain ⟨⟨f0', f1'⟩, g0', g1'⟩ := BF4.cells2)
                    all_goals
                      have HB4 := Lib.hid (show Below w2.heap.size w2 w4 from ((Below.laid HB.out _).drew).grown hgrow (by have := HB.out.size; simp; omega) (fun b e => by have := (HO.out.lt b e).1; omega))
                      have hnO : ∀ b, (Value.slice (some ⟨gg, 0, none⟩) (k + 1) cap).ownBlock = some b → ¬ b = w2.heap.size := fun b e => by have := (hown1.lt b e).1; omega
                      have GF := Lib.hid (show Blk (w4.setCell ⟨w2.heap.size, 1, none⟩ (.slice (some ⟨gg, 0, none⟩) (k + 1) cap)) w2.heap.size 38 #[.slice none 0 0, .slice (some ⟨gg, 0, none⟩) (k + 1) cap] by simpa using BF4.set_ 1 (.slice (some ⟨gg, 0, none⟩) (k + 1) cap))
                      have GO := Lib.hid (own_but (C := fun b => b = w2.heap.size) hown1 (But.set_ (C := fun b => b = w2.heap.size) (But.refl (fun b => b = w2.heap.size) w4) (p := ⟨w2.heap.size, 1, none⟩) rfl (.slice (some ⟨gg, 0, none⟩) (k + 1) cap)) hnO)
                      have GB := Lib.hid (HB4.out.setCell (p := ⟨w2.heap.size, 1, none⟩) (Nat.le_refl _) (.slice (some ⟨gg, 0, none⟩) (k + 1) cap))
                      clear hown1 hgrow hat hlt2 hnF BF4 hnO f0 f1 g0 g1
                      go_wp2_with fail
                      go_roundw
                      case rel => exact ⟨k + 1, pre ++ [(y : Int) - 48], some ⟨gg, 0, none⟩, cap, by omega, by go_num, by simp [HPL.out], GF.out, by simpa using GO.out, GB.out, HNX.out _ HSG.out⟩
                      case measure => simp [intOf]; omega
              · have hszn : ((x.size : Int) != 1) = true := by simp; omega
                have HNN := Lib.hid (HNO.out (sign_long h1 h2 h3 h4 (by show ¬ x.size = 1; exact hsz)))
                have HE := Lib.hid (show E = 2 by rw [HE1.out, HNN.out])
                clear h1 h2 h3 h4
                have BRk := BR1.out.keep HBO.out
                have HBk := Below.next HQ1.out HBO.out
                obtain ⟨⟨r0, r1⟩, q0, q1⟩ := BRk.cells2
                have GL := Lib.hid (below_set2 HBk (Nat.le_refl _) (.slice none 0 0) (.slice none 0 0))
                have GS := Lib.hid (BRk.set2 (.slice none 0 0) (.slice none 0 0))
                clear BRk HBk
                go_wp2
                clear r0 r1 q0 q1
                revert GL GS
                generalize World.setCell _ _ _ = Wf
                intro GL GS
                obtain ⟨⟨e0, e1⟩, _⟩ := GS.out.cells2
                refine bodyPost_ret (v := .tuple #[.agg #[.slice none 0 0, .slice none 0 0], .int .i64 (2)]) (by simp [results, Tryz.results32, go_sem, e0, e1]) rfl ?_
                have HV := Lib.hid (show (⟨Va, Vc⟩ : Venn.Form) = ⟨[], []⟩ by rw [hVal.out, HE.out, if_neg (by decide)])
                obtain ⟨rfl, rfl⟩ : Va = [] ∧ Vc = [] := by have := HV.out; injection this with a b; exact ⟨a, b⟩
                exact ⟨none, 0, 0, none, 0, 0, by rw [HE.out], GL.out, IsAtoms.nil _, IsInts.empty _⟩
          · have hk' : k = M := by omega
            subst hk'
            have hd : (tl.map (·.data.toList)).drop k = [] := List.drop_eq_nil_of_le (by simp; have := HTL.out; omega)
            have HSV := Lib.hid (show signsO (tl.map (·.data.toList)) = some pre by rw [HR.out, hd]; simp [signsO])
            rw [HSV.out] at HE1 hVal
            clear hd HR HTG HTL
            have HE2 := Lib.hid (show E = if linesErr (ls.take N) = 0 then Venn.formChk ⟨linesV (ls.take N), pre⟩ else linesErr (ls.take N) from HE1.out)
            have HC := Lib.hid (show IsInts wo (.slice CA k cC) pre from IsInts.of_own (l := pre) HO.out)
            have HCB := Lib.hid (fun (hne : pre ≠ []) b (hb : (Value.slice CA k cC).ownBlock = some b) => ints_lt HC.out hne hb)
            have hk1 : ¬ (k : Int) + 1 < (k : Int) + 1 := by omega
            obtain ⟨⟨f0, f1⟩, g0, g1⟩ := HF.out.cells2
            have HFL := Lib.hid HF.out.lt
            have hVal2 := Lib.hid (show (⟨Va, Vc⟩ : Venn.Form) = if E = 0 then ⟨linesV (ls.take N), pre⟩ else ⟨[], []⟩ from hVal.out)
            clear HE1 HSV hVal HWD HO HPL
            go_wp2_with fail
            clear f0 f1 g0 g1
            go_loopw [9] (fun i wr => ∃ (m : Nat) (p : List AV) (VA : Option Addr) (cA : Nat), m ≤ N ∧ i = .int .i64 m ∧ p.length = m ∧ Blk wr w2.heap.size 38 #[.slice VA m cA, .slice CA k cC] ∧ OwnP wo.heap.size wr (.slice VA m cA) p ∧
                p.map (fun x : AV => x.1) = linesV (ls.take m) ∧ linesErr (ls.take m) = 0 ∧ Below w2.heap.size w2 wr ∧ IsInts wr (.slice CA k cC) pre ∧ wo.heap.size ≤ wr.heap.size) (fun i _ => N - (intOf i).toNat)
            case atStart => exact ⟨0, [], none, 0, Nat.zero_le _, rfl, rfl, HF.out, OwnP.nil _ _, rfl, rfl, HB.out, HC.out, Nat.le_refl _⟩
            case round =>
              obtain ⟨m, p, VA, cA, hm, rfl, hpl, hF, hown, hpm, hle, hb, hcc, hsz⟩ := hrel
              obtain ⟨wq, rfl⟩ : ∃ wq : World, wq = wr := ⟨_, rfl⟩
              have HFq := Lib.hid hF
              have HOq := Lib.hid hown
              have HPM := Lib.hid hpm
              have HPLq := Lib.hid hpl
              have HLE := Lib.hid hle
              have HBq := Lib.hid hb
              have HBOq := Lib.hid (Below.next HB2.out hb)
              have HCq := Lib.hid hcc
              have HSZ := Lib.hid hsz
              clear hF hown hpm hpl hle hb hcc hsz
              by_cases hlt : m < N
              · have hm1 : (m : Int) < (N : Int) := by omega
                have hm0 : (0 : Int) ≤ (m : Int) := by omega
                have hm2 : (m : Int) < (N : Int) + 2 := by omega
                have hmi : IntKind.i64.wrap ((m : Int) + 1) = (m : Int) + 1 := IntWalk.i64_in _ (by omega)
                have ck := cell_keep HBOq.out (HWC.out m (by omega))
                have HTK := Lib.hid (show ls.take (m + 1) = ls.take m ++ [ls.getD m ⟨#[]⟩] by rw [List.take_add_one, List.getD, List.getElem?_eq_getElem (by omega)]; rfl)
                have HXS := Lib.hid (HSN.out m)
                have HDR := Lib.hid (show ls.take N = ls.take (m + 1) ++ (ls.take N).drop (m + 1) by
                  conv => lhs; rw [← List.take_append_drop (m + 1) (ls.take N)]
                  rw [List.take_take, Nat.min_eq_left (by omega)])
                generalize ls.getD m ⟨#[]⟩ = X at ck HTK HXS
                have HPX := Lib.hid (ref_ReadAtomF X wq HXS.out)
                have HSN2 := Lib.hid (linesErr_snoc (ls.take m) X HLE.out)
                have HVX := Lib.hid (show linesV (ls.take m ++ [X]) = linesV (ls.take m) ++ [parseAV (readA (wordsOf X))] by unfold linesV; rw [List.map_append]; rfl)
                generalize parseAChk (readA (wordsOf X)) = EX at HPX HSN2
                generalize parseAV (readA (wordsOf X)) = VX at HPX HVX
                obtain ⟨xw, xs, xt, xm⟩ := VX
                go_wp2_with fail
                refine (HPX.out).mono ?_
                rintro e w4 ⟨XA, xn, xc, XB, yn, yc, rfl, hb4, hX, hY, fX, fY⟩
                dsimp only at hX hY ⊢
                clear ck
                have hal4 : Below w4.heap.size w4 (w4.alloc (.cells #[.int .i64 xw, .slice XA xn xc, .slice XB yn yc, .int .i64 xm] 32)) := (Below.refl _ _).alloc (Nat.le_refl _) _
                have BX := Blk.new w4 32 #[.int .i64 xw, .slice XA xn xc, .slice XB yn yc, .int .i64 xm]
                have HX := Lib.hid (hX.keep hal4)
                have HY := Lib.hid (hY.keep hal4)
                have HB4 := Lib.hid hb4
                have HFR := Lib.hid (And.intro (fun (_ : xs ≠ []) => fresh_far HOq.out fX) (fun (_ : xt ≠ []) => fresh_far HOq.out fY))
                clear hX hY fX fY
                go_upto_region 28 with (fail)
                clear hb4
                revert hal4 BX HX HY
                generalize w4.alloc (.cells #[.int .i64 xw, .slice XA xn xc, .slice XB yn yc, .int .i64 xm] 32) = w5
                intro hal4 BX HX HY
                have HB5 := Lib.hid (Below.next HB4.out hal4)
                by_cases hE : EX = 0
                · have HEX := Lib.hid hE
                  subst hE
                  have HO5 := Lib.hid ((HOq.out.keep HB4.out).keep hal4)
                  have BF5 := HFq.out.keep HB5.out
                  have HF5 := Lib.hid BF5
                  have HC5 := Lib.hid (HCq.out.keep HB5.out)
                  obtain ⟨c0, c1, c2, c3⟩ := BX.cells4
                  obtain ⟨⟨f0, f1⟩, g0, g1⟩ := BF5.cells2
                  have hal5 : Below w5.heap.size w5 (w5.alloc (.cells #[.int .i64 xw, .slice XA xn xc, .slice XB yn yc, .int .i64 xm] 32)) := (Below.refl _ _).alloc (Nat.le_refl _) _
                  have HA5 := Lib.hid hal5
                  have HBR := Lib.hid (Blk.new w5 32 #[.int .i64 xw, .slice XA xn xc, .slice XB yn yc, .int .i64 xm])
                  clear hal4 BX BF5 hal5
                  go_wp2_with (at_builtin; refine wpList_appA1 _ rfl _ _ rfl wo.heap.size (.slice VA m cA) p rfl (HO5.out.keep HA5.out) w5.heap.size 1 ((⟨xw, xs, xt, xm⟩ : Venn.Atom), .slice XA xn xc, .slice XB yn yc) rfl HBR.out ⟨HX.out.keep HA5.out, HY.out.keep HA5.out⟩ HFR.out (by have := HPLq.out; omega) (by have h1 := HSZ.out; have h2 := HB5.out.size; simp; omega) ?_)
                  intro v' w6 hown6 hg6
                  obtain ⟨VB, cB, rfl⟩ := hown6.slice
                  have hpl6 : (p ++ [((⟨xw, xs, xt, xm⟩ : Venn.Atom), Value.slice XA xn xc, Value.slice XB yn yc)]).length = m + 1 := by simp [HPLq.out]
                  rw [hpl6] at hown6 ⊢
                  have hnF : some w2.heap.size ≠ (Value.slice VA m cA).ownBlock := fun e => by have := (HO5.out.own.lt _ e.symm).1; have := HFL.out; omega
                  have BF6 := ((HF5.out.keep HA5.out).grown hg6 hnF)
                  have HB6 := Lib.hid (show Below w2.heap.size w2 w6 from (Below.next HBq.out (Below.next HB5.out HA5.out)).grown hg6 (Below.next HBq.out (Below.next HB5.out HA5.out)).size (fun b e => by have := (HO5.out.own.lt b e).1; have := HFL.out; omega))
                  have HC6 := Lib.hid ((HC5.out.keep HA5.out).but' (But.of_grown hg6) (fun hne b hb e => by have h1 := HCB.out hne b hb; have h2 := (HO5.out.own.lt b e).1; omega))
                  have GF := Lib.hid (show Blk (w6.setCell ⟨w2.heap.size, 0, none⟩ (.slice VB (m + 1) cB)) w2.heap.size 38 #[.slice VB (m + 1) cB, .slice CA k cC] by simpa using BF6.set_ 0 (.slice VB (m + 1) cB))
                  have GO := Lib.hid (hown6.fset BF6 HFL.out 0 (.slice VB (m + 1) cB))
                  have GB := Lib.hid (HB6.out.setCell (p := ⟨w2.heap.size, 0, none⟩) (Nat.le_refl _) (.slice VB (m + 1) cB))
                  have GC := Lib.hid (HC6.out.fset BF6 0 (.slice VB (m + 1) cB))
                  have GZ := Lib.hid (show wo.heap.size ≤ (w6.setCell ⟨w2.heap.size, 0, none⟩ (.slice VB (m + 1) cB)).heap.size by have h1 := HSZ.out; have h2 := HB5.out.size; have h3 := HA5.out.size; have h4 := hg6.size; simp [World.setCell] at h3 h4 ⊢; omega)
                  obtain ⟨⟨f0', f1'⟩, g0', g1'⟩ := BF6.cells2
                  clear c0 c1 c2 c3 f0 f1 g0 g1 hown6 hg6 hpl6 hnF BF6
                  go_wp2_with fail
                  go_roundw
                  case rel => exact ⟨m + 1, _, VB, cB, by omega, by go_num, by simp [HPLq.out], GF.out, GO.out, by rw [HTK.out, HVX.out, ← HPM.out, List.map_append]; rfl, by rw [HTK.out, HSN2.out], GB.out, GC.out, GZ.out⟩
                  case measure => simp [intOf]; omega
                · have hEn : (EX != 0) = true := by simpa using hE
                  have HE := Lib.hid (show E = EX by
                    have h1 : linesErr (ls.take (m + 1)) = EX := by rw [HTK.out, HSN2.out]
                    have h2 : linesErr (ls.take N) = EX := by rw [HDR.out, linesErr_app _ _ (by rw [h1]; exact hE), h1]
                    rw [HE2.out, h2, if_neg hE])
                  have HBy := Lib.hid (Below.next HBOq.out HB5.out)
                  clear hal4 BX
                  have BRk := BR1.out.keep HBy.out
                  have HBk := Below.next HQ1.out HBy.out
                  obtain ⟨⟨r0, r1⟩, q0, q1⟩ := BRk.cells2
                  have GL := Lib.hid (below_set2 HBk (Nat.le_refl _) (.slice none 0 0) (.slice none 0 0))
                  have GS := Lib.hid (BRk.set2 (.slice none 0 0) (.slice none 0 0))
                  clear BRk HBk
                  go_wp2
                  clear r0 r1 q0 q1
                  revert GL GS
                  generalize World.setCell _ _ _ = Wf
                  intro GL GS
                  obtain ⟨⟨e0, e1⟩, _⟩ := GS.out.cells2
                  refine bodyPost_ret (v := .tuple #[.agg #[.slice none 0 0, .slice none 0 0], .int .i64 (EX)]) (by simp [results, Tryz.results32, go_sem, e0, e1]) rfl ?_
                  have HV := Lib.hid (show (⟨Va, Vc⟩ : Venn.Form) = ⟨[], []⟩ by rw [hVal2.out, HE.out, if_neg hE])
                  obtain ⟨rfl, rfl⟩ : Va = [] ∧ Vc = [] := by have := HV.out; injection this with a b; exact ⟨a, b⟩
                  exact ⟨none, 0, 0, none, 0, 0, by rw [HE.out], GL.out, IsAtoms.nil _, IsInts.empty _⟩
              · have hm' : m = N := by omega
                subst hm'
                have hm1 : ¬ (m : Int) < (m : Int) := by omega
                have HIA := Lib.hid (show IsAtoms wq (.slice VA m cA) (linesV (ls.take m)) by rw [← HPM.out]; exact HOq.out.atoms)
                have HCK := Lib.hid (ref_Form _ _ _ _ wq HIA.out HCq.out)
                have HE3 := Lib.hid (show E = Venn.formChk ⟨linesV (ls.take m), pre⟩ by rw [HE2.out, if_pos HLE.out])
                obtain ⟨⟨f0, f1⟩, g0, g1⟩ := HFq.out.cells2
                generalize linesV (ls.take m) = LV at HIA HCK HE3 hVal2
                rw [← HE3.out] at HCK
                by_cases hE : E = 0
                · rw [hE] at HCK
                  obtain ⟨rfl, rfl⟩ : Va = LV ∧ Vc = pre := by have := hVal2.out; rw [if_pos hE] at this; injection this with a b; exact ⟨a, b⟩
                  have HEE := Lib.hid hE
                  clear hE
                  go_wp2_with fail
                  refine (HCK.out).mono ?_
                  rintro e w4 ⟨rfl, hb4⟩
                  have HB4 := Lib.hid (Below.next HBOq.out hb4)
                  have BF4 := HFq.out.keep hb4
                  have HIA4 := Lib.hid (HIA.out.keep hb4)
                  have HIC4 := Lib.hid (HCq.out.keep hb4)
                  clear f0 f1 g0 g1 hb4
                  obtain ⟨⟨f0, f1⟩, g0, g1⟩ := BF4.cells2
                  have BRk := BR1.out.keep HB4.out
                  have HBk := Below.next HQ1.out HB4.out
                  obtain ⟨⟨r0, r1⟩, q0', q1⟩ := BRk.cells2
                  have GL := Lib.hid (below_set2 HBk (Nat.le_refl _) (.slice VA m cA) (.slice CA k cC))
                  have GS := Lib.hid (BRk.set2 (.slice VA m cA) (.slice CA k cC))
                  have GA := Lib.hid (IsAtoms.fset2 (B1 := VA) (m1 := m) (d1 := cA) (B2 := CA) (m2 := k) (d2 := cC) HIA4.out BRk)
                  have GC := Lib.hid (IsInts.fset2 (B1 := VA) (m1 := m) (d1 := cA) (B2 := CA) (m2 := k) (d2 := cC) HIC4.out BRk)
                  have nW := Nat.ne_of_lt HW1.out
                  have nW2 : w.heap.size ≠ w2.heap.size := by have := HW1.out; have := HB2.out.size; omega
                  clear BRk HBk BF4
                  go_wp2
                  clear f0 f1 g0 g1 r0 r1 q0' q1
                  revert GL GS GA GC
                  generalize World.setCell _ _ _ = Wf
                  intro GL GS GA GC
                  obtain ⟨⟨e0, e1⟩, _⟩ := GS.out.cells2
                  refine bodyPost_ret (v := .tuple #[.agg #[.slice VA m cA, .slice CA k cC], .int .i64 0]) (by simp [results, Tryz.results32, go_sem, e0, e1]) rfl ?_
                  exact ⟨VA, m, cA, CA, k, cC, by rw [HEE.out], GL.out, GA.out, GC.out⟩
                · have hEn : (E != 0) = true := by simpa using hE
                  go_wp2_with fail
                  refine (HCK.out).mono ?_
                  rintro e w4 ⟨rfl, hb4⟩
                  have HB4 := Lib.hid (Below.next HBOq.out hb4)
                  clear f0 f1 g0 g1 hb4
                  have BRk := BR1.out.keep HB4.out
                  have HBk := Below.next HQ1.out HB4.out
                  obtain ⟨⟨r0, r1⟩, q0, q1⟩ := BRk.cells2
                  have GL := Lib.hid (below_set2 HBk (Nat.le_refl _) (.slice none 0 0) (.slice none 0 0))
                  have GS := Lib.hid (BRk.set2 (.slice none 0 0) (.slice none 0 0))
                  clear BRk HBk
                  go_wp2
                  clear r0 r1 q0 q1
                  revert GL GS
                  generalize World.setCell _ _ _ = Wf
                  intro GL GS
                  obtain ⟨⟨e0, e1⟩, _⟩ := GS.out.cells2
                  refine bodyPost_ret (v := .tuple #[.agg #[.slice none 0 0, .slice none 0 0], .int .i64 (E)]) (by simp [results, Tryz.results32, go_sem, e0, e1]) rfl ?_
                  have HV := Lib.hid (show (⟨Va, Vc⟩ : Venn.Form) = ⟨[], []⟩ by rw [hVal2.out, if_neg hE])
                  obtain ⟨rfl, rfl⟩ : Va = [] ∧ Vc = [] := by have := HV.out; injection this with a b; exact ⟨a, b⟩
                  exact ⟨none, 0, 0, none, 0, 0, by rfl, GL.out, IsAtoms.nil _, IsInts.empty _⟩
      · have HNN := Lib.hid (show codeO (ws.map (·.data.toList)) = none by
          unfold codeO
          rw [if_neg]
          intro e
          apply h0
          rw [← e]
          unfold wordAt
          rw [List.getD, List.getD, List.getElem?_map]
          cases ws[0]? <;> rfl)
        have HE := Lib.hid (show E = 2 by rw [HE1.out, HNN.out])
        have q1 := word_ne h0
        have q2 : ((ws.getD 0 ⟨#[]⟩).toList == ([99, 111, 100, 101] : List UInt8)) = false := by rw [Bool.beq_comm]; exact q1
        have q3 : ((ws.getD 0 ⟨#[]⟩).toList != ([99, 111, 100, 101] : List UInt8)) = true := by rw [bne, q2]; rfl
        clear h0 HWD HWL HCB HE1
        generalize ws.getD 0 ⟨#[]⟩ = X at x0 x0' q1 q2 q3
        have BRk := BR1.out.keep HB2.out
        have HBk := Below.next HQ1.out HB2.out
        obtain ⟨⟨r0, r1⟩, q0, q1⟩ := BRk.cells2
        have GL := Lib.hid (below_set2 HBk (Nat.le_refl _) (.slice none 0 0) (.slice none 0 0))
        have GS := Lib.hid (BRk.set2 (.slice none 0 0) (.slice none 0 0))
        clear BRk HBk
        go_wp2
        clear r0 r1 q0 q1
        revert GL GS
        generalize World.setCell _ _ _ = Wf
        intro GL GS
        obtain ⟨⟨e0, e1⟩, _⟩ := GS.out.cells2
        refine bodyPost_ret (v := .tuple #[.agg #[.slice none 0 0, .slice none 0 0], .int .i64 (2)]) (by simp [results, Tryz.results32, go_sem, e0, e1]) rfl ?_
        have HV := Lib.hid (show (⟨Va, Vc⟩ : Venn.Form) = ⟨[], []⟩ by rw [hVal.out, HE.out, if_neg (by decide)])
        obtain ⟨rfl, rfl⟩ : Va = [] ∧ Vc = [] := by have := HV.out; injection this with a b; exact ⟨a, b⟩
        exact ⟨none, 0, 0, none, 0, 0, by rw [HE.out], GL.out, IsAtoms.nil _, IsInts.empty _⟩
    · obtain ⟨b1, b2, b3⟩ := bytes_ne hxe
      have b4 : (XE.toList != ([] : List UInt8)) = true := by rw [bne, b2]; rfl
      have HE := Lib.hid (show E = 2 by rw [hErr.out, if_pos (.inr hxe)])
      have HBr := Lib.hid (Below.refl w1.heap.size w1)
      clear hErr cl'
      have BRk := BR1.out.keep HBr.out
      have HBk := Below.next HQ1.out HBr.out
      obtain ⟨⟨r0, r1⟩, q0, q1⟩ := BRk.cells2
      have GL := Lib.hid (below_set2 HBk (Nat.le_refl _) (.slice none 0 0) (.slice none 0 0))
      have GS := Lib.hid (BRk.set2 (.slice none 0 0) (.slice none 0 0))
      clear BRk HBk
      go_wp2
      clear r0 r1 q0 q1
      revert GL GS
      generalize World.setCell _ _ _ = Wf
      intro GL GS
      obtain ⟨⟨e0, e1⟩, _⟩ := GS.out.cells2
      refine bodyPost_ret (v := .tuple #[.agg #[.slice none 0 0, .slice none 0 0], .int .i64 (2)]) (by simp [results, Tryz.results32, go_sem, e0, e1]) rfl ?_
      have HV := Lib.hid (show (⟨Va, Vc⟩ : Venn.Form) = ⟨[], []⟩ by rw [hVal.out, HE.out, if_neg (by decide)])
      obtain ⟨rfl, rfl⟩ : Va = [] ∧ Vc = [] := by have := HV.out; injection this with a b; exact ⟨a, b⟩
      exact ⟨none, 0, 0, none, 0, 0, by rw [HE.out], GL.out, IsAtoms.nil _, IsInts.empty _⟩
end Go.Proofs.YtcloppcekbdbaaaGreatDoor
