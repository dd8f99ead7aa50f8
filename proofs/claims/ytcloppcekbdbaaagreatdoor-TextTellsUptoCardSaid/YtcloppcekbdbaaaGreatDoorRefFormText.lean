/-
  THE WALK of the reference's FormText.
-/
import Derived.Test.YtcloppcekbdbaaaGreatDoorRefAtomText
import Derived.Test.YtcloppcekbdbaaaGreatDoorPrint
import Derived.Test.YtcloppcekbdbaaaGreatDoorRefG
namespace Go.Proofs.YtcloppcekbdbaaaGreatDoor
open Go.RowKit

theorem wordS_digits {s : Int} (h : 0 ≤ s ∧ s < 10) : wordS s = Lib.decDigits s.toNat := by
  unfold wordS
  rw [if_neg (by omega), if_neg (by omega), if_neg (by omega), if_neg (by omega), Lib.itoa, if_neg (by omega)]
set_option maxHeartbeats 8000000 in
set_option maxRecDepth 100000 in
theorem ref_FormText (sa sc : Value) (l : List Venn.Atom) (c : List Int) (w : World) (ha : IsAtoms w sa l) (hc : IsInts w sc c) (hf : Venn.formChk ⟨l, c⟩ = 0) :
    Calls Tryz.prog 30 #[.agg #[sa, sc]] w (Keeps (.string ⟨(printB ⟨l, c⟩).toArray⟩) w) := by
  obtain ⟨A, cA, rfl, hra, _, _⟩ := ha
  obtain ⟨C, cC, rfl, hrc, _, _⟩ := hc
  have HRA := Lib.hid hra
  have HRC := Lib.hid hrc
  have HB0 := Lib.hid (Blk.new w 38 #[.slice A l.length cA, .slice C c.length cC])
  have hb0 : Below w.heap.size w (w.alloc (.cells #[.slice A l.length cA, .slice C c.length cC] 38)) := by (repeat' (first | (with_reducible exact Below.refl _ _) | (with_reducible assumption) | (with_reducible refine Below.next ?_ (by with_reducible assumption)) | (with_reducible refine Below.drew ?_) | (with_reducible refine Below.laid ?_ _) | (with_reducible refine Below.setCell ?_ ?_ _) | (with_reducible refine size_of ?_) | (with_reducible refine Nat.le_succ_of_le ?_) | go_size))
  obtain ⟨hl0, hl6, hc0, hc20, p5, p6, p7⟩ := Venn.formChk_parts hf
  have hl6' : l.length ≤ 6 := hl6
  have hc20' : c.length ≤ 20 := hc20
  have HAT := Lib.hid (show ∀ a ∈ l, Venn.atomChk a = 0 from fun x hx => Venn.atomsChk_mem p5 x hx)
  have HSG := Lib.hid (print_signs hf)
  simp only at HSG
  have HPB := Lib.hid (show printB ⟨l, c⟩ = (linesB l ++ [99, 111, 100, 101] ++ codeB c) ++ [10] from rfl)
  rw [HPB.out]
  clear hra hrc hf hl0 hl6 hc0 hc20 p5 p6 p7 HPB
  go_enter Tryz.func30, Tryz.ntmps30
  go_upto_region 2 with (fail)
  revert HB0 hb0
  generalize w.alloc (.cells #[.slice A l.length cA, .slice C c.length cC] 38) = w0
  intro HB0 hb0
  have HQ0 := Lib.hid hb0
  clear hb0
  go_wp2_with fail
  go_loopw [3, 4] (fun s i wr => ∃ k : Nat, k ≤ l.length ∧ i = .int .i64 k ∧ s = .string ⟨(linesB (l.take k)).toArray⟩ ∧ Below w0.heap.size w0 wr) (fun _ i _ => l.length - (intOf i).toNat)
  case atStart => exact ⟨0, Nat.zero_le _, rfl, rfl, Below.refl _ _⟩
  case round =>
    obtain ⟨k, hk, rfl, rfl, hb⟩ := hrel
    obtain ⟨wo, rfl⟩ : ∃ wo : World, wo = wr := ⟨_, rfl⟩
    have HB := Lib.hid hb
    have hq := Below.next HQ0.out hb
    have BF := HB0.out.keep hb
    obtain ⟨⟨b0, b1⟩, _⟩ := BF.cells2
    clear hb
    by_cases hlt : k < l.length
    · obtain ⟨⟨aw, aS, aT, an⟩, hx⟩ : ∃ x, l[k]? = some x := ⟨l[k], List.getElem?_eq_getElem hlt⟩
      obtain ⟨bd, sv, tv, rfl, g0, g1, g2, g3, hs, ht⟩ := HRA.out k _ hx
      have hac := HAT.out _ (List.mem_of_getElem? hx)
      have HTX := Lib.hid (ref_AtomText aw an sv tv aS aT wo (hs.keep hq) (ht.keep hq) hac)
      have hle := textA_le hac
      have HT := Lib.hid (show linesB (l.take (k + 1)) = (linesB (l.take k) ++ textA ⟨aw, aS, aT, an⟩) ++ [10] by
        rw [linesB, List.take_add_one, hx, List.flatMap_append]; simp [linesB])
      have hll := linesB_len (l.take k) (fun a ha => HAT.out a (List.mem_of_mem_take ha))
      have hlk : (l.take k).length ≤ 6 := by rw [List.length_take]; omega
      have g0 := cell_keep hq g0
      have g1 := cell_keep hq g1
      have g2 := cell_keep hq g2
      have g3 := cell_keep hq g3
      obtain ⟨S1, cS1, rfl, _⟩ := hs
      obtain ⟨T1, cT1, rfl, _⟩ := ht
      simp at g0 g1 g2 g3
      have hadd1 : ∀ W : World, (Op.stringOp .add ⟨(linesB (l.take k)).toArray⟩ ⟨(textA ⟨aw, aS, aT, an⟩).toArray⟩).run Tryz.prog W = .ok (.string ⟨(linesB (l.take k) ++ textA ⟨aw, aS, aT, an⟩).toArray⟩) W := fun W => run_string_add_lists W _ _ (by omega) (by omega)
      have hadd2 : ∀ W : World, (Op.stringOp .add ⟨(linesB (l.take k) ++ textA ⟨aw, aS, aT, an⟩).toArray⟩ ⟨#[10]⟩).run Tryz.prog W = .ok (.string ⟨((linesB (l.take k) ++ textA ⟨aw, aS, aT, an⟩) ++ [10]).toArray⟩) W := fun W => run_string_add_lists W _ [10] (by rw [List.length_append]; omega) (by decide)
      generalize hLB : linesB (l.take k) = LB at HT hadd1 hadd2
      generalize hTA : textA ⟨aw, aS, aT, an⟩ = TA at HTX HT hadd1 hadd2
      have hk1 : (k : Int) < (l.length : Int) := by omega
      have hk0 : (0 : Int) ≤ (k : Int) := by omega
      have hki : IntKind.i64.wrap ((k : Int) + 1) = (k : Int) + 1 := IntWalk.i64_in _ (by omega)
      clear hx hac hle hll hlk hLB hTA
      go_wp2_with fail
      refine (HTX.out).mono ?_
      rintro e w3 ⟨rfl, hb3⟩
      clear g0 g1 g2 g3 b0 b1
      go_wp2
      go_roundw
      case rel => exact ⟨k + 1, by omega, by go_num, by rw [HT.out]; simp, Below.next HB.out hb3⟩
      case measure => simp [intOf]; omega
    · have hk' : k = l.length := by omega
      have HTK := Lib.hid (show l.take k = l by rw [hk', List.take_of_length_le (Nat.le_refl _)])
      rw [HTK.out]
      have hll := linesB_len l HAT.out
      have HLL := Lib.hid (show (linesB l).length ≤ 510 by omega)
      have hk1 : ¬ (k : Int) < (l.length : Int) := by omega
      clear hk' HTK hll
      generalize hLB : linesB l = LB at HLL ⊢
      have HLB := Lib.hid hLB
      clear hLB
      have haddC : ∀ W : World, (Op.stringOp .add ⟨LB.toArray⟩ ⟨#[99, 111, 100, 101]⟩).run Tryz.prog W = .ok (.string ⟨(LB ++ [99, 111, 100, 101]).toArray⟩) W := fun W => run_string_add_lists W LB [99, 111, 100, 101] (by have := HLL.out; omega) (by decide)
      go_wp2_with fail
      have HLC := Lib.hid (show (LB ++ [99, 111, 100, 101]).length ≤ 514 by rw [List.length_append]; have := HLL.out; simp only [List.length_cons, List.length_nil]; omega)
      clear haddC
      generalize hLC : LB ++ [99, 111, 100, 101] = LC at HLC ⊢
      have HLCe := Lib.hid hLC
      clear hLC HLL b0 b1
      have HBW := Lib.hid BF
      clear BF
      go_loopw [3, 6] (fun s i wr => ∃ k : Nat, k ≤ c.length ∧ i = .int .i64 k ∧ s = .string ⟨(LC ++ codeB (c.take k)).toArray⟩ ∧ wo = wr) (fun _ i _ => c.length - (intOf i).toNat)
      case atStart => exact ⟨0, Nat.zero_le _, rfl, by rw [List.take_zero]; show _ = Value.string ⟨(LC ++ []).toArray⟩; rw [List.append_nil], rfl⟩
      case round =>
        obtain ⟨m, hm, rfl, rfl, rfl⟩ := hrel
        obtain ⟨⟨b0, b1⟩, _⟩ := HBW.out.cells2
        by_cases hmt : m < c.length
        · obtain ⟨ad, rfl, hcell0⟩ := HRC.out.int hmt
          have hcell := cell_keep hq hcell0
          have hsg := HSG.out _ (List.getElem_mem hmt)
          have HT := Lib.hid (show LC ++ codeB (c.take (m + 1)) = ((LC ++ codeB (c.take m)) ++ [32]) ++ wordS c[m] by
            rw [codeB, List.take_add_one, List.getElem?_eq_getElem hmt, List.flatMap_append]; simp [codeB])
          have hcl := codeB_len (c.take m) (fun x hx => HSG.out x (List.mem_of_mem_take hx))
          have hck : (c.take m).length ≤ 20 := by rw [List.length_take]; omega
          have hwl := wordS_le hsg
          have HLP := Lib.hid (show (LC ++ codeB (c.take m)).length ≤ 1000 by rw [List.length_append]; have := HLC.out; omega)
          generalize LC ++ codeB (c.take m) = P at HT HLP ⊢
          generalize c[m] = sg at hcell hcell0 hsg HT hwl
          have hm1 : (m : Int) < (c.length : Int) := by omega
          have hm0 : (0 : Int) ≤ (m : Int) := by omega
          have hmi : IntKind.i64.wrap ((m : Int) + 1) = (m : Int) + 1 := IntWalk.i64_in _ (by omega)
          have hadd1 : ∀ W : World, (Op.stringOp .add ⟨P.toArray⟩ ⟨#[32]⟩).run Tryz.prog W = .ok (.string ⟨(P ++ [32]).toArray⟩) W := fun W => run_string_add_lists W P [32] (by have := HLP.out; omega) (by decide)
          have hadd2 : ∀ (q : List UInt8) (W : World), q.length ≤ 4 → (Op.stringOp .add ⟨(P ++ [32]).toArray⟩ ⟨q.toArray⟩).run Tryz.prog W = .ok (.string ⟨((P ++ [32]) ++ q).toArray⟩) W := fun q W hq => run_string_add_lists W _ q (by rw [List.length_append]; have := HLP.out; simp only [List.length_cons, List.length_nil]; omega) (by omega)
          clear hcell0 hcl hck hmt
          by_cases h10 : sg < 10
          · have hn0 : (sg == 10) = false := beq_eq_false_iff_ne.2 (by omega)
            have hn1 : (sg == 11) = false := beq_eq_false_iff_ne.2 (by omega)
            have hn2 : (sg == 12) = false := beq_eq_false_iff_ne.2 (by omega)
            have hn3 : (sg == 13) = false := beq_eq_false_iff_ne.2 (by omega)
            have HWD := Lib.hid (wordS_digits ⟨hsg.1, h10⟩)
            have HDG := Lib.hid (ref_Digits sg.toNat wo (by omega))
            rw [show ((sg.toNat : Nat) : Int) = sg by omega] at HDG
            rw [HWD.out] at hwl HT
            have hadd3 := fun W => hadd2 (Lib.decDigits sg.toNat) W hwl
            clear HWD hadd2
            generalize Lib.decDigits sg.toNat = DG at HDG HT hwl hadd3
            clear h10
            go_wp2_with fail
            refine (HDG.out).mono ?_
            rintro e w3 ⟨rfl, rfl⟩
            go_wp2
            go_roundw
            case rel => exact ⟨m + 1, by omega, by go_num, by rw [HT.out]; simp, by first | rfl | trivial⟩
            case measure => simp [intOf]; omega
          · rcases (by omega : sg = 10 ∨ sg = 11 ∨ sg = 12 ∨ sg = 13) with rfl | rfl | rfl | rfl
            · have hadd3 := fun W => hadd2 [97, 110, 100] W (by decide)
              clear hadd2
              go_wp2
              go_roundw
              case rel => exact ⟨m + 1, by omega, by go_num, by rw [HT.out]; simp [wordS], by first | rfl | trivial⟩
              case measure => simp [intOf]; omega
            · have hadd3 := fun W => hadd2 [111, 114] W (by decide)
              clear hadd2
              go_wp2
              go_roundw
              case rel => exact ⟨m + 1, by omega, by go_num, by rw [HT.out]; simp [wordS], by first | rfl | trivial⟩
              case measure => simp [intOf]; omega
            · have hadd3 := fun W => hadd2 [110, 111] W (by decide)
              clear hadd2
              go_wp2
              go_roundw
              case rel => exact ⟨m + 1, by omega, by go_num, by rw [HT.out]; simp [wordS], by first | rfl | trivial⟩
              case measure => simp [intOf]; omega
            · have hadd3 := fun W => hadd2 [116, 104, 101, 110] W (by decide)
              clear hadd2
              go_wp2
              go_roundw
              case rel => exact ⟨m + 1, by omega, by go_num, by rw [HT.out]; simp [wordS], by first | rfl | trivial⟩
              case measure => simp [intOf]; omega
        · have hm' : m = c.length := by omega
          have HTK := Lib.hid (show c.take m = c by rw [hm', List.take_of_length_le (Nat.le_refl _)])
          rw [HTK.out]
          have hcl := codeB_len c HSG.out
          have hm1 : ¬ (m : Int) < (c.length : Int) := by omega
          have haddE : ∀ W : World, (Op.stringOp .add ⟨(LC ++ codeB c).toArray⟩ ⟨#[10]⟩).run Tryz.prog W = .ok (.string ⟨((LC ++ codeB c) ++ [10]).toArray⟩) W := fun W => run_string_add_lists W _ [10] (by rw [List.length_append]; have := HLC.out; omega) (by decide)
          generalize hCB : codeB c = CB at haddE ⊢
          have HCB := Lib.hid hCB
          clear hm' HTK hcl hCB
          go_wp2
          go_ret
          exact ⟨by rw [← HCB.out, ← HLCe.out, ← HLB.out]; simp, hq⟩
end Go.Proofs.YtcloppcekbdbaaaGreatDoor
