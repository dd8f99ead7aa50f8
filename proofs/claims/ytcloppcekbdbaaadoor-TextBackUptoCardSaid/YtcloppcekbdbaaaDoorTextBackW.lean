/-
  THE WALK of vennlaw2.TextBack.
-/
import Derived.Test.YtcloppcekbdbaaaDoorTextParse
import Derived.Test.YtcloppcekbdbaaaDoorPrint
import Derived.Test.YtcloppcekbdbaaaDoorSameForm
import Derived.Test.YtcloppcekbdbaaaDoorLawF
import Derived.Deep.DeepCutAuto
namespace Go.Proofs.YtcloppcekbdbaaaDoor
open Go.RowKit

def backF : Venn.Form := ⟨[⟨1, [0], [1], 0⟩, ⟨3, [2], [], 1⟩], [0, 1, 12, 10]⟩
theorem backF_text : printB backF = [115, 117, 98, 32, 65, 32, 66, 10, 108, 101, 97, 115, 116, 32, 67, 32, 49, 10, 99, 111, 100, 101, 32, 48, 32, 49, 32, 110, 111, 32, 97, 110, 100, 10] := by decide +kernel
theorem backF_ok : Venn.formChk backF = 0 := by decide +kernel
theorem backF_parse : formErr ⟨#[115, 117, 98, 32, 65, 32, 66, 10, 108, 101, 97, 115, 116, 32, 67, 32, 49, 10, 99, 111, 100, 101, 32, 48, 32, 49, 32, 110, 111, 32, 97, 110, 100, 10]⟩ = 0 ∧ formV ⟨#[115, 117, 98, 32, 65, 32, 66, 10, 108, 101, 97, 115, 116, 32, 67, 32, 49, 10, 99, 111, 100, 101, 32, 48, 32, 49, 32, 110, 111, 32, 97, 110, 100, 10]⟩ = backF := by
  have h := print_form backF_ok
  rw [backF_text] at h
  exact h
theorem atoms_two {w : World} {A : Option Addr} {n c : Nat} {a b : Venn.Atom} (h : IsAtoms w (.slice A n c) [a, b]) : ∃ ad, A = some ad ∧ n = 2 ∧ w.cell? ⟨ad.block, ad.off + 4 + 3, none⟩ = some (.int .i64 b.n) := by
  obtain ⟨A', c', hv, hr, hc⟩ := h
  injection hv with e1 e2 e3
  subst e1 e2 e3
  obtain ⟨ad, sv, tv, e, h0, h1, h2, h3, _⟩ := hr 1 b rfl
  exact ⟨ad, e, rfl, h3⟩
theorem ints_four {w : World} {A : Option Addr} {n c : Nat} {x0 x1 x2 x3 : Int} (h : IsInts w (.slice A n c) [x0, x1, x2, x3]) : ∃ ad, A = some ad ∧ n = 4 ∧ w.cell? ⟨ad.block, ad.off + 2, none⟩ = some (.int .i64 x2) := by
  obtain ⟨A', c', hv, hr, hc⟩ := h
  injection hv with e1 e2 e3
  subst e1 e2 e3
  obtain ⟨ad, e, h⟩ := hr 2 _ rfl
  exact ⟨ad, e, rfl, h⟩
set_option maxHeartbeats 8000000 in
set_option maxRecDepth 100000 in
theorem textBack_walk (sa sc : Value) (l : List Venn.Atom) (c : List Int) (str : ByteArray) (w : World) (ha : IsAtoms w sa l) (hc : IsInts w sc c) (hsz : str.size < 4294967281)
    (hk : KindsOk w) (htab : TabOk w) (hwo : WordsOk w) (he : ErrsOk w) (hm : MaxOk w) :
    Calls Tryd.prog 3 #[.agg #[sa, sc], .string str] w (Keeps (.bool true) w) := by
  have HA := Lib.hid ha
  have HC := Lib.hid hc
  have HSZ := Lib.hid hsz
  obtain ⟨A, cA, rfl⟩ := ha.slice
  obtain ⟨C, cC, rfl⟩ := hc.slice
  have HPA := Lib.hid (fun x (hx : x.size < 4294967281) W (hW : Below w.heap.size w W) => text_Parse x W hx (hwo.keep hW) (hk.keep hW) (htab.keep hW) (he.keep hW) (hm.keep hW))
  have HPR := Lib.hid (fun sa sc l c W (hW : Below w.heap.size w W) (h1 : IsAtoms W sa l) (h2 : IsInts W sc c) => text_Print sa sc l c W h1 h2 (hk.keep hW) (htab.keep hW) (hwo.keep hW))
  have HFC := Lib.hid (fun W (hW : Below w.heap.size w W) => form_Check _ _ l c W (HA.out.keep hW) (HC.out.keep hW) (hk.keep hW))
  clear ha hc hsz hk htab hwo he hm
  have BA0 := Lib.hid (Blk.new w 25 #[.slice A l.length cA, .slice C c.length cC])
  have hb0 : Below w.heap.size w (w.alloc (.cells #[.slice A l.length cA, .slice C c.length cC] 25)) := by (repeat' (first | (with_reducible exact Below.refl _ _) | (with_reducible assumption) | (with_reducible refine Below.next ?_ (by with_reducible assumption)) | (with_reducible refine Below.drew ?_) | (with_reducible refine Below.laid ?_ _) | (with_reducible refine Below.setCell ?_ ?_ _) | (with_reducible refine size_of ?_) | (with_reducible refine Nat.le_succ_of_le ?_) | go_size))
  go_enter Tryd.func3, Tryd.ntmps3
  go_upto_region 1 with (fail)
  revert BA0 hb0
  generalize w.alloc (.cells #[.slice A l.length cA, .slice C c.length cC] 25) = w0
  intro BA0 hb0
  have HPF := Lib.hid (HPA.out ⟨#[115, 117, 98, 32, 65, 32, 66, 10, 108, 101, 97, 115, 116, 32, 67, 32, 49, 10, 99, 111, 100, 101, 32, 48, 32, 49, 32, 110, 111, 32, 97, 110, 100, 10]⟩ (by decide) w0 hb0)
  rw [backF_parse.1, backF_parse.2] at HPF
  go_wp2_with fail
  refine (HPF.out).mono ?_
  rintro e w1 ⟨FA, fn, fc, GA, gn, gc, rfl, hb1, hF, hG⟩
  obtain ⟨fd, rfl, rfl, hf⟩ := atoms_two (show IsAtoms w1 (.slice FA fn fc) [⟨1, [0], [1], 0⟩, ⟨3, [2], [], 1⟩] from hF)
  obtain ⟨gd, rfl, rfl, hg⟩ := ints_four (show IsInts w1 (.slice GA gn gc) [0, 1, 12, 10] from hG)
  dsimp only at hf
  have hq1 := Below.next hb0 hb1
  have hal1 : Below w1.heap.size w1 (w1.alloc (.cells #[.slice (some fd) 2 fc, .slice (some gd) 4 gc] 25)) := (Below.refl _ _).alloc (Nat.le_refl _) _
  have B1 := Blk.new w1 25 #[.slice (some fd) 2 fc, .slice (some gd) 4 gc]
  have f0 := cell_keep hal1 hf
  have f0' : (w1.alloc (.cells #[.slice (some fd) 2 fc, .slice (some gd) 4 gc] 25)).cell? ⟨fd.block, fd.off + 7, none⟩ = some (.int .i64 1) := f0
  have g0 := cell_keep hal1 hg
  have hq2 := Below.next hq1 hal1
  have BA2 := Lib.hid ((BA0.out.keep hb1).keep hal1)
  clear hf hg hF hG BA0 HPF
  rw [errV_zero rfl]
  go_upto_region 2 with (fail)
  clear hb1 hq1
  revert hal1 B1 f0 f0' g0 hq2 BA2
  generalize w1.alloc (.cells #[.slice (some fd) 2 fc, .slice (some gd) 4 gc] 25) = w2
  intro hal1 B1 f0 f0' g0 hq2 BA2
  obtain ⟨⟨b0, b1⟩, _⟩ := B1.cells2
  go_upto_region 4 with (fail)
  clear b0 b1 f0 f0' g0 B1 hal1 hb0
  have HBK := Lib.hid (form_print (s := str))
  have HP2 := Lib.hid (HPA.out str HSZ.out w2 hq2)
  generalize formErr str = E at HBK HP2
  generalize formV str = V at HBK HP2
  obtain ⟨xl, xc⟩ := V
  go_wp2_with fail
  refine (HP2.out).mono ?_
  rintro e w3 ⟨XA, xn, xk, XC, yn, yk, rfl, hb3, hX, hY⟩
  dsimp only at hX hY ⊢
  have hal3 : Below w3.heap.size w3 (w3.alloc (.cells #[.slice XA xn xk, .slice XC yn yk] 25)) := (Below.refl _ _).alloc (Nat.le_refl _) _
  have BX := Lib.hid (Blk.new w3 25 #[.slice XA xn xk, .slice XC yn yk])
  obtain ⟨EV, hEV⟩ : ∃ v, v = errV E := ⟨_, rfl⟩
  have HEV := Lib.hid hEV
  rw [← hEV]
  clear hEV HP2
  have BA3 := Lib.hid (BA2.out.keep (Below.next hb3 hal3))
  have HX := Lib.hid (hX.keep hal3)
  have HY := Lib.hid (hY.keep hal3)
  have HQ4 := Lib.hid (Below.next hq2 (Below.next hb3 hal3))
  clear hX hY BA2 hb3 hq2
  go_upto_region 5 with (fail)
  revert hal3 BX BA3 HX HY HQ4
  generalize w3.alloc (.cells #[.slice XA xn xk, .slice XC yn yk] 25) = w4
  intro hal3 BX BA3 HX HY HQ4
  obtain ⟨BB, hBB⟩ : ∃ b, b = decide (E = 0) := ⟨_, rfl⟩
  have HBB := Lib.hid hBB
  clear hBB hal3
  go_cut [53] (fun x wx => x = .bool BB ∧ w4 = wx)
  case first =>
    as_aux_lemma =>
      by_cases hE : E = 0
      · obtain rfl : EV = .nilIface := by rw [HEV.out, hE]; exact errV_zero rfl
        obtain rfl : BB = true := by rw [HBB.out, hE]; rfl
        go_wp2
        go_meet
        case rel => exact ⟨rfl, rfl⟩
      · obtain rfl : EV = _ := HEV.out.trans (errV_ne hE)
        obtain rfl : BB = false := by rw [HBB.out]; exact decide_eq_false hE
        go_wp2
        go_meet
        case rel => exact ⟨rfl, rfl⟩
  case rest =>
  obtain ⟨rfl, rfl⟩ := hcut
  go_upto_if 53 with (fail)
  go_cut [9, 10] (fun x y wx => Below w4.heap.size w4 wx)
  case first =>
    as_aux_lemma =>
      cases BB with
      | true =>
        have hE : E = 0 := of_decide_eq_true HBB.out.symm
        obtain ⟨hc, htx⟩ := HBK.out hE
        have HPV := Lib.hid (show printF ⟨xl, xc⟩ = .tuple #[.string str, .nilIface] by
          have e : (⟨(printB ⟨xl, xc⟩).toArray⟩ : ByteArray) = str := by rw [htx]
          unfold printF; rw [if_pos hc, e])
        have HP3 := Lib.hid (HPR.out _ _ xl xc w4 HQ4.out HX.out HY.out)
        rw [HPV.out] at HP3
        have hss : (str != str) = false := by rw [bne, bytes_beq]; simp
        have hss' : (str.toList != str.toList) = false := by simp
        obtain ⟨⟨c0, c1⟩, _⟩ := BX.out.cells2
        clear hc htx hE HPV
        go_wp2_with fail
        refine (HP3.out).mono ?_
        rintro e w5 ⟨rfl, hb5⟩
        clear c0 c1
        go_wp2
        go_meet
        case rel => exact hb5
      | false =>
        go_wp2
        go_meet
        case rel => exact Below.refl _ _
  case rest =>
  obtain ⟨w5, rfl⟩ : ∃ w5 : World, w5 = wc := ⟨_, rfl⟩
  have HQ5 := Lib.hid (Below.next HQ4.out hcut)
  have BA5 := Lib.hid (BA3.out.keep hcut)
  clear hcut HBK HEV HBB BX HX HY BA3 HQ4
  obtain ⟨⟨a0, a1⟩, _⟩ := BA5.out.cells2
  have HP5 := Lib.hid (HPR.out _ _ l c w5 HQ5.out (HA.out.keep HQ5.out) (HC.out.keep HQ5.out))
  by_cases hF : Venn.formChk ⟨l, c⟩ = 0
  · obtain ⟨hpp1, hpp2⟩ := print_form hF
    have HSZ2 := Lib.hid (show (⟨(printB ⟨l, c⟩).toArray⟩ : ByteArray).size < 4294967281 by
      have := (print_count hF).2
      show (printB ⟨l, c⟩).toArray.size < _
      simp; omega)
    have HPV := Lib.hid (show printF ⟨l, c⟩ = .tuple #[.string ⟨(printB ⟨l, c⟩).toArray⟩, .nilIface] by unfold printF; rw [if_pos hF])
    rw [HPV.out] at HP5
    have HPX := Lib.hid (fun W (hW : Below w.heap.size w W) => HPA.out ⟨(printB ⟨l, c⟩).toArray⟩ HSZ2.out W hW)
    rw [hpp1, hpp2] at HPX
    clear hpp1 hpp2 HPV HSZ2 hF
    generalize (⟨(printB ⟨l, c⟩).toArray⟩ : ByteArray) = TX at HP5 HPX
    go_wp2_with fail
    refine (HP5.out).mono ?_
    rintro e w6 ⟨rfl, hb6⟩
    have HQ6 := Lib.hid (Below.next HQ5.out hb6)
    have BA6 := Lib.hid (BA5.out.keep hb6)
    clear a0 a1 hb6 BA5
    go_wp2_with fail
    refine (HPX.out _ HQ6.out).mono ?_
    rintro e w7 ⟨XA, xn, xk, XC, yn, yk, rfl, hb7, hX, hY⟩
    dsimp only at hX hY ⊢
    rw [errV_zero rfl]
    have hal7 : Below w7.heap.size w7 (w7.alloc (.cells #[.slice XA xn xk, .slice XC yn yk] 25)) := (Below.refl _ _).alloc (Nat.le_refl _) _
    have BX := Blk.new w7 25 #[.slice XA xn xk, .slice XC yn yk]
    have BA8 := BA6.out.keep (Below.next hb7 hal7)
    have HQ8 := Lib.hid (Below.next HQ6.out (Below.next hb7 hal7))
    have HX := Lib.hid (hX.keep hal7)
    have HY := Lib.hid (hY.keep hal7)
    clear hX hY hb7
    go_upto_region 13 with (fail)
    revert hal7 BX BA8 HQ8 HX HY
    generalize w7.alloc (.cells #[.slice XA xn xk, .slice XC yn yk] 25) = w8
    intro hal7 BX BA8 HQ8 HX HY
    clear hal7
    obtain ⟨⟨a0, a1⟩, _⟩ := BA8.cells2
    obtain ⟨⟨c0, c1⟩, _⟩ := BX.cells2
    go_wp2_with fail
    refine (same_Form _ _ _ _ l c w8 HX.out HY.out (HA.out.keep HQ8.out) (HC.out.keep HQ8.out)).mono ?_
    rintro e w9 ⟨rfl, hb9⟩
    go_wp2
    go_ret
    exact ⟨rfl, Below.next HQ8.out hb9⟩
  · have HNE := Lib.hid (errV_ne hF)
    have HPV := Lib.hid (show printF ⟨l, c⟩ = .tuple #[.string ⟨#[]⟩, errV (Venn.formChk ⟨l, c⟩)] by unfold printF; rw [if_neg hF])
    rw [HPV.out, HNE.out] at HP5
    rw [HNE.out] at HFC
    clear HPV hF
    go_wp2_with fail
    refine (HP5.out).mono ?_
    rintro e w6 ⟨rfl, hb6⟩
    have HQ6 := Lib.hid (Below.next HQ5.out hb6)
    have BA6 := BA5.out.keep hb6
    clear a0 a1 hb6 BA5
    obtain ⟨⟨a0, a1⟩, _⟩ := BA6.cells2
    go_wp2_with fail
    refine (HFC.out _ HQ6.out).mono ?_
    rintro e w7 ⟨rfl, hb7⟩
    go_wp2
    go_ret
    exact ⟨rfl, Below.next HQ6.out hb7⟩
end Go.Proofs.YtcloppcekbdbaaaDoor
