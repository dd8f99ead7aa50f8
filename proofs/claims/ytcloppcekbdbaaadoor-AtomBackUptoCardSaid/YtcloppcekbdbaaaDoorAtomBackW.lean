/-
  THE WALK of vennlaw1.AtomBack.
-/
import Derived.Test.YtcloppcekbdbaaaDoorParseAtom
import Derived.Test.YtcloppcekbdbaaaDoorVennAtomBack
import Derived.Test.YtcloppcekbdbaaaDoorSameForm
import Derived.Test.YtcloppcekbdbaaaDoorLawF
import Derived.Deep.DeepCutAuto
import Derived.Deep.CutBlock
namespace Go.Proofs.YtcloppcekbdbaaaDoor
open Go.RowKit

theorem back_fact : textA ⟨5, [0], [1], -3⟩ = [110, 111, 109, 111, 114, 101, 32, 65, 32, 66, 32, 45, 51] := by decide +kernel
theorem back_parse : parseAChk (readA (wordsOf ⟨#[110, 111, 109, 111, 114, 101, 32, 65, 32, 66, 32, 45, 51]⟩)) = 0 ∧ parseAV (readA (wordsOf ⟨#[110, 111, 109, 111, 114, 101, 32, 65, 32, 66, 32, 45, 51]⟩)) = ⟨5, [0], [1], -3⟩ := by
  have h := parse_print (a := ⟨5, [0], [1], -3⟩) (by decide)
  rw [back_fact] at h
  exact h
theorem ints_single {w : World} {A : Option Addr} {n c : Nat} {x : Int} (h : IsInts w (.slice A n c) [x]) : ∃ ad, A = some ad ∧ n = 1 ∧ w.cell? (ad.add 0) = some (.int .i64 x) := by
  obtain ⟨A', c', hv, hr, hc⟩ := h
  injection hv with e1 e2 e3
  subst e1 e2 e3
  obtain ⟨ad, e, h⟩ := hr 0 _ rfl
  exact ⟨ad, e, rfl, h⟩
theorem addr_zero (ad : Addr) : ad.add 0 = ad := by unfold Addr.add; split <;> (cases ad; simp_all)
set_option maxHeartbeats 8000000 in
set_option maxRecDepth 100000 in
theorem atomBack_walk (what n : Int) (sv tv pv qv : Value) (s t p q : List Int) (str : ByteArray) (th a b d : Int) (w : World) (hs : IsInts w sv s) (ht : IsInts w tv t) (hp : IsInts w pv p) (hq : IsInts w qv q) (hsz : str.size < 4294967281)
    (hk : KindsOk w) (htab : TabOk w) (he : ErrsOk w) (hm : MaxOk w) :
    Calls Tryd.prog 4 #[.agg #[.int .i64 what, sv, tv, .int .i64 n], .string str, .agg #[.int .i64 th, .int .i64 a, .int .i64 b, .int .i64 d], pv, qv] w (Keeps (.bool true) w) := by
  have HS := Lib.hid hs
  have HT := Lib.hid ht
  have HP := Lib.hid hp
  have HQ := Lib.hid hq
  have HK := Lib.hid hk
  have HTB := Lib.hid htab
  have HER := Lib.hid he
  have HMX := Lib.hid hm
  have HSZ := Lib.hid hsz
  obtain ⟨SA, kS, rfl⟩ := hs.slice
  obtain ⟨TA, kT, rfl⟩ := ht.slice
  obtain ⟨PA, kP, rfl⟩ := hp.slice
  obtain ⟨QA, kQ, rfl⟩ := hq.slice
  have HPA := Lib.hid (fun x (hx : x.size < 4294967281) W (hW : Below w.heap.size w W) => atom_Parse x W hx (HK.out.keep hW) (HTB.out.keep hW) (HER.out.keep hW) (HMX.out.keep hW))
  have HPR := Lib.hid (fun wh n sv tv s t W (hW : Below w.heap.size w W) (h1 : IsInts W sv s) (h2 : IsInts W tv t) => atom_Print wh n sv tv s t W h1 h2 (HK.out.keep hW) (HTB.out.keep hW))
  have HHO := Lib.hid (fun wh n sv tv s t W (hW : Below w.heap.size w W) (h1 : IsInts W sv s) (h2 : IsInts W tv t) => atom_Holds wh n sv tv s t th a b d W h1 h2 (HK.out.keep hW))
  clear hs ht hp hq hk htab he hm hsz
  have BA0 := Lib.hid ((Blk.new w 31 #[.int .i64 what, .slice SA s.length kS, .slice TA t.length kT, .int .i64 n]).alloc (.cells #[.int .i64 th, .int .i64 a, .int .i64 b, .int .i64 d] 39))
  have BW0 := Lib.hid (Blk.newAt (w := w.alloc (.cells #[.int .i64 what, .slice SA s.length kS, .slice TA t.length kT, .int .i64 n] 31)) (g := w.heap.size + 1) (by simp) 39 #[.int .i64 th, .int .i64 a, .int .i64 b, .int .i64 d])
  have hb0 : Below w.heap.size w ((w.alloc (.cells #[.int .i64 what, .slice SA s.length kS, .slice TA t.length kT, .int .i64 n] 31)).alloc (.cells #[.int .i64 th, .int .i64 a, .int .i64 b, .int .i64 d] 39)) := by (repeat' (first | (with_reducible exact Below.refl _ _) | (with_reducible assumption) | (with_reducible refine Below.next ?_ (by with_reducible assumption)) | (with_reducible refine Below.drew ?_) | (with_reducible refine Below.laid ?_ _) | (with_reducible refine Below.setCell ?_ ?_ _) | (with_reducible refine size_of ?_) | (with_reducible refine Nat.le_succ_of_le ?_) | go_size))
  go_enter Tryd.func4, Tryd.ntmps4
  go_upto_region 1 with (fail)
  revert BA0 BW0 hb0
  generalize (w.alloc (.cells #[.int .i64 what, .slice SA s.length kS, .slice TA t.length kT, .int .i64 n] 31)).alloc (.cells #[.int .i64 th, .int .i64 a, .int .i64 b, .int .i64 d] 39) = w0
  intro BA0 BW0 hb0
  go_wp2_with fail
  refine (HPA.out ⟨#[110, 111, 109, 111, 114, 101, 32, 65, 32, 66, 32, 45, 51]⟩ (by decide) _ hb0).mono ?_
  rw [back_parse.1, back_parse.2]
  rintro e w1 ⟨FA, fn, fc, FB, gn, gc, rfl, hb1, _, hF⟩
  obtain ⟨fd, rfl, rfl, hf0⟩ := ints_single hF
  dsimp only
  have hq1 := Below.next hb0 hb1
  have hal1 : Below w1.heap.size w1 (w1.alloc (.cells #[.int .i64 5, .slice FA fn fc, .slice (some fd) 1 gc, .int .i64 (-3)] 31)) := (Below.refl _ _).alloc (Nat.le_refl _) _
  have B1 := Blk.new w1 31 #[.int .i64 5, .slice FA fn fc, .slice (some fd) 1 gc, .int .i64 (-3)]
  have f0 := cell_keep hal1 hf0
  have f0' := f0
  rw [addr_zero] at f0'
  have hq2 := Below.next hq1 hal1
  have BA2 := Lib.hid ((BA0.out.keep hb1).keep hal1)
  have BW2 := Lib.hid ((BW0.out.keep hb1).keep hal1)
  clear hf0 hF BA0 BW0
  rw [errV_zero rfl]
  go_upto_region 2 with (fail)
  revert hal1 B1 f0 f0' hq2 BA2 BW2
  generalize w1.alloc (.cells #[.int .i64 5, .slice FA fn fc, .slice (some fd) 1 gc, .int .i64 (-3)] 31) = w2
  intro hal1 B1 f0 f0' hq2 BA2 BW2
  obtain ⟨b0, b1, b2, b3⟩ := B1.cells4
  go_upto_region 4 with (fail)
  clear b0 b1 b2 b3 f0 f0' B1 hal1 hb1 hq1 hb0
  go_wp2_with fail
  refine (HPA.out str HSZ.out _ hq2).mono ?_
  have HBK := Lib.hid (print_parse (s := str))
  generalize parseAChk (readA (wordsOf str)) = E at HBK ⊢
  generalize parseAV (readA (wordsOf str)) = V at HBK ⊢
  obtain ⟨xw, xs, xt, xm⟩ := V
  rintro e w3 ⟨XA, xn, xc, XB, yn, yc, rfl, hb3, hX, hY⟩
  dsimp only at hX hY ⊢
  have hal3 : Below w3.heap.size w3 (w3.alloc (.cells #[.int .i64 xw, .slice XA xn xc, .slice XB yn yc, .int .i64 xm] 31)) := (Below.refl _ _).alloc (Nat.le_refl _) _
  have BX := Lib.hid (Blk.new w3 31 #[.int .i64 xw, .slice XA xn xc, .slice XB yn yc, .int .i64 xm])
  obtain ⟨EV, hEV⟩ : ∃ v, v = errV E := ⟨_, rfl⟩
  have HEV := Lib.hid hEV
  rw [← hEV]
  clear hEV
  have hq3 := Below.next hq2 hb3
  have BA3 := Lib.hid (BA2.out.keep (Below.next hb3 hal3))
  have BW3 := Lib.hid (BW2.out.keep (Below.next hb3 hal3))
  have HX := Lib.hid (hX.keep hal3)
  have HY := Lib.hid (hY.keep hal3)
  have hq4 := Below.next hq3 hal3
  clear hX hY BA2 BW2 hb3
  go_upto_region 5 with (fail)
  revert hal3 BX BA3 BW3 HX HY hq4
  generalize w3.alloc (.cells #[.int .i64 xw, .slice XA xn xc, .slice XB yn yc, .int .i64 xm] 31) = w4
  intro hal3 BX BA3 BW3 HX HY hq4
  have HQ4 := Lib.hid hq4
  obtain ⟨BB, hBB⟩ : ∃ b, b = decide (E = 0) := ⟨_, rfl⟩
  have HBB := Lib.hid hBB
  clear hBB hal3 hq2 hq3 hq4
  go_cut [69] (fun x wx => x = .bool BB ∧ w4 = wx)
  case first =>
    as_aux_lemma =>
      by_cases hE : E = 0
      · obtain rfl : EV = .nilIface := by rw [HEV.out, hE]; exact errV_zero rfl
        obtain rfl : BB = true := by rw [HBB.out, hE]; rfl
        go_wp2
        go_meet
        case rel => exact ⟨rfl, rfl⟩
      · obtain rfl : EV = _ := HEV.out.trans (errV_ne hE)
        obtain rfl : BB = false := by rw [HBB.out]; exact decide_eq_false hE
        go_wp2
        go_meet
        case rel => exact ⟨rfl, rfl⟩
  case rest =>
  obtain ⟨rfl, rfl⟩ := hcut
  go_upto_if 69 with (fail)
  go_cut [15, 16] (fun x y wx => Below w4.heap.size w4 wx)
  case first =>
    as_aux_lemma =>
      cases BB with
      | true =>
        have hE : E = 0 := of_decide_eq_true HBB.out.symm
        obtain ⟨hc, htx⟩ := HBK.out hE
        have HTX := Lib.hid (show (⟨(textA ⟨xw, xs, xt, xm⟩).toArray⟩ : ByteArray) = str by rw [htx])
        have HPV := Lib.hid (show printAV ⟨xw, xs, xt, xm⟩ = .tuple #[.string str, .nilIface] by unfold printAV; rw [if_pos hc, HTX.out])
        have hss : (str != str) = false := by rw [bne, bytes_beq]; simp
        have hss' : (str.toList != str.toList) = false := by simp
        obtain ⟨c0, c1, c2, c3⟩ := BX.out.cells4
        clear hc htx hE
        go_wp2_with fail
        refine (HPR.out xw xm _ _ xs xt w4 HQ4.out HX.out HY.out).mono ?_
        rw [HPV.out]
        rintro e w5 ⟨rfl, hb5⟩
        clear c0 c1 c2 c3
        go_upto_region 7 with (fail)
        go_wp2
        go_meet
        case rel => exact hb5
      | false =>
        go_wp2
        go_meet
        case rel => exact Below.refl _ _
  case rest =>
  obtain ⟨w5, rfl⟩ : ∃ w5 : World, w5 = wc := ⟨_, rfl⟩
  have hb5 := hcut
  have HQ5 := Lib.hid (Below.next HQ4.out hb5)
  have BA5 := Lib.hid (BA3.out.keep hb5)
  have BW5 := Lib.hid (BW3.out.keep hb5)
  clear hcut hb5 HBK HEV HBB BX HX HY BA3 BW3 HQ4
  -- the atom as text, and back
  obtain ⟨a0, a1, a2, a3⟩ := BA5.out.cells4
  have hpr := HPR.out what n _ _ s t w5 HQ5.out (HS.out.keep HQ5.out) (HT.out.keep HQ5.out)
  have HPP := Lib.hid (parse_print (a := ⟨what, s, t, n⟩))
  unfold printAV at hpr
  have HCV := Lib.hid (show (if Venn.atomChk ⟨what, s, t, n⟩ = 0 then Value.tuple #[.string ⟨(textA ⟨what, s, t, n⟩).toArray⟩, .nilIface] else .tuple #[.string ⟨#[]⟩, errV (Venn.atomChk ⟨what, s, t, n⟩)]) = .tuple #[.string (if Venn.atomChk ⟨what, s, t, n⟩ = 0 then ⟨(textA ⟨what, s, t, n⟩).toArray⟩ else ⟨#[]⟩), errV (Venn.atomChk ⟨what, s, t, n⟩)] by
    split
    · rename_i h; rw [h, errV_zero rfl]
    · rfl)
  rw [HCV.out] at hpr
  have HTL := Lib.hid (show (if Venn.atomChk ⟨what, s, t, n⟩ = 0 then (⟨(textA ⟨what, s, t, n⟩).toArray⟩ : ByteArray) else ⟨#[]⟩).size < 4294967281 by
    split
    · rename_i h
      have := textA_le h
      show (textA ⟨what, s, t, n⟩).toArray.size < _
      simp; omega
    · decide)
  have HTE := Lib.hid (fun h : Venn.atomChk ⟨what, s, t, n⟩ = 0 => show (if Venn.atomChk ⟨what, s, t, n⟩ = 0 then (⟨(textA ⟨what, s, t, n⟩).toArray⟩ : ByteArray) else ⟨#[]⟩) = ⟨(textA ⟨what, s, t, n⟩).toArray⟩ from if_pos h)
  clear HCV
  generalize (if Venn.atomChk ⟨what, s, t, n⟩ = 0 then (⟨(textA ⟨what, s, t, n⟩).toArray⟩ : ByteArray) else ⟨#[]⟩) = TX at hpr HTL HTE
  generalize Venn.atomChk ⟨what, s, t, n⟩ = E at hpr HPP HTE
  have HP5 := Lib.hid hpr
  clear hpr
  go_wp2_with fail
  refine (HP5.out).mono ?_
  rintro e w6 ⟨rfl, hb6⟩
  have HQ6 := Lib.hid (Below.next HQ5.out hb6)
  have BA6 := Lib.hid (BA5.out.keep hb6)
  have BW6 := Lib.hid (BW5.out.keep hb6)
  obtain ⟨EV, hEV⟩ : ∃ v, v = errV E := ⟨_, rfl⟩
  have HEV := Lib.hid hEV
  rw [← hEV]
  clear hEV a0 a1 a2 a3 hb6 BA5 BW5
  go_upto_region 10 with (fail)
  obtain ⟨BB, hBB⟩ : ∃ b, b = decide (E = 0) := ⟨_, rfl⟩
  have HBB := Lib.hid hBB
  clear hBB
  go_cut [88] (fun x wx => x = .bool BB ∧ w6 = wx)
  case first =>
    as_aux_lemma =>
      by_cases hE : E = 0
      · obtain rfl : EV = .nilIface := by rw [HEV.out, hE]; exact errV_zero rfl
        obtain rfl : BB = true := by rw [HBB.out, hE]; rfl
        go_wp2
        go_meet
        case rel => exact ⟨rfl, rfl⟩
      · obtain rfl : EV = _ := HEV.out.trans (errV_ne hE)
        obtain rfl : BB = false := by rw [HBB.out]; exact decide_eq_false hE
        go_wp2
        go_meet
        case rel => exact ⟨rfl, rfl⟩
  case rest =>
  obtain ⟨rfl, rfl⟩ := hcut
  go_upto_if 88 with (fail)
  go_cut [18, 19] (fun x y wx => Below w6.heap.size w6 wx)
  case first =>
    as_aux_lemma =>
      cases BB with
      | true =>
        have hE : E = 0 := of_decide_eq_true HBB.out.symm
        have hpp := HPP.out hE
        rw [← HTE.out hE] at hpp
        have HPX := Lib.hid (HPA.out TX HTL.out w6 HQ6.out)
        rw [hpp.1, hpp.2] at HPX
        clear hpp hE
        go_wp2_with fail
        refine (HPX.out).mono ?_
        rintro e w7 ⟨XA, xn, xc, XB, yn, yc, rfl, hb7, hX, hY⟩
        dsimp only at hX hY ⊢
        rw [errV_zero rfl]
        have hal7 : Below w7.heap.size w7 (w7.alloc (.cells #[.int .i64 what, .slice XA xn xc, .slice XB yn yc, .int .i64 n] 31)) := (Below.refl _ _).alloc (Nat.le_refl _) _
        have BX := Blk.new w7 31 #[.int .i64 what, .slice XA xn xc, .slice XB yn yc, .int .i64 n]
        have BA8 := BA6.out.keep (Below.next hb7 hal7)
        have HB8 := Lib.hid (Below.next hb7 hal7)
        have HSA := Lib.hid (same_Atom what n _ _ _ _ s t _ (hX.keep hal7) (hY.keep hal7) (HS.out.keep (Below.next HQ6.out (Below.next hb7 hal7))) (HT.out.keep (Below.next HQ6.out (Below.next hb7 hal7))))
        clear hX hY hb7
        go_upto_region 12 with (fail)
        revert hal7 BX BA8 HB8 HSA
        generalize w7.alloc (.cells #[.int .i64 what, .slice XA xn xc, .slice XB yn yc, .int .i64 n] 31) = w8
        intro hal7 BX BA8 HB8 HSA
        obtain ⟨a0, a1, a2, a3⟩ := BA8.cells4
        obtain ⟨c0, c1, c2, c3⟩ := BX.cells4
        go_wp2_with fail
        refine (HSA.out).mono ?_
        rintro e w9 ⟨rfl, hb9⟩
        go_wp2
        go_meet
        case rel => exact Below.next HB8.out hb9
      | false =>
        go_wp2
        go_meet
        case rel => exact Below.refl _ _
  case rest =>
  obtain ⟨w7, rfl⟩ : ∃ w7 : World, w7 = wc := ⟨_, rfl⟩
  have HQ7 := Lib.hid (Below.next HQ6.out hcut)
  have BW7 := Lib.hid (BW6.out.keep hcut)
  clear hcut HTE HTL HPP HEV HBB BA6 BW6 HQ6
  have hw7 := HQ7.out
  have BW := BW7.out
  clear BW7
  obtain ⟨BW0, BW1, BW2, BW3⟩ := BW.cells4
  have BWl := BW.lt
  have HST := Lib.hid (fun h => Venn.same_two (p := p) (q := q) (w := ⟨th, a, b, d⟩) h)
  have HSM := Lib.hid (fun h => Venn.same_terms (p := p) (q := q) (w := ⟨th, a, b, d⟩) h)
  by_cases hH : Venn.holdsChk ⟨2, p, q, 0⟩ ⟨th, a, b, d⟩ = 0
  · obtain ⟨hp0, hq0, hw0⟩ := HSM.out hH
    have HV2 := Lib.hid (HST.out hH)
    have HK2 := Lib.hid hH
    have HKA := Lib.hid (Venn.sub_ok hp0 hq0 hw0)
    have HKB := Lib.hid (Venn.sub_ok hq0 hp0 hw0)
    have HVC := Lib.hid (show Venn.valueChk p ⟨th, a, b, d⟩ = 0 by rw [Venn.valueChk, if_pos hp0]; exact hw0)
    have HVV := Lib.hid (show Venn.valueV p ⟨th, a, b, d⟩ = Venn.termSet p ⟨th, a, b, d⟩ by rw [Venn.valueV, if_pos HVC.out])
    have HMF := Lib.hid (fun (k : Int) (hk : -20 ≤ k ∧ k ≤ 20) => Venn.more_fewer hp0 hw0 hk)
    have HM3 := Lib.hid (fun (k : Int) (hk : -20 ≤ k ∧ k ≤ 20) => Venn.num_ok hp0 hw0 hk 3 (.inl rfl))
    have HM4 := Lib.hid (fun (k : Int) (hk : -20 ≤ k ∧ k ≤ 20) => Venn.num_ok hp0 hw0 hk 4 (.inr rfl))
    have HSC := Lib.hid (Venn.termSet_right hw0 p)
    have HMB := Lib.hid (Venn.many_le (Venn.termSet p ⟨th, a, b, d⟩))
    have HSI := Lib.hid (fun W => sets_Size_ok th (Venn.termSet p ⟨th, a, b, d⟩) W HSC.out)
    clear hp0 hq0 hw0 hH HSM HST
    have H2 := Lib.hid (fun W hW => HHO.out 2 0 _ _ p q W hW (HP.out.keep hW) (HQ.out.keep hW))
    have HA := Lib.hid (fun W hW => HHO.out 1 0 _ _ p q W hW (HP.out.keep hW) (HQ.out.keep hW))
    have HB := Lib.hid (fun W hW => HHO.out 1 0 _ _ q p W hW (HQ.out.keep hW) (HP.out.keep hW))
    have HTV := Lib.hid (fun W (hW : Below w.heap.size w W) => term_Value _ p th a b d W (HP.out.keep hW))
    rw [HK2.out, errV_zero rfl] at H2
    rw [HKA.out, errV_zero rfl] at HA
    rw [HKB.out, errV_zero rfl] at HB
    rw [HVC.out, HVV.out, errV_zero rfl] at HTV
    generalize Venn.termSet p ⟨th, a, b, d⟩ = TS at HMF HSC HMB HSI HTV
    generalize Venn.many TS = M at HMF HMB HSI
    clear HK2 HKA HKB HVC HVV HSC
    generalize Venn.holdsV ⟨2, p, q, 0⟩ ⟨th, a, b, d⟩ = V2 at HV2 H2
    generalize Venn.holdsV ⟨1, p, q, 0⟩ ⟨th, a, b, d⟩ = VA at HV2 HA
    generalize Venn.holdsV ⟨1, q, p, 0⟩ ⟨th, a, b, d⟩ = VB at HV2 HB
    go_wp2_with fail
    refine (H2.out _ hw7).mono ?_
    rintro e w8 ⟨rfl, hb8⟩
    have hq8 : Below w7.heap.size w7 w8 := by (repeat' (first | (with_reducible exact Below.refl _ _) | (with_reducible assumption) | (with_reducible refine Below.next ?_ (by with_reducible assumption)) | (with_reducible refine Below.drew ?_) | (with_reducible refine Below.laid ?_ _) | (with_reducible refine Below.setCell ?_ ?_ _) | (with_reducible refine size_of ?_) | (with_reducible refine Nat.le_succ_of_le ?_) | go_size))
    have hw8 : Below w.heap.size w w8 := Below.next hw7 hq8
    replace BW := BW.keep hq8
    try clear BW0 BW1 BW2 BW3 BWl
    obtain ⟨BW0, BW1, BW2, BW3⟩ := BW.cells4
    have BWl := BW.lt
    go_wp2_with fail
    refine (HA.out _ hw8).mono ?_
    rintro e w9 ⟨rfl, hb9⟩
    have hq9 : Below w8.heap.size w8 w9 := by (repeat' (first | (with_reducible exact Below.refl _ _) | (with_reducible assumption) | (with_reducible refine Below.next ?_ (by with_reducible assumption)) | (with_reducible refine Below.drew ?_) | (with_reducible refine Below.laid ?_ _) | (with_reducible refine Below.setCell ?_ ?_ _) | (with_reducible refine size_of ?_) | (with_reducible refine Nat.le_succ_of_le ?_) | go_size))
    have hw9 : Below w.heap.size w w9 := Below.next hw8 hq9
    replace BW := BW.keep hq9
    try clear BW0 BW1 BW2 BW3 BWl
    obtain ⟨BW0, BW1, BW2, BW3⟩ := BW.cells4
    have BWl := BW.lt
    go_wp2_with fail
    refine (HB.out _ hw9).mono ?_
    rintro e w10 ⟨rfl, hb10⟩
    have hq10 : Below w9.heap.size w9 w10 := by (repeat' (first | (with_reducible exact Below.refl _ _) | (with_reducible assumption) | (with_reducible refine Below.next ?_ (by with_reducible assumption)) | (with_reducible refine Below.drew ?_) | (with_reducible refine Below.laid ?_ _) | (with_reducible refine Below.setCell ?_ ?_ _) | (with_reducible refine size_of ?_) | (with_reducible refine Nat.le_succ_of_le ?_) | go_size))
    have hw10 : Below w.heap.size w w10 := Below.next hw9 hq10
    replace BW := BW.keep hq10
    try clear BW0 BW1 BW2 BW3 BWl
    obtain ⟨BW0, BW1, BW2, BW3⟩ := BW.cells4
    have BWl := BW.lt
    go_wp2_with fail
    refine (HTV.out _ hw10).mono ?_
    rintro e w11 ⟨rfl, hb11⟩
    have hq11 : Below w10.heap.size w10 w11 := by (repeat' (first | (with_reducible exact Below.refl _ _) | (with_reducible assumption) | (with_reducible refine Below.next ?_ (by with_reducible assumption)) | (with_reducible refine Below.drew ?_) | (with_reducible refine Below.laid ?_ _) | (with_reducible refine Below.setCell ?_ ?_ _) | (with_reducible refine size_of ?_) | (with_reducible refine Nat.le_succ_of_le ?_) | go_size))
    have hw11 : Below w.heap.size w w11 := Below.next hw10 hq11
    replace BW := BW.keep hq11
    try clear BW0 BW1 BW2 BW3 BWl
    obtain ⟨BW0, BW1, BW2, BW3⟩ := BW.cells4
    have BWl := BW.lt
    have HW11 := Lib.hid hw11
    have HBW := Lib.hid BW
    clear BW BW0 BW1 BW2 BW3 BWl hw7 hw8 hw9 hw10 hw11 hq8 hq9 hq10 hq11 hb8 hb9 hb10 hb11
    go_upto_region 20 with (fail)
    go_cut [151] (fun x wx => x = .bool false ∧ w11 = wx)
    case first =>
      as_aux_lemma =>
        have hv2 := HV2.out
        clear HV2
        cases VA <;> cases VB <;> subst hv2
        all_goals
          go_wp2
          go_meet
          case rel => exact ⟨rfl, rfl⟩
    case rest =>
    obtain ⟨rfl, rfl⟩ := hcut
    obtain ⟨d0, d1, d2, d3⟩ := HBW.out.cells4
    have hM := HMB.out
    have hM1 : ¬ M < 0 := by omega
    have hM2 : ¬ (6 : Int) < M := by omega
    go_wp2_with fail
    refine (HSI.out _).mono ?_
    rintro e w12 ⟨rfl, rfl⟩
    go_upto_region 25 with (fail)
    clear d0 d1 d2 d3
    have HQ11 := Lib.hid (show Below w.heap.size w w11 from HW11.out)
    clear hM1 hM2
    go_wp2_with fail
    go_loopw [29, 30, 31, 32, 33] (fun i _ _ _ _ wr => ∃ k : Int, -1 ≤ k ∧ k ≤ 8 ∧ i = .int .i64 k ∧ Below w11.heap.size w11 wr) (fun i _ _ _ _ _ => (8 - intOf i).toNat)
    case atStart => exact ⟨-1, by omega, by omega, rfl, Below.refl _ _⟩
    case round =>
      obtain ⟨k, hk1, hk2, rfl, hbk⟩ := hrel
      obtain ⟨wo, rfl⟩ : ∃ wo : World, wo = wr := ⟨_, rfl⟩
      have HBK := Lib.hid hbk
      by_cases hk : k ≤ 7
      · have hw0 := Below.next HQ11.out hbk
        have BW := HBW.out.keep hbk
        have h3 := HHO.out 3 k _ _ p [] wo hw0 (HP.out.keep hw0) (IsInts.empty _)
        rw [HM3.out k (by omega), (HMF.out k (by omega)).1, errV_zero rfl] at h3
        have H3 := Lib.hid h3
        have H4 := Lib.hid (fun W hW => HHO.out 4 k _ _ p [] W hW (HP.out.keep hW) (IsInts.empty _))
        rw [HM4.out k (by omega), (HMF.out k (by omega)).2, errV_zero rfl] at H4
        have HW0 := Lib.hid hw0
        obtain ⟨U, hU⟩ : ∃ b, b = decide (k ≤ M) := ⟨_, rfl⟩
        obtain ⟨V, hV⟩ : ∃ b, b = decide (M ≤ k) := ⟨_, rfl⟩
        rw [← hU] at H3
        rw [← hV] at H4
        have hUV : (U = true ∧ V = false ∧ (k == M) = false) ∨ (U = true ∧ V = true ∧ (k == M) = true) ∨ (U = false ∧ V = true ∧ (k == M) = false) := by
          rcases Int.lt_trichotomy k M with h | h | h
          · exact .inl ⟨by rw [hU]; exact decide_eq_true (by omega), by rw [hV]; exact decide_eq_false (by omega), beq_eq_false_iff_ne.2 (by omega)⟩
          · exact .inr (.inl ⟨by rw [hU]; exact decide_eq_true (by omega), by rw [hV]; exact decide_eq_true (by omega), beq_iff_eq.2 h⟩)
          · exact .inr (.inr ⟨by rw [hU]; exact decide_eq_false (by omega), by rw [hV]; exact decide_eq_true (by omega), beq_eq_false_iff_ne.2 (by omega)⟩)
        have HUV := Lib.hid hUV
        have hki : IntKind.i64.wrap (k + 1) = k + 1 := IntWalk.i64_in _ (by omega)
        clear h3 hw0 hbk hU hV hUV
        obtain ⟨d0, d1, d2, d3⟩ := BW.cells4
        go_wp2_with fail
        refine (H3.out).mono ?_
        rintro e w13 ⟨rfl, hb13⟩
        have HW13 := Lib.hid (Below.next HW0.out hb13)
        have BW3 := BW.keep hb13
        clear d0 d1 d2 d3
        obtain ⟨d0, d1, d2, d3⟩ := BW3.cells4
        go_wp2_with fail
        refine (H4.out _ HW13.out).mono ?_
        rintro e w14 ⟨rfl, hb14⟩
        have HB14 := Lib.hid (Below.next (Below.next HBK.out hb13) hb14)
        clear d0 d1 d2 d3 BW3 BW hb13 hb14 HW13
        go_upto_region 30 with (fail)
        go_cut [212] (fun x wx => x = .bool false ∧ w14 = wx)
        case first =>
          as_aux_lemma =>
            rcases HUV.out with ⟨rfl, rfl, h3⟩ | ⟨rfl, rfl, h3⟩ | ⟨rfl, rfl, h3⟩
            all_goals
              go_wp2
              go_meet
              case rel => exact ⟨rfl, rfl⟩
        case rest =>
        obtain ⟨rfl, rfl⟩ := hcut
        go_wp2
        go_roundw
        case rel => exact ⟨k + 1, by omega, by omega, by go_num, HB14.out⟩
        case measure => simp [intOf]; omega
      · go_wp2
        go_ret
        exact ⟨rfl, Below.next HQ11.out HBK.out⟩
  · have HNE := Lib.hid (errV_ne hH)
    have H2 := Lib.hid (fun W hW => HHO.out 2 0 _ _ p q W hW (HP.out.keep hW) (HQ.out.keep hW))
    rw [HNE.out] at H2
    clear hH HST HSM
    go_wp2_with fail
    refine (H2.out _ hw7).mono ?_
    rintro e w8 ⟨rfl, hb8⟩
    have hq8 : Below w7.heap.size w7 w8 := by (repeat' (first | (with_reducible exact Below.refl _ _) | (with_reducible assumption) | (with_reducible refine Below.next ?_ (by with_reducible assumption)) | (with_reducible refine Below.drew ?_) | (with_reducible refine Below.laid ?_ _) | (with_reducible refine Below.setCell ?_ ?_ _) | (with_reducible refine size_of ?_) | (with_reducible refine Nat.le_succ_of_le ?_) | go_size))
    have hw8 : Below w.heap.size w w8 := Below.next hw7 hq8
    replace BW := BW.keep hq8
    try clear BW0 BW1 BW2 BW3 BWl
    obtain ⟨BW0, BW1, BW2, BW3⟩ := BW.cells4
    have BWl := BW.lt
    go_wp2
    go_ret
    exact ⟨rfl, hw8⟩
end Go.Proofs.YtcloppcekbdbaaaDoor
