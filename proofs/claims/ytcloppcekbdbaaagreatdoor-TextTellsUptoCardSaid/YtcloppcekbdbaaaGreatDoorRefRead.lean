/-
  THE WALK of the reference's ReadAtom, the other kinds, and all together (printed by gen_refread.py).
-/
import Derived.Test.YtcloppcekbdbaaaGreatDoorRefReadA
namespace Go.Proofs.YtcloppcekbdbaaaGreatDoor
open Go.RowKit Go.ChangeShapes

set_option maxHeartbeats 4000000 in
set_option maxRecDepth 100000 in
theorem refread_3 (s : ByteArray) (w : World) (hs : s.size < 4294967281) (hw0 : wordAt (wordsOf s) 0 = Venn.wordB 3) : Calls Tryz.prog 41 #[.string s] w (AtomGivenRF (parseAV (readSN 3 (wordsOf s))) (parseAChk (readSN 3 (wordsOf s))) w) := by
  have hX : (wordsOf s).getD 0 ⟨#[]⟩ = ⟨#[108, 101, 97, 115, 116]⟩ := bytes_word hw0
  have HCT := Lib.hid (fun W => ref_Cut32 s W hs)
  have HPOS := Lib.hid (show 0 < (wordsOf s).length by rw [words_len]; omega)
  have hsz := getD_size (words_size hs) (by decide)
  clear hw0 hs
  generalize wordsOf s = ws at hX HCT HPOS hsz ⊢
  have HL := Lib.hid (fun h => readSN_len (x := 3) (ws := ws) h)
  have H1 := Lib.hid (fun h => readSN_1 (x := 3) (ws := ws) h)
  have H2 := Lib.hid (fun h => readSN_2 (x := 3) (ws := ws) h)
  have HOK := Lib.hid (fun (hl : ws.length = 3) (s : List Int) (n : Int) h1 h2 => readSN_ok (x := 3) hl (s := s) (n := n) h1 h2)
  have HR1 := Lib.hid (fun W => ref_ReadTermF (ws.getD 1 ⟨#[]⟩) W (Nat.lt_trans (hsz 1) (by decide)))
  have HR2 := Lib.hid (fun W => ref_ReadNumber (ws.getD 2 ⟨#[]⟩) W (hsz 2))
  clear hsz
  generalize readSN 3 ws = O at H1 H2 HOK HL ⊢
  have hal0 : Below w.heap.size w (w.alloc (.cells #[.int .i64 0, .slice none 0 0, .slice none 0 0, .int .i64 0] 32)) := by (repeat' (first | (with_reducible exact Below.refl _ _) | (with_reducible assumption) | (with_reducible refine Below.next ?_ (by with_reducible assumption)) | (with_reducible refine Below.drew ?_) | (with_reducible refine Below.laid ?_ _) | (with_reducible refine Below.setCell ?_ ?_ _) | (with_reducible refine size_of ?_) | (with_reducible refine Nat.le_succ_of_le ?_) | go_size))
  have BR0 := Lib.hid (Blk.new w 32 #[.int .i64 0, .slice none 0 0, .slice none 0 0, .int .i64 0])
  have hz : (w.alloc (.cells #[.int .i64 0, .slice none 0 0, .slice none 0 0, .int .i64 0] 32)).heap.size = w.heap.size + 1 := by simp
  go_enter Tryz.func41, Tryz.ntmps41
  go_upto_region 1 with (fail)
  revert hal0 BR0 hz
  generalize w.alloc (.cells #[.int .i64 0, .slice none 0 0, .slice none 0 0, .int .i64 0] 32) = w0
  intro hal0 BR0 hz
  have HZ := Lib.hid hz
  have HB0 := Lib.hid hal0
  clear hal0 hz
  go_wp2_with fail
  refine (HCT.out w0).mono ?_
  rintro e w1 ⟨v, rfl, hb1, A, cA, hv, hr, hc1, hc2⟩
  have HB1 := Lib.hid (Below.next HB0.out hb1)
  have BR1 := Lib.hid (BR0.out.keep hb1)
  have HW1 := Lib.hid (show w.heap.size < w1.heap.size from BR1.out.lt)
  obtain ⟨ad, rfl, hx0⟩ := strs_at hr HPOS.out
  have HRR := Lib.hid (show ∀ k, k < ws.length → w1.cell? (ad.add k) = some (.string (ws.getD k ⟨#[]⟩)) from fun k hk => by obtain ⟨a2, e, h⟩ := strs_at hr hk; cases e; exact h)
  clear hr hc1 hc2 hb1 BR0
  have BA2 := Blk.new w1 32 #[.int .i64 0, .slice none 0 0, .slice none 0 0, .int .i64 0]
  have hb2 : Below w1.heap.size w1 (w1.alloc (.cells #[.int .i64 0, .slice none 0 0, .slice none 0 0, .int .i64 0] 32)) := (Below.refl _ _).alloc (Nat.le_refl _) _
  subst hv
  go_upto_region 3 with (fail)
  revert BA2 hb2
  generalize w1.alloc (.cells #[.int .i64 0, .slice none 0 0, .slice none 0 0, .int .i64 0] 32) = w2
  intro BA2 hb2
  have x0 := cell_keep hb2 hx0
  have x0' : w2.cell? ad = some (.string (ws.getD 0 ⟨#[]⟩)) := by have := x0; rwa [add_zero] at this
  clear hx0
  rw [hX] at x0 x0'
  obtain ⟨a0, a1, a2, a3⟩ := BA2.cells4
  have f0 := BA2.frozen 0
  have BA3 := Lib.hid (set4_1 BA2 (.int .i64 3))
  have HB3 := Lib.hid (hb2.setCell (p := ⟨w1.heap.size, 0, none⟩) (Nat.le_refl _) (.int .i64 3))
  generalize hX1 : ws.getD 1 ⟨#[]⟩ = X1 at H1 HOK HR1
  generalize hX2 : ws.getD 2 ⟨#[]⟩ = X2 at H2 HOK HR2
  have HX1 := Lib.hid hX1
  clear hX1
  have HX2 := Lib.hid hX2
  clear hX2
  clear BA2 hb2
  go_upto_region 15 with (fail)
  clear a0 a1 a2 a3 f0 x0 x0' hX
  revert BA3 HB3
  generalize World.setCell _ _ _ = w3
  intro BA3 HB3
  have HLA := Lib.hid BA3.out.lt
  have a0 : w3.cell? ⟨w1.heap.size, 0, none⟩ = some (.int .i64 3) := BA3.out.cell 0
  by_cases hL : ws.length = 3
  focus
    rw [hL]
    have X1c := Lib.hid (show w1.cell? (ad.add 1) = some (.string X1) by have := HRR.out 1 (by omega); rwa [HX1.out] at this)
    have X2c := Lib.hid (show w1.cell? (ad.add 2) = some (.string X2) by have := HRR.out 2 (by omega); rwa [HX2.out] at this)
    have HLN := Lib.hid hL
    clear hL
    have x1 : w3.cell? ⟨ad.block, ad.off + 1, none⟩ = some (.string X1) := cell_keep HB3.out X1c.out
    go_wp2_with fail
    refine (HR1.out w3).mono ?_
    rintro e w4 ⟨v1, b1, rfl, hb4, hcase⟩
    have HB4 := Lib.hid (Below.next HB3.out hb4)
    have BA4 := Lib.hid (BA3.out.keep hb4)
    clear a0 x1
    rcases hcase with ⟨l1, h1, rfl, hI, hF⟩ | ⟨h1, rfl, rfl⟩
    rotate_left
    focus
      have HN := Lib.hid (H1.out h1)
      have BRk := BR1.out.keep HB4.out
      have HBk := Below.next HB1.out HB4.out
      obtain ⟨r0, r1, r2, r3⟩ := BRk.cells4
      have q0 := BRk.frozen 0
      have q1 := BRk.frozen 1
      have q2 := BRk.frozen 2
      have q3 := BRk.frozen 3
      have GL := Lib.hid (below_set4 HBk (Nat.le_refl _) (.int .i64 0) (.slice none 0 0) (.slice none 0 0) (.int .i64 0))
      have GS := Lib.hid (BRk.set4 (.int .i64 0) (.slice none 0 0) (.slice none 0 0) (.int .i64 0))
      clear BRk HBk
      go_wp2
      clear r0 r1 r2 r3 q0 q1 q2 q3
      revert GL GS
      generalize World.setCell _ _ _ = Wf
      intro GL GS
      obtain ⟨e0, e1, e2, e3⟩ := GS.out.cells4
      refine bodyPost_ret (v := .tuple #[.agg #[.int .i64 0, .slice none 0 0, .slice none 0 0, .int .i64 0], .int .i64 (2)]) (by simp [results, Tryz.results41, go_sem, e0, e1, e2, e3]) rfl ?_
      rw [HN.out]
      exact ⟨none, 0, 0, none, 0, 0, rfl, GL.out, IsInts.empty _, IsInts.empty _, fresh_none _ _ _, fresh_none _ _ _⟩
    obtain ⟨S, cS, rfl, _⟩ := id hI
    have HK1 := Lib.hid h1
    have HI1 := Lib.hid (ints_fresh hI hF (show w1.heap.size < w3.heap.size from BA3.out.lt) 1 (.slice S l1.length cS))
    have HF1 := Lib.hid (show ∀ ad, S = some ad → w3.heap.size ≤ ad.block from fun ad e => hF ad _ _ (by rw [e]))
    have HE1 := Lib.hid (show FreshV w3 (.slice S l1.length cS) from hF)
    have HG1 := Lib.hid (show w1.heap.size < w3.heap.size from BA3.out.lt)
    clear hI hF h1 hb4
    have aT : w4.cell? ⟨w1.heap.size, 1, none⟩ = some (.slice none 0 0) := BA4.out.cell 1
    have fT := BA4.out.frozen 1
    have BB := Lib.hid (set4_2 BA4.out (.slice S l1.length cS))
    have HBB := Lib.hid ((HB4.out).setCell (p := ⟨w1.heap.size, 1, none⟩) (Nat.le_refl _) (.slice S l1.length cS))
    go_upto_region 24 with (fail)
    clear aT fT
    revert HI1 BB HBB
    generalize World.setCell _ _ _ = w5
    intro HI1 BA5 HB5
    have a0 : w5.cell? ⟨w1.heap.size, 0, none⟩ = some (.int .i64 3) := BA5.out.cell 0
    have x2 : w5.cell? ⟨ad.block, ad.off + 2, none⟩ = some (.string X2) := cell_keep HB5.out X2c.out
    go_wp2_with fail
    refine (HR2.out w5).mono ?_
    rintro e w6 ⟨rfl, rfl⟩
    clear x2
    cases hn : Venn.readNum X2.data.toList with
    | none =>
      have HN := Lib.hid (H2.out hn)
      simp only [numT, Option.getD_none, Option.isSome_none]
      have BRk := BR1.out.keep HB5.out
      have HBk := Below.next HB1.out HB5.out
      obtain ⟨r0, r1, r2, r3⟩ := BRk.cells4
      have q0 := BRk.frozen 0
      have q1 := BRk.frozen 1
      have q2 := BRk.frozen 2
      have q3 := BRk.frozen 3
      have GL := Lib.hid (below_set4 HBk (Nat.le_refl _) (.int .i64 0) (.slice none 0 0) (.slice none 0 0) (.int .i64 0))
      have GS := Lib.hid (BRk.set4 (.int .i64 0) (.slice none 0 0) (.slice none 0 0) (.int .i64 0))
      clear BRk HBk
      go_wp2
      clear r0 r1 r2 r3 q0 q1 q2 q3
      revert GL GS
      generalize World.setCell _ _ _ = Wf
      intro GL GS
      obtain ⟨e0, e1, e2, e3⟩ := GS.out.cells4
      refine bodyPost_ret (v := .tuple #[.agg #[.int .i64 0, .slice none 0 0, .slice none 0 0, .int .i64 0], .int .i64 (2)]) (by simp [results, Tryz.results41, go_sem, e0, e1, e2, e3]) rfl ?_
      rw [HN.out]
      exact ⟨none, 0, 0, none, 0, 0, rfl, GL.out, IsInts.empty _, IsInts.empty _, fresh_none _ _ _, fresh_none _ _ _⟩
    | some n =>
      simp only [numT, Option.getD_some, Option.isSome_some]
      have HK2 := Lib.hid hn
      have HJ1 := Lib.hid (ints_fresh HI1.out HE1.out (show w1.heap.size < w3.heap.size from HG1.out) 3 (.int .i64 n))
      clear HI1
      have aT : w5.cell? ⟨w1.heap.size, 3, none⟩ = some (.int .i64 0) := BA5.out.cell 3
      have fT := BA5.out.frozen 3
      have BB := Lib.hid (set4_4 BA5.out (.int .i64 n))
      have HBB := Lib.hid ((HB5.out).setCell (p := ⟨w1.heap.size, 3, none⟩) (Nat.le_refl _) (.int .i64 n))
      go_upto_region 34 with (fail)
      clear aT fT
      revert HJ1 BB HBB
      generalize World.setCell _ _ _ = w7
      intro HI1 BA7 HB7
      clear a0
      have a0 : w7.cell? ⟨w1.heap.size, 0, none⟩ = some (.int .i64 3) := BA7.out.cell 0
      clear a0
      have HV := Lib.hid (HOK.out HLN.out l1 n HK1.out HK2.out)
      have HAT := Lib.hid (fun W (hW : Below w7.heap.size w7 W) => ref_Atom 3 (n) (.slice S l1.length cS) (.slice none 0 0) l1 [] W (HI1.out.keep hW) (IsInts.empty _))
      obtain ⟨a0, a1, a2, a3⟩ := BA7.out.cells4
      by_cases hc : Venn.atomChk ⟨3, l1, [], n⟩ = 0
      rotate_left
      focus
        have hcn : (Venn.atomChk ⟨3, l1, [], n⟩ != 0) = true := by simpa using hc
        have HE := Lib.hid (show parseAV (some ⟨3, l1, [], n⟩) = ⟨0, [], [], 0⟩ from if_neg hc)
        have HC := Lib.hid (show parseAChk (some ⟨3, l1, [], n⟩) = Venn.atomChk ⟨3, l1, [], n⟩ from rfl)
        clear hc
        generalize Venn.atomChk ⟨3, l1, [], n⟩ = E at hcn HC HAT
        go_wp2_with fail
        refine (HAT.out _ (Below.refl _ _)).mono ?_
        rintro e wz ⟨rfl, hbz⟩
        clear a0 a1 a2 a3
        have HBz := Lib.hid (Below.next HB7.out hbz)
        have BRk := BR1.out.keep HBz.out
        have HBk := Below.next HB1.out HBz.out
        obtain ⟨r0, r1, r2, r3⟩ := BRk.cells4
        have q0 := BRk.frozen 0
        have q1 := BRk.frozen 1
        have q2 := BRk.frozen 2
        have q3 := BRk.frozen 3
        have GL := Lib.hid (below_set4 HBk (Nat.le_refl _) (.int .i64 0) (.slice none 0 0) (.slice none 0 0) (.int .i64 0))
        have GS := Lib.hid (BRk.set4 (.int .i64 0) (.slice none 0 0) (.slice none 0 0) (.int .i64 0))
        clear BRk HBk
        go_wp2
        clear r0 r1 r2 r3 q0 q1 q2 q3
        revert GL GS
        generalize World.setCell _ _ _ = Wf
        intro GL GS
        obtain ⟨e0, e1, e2, e3⟩ := GS.out.cells4
        refine bodyPost_ret (v := .tuple #[.agg #[.int .i64 0, .slice none 0 0, .slice none 0 0, .int .i64 0], .int .i64 (E)]) (by simp [results, Tryz.results41, go_sem, e0, e1, e2, e3]) rfl ?_
        rw [HV.out]
        exact ⟨none, 0, 0, none, 0, 0, by rw [HC.out, HE.out], GL.out, by rw [HE.out]; exact IsInts.empty _, by rw [HE.out]; exact IsInts.empty _, fresh_none _ _ _, fresh_none _ _ _⟩
      have HE := Lib.hid (show parseAV (some ⟨3, l1, [], n⟩) = ⟨3, l1, [], n⟩ from if_pos hc)
      have HC := Lib.hid (show parseAChk (some ⟨3, l1, [], n⟩) = 0 from hc)
      rw [hc] at HAT
      clear hc
      go_wp2_with fail
      refine (HAT.out _ (Below.refl _ _)).mono ?_
      rintro e wz ⟨rfl, hbz⟩
      clear a0 a1 a2 a3
      have HBz := Lib.hid (Below.next HB7.out hbz)
      obtain ⟨a0, a1, a2, a3⟩ := (BA7.out.keep hbz).cells4
      have BRk := BR1.out.keep HBz.out
      have HBk := Below.next HB1.out HBz.out
      obtain ⟨r0, r1, r2, r3⟩ := BRk.cells4
      have q0 := BRk.frozen 0
      have q1 := BRk.frozen 1
      have q2 := BRk.frozen 2
      have q3 := BRk.frozen 3
      have GL := Lib.hid (below_set4 HBk (Nat.le_refl _) (.int .i64 3) (.slice S l1.length cS) (.slice none 0 0) (.int .i64 n))
      have GS := Lib.hid (BRk.set4 (.int .i64 3) (.slice S l1.length cS) (.slice none 0 0) (.int .i64 n))
      have GI := Lib.hid (ints_res (g := w.heap.size) (HI1.out.keep hbz) (fun ad e => by have := HF1.out ad e; have := HW1.out; have := HG1.out; omega) (.int .i64 3) (.slice S l1.length cS) (.slice none 0 0) (.int .i64 n))
      have HW3 := Lib.hid (show w.heap.size ≤ w3.heap.size by have := HW1.out; have := HG1.out; omega)
      have HW2 := Lib.hid (show w.heap.size ≠ w1.heap.size from Nat.ne_of_lt HW1.out)
      have nW := Nat.ne_of_lt HW1.out
      clear BRk HBk
      go_wp2
      clear a0 a1 a2 a3 r0 r1 r2 r3 q0 q1 q2 q3
      revert GL GS GI
      generalize World.setCell _ _ _ = Wf
      intro GL GS GI
      obtain ⟨e0, e1, e2, e3⟩ := GS.out.cells4
      refine bodyPost_ret (v := .tuple #[.agg #[.int .i64 3, .slice S l1.length cS, .slice none 0 0, .int .i64 n], .int .i64 0]) (by simp [results, Tryz.results41, go_sem, e0, e1, e2, e3]) rfl ?_
      rw [HV.out, HE.out, HC.out]
      exact ⟨_, _, _, _, _, _, rfl, GL.out, GI.out, IsInts.empty _, fresh_some HW3.out HF1.out, fresh_none _ _ _⟩
  focus
    have hne : ((ws.length : Int) != 3) = true := by simp; omega
    have HN := Lib.hid (HL.out hL)
    clear hL
    have BRk := BR1.out.keep HB3.out
    have HBk := Below.next HB1.out HB3.out
    obtain ⟨r0, r1, r2, r3⟩ := BRk.cells4
    have q0 := BRk.frozen 0
    have q1 := BRk.frozen 1
    have q2 := BRk.frozen 2
    have q3 := BRk.frozen 3
    have GL := Lib.hid (below_set4 HBk (Nat.le_refl _) (.int .i64 0) (.slice none 0 0) (.slice none 0 0) (.int .i64 0))
    have GS := Lib.hid (BRk.set4 (.int .i64 0) (.slice none 0 0) (.slice none 0 0) (.int .i64 0))
    clear BRk HBk
    go_wp2
    clear r0 r1 r2 r3 q0 q1 q2 q3
    revert GL GS
    generalize World.setCell _ _ _ = Wf
    intro GL GS
    obtain ⟨e0, e1, e2, e3⟩ := GS.out.cells4
    refine bodyPost_ret (v := .tuple #[.agg #[.int .i64 0, .slice none 0 0, .slice none 0 0, .int .i64 0], .int .i64 (2)]) (by simp [results, Tryz.results41, go_sem, e0, e1, e2, e3]) rfl ?_
    rw [HN.out]
    exact ⟨none, 0, 0, none, 0, 0, rfl, GL.out, IsInts.empty _, IsInts.empty _, fresh_none _ _ _, fresh_none _ _ _⟩
set_option maxHeartbeats 4000000 in
set_option maxRecDepth 100000 in
theorem refread_4 (s : ByteArray) (w : World) (hs : s.size < 4294967281) (hw0 : wordAt (wordsOf s) 0 = Venn.wordB 4) : Calls Tryz.prog 41 #[.string s] w (AtomGivenRF (parseAV (readSN 4 (wordsOf s))) (parseAChk (readSN 4 (wordsOf s))) w) := by
  have hX : (wordsOf s).getD 0 ⟨#[]⟩ = ⟨#[109, 111, 115, 116]⟩ := bytes_word hw0
  have HCT := Lib.hid (fun W => ref_Cut32 s W hs)
  have HPOS := Lib.hid (show 0 < (wordsOf s).length by rw [words_len]; omega)
  have hsz := getD_size (words_size hs) (by decide)
  clear hw0 hs
  generalize wordsOf s = ws at hX HCT HPOS hsz ⊢
  have HL := Lib.hid (fun h => readSN_len (x := 4) (ws := ws) h)
  have H1 := Lib.hid (fun h => readSN_1 (x := 4) (ws := ws) h)
  have H2 := Lib.hid (fun h => readSN_2 (x := 4) (ws := ws) h)
  have HOK := Lib.hid (fun (hl : ws.length = 3) (s : List Int) (n : Int) h1 h2 => readSN_ok (x := 4) hl (s := s) (n := n) h1 h2)
  have HR1 := Lib.hid (fun W => ref_ReadTermF (ws.getD 1 ⟨#[]⟩) W (Nat.lt_trans (hsz 1) (by decide)))
  have HR2 := Lib.hid (fun W => ref_ReadNumber (ws.getD 2 ⟨#[]⟩) W (hsz 2))
  clear hsz
  generalize readSN 4 ws = O at H1 H2 HOK HL ⊢
  have hal0 : Below w.heap.size w (w.alloc (.cells #[.int .i64 0, .slice none 0 0, .slice none 0 0, .int .i64 0] 32)) := by (repeat' (first | (with_reducible exact Below.refl _ _) | (with_reducible assumption) | (with_reducible refine Below.next ?_ (by with_reducible assumption)) | (with_reducible refine Below.drew ?_) | (with_reducible refine Below.laid ?_ _) | (with_reducible refine Below.setCell ?_ ?_ _) | (with_reducible refine size_of ?_) | (with_reducible refine Nat.le_succ_of_le ?_) | go_size))
  have BR0 := Lib.hid (Blk.new w 32 #[.int .i64 0, .slice none 0 0, .slice none 0 0, .int .i64 0])
  have hz : (w.alloc (.cells #[.int .i64 0, .slice none 0 0, .slice none 0 0, .int .i64 0] 32)).heap.size = w.heap.size + 1 := by simp
  go_enter Tryz.func41, Tryz.ntmps41
  go_upto_region 1 with (fail)
  revert hal0 BR0 hz
  generalize w.alloc (.cells #[.int .i64 0, .slice none 0 0, .slice none 0 0, .int .i64 0] 32) = w0
  intro hal0 BR0 hz
  have HZ := Lib.hid hz
  have HB0 := Lib.hid hal0
  clear hal0 hz
  go_wp2_with fail
  refine (HCT.out w0).mono ?_
  rintro e w1 ⟨v, rfl, hb1, A, cA, hv, hr, hc1, hc2⟩
  have HB1 := Lib.hid (Below.next HB0.out hb1)
  have BR1 := Lib.hid (BR0.out.keep hb1)
  have HW1 := Lib.hid (show w.heap.size < w1.heap.size from BR1.out.lt)
  obtain ⟨ad, rfl, hx0⟩ := strs_at hr HPOS.out
  have HRR := Lib.hid (show ∀ k, k < ws.length → w1.cell? (ad.add k) = some (.string (ws.getD k ⟨#[]⟩)) from fun k hk => by obtain ⟨a2, e, h⟩ := strs_at hr hk; cases e; exact h)
  clear hr hc1 hc2 hb1 BR0
  have BA2 := Blk.new w1 32 #[.int .i64 0, .slice none 0 0, .slice none 0 0, .int .i64 0]
  have hb2 : Below w1.heap.size w1 (w1.alloc (.cells #[.int .i64 0, .slice none 0 0, .slice none 0 0, .int .i64 0] 32)) := (Below.refl _ _).alloc (Nat.le_refl _) _
  subst hv
  go_upto_region 3 with (fail)
  revert BA2 hb2
  generalize w1.alloc (.cells #[.int .i64 0, .slice none 0 0, .slice none 0 0, .int .i64 0] 32) = w2
  intro BA2 hb2
  have x0 := cell_keep hb2 hx0
  have x0' : w2.cell? ad = some (.string (ws.getD 0 ⟨#[]⟩)) := by have := x0; rwa [add_zero] at this
  clear hx0
  rw [hX] at x0 x0'
  obtain ⟨a0, a1, a2, a3⟩ := BA2.cells4
  have f0 := BA2.frozen 0
  have BA3 := Lib.hid (set4_1 BA2 (.int .i64 4))
  have HB3 := Lib.hid (hb2.setCell (p := ⟨w1.heap.size, 0, none⟩) (Nat.le_refl _) (.int .i64 4))
  generalize hX1 : ws.getD 1 ⟨#[]⟩ = X1 at H1 HOK HR1
  generalize hX2 : ws.getD 2 ⟨#[]⟩ = X2 at H2 HOK HR2
  have HX1 := Lib.hid hX1
  clear hX1
  have HX2 := Lib.hid hX2
  clear hX2
  clear BA2 hb2
  go_upto_region 15 with (fail)
  clear a0 a1 a2 a3 f0 x0 x0' hX
  revert BA3 HB3
  generalize World.setCell _ _ _ = w3
  intro BA3 HB3
  have HLA := Lib.hid BA3.out.lt
  have a0 : w3.cell? ⟨w1.heap.size, 0, none⟩ = some (.int .i64 4) := BA3.out.cell 0
  by_cases hL : ws.length = 3
  focus
    rw [hL]
    have X1c := Lib.hid (show w1.cell? (ad.add 1) = some (.string X1) by have := HRR.out 1 (by omega); rwa [HX1.out] at this)
    have X2c := Lib.hid (show w1.cell? (ad.add 2) = some (.string X2) by have := HRR.out 2 (by omega); rwa [HX2.out] at this)
    have HLN := Lib.hid hL
    clear hL
    have x1 : w3.cell? ⟨ad.block, ad.off + 1, none⟩ = some (.string X1) := cell_keep HB3.out X1c.out
    go_wp2_with fail
    refine (HR1.out w3).mono ?_
    rintro e w4 ⟨v1, b1, rfl, hb4, hcase⟩
    have HB4 := Lib.hid (Below.next HB3.out hb4)
    have BA4 := Lib.hid (BA3.out.keep hb4)
    clear a0 x1
    rcases hcase with ⟨l1, h1, rfl, hI, hF⟩ | ⟨h1, rfl, rfl⟩
    rotate_left
    focus
      have HN := Lib.hid (H1.out h1)
      have BRk := BR1.out.keep HB4.out
      have HBk := Below.next HB1.out HB4.out
      obtain ⟨r0, r1, r2, r3⟩ := BRk.cells4
      have q0 := BRk.frozen 0
      have q1 := BRk.frozen 1
      have q2 := BRk.frozen 2
      have q3 := BRk.frozen 3
      have GL := Lib.hid (below_set4 HBk (Nat.le_refl _) (.int .i64 0) (.slice none 0 0) (.slice none 0 0) (.int .i64 0))
      have GS := Lib.hid (BRk.set4 (.int .i64 0) (.slice none 0 0) (.slice none 0 0) (.int .i64 0))
      clear BRk HBk
      go_wp2
      clear r0 r1 r2 r3 q0 q1 q2 q3
      revert GL GS
      generalize World.setCell _ _ _ = Wf
      intro GL GS
      obtain ⟨e0, e1, e2, e3⟩ := GS.out.cells4
      refine bodyPost_ret (v := .tuple #[.agg #[.int .i64 0, .slice none 0 0, .slice none 0 0, .int .i64 0], .int .i64 (2)]) (by simp [results, Tryz.results41, go_sem, e0, e1, e2, e3]) rfl ?_
      rw [HN.out]
      exact ⟨none, 0, 0, none, 0, 0, rfl, GL.out, IsInts.empty _, IsInts.empty _, fresh_none _ _ _, fresh_none _ _ _⟩
    obtain ⟨S, cS, rfl, _⟩ := id hI
    have HK1 := Lib.hid h1
    have HI1 := Lib.hid (ints_fresh hI hF (show w1.heap.size < w3.heap.size from BA3.out.lt) 1 (.slice S l1.length cS))
    have HF1 := Lib.hid (show ∀ ad, S = some ad → w3.heap.size ≤ ad.block from fun ad e => hF ad _ _ (by rw [e]))
    have HE1 := Lib.hid (show FreshV w3 (.slice S l1.length cS) from hF)
    have HG1 := Lib.hid (show w1.heap.size < w3.heap.size from BA3.out.lt)
    clear hI hF h1 hb4
    have aT : w4.cell? ⟨w1.heap.size, 1, none⟩ = some (.slice none 0 0) := BA4.out.cell 1
    have fT := BA4.out.frozen 1
    have BB := Lib.hid (set4_2 BA4.out (.slice S l1.length cS))
    have HBB := Lib.hid ((HB4.out).setCell (p := ⟨w1.heap.size, 1, none⟩) (Nat.le_refl _) (.slice S l1.length cS))
    go_upto_region 24 with (fail)
    clear aT fT
    revert HI1 BB HBB
    generalize World.setCell _ _ _ = w5
    intro HI1 BA5 HB5
    have a0 : w5.cell? ⟨w1.heap.size, 0, none⟩ = some (.int .i64 4) := BA5.out.cell 0
    have x2 : w5.cell? ⟨ad.block, ad.off + 2, none⟩ = some (.string X2) := cell_keep HB5.out X2c.out
    go_wp2_with fail
    refine (HR2.out w5).mono ?_
    rintro e w6 ⟨rfl, rfl⟩
    clear x2
    cases hn : Venn.readNum X2.data.toList with
    | none =>
      have HN := Lib.hid (H2.out hn)
      simp only [numT, Option.getD_none, Option.isSome_none]
      have BRk := BR1.out.keep HB5.out
      have HBk := Below.next HB1.out HB5.out
      obtain ⟨r0, r1, r2, r3⟩ := BRk.cells4
      have q0 := BRk.frozen 0
      have q1 := BRk.frozen 1
      have q2 := BRk.frozen 2
      have q3 := BRk.frozen 3
      have GL := Lib.hid (below_set4 HBk (Nat.le_refl _) (.int .i64 0) (.slice none 0 0) (.slice none 0 0) (.int .i64 0))
      have GS := Lib.hid (BRk.set4 (.int .i64 0) (.slice none 0 0) (.slice none 0 0) (.int .i64 0))
      clear BRk HBk
      go_wp2
      clear r0 r1 r2 r3 q0 q1 q2 q3
      revert GL GS
      generalize World.setCell _ _ _ = Wf
      intro GL GS
      obtain ⟨e0, e1, e2, e3⟩ := GS.out.cells4
      refine bodyPost_ret (v := .tuple #[.agg #[.int .i64 0, .slice none 0 0, .slice none 0 0, .int .i64 0], .int .i64 (2)]) (by simp [results, Tryz.results41, go_sem, e0, e1, e2, e3]) rfl ?_
      rw [HN.out]
      exact ⟨none, 0, 0, none, 0, 0, rfl, GL.out, IsInts.empty _, IsInts.empty _, fresh_none _ _ _, fresh_none _ _ _⟩
    | some n =>
      simp only [numT, Option.getD_some, Option.isSome_some]
      have HK2 := Lib.hid hn
      have HJ1 := Lib.hid (ints_fresh HI1.out HE1.out (show w1.heap.size < w3.heap.size from HG1.out) 3 (.int .i64 n))
      clear HI1
      have aT : w5.cell? ⟨w1.heap.size, 3, none⟩ = some (.int .i64 0) := BA5.out.cell 3
      have fT := BA5.out.frozen 3
      have BB := Lib.hid (set4_4 BA5.out (.int .i64 n))
      have HBB := Lib.hid ((HB5.out).setCell (p := ⟨w1.heap.size, 3, none⟩) (Nat.le_refl _) (.int .i64 n))
      go_upto_region 34 with (fail)
      clear aT fT
      revert HJ1 BB HBB
      generalize World.setCell _ _ _ = w7
      intro HI1 BA7 HB7
      clear a0
      have a0 : w7.cell? ⟨w1.heap.size, 0, none⟩ = some (.int .i64 4) := BA7.out.cell 0
      clear a0
      have HV := Lib.hid (HOK.out HLN.out l1 n HK1.out HK2.out)
      have HAT := Lib.hid (fun W (hW : Below w7.heap.size w7 W) => ref_Atom 4 (n) (.slice S l1.length cS) (.slice none 0 0) l1 [] W (HI1.out.keep hW) (IsInts.empty _))
      obtain ⟨a0, a1, a2, a3⟩ := BA7.out.cells4
      by_cases hc : Venn.atomChk ⟨4, l1, [], n⟩ = 0
      rotate_left
      focus
        have hcn : (Venn.atomChk ⟨4, l1, [], n⟩ != 0) = true := by simpa using hc
        have HE := Lib.hid (show parseAV (some ⟨4, l1, [], n⟩) = ⟨0, [], [], 0⟩ from if_neg hc)
        have HC := Lib.hid (show parseAChk (some ⟨4, l1, [], n⟩) = Venn.atomChk ⟨4, l1, [], n⟩ from rfl)
        clear hc
        generalize Venn.atomChk ⟨4, l1, [], n⟩ = E at hcn HC HAT
        go_wp2_with fail
        refine (HAT.out _ (Below.refl _ _)).mono ?_
        rintro e wz ⟨rfl, hbz⟩
        clear a0 a1 a2 a3
        have HBz := Lib.hid (Below.next HB7.out hbz)
        have BRk := BR1.out.keep HBz.out
        have HBk := Below.next HB1.out HBz.out
        obtain ⟨r0, r1, r2, r3⟩ := BRk.cells4
        have q0 := BRk.frozen 0
        have q1 := BRk.frozen 1
        have q2 := BRk.frozen 2
        have q3 := BRk.frozen 3
        have GL := Lib.hid (below_set4 HBk (Nat.le_refl _) (.int .i64 0) (.slice none 0 0) (.slice none 0 0) (.int .i64 0))
        have GS := Lib.hid (BRk.set4 (.int .i64 0) (.slice none 0 0) (.slice none 0 0) (.int .i64 0))
        clear BRk HBk
        go_wp2
        clear r0 r1 r2 r3 q0 q1 q2 q3
        revert GL GS
        generalize World.setCell _ _ _ = Wf
        intro GL GS
        obtain ⟨e0, e1, e2, e3⟩ := GS.out.cells4
        refine bodyPost_ret (v := .tuple #[.agg #[.int .i64 0, .slice none 0 0, .slice none 0 0, .int .i64 0], .int .i64 (E)]) (by simp [results, Tryz.results41, go_sem, e0, e1, e2, e3]) rfl ?_
        rw [HV.out]
        exact ⟨none, 0, 0, none, 0, 0, by rw [HC.out, HE.out], GL.out, by rw [HE.out]; exact IsInts.empty _, by rw [HE.out]; exact IsInts.empty _, fresh_none _ _ _, fresh_none _ _ _⟩
      have HE := Lib.hid (show parseAV (some ⟨4, l1, [], n⟩) = ⟨4, l1, [], n⟩ from if_pos hc)
      have HC := Lib.hid (show parseAChk (some ⟨4, l1, [], n⟩) = 0 from hc)
      rw [hc] at HAT
      clear hc
      go_wp2_with fail
      refine (HAT.out _ (Below.refl _ _)).mono ?_
      rintro e wz ⟨rfl, hbz⟩
      clear a0 a1 a2 a3
      have HBz := Lib.hid (Below.next HB7.out hbz)
      obtain ⟨a0, a1, a2, a3⟩ := (BA7.out.keep hbz).cells4
      have BRk := BR1.out.keep HBz.out
      have HBk := Below.next HB1.out HBz.out
      obtain ⟨r0, r1, r2, r3⟩ := BRk.cells4
      have q0 := BRk.frozen 0
      have q1 := BRk.frozen 1
      have q2 := BRk.frozen 2
      have q3 := BRk.frozen 3
      have GL := Lib.hid (below_set4 HBk (Nat.le_refl _) (.int .i64 4) (.slice S l1.length cS) (.slice none 0 0) (.int .i64 n))
      have GS := Lib.hid (BRk.set4 (.int .i64 4) (.slice S l1.length cS) (.slice none 0 0) (.int .i64 n))
      have GI := Lib.hid (ints_res (g := w.heap.size) (HI1.out.keep hbz) (fun ad e => by have := HF1.out ad e; have := HW1.out; have := HG1.out; omega) (.int .i64 4) (.slice S l1.length cS) (.slice none 0 0) (.int .i64 n))
      have HW3 := Lib.hid (show w.heap.size ≤ w3.heap.size by have := HW1.out; have := HG1.out; omega)
      have HW2 := Lib.hid (show w.heap.size ≠ w1.heap.size from Nat.ne_of_lt HW1.out)
      have nW := Nat.ne_of_lt HW1.out
      clear BRk HBk
      go_wp2
      clear a0 a1 a2 a3 r0 r1 r2 r3 q0 q1 q2 q3
      revert GL GS GI
      generalize World.setCell _ _ _ = Wf
      intro GL GS GI
      obtain ⟨e0, e1, e2, e3⟩ := GS.out.cells4
      refine bodyPost_ret (v := .tuple #[.agg #[.int .i64 4, .slice S l1.length cS, .slice none 0 0, .int .i64 n], .int .i64 0]) (by simp [results, Tryz.results41, go_sem, e0, e1, e2, e3]) rfl ?_
      rw [HV.out, HE.out, HC.out]
      exact ⟨_, _, _, _, _, _, rfl, GL.out, GI.out, IsInts.empty _, fresh_some HW3.out HF1.out, fresh_none _ _ _⟩
  focus
    have hne : ((ws.length : Int) != 3) = true := by simp; omega
    have HN := Lib.hid (HL.out hL)
    clear hL
    have BRk := BR1.out.keep HB3.out
    have HBk := Below.next HB1.out HB3.out
    obtain ⟨r0, r1, r2, r3⟩ := BRk.cells4
    have q0 := BRk.frozen 0
    have q1 := BRk.frozen 1
    have q2 := BRk.frozen 2
    have q3 := BRk.frozen 3
    have GL := Lib.hid (below_set4 HBk (Nat.le_refl _) (.int .i64 0) (.slice none 0 0) (.slice none 0 0) (.int .i64 0))
    have GS := Lib.hid (BRk.set4 (.int .i64 0) (.slice none 0 0) (.slice none 0 0) (.int .i64 0))
    clear BRk HBk
    go_wp2
    clear r0 r1 r2 r3 q0 q1 q2 q3
    revert GL GS
    generalize World.setCell _ _ _ = Wf
    intro GL GS
    obtain ⟨e0, e1, e2, e3⟩ := GS.out.cells4
    refine bodyPost_ret (v := .tuple #[.agg #[.int .i64 0, .slice none 0 0, .slice none 0 0, .int .i64 0], .int .i64 (2)]) (by simp [results, Tryz.results41, go_sem, e0, e1, e2, e3]) rfl ?_
    rw [HN.out]
    exact ⟨none, 0, 0, none, 0, 0, rfl, GL.out, IsInts.empty _, IsInts.empty _, fresh_none _ _ _, fresh_none _ _ _⟩
set_option maxHeartbeats 4000000 in
set_option maxRecDepth 100000 in
theorem refread_5 (s : ByteArray) (w : World) (hs : s.size < 4294967281) (hw0 : wordAt (wordsOf s) 0 = Venn.wordB 5) : Calls Tryz.prog 41 #[.string s] w (AtomGivenRF (parseAV (readSTN 5 (wordsOf s))) (parseAChk (readSTN 5 (wordsOf s))) w) := by
  have hX : (wordsOf s).getD 0 ⟨#[]⟩ = ⟨#[110, 111, 109, 111, 114, 101]⟩ := bytes_word hw0
  have HCT := Lib.hid (fun W => ref_Cut32 s W hs)
  have HPOS := Lib.hid (show 0 < (wordsOf s).length by rw [words_len]; omega)
  have hsz := getD_size (words_size hs) (by decide)
  clear hw0 hs
  generalize wordsOf s = ws at hX HCT HPOS hsz ⊢
  have HL := Lib.hid (fun h => readSTN_len (x := 5) (ws := ws) h)
  have H1 := Lib.hid (fun h => readSTN_1 (x := 5) (ws := ws) h)
  have H2 := Lib.hid (fun h => readSTN_2 (x := 5) (ws := ws) h)
  have H3 := Lib.hid (fun h => readSTN_3 (x := 5) (ws := ws) h)
  have HOK := Lib.hid (fun (hl : ws.length = 4) (s : List Int) (t : List Int) (n : Int) h1 h2 h3 => readSTN_ok (x := 5) hl (s := s) (t := t) (n := n) h1 h2 h3)
  have HR1 := Lib.hid (fun W => ref_ReadTermF (ws.getD 1 ⟨#[]⟩) W (Nat.lt_trans (hsz 1) (by decide)))
  have HR2 := Lib.hid (fun W => ref_ReadTermF (ws.getD 2 ⟨#[]⟩) W (Nat.lt_trans (hsz 2) (by decide)))
  have HR3 := Lib.hid (fun W => ref_ReadNumber (ws.getD 3 ⟨#[]⟩) W (hsz 3))
  clear hsz
  generalize readSTN 5 ws = O at H1 H2 H3 HOK HL ⊢
  have hal0 : Below w.heap.size w (w.alloc (.cells #[.int .i64 0, .slice none 0 0, .slice none 0 0, .int .i64 0] 32)) := by (repeat' (first | (with_reducible exact Below.refl _ _) | (with_reducible assumption) | (with_reducible refine Below.next ?_ (by with_reducible assumption)) | (with_reducible refine Below.drew ?_) | (with_reducible refine Below.laid ?_ _) | (with_reducible refine Below.setCell ?_ ?_ _) | (with_reducible refine size_of ?_) | (with_reducible refine Nat.le_succ_of_le ?_) | go_size))
  have BR0 := Lib.hid (Blk.new w 32 #[.int .i64 0, .slice none 0 0, .slice none 0 0, .int .i64 0])
  have hz : (w.alloc (.cells #[.int .i64 0, .slice none 0 0, .slice none 0 0, .int .i64 0] 32)).heap.size = w.heap.size + 1 := by simp
  go_enter Tryz.func41, Tryz.ntmps41
  go_upto_region 1 with (fail)
  revert hal0 BR0 hz
  generalize w.alloc (.cells #[.int .i64 0, .slice none 0 0, .slice none 0 0, .int .i64 0] 32) = w0
  intro hal0 BR0 hz
  have HZ := Lib.hid hz
  have HB0 := Lib.hid hal0
  clear hal0 hz
  go_wp2_with fail
  refine (HCT.out w0).mono ?_
  rintro e w1 ⟨v, rfl, hb1, A, cA, hv, hr, hc1, hc2⟩
  have HB1 := Lib.hid (Below.next HB0.out hb1)
  have BR1 := Lib.hid (BR0.out.keep hb1)
  have HW1 := Lib.hid (show w.heap.size < w1.heap.size from BR1.out.lt)
  obtain ⟨ad, rfl, hx0⟩ := strs_at hr HPOS.out
  have HRR := Lib.hid (show ∀ k, k < ws.length → w1.cell? (ad.add k) = some (.string (ws.getD k ⟨#[]⟩)) from fun k hk => by obtain ⟨a2, e, h⟩ := strs_at hr hk; cases e; exact h)
  clear hr hc1 hc2 hb1 BR0
  have BA2 := Blk.new w1 32 #[.int .i64 0, .slice none 0 0, .slice none 0 0, .int .i64 0]
  have hb2 : Below w1.heap.size w1 (w1.alloc (.cells #[.int .i64 0, .slice none 0 0, .slice none 0 0, .int .i64 0] 32)) := (Below.refl _ _).alloc (Nat.le_refl _) _
  subst hv
  go_upto_region 3 with (fail)
  revert BA2 hb2
  generalize w1.alloc (.cells #[.int .i64 0, .slice none 0 0, .slice none 0 0, .int .i64 0] 32) = w2
  intro BA2 hb2
  have x0 := cell_keep hb2 hx0
  have x0' : w2.cell? ad = some (.string (ws.getD 0 ⟨#[]⟩)) := by have := x0; rwa [add_zero] at this
  clear hx0
  rw [hX] at x0 x0'
  obtain ⟨a0, a1, a2, a3⟩ := BA2.cells4
  have f0 := BA2.frozen 0
  have BA3 := Lib.hid (set4_1 BA2 (.int .i64 5))
  have HB3 := Lib.hid (hb2.setCell (p := ⟨w1.heap.size, 0, none⟩) (Nat.le_refl _) (.int .i64 5))
  generalize hX1 : ws.getD 1 ⟨#[]⟩ = X1 at H1 HOK HR1
  generalize hX2 : ws.getD 2 ⟨#[]⟩ = X2 at H2 HOK HR2
  generalize hX3 : ws.getD 3 ⟨#[]⟩ = X3 at H3 HOK HR3
  have HX1 := Lib.hid hX1
  clear hX1
  have HX2 := Lib.hid hX2
  clear hX2
  have HX3 := Lib.hid hX3
  clear hX3
  clear BA2 hb2
  go_upto_region 15 with (fail)
  clear a0 a1 a2 a3 f0 x0 x0' hX
  revert BA3 HB3
  generalize World.setCell _ _ _ = w3
  intro BA3 HB3
  have HLA := Lib.hid BA3.out.lt
  have a0 : w3.cell? ⟨w1.heap.size, 0, none⟩ = some (.int .i64 5) := BA3.out.cell 0
  by_cases hL : ws.length = 4
  focus
    rw [hL]
    have X1c := Lib.hid (show w1.cell? (ad.add 1) = some (.string X1) by have := HRR.out 1 (by omega); rwa [HX1.out] at this)
    have X2c := Lib.hid (show w1.cell? (ad.add 2) = some (.string X2) by have := HRR.out 2 (by omega); rwa [HX2.out] at this)
    have X3c := Lib.hid (show w1.cell? (ad.add 3) = some (.string X3) by have := HRR.out 3 (by omega); rwa [HX3.out] at this)
    have HLN := Lib.hid hL
    clear hL
    have x1 : w3.cell? ⟨ad.block, ad.off + 1, none⟩ = some (.string X1) := cell_keep HB3.out X1c.out
    go_wp2_with fail
    refine (HR1.out w3).mono ?_
    rintro e w4 ⟨v1, b1, rfl, hb4, hcase⟩
    have HB4 := Lib.hid (Below.next HB3.out hb4)
    have BA4 := Lib.hid (BA3.out.keep hb4)
    clear a0 x1
    rcases hcase with ⟨l1, h1, rfl, hI, hF⟩ | ⟨h1, rfl, rfl⟩
    rotate_left
    focus
      have HN := Lib.hid (H1.out h1)
      have BRk := BR1.out.keep HB4.out
      have HBk := Below.next HB1.out HB4.out
      obtain ⟨r0, r1, r2, r3⟩ := BRk.cells4
      have q0 := BRk.frozen 0
      have q1 := BRk.frozen 1
      have q2 := BRk.frozen 2
      have q3 := BRk.frozen 3
      have GL := Lib.hid (below_set4 HBk (Nat.le_refl _) (.int .i64 0) (.slice none 0 0) (.slice none 0 0) (.int .i64 0))
      have GS := Lib.hid (BRk.set4 (.int .i64 0) (.slice none 0 0) (.slice none 0 0) (.int .i64 0))
      clear BRk HBk
      go_wp2
      clear r0 r1 r2 r3 q0 q1 q2 q3
      revert GL GS
      generalize World.setCell _ _ _ = Wf
      intro GL GS
      obtain ⟨e0, e1, e2, e3⟩ := GS.out.cells4
      refine bodyPost_ret (v := .tuple #[.agg #[.int .i64 0, .slice none 0 0, .slice none 0 0, .int .i64 0], .int .i64 (2)]) (by simp [results, Tryz.results41, go_sem, e0, e1, e2, e3]) rfl ?_
      rw [HN.out]
      exact ⟨none, 0, 0, none, 0, 0, rfl, GL.out, IsInts.empty _, IsInts.empty _, fresh_none _ _ _, fresh_none _ _ _⟩
    obtain ⟨S, cS, rfl, _⟩ := id hI
    have HK1 := Lib.hid h1
    have HI1 := Lib.hid (ints_fresh hI hF (show w1.heap.size < w3.heap.size from BA3.out.lt) 1 (.slice S l1.length cS))
    have HF1 := Lib.hid (show ∀ ad, S = some ad → w3.heap.size ≤ ad.block from fun ad e => hF ad _ _ (by rw [e]))
    have HE1 := Lib.hid (show FreshV w3 (.slice S l1.length cS) from hF)
    have HG1 := Lib.hid (show w1.heap.size < w3.heap.size from BA3.out.lt)
    clear hI hF h1 hb4
    have aT : w4.cell? ⟨w1.heap.size, 1, none⟩ = some (.slice none 0 0) := BA4.out.cell 1
    have fT := BA4.out.frozen 1
    have BB := Lib.hid (set4_2 BA4.out (.slice S l1.length cS))
    have HBB := Lib.hid ((HB4.out).setCell (p := ⟨w1.heap.size, 1, none⟩) (Nat.le_refl _) (.slice S l1.length cS))
    go_upto_region 24 with (fail)
    clear aT fT
    revert HI1 BB HBB
    generalize World.setCell _ _ _ = w5
    intro HI1 BA5 HB5
    have a0 : w5.cell? ⟨w1.heap.size, 0, none⟩ = some (.int .i64 5) := BA5.out.cell 0
    have x2 : w5.cell? ⟨ad.block, ad.off + 2, none⟩ = some (.string X2) := cell_keep HB5.out X2c.out
    go_wp2_with fail
    refine (HR2.out w5).mono ?_
    rintro e w6 ⟨v2, b2, rfl, hb6, hcase⟩
    have HB6 := Lib.hid (Below.next HB5.out hb6)
    have BA6 := Lib.hid (BA5.out.keep hb6)
    clear a0 x2
    rcases hcase with ⟨l2, h2, rfl, hI, hF⟩ | ⟨h2, rfl, rfl⟩
    rotate_left
    focus
      have HN := Lib.hid (H2.out h2)
      have BRk := BR1.out.keep HB6.out
      have HBk := Below.next HB1.out HB6.out
      obtain ⟨r0, r1, r2, r3⟩ := BRk.cells4
      have q0 := BRk.frozen 0
      have q1 := BRk.frozen 1
      have q2 := BRk.frozen 2
      have q3 := BRk.frozen 3
      have GL := Lib.hid (below_set4 HBk (Nat.le_refl _) (.int .i64 0) (.slice none 0 0) (.slice none 0 0) (.int .i64 0))
      have GS := Lib.hid (BRk.set4 (.int .i64 0) (.slice none 0 0) (.slice none 0 0) (.int .i64 0))
      clear BRk HBk
      go_wp2
      clear r0 r1 r2 r3 q0 q1 q2 q3
      revert GL GS
      generalize World.setCell _ _ _ = Wf
      intro GL GS
      obtain ⟨e0, e1, e2, e3⟩ := GS.out.cells4
      refine bodyPost_ret (v := .tuple #[.agg #[.int .i64 0, .slice none 0 0, .slice none 0 0, .int .i64 0], .int .i64 (2)]) (by simp [results, Tryz.results41, go_sem, e0, e1, e2, e3]) rfl ?_
      rw [HN.out]
      exact ⟨none, 0, 0, none, 0, 0, rfl, GL.out, IsInts.empty _, IsInts.empty _, fresh_none _ _ _, fresh_none _ _ _⟩
    obtain ⟨T, cT, rfl, _⟩ := id hI
    have HK2 := Lib.hid h2
    have HI2 := Lib.hid (ints_fresh hI hF (show w1.heap.size < w5.heap.size from BA5.out.lt) 2 (.slice T l2.length cT))
    have HF2 := Lib.hid (show ∀ ad, T = some ad → w5.heap.size ≤ ad.block from fun ad e => hF ad _ _ (by rw [e]))
    have HE2 := Lib.hid (show FreshV w5 (.slice T l2.length cT) from hF)
    have HJ1 := Lib.hid (ints_fresh (HI1.out.keep hb6) HE1.out (show w1.heap.size < w3.heap.size from HG1.out) 2 (.slice T l2.length cT))
    clear HI1
    have HG2 := Lib.hid (show w1.heap.size < w5.heap.size from BA5.out.lt)
    clear hI hF h2 hb6
    have aT : w6.cell? ⟨w1.heap.size, 2, none⟩ = some (.slice none 0 0) := BA6.out.cell 2
    have fT := BA6.out.frozen 2
    have BB := Lib.hid (set4_3 BA6.out (.slice T l2.length cT))
    have HBB := Lib.hid ((HB6.out).setCell (p := ⟨w1.heap.size, 2, none⟩) (Nat.le_refl _) (.slice T l2.length cT))
    go_upto_region 29 with (fail)
    clear aT fT
    revert HI2 HJ1 BB HBB
    generalize World.setCell _ _ _ = w7
    intro HI2 HI1 BA7 HB7
    have a0 : w7.cell? ⟨w1.heap.size, 0, none⟩ = some (.int .i64 5) := BA7.out.cell 0
    have x3 : w7.cell? ⟨ad.block, ad.off + 3, none⟩ = some (.string X3) := cell_keep HB7.out X3c.out
    go_wp2_with fail
    refine (HR3.out w7).mono ?_
    rintro e w8 ⟨rfl, rfl⟩
    clear x3
    cases hn : Venn.readNum X3.data.toList with
    | none =>
      have HN := Lib.hid (H3.out hn)
      simp only [numT, Option.getD_none, Option.isSome_none]
      have BRk := BR1.out.keep HB7.out
      have HBk := Below.next HB1.out HB7.out
      obtain ⟨r0, r1, r2, r3⟩ := BRk.cells4
      have q0 := BRk.frozen 0
      have q1 := BRk.frozen 1
      have q2 := BRk.frozen 2
      have q3 := BRk.frozen 3
      have GL := Lib.hid (below_set4 HBk (Nat.le_refl _) (.int .i64 0) (.slice none 0 0) (.slice none 0 0) (.int .i64 0))
      have GS := Lib.hid (BRk.set4 (.int .i64 0) (.slice none 0 0) (.slice none 0 0) (.int .i64 0))
      clear BRk HBk
      go_wp2
      clear r0 r1 r2 r3 q0 q1 q2 q3
      revert GL GS
      generalize World.setCell _ _ _ = Wf
      intro GL GS
      obtain ⟨e0, e1, e2, e3⟩ := GS.out.cells4
      refine bodyPost_ret (v := .tuple #[.agg #[.int .i64 0, .slice none 0 0, .slice none 0 0, .int .i64 0], .int .i64 (2)]) (by simp [results, Tryz.results41, go_sem, e0, e1, e2, e3]) rfl ?_
      rw [HN.out]
      exact ⟨none, 0, 0, none, 0, 0, rfl, GL.out, IsInts.empty _, IsInts.empty _, fresh_none _ _ _, fresh_none _ _ _⟩
    | some n =>
      simp only [numT, Option.getD_some, Option.isSome_some]
      have HK3 := Lib.hid hn
      have HJ1 := Lib.hid (ints_fresh HI1.out HE1.out (show w1.heap.size < w3.heap.size from HG1.out) 3 (.int .i64 n))
      clear HI1
      have HJ2 := Lib.hid (ints_fresh HI2.out HE2.out (show w1.heap.size < w5.heap.size from HG2.out) 3 (.int .i64 n))
      clear HI2
      have aT : w7.cell? ⟨w1.heap.size, 3, none⟩ = some (.int .i64 0) := BA7.out.cell 3
      have fT := BA7.out.frozen 3
      have BB := Lib.hid (set4_4 BA7.out (.int .i64 n))
      have HBB := Lib.hid ((HB7.out).setCell (p := ⟨w1.heap.size, 3, none⟩) (Nat.le_refl _) (.int .i64 n))
      go_upto_region 34 with (fail)
      clear aT fT
      revert HJ1 HJ2 BB HBB
      generalize World.setCell _ _ _ = w9
      intro HI1 HI2 BA9 HB9
      clear a0
      have a0 : w9.cell? ⟨w1.heap.size, 0, none⟩ = some (.int .i64 5) := BA9.out.cell 0
      clear a0
      have HV := Lib.hid (HOK.out HLN.out l1 l2 n HK1.out HK2.out HK3.out)
      have HAT := Lib.hid (fun W (hW : Below w9.heap.size w9 W) => ref_Atom 5 (n) (.slice S l1.length cS) (.slice T l2.length cT) l1 l2 W (HI1.out.keep hW) (HI2.out.keep hW))
      obtain ⟨a0, a1, a2, a3⟩ := BA9.out.cells4
      by_cases hc : Venn.atomChk ⟨5, l1, l2, n⟩ = 0
      rotate_left
      focus
        have hcn : (Venn.atomChk ⟨5, l1, l2, n⟩ != 0) = true := by simpa using hc
        have HE := Lib.hid (show parseAV (some ⟨5, l1, l2, n⟩) = ⟨0, [], [], 0⟩ from if_neg hc)
        have HC := Lib.hid (show parseAChk (some ⟨5, l1, l2, n⟩) = Venn.atomChk ⟨5, l1, l2, n⟩ from rfl)
        clear hc
        generalize Venn.atomChk ⟨5, l1, l2, n⟩ = E at hcn HC HAT
        go_wp2_with fail
        refine (HAT.out _ (Below.refl _ _)).mono ?_
        rintro e wz ⟨rfl, hbz⟩
        clear a0 a1 a2 a3
        have HBz := Lib.hid (Below.next HB9.out hbz)
        have BRk := BR1.out.keep HBz.out
        have HBk := Below.next HB1.out HBz.out
        obtain ⟨r0, r1, r2, r3⟩ := BRk.cells4
        have q0 := BRk.frozen 0
        have q1 := BRk.frozen 1
        have q2 := BRk.frozen 2
        have q3 := BRk.frozen 3
        have GL := Lib.hid (below_set4 HBk (Nat.le_refl _) (.int .i64 0) (.slice none 0 0) (.slice none 0 0) (.int .i64 0))
        have GS := Lib.hid (BRk.set4 (.int .i64 0) (.slice none 0 0) (.slice none 0 0) (.int .i64 0))
        clear BRk HBk
        go_wp2
        clear r0 r1 r2 r3 q0 q1 q2 q3
        revert GL GS
        generalize World.setCell _ _ _ = Wf
        intro GL GS
        obtain ⟨e0, e1, e2, e3⟩ := GS.out.cells4
        refine bodyPost_ret (v := .tuple #[.agg #[.int .i64 0, .slice none 0 0, .slice none 0 0, .int .i64 0], .int .i64 (E)]) (by simp [results, Tryz.results41, go_sem, e0, e1, e2, e3]) rfl ?_
        rw [HV.out]
        exact ⟨none, 0, 0, none, 0, 0, by rw [HC.out, HE.out], GL.out, by rw [HE.out]; exact IsInts.empty _, by rw [HE.out]; exact IsInts.empty _, fresh_none _ _ _, fresh_none _ _ _⟩
      have HE := Lib.hid (show parseAV (some ⟨5, l1, l2, n⟩) = ⟨5, l1, l2, n⟩ from if_pos hc)
      have HC := Lib.hid (show parseAChk (some ⟨5, l1, l2, n⟩) = 0 from hc)
      rw [hc] at HAT
      clear hc
      go_wp2_with fail
      refine (HAT.out _ (Below.refl _ _)).mono ?_
      rintro e wz ⟨rfl, hbz⟩
      clear a0 a1 a2 a3
      have HBz := Lib.hid (Below.next HB9.out hbz)
      obtain ⟨a0, a1, a2, a3⟩ := (BA9.out.keep hbz).cells4
      have BRk := BR1.out.keep HBz.out
      have HBk := Below.next HB1.out HBz.out
      obtain ⟨r0, r1, r2, r3⟩ := BRk.cells4
      have q0 := BRk.frozen 0
      have q1 := BRk.frozen 1
      have q2 := BRk.frozen 2
      have q3 := BRk.frozen 3
      have GL := Lib.hid (below_set4 HBk (Nat.le_refl _) (.int .i64 5) (.slice S l1.length cS) (.slice T l2.length cT) (.int .i64 n))
      have GS := Lib.hid (BRk.set4 (.int .i64 5) (.slice S l1.length cS) (.slice T l2.length cT) (.int .i64 n))
      have GI := Lib.hid (ints_res (g := w.heap.size) (HI1.out.keep hbz) (fun ad e => by have := HF1.out ad e; have := HW1.out; have := HG1.out; omega) (.int .i64 5) (.slice S l1.length cS) (.slice T l2.length cT) (.int .i64 n))
      have GT := Lib.hid (ints_res (g := w.heap.size) (HI2.out.keep hbz) (fun ad e => by have := HF2.out ad e; have := HW1.out; have := HG2.out; omega) (.int .i64 5) (.slice S l1.length cS) (.slice T l2.length cT) (.int .i64 n))
      have HW3 := Lib.hid (show w.heap.size ≤ w3.heap.size by have := HW1.out; have := HG1.out; omega)
      have HW5 := Lib.hid (show w.heap.size ≤ w5.heap.size by have := HW1.out; have := HG2.out; omega)
      have HW2 := Lib.hid (show w.heap.size ≠ w1.heap.size from Nat.ne_of_lt HW1.out)
      have nW := Nat.ne_of_lt HW1.out
      clear BRk HBk
      go_wp2
      clear a0 a1 a2 a3 r0 r1 r2 r3 q0 q1 q2 q3
      revert GL GS GI GT
      generalize World.setCell _ _ _ = Wf
      intro GL GS GI GT
      obtain ⟨e0, e1, e2, e3⟩ := GS.out.cells4
      refine bodyPost_ret (v := .tuple #[.agg #[.int .i64 5, .slice S l1.length cS, .slice T l2.length cT, .int .i64 n], .int .i64 0]) (by simp [results, Tryz.results41, go_sem, e0, e1, e2, e3]) rfl ?_
      rw [HV.out, HE.out, HC.out]
      exact ⟨_, _, _, _, _, _, rfl, GL.out, GI.out, GT.out, fresh_some HW3.out HF1.out, fresh_some HW5.out HF2.out⟩
  focus
    have hne : ((ws.length : Int) != 4) = true := by simp; omega
    have HN := Lib.hid (HL.out hL)
    clear hL
    have BRk := BR1.out.keep HB3.out
    have HBk := Below.next HB1.out HB3.out
    obtain ⟨r0, r1, r2, r3⟩ := BRk.cells4
    have q0 := BRk.frozen 0
    have q1 := BRk.frozen 1
    have q2 := BRk.frozen 2
    have q3 := BRk.frozen 3
    have GL := Lib.hid (below_set4 HBk (Nat.le_refl _) (.int .i64 0) (.slice none 0 0) (.slice none 0 0) (.int .i64 0))
    have GS := Lib.hid (BRk.set4 (.int .i64 0) (.slice none 0 0) (.slice none 0 0) (.int .i64 0))
    clear BRk HBk
    go_wp2
    clear r0 r1 r2 r3 q0 q1 q2 q3
    revert GL GS
    generalize World.setCell _ _ _ = Wf
    intro GL GS
    obtain ⟨e0, e1, e2, e3⟩ := GS.out.cells4
    refine bodyPost_ret (v := .tuple #[.agg #[.int .i64 0, .slice none 0 0, .slice none 0 0, .int .i64 0], .int .i64 (2)]) (by simp [results, Tryz.results41, go_sem, e0, e1, e2, e3]) rfl ?_
    rw [HN.out]
    exact ⟨none, 0, 0, none, 0, 0, rfl, GL.out, IsInts.empty _, IsInts.empty _, fresh_none _ _ _, fresh_none _ _ _⟩
set_option maxHeartbeats 4000000 in
set_option maxRecDepth 100000 in
theorem refread_0 (s : ByteArray) (w : World) (hs : s.size < 4294967281) (hw0 : ∀ i, 1 ≤ i → i ≤ 5 → wordAt (wordsOf s) 0 ≠ Venn.wordB i) : Calls Tryz.prog 41 #[.string s] w (AtomGivenRF (parseAV none) (parseAChk none) w) := by
  have q1 : (([115, 117, 98] : List UInt8) == ((wordsOf s).getD 0 ⟨#[]⟩).toList) = false := word_ne (hw0 1 (by decide) (by decide))
  have p1 : (((wordsOf s).getD 0 ⟨#[]⟩).toList == ([115, 117, 98] : List UInt8)) = false := by rw [Bool.beq_comm]; exact q1
  have q2 : (([115, 97, 109, 101] : List UInt8) == ((wordsOf s).getD 0 ⟨#[]⟩).toList) = false := word_ne (hw0 2 (by decide) (by decide))
  have p2 : (((wordsOf s).getD 0 ⟨#[]⟩).toList == ([115, 97, 109, 101] : List UInt8)) = false := by rw [Bool.beq_comm]; exact q2
  have q3 : (([108, 101, 97, 115, 116] : List UInt8) == ((wordsOf s).getD 0 ⟨#[]⟩).toList) = false := word_ne (hw0 3 (by decide) (by decide))
  have p3 : (((wordsOf s).getD 0 ⟨#[]⟩).toList == ([108, 101, 97, 115, 116] : List UInt8)) = false := by rw [Bool.beq_comm]; exact q3
  have q4 : (([109, 111, 115, 116] : List UInt8) == ((wordsOf s).getD 0 ⟨#[]⟩).toList) = false := word_ne (hw0 4 (by decide) (by decide))
  have p4 : (((wordsOf s).getD 0 ⟨#[]⟩).toList == ([109, 111, 115, 116] : List UInt8)) = false := by rw [Bool.beq_comm]; exact q4
  have q5 : (([110, 111, 109, 111, 114, 101] : List UInt8) == ((wordsOf s).getD 0 ⟨#[]⟩).toList) = false := word_ne (hw0 5 (by decide) (by decide))
  have p5 : (((wordsOf s).getD 0 ⟨#[]⟩).toList == ([110, 111, 109, 111, 114, 101] : List UInt8)) = false := by rw [Bool.beq_comm]; exact q5
  have HCT := Lib.hid (fun W => ref_Cut32 s W hs)
  have HPOS := Lib.hid (show 0 < (wordsOf s).length by rw [words_len]; omega)
  clear hw0 hs
  generalize wordsOf s = ws at HCT HPOS q1 q2 q3 q4 q5 p1 p2 p3 p4 p5
  have hal0 : Below w.heap.size w (w.alloc (.cells #[.int .i64 0, .slice none 0 0, .slice none 0 0, .int .i64 0] 32)) := by (repeat' (first | (with_reducible exact Below.refl _ _) | (with_reducible assumption) | (with_reducible refine Below.next ?_ (by with_reducible assumption)) | (with_reducible refine Below.drew ?_) | (with_reducible refine Below.laid ?_ _) | (with_reducible refine Below.setCell ?_ ?_ _) | (with_reducible refine size_of ?_) | (with_reducible refine Nat.le_succ_of_le ?_) | go_size))
  have BR0 := Lib.hid (Blk.new w 32 #[.int .i64 0, .slice none 0 0, .slice none 0 0, .int .i64 0])
  have hz : (w.alloc (.cells #[.int .i64 0, .slice none 0 0, .slice none 0 0, .int .i64 0] 32)).heap.size = w.heap.size + 1 := by simp
  go_enter Tryz.func41, Tryz.ntmps41
  go_upto_region 1 with (fail)
  revert hal0 BR0 hz
  generalize w.alloc (.cells #[.int .i64 0, .slice none 0 0, .slice none 0 0, .int .i64 0] 32) = w0
  intro hal0 BR0 hz
  have HZ := Lib.hid hz
  have HB0 := Lib.hid hal0
  clear hal0 hz
  go_wp2_with fail
  refine (HCT.out w0).mono ?_
  rintro e w1 ⟨v, rfl, hb1, A, cA, hv, hr, hc1, hc2⟩
  have HB1 := Lib.hid (Below.next HB0.out hb1)
  have BR1 := Lib.hid (BR0.out.keep hb1)
  have HW1 := Lib.hid (show w.heap.size < w1.heap.size from BR1.out.lt)
  obtain ⟨ad, rfl, hx0⟩ := strs_at hr HPOS.out
  have HRR := Lib.hid (show ∀ k, k < ws.length → w1.cell? (ad.add k) = some (.string (ws.getD k ⟨#[]⟩)) from fun k hk => by obtain ⟨a2, e, h⟩ := strs_at hr hk; cases e; exact h)
  clear hr hc1 hc2 hb1 BR0
  have BA2 := Blk.new w1 32 #[.int .i64 0, .slice none 0 0, .slice none 0 0, .int .i64 0]
  have hb2 : Below w1.heap.size w1 (w1.alloc (.cells #[.int .i64 0, .slice none 0 0, .slice none 0 0, .int .i64 0] 32)) := (Below.refl _ _).alloc (Nat.le_refl _) _
  subst hv
  go_upto_region 3 with (fail)
  revert BA2 hb2
  generalize w1.alloc (.cells #[.int .i64 0, .slice none 0 0, .slice none 0 0, .int .i64 0] 32) = w2
  intro BA2 hb2
  have x0 := cell_keep hb2 hx0
  have x0' : w2.cell? ad = some (.string (ws.getD 0 ⟨#[]⟩)) := by have := x0; rwa [add_zero] at this
  clear hx0
  generalize ws.getD 0 ⟨#[]⟩ = X at q1 q2 q3 q4 q5 p1 p2 p3 p4 p5 x0 x0'
  obtain ⟨a0, a1, a2, a3⟩ := BA2.cells4
  have HB2 := Lib.hid hb2
  clear hb2 BA2
  have nW := Nat.ne_of_lt HW1.out
  have BRk := BR1.out.keep HB2.out
  have HBk := Below.next HB1.out HB2.out
  obtain ⟨r0, r1, r2, r3⟩ := BRk.cells4
  have q0 := BRk.frozen 0
  have q1 := BRk.frozen 1
  have q2 := BRk.frozen 2
  have q3 := BRk.frozen 3
  have GL := Lib.hid (below_set4 HBk (Nat.le_refl _) (.int .i64 0) (.slice none 0 0) (.slice none 0 0) (.int .i64 0))
  have GS := Lib.hid (BRk.set4 (.int .i64 0) (.slice none 0 0) (.slice none 0 0) (.int .i64 0))
  clear BRk HBk
  go_wp2
  clear r0 r1 r2 r3 q0 q1 q2 q3
  revert GL GS
  generalize World.setCell _ _ _ = Wf
  intro GL GS
  obtain ⟨e0, e1, e2, e3⟩ := GS.out.cells4
  refine bodyPost_ret (v := .tuple #[.agg #[.int .i64 0, .slice none 0 0, .slice none 0 0, .int .i64 0], .int .i64 (2)]) (by simp [results, Tryz.results41, go_sem, e0, e1, e2, e3]) rfl ?_
  exact ⟨none, 0, 0, none, 0, 0, rfl, GL.out, IsInts.empty _, IsInts.empty _, fresh_none _ _ _, fresh_none _ _ _⟩
theorem ref_ReadAtomF (s : ByteArray) (w : World) (hs : s.size < 4294967281) : Calls Tryz.prog 41 #[.string s] w (AtomGivenRF (parseAV (readA (wordsOf s))) (parseAChk (readA (wordsOf s))) w) := by
  by_cases h1 : wordAt (wordsOf s) 0 = Venn.wordB 1
  · rw [readA, if_pos h1]; exact refread_1 s w hs h1
  by_cases h2 : wordAt (wordsOf s) 0 = Venn.wordB 2
  · rw [readA, if_neg h1, if_pos h2]; exact refread_2 s w hs h2
  by_cases h3 : wordAt (wordsOf s) 0 = Venn.wordB 3
  · rw [readA, if_neg h1, if_neg h2, if_pos h3]; exact refread_3 s w hs h3
  by_cases h4 : wordAt (wordsOf s) 0 = Venn.wordB 4
  · rw [readA, if_neg h1, if_neg h2, if_neg h3, if_pos h4]; exact refread_4 s w hs h4
  by_cases h5 : wordAt (wordsOf s) 0 = Venn.wordB 5
  · rw [readA, if_neg h1, if_neg h2, if_neg h3, if_neg h4, if_pos h5]; exact refread_5 s w hs h5
  rw [readA, if_neg h1, if_neg h2, if_neg h3, if_neg h4, if_neg h5]
  refine refread_0 s w hs fun i h h' => ?_
  rcases (by omega : i = 1 ∨ i = 2 ∨ i = 3 ∨ i = 4 ∨ i = 5) with rfl | rfl | rfl | rfl | rfl <;> assumption
theorem ref_ReadAtom (s : ByteArray) (w : World) (hs : s.size < 4294967281) : Calls Tryz.prog 41 #[.string s] w (AtomGivenR (parseAV (readA (wordsOf s))) (parseAChk (readA (wordsOf s))) w) :=
  (ref_ReadAtomF s w hs).mono fun _ _ ⟨A, n, c, A', n', c', h1, h2, h3, h4, _, _⟩ => ⟨A, n, c, A', n', c', h1, h2, h3, h4⟩
end Go.Proofs.YtcloppcekbdbaaaGreatDoor
