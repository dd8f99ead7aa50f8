/-
  THE WALK of the reference's AtomText (printed by gen_refread.py).
-/
import Derived.Test.YtcloppcekbdbaaaGreatDoorRefCut
import Derived.Test.YtcloppcekbdbaaaGreatDoorAtomText
namespace Go.Proofs.YtcloppcekbdbaaaGreatDoor
open Go.RowKit

set_option maxHeartbeats 1000000 in
set_option maxRecDepth 100000 in
theorem ref_TermText0 (A : Option Addr) (c : Nat) (w : World) : Calls Tryz.prog 82 #[.slice A 0 c] w (Keeps (.string ⟨#[]⟩) w) := by
  go_enter Tryz.func82, Tryz.ntmps82
  go_wp2
  refine wp_loop_rounds 1 ?_
  rw [rounds_succ]
  go_wp2
  go_ret
  exact ⟨rfl, Below.refl _ _⟩
set_option maxHeartbeats 2000000 in
set_option maxRecDepth 100000 in
theorem ref_AtomText1 (n : Int) (sv tv : Value) (s t : List Int) (w : World) (hs : IsInts w sv s) (ht : IsInts w tv t) (hc : Venn.atomChk ⟨1, s, t, n⟩ = 0) : Calls Tryz.prog 36 #[.agg #[.int .i64 1, sv, tv, .int .i64 n]] w (Keeps (.string ⟨(textA ⟨1, s, t, n⟩).toArray⟩) w) := by
  obtain ⟨-, -, cs, ct, cf, n1, n2, -⟩ := Venn.atomChk_parts hc
  simp only at cs ct cf n1 n2
  have ls := textB_len s
  have hls := (Venn.termChk_parts cs).2.1
  have ct' := ct rfl
  have lt := textB_len t
  have hlt := (Venn.termChk_parts ct').2.1
  have ln := itoa_len (n := n) ⟨n1, n2⟩
  have HTS := Lib.hid (fun W (hW : Below w.heap.size w W) => ref_TermText sv s W (hs.keep hW) cs)
  have HTT := Lib.hid (fun W (hW : Below w.heap.size w W) => ref_TermText tv t W (ht.keep hW) ct')
  have HN := Lib.hid (fun W => ref_Number n W ⟨by omega, by omega⟩)
  have HL := Lib.hid (show textA ⟨1, s, t, n⟩ = Lib.join [[115, 117, 98], textB s, textB t] [32] from rfl)
  rw [HL.out]
  obtain ⟨SA, kS, rfl, -⟩ := hs
  obtain ⟨TA, kT, rfl, -⟩ := ht
  have hal : Below w.heap.size w (w.alloc (.cells #[.int .i64 1, .slice SA s.length kS, .slice TA t.length kT, .int .i64 n] 32)) := by (repeat' (first | (with_reducible exact Below.refl _ _) | (with_reducible assumption) | (with_reducible refine Below.next ?_ (by with_reducible assumption)) | (with_reducible refine Below.drew ?_) | (with_reducible refine Below.laid ?_ _) | (with_reducible refine Below.setCell ?_ ?_ _) | (with_reducible refine size_of ?_) | (with_reducible refine Nat.le_succ_of_le ?_) | go_size))
  have BA := Blk.new w 32 #[.int .i64 1, .slice SA s.length kS, .slice TA t.length kT, .int .i64 n]
  clear HL cs ct cf hc n1 n2
  generalize textB s = S at ls HTS ⊢
  generalize textB t = T at lt HTT ⊢
  generalize Lib.itoa n = N at ln HN ⊢
  have szS : (⟨S.toArray⟩ : ByteArray).size = S.length := by show S.toArray.size = _; simp
  have szT : (⟨T.toArray⟩ : ByteArray).size = T.length := by show T.toArray.size = _; simp
  have szB : (⟨#[32]⟩ : ByteArray).size = 1 := rfl
  have szW : (⟨#[115, 117, 98, 32]⟩ : ByteArray).size = 4 := rfl
  have hadd1 : ∀ W : World, (Op.stringOp .add (⟨#[115, 117, 98, 32]⟩ : ByteArray) ⟨S.toArray⟩).run Tryz.prog W = .ok (.string ((⟨#[115, 117, 98, 32]⟩ : ByteArray) ++ ⟨S.toArray⟩)) W := fun W => run_string_add_sum W _ _ (by simp only [szW, szS]; omega)
  have hadd2 : ∀ W : World, (Op.stringOp .add ((⟨#[115, 117, 98, 32]⟩ : ByteArray) ++ ⟨S.toArray⟩) ⟨#[32]⟩).run Tryz.prog W = .ok (.string (((⟨#[115, 117, 98, 32]⟩ : ByteArray) ++ ⟨S.toArray⟩) ++ ⟨#[32]⟩)) W := fun W => run_string_add_sum W _ _ (by simp only [ByteArray.size_append, szW, szS, szB]; omega)
  have hadd3 : ∀ W : World, (Op.stringOp .add (((⟨#[115, 117, 98, 32]⟩ : ByteArray) ++ ⟨S.toArray⟩) ++ ⟨#[32]⟩) ⟨T.toArray⟩).run Tryz.prog W = .ok (.string ((((⟨#[115, 117, 98, 32]⟩ : ByteArray) ++ ⟨S.toArray⟩) ++ ⟨#[32]⟩) ++ ⟨T.toArray⟩)) W := fun W => run_string_add_sum W _ _ (by simp only [ByteArray.size_append, szW, szS, szB, szT]; omega)
  have HV := Lib.hid (show (((((⟨#[115, 117, 98, 32]⟩ : ByteArray) ++ ⟨S.toArray⟩) ++ ⟨#[32]⟩) ++ ⟨T.toArray⟩) : ByteArray) = ⟨(Lib.join [[115, 117, 98], S, T] [32]).toArray⟩ by
    apply ByteArray.ext; simp [Lib.join_cons, Lib.joinTail])
  rw [← HV.out]
  clear szS szB szW szT ls hls ln lt hlt ct' HV
  go_enter Tryz.func36, Tryz.ntmps36
  obtain ⟨c0, c1, c2, c3⟩ := BA.cells4
  go_wp2_with fail
  refine (HTS.out _ hal).mono ?_
  rintro e w1 ⟨rfl, hb1⟩
  have hq1 := Below.next hal hb1
  have BA1 := BA.keep hb1
  clear c0 c1 c2 c3
  obtain ⟨c0, c1, c2, c3⟩ := BA1.cells4
  go_wp2_with fail
  refine (HTT.out _ hq1).mono ?_
  rintro e w2 ⟨rfl, hb2⟩
  have hq2 := Below.next hq1 hb2
  have BA2 := BA1.keep hb2
  clear c0 c1 c2 c3
  obtain ⟨c0, c1, c2, c3⟩ := BA2.cells4
  go_wp2_with fail
  refine (HN.out _).mono ?_
  rintro e w3 ⟨rfl, rfl⟩
  go_wp2
  go_ret
  exact ⟨rfl, hq2⟩
set_option maxHeartbeats 2000000 in
set_option maxRecDepth 100000 in
theorem ref_AtomText2 (n : Int) (sv tv : Value) (s t : List Int) (w : World) (hs : IsInts w sv s) (ht : IsInts w tv t) (hc : Venn.atomChk ⟨2, s, t, n⟩ = 0) : Calls Tryz.prog 36 #[.agg #[.int .i64 2, sv, tv, .int .i64 n]] w (Keeps (.string ⟨(textA ⟨2, s, t, n⟩).toArray⟩) w) := by
  obtain ⟨-, -, cs, ct, cf, n1, n2, -⟩ := Venn.atomChk_parts hc
  simp only at cs ct cf n1 n2
  have ls := textB_len s
  have hls := (Venn.termChk_parts cs).2.1
  have ct' := ct rfl
  have lt := textB_len t
  have hlt := (Venn.termChk_parts ct').2.1
  have ln := itoa_len (n := n) ⟨n1, n2⟩
  have HTS := Lib.hid (fun W (hW : Below w.heap.size w W) => ref_TermText sv s W (hs.keep hW) cs)
  have HTT := Lib.hid (fun W (hW : Below w.heap.size w W) => ref_TermText tv t W (ht.keep hW) ct')
  have HN := Lib.hid (fun W => ref_Number n W ⟨by omega, by omega⟩)
  have HL := Lib.hid (show textA ⟨2, s, t, n⟩ = Lib.join [[115, 97, 109, 101], textB s, textB t] [32] from rfl)
  rw [HL.out]
  obtain ⟨SA, kS, rfl, -⟩ := hs
  obtain ⟨TA, kT, rfl, -⟩ := ht
  have hal : Below w.heap.size w (w.alloc (.cells #[.int .i64 2, .slice SA s.length kS, .slice TA t.length kT, .int .i64 n] 32)) := by (repeat' (first | (with_reducible exact Below.refl _ _) | (with_reducible assumption) | (with_reducible refine Below.next ?_ (by with_reducible assumption)) | (with_reducible refine Below.drew ?_) | (with_reducible refine Below.laid ?_ _) | (with_reducible refine Below.setCell ?_ ?_ _) | (with_reducible refine size_of ?_) | (with_reducible refine Nat.le_succ_of_le ?_) | go_size))
  have BA := Blk.new w 32 #[.int .i64 2, .slice SA s.length kS, .slice TA t.length kT, .int .i64 n]
  clear HL cs ct cf hc n1 n2
  generalize textB s = S at ls HTS ⊢
  generalize textB t = T at lt HTT ⊢
  generalize Lib.itoa n = N at ln HN ⊢
  have szS : (⟨S.toArray⟩ : ByteArray).size = S.length := by show S.toArray.size = _; simp
  have szT : (⟨T.toArray⟩ : ByteArray).size = T.length := by show T.toArray.size = _; simp
  have szB : (⟨#[32]⟩ : ByteArray).size = 1 := rfl
  have szW : (⟨#[115, 97, 109, 101, 32]⟩ : ByteArray).size = 5 := rfl
  have hadd1 : ∀ W : World, (Op.stringOp .add (⟨#[115, 97, 109, 101, 32]⟩ : ByteArray) ⟨S.toArray⟩).run Tryz.prog W = .ok (.string ((⟨#[115, 97, 109, 101, 32]⟩ : ByteArray) ++ ⟨S.toArray⟩)) W := fun W => run_string_add_sum W _ _ (by simp only [szW, szS]; omega)
  have hadd2 : ∀ W : World, (Op.stringOp .add ((⟨#[115, 97, 109, 101, 32]⟩ : ByteArray) ++ ⟨S.toArray⟩) ⟨#[32]⟩).run Tryz.prog W = .ok (.string (((⟨#[115, 97, 109, 101, 32]⟩ : ByteArray) ++ ⟨S.toArray⟩) ++ ⟨#[32]⟩)) W := fun W => run_string_add_sum W _ _ (by simp only [ByteArray.size_append, szW, szS, szB]; omega)
  have hadd3 : ∀ W : World, (Op.stringOp .add (((⟨#[115, 97, 109, 101, 32]⟩ : ByteArray) ++ ⟨S.toArray⟩) ++ ⟨#[32]⟩) ⟨T.toArray⟩).run Tryz.prog W = .ok (.string ((((⟨#[115, 97, 109, 101, 32]⟩ : ByteArray) ++ ⟨S.toArray⟩) ++ ⟨#[32]⟩) ++ ⟨T.toArray⟩)) W := fun W => run_string_add_sum W _ _ (by simp only [ByteArray.size_append, szW, szS, szB, szT]; omega)
  have HV := Lib.hid (show (((((⟨#[115, 97, 109, 101, 32]⟩ : ByteArray) ++ ⟨S.toArray⟩) ++ ⟨#[32]⟩) ++ ⟨T.toArray⟩) : ByteArray) = ⟨(Lib.join [[115, 97, 109, 101], S, T] [32]).toArray⟩ by
    apply ByteArray.ext; simp [Lib.join_cons, Lib.joinTail])
  rw [← HV.out]
  clear szS szB szW szT ls hls ln lt hlt ct' HV
  go_enter Tryz.func36, Tryz.ntmps36
  obtain ⟨c0, c1, c2, c3⟩ := BA.cells4
  go_wp2_with fail
  refine (HTS.out _ hal).mono ?_
  rintro e w1 ⟨rfl, hb1⟩
  have hq1 := Below.next hal hb1
  have BA1 := BA.keep hb1
  clear c0 c1 c2 c3
  obtain ⟨c0, c1, c2, c3⟩ := BA1.cells4
  go_wp2_with fail
  refine (HTT.out _ hq1).mono ?_
  rintro e w2 ⟨rfl, hb2⟩
  have hq2 := Below.next hq1 hb2
  have BA2 := BA1.keep hb2
  clear c0 c1 c2 c3
  obtain ⟨c0, c1, c2, c3⟩ := BA2.cells4
  go_wp2_with fail
  refine (HN.out _).mono ?_
  rintro e w3 ⟨rfl, rfl⟩
  go_wp2
  go_ret
  exact ⟨rfl, hq2⟩
set_option maxHeartbeats 2000000 in
set_option maxRecDepth 100000 in
theorem ref_AtomText3 (n : Int) (sv tv : Value) (s t : List Int) (w : World) (hs : IsInts w sv s) (ht : IsInts w tv t) (hc : Venn.atomChk ⟨3, s, t, n⟩ = 0) : Calls Tryz.prog 36 #[.agg #[.int .i64 3, sv, tv, .int .i64 n]] w (Keeps (.string ⟨(textA ⟨3, s, t, n⟩).toArray⟩) w) := by
  obtain ⟨-, -, cs, ct, cf, n1, n2, -⟩ := Venn.atomChk_parts hc
  simp only at cs ct cf n1 n2
  have ls := textB_len s
  have hls := (Venn.termChk_parts cs).2.1
  obtain rfl := cf rfl
  have ln := itoa_len (n := n) ⟨n1, n2⟩
  have HTS := Lib.hid (fun W (hW : Below w.heap.size w W) => ref_TermText sv s W (hs.keep hW) cs)
  have HTT := Lib.hid (fun A c W => ref_TermText0 A c W)
  have HN := Lib.hid (fun W => ref_Number n W ⟨by omega, by omega⟩)
  have HL := Lib.hid (show textA ⟨3, s, [], n⟩ = Lib.join [[108, 101, 97, 115, 116], textB s, Lib.itoa n] [32] from rfl)
  rw [HL.out]
  obtain ⟨SA, kS, rfl, -⟩ := hs
  obtain ⟨TA, kT, rfl, -⟩ := ht
  have hal : Below w.heap.size w (w.alloc (.cells #[.int .i64 3, .slice SA s.length kS, .slice TA ([] : List Int).length kT, .int .i64 n] 32)) := by (repeat' (first | (with_reducible exact Below.refl _ _) | (with_reducible assumption) | (with_reducible refine Below.next ?_ (by with_reducible assumption)) | (with_reducible refine Below.drew ?_) | (with_reducible refine Below.laid ?_ _) | (with_reducible refine Below.setCell ?_ ?_ _) | (with_reducible refine size_of ?_) | (with_reducible refine Nat.le_succ_of_le ?_) | go_size))
  have BA := Blk.new w 32 #[.int .i64 3, .slice SA s.length kS, .slice TA ([] : List Int).length kT, .int .i64 n]
  clear HL cs ct cf hc n1 n2
  generalize textB s = S at ls HTS ⊢
  generalize Lib.itoa n = N at ln HN ⊢
  have szS : (⟨S.toArray⟩ : ByteArray).size = S.length := by show S.toArray.size = _; simp
  have szN : (⟨N.toArray⟩ : ByteArray).size = N.length := by show N.toArray.size = _; simp
  have szB : (⟨#[32]⟩ : ByteArray).size = 1 := rfl
  have szW : (⟨#[108, 101, 97, 115, 116, 32]⟩ : ByteArray).size = 6 := rfl
  have hadd1 : ∀ W : World, (Op.stringOp .add (⟨#[108, 101, 97, 115, 116, 32]⟩ : ByteArray) ⟨S.toArray⟩).run Tryz.prog W = .ok (.string ((⟨#[108, 101, 97, 115, 116, 32]⟩ : ByteArray) ++ ⟨S.toArray⟩)) W := fun W => run_string_add_sum W _ _ (by simp only [szW, szS]; omega)
  have hadd2 : ∀ W : World, (Op.stringOp .add ((⟨#[108, 101, 97, 115, 116, 32]⟩ : ByteArray) ++ ⟨S.toArray⟩) ⟨#[32]⟩).run Tryz.prog W = .ok (.string (((⟨#[108, 101, 97, 115, 116, 32]⟩ : ByteArray) ++ ⟨S.toArray⟩) ++ ⟨#[32]⟩)) W := fun W => run_string_add_sum W _ _ (by simp only [ByteArray.size_append, szW, szS, szB]; omega)
  have hadd3 : ∀ W : World, (Op.stringOp .add (((⟨#[108, 101, 97, 115, 116, 32]⟩ : ByteArray) ++ ⟨S.toArray⟩) ++ ⟨#[32]⟩) ⟨N.toArray⟩).run Tryz.prog W = .ok (.string ((((⟨#[108, 101, 97, 115, 116, 32]⟩ : ByteArray) ++ ⟨S.toArray⟩) ++ ⟨#[32]⟩) ++ ⟨N.toArray⟩)) W := fun W => run_string_add_sum W _ _ (by simp only [ByteArray.size_append, szW, szS, szB, szN]; omega)
  have HV := Lib.hid (show (((((⟨#[108, 101, 97, 115, 116, 32]⟩ : ByteArray) ++ ⟨S.toArray⟩) ++ ⟨#[32]⟩) ++ ⟨N.toArray⟩) : ByteArray) = ⟨(Lib.join [[108, 101, 97, 115, 116], S, N] [32]).toArray⟩ by
    apply ByteArray.ext; simp [Lib.join_cons, Lib.joinTail])
  rw [← HV.out]
  clear szS szB szW szN ls hls ln HV
  go_enter Tryz.func36, Tryz.ntmps36
  obtain ⟨c0, c1, c2, c3⟩ := BA.cells4
  go_wp2_with fail
  refine (HTS.out _ hal).mono ?_
  rintro e w1 ⟨rfl, hb1⟩
  have hq1 := Below.next hal hb1
  have BA1 := BA.keep hb1
  clear c0 c1 c2 c3
  obtain ⟨c0, c1, c2, c3⟩ := BA1.cells4
  go_wp2_with fail
  refine (HTT.out _ _ _).mono ?_
  rintro e w2 ⟨rfl, hb2⟩
  have hq2 := Below.next hq1 hb2
  have BA2 := BA1.keep hb2
  clear c0 c1 c2 c3
  obtain ⟨c0, c1, c2, c3⟩ := BA2.cells4
  go_wp2_with fail
  refine (HN.out _).mono ?_
  rintro e w3 ⟨rfl, rfl⟩
  go_wp2
  go_ret
  exact ⟨rfl, hq2⟩
set_option maxHeartbeats 2000000 in
set_option maxRecDepth 100000 in
theorem ref_AtomText4 (n : Int) (sv tv : Value) (s t : List Int) (w : World) (hs : IsInts w sv s) (ht : IsInts w tv t) (hc : Venn.atomChk ⟨4, s, t, n⟩ = 0) : Calls Tryz.prog 36 #[.agg #[.int .i64 4, sv, tv, .int .i64 n]] w (Keeps (.string ⟨(textA ⟨4, s, t, n⟩).toArray⟩) w) := by
  obtain ⟨-, -, cs, ct, cf, n1, n2, -⟩ := Venn.atomChk_parts hc
  simp only at cs ct cf n1 n2
  have ls := textB_len s
  have hls := (Venn.termChk_parts cs).2.1
  obtain rfl := cf rfl
  have ln := itoa_len (n := n) ⟨n1, n2⟩
  have HTS := Lib.hid (fun W (hW : Below w.heap.size w W) => ref_TermText sv s W (hs.keep hW) cs)
  have HTT := Lib.hid (fun A c W => ref_TermText0 A c W)
  have HN := Lib.hid (fun W => ref_Number n W ⟨by omega, by omega⟩)
  have HL := Lib.hid (show textA ⟨4, s, [], n⟩ = Lib.join [[109, 111, 115, 116], textB s, Lib.itoa n] [32] from rfl)
  rw [HL.out]
  obtain ⟨SA, kS, rfl, -⟩ := hs
  obtain ⟨TA, kT, rfl, -⟩ := ht
  have hal : Below w.heap.size w (w.alloc (.cells #[.int .i64 4, .slice SA s.length kS, .slice TA ([] : List Int).length kT, .int .i64 n] 32)) := by (repeat' (first | (with_reducible exact Below.refl _ _) | (with_reducible assumption) | (with_reducible refine Below.next ?_ (by with_reducible assumption)) | (with_reducible refine Below.drew ?_) | (with_reducible refine Below.laid ?_ _) | (with_reducible refine Below.setCell ?_ ?_ _) | (with_reducible refine size_of ?_) | (with_reducible refine Nat.le_succ_of_le ?_) | go_size))
  have BA := Blk.new w 32 #[.int .i64 4, .slice SA s.length kS, .slice TA ([] : List Int).length kT, .int .i64 n]
  clear HL cs ct cf hc n1 n2
  generalize textB s = S at ls HTS ⊢
  generalize Lib.itoa n = N at ln HN ⊢
  have szS : (⟨S.toArray⟩ : ByteArray).size = S.length := by show S.toArray.size = _; simp
  have szN : (⟨N.toArray⟩ : ByteArray).size = N.length := by show N.toArray.size = _; simp
  have szB : (⟨#[32]⟩ : ByteArray).size = 1 := rfl
  have szW : (⟨#[109, 111, 115, 116, 32]⟩ : ByteArray).size = 5 := rfl
  have hadd1 : ∀ W : World, (Op.stringOp .add (⟨#[109, 111, 115, 116, 32]⟩ : ByteArray) ⟨S.toArray⟩).run Tryz.prog W = .ok (.string ((⟨#[109, 111, 115, 116, 32]⟩ : ByteArray) ++ ⟨S.toArray⟩)) W := fun W => run_string_add_sum W _ _ (by simp only [szW, szS]; omega)
  have hadd2 : ∀ W : World, (Op.stringOp .add ((⟨#[109, 111, 115, 116, 32]⟩ : ByteArray) ++ ⟨S.toArray⟩) ⟨#[32]⟩).run Tryz.prog W = .ok (.string (((⟨#[109, 111, 115, 116, 32]⟩ : ByteArray) ++ ⟨S.toArray⟩) ++ ⟨#[32]⟩)) W := fun W => run_string_add_sum W _ _ (by simp only [ByteArray.size_append, szW, szS, szB]; omega)
  have hadd3 : ∀ W : World, (Op.stringOp .add (((⟨#[109, 111, 115, 116, 32]⟩ : ByteArray) ++ ⟨S.toArray⟩) ++ ⟨#[32]⟩) ⟨N.toArray⟩).run Tryz.prog W = .ok (.string ((((⟨#[109, 111, 115, 116, 32]⟩ : ByteArray) ++ ⟨S.toArray⟩) ++ ⟨#[32]⟩) ++ ⟨N.toArray⟩)) W := fun W => run_string_add_sum W _ _ (by simp only [ByteArray.size_append, szW, szS, szB, szN]; omega)
  have HV := Lib.hid (show (((((⟨#[109, 111, 115, 116, 32]⟩ : ByteArray) ++ ⟨S.toArray⟩) ++ ⟨#[32]⟩) ++ ⟨N.toArray⟩) : ByteArray) = ⟨(Lib.join [[109, 111, 115, 116], S, N] [32]).toArray⟩ by
    apply ByteArray.ext; simp [Lib.join_cons, Lib.joinTail])
  rw [← HV.out]
  clear szS szB szW szN ls hls ln HV
  go_enter Tryz.func36, Tryz.ntmps36
  obtain ⟨c0, c1, c2, c3⟩ := BA.cells4
  go_wp2_with fail
  refine (HTS.out _ hal).mono ?_
  rintro e w1 ⟨rfl, hb1⟩
  have hq1 := Below.next hal hb1
  have BA1 := BA.keep hb1
  clear c0 c1 c2 c3
  obtain ⟨c0, c1, c2, c3⟩ := BA1.cells4
  go_wp2_with fail
  refine (HTT.out _ _ _).mono ?_
  rintro e w2 ⟨rfl, hb2⟩
  have hq2 := Below.next hq1 hb2
  have BA2 := BA1.keep hb2
  clear c0 c1 c2 c3
  obtain ⟨c0, c1, c2, c3⟩ := BA2.cells4
  go_wp2_with fail
  refine (HN.out _).mono ?_
  rintro e w3 ⟨rfl, rfl⟩
  go_wp2
  go_ret
  exact ⟨rfl, hq2⟩
set_option maxHeartbeats 2000000 in
set_option maxRecDepth 100000 in
theorem ref_AtomText5 (n : Int) (sv tv : Value) (s t : List Int) (w : World) (hs : IsInts w sv s) (ht : IsInts w tv t) (hc : Venn.atomChk ⟨5, s, t, n⟩ = 0) : Calls Tryz.prog 36 #[.agg #[.int .i64 5, sv, tv, .int .i64 n]] w (Keeps (.string ⟨(textA ⟨5, s, t, n⟩).toArray⟩) w) := by
  obtain ⟨-, -, cs, ct, cf, n1, n2, -⟩ := Venn.atomChk_parts hc
  simp only at cs ct cf n1 n2
  have ls := textB_len s
  have hls := (Venn.termChk_parts cs).2.1
  have ct' := ct rfl
  have lt := textB_len t
  have hlt := (Venn.termChk_parts ct').2.1
  have ln := itoa_len (n := n) ⟨n1, n2⟩
  have HTS := Lib.hid (fun W (hW : Below w.heap.size w W) => ref_TermText sv s W (hs.keep hW) cs)
  have HTT := Lib.hid (fun W (hW : Below w.heap.size w W) => ref_TermText tv t W (ht.keep hW) ct')
  have HN := Lib.hid (fun W => ref_Number n W ⟨by omega, by omega⟩)
  have HL := Lib.hid (show textA ⟨5, s, t, n⟩ = Lib.join [[110, 111, 109, 111, 114, 101], textB s, textB t, Lib.itoa n] [32] from rfl)
  rw [HL.out]
  obtain ⟨SA, kS, rfl, -⟩ := hs
  obtain ⟨TA, kT, rfl, -⟩ := ht
  have hal : Below w.heap.size w (w.alloc (.cells #[.int .i64 5, .slice SA s.length kS, .slice TA t.length kT, .int .i64 n] 32)) := by (repeat' (first | (with_reducible exact Below.refl _ _) | (with_reducible assumption) | (with_reducible refine Below.next ?_ (by with_reducible assumption)) | (with_reducible refine Below.drew ?_) | (with_reducible refine Below.laid ?_ _) | (with_reducible refine Below.setCell ?_ ?_ _) | (with_reducible refine size_of ?_) | (with_reducible refine Nat.le_succ_of_le ?_) | go_size))
  have BA := Blk.new w 32 #[.int .i64 5, .slice SA s.length kS, .slice TA t.length kT, .int .i64 n]
  clear HL cs ct cf hc n1 n2
  generalize textB s = S at ls HTS ⊢
  generalize textB t = T at lt HTT ⊢
  generalize Lib.itoa n = N at ln HN ⊢
  have szS : (⟨S.toArray⟩ : ByteArray).size = S.length := by show S.toArray.size = _; simp
  have szT : (⟨T.toArray⟩ : ByteArray).size = T.length := by show T.toArray.size = _; simp
  have szN : (⟨N.toArray⟩ : ByteArray).size = N.length := by show N.toArray.size = _; simp
  have szB : (⟨#[32]⟩ : ByteArray).size = 1 := rfl
  have szW : (⟨#[110, 111, 109, 111, 114, 101, 32]⟩ : ByteArray).size = 7 := rfl
  have hadd1 : ∀ W : World, (Op.stringOp .add (⟨#[110, 111, 109, 111, 114, 101, 32]⟩ : ByteArray) ⟨S.toArray⟩).run Tryz.prog W = .ok (.string ((⟨#[110, 111, 109, 111, 114, 101, 32]⟩ : ByteArray) ++ ⟨S.toArray⟩)) W := fun W => run_string_add_sum W _ _ (by simp only [szW, szS]; omega)
  have hadd2 : ∀ W : World, (Op.stringOp .add ((⟨#[110, 111, 109, 111, 114, 101, 32]⟩ : ByteArray) ++ ⟨S.toArray⟩) ⟨#[32]⟩).run Tryz.prog W = .ok (.string (((⟨#[110, 111, 109, 111, 114, 101, 32]⟩ : ByteArray) ++ ⟨S.toArray⟩) ++ ⟨#[32]⟩)) W := fun W => run_string_add_sum W _ _ (by simp only [ByteArray.size_append, szW, szS, szB]; omega)
  have hadd3 : ∀ W : World, (Op.stringOp .add (((⟨#[110, 111, 109, 111, 114, 101, 32]⟩ : ByteArray) ++ ⟨S.toArray⟩) ++ ⟨#[32]⟩) ⟨T.toArray⟩).run Tryz.prog W = .ok (.string ((((⟨#[110, 111, 109, 111, 114, 101, 32]⟩ : ByteArray) ++ ⟨S.toArray⟩) ++ ⟨#[32]⟩) ++ ⟨T.toArray⟩)) W := fun W => run_string_add_sum W _ _ (by simp only [ByteArray.size_append, szW, szS, szB, szT]; omega)
  have hadd4 : ∀ W : World, (Op.stringOp .add ((((⟨#[110, 111, 109, 111, 114, 101, 32]⟩ : ByteArray) ++ ⟨S.toArray⟩) ++ ⟨#[32]⟩) ++ ⟨T.toArray⟩) ⟨#[32]⟩).run Tryz.prog W = .ok (.string (((((⟨#[110, 111, 109, 111, 114, 101, 32]⟩ : ByteArray) ++ ⟨S.toArray⟩) ++ ⟨#[32]⟩) ++ ⟨T.toArray⟩) ++ ⟨#[32]⟩)) W := fun W => run_string_add_sum W _ _ (by simp only [ByteArray.size_append, szW, szS, szB, szT]; omega)
  have hadd5 : ∀ W : World, (Op.stringOp .add (((((⟨#[110, 111, 109, 111, 114, 101, 32]⟩ : ByteArray) ++ ⟨S.toArray⟩) ++ ⟨#[32]⟩) ++ ⟨T.toArray⟩) ++ ⟨#[32]⟩) ⟨N.toArray⟩).run Tryz.prog W = .ok (.string ((((((⟨#[110, 111, 109, 111, 114, 101, 32]⟩ : ByteArray) ++ ⟨S.toArray⟩) ++ ⟨#[32]⟩) ++ ⟨T.toArray⟩) ++ ⟨#[32]⟩) ++ ⟨N.toArray⟩)) W := fun W => run_string_add_sum W _ _ (by simp only [ByteArray.size_append, szW, szS, szB, szT, szN]; omega)
  have HV := Lib.hid (show (((((((⟨#[110, 111, 109, 111, 114, 101, 32]⟩ : ByteArray) ++ ⟨S.toArray⟩) ++ ⟨#[32]⟩) ++ ⟨T.toArray⟩) ++ ⟨#[32]⟩) ++ ⟨N.toArray⟩) : ByteArray) = ⟨(Lib.join [[110, 111, 109, 111, 114, 101], S, T, N] [32]).toArray⟩ by
    apply ByteArray.ext; simp [Lib.join_cons, Lib.joinTail])
  rw [← HV.out]
  clear szS szB szW szT szN ls hls ln lt hlt ct' HV
  go_enter Tryz.func36, Tryz.ntmps36
  obtain ⟨c0, c1, c2, c3⟩ := BA.cells4
  go_wp2_with fail
  refine (HTS.out _ hal).mono ?_
  rintro e w1 ⟨rfl, hb1⟩
  have hq1 := Below.next hal hb1
  have BA1 := BA.keep hb1
  clear c0 c1 c2 c3
  obtain ⟨c0, c1, c2, c3⟩ := BA1.cells4
  go_wp2_with fail
  refine (HTT.out _ hq1).mono ?_
  rintro e w2 ⟨rfl, hb2⟩
  have hq2 := Below.next hq1 hb2
  have BA2 := BA1.keep hb2
  clear c0 c1 c2 c3
  obtain ⟨c0, c1, c2, c3⟩ := BA2.cells4
  go_wp2_with fail
  refine (HN.out _).mono ?_
  rintro e w3 ⟨rfl, rfl⟩
  go_wp2
  go_ret
  exact ⟨rfl, hq2⟩
theorem ref_AtomText (what n : Int) (sv tv : Value) (s t : List Int) (w : World) (hs : IsInts w sv s) (ht : IsInts w tv t) (hc : Venn.atomChk ⟨what, s, t, n⟩ = 0) :
    Calls Tryz.prog 36 #[.agg #[.int .i64 what, sv, tv, .int .i64 n]] w (Keeps (.string ⟨(textA ⟨what, s, t, n⟩).toArray⟩) w) := by
  obtain ⟨h1, h5, _⟩ := Venn.atomChk_parts hc
  simp only at h1 h5
  rcases (by omega : what = 1 ∨ what = 2 ∨ what = 3 ∨ what = 4 ∨ what = 5) with rfl | rfl | rfl | rfl | rfl
  · exact ref_AtomText1 n sv tv s t w hs ht hc
  · exact ref_AtomText2 n sv tv s t w hs ht hc
  · exact ref_AtomText3 n sv tv s t w hs ht hc
  · exact ref_AtomText4 n sv tv s t w hs ht hc
  · exact ref_AtomText5 n sv tv s t w hs ht hc
end Go.Proofs.YtcloppcekbdbaaaGreatDoor
