/-
  THE WALK of vennlaw2.SomeEach, at the name 0.
-/
import Derived.Test.YtnjamgmaclmlpaaDoorNegate
import Derived.Test.YtnjamgmaclmlpaaDoorSomeFirst
import Derived.Test.YtnjamgmaclmlpaaDoorFormHolds
import Derived.Test.YtnjamgmaclmlpaaDoorLawF
import Derived.Test.YtnjamgmaclmlpaaDoorVennP2
import Derived.BigQuiet
namespace Go.Proofs.YtnjamgmaclmlpaaDoor
open Go.RowKit

theorem each_fact : firstVv [⟨3, [0], [], 1⟩] [0] 0 2 0 0 0 = .tuple #[.int .i64 1, .nilIface] := by rw [firstVv]; rfl
set_option maxHeartbeats 8000000 in
set_option maxRecDepth 100000 in
theorem someEach_0 (sa sc : Value) (l : List Venn.Atom) (c : List Int) (th a b d s : Int) (w : World) (ha : IsAtoms w sa l) (hc : IsInts w sc c) (hk : KindsOk w) (het : EtOk w) (hf : Venn.formChk ⟨l, c⟩ = 0) (hw : Venn.worldChk ⟨th, a, b, d⟩ = 0) :
    Calls Tryd.prog 14 #[.agg #[sa, sc], .int .i64 0, .agg #[.int .i64 th, .int .i64 a, .int .i64 b, .int .i64 d], .int .i64 s] w (Keeps (.bool true) w) := by
  obtain ⟨A, cA, rfl⟩ := ha.slice
  obtain ⟨C, cC, rfl⟩ := hc.slice
  have HA := Lib.hid ha
  have HC := Lib.hid hc
  have HK := Lib.hid hk
  have HET := Lib.hid het
  clear ha hc hk het
  have HFA := Lib.hid each_fact
  have hsm := form_small hf
  have hput : ∀ t : Int, Venn.World.put ⟨th, a, b, d⟩ 0 t = ⟨th, t, b, d⟩ := fun t => rfl
  have hps : Venn.World.put ⟨th, a, b, d⟩ 0 s = ⟨th, s, b, d⟩ := rfl
  have hck : Venn.someChk ⟨l, c⟩ 0 ⟨th, a, b, d⟩ = 0 := by rw [Venn.someChk, if_pos hf, if_pos (by decide), hw]
  have HCK := Lib.hid (errV_zero hck)
  obtain ⟨FT, hFT⟩ : ∃ FT, Venn.firstSet ⟨l, c⟩ 0 ⟨th, a, b, d⟩ true = FT := ⟨_, rfl⟩
  obtain ⟨FF, hFF⟩ : ∃ FF, Venn.firstSet ⟨l, c⟩ 0 ⟨th, a, b, d⟩ false = FF := ⟨_, rfl⟩
  have HIS := Lib.hid (show someIsV l c 0 th a b d = decide (0 ≤ FT) by rw [someIsV, if_pos hck, hFT])
  have HEA := Lib.hid (show someEachV l c 0 th a b d = decide (FF < 0) by rw [someEachV, if_pos hck, hFF])
  have hei : ¬ FF < 0 ∨ 0 ≤ FT := by
    by_cases h : FF < 0
    · right
      have := Venn.each_is (f := ⟨l, c⟩) (name := 0) hw (by rw [hFF]; omega)
      rwa [hFT] at this
    · exact .inl h
  have hpos : 0 ≤ FT → Venn.setChk th FT = 0 ∧ Venn.formTrue ⟨l, c⟩ ⟨th, FT, b, d⟩ = true := fun h => by
    have h1 : 0 ≤ Venn.firstSet ⟨l, c⟩ 0 ⟨th, a, b, d⟩ true := by rw [hFT]; exact h
    have h2 := Venn.firstSet_set hw h1
    have h3 := (Venn.firstSet_is h1).1
    rw [hFT] at h2 h3
    rw [hput] at h3
    exact ⟨h2, h3⟩
  have hleast : ∀ v, Venn.setChk th s = 0 → Venn.formTrue ⟨l, c⟩ ⟨th, s, b, d⟩ = v → (v = true → 0 ≤ FT ∧ FT ≤ s) ∧ (v = false → ¬ FF < 0) := fun v h1 h2 => by
    rw [← hps] at h2
    refine ⟨fun hv => ?_, fun hv => ?_⟩
    · rw [hv] at h2
      have g1 := Venn.firstSet_of (w := ⟨th, a, b, d⟩) h1 h2
      have g2 := Venn.firstSet_least (w := ⟨th, a, b, d⟩) h1 h2
      rw [hFT] at g1 g2
      exact ⟨g1, g2⟩
    · rw [hv] at h2
      have g1 := Venn.firstSet_of (w := ⟨th, a, b, d⟩) h1 h2
      rw [hFF] at g1
      omega
  have HSX := Lib.hid (show Venn.worldChk ⟨th, s, b, d⟩ = 0 → someIsV l c 0 th s b d = decide (0 ≤ FT) ∧ errV (Venn.someChk ⟨l, c⟩ 0 ⟨th, s, b, d⟩) = .nilIface from fun h => by
    have h1 : Venn.someChk ⟨l, c⟩ 0 ⟨th, s, b, d⟩ = 0 := by rw [Venn.someChk, if_pos hf, if_pos (by decide), h]
    have h2 := Venn.firstSet_put ⟨l, c⟩ 0 ⟨th, a, b, d⟩ s true
    rw [hps, hFT] at h2
    exact ⟨by rw [someIsV, if_pos h1, h2], errV_zero h1⟩)
  have HNI := Lib.hid (show c.length < 20 → someIsV l (c ++ [12]) 0 th a b d = decide (0 ≤ FF) ∧ errV (Venn.someChk ⟨l, c ++ [12]⟩ 0 ⟨th, a, b, d⟩) = .nilIface from fun h => by
    have h0 := Venn.negF_chk hf h
    have h1 : Venn.someChk ⟨l, c ++ [12]⟩ 0 ⟨th, a, b, d⟩ = 0 := by rw [Venn.someChk, if_pos (show Venn.formChk ⟨l, c ++ [12]⟩ = 0 from h0), if_pos (by decide), hw]
    have h2 : Venn.firstSet ⟨l, c ++ [12]⟩ 0 ⟨th, a, b, d⟩ true = FF := by have := Venn.firstSet_neg hf 0 ⟨th, a, b, d⟩; rw [hFF] at this; exact this
    exact ⟨by rw [someIsV, if_pos h1, h2], errV_zero h1⟩)
  have HF1 := Lib.hid (show firstVv l c 0 th a b d = if 0 ≤ FT then .tuple #[.int .i64 FT, .nilIface] else .tuple #[.int .i64 0, errV 5] by
    by_cases h : 0 ≤ FT
    · have h2 : Venn.someFirstChk ⟨l, c⟩ 0 ⟨th, a, b, d⟩ = 0 := by rw [Venn.someFirstChk, if_pos hck, hFT, if_neg (by omega)]
      rw [firstVv, Venn.someFirstV, if_pos h2, h2, hFT, if_pos h]; rfl
    · have h2 : Venn.someFirstChk ⟨l, c⟩ 0 ⟨th, a, b, d⟩ = 5 := by rw [Venn.someFirstChk, if_pos hck, hFT, if_pos (by omega)]
      rw [firstVv, Venn.someFirstV, if_neg (by rw [h2]; decide), h2, if_neg h])
  have hsc : Venn.worldChk ⟨th, s, b, d⟩ = 0 → Venn.setChk th s = 0 := fun h => Venn.put_set (w := ⟨th, a, b, d⟩) (name := 0) h
  have hpc : Venn.setChk th FT = 0 → Venn.worldChk ⟨th, FT, b, d⟩ = 0 := fun h => Venn.put_chk (w := ⟨th, a, b, d⟩) hw 0 h
  have HHC := Lib.hid (show ∀ t : Int, Venn.formHoldsChk ⟨l, c⟩ ⟨th, t, b, d⟩ = Venn.worldChk ⟨th, t, b, d⟩ from fun t => by rw [Venn.formHoldsChk, if_pos hf])
  have HHV := Lib.hid (show ∀ t : Int, Venn.worldChk ⟨th, t, b, d⟩ = 0 → Venn.formHoldsV ⟨l, c⟩ ⟨th, t, b, d⟩ = Venn.formTrue ⟨l, c⟩ ⟨th, t, b, d⟩ from fun t h => by rw [Venn.formHoldsV, if_pos (by rw [Venn.formHoldsChk, if_pos hf, h])])
  have HP := Lib.hid hpos
  have HL := Lib.hid hleast
  have HSC := Lib.hid hsc
  have HPC := Lib.hid hpc
  have hc20 := hsm.2.1.2
  have HNG := Lib.hid (show Venn.negChk ⟨l, c⟩ = if c.length = 20 then 4 else 0 by rw [Venn.negChk, if_pos hf])
  have HEI := Lib.hid hei
  clear hf hw hsm hput hps hck hFT hFF hei hpos hleast hsc hpc
  go_enter Tryd.func14, Tryd.ntmps14
  go_wp2_with fail
  refine (some_First _ _ [⟨3, [0], [], 1⟩] [0] _ _ _ _ _ _ (IsAtoms.one (t := 56) (a := ⟨3, [0], [], 1⟩) (by repeat (first | (refine Blk.newAt ?_ _ _; simp; done) | refine Blk.alloc ?_ _)) (IsInts.of_blk1 (t := 3) (by repeat (first | (refine Blk.newAt ?_ _ _; simp; done) | refine Blk.alloc ?_ _))) (IsIntsNil _)) (IsInts.of_blk1 (t := 3) (by repeat (first | (refine Blk.newAt ?_ _ _; simp; done) | refine Blk.alloc ?_ _))) (HK.out.keep (by (repeat' (first | (with_reducible exact Below.refl _ _) | (with_reducible assumption) | (with_reducible refine Below.next ?_ (by with_reducible assumption)) | (with_reducible refine Below.drew ?_) | (with_reducible refine Below.laid ?_ _) | (with_reducible refine Below.setCell ?_ ?_ _) | (with_reducible refine size_of ?_) | (with_reducible refine Nat.le_succ_of_le ?_) | go_size))))).mono ?_
  rintro e w1 ⟨rfl, hb1⟩
  rw [HFA.out]
  have hw1 : Below w.heap.size w w1 := by (repeat' (first | (with_reducible exact Below.refl _ _) | (with_reducible assumption) | (with_reducible refine Below.next ?_ (by with_reducible assumption)) | (with_reducible refine Below.drew ?_) | (with_reducible refine Below.laid ?_ _) | (with_reducible refine Below.setCell ?_ ?_ _) | (with_reducible refine size_of ?_) | (with_reducible refine Nat.le_succ_of_le ?_) | go_size))
  have BF : Blk w1 w.heap.size 41 #[.slice A l.length cA, .slice C c.length cC] := Blk.keep (by repeat (first | exact Blk.new _ _ _ | refine Blk.alloc ?_ _)) hb1
  have BW : Blk w1 (w.heap.size + 1) 44 #[.int .i64 th, .int .i64 a, .int .i64 b, .int .i64 d] := Blk.keep (by repeat (first | (refine Blk.newAt ?_ _ _; simp; done) | refine Blk.alloc ?_ _)) hb1
  obtain ⟨⟨BF0, BF1⟩, _⟩ := BF.cells2
  have BFl := BF.lt
  obtain ⟨BW0, BW1, BW2, BW3⟩ := BW.cells4
  have BWl := BW.lt
  go_wp2_with fail
  refine (some_Is _ _ l c _ _ _ _ _ _ (HA.out.keep (by (repeat' (first | (with_reducible exact Below.refl _ _) | (with_reducible assumption) | (with_reducible refine Below.next ?_ (by with_reducible assumption)) | (with_reducible refine Below.drew ?_) | (with_reducible refine Below.laid ?_ _) | (with_reducible refine Below.setCell ?_ ?_ _) | (with_reducible refine size_of ?_) | (with_reducible refine Nat.le_succ_of_le ?_) | go_size)))) (HC.out.keep (by (repeat' (first | (with_reducible exact Below.refl _ _) | (with_reducible assumption) | (with_reducible refine Below.next ?_ (by with_reducible assumption)) | (with_reducible refine Below.drew ?_) | (with_reducible refine Below.laid ?_ _) | (with_reducible refine Below.setCell ?_ ?_ _) | (with_reducible refine size_of ?_) | (with_reducible refine Nat.le_succ_of_le ?_) | go_size)))) (HK.out.keep (by (repeat' (first | (with_reducible exact Below.refl _ _) | (with_reducible assumption) | (with_reducible refine Below.next ?_ (by with_reducible assumption)) | (with_reducible refine Below.drew ?_) | (with_reducible refine Below.laid ?_ _) | (with_reducible refine Below.setCell ?_ ?_ _) | (with_reducible refine size_of ?_) | (with_reducible refine Nat.le_succ_of_le ?_) | go_size))))).mono ?_
  rintro e w2 ⟨rfl, hb2⟩
  rw [HCK.out, HIS.out]
  have hq2 : Below w1.heap.size w1 w2 := by (repeat' (first | (with_reducible exact Below.refl _ _) | (with_reducible assumption) | (with_reducible refine Below.next ?_ (by with_reducible assumption)) | (with_reducible refine Below.drew ?_) | (with_reducible refine Below.laid ?_ _) | (with_reducible refine Below.setCell ?_ ?_ _) | (with_reducible refine size_of ?_) | (with_reducible refine Nat.le_succ_of_le ?_) | go_size))
  have hw2 : Below w.heap.size w w2 := Below.next hw1 hq2
  replace BF := BF.keep hq2
  try clear BF0 BF1 BFl
  obtain ⟨⟨BF0, BF1⟩, _⟩ := BF.cells2
  have BFl := BF.lt
  replace BW := BW.keep hq2
  try clear BW0 BW1 BW2 BW3 BWl
  obtain ⟨BW0, BW1, BW2, BW3⟩ := BW.cells4
  have BWl := BW.lt
  go_wp2_with fail
  refine (some_Each _ _ l c _ _ _ _ _ _ (HA.out.keep (by (repeat' (first | (with_reducible exact Below.refl _ _) | (with_reducible assumption) | (with_reducible refine Below.next ?_ (by with_reducible assumption)) | (with_reducible refine Below.drew ?_) | (with_reducible refine Below.laid ?_ _) | (with_reducible refine Below.setCell ?_ ?_ _) | (with_reducible refine size_of ?_) | (with_reducible refine Nat.le_succ_of_le ?_) | go_size)))) (HC.out.keep (by (repeat' (first | (with_reducible exact Below.refl _ _) | (with_reducible assumption) | (with_reducible refine Below.next ?_ (by with_reducible assumption)) | (with_reducible refine Below.drew ?_) | (with_reducible refine Below.laid ?_ _) | (with_reducible refine Below.setCell ?_ ?_ _) | (with_reducible refine size_of ?_) | (with_reducible refine Nat.le_succ_of_le ?_) | go_size)))) (HK.out.keep (by (repeat' (first | (with_reducible exact Below.refl _ _) | (with_reducible assumption) | (with_reducible refine Below.next ?_ (by with_reducible assumption)) | (with_reducible refine Below.drew ?_) | (with_reducible refine Below.laid ?_ _) | (with_reducible refine Below.setCell ?_ ?_ _) | (with_reducible refine size_of ?_) | (with_reducible refine Nat.le_succ_of_le ?_) | go_size))))).mono ?_
  rintro e w3 ⟨rfl, hb3⟩
  rw [HCK.out, HEA.out]
  have hq3 : Below w2.heap.size w2 w3 := by (repeat' (first | (with_reducible exact Below.refl _ _) | (with_reducible assumption) | (with_reducible refine Below.next ?_ (by with_reducible assumption)) | (with_reducible refine Below.drew ?_) | (with_reducible refine Below.laid ?_ _) | (with_reducible refine Below.setCell ?_ ?_ _) | (with_reducible refine size_of ?_) | (with_reducible refine Nat.le_succ_of_le ?_) | go_size))
  have hw3 : Below w.heap.size w w3 := Below.next hw2 hq3
  replace BF := BF.keep hq3
  try clear BF0 BF1 BFl
  obtain ⟨⟨BF0, BF1⟩, _⟩ := BF.cells2
  have BFl := BF.lt
  replace BW := BW.keep hq3
  try clear BW0 BW1 BW2 BW3 BWl
  obtain ⟨BW0, BW1, BW2, BW3⟩ := BW.cells4
  have BWl := BW.lt
  rcases (by have := HEI.out; omega : (0 ≤ FT ∧ FF < 0) ∨ (0 ≤ FT ∧ ¬ FF < 0) ∨ (¬ 0 ≤ FT ∧ ¬ FF < 0)) with ⟨h1, h2⟩ | ⟨h1, h2⟩ | ⟨h1, h2⟩
  focus
    have HD1 := Lib.hid (show decide (0 ≤ FT) = true by simpa using h1)
    have HD2 := Lib.hid (show decide (FF < 0) = true by simpa using h2)
    have HD3 := Lib.hid (show decide (0 ≤ FF) = false by simp; omega)
    rw [HD1.out, HD2.out]
    have HFI := Lib.hid (show firstVv l c 0 th a b d = .tuple #[.int .i64 FT, .nilIface] by rw [HF1.out, if_pos h1])
    have H1 := Lib.hid h1
    have H2 := Lib.hid h2
    clear h1 h2 HF1 HIS HEA HEI
    by_cases h20 : c.length = 20
    focus
      have HN := Lib.hid (show Venn.negChk ⟨l, c⟩ = 4 by rw [HNG.out, if_pos h20])
      have HNV := Lib.hid (show negV ⟨l, c⟩ = noForm by rw [negV, if_neg (by rw [HN.out]; decide)])
      clear h20 HNI HNG
      go_wp2_with fail
      refine (form_Negate _ _ l c _ (HA.out.keep (by (repeat' (first | (with_reducible exact Below.refl _ _) | (with_reducible assumption) | (with_reducible refine Below.next ?_ (by with_reducible assumption)) | (with_reducible refine Below.drew ?_) | (with_reducible refine Below.laid ?_ _) | (with_reducible refine Below.setCell ?_ ?_ _) | (with_reducible refine size_of ?_) | (with_reducible refine Nat.le_succ_of_le ?_) | go_size)))) (HC.out.keep (by (repeat' (first | (with_reducible exact Below.refl _ _) | (with_reducible assumption) | (with_reducible refine Below.next ?_ (by with_reducible assumption)) | (with_reducible refine Below.drew ?_) | (with_reducible refine Below.laid ?_ _) | (with_reducible refine Below.setCell ?_ ?_ _) | (with_reducible refine size_of ?_) | (with_reducible refine Nat.le_succ_of_le ?_) | go_size)))) (HK.out.keep (by (repeat' (first | (with_reducible exact Below.refl _ _) | (with_reducible assumption) | (with_reducible refine Below.next ?_ (by with_reducible assumption)) | (with_reducible refine Below.drew ?_) | (with_reducible refine Below.laid ?_ _) | (with_reducible refine Below.setCell ?_ ?_ _) | (with_reducible refine size_of ?_) | (with_reducible refine Nat.le_succ_of_le ?_) | go_size))))).mono ?_
      rintro e w4 ⟨A4, kA4, C4, kC4, rfl, hb4, hA4, hC4⟩
      rw [HNV.out, HN.out, errV_ne (e := 4) (by decide)]
      simp only [noForm, List.length_nil]
      clear hA4 hC4
      have GF := BF.keep hb4
      have GW := BW.keep hb4
      have hw4 := Below.next hw3 hb4
      go_upto_region 16 with (fail)
      have hqz : Below w4.heap.size w4 (w4.alloc (.cells #[.slice A4 0 kA4, .slice C4 0 kC4] 41)) := by (repeat' (first | (with_reducible exact Below.refl _ _) | (with_reducible assumption) | (with_reducible refine Below.next ?_ (by with_reducible assumption)) | (with_reducible refine Below.drew ?_) | (with_reducible refine Below.laid ?_ _) | (with_reducible refine Below.setCell ?_ ?_ _) | (with_reducible refine size_of ?_) | (with_reducible refine Nat.le_succ_of_le ?_) | go_size))
      replace GF := GF.keep hqz
      replace GW := GW.keep hqz
      have hw5 := Below.next hw4 hqz
      clear hb4 hw4 hqz HN HNV BF0 BF1 BFl BW0 BW1 BW2 BW3 BWl BF BW
      revert GF GW hw5
      generalize World.alloc _ _ = w5
      intro BF BW hw5
    rotate_left
    focus
      have hlt : c.length < 20 := by omega
      have HN := Lib.hid (show Venn.negChk ⟨l, c⟩ = 0 by rw [HNG.out, if_neg h20])
      have HNV := Lib.hid (show negV ⟨l, c⟩ = ⟨l, c ++ [12]⟩ by rw [negV, if_pos HN.out]; rfl)
      have HNX := Lib.hid (HNI.out hlt)
      generalize c ++ [12] = c1 at HNV HNX
      clear h20 hlt HNI HNG
      go_wp2_with fail
      refine (form_Negate _ _ l c _ (HA.out.keep (by (repeat' (first | (with_reducible exact Below.refl _ _) | (with_reducible assumption) | (with_reducible refine Below.next ?_ (by with_reducible assumption)) | (with_reducible refine Below.drew ?_) | (with_reducible refine Below.laid ?_ _) | (with_reducible refine Below.setCell ?_ ?_ _) | (with_reducible refine size_of ?_) | (with_reducible refine Nat.le_succ_of_le ?_) | go_size)))) (HC.out.keep (by (repeat' (first | (with_reducible exact Below.refl _ _) | (with_reducible assumption) | (with_reducible refine Below.next ?_ (by with_reducible assumption)) | (with_reducible refine Below.drew ?_) | (with_reducible refine Below.laid ?_ _) | (with_reducible refine Below.setCell ?_ ?_ _) | (with_reducible refine size_of ?_) | (with_reducible refine Nat.le_succ_of_le ?_) | go_size)))) (HK.out.keep (by (repeat' (first | (with_reducible exact Below.refl _ _) | (with_reducible assumption) | (with_reducible refine Below.next ?_ (by with_reducible assumption)) | (with_reducible refine Below.drew ?_) | (with_reducible refine Below.laid ?_ _) | (with_reducible refine Below.setCell ?_ ?_ _) | (with_reducible refine size_of ?_) | (with_reducible refine Nat.le_succ_of_le ?_) | go_size))))).mono ?_
      rintro e w4 ⟨A4, kA4, C4, kC4, rfl, hb4, hA4, hC4⟩
      rw [HNV.out] at hA4 hC4 ⊢
      rw [HN.out, errV_zero rfl]
      simp only at hA4 hC4 ⊢
      clear BF0 BF1 BFl BW0 BW1 BW2 BW3 BWl
      replace BF := BF.keep hb4
      replace BW := BW.keep hb4
      have BG := Blk.new w4 41 #[.slice A4 l.length kA4, .slice C4 c1.length kC4]
      have hw4 := Below.next hw3 hb4
      obtain ⟨⟨BF0, BF1⟩, _⟩ := BF.cells2
      have BFl := BF.lt
      obtain ⟨BW0, BW1, BW2, BW3⟩ := BW.cells4
      have BWl := BW.lt
      obtain ⟨⟨BG0, BG1⟩, _⟩ := BG.cells2
      have BGl := BG.lt
      go_wp2_with fail
      refine (some_Is _ _ l c1 _ _ _ _ _ _ (hA4.keep (by (repeat' (first | (with_reducible exact Below.refl _ _) | (with_reducible assumption) | (with_reducible refine Below.next ?_ (by with_reducible assumption)) | (with_reducible refine Below.drew ?_) | (with_reducible refine Below.laid ?_ _) | (with_reducible refine Below.setCell ?_ ?_ _) | (with_reducible refine size_of ?_) | (with_reducible refine Nat.le_succ_of_le ?_) | go_size)))) (hC4.keep (by (repeat' (first | (with_reducible exact Below.refl _ _) | (with_reducible assumption) | (with_reducible refine Below.next ?_ (by with_reducible assumption)) | (with_reducible refine Below.drew ?_) | (with_reducible refine Below.laid ?_ _) | (with_reducible refine Below.setCell ?_ ?_ _) | (with_reducible refine size_of ?_) | (with_reducible refine Nat.le_succ_of_le ?_) | go_size)))) (HK.out.keep (by (repeat' (first | (with_reducible exact Below.refl _ _) | (with_reducible assumption) | (with_reducible refine Below.next ?_ (by with_reducible assumption)) | (with_reducible refine Below.drew ?_) | (with_reducible refine Below.laid ?_ _) | (with_reducible refine Below.setCell ?_ ?_ _) | (with_reducible refine size_of ?_) | (with_reducible refine Nat.le_succ_of_le ?_) | go_size))))).mono ?_
      rintro e w5 ⟨rfl, hb5⟩
      rw [HNX.out.1, HNX.out.2, HD3.out]
      have hq5 : Below w4.heap.size w4 w5 := by (repeat' (first | (with_reducible exact Below.refl _ _) | (with_reducible assumption) | (with_reducible refine Below.next ?_ (by with_reducible assumption)) | (with_reducible refine Below.drew ?_) | (with_reducible refine Below.laid ?_ _) | (with_reducible refine Below.setCell ?_ ?_ _) | (with_reducible refine size_of ?_) | (with_reducible refine Nat.le_succ_of_le ?_) | go_size))
      have hw5 := Below.next hw4 hq5
      clear BF0 BF1 BFl BW0 BW1 BW2 BW3 BWl BG0 BG1 BGl BG hA4 hC4 HNX HN HNV
      replace BF := BF.keep hq5
      replace BW := BW.keep hq5
      go_upto_region 16 with (fail)
      clear hb4 hb5 hq5 hw4
    all_goals
      obtain ⟨⟨BF0, BF1⟩, _⟩ := BF.cells2
      have BFl := BF.lt
      obtain ⟨BW0, BW1, BW2, BW3⟩ := BW.cells4
      have BWl := BW.lt
      clear hb1 hb2 hb3 hq2 hq3 hw1 hw2 hw3
      have BX := Blk.new w5 44 #[.int .i64 th, .int .i64 a, .int .i64 b, .int .i64 d]
      obtain ⟨y0, y1, y2, y3⟩ := BX.cells4
      have y4 := BX.frozen 1
      go_upto_region 18 with (fail)
      have GX := Blk.new w5 44 #[.int .i64 th, .int .i64 s, .int .i64 b, .int .i64 d]
      have GF := BF.alloc (.cells #[.int .i64 th, .int .i64 s, .int .i64 b, .int .i64 d] 44)
      have GW := BW.alloc (.cells #[.int .i64 th, .int .i64 s, .int .i64 b, .int .i64 d] 44)
      have hq6 : Below w5.heap.size w5 (w5.alloc (.cells #[.int .i64 th, .int .i64 s, .int .i64 b, .int .i64 d] 44)) := by (repeat' (first | (with_reducible exact Below.refl _ _) | (with_reducible assumption) | (with_reducible refine Below.next ?_ (by with_reducible assumption)) | (with_reducible refine Below.drew ?_) | (with_reducible refine Below.laid ?_ _) | (with_reducible refine Below.setCell ?_ ?_ _) | (with_reducible refine size_of ?_) | (with_reducible refine Nat.le_succ_of_le ?_) | go_size))
      have hx5 : w.heap.size + 1 < w5.heap.size := BWl
      clear y0 y1 y2 y3 y4 BX BF0 BF1 BFl BW0 BW1 BW2 BW3 BWl BF BW
      revert GX GF GW hq6
      generalize World.alloc _ _ = w6
      intro GX BF BW hq6
      have hw6 := Below.next hw5 hq6
      obtain ⟨⟨BF0, BF1⟩, _⟩ := BF.cells2
      have BFl := BF.lt
      obtain ⟨BW0, BW1, BW2, BW3⟩ := BW.cells4
      have BWl := BW.lt
      obtain ⟨GX0, GX1, GX2, GX3⟩ := GX.cells4
      have GXl := GX.lt
      by_cases hsw : ¬ Venn.worldChk ⟨th, s, b, d⟩ = 0
      focus
        have HE7 := Lib.hid (show errV (Venn.formHoldsChk ⟨l, c⟩ ⟨th, s, b, d⟩) = .iface 101 (.int .i64 (Venn.worldChk ⟨th, s, b, d⟩)) by rw [HHC.out, errV_ne hsw])
        clear hsw
        go_wp2_with fail
        refine (form_Holds _ _ l c _ _ _ _ _ (HA.out.keep (by (repeat' (first | (with_reducible exact Below.refl _ _) | (with_reducible assumption) | (with_reducible refine Below.next ?_ (by with_reducible assumption)) | (with_reducible refine Below.drew ?_) | (with_reducible refine Below.laid ?_ _) | (with_reducible refine Below.setCell ?_ ?_ _) | (with_reducible refine size_of ?_) | (with_reducible refine Nat.le_succ_of_le ?_) | go_size)))) (HC.out.keep (by (repeat' (first | (with_reducible exact Below.refl _ _) | (with_reducible assumption) | (with_reducible refine Below.next ?_ (by with_reducible assumption)) | (with_reducible refine Below.drew ?_) | (with_reducible refine Below.laid ?_ _) | (with_reducible refine Below.setCell ?_ ?_ _) | (with_reducible refine size_of ?_) | (with_reducible refine Nat.le_succ_of_le ?_) | go_size)))) (HK.out.keep (by (repeat' (first | (with_reducible exact Below.refl _ _) | (with_reducible assumption) | (with_reducible refine Below.next ?_ (by with_reducible assumption)) | (with_reducible refine Below.drew ?_) | (with_reducible refine Below.laid ?_ _) | (with_reducible refine Below.setCell ?_ ?_ _) | (with_reducible refine size_of ?_) | (with_reducible refine Nat.le_succ_of_le ?_) | go_size))))).mono ?_
        rintro e w7 ⟨rfl, hb7⟩
        rw [HE7.out]
        have hq7 : Below w6.heap.size w6 w7 := by (repeat' (first | (with_reducible exact Below.refl _ _) | (with_reducible assumption) | (with_reducible refine Below.next ?_ (by with_reducible assumption)) | (with_reducible refine Below.drew ?_) | (with_reducible refine Below.laid ?_ _) | (with_reducible refine Below.setCell ?_ ?_ _) | (with_reducible refine size_of ?_) | (with_reducible refine Nat.le_succ_of_le ?_) | go_size))
        have hw7 : Below w.heap.size w w7 := Below.next hw6 hq7
        generalize Venn.formHoldsV ⟨l, c⟩ ⟨th, s, b, d⟩ = hv
        go_wp2
        go_ret
        exact ⟨rfl, hw7⟩
      replace hsw := Decidable.not_not.1 hsw
      have HE7 := Lib.hid (show errV (Venn.formHoldsChk ⟨l, c⟩ ⟨th, s, b, d⟩) = .nilIface by rw [HHC.out]; exact errV_zero hsw)
      have HIX := Lib.hid (HSX.out hsw)
      obtain ⟨v, hv⟩ : ∃ v, Venn.formTrue ⟨l, c⟩ ⟨th, s, b, d⟩ = v := ⟨_, rfl⟩
      have HV7 := Lib.hid ((HHV.out s hsw).trans hv)
      have HLV := Lib.hid (HL.out v (HSC.out hsw) hv)
      clear hsw hv
      go_wp2_with fail
      refine (form_Holds _ _ l c _ _ _ _ _ (HA.out.keep (by (repeat' (first | (with_reducible exact Below.refl _ _) | (with_reducible assumption) | (with_reducible refine Below.next ?_ (by with_reducible assumption)) | (with_reducible refine Below.drew ?_) | (with_reducible refine Below.laid ?_ _) | (with_reducible refine Below.setCell ?_ ?_ _) | (with_reducible refine size_of ?_) | (with_reducible refine Nat.le_succ_of_le ?_) | go_size)))) (HC.out.keep (by (repeat' (first | (with_reducible exact Below.refl _ _) | (with_reducible assumption) | (with_reducible refine Below.next ?_ (by with_reducible assumption)) | (with_reducible refine Below.drew ?_) | (with_reducible refine Below.laid ?_ _) | (with_reducible refine Below.setCell ?_ ?_ _) | (with_reducible refine size_of ?_) | (with_reducible refine Nat.le_succ_of_le ?_) | go_size)))) (HK.out.keep (by (repeat' (first | (with_reducible exact Below.refl _ _) | (with_reducible assumption) | (with_reducible refine Below.next ?_ (by with_reducible assumption)) | (with_reducible refine Below.drew ?_) | (with_reducible refine Below.laid ?_ _) | (with_reducible refine Below.setCell ?_ ?_ _) | (with_reducible refine size_of ?_) | (with_reducible refine Nat.le_succ_of_le ?_) | go_size))))).mono ?_
      rintro e w7 ⟨rfl, hb7⟩
      rw [HE7.out, HV7.out]
      have hq7 : Below w6.heap.size w6 w7 := by (repeat' (first | (with_reducible exact Below.refl _ _) | (with_reducible assumption) | (with_reducible refine Below.next ?_ (by with_reducible assumption)) | (with_reducible refine Below.drew ?_) | (with_reducible refine Below.laid ?_ _) | (with_reducible refine Below.setCell ?_ ?_ _) | (with_reducible refine size_of ?_) | (with_reducible refine Nat.le_succ_of_le ?_) | go_size))
      have hw7 : Below w.heap.size w w7 := Below.next hw6 hq7
      replace BF := BF.keep hq7
      try clear BF0 BF1 BFl
      obtain ⟨⟨BF0, BF1⟩, _⟩ := BF.cells2
      have BFl := BF.lt
      replace BW := BW.keep hq7
      try clear BW0 BW1 BW2 BW3 BWl
      obtain ⟨BW0, BW1, BW2, BW3⟩ := BW.cells4
      have BWl := BW.lt
      replace GX := GX.keep hq7
      try clear GX0 GX1 GX2 GX3 GXl
      obtain ⟨GX0, GX1, GX2, GX3⟩ := GX.cells4
      have GXl := GX.lt
      go_wp2_with fail
      refine (some_Is _ _ l c _ _ _ _ _ _ (HA.out.keep (by (repeat' (first | (with_reducible exact Below.refl _ _) | (with_reducible assumption) | (with_reducible refine Below.next ?_ (by with_reducible assumption)) | (with_reducible refine Below.drew ?_) | (with_reducible refine Below.laid ?_ _) | (with_reducible refine Below.setCell ?_ ?_ _) | (with_reducible refine size_of ?_) | (with_reducible refine Nat.le_succ_of_le ?_) | go_size)))) (HC.out.keep (by (repeat' (first | (with_reducible exact Below.refl _ _) | (with_reducible assumption) | (with_reducible refine Below.next ?_ (by with_reducible assumption)) | (with_reducible refine Below.drew ?_) | (with_reducible refine Below.laid ?_ _) | (with_reducible refine Below.setCell ?_ ?_ _) | (with_reducible refine size_of ?_) | (with_reducible refine Nat.le_succ_of_le ?_) | go_size)))) (HK.out.keep (by (repeat' (first | (with_reducible exact Below.refl _ _) | (with_reducible assumption) | (with_reducible refine Below.next ?_ (by with_reducible assumption)) | (with_reducible refine Below.drew ?_) | (with_reducible refine Below.laid ?_ _) | (with_reducible refine Below.setCell ?_ ?_ _) | (with_reducible refine size_of ?_) | (with_reducible refine Nat.le_succ_of_le ?_) | go_size))))).mono ?_
      rintro e w8 ⟨rfl, hb8⟩
      rw [HIX.out.1, HIX.out.2, HD1.out]
      have hq8 : Below w7.heap.size w7 w8 := by (repeat' (first | (with_reducible exact Below.refl _ _) | (with_reducible assumption) | (with_reducible refine Below.next ?_ (by with_reducible assumption)) | (with_reducible refine Below.drew ?_) | (with_reducible refine Below.laid ?_ _) | (with_reducible refine Below.setCell ?_ ?_ _) | (with_reducible refine size_of ?_) | (with_reducible refine Nat.le_succ_of_le ?_) | go_size))
      have hw8 : Below w.heap.size w w8 := Below.next hw7 hq8
      replace BF := BF.keep hq8
      try clear BF0 BF1 BFl
      obtain ⟨⟨BF0, BF1⟩, _⟩ := BF.cells2
      have BFl := BF.lt
      replace BW := BW.keep hq8
      try clear BW0 BW1 BW2 BW3 BWl
      obtain ⟨BW0, BW1, BW2, BW3⟩ := BW.cells4
      have BWl := BW.lt
      replace GX := GX.keep hq8
      try clear GX0 GX1 GX2 GX3 GXl
      obtain ⟨GX0, GX1, GX2, GX3⟩ := GX.cells4
      have GXl := GX.lt
      cases v
      case false =>
        exfalso; have q1 := HLV.out; simp at q1; have q2 := H2.out; omega
      case true =>
        go_wp2_with fail
        refine (some_First _ _ l c _ _ _ _ _ _ (HA.out.keep (by (repeat' (first | (with_reducible exact Below.refl _ _) | (with_reducible assumption) | (with_reducible refine Below.next ?_ (by with_reducible assumption)) | (with_reducible refine Below.drew ?_) | (with_reducible refine Below.laid ?_ _) | (with_reducible refine Below.setCell ?_ ?_ _) | (with_reducible refine size_of ?_) | (with_reducible refine Nat.le_succ_of_le ?_) | go_size)))) (HC.out.keep (by (repeat' (first | (with_reducible exact Below.refl _ _) | (with_reducible assumption) | (with_reducible refine Below.next ?_ (by with_reducible assumption)) | (with_reducible refine Below.drew ?_) | (with_reducible refine Below.laid ?_ _) | (with_reducible refine Below.setCell ?_ ?_ _) | (with_reducible refine size_of ?_) | (with_reducible refine Nat.le_succ_of_le ?_) | go_size)))) (HK.out.keep (by (repeat' (first | (with_reducible exact Below.refl _ _) | (with_reducible assumption) | (with_reducible refine Below.next ?_ (by with_reducible assumption)) | (with_reducible refine Below.drew ?_) | (with_reducible refine Below.laid ?_ _) | (with_reducible refine Below.setCell ?_ ?_ _) | (with_reducible refine size_of ?_) | (with_reducible refine Nat.le_succ_of_le ?_) | go_size))))).mono ?_
        rintro e w9 ⟨rfl, hb9⟩
        rw [HFI.out]
        have hq9 : Below w8.heap.size w8 w9 := by (repeat' (first | (with_reducible exact Below.refl _ _) | (with_reducible assumption) | (with_reducible refine Below.next ?_ (by with_reducible assumption)) | (with_reducible refine Below.drew ?_) | (with_reducible refine Below.laid ?_ _) | (with_reducible refine Below.setCell ?_ ?_ _) | (with_reducible refine size_of ?_) | (with_reducible refine Nat.le_succ_of_le ?_) | go_size))
        have hw9 : Below w.heap.size w w9 := Below.next hw8 hq9
        replace BF := BF.keep hq9
        try clear BF0 BF1 BFl
        obtain ⟨⟨BF0, BF1⟩, _⟩ := BF.cells2
        have BFl := BF.lt
        replace GX := GX.keep hq9
        try clear GX0 GX1 GX2 GX3 GXl
        obtain ⟨GX0, GX1, GX2, GX3⟩ := GX.cells4
        have GXl := GX.lt
        have z := GX.frozen 1
        have hxx : w.heap.size ≤ w5.heap.size := by omega
        have hls : ¬ s < FT := by have q1 := HLV.out; simp at q1; omega
        go_upto_region 30 with (fail)
        have hwb : Below w.heap.size w (w9.setCell ⟨w5.heap.size, 1, none⟩ (.int .i64 FT)) := by (repeat' (first | (with_reducible exact Below.refl _ _) | (with_reducible assumption) | (with_reducible refine Below.next ?_ (by with_reducible assumption)) | (with_reducible refine Below.drew ?_) | (with_reducible refine Below.laid ?_ _) | (with_reducible refine Below.setCell ?_ ?_ _) | (with_reducible refine size_of ?_) | (with_reducible refine Nat.le_succ_of_le ?_) | go_size))
        have KF := BF.far (p := ⟨w5.heap.size, 1, none⟩) (by show ¬ w.heap.size = w5.heap.size; omega) (.int .i64 FT)
        have KX := GX.set_ 1 (.int .i64 FT)
        clear BF0 BF1 BFl GX0 GX1 GX2 GX3 GXl z
        revert hwb KF KX
        generalize World.setCell _ _ _ = wx
        intro hwb KF KX
        simp at KX
        obtain ⟨⟨KF0, KF1⟩, _⟩ := KF.cells2
        have KFl := KF.lt
        obtain ⟨KX0, KX1, KX2, KX3⟩ := KX.cells4
        have KXl := KX.lt
        have HE9 := Lib.hid (show errV (Venn.formHoldsChk ⟨l, c⟩ ⟨th, FT, b, d⟩) = .nilIface by rw [HHC.out]; exact errV_zero (HPC.out (HP.out H1.out).1))
        have HV9 := Lib.hid ((HHV.out FT (HPC.out (HP.out H1.out).1)).trans (HP.out H1.out).2)
        go_wp2_with fail
        refine (form_Holds _ _ l c _ _ _ _ _ (HA.out.keep (by (repeat' (first | (with_reducible exact Below.refl _ _) | (with_reducible assumption) | (with_reducible refine Below.next ?_ (by with_reducible assumption)) | (with_reducible refine Below.drew ?_) | (with_reducible refine Below.laid ?_ _) | (with_reducible refine Below.setCell ?_ ?_ _) | (with_reducible refine size_of ?_) | (with_reducible refine Nat.le_succ_of_le ?_) | go_size)))) (HC.out.keep (by (repeat' (first | (with_reducible exact Below.refl _ _) | (with_reducible assumption) | (with_reducible refine Below.next ?_ (by with_reducible assumption)) | (with_reducible refine Below.drew ?_) | (with_reducible refine Below.laid ?_ _) | (with_reducible refine Below.setCell ?_ ?_ _) | (with_reducible refine size_of ?_) | (with_reducible refine Nat.le_succ_of_le ?_) | go_size)))) (HK.out.keep (by (repeat' (first | (with_reducible exact Below.refl _ _) | (with_reducible assumption) | (with_reducible refine Below.next ?_ (by with_reducible assumption)) | (with_reducible refine Below.drew ?_) | (with_reducible refine Below.laid ?_ _) | (with_reducible refine Below.setCell ?_ ?_ _) | (with_reducible refine size_of ?_) | (with_reducible refine Nat.le_succ_of_le ?_) | go_size))))).mono ?_
        rintro e w10 ⟨rfl, hb10⟩
        rw [HE9.out, HV9.out]
        go_wp2
        go_ret
        exact ⟨rfl, by (repeat' (first | (with_reducible exact Below.refl _ _) | (with_reducible assumption) | (with_reducible refine Below.next ?_ (by with_reducible assumption)) | (with_reducible refine Below.drew ?_) | (with_reducible refine Below.laid ?_ _) | (with_reducible refine Below.setCell ?_ ?_ _) | (with_reducible refine size_of ?_) | (with_reducible refine Nat.le_succ_of_le ?_) | go_size))⟩
  focus
    have HD1 := Lib.hid (show decide (0 ≤ FT) = true by simpa using h1)
    have HD2 := Lib.hid (show decide (FF < 0) = false by simpa using h2)
    have HD3 := Lib.hid (show decide (0 ≤ FF) = true by simp; omega)
    rw [HD1.out, HD2.out]
    have HFI := Lib.hid (show firstVv l c 0 th a b d = .tuple #[.int .i64 FT, .nilIface] by rw [HF1.out, if_pos h1])
    have H1 := Lib.hid h1
    have H2 := Lib.hid h2
    clear h1 h2 HF1 HIS HEA HEI
    by_cases h20 : c.length = 20
    focus
      have HN := Lib.hid (show Venn.negChk ⟨l, c⟩ = 4 by rw [HNG.out, if_pos h20])
      have HNV := Lib.hid (show negV ⟨l, c⟩ = noForm by rw [negV, if_neg (by rw [HN.out]; decide)])
      clear h20 HNI HNG
      go_wp2_with fail
      refine (form_Negate _ _ l c _ (HA.out.keep (by (repeat' (first | (with_reducible exact Below.refl _ _) | (with_reducible assumption) | (with_reducible refine Below.next ?_ (by with_reducible assumption)) | (with_reducible refine Below.drew ?_) | (with_reducible refine Below.laid ?_ _) | (with_reducible refine Below.setCell ?_ ?_ _) | (with_reducible refine size_of ?_) | (with_reducible refine Nat.le_succ_of_le ?_) | go_size)))) (HC.out.keep (by (repeat' (first | (with_reducible exact Below.refl _ _) | (with_reducible assumption) | (with_reducible refine Below.next ?_ (by with_reducible assumption)) | (with_reducible refine Below.drew ?_) | (with_reducible refine Below.laid ?_ _) | (with_reducible refine Below.setCell ?_ ?_ _) | (with_reducible refine size_of ?_) | (with_reducible refine Nat.le_succ_of_le ?_) | go_size)))) (HK.out.keep (by (repeat' (first | (with_reducible exact Below.refl _ _) | (with_reducible assumption) | (with_reducible refine Below.next ?_ (by with_reducible assumption)) | (with_reducible refine Below.drew ?_) | (with_reducible refine Below.laid ?_ _) | (with_reducible refine Below.setCell ?_ ?_ _) | (with_reducible refine size_of ?_) | (with_reducible refine Nat.le_succ_of_le ?_) | go_size))))).mono ?_
      rintro e w4 ⟨A4, kA4, C4, kC4, rfl, hb4, hA4, hC4⟩
      rw [HNV.out, HN.out, errV_ne (e := 4) (by decide)]
      simp only [noForm, List.length_nil]
      clear hA4 hC4
      have GF := BF.keep hb4
      have GW := BW.keep hb4
      have hw4 := Below.next hw3 hb4
      go_upto_region 16 with (fail)
      have hqz : Below w4.heap.size w4 (w4.alloc (.cells #[.slice A4 0 kA4, .slice C4 0 kC4] 41)) := by (repeat' (first | (with_reducible exact Below.refl _ _) | (with_reducible assumption) | (with_reducible refine Below.next ?_ (by with_reducible assumption)) | (with_reducible refine Below.drew ?_) | (with_reducible refine Below.laid ?_ _) | (with_reducible refine Below.setCell ?_ ?_ _) | (with_reducible refine size_of ?_) | (with_reducible refine Nat.le_succ_of_le ?_) | go_size))
      replace GF := GF.keep hqz
      replace GW := GW.keep hqz
      have hw5 := Below.next hw4 hqz
      clear hb4 hw4 hqz HN HNV BF0 BF1 BFl BW0 BW1 BW2 BW3 BWl BF BW
      revert GF GW hw5
      generalize World.alloc _ _ = w5
      intro BF BW hw5
    rotate_left
    focus
      have hlt : c.length < 20 := by omega
      have HN := Lib.hid (show Venn.negChk ⟨l, c⟩ = 0 by rw [HNG.out, if_neg h20])
      have HNV := Lib.hid (show negV ⟨l, c⟩ = ⟨l, c ++ [12]⟩ by rw [negV, if_pos HN.out]; rfl)
      have HNX := Lib.hid (HNI.out hlt)
      generalize c ++ [12] = c1 at HNV HNX
      clear h20 hlt HNI HNG
      go_wp2_with fail
      refine (form_Negate _ _ l c _ (HA.out.keep (by (repeat' (first | (with_reducible exact Below.refl _ _) | (with_reducible assumption) | (with_reducible refine Below.next ?_ (by with_reducible assumption)) | (with_reducible refine Below.drew ?_) | (with_reducible refine Below.laid ?_ _) | (with_reducible refine Below.setCell ?_ ?_ _) | (with_reducible refine size_of ?_) | (with_reducible refine Nat.le_succ_of_le ?_) | go_size)))) (HC.out.keep (by (repeat' (first | (with_reducible exact Below.refl _ _) | (with_reducible assumption) | (with_reducible refine Below.next ?_ (by with_reducible assumption)) | (with_reducible refine Below.drew ?_) | (with_reducible refine Below.laid ?_ _) | (with_reducible refine Below.setCell ?_ ?_ _) | (with_reducible refine size_of ?_) | (with_reducible refine Nat.le_succ_of_le ?_) | go_size)))) (HK.out.keep (by (repeat' (first | (with_reducible exact Below.refl _ _) | (with_reducible assumption) | (with_reducible refine Below.next ?_ (by with_reducible assumption)) | (with_reducible refine Below.drew ?_) | (with_reducible refine Below.laid ?_ _) | (with_reducible refine Below.setCell ?_ ?_ _) | (with_reducible refine size_of ?_) | (with_reducible refine Nat.le_succ_of_le ?_) | go_size))))).mono ?_
      rintro e w4 ⟨A4, kA4, C4, kC4, rfl, hb4, hA4, hC4⟩
      rw [HNV.out] at hA4 hC4 ⊢
      rw [HN.out, errV_zero rfl]
      simp only at hA4 hC4 ⊢
      clear BF0 BF1 BFl BW0 BW1 BW2 BW3 BWl
      replace BF := BF.keep hb4
      replace BW := BW.keep hb4
      have BG := Blk.new w4 41 #[.slice A4 l.length kA4, .slice C4 c1.length kC4]
      have hw4 := Below.next hw3 hb4
      obtain ⟨⟨BF0, BF1⟩, _⟩ := BF.cells2
      have BFl := BF.lt
      obtain ⟨BW0, BW1, BW2, BW3⟩ := BW.cells4
      have BWl := BW.lt
      obtain ⟨⟨BG0, BG1⟩, _⟩ := BG.cells2
      have BGl := BG.lt
      go_wp2_with fail
      refine (some_Is _ _ l c1 _ _ _ _ _ _ (hA4.keep (by (repeat' (first | (with_reducible exact Below.refl _ _) | (with_reducible assumption) | (with_reducible refine Below.next ?_ (by with_reducible assumption)) | (with_reducible refine Below.drew ?_) | (with_reducible refine Below.laid ?_ _) | (with_reducible refine Below.setCell ?_ ?_ _) | (with_reducible refine size_of ?_) | (with_reducible refine Nat.le_succ_of_le ?_) | go_size)))) (hC4.keep (by (repeat' (first | (with_reducible exact Below.refl _ _) | (with_reducible assumption) | (with_reducible refine Below.next ?_ (by with_reducible assumption)) | (with_reducible refine Below.drew ?_) | (with_reducible refine Below.laid ?_ _) | (with_reducible refine Below.setCell ?_ ?_ _) | (with_reducible refine size_of ?_) | (with_reducible refine Nat.le_succ_of_le ?_) | go_size)))) (HK.out.keep (by (repeat' (first | (with_reducible exact Below.refl _ _) | (with_reducible assumption) | (with_reducible refine Below.next ?_ (by with_reducible assumption)) | (with_reducible refine Below.drew ?_) | (with_reducible refine Below.laid ?_ _) | (with_reducible refine Below.setCell ?_ ?_ _) | (with_reducible refine size_of ?_) | (with_reducible refine Nat.le_succ_of_le ?_) | go_size))))).mono ?_
      rintro e w5 ⟨rfl, hb5⟩
      rw [HNX.out.1, HNX.out.2, HD3.out]
      have hq5 : Below w4.heap.size w4 w5 := by (repeat' (first | (with_reducible exact Below.refl _ _) | (with_reducible assumption) | (with_reducible refine Below.next ?_ (by with_reducible assumption)) | (with_reducible refine Below.drew ?_) | (with_reducible refine Below.laid ?_ _) | (with_reducible refine Below.setCell ?_ ?_ _) | (with_reducible refine size_of ?_) | (with_reducible refine Nat.le_succ_of_le ?_) | go_size))
      have hw5 := Below.next hw4 hq5
      clear BF0 BF1 BFl BW0 BW1 BW2 BW3 BWl BG0 BG1 BGl BG hA4 hC4 HNX HN HNV
      replace BF := BF.keep hq5
      replace BW := BW.keep hq5
      go_upto_region 16 with (fail)
      clear hb4 hb5 hq5 hw4
    all_goals
      obtain ⟨⟨BF0, BF1⟩, _⟩ := BF.cells2
      have BFl := BF.lt
      obtain ⟨BW0, BW1, BW2, BW3⟩ := BW.cells4
      have BWl := BW.lt
      clear hb1 hb2 hb3 hq2 hq3 hw1 hw2 hw3
      have BX := Blk.new w5 44 #[.int .i64 th, .int .i64 a, .int .i64 b, .int .i64 d]
      obtain ⟨y0, y1, y2, y3⟩ := BX.cells4
      have y4 := BX.frozen 1
      go_upto_region 18 with (fail)
      have GX := Blk.new w5 44 #[.int .i64 th, .int .i64 s, .int .i64 b, .int .i64 d]
      have GF := BF.alloc (.cells #[.int .i64 th, .int .i64 s, .int .i64 b, .int .i64 d] 44)
      have GW := BW.alloc (.cells #[.int .i64 th, .int .i64 s, .int .i64 b, .int .i64 d] 44)
      have hq6 : Below w5.heap.size w5 (w5.alloc (.cells #[.int .i64 th, .int .i64 s, .int .i64 b, .int .i64 d] 44)) := by (repeat' (first | (with_reducible exact Below.refl _ _) | (with_reducible assumption) | (with_reducible refine Below.next ?_ (by with_reducible assumption)) | (with_reducible refine Below.drew ?_) | (with_reducible refine Below.laid ?_ _) | (with_reducible refine Below.setCell ?_ ?_ _) | (with_reducible refine size_of ?_) | (with_reducible refine Nat.le_succ_of_le ?_) | go_size))
      have hx5 : w.heap.size + 1 < w5.heap.size := BWl
      clear y0 y1 y2 y3 y4 BX BF0 BF1 BFl BW0 BW1 BW2 BW3 BWl BF BW
      revert GX GF GW hq6
      generalize World.alloc _ _ = w6
      intro GX BF BW hq6
      have hw6 := Below.next hw5 hq6
      obtain ⟨⟨BF0, BF1⟩, _⟩ := BF.cells2
      have BFl := BF.lt
      obtain ⟨BW0, BW1, BW2, BW3⟩ := BW.cells4
      have BWl := BW.lt
      obtain ⟨GX0, GX1, GX2, GX3⟩ := GX.cells4
      have GXl := GX.lt
      by_cases hsw : ¬ Venn.worldChk ⟨th, s, b, d⟩ = 0
      focus
        have HE7 := Lib.hid (show errV (Venn.formHoldsChk ⟨l, c⟩ ⟨th, s, b, d⟩) = .iface 101 (.int .i64 (Venn.worldChk ⟨th, s, b, d⟩)) by rw [HHC.out, errV_ne hsw])
        clear hsw
        go_wp2_with fail
        refine (form_Holds _ _ l c _ _ _ _ _ (HA.out.keep (by (repeat' (first | (with_reducible exact Below.refl _ _) | (with_reducible assumption) | (with_reducible refine Below.next ?_ (by with_reducible assumption)) | (with_reducible refine Below.drew ?_) | (with_reducible refine Below.laid ?_ _) | (with_reducible refine Below.setCell ?_ ?_ _) | (with_reducible refine size_of ?_) | (with_reducible refine Nat.le_succ_of_le ?_) | go_size)))) (HC.out.keep (by (repeat' (first | (with_reducible exact Below.refl _ _) | (with_reducible assumption) | (with_reducible refine Below.next ?_ (by with_reducible assumption)) | (with_reducible refine Below.drew ?_) | (with_reducible refine Below.laid ?_ _) | (with_reducible refine Below.setCell ?_ ?_ _) | (with_reducible refine size_of ?_) | (with_reducible refine Nat.le_succ_of_le ?_) | go_size)))) (HK.out.keep (by (repeat' (first | (with_reducible exact Below.refl _ _) | (with_reducible assumption) | (with_reducible refine Below.next ?_ (by with_reducible assumption)) | (with_reducible refine Below.drew ?_) | (with_reducible refine Below.laid ?_ _) | (with_reducible refine Below.setCell ?_ ?_ _) | (with_reducible refine size_of ?_) | (with_reducible refine Nat.le_succ_of_le ?_) | go_size))))).mono ?_
        rintro e w7 ⟨rfl, hb7⟩
        rw [HE7.out]
        have hq7 : Below w6.heap.size w6 w7 := by (repeat' (first | (with_reducible exact Below.refl _ _) | (with_reducible assumption) | (with_reducible refine Below.next ?_ (by with_reducible assumption)) | (with_reducible refine Below.drew ?_) | (with_reducible refine Below.laid ?_ _) | (with_reducible refine Below.setCell ?_ ?_ _) | (with_reducible refine size_of ?_) | (with_reducible refine Nat.le_succ_of_le ?_) | go_size))
        have hw7 : Below w.heap.size w w7 := Below.next hw6 hq7
        generalize Venn.formHoldsV ⟨l, c⟩ ⟨th, s, b, d⟩ = hv
        go_wp2
        go_ret
        exact ⟨rfl, hw7⟩
      replace hsw := Decidable.not_not.1 hsw
      have HE7 := Lib.hid (show errV (Venn.formHoldsChk ⟨l, c⟩ ⟨th, s, b, d⟩) = .nilIface by rw [HHC.out]; exact errV_zero hsw)
      have HIX := Lib.hid (HSX.out hsw)
      obtain ⟨v, hv⟩ : ∃ v, Venn.formTrue ⟨l, c⟩ ⟨th, s, b, d⟩ = v := ⟨_, rfl⟩
      have HV7 := Lib.hid ((HHV.out s hsw).trans hv)
      have HLV := Lib.hid (HL.out v (HSC.out hsw) hv)
      clear hsw hv
      go_wp2_with fail
      refine (form_Holds _ _ l c _ _ _ _ _ (HA.out.keep (by (repeat' (first | (with_reducible exact Below.refl _ _) | (with_reducible assumption) | (with_reducible refine Below.next ?_ (by with_reducible assumption)) | (with_reducible refine Below.drew ?_) | (with_reducible refine Below.laid ?_ _) | (with_reducible refine Below.setCell ?_ ?_ _) | (with_reducible refine size_of ?_) | (with_reducible refine Nat.le_succ_of_le ?_) | go_size)))) (HC.out.keep (by (repeat' (first | (with_reducible exact Below.refl _ _) | (with_reducible assumption) | (with_reducible refine Below.next ?_ (by with_reducible assumption)) | (with_reducible refine Below.drew ?_) | (with_reducible refine Below.laid ?_ _) | (with_reducible refine Below.setCell ?_ ?_ _) | (with_reducible refine size_of ?_) | (with_reducible refine Nat.le_succ_of_le ?_) | go_size)))) (HK.out.keep (by (repeat' (first | (with_reducible exact Below.refl _ _) | (with_reducible assumption) | (with_reducible refine Below.next ?_ (by with_reducible assumption)) | (with_reducible refine Below.drew ?_) | (with_reducible refine Below.laid ?_ _) | (with_reducible refine Below.setCell ?_ ?_ _) | (with_reducible refine size_of ?_) | (with_reducible refine Nat.le_succ_of_le ?_) | go_size))))).mono ?_
      rintro e w7 ⟨rfl, hb7⟩
      rw [HE7.out, HV7.out]
      have hq7 : Below w6.heap.size w6 w7 := by (repeat' (first | (with_reducible exact Below.refl _ _) | (with_reducible assumption) | (with_reducible refine Below.next ?_ (by with_reducible assumption)) | (with_reducible refine Below.drew ?_) | (with_reducible refine Below.laid ?_ _) | (with_reducible refine Below.setCell ?_ ?_ _) | (with_reducible refine size_of ?_) | (with_reducible refine Nat.le_succ_of_le ?_) | go_size))
      have hw7 : Below w.heap.size w w7 := Below.next hw6 hq7
      replace BF := BF.keep hq7
      try clear BF0 BF1 BFl
      obtain ⟨⟨BF0, BF1⟩, _⟩ := BF.cells2
      have BFl := BF.lt
      replace BW := BW.keep hq7
      try clear BW0 BW1 BW2 BW3 BWl
      obtain ⟨BW0, BW1, BW2, BW3⟩ := BW.cells4
      have BWl := BW.lt
      replace GX := GX.keep hq7
      try clear GX0 GX1 GX2 GX3 GXl
      obtain ⟨GX0, GX1, GX2, GX3⟩ := GX.cells4
      have GXl := GX.lt
      go_wp2_with fail
      refine (some_Is _ _ l c _ _ _ _ _ _ (HA.out.keep (by (repeat' (first | (with_reducible exact Below.refl _ _) | (with_reducible assumption) | (with_reducible refine Below.next ?_ (by with_reducible assumption)) | (with_reducible refine Below.drew ?_) | (with_reducible refine Below.laid ?_ _) | (with_reducible refine Below.setCell ?_ ?_ _) | (with_reducible refine size_of ?_) | (with_reducible refine Nat.le_succ_of_le ?_) | go_size)))) (HC.out.keep (by (repeat' (first | (with_reducible exact Below.refl _ _) | (with_reducible assumption) | (with_reducible refine Below.next ?_ (by with_reducible assumption)) | (with_reducible refine Below.drew ?_) | (with_reducible refine Below.laid ?_ _) | (with_reducible refine Below.setCell ?_ ?_ _) | (with_reducible refine size_of ?_) | (with_reducible refine Nat.le_succ_of_le ?_) | go_size)))) (HK.out.keep (by (repeat' (first | (with_reducible exact Below.refl _ _) | (with_reducible assumption) | (with_reducible refine Below.next ?_ (by with_reducible assumption)) | (with_reducible refine Below.drew ?_) | (with_reducible refine Below.laid ?_ _) | (with_reducible refine Below.setCell ?_ ?_ _) | (with_reducible refine size_of ?_) | (with_reducible refine Nat.le_succ_of_le ?_) | go_size))))).mono ?_
      rintro e w8 ⟨rfl, hb8⟩
      rw [HIX.out.1, HIX.out.2, HD1.out]
      have hq8 : Below w7.heap.size w7 w8 := by (repeat' (first | (with_reducible exact Below.refl _ _) | (with_reducible assumption) | (with_reducible refine Below.next ?_ (by with_reducible assumption)) | (with_reducible refine Below.drew ?_) | (with_reducible refine Below.laid ?_ _) | (with_reducible refine Below.setCell ?_ ?_ _) | (with_reducible refine size_of ?_) | (with_reducible refine Nat.le_succ_of_le ?_) | go_size))
      have hw8 : Below w.heap.size w w8 := Below.next hw7 hq8
      replace BF := BF.keep hq8
      try clear BF0 BF1 BFl
      obtain ⟨⟨BF0, BF1⟩, _⟩ := BF.cells2
      have BFl := BF.lt
      replace BW := BW.keep hq8
      try clear BW0 BW1 BW2 BW3 BWl
      obtain ⟨BW0, BW1, BW2, BW3⟩ := BW.cells4
      have BWl := BW.lt
      replace GX := GX.keep hq8
      try clear GX0 GX1 GX2 GX3 GXl
      obtain ⟨GX0, GX1, GX2, GX3⟩ := GX.cells4
      have GXl := GX.lt
      cases v
      case false =>
        go_wp2_with fail
        refine (some_First _ _ l c _ _ _ _ _ _ (HA.out.keep (by (repeat' (first | (with_reducible exact Below.refl _ _) | (with_reducible assumption) | (with_reducible refine Below.next ?_ (by with_reducible assumption)) | (with_reducible refine Below.drew ?_) | (with_reducible refine Below.laid ?_ _) | (with_reducible refine Below.setCell ?_ ?_ _) | (with_reducible refine size_of ?_) | (with_reducible refine Nat.le_succ_of_le ?_) | go_size)))) (HC.out.keep (by (repeat' (first | (with_reducible exact Below.refl _ _) | (with_reducible assumption) | (with_reducible refine Below.next ?_ (by with_reducible assumption)) | (with_reducible refine Below.drew ?_) | (with_reducible refine Below.laid ?_ _) | (with_reducible refine Below.setCell ?_ ?_ _) | (with_reducible refine size_of ?_) | (with_reducible refine Nat.le_succ_of_le ?_) | go_size)))) (HK.out.keep (by (repeat' (first | (with_reducible exact Below.refl _ _) | (with_reducible assumption) | (with_reducible refine Below.next ?_ (by with_reducible assumption)) | (with_reducible refine Below.drew ?_) | (with_reducible refine Below.laid ?_ _) | (with_reducible refine Below.setCell ?_ ?_ _) | (with_reducible refine size_of ?_) | (with_reducible refine Nat.le_succ_of_le ?_) | go_size))))).mono ?_
        rintro e w9 ⟨rfl, hb9⟩
        rw [HFI.out]
        have hq9 : Below w8.heap.size w8 w9 := by (repeat' (first | (with_reducible exact Below.refl _ _) | (with_reducible assumption) | (with_reducible refine Below.next ?_ (by with_reducible assumption)) | (with_reducible refine Below.drew ?_) | (with_reducible refine Below.laid ?_ _) | (with_reducible refine Below.setCell ?_ ?_ _) | (with_reducible refine size_of ?_) | (with_reducible refine Nat.le_succ_of_le ?_) | go_size))
        have hw9 : Below w.heap.size w w9 := Below.next hw8 hq9
        replace BF := BF.keep hq9
        try clear BF0 BF1 BFl
        obtain ⟨⟨BF0, BF1⟩, _⟩ := BF.cells2
        have BFl := BF.lt
        replace GX := GX.keep hq9
        try clear GX0 GX1 GX2 GX3 GXl
        obtain ⟨GX0, GX1, GX2, GX3⟩ := GX.cells4
        have GXl := GX.lt
        have z := GX.frozen 1
        have hxx : w.heap.size ≤ w5.heap.size := by omega

        go_upto_region 30 with (fail)
        have hwb : Below w.heap.size w (w9.setCell ⟨w5.heap.size, 1, none⟩ (.int .i64 FT)) := by (repeat' (first | (with_reducible exact Below.refl _ _) | (with_reducible assumption) | (with_reducible refine Below.next ?_ (by with_reducible assumption)) | (with_reducible refine Below.drew ?_) | (with_reducible refine Below.laid ?_ _) | (with_reducible refine Below.setCell ?_ ?_ _) | (with_reducible refine size_of ?_) | (with_reducible refine Nat.le_succ_of_le ?_) | go_size))
        have KF := BF.far (p := ⟨w5.heap.size, 1, none⟩) (by show ¬ w.heap.size = w5.heap.size; omega) (.int .i64 FT)
        have KX := GX.set_ 1 (.int .i64 FT)
        clear BF0 BF1 BFl GX0 GX1 GX2 GX3 GXl z
        revert hwb KF KX
        generalize World.setCell _ _ _ = wx
        intro hwb KF KX
        simp at KX
        obtain ⟨⟨KF0, KF1⟩, _⟩ := KF.cells2
        have KFl := KF.lt
        obtain ⟨KX0, KX1, KX2, KX3⟩ := KX.cells4
        have KXl := KX.lt
        have HE9 := Lib.hid (show errV (Venn.formHoldsChk ⟨l, c⟩ ⟨th, FT, b, d⟩) = .nilIface by rw [HHC.out]; exact errV_zero (HPC.out (HP.out H1.out).1))
        have HV9 := Lib.hid ((HHV.out FT (HPC.out (HP.out H1.out).1)).trans (HP.out H1.out).2)
        go_wp2_with fail
        refine (form_Holds _ _ l c _ _ _ _ _ (HA.out.keep (by (repeat' (first | (with_reducible exact Below.refl _ _) | (with_reducible assumption) | (with_reducible refine Below.next ?_ (by with_reducible assumption)) | (with_reducible refine Below.drew ?_) | (with_reducible refine Below.laid ?_ _) | (with_reducible refine Below.setCell ?_ ?_ _) | (with_reducible refine size_of ?_) | (with_reducible refine Nat.le_succ_of_le ?_) | go_size)))) (HC.out.keep (by (repeat' (first | (with_reducible exact Below.refl _ _) | (with_reducible assumption) | (with_reducible refine Below.next ?_ (by with_reducible assumption)) | (with_reducible refine Below.drew ?_) | (with_reducible refine Below.laid ?_ _) | (with_reducible refine Below.setCell ?_ ?_ _) | (with_reducible refine size_of ?_) | (with_reducible refine Nat.le_succ_of_le ?_) | go_size)))) (HK.out.keep (by (repeat' (first | (with_reducible exact Below.refl _ _) | (with_reducible assumption) | (with_reducible refine Below.next ?_ (by with_reducible assumption)) | (with_reducible refine Below.drew ?_) | (with_reducible refine Below.laid ?_ _) | (with_reducible refine Below.setCell ?_ ?_ _) | (with_reducible refine size_of ?_) | (with_reducible refine Nat.le_succ_of_le ?_) | go_size))))).mono ?_
        rintro e w10 ⟨rfl, hb10⟩
        rw [HE9.out, HV9.out]
        go_wp2
        go_ret
        exact ⟨rfl, by (repeat' (first | (with_reducible exact Below.refl _ _) | (with_reducible assumption) | (with_reducible refine Below.next ?_ (by with_reducible assumption)) | (with_reducible refine Below.drew ?_) | (with_reducible refine Below.laid ?_ _) | (with_reducible refine Below.setCell ?_ ?_ _) | (with_reducible refine size_of ?_) | (with_reducible refine Nat.le_succ_of_le ?_) | go_size))⟩
      case true =>
        go_wp2_with fail
        refine (some_First _ _ l c _ _ _ _ _ _ (HA.out.keep (by (repeat' (first | (with_reducible exact Below.refl _ _) | (with_reducible assumption) | (with_reducible refine Below.next ?_ (by with_reducible assumption)) | (with_reducible refine Below.drew ?_) | (with_reducible refine Below.laid ?_ _) | (with_reducible refine Below.setCell ?_ ?_ _) | (with_reducible refine size_of ?_) | (with_reducible refine Nat.le_succ_of_le ?_) | go_size)))) (HC.out.keep (by (repeat' (first | (with_reducible exact Below.refl _ _) | (with_reducible assumption) | (with_reducible refine Below.next ?_ (by with_reducible assumption)) | (with_reducible refine Below.drew ?_) | (with_reducible refine Below.laid ?_ _) | (with_reducible refine Below.setCell ?_ ?_ _) | (with_reducible refine size_of ?_) | (with_reducible refine Nat.le_succ_of_le ?_) | go_size)))) (HK.out.keep (by (repeat' (first | (with_reducible exact Below.refl _ _) | (with_reducible assumption) | (with_reducible refine Below.next ?_ (by with_reducible assumption)) | (with_reducible refine Below.drew ?_) | (with_reducible refine Below.laid ?_ _) | (with_reducible refine Below.setCell ?_ ?_ _) | (with_reducible refine size_of ?_) | (with_reducible refine Nat.le_succ_of_le ?_) | go_size))))).mono ?_
        rintro e w9 ⟨rfl, hb9⟩
        rw [HFI.out]
        have hq9 : Below w8.heap.size w8 w9 := by (repeat' (first | (with_reducible exact Below.refl _ _) | (with_reducible assumption) | (with_reducible refine Below.next ?_ (by with_reducible assumption)) | (with_reducible refine Below.drew ?_) | (with_reducible refine Below.laid ?_ _) | (with_reducible refine Below.setCell ?_ ?_ _) | (with_reducible refine size_of ?_) | (with_reducible refine Nat.le_succ_of_le ?_) | go_size))
        have hw9 : Below w.heap.size w w9 := Below.next hw8 hq9
        replace BF := BF.keep hq9
        try clear BF0 BF1 BFl
        obtain ⟨⟨BF0, BF1⟩, _⟩ := BF.cells2
        have BFl := BF.lt
        replace GX := GX.keep hq9
        try clear GX0 GX1 GX2 GX3 GXl
        obtain ⟨GX0, GX1, GX2, GX3⟩ := GX.cells4
        have GXl := GX.lt
        have z := GX.frozen 1
        have hxx : w.heap.size ≤ w5.heap.size := by omega
        have hls : ¬ s < FT := by have q1 := HLV.out; simp at q1; omega
        go_upto_region 30 with (fail)
        have hwb : Below w.heap.size w (w9.setCell ⟨w5.heap.size, 1, none⟩ (.int .i64 FT)) := by (repeat' (first | (with_reducible exact Below.refl _ _) | (with_reducible assumption) | (with_reducible refine Below.next ?_ (by with_reducible assumption)) | (with_reducible refine Below.drew ?_) | (with_reducible refine Below.laid ?_ _) | (with_reducible refine Below.setCell ?_ ?_ _) | (with_reducible refine size_of ?_) | (with_reducible refine Nat.le_succ_of_le ?_) | go_size))
        have KF := BF.far (p := ⟨w5.heap.size, 1, none⟩) (by show ¬ w.heap.size = w5.heap.size; omega) (.int .i64 FT)
        have KX := GX.set_ 1 (.int .i64 FT)
        clear BF0 BF1 BFl GX0 GX1 GX2 GX3 GXl z
        revert hwb KF KX
        generalize World.setCell _ _ _ = wx
        intro hwb KF KX
        simp at KX
        obtain ⟨⟨KF0, KF1⟩, _⟩ := KF.cells2
        have KFl := KF.lt
        obtain ⟨KX0, KX1, KX2, KX3⟩ := KX.cells4
        have KXl := KX.lt
        have HE9 := Lib.hid (show errV (Venn.formHoldsChk ⟨l, c⟩ ⟨th, FT, b, d⟩) = .nilIface by rw [HHC.out]; exact errV_zero (HPC.out (HP.out H1.out).1))
        have HV9 := Lib.hid ((HHV.out FT (HPC.out (HP.out H1.out).1)).trans (HP.out H1.out).2)
        go_wp2_with fail
        refine (form_Holds _ _ l c _ _ _ _ _ (HA.out.keep (by (repeat' (first | (with_reducible exact Below.refl _ _) | (with_reducible assumption) | (with_reducible refine Below.next ?_ (by with_reducible assumption)) | (with_reducible refine Below.drew ?_) | (with_reducible refine Below.laid ?_ _) | (with_reducible refine Below.setCell ?_ ?_ _) | (with_reducible refine size_of ?_) | (with_reducible refine Nat.le_succ_of_le ?_) | go_size)))) (HC.out.keep (by (repeat' (first | (with_reducible exact Below.refl _ _) | (with_reducible assumption) | (with_reducible refine Below.next ?_ (by with_reducible assumption)) | (with_reducible refine Below.drew ?_) | (with_reducible refine Below.laid ?_ _) | (with_reducible refine Below.setCell ?_ ?_ _) | (with_reducible refine size_of ?_) | (with_reducible refine Nat.le_succ_of_le ?_) | go_size)))) (HK.out.keep (by (repeat' (first | (with_reducible exact Below.refl _ _) | (with_reducible assumption) | (with_reducible refine Below.next ?_ (by with_reducible assumption)) | (with_reducible refine Below.drew ?_) | (with_reducible refine Below.laid ?_ _) | (with_reducible refine Below.setCell ?_ ?_ _) | (with_reducible refine size_of ?_) | (with_reducible refine Nat.le_succ_of_le ?_) | go_size))))).mono ?_
        rintro e w10 ⟨rfl, hb10⟩
        rw [HE9.out, HV9.out]
        go_wp2
        go_ret
        exact ⟨rfl, by (repeat' (first | (with_reducible exact Below.refl _ _) | (with_reducible assumption) | (with_reducible refine Below.next ?_ (by with_reducible assumption)) | (with_reducible refine Below.drew ?_) | (with_reducible refine Below.laid ?_ _) | (with_reducible refine Below.setCell ?_ ?_ _) | (with_reducible refine size_of ?_) | (with_reducible refine Nat.le_succ_of_le ?_) | go_size))⟩
  focus
    have HD1 := Lib.hid (show decide (0 ≤ FT) = false by simpa using h1)
    have HD2 := Lib.hid (show decide (FF < 0) = false by simpa using h2)
    have HD3 := Lib.hid (show decide (0 ≤ FF) = true by simp; omega)
    rw [HD1.out, HD2.out]
    have HFI := Lib.hid (show firstVv l c 0 th a b d = .tuple #[.int .i64 0, errV 5] by rw [HF1.out, if_neg h1])
    have H1 := Lib.hid h1
    have H2 := Lib.hid h2
    clear h1 h2 HF1 HIS HEA HEI
    by_cases h20 : c.length = 20
    focus
      have HN := Lib.hid (show Venn.negChk ⟨l, c⟩ = 4 by rw [HNG.out, if_pos h20])
      have HNV := Lib.hid (show negV ⟨l, c⟩ = noForm by rw [negV, if_neg (by rw [HN.out]; decide)])
      clear h20 HNI HNG
      go_wp2_with fail
      refine (form_Negate _ _ l c _ (HA.out.keep (by (repeat' (first | (with_reducible exact Below.refl _ _) | (with_reducible assumption) | (with_reducible refine Below.next ?_ (by with_reducible assumption)) | (with_reducible refine Below.drew ?_) | (with_reducible refine Below.laid ?_ _) | (with_reducible refine Below.setCell ?_ ?_ _) | (with_reducible refine size_of ?_) | (with_reducible refine Nat.le_succ_of_le ?_) | go_size)))) (HC.out.keep (by (repeat' (first | (with_reducible exact Below.refl _ _) | (with_reducible assumption) | (with_reducible refine Below.next ?_ (by with_reducible assumption)) | (with_reducible refine Below.drew ?_) | (with_reducible refine Below.laid ?_ _) | (with_reducible refine Below.setCell ?_ ?_ _) | (with_reducible refine size_of ?_) | (with_reducible refine Nat.le_succ_of_le ?_) | go_size)))) (HK.out.keep (by (repeat' (first | (with_reducible exact Below.refl _ _) | (with_reducible assumption) | (with_reducible refine Below.next ?_ (by with_reducible assumption)) | (with_reducible refine Below.drew ?_) | (with_reducible refine Below.laid ?_ _) | (with_reducible refine Below.setCell ?_ ?_ _) | (with_reducible refine size_of ?_) | (with_reducible refine Nat.le_succ_of_le ?_) | go_size))))).mono ?_
      rintro e w4 ⟨A4, kA4, C4, kC4, rfl, hb4, hA4, hC4⟩
      rw [HNV.out, HN.out, errV_ne (e := 4) (by decide)]
      simp only [noForm, List.length_nil]
      clear hA4 hC4
      have GF := BF.keep hb4
      have GW := BW.keep hb4
      have hw4 := Below.next hw3 hb4
      go_upto_region 16 with (fail)
      have hqz : Below w4.heap.size w4 (w4.alloc (.cells #[.slice A4 0 kA4, .slice C4 0 kC4] 41)) := by (repeat' (first | (with_reducible exact Below.refl _ _) | (with_reducible assumption) | (with_reducible refine Below.next ?_ (by with_reducible assumption)) | (with_reducible refine Below.drew ?_) | (with_reducible refine Below.laid ?_ _) | (with_reducible refine Below.setCell ?_ ?_ _) | (with_reducible refine size_of ?_) | (with_reducible refine Nat.le_succ_of_le ?_) | go_size))
      replace GF := GF.keep hqz
      replace GW := GW.keep hqz
      have hw5 := Below.next hw4 hqz
      clear hb4 hw4 hqz HN HNV BF0 BF1 BFl BW0 BW1 BW2 BW3 BWl BF BW
      revert GF GW hw5
      generalize World.alloc _ _ = w5
      intro BF BW hw5
    rotate_left
    focus
      have hlt : c.length < 20 := by omega
      have HN := Lib.hid (show Venn.negChk ⟨l, c⟩ = 0 by rw [HNG.out, if_neg h20])
      have HNV := Lib.hid (show negV ⟨l, c⟩ = ⟨l, c ++ [12]⟩ by rw [negV, if_pos HN.out]; rfl)
      have HNX := Lib.hid (HNI.out hlt)
      generalize c ++ [12] = c1 at HNV HNX
      clear h20 hlt HNI HNG
      go_wp2_with fail
      refine (form_Negate _ _ l c _ (HA.out.keep (by (repeat' (first | (with_reducible exact Below.refl _ _) | (with_reducible assumption) | (with_reducible refine Below.next ?_ (by with_reducible assumption)) | (with_reducible refine Below.drew ?_) | (with_reducible refine Below.laid ?_ _) | (with_reducible refine Below.setCell ?_ ?_ _) | (with_reducible refine size_of ?_) | (with_reducible refine Nat.le_succ_of_le ?_) | go_size)))) (HC.out.keep (by (repeat' (first | (with_reducible exact Below.refl _ _) | (with_reducible assumption) | (with_reducible refine Below.next ?_ (by with_reducible assumption)) | (with_reducible refine Below.drew ?_) | (with_reducible refine Below.laid ?_ _) | (with_reducible refine Below.setCell ?_ ?_ _) | (with_reducible refine size_of ?_) | (with_reducible refine Nat.le_succ_of_le ?_) | go_size)))) (HK.out.keep (by (repeat' (first | (with_reducible exact Below.refl _ _) | (with_reducible assumption) | (with_reducible refine Below.next ?_ (by with_reducible assumption)) | (with_reducible refine Below.drew ?_) | (with_reducible refine Below.laid ?_ _) | (with_reducible refine Below.setCell ?_ ?_ _) | (with_reducible refine size_of ?_) | (with_reducible refine Nat.le_succ_of_le ?_) | go_size))))).mono ?_
      rintro e w4 ⟨A4, kA4, C4, kC4, rfl, hb4, hA4, hC4⟩
      rw [HNV.out] at hA4 hC4 ⊢
      rw [HN.out, errV_zero rfl]
      simp only at hA4 hC4 ⊢
      clear BF0 BF1 BFl BW0 BW1 BW2 BW3 BWl
      replace BF := BF.keep hb4
      replace BW := BW.keep hb4
      have BG := Blk.new w4 41 #[.slice A4 l.length kA4, .slice C4 c1.length kC4]
      have hw4 := Below.next hw3 hb4
      obtain ⟨⟨BF0, BF1⟩, _⟩ := BF.cells2
      have BFl := BF.lt
      obtain ⟨BW0, BW1, BW2, BW3⟩ := BW.cells4
      have BWl := BW.lt
      obtain ⟨⟨BG0, BG1⟩, _⟩ := BG.cells2
      have BGl := BG.lt
      go_wp2_with fail
      refine (some_Is _ _ l c1 _ _ _ _ _ _ (hA4.keep (by (repeat' (first | (with_reducible exact Below.refl _ _) | (with_reducible assumption) | (with_reducible refine Below.next ?_ (by with_reducible assumption)) | (with_reducible refine Below.drew ?_) | (with_reducible refine Below.laid ?_ _) | (with_reducible refine Below.setCell ?_ ?_ _) | (with_reducible refine size_of ?_) | (with_reducible refine Nat.le_succ_of_le ?_) | go_size)))) (hC4.keep (by (repeat' (first | (with_reducible exact Below.refl _ _) | (with_reducible assumption) | (with_reducible refine Below.next ?_ (by with_reducible assumption)) | (with_reducible refine Below.drew ?_) | (with_reducible refine Below.laid ?_ _) | (with_reducible refine Below.setCell ?_ ?_ _) | (with_reducible refine size_of ?_) | (with_reducible refine Nat.le_succ_of_le ?_) | go_size)))) (HK.out.keep (by (repeat' (first | (with_reducible exact Below.refl _ _) | (with_reducible assumption) | (with_reducible refine Below.next ?_ (by with_reducible assumption)) | (with_reducible refine Below.drew ?_) | (with_reducible refine Below.laid ?_ _) | (with_reducible refine Below.setCell ?_ ?_ _) | (with_reducible refine size_of ?_) | (with_reducible refine Nat.le_succ_of_le ?_) | go_size))))).mono ?_
      rintro e w5 ⟨rfl, hb5⟩
      rw [HNX.out.1, HNX.out.2, HD3.out]
      have hq5 : Below w4.heap.size w4 w5 := by (repeat' (first | (with_reducible exact Below.refl _ _) | (with_reducible assumption) | (with_reducible refine Below.next ?_ (by with_reducible assumption)) | (with_reducible refine Below.drew ?_) | (with_reducible refine Below.laid ?_ _) | (with_reducible refine Below.setCell ?_ ?_ _) | (with_reducible refine size_of ?_) | (with_reducible refine Nat.le_succ_of_le ?_) | go_size))
      have hw5 := Below.next hw4 hq5
      clear BF0 BF1 BFl BW0 BW1 BW2 BW3 BWl BG0 BG1 BGl BG hA4 hC4 HNX HN HNV
      replace BF := BF.keep hq5
      replace BW := BW.keep hq5
      go_upto_region 16 with (fail)
      clear hb4 hb5 hq5 hw4
    all_goals
      obtain ⟨⟨BF0, BF1⟩, _⟩ := BF.cells2
      have BFl := BF.lt
      obtain ⟨BW0, BW1, BW2, BW3⟩ := BW.cells4
      have BWl := BW.lt
      clear hb1 hb2 hb3 hq2 hq3 hw1 hw2 hw3
      have BX := Blk.new w5 44 #[.int .i64 th, .int .i64 a, .int .i64 b, .int .i64 d]
      obtain ⟨y0, y1, y2, y3⟩ := BX.cells4
      have y4 := BX.frozen 1
      go_upto_region 18 with (fail)
      have GX := Blk.new w5 44 #[.int .i64 th, .int .i64 s, .int .i64 b, .int .i64 d]
      have GF := BF.alloc (.cells #[.int .i64 th, .int .i64 s, .int .i64 b, .int .i64 d] 44)
      have GW := BW.alloc (.cells #[.int .i64 th, .int .i64 s, .int .i64 b, .int .i64 d] 44)
      have hq6 : Below w5.heap.size w5 (w5.alloc (.cells #[.int .i64 th, .int .i64 s, .int .i64 b, .int .i64 d] 44)) := by (repeat' (first | (with_reducible exact Below.refl _ _) | (with_reducible assumption) | (with_reducible refine Below.next ?_ (by with_reducible assumption)) | (with_reducible refine Below.drew ?_) | (with_reducible refine Below.laid ?_ _) | (with_reducible refine Below.setCell ?_ ?_ _) | (with_reducible refine size_of ?_) | (with_reducible refine Nat.le_succ_of_le ?_) | go_size))
      have hx5 : w.heap.size + 1 < w5.heap.size := BWl
      clear y0 y1 y2 y3 y4 BX BF0 BF1 BFl BW0 BW1 BW2 BW3 BWl BF BW
      revert GX GF GW hq6
      generalize World.alloc _ _ = w6
      intro GX BF BW hq6
      have hw6 := Below.next hw5 hq6
      obtain ⟨⟨BF0, BF1⟩, _⟩ := BF.cells2
      have BFl := BF.lt
      obtain ⟨BW0, BW1, BW2, BW3⟩ := BW.cells4
      have BWl := BW.lt
      obtain ⟨GX0, GX1, GX2, GX3⟩ := GX.cells4
      have GXl := GX.lt
      by_cases hsw : ¬ Venn.worldChk ⟨th, s, b, d⟩ = 0
      focus
        have HE7 := Lib.hid (show errV (Venn.formHoldsChk ⟨l, c⟩ ⟨th, s, b, d⟩) = .iface 101 (.int .i64 (Venn.worldChk ⟨th, s, b, d⟩)) by rw [HHC.out, errV_ne hsw])
        clear hsw
        go_wp2_with fail
        refine (form_Holds _ _ l c _ _ _ _ _ (HA.out.keep (by (repeat' (first | (with_reducible exact Below.refl _ _) | (with_reducible assumption) | (with_reducible refine Below.next ?_ (by with_reducible assumption)) | (with_reducible refine Below.drew ?_) | (with_reducible refine Below.laid ?_ _) | (with_reducible refine Below.setCell ?_ ?_ _) | (with_reducible refine size_of ?_) | (with_reducible refine Nat.le_succ_of_le ?_) | go_size)))) (HC.out.keep (by (repeat' (first | (with_reducible exact Below.refl _ _) | (with_reducible assumption) | (with_reducible refine Below.next ?_ (by with_reducible assumption)) | (with_reducible refine Below.drew ?_) | (with_reducible refine Below.laid ?_ _) | (with_reducible refine Below.setCell ?_ ?_ _) | (with_reducible refine size_of ?_) | (with_reducible refine Nat.le_succ_of_le ?_) | go_size)))) (HK.out.keep (by (repeat' (first | (with_reducible exact Below.refl _ _) | (with_reducible assumption) | (with_reducible refine Below.next ?_ (by with_reducible assumption)) | (with_reducible refine Below.drew ?_) | (with_reducible refine Below.laid ?_ _) | (with_reducible refine Below.setCell ?_ ?_ _) | (with_reducible refine size_of ?_) | (with_reducible refine Nat.le_succ_of_le ?_) | go_size))))).mono ?_
        rintro e w7 ⟨rfl, hb7⟩
        rw [HE7.out]
        have hq7 : Below w6.heap.size w6 w7 := by (repeat' (first | (with_reducible exact Below.refl _ _) | (with_reducible assumption) | (with_reducible refine Below.next ?_ (by with_reducible assumption)) | (with_reducible refine Below.drew ?_) | (with_reducible refine Below.laid ?_ _) | (with_reducible refine Below.setCell ?_ ?_ _) | (with_reducible refine size_of ?_) | (with_reducible refine Nat.le_succ_of_le ?_) | go_size))
        have hw7 : Below w.heap.size w w7 := Below.next hw6 hq7
        generalize Venn.formHoldsV ⟨l, c⟩ ⟨th, s, b, d⟩ = hv
        go_wp2
        go_ret
        exact ⟨rfl, hw7⟩
      replace hsw := Decidable.not_not.1 hsw
      have HE7 := Lib.hid (show errV (Venn.formHoldsChk ⟨l, c⟩ ⟨th, s, b, d⟩) = .nilIface by rw [HHC.out]; exact errV_zero hsw)
      have HIX := Lib.hid (HSX.out hsw)
      obtain ⟨v, hv⟩ : ∃ v, Venn.formTrue ⟨l, c⟩ ⟨th, s, b, d⟩ = v := ⟨_, rfl⟩
      have HV7 := Lib.hid ((HHV.out s hsw).trans hv)
      have HLV := Lib.hid (HL.out v (HSC.out hsw) hv)
      clear hsw hv
      go_wp2_with fail
      refine (form_Holds _ _ l c _ _ _ _ _ (HA.out.keep (by (repeat' (first | (with_reducible exact Below.refl _ _) | (with_reducible assumption) | (with_reducible refine Below.next ?_ (by with_reducible assumption)) | (with_reducible refine Below.drew ?_) | (with_reducible refine Below.laid ?_ _) | (with_reducible refine Below.setCell ?_ ?_ _) | (with_reducible refine size_of ?_) | (with_reducible refine Nat.le_succ_of_le ?_) | go_size)))) (HC.out.keep (by (repeat' (first | (with_reducible exact Below.refl _ _) | (with_reducible assumption) | (with_reducible refine Below.next ?_ (by with_reducible assumption)) | (with_reducible refine Below.drew ?_) | (with_reducible refine Below.laid ?_ _) | (with_reducible refine Below.setCell ?_ ?_ _) | (with_reducible refine size_of ?_) | (with_reducible refine Nat.le_succ_of_le ?_) | go_size)))) (HK.out.keep (by (repeat' (first | (with_reducible exact Below.refl _ _) | (with_reducible assumption) | (with_reducible refine Below.next ?_ (by with_reducible assumption)) | (with_reducible refine Below.drew ?_) | (with_reducible refine Below.laid ?_ _) | (with_reducible refine Below.setCell ?_ ?_ _) | (with_reducible refine size_of ?_) | (with_reducible refine Nat.le_succ_of_le ?_) | go_size))))).mono ?_
      rintro e w7 ⟨rfl, hb7⟩
      rw [HE7.out, HV7.out]
      have hq7 : Below w6.heap.size w6 w7 := by (repeat' (first | (with_reducible exact Below.refl _ _) | (with_reducible assumption) | (with_reducible refine Below.next ?_ (by with_reducible assumption)) | (with_reducible refine Below.drew ?_) | (with_reducible refine Below.laid ?_ _) | (with_reducible refine Below.setCell ?_ ?_ _) | (with_reducible refine size_of ?_) | (with_reducible refine Nat.le_succ_of_le ?_) | go_size))
      have hw7 : Below w.heap.size w w7 := Below.next hw6 hq7
      replace BF := BF.keep hq7
      try clear BF0 BF1 BFl
      obtain ⟨⟨BF0, BF1⟩, _⟩ := BF.cells2
      have BFl := BF.lt
      replace BW := BW.keep hq7
      try clear BW0 BW1 BW2 BW3 BWl
      obtain ⟨BW0, BW1, BW2, BW3⟩ := BW.cells4
      have BWl := BW.lt
      replace GX := GX.keep hq7
      try clear GX0 GX1 GX2 GX3 GXl
      obtain ⟨GX0, GX1, GX2, GX3⟩ := GX.cells4
      have GXl := GX.lt
      go_wp2_with fail
      refine (some_Is _ _ l c _ _ _ _ _ _ (HA.out.keep (by (repeat' (first | (with_reducible exact Below.refl _ _) | (with_reducible assumption) | (with_reducible refine Below.next ?_ (by with_reducible assumption)) | (with_reducible refine Below.drew ?_) | (with_reducible refine Below.laid ?_ _) | (with_reducible refine Below.setCell ?_ ?_ _) | (with_reducible refine size_of ?_) | (with_reducible refine Nat.le_succ_of_le ?_) | go_size)))) (HC.out.keep (by (repeat' (first | (with_reducible exact Below.refl _ _) | (with_reducible assumption) | (with_reducible refine Below.next ?_ (by with_reducible assumption)) | (with_reducible refine Below.drew ?_) | (with_reducible refine Below.laid ?_ _) | (with_reducible refine Below.setCell ?_ ?_ _) | (with_reducible refine size_of ?_) | (with_reducible refine Nat.le_succ_of_le ?_) | go_size)))) (HK.out.keep (by (repeat' (first | (with_reducible exact Below.refl _ _) | (with_reducible assumption) | (with_reducible refine Below.next ?_ (by with_reducible assumption)) | (with_reducible refine Below.drew ?_) | (with_reducible refine Below.laid ?_ _) | (with_reducible refine Below.setCell ?_ ?_ _) | (with_reducible refine size_of ?_) | (with_reducible refine Nat.le_succ_of_le ?_) | go_size))))).mono ?_
      rintro e w8 ⟨rfl, hb8⟩
      rw [HIX.out.1, HIX.out.2, HD1.out]
      have hq8 : Below w7.heap.size w7 w8 := by (repeat' (first | (with_reducible exact Below.refl _ _) | (with_reducible assumption) | (with_reducible refine Below.next ?_ (by with_reducible assumption)) | (with_reducible refine Below.drew ?_) | (with_reducible refine Below.laid ?_ _) | (with_reducible refine Below.setCell ?_ ?_ _) | (with_reducible refine size_of ?_) | (with_reducible refine Nat.le_succ_of_le ?_) | go_size))
      have hw8 : Below w.heap.size w w8 := Below.next hw7 hq8
      replace BF := BF.keep hq8
      try clear BF0 BF1 BFl
      obtain ⟨⟨BF0, BF1⟩, _⟩ := BF.cells2
      have BFl := BF.lt
      replace BW := BW.keep hq8
      try clear BW0 BW1 BW2 BW3 BWl
      obtain ⟨BW0, BW1, BW2, BW3⟩ := BW.cells4
      have BWl := BW.lt
      replace GX := GX.keep hq8
      try clear GX0 GX1 GX2 GX3 GXl
      obtain ⟨GX0, GX1, GX2, GX3⟩ := GX.cells4
      have GXl := GX.lt
      cases v
      case false =>
        go_wp2_with fail
        refine (some_First _ _ l c _ _ _ _ _ _ (HA.out.keep (by (repeat' (first | (with_reducible exact Below.refl _ _) | (with_reducible assumption) | (with_reducible refine Below.next ?_ (by with_reducible assumption)) | (with_reducible refine Below.drew ?_) | (with_reducible refine Below.laid ?_ _) | (with_reducible refine Below.setCell ?_ ?_ _) | (with_reducible refine size_of ?_) | (with_reducible refine Nat.le_succ_of_le ?_) | go_size)))) (HC.out.keep (by (repeat' (first | (with_reducible exact Below.refl _ _) | (with_reducible assumption) | (with_reducible refine Below.next ?_ (by with_reducible assumption)) | (with_reducible refine Below.drew ?_) | (with_reducible refine Below.laid ?_ _) | (with_reducible refine Below.setCell ?_ ?_ _) | (with_reducible refine size_of ?_) | (with_reducible refine Nat.le_succ_of_le ?_) | go_size)))) (HK.out.keep (by (repeat' (first | (with_reducible exact Below.refl _ _) | (with_reducible assumption) | (with_reducible refine Below.next ?_ (by with_reducible assumption)) | (with_reducible refine Below.drew ?_) | (with_reducible refine Below.laid ?_ _) | (with_reducible refine Below.setCell ?_ ?_ _) | (with_reducible refine size_of ?_) | (with_reducible refine Nat.le_succ_of_le ?_) | go_size))))).mono ?_
        rintro e w9 ⟨rfl, hb9⟩
        rw [HFI.out]
        have hq9 : Below w8.heap.size w8 w9 := by (repeat' (first | (with_reducible exact Below.refl _ _) | (with_reducible assumption) | (with_reducible refine Below.next ?_ (by with_reducible assumption)) | (with_reducible refine Below.drew ?_) | (with_reducible refine Below.laid ?_ _) | (with_reducible refine Below.setCell ?_ ?_ _) | (with_reducible refine size_of ?_) | (with_reducible refine Nat.le_succ_of_le ?_) | go_size))
        have hw9 : Below w.heap.size w w9 := Below.next hw8 hq9
        have HER := fun W h => vennsame_Error 5 5 W h
        rw [errV_ne (e := 5) (by decide)] at HER ⊢
        go_wp2_with fail
        refine (HER _ (HET.out.keep (by (repeat' (first | (with_reducible exact Below.refl _ _) | (with_reducible assumption) | (with_reducible refine Below.next ?_ (by with_reducible assumption)) | (with_reducible refine Below.drew ?_) | (with_reducible refine Below.laid ?_ _) | (with_reducible refine Below.setCell ?_ ?_ _) | (with_reducible refine size_of ?_) | (with_reducible refine Nat.le_succ_of_le ?_) | go_size))))).mono ?_
        rintro e w10 ⟨rfl, hb10⟩
        go_wp2
        go_ret
        exact ⟨rfl, by (repeat' (first | (with_reducible exact Below.refl _ _) | (with_reducible assumption) | (with_reducible refine Below.next ?_ (by with_reducible assumption)) | (with_reducible refine Below.drew ?_) | (with_reducible refine Below.laid ?_ _) | (with_reducible refine Below.setCell ?_ ?_ _) | (with_reducible refine size_of ?_) | (with_reducible refine Nat.le_succ_of_le ?_) | go_size))⟩
      case true =>
        exfalso; have q1 := HLV.out; simp at q1; have q2 := H1.out; omega
end Go.Proofs.YtnjamgmaclmlpaaDoor
