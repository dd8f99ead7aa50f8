/-
  THE WALK of atom.Read, the other kinds, and all together (printed by gen_read.py).
-/
import Derived.Test.YtcloppcekbdbaaaGreatDoorReadA
namespace Go.Proofs.YtcloppcekbdbaaaGreatDoor
open Go.RowKit Go.ChangeShapes
attribute [local go_sem] idxK0 idxK1 idxK2 idxK3 idxK4 idxK5

set_option maxHeartbeats 4000000 in
set_option maxRecDepth 100000 in
theorem read_4 (s : ByteArray) (w : World) (hs : s.size < 4294967281) (hk : KindsOk w) (ht : TabOk w) (he : ErrsOk w) (hm : MaxOk w) (hw0 : wordAt (wordsOf s) 0 = Venn.wordB 4) :
    Calls Tryz.prog 91 #[.string s] w (ReadsTo (readSN 4 (wordsOf s)) w) := by
  have hX : (wordsOf s).getD 0 ⟨#[]⟩ = ⟨#[109, 111, 115, 116]⟩ := bytes_word hw0
  have HKI := Lib.hid hk
  have HTB := Lib.hid ht
  have HER := Lib.hid he
  have HMX := Lib.hid hm
  have hal0 : Below w.heap.size w (w.alloc (.cells #[.int .i64 0, .slice none 0 0, .slice none 0 0, .int .i64 0] 32)) := by (repeat' (first | (with_reducible exact Below.refl _ _) | (with_reducible assumption) | (with_reducible refine Below.next ?_ (by with_reducible assumption)) | (with_reducible refine Below.drew ?_) | (with_reducible refine Below.laid ?_ _) | (with_reducible refine Below.setCell ?_ ?_ _) | (with_reducible refine size_of ?_) | (with_reducible refine Nat.le_succ_of_le ?_) | go_size))
  have BR0 := Lib.hid (Blk.new w 32 #[.int .i64 0, .slice none 0 0, .slice none 0 0, .int .i64 0])
  have hz : (w.alloc (.cells #[.int .i64 0, .slice none 0 0, .slice none 0 0, .int .i64 0] 32)).heap.size = w.heap.size + 1 := by simp
  have HS := Lib.hid hs
  have HSPL := Lib.hid (fun W (hW : MaxOk W) => strings_Split s ⟨#[32]⟩ W hW hs (by decide))
  have HLEN := Lib.hid (words_len s)
  have HALL := Lib.hid (words_size hs)
  clear hk ht he hm hs
  go_enter Tryz.func91, Tryz.ntmps91
  go_upto_region 1 with (fail)
  revert hal0 BR0 hz
  generalize w.alloc (.cells #[.int .i64 0, .slice none 0 0, .slice none 0 0, .int .i64 0] 32) = w0
  intro hal0 BR0 hz
  have HZ := Lib.hid hz
  have HB0 := Lib.hid hal0
  clear hal0 hz
  go_wp2_with fail
  refine (HSPL.out w0 (HMX.out.keep HB0.out)).mono ?_
  rintro e w1 ⟨rfl, hw1⟩
  have HW1 := Lib.hid (show w1 = w0.alloc (.cells ((wordsOf s).map Value.string).toArray 9) from hw1)
  clear hw1
  have HB01 := Lib.hid (show Below w0.heap.size w0 w1 by rw [HW1.out]; exact (Below.refl _ _).alloc (Nat.le_refl _) _)
  have HWA := Lib.hid (show WordsAt w1 w0.heap.size (wordsOf s) by rw [HW1.out]; exact words_at)
  have HRD0 := Lib.hid (show RdW w1 (w1.alloc (.cells #[.slice (some ⟨w0.heap.size, 0, none⟩) (Lib.countB s ⟨#[32]⟩ + 1) (Lib.countB s ⟨#[32]⟩ + 1), .bool true] 178)) w0.heap.size (wordsOf s) 0 true from ⟨(Below.refl _ _).alloc (Nat.le_refl _) _, some ⟨w0.heap.size, 0, none⟩, Lib.countB s ⟨#[32]⟩ + 1, by rw [Nat.sub_zero, HLEN.out]; exact Blk.new _ _ _, fun _ => rfl, by rw [HLEN.out]; omega, by rw [← HLEN.out]; exact words_maxlen HS.out⟩)
  have HN := Lib.hid (reader_next w1 _ _ (wordsOf s) 0 true HWA.out HRD0.out)
  have hlen0 : decide (0 < (wordsOf s).length) = true := by rw [HLEN.out]; simp
  rw [hlen0, Bool.and_true, hX] at HN
  go_wp2_with fail
  refine (HN.out).mono ?_
  rintro e w2 ⟨rfl, hR2, _⟩
  have HR2 := Lib.hid hR2
  have HB2 := Lib.hid (Below.next (Below.next HB0.out HB01.out) hR2.1)
  have hsz2 : w1.heap.size < w2.heap.size := by obtain ⟨_, P, c, hB, _⟩ := hR2; exact hB.lt
  have HSZ := Lib.hid hsz2
  clear hR2 hsz2 HN HRD0 HSPL hlen0
  have kld := Lib.hid (kinds_range (HKI.out.keep HB2.out))
  have q1 : ((⟨#[115, 117, 98]⟩ : ByteArray) != ⟨#[109, 111, 115, 116]⟩) = true := by decide
  have q2 : ((⟨#[115, 97, 109, 101]⟩ : ByteArray) != ⟨#[109, 111, 115, 116]⟩) = true := by decide
  have q3 : ((⟨#[108, 101, 97, 115, 116]⟩ : ByteArray) != ⟨#[109, 111, 115, 116]⟩) = true := by decide
  have q4 : ((⟨#[109, 111, 115, 116]⟩ : ByteArray) != ⟨#[109, 111, 115, 116]⟩) = false := by decide
  go_upto_region 3 with (fail)
  go_wp2_with (refine wpList_load_mid rfl 137 _ rfl 0 0 rfl kindCells _ kld.out Tryz.underlying137 rfl kinds_size ?_)
  clear kld
  refine wp_loop_rounds 5 ?_
  rw [rounds_succ]
  go_wp2_with fail
  rw [rounds_succ]
  go_wp2_with fail
  rw [rounds_succ]
  go_wp2_with fail
  rw [rounds_succ]
  go_wp2_with fail
  rw [rounds_succ]
  go_wp2_with fail
  have HS1 := Lib.hid (fun x hx => Nat.lt_trans (HALL.out x hx) (by decide : 4294967281 < 1099511627776))
  have HS2 := Lib.hid (fun x hx => Nat.le_of_lt (Nat.lt_trans (HALL.out x hx) (by decide : 4294967281 < 281474976710656)))
  have HTB1 := Lib.hid (HTB.out.keep (Below.next HB0.out HB01.out))
  have HER1 := Lib.hid (HER.out.keep (Below.next HB0.out HB01.out))
  refine (reader_term w1 _ _ (wordsOf s) 1 true HWA.out (by repeat (first | exact HR2.out | apply RdW.alloc)) HS1.out).mono ?_
  rintro e w3 ⟨S, nS, cS, rfl, hR3, hS3, hFS, hg3⟩
  have BK := (Blk.newAt (g := w2.heap.size + 4) (by simp) 136 #[.string ⟨#[109, 111, 115, 116]⟩, .bool false, .bool true]).grown hg3 (by have := HSZ.out; simp; omega)
  have hb34 : Below w3.heap.size w3 (w3.alloc (.cells #[.int .i64 4, .slice S nS cS, .slice none 0 0, .int .i64 0] 32)) := (Below.refl _ _).alloc (Nat.le_refl _) _
  have HR4 := Lib.hid (hR3.alloc (.cells #[.int .i64 4, .slice S nS cS, .slice none 0 0, .int .i64 0] 32))
  have BA := Blk.new w3 32 #[.int .i64 4, .slice S nS cS, .slice none 0 0, .int .i64 0]
  have hsz3 : w2.heap.size + 5 ≤ w3.heap.size := by have := hg3.size; simpa using this
  obtain ⟨_, P3, c3, hB3, _⟩ := id hR3
  have HFS := Lib.hid (show FreshV w2 (.slice S nS cS) from fun A n c e => Nat.le_trans (by simp; omega) (hFS A n c e))
  clear hFS
  have HIS := Lib.hid (fun W (hW : w3.grownBy W (some w1.heap.size)) (h : isTerm (wordsOf s) 1 = true) => ints_gr (hS3 h) hB3 hW)
  have HIK := Lib.hid (fun W (hW : w3.grownBy W (some w1.heap.size)) => Blk.grown BK hW (by have := HSZ.out; simp; omega))
  clear hR3 hS3 hg3 BK hB3
  go_upto_region 8 with (fail)
  revert hb34 HR4 BA
  generalize (w3.alloc (.cells #[.int .i64 4, .slice S nS cS, .slice none 0 0, .int .i64 0] 32)) = w4
  intro hb34 HR4 BA
  have HSZ3 := Lib.hid hsz3
  have HLA := Lib.hid BA.lt
  have HA4 := Lib.hid BA
  have HG4 := Lib.hid (gr_below hb34 (some w1.heap.size))
  have BK := HIK.out w4 HG4.out
  have kt : w4.cell? ⟨w2.heap.size + 4, 1, none⟩ = some (.bool false) := BK.cell 1
  have kn : w4.cell? ⟨w2.heap.size + 4, 2, none⟩ = some (.bool true) := BK.cell 2
  clear hsz3 hb34 BA BK
  go_wp2_with fail
  refine (reader_number w1 w4 _ (wordsOf s) 2 _ HWA.out HR4.out HS2.out HTB1.out HER1.out).mono ?_
  rintro e w5 ⟨n, rfl, hR5, hN, hg⟩
  have HN := Lib.hid hN
  clear hN
  have nR : w1.heap.size < w3.heap.size := by have := HSZ3.out; have := HSZ.out; omega
  have BA := HA4.out.grown hg (by simp; omega)
  have aT : w5.cell? ⟨w3.heap.size, 3, none⟩ = some (.int .i64 0) := BA.cell 3
  have fT := BA.frozen 3
  have HG6 := Lib.hid (gr_set_new (gr_trans HG4.out hg) (Nat.le_refl _) 3 (.int .i64 n))
  have HR6 := Lib.hid (hR5.far nR 3 (.int .i64 n))
  have HA6 := Lib.hid (BA.set_ 3 (.int .i64 n))
  clear hR5 hg BA nR
  go_upto_region 12 with (fail)
  clear aT fT
  revert HG6 HR6 HA6
  generalize World.setCell _ _ _ = w6
  intro HG6 HR6 HA6
  obtain ⟨hbR, P, c, hB, _⟩ := HR6.out
  have HO := Lib.hid (readSN_some 4 (wordsOf s))
  have HV := Lib.hid (fun a (h : readSN 4 (wordsOf s) = some a) => readSN_val h)
  generalize hOE : readSN 4 (wordsOf s) = O at HO HV
  have HOE := Lib.hid hOE
  clear hOE
  have HO' := HO.out
  clear HO
  generalize ((true && isTerm (wordsOf s) 1) && isNum (wordsOf s) 2) = F at hB HO'
  generalize (wordsOf s).length - 3 = M at hB HO'
  have HBW := Lib.hid (Below.next (Below.next HB0.out HB01.out) hbR)
  have BRes := BR0.out.keep (Below.next HB01.out hbR)
  have r0 : w6.cell? ⟨w1.heap.size, 0, none⟩ = some (.slice P M c) := hB.cell 0
  have r1 : w6.cell? ⟨w1.heap.size, 1, none⟩ = some (.bool F) := hB.cell 1
  have a0 : w6.cell? ⟨w3.heap.size, 0, none⟩ = some (.int .i64 4) := HA6.out.cell 0
  have a1 : w6.cell? ⟨w3.heap.size, 1, none⟩ = some (.slice S nS cS) := HA6.out.cell 1
  have a2 : w6.cell? ⟨w3.heap.size, 2, none⟩ = some (.slice none 0 0) := HA6.out.cell 2
  have a3 : w6.cell? ⟨w3.heap.size, 3, none⟩ = some (.int .i64 n) := HA6.out.cell 3
  have z0 : w6.cell? ⟨w.heap.size, 0, none⟩ = some (.int .i64 0) := BRes.cell 0
  have y0 := BRes.frozen 0
  have z1 : w6.cell? ⟨w.heap.size, 1, none⟩ = some (.slice none 0 0) := BRes.cell 1
  have y1 := BRes.frozen 1
  have z2 : w6.cell? ⟨w.heap.size, 2, none⟩ = some (.slice none 0 0) := BRes.cell 2
  have y2 := BRes.frozen 2
  have z3 : w6.cell? ⟨w.heap.size, 3, none⟩ = some (.int .i64 0) := BRes.cell 3
  have y3 := BRes.frozen 3
  have GS := Lib.hid (BRes.set4 (.int .i64 4) (.slice S nS cS) (.slice none 0 0) (.int .i64 n))
  have GL := Lib.hid (below_set4 HBW.out (Nat.le_refl _) (.int .i64 4) (.slice S nS cS) (.slice none 0 0) (.int .i64 n))
  have HLW := Lib.hid (show w.heap.size < w2.heap.size by have := size_of HB2.out; have := HSZ.out; have := size_of HB01.out; have := HZ.out; omega)
  have nW1 : w.heap.size < w1.heap.size := by have := size_of HB01.out; have := HZ.out; omega
  have nW3 : w.heap.size < w3.heap.size := by have := HSZ3.out; have := HLW.out; omega
  have HIS' := Lib.hid (fun h => ints_fresh4 (HIS.out w6 HG6.out h) HFS.out HLW.out (.int .i64 4) (.slice S nS cS) (.slice none 0 0) (.int .i64 n))
  clear hB BRes hbR HA6 HR6 HG6 HIS HIK HBW BR0
  cases F
  · rw [Bool.false_and] at HO'
    go_region
    go_wp2
    revert GS GL HIS'
    generalize World.setCell _ _ _ = Wf
    intro GS GL HIS'
    have e0 : Wf.cell? ⟨w.heap.size, 0, none⟩ = some (.int .i64 4) := GS.out.cell 0
    have e1 : Wf.cell? ⟨w.heap.size, 1, none⟩ = some (.slice S nS cS) := GS.out.cell 1
    have e2 : Wf.cell? ⟨w.heap.size, 2, none⟩ = some (.slice none 0 0) := GS.out.cell 2
    have e3 : Wf.cell? ⟨w.heap.size, 3, none⟩ = some (.int .i64 n) := GS.out.cell 3
    refine bodyPost_ret (v := .tuple #[.agg #[.int .i64 4, .slice S nS cS, .slice none 0 0, .int .i64 n], .bool false]) (by simp [results, Tryz.results91, go_sem, e0, e1, e2, e3]) rfl ?_
    refine ⟨4, S, nS, cS, none, 0, 0, n, by rw [HOE.out, HO'], GL.out.drew, fun a ha => ?_⟩
    obtain ⟨h0, h1, rfl⟩ := HV.out a (HOE.out.symm.trans ha)
    exact ⟨rfl, HN.out h1, (HIS'.out h0).keep (Below.refl _ _).drew, IsInts.empty _, fun A n c e => Nat.le_trans (Nat.le_of_lt HLW.out) (HFS.out A n c e), fun _ _ _ e => by cases e⟩
  · rw [Bool.true_and] at HO'
    by_cases hM : M = 0
    · subst hM
      rw [decide_eq_true rfl] at HO'
      go_region
      go_wp2
      revert GS GL HIS'
      generalize World.setCell _ _ _ = Wf
      intro GS GL HIS'
      have e0 : Wf.cell? ⟨w.heap.size, 0, none⟩ = some (.int .i64 4) := GS.out.cell 0
      have e1 : Wf.cell? ⟨w.heap.size, 1, none⟩ = some (.slice S nS cS) := GS.out.cell 1
      have e2 : Wf.cell? ⟨w.heap.size, 2, none⟩ = some (.slice none 0 0) := GS.out.cell 2
      have e3 : Wf.cell? ⟨w.heap.size, 3, none⟩ = some (.int .i64 n) := GS.out.cell 3
      refine bodyPost_ret (v := .tuple #[.agg #[.int .i64 4, .slice S nS cS, .slice none 0 0, .int .i64 n], .bool true]) (by simp [results, Tryz.results91, go_sem, e0, e1, e2, e3]) rfl ?_
      refine ⟨4, S, nS, cS, none, 0, 0, n, by rw [HOE.out, HO'], GL.out.drew, fun a ha => ?_⟩
      obtain ⟨h0, h1, rfl⟩ := HV.out a (HOE.out.symm.trans ha)
      exact ⟨rfl, HN.out h1, (HIS'.out h0).keep (Below.refl _ _).drew, IsInts.empty _, fun A n c e => Nat.le_trans (Nat.le_of_lt HLW.out) (HFS.out A n c e), fun _ _ _ e => by cases e⟩
    · have hM' : decide (M = 0) = false := decide_eq_false hM
      rw [hM'] at HO'
      have hM1 : ((M : Int) == 0) = false := beq_eq_false_iff_ne.2 (by omega)
      go_region
      go_wp2
      revert GS GL HIS'
      generalize World.setCell _ _ _ = Wf
      intro GS GL HIS'
      have e0 : Wf.cell? ⟨w.heap.size, 0, none⟩ = some (.int .i64 4) := GS.out.cell 0
      have e1 : Wf.cell? ⟨w.heap.size, 1, none⟩ = some (.slice S nS cS) := GS.out.cell 1
      have e2 : Wf.cell? ⟨w.heap.size, 2, none⟩ = some (.slice none 0 0) := GS.out.cell 2
      have e3 : Wf.cell? ⟨w.heap.size, 3, none⟩ = some (.int .i64 n) := GS.out.cell 3
      refine bodyPost_ret (v := .tuple #[.agg #[.int .i64 4, .slice S nS cS, .slice none 0 0, .int .i64 n], .bool false]) (by simp [results, Tryz.results91, go_sem, e0, e1, e2, e3]) rfl ?_
      refine ⟨4, S, nS, cS, none, 0, 0, n, by rw [HOE.out, HO'], GL.out.drew, fun a ha => ?_⟩
      obtain ⟨h0, h1, rfl⟩ := HV.out a (HOE.out.symm.trans ha)
      exact ⟨rfl, HN.out h1, (HIS'.out h0).keep (Below.refl _ _).drew, IsInts.empty _, fun A n c e => Nat.le_trans (Nat.le_of_lt HLW.out) (HFS.out A n c e), fun _ _ _ e => by cases e⟩
set_option maxHeartbeats 4000000 in
set_option maxRecDepth 100000 in
theorem read_5 (s : ByteArray) (w : World) (hs : s.size < 4294967281) (hk : KindsOk w) (ht : TabOk w) (he : ErrsOk w) (hm : MaxOk w) (hw0 : wordAt (wordsOf s) 0 = Venn.wordB 5) :
    Calls Tryz.prog 91 #[.string s] w (ReadsTo (readSTN 5 (wordsOf s)) w) := by
  have hX : (wordsOf s).getD 0 ⟨#[]⟩ = ⟨#[110, 111, 109, 111, 114, 101]⟩ := bytes_word hw0
  have HKI := Lib.hid hk
  have HTB := Lib.hid ht
  have HER := Lib.hid he
  have HMX := Lib.hid hm
  have hal0 : Below w.heap.size w (w.alloc (.cells #[.int .i64 0, .slice none 0 0, .slice none 0 0, .int .i64 0] 32)) := by (repeat' (first | (with_reducible exact Below.refl _ _) | (with_reducible assumption) | (with_reducible refine Below.next ?_ (by with_reducible assumption)) | (with_reducible refine Below.drew ?_) | (with_reducible refine Below.laid ?_ _) | (with_reducible refine Below.setCell ?_ ?_ _) | (with_reducible refine size_of ?_) | (with_reducible refine Nat.le_succ_of_le ?_) | go_size))
  have BR0 := Lib.hid (Blk.new w 32 #[.int .i64 0, .slice none 0 0, .slice none 0 0, .int .i64 0])
  have hz : (w.alloc (.cells #[.int .i64 0, .slice none 0 0, .slice none 0 0, .int .i64 0] 32)).heap.size = w.heap.size + 1 := by simp
  have HS := Lib.hid hs
  have HSPL := Lib.hid (fun W (hW : MaxOk W) => strings_Split s ⟨#[32]⟩ W hW hs (by decide))
  have HLEN := Lib.hid (words_len s)
  have HALL := Lib.hid (words_size hs)
  clear hk ht he hm hs
  go_enter Tryz.func91, Tryz.ntmps91
  go_upto_region 1 with (fail)
  revert hal0 BR0 hz
  generalize w.alloc (.cells #[.int .i64 0, .slice none 0 0, .slice none 0 0, .int .i64 0] 32) = w0
  intro hal0 BR0 hz
  have HZ := Lib.hid hz
  have HB0 := Lib.hid hal0
  clear hal0 hz
  go_wp2_with fail
  refine (HSPL.out w0 (HMX.out.keep HB0.out)).mono ?_
  rintro e w1 ⟨rfl, hw1⟩
  have HW1 := Lib.hid (show w1 = w0.alloc (.cells ((wordsOf s).map Value.string).toArray 9) from hw1)
  clear hw1
  have HB01 := Lib.hid (show Below w0.heap.size w0 w1 by rw [HW1.out]; exact (Below.refl _ _).alloc (Nat.le_refl _) _)
  have HWA := Lib.hid (show WordsAt w1 w0.heap.size (wordsOf s) by rw [HW1.out]; exact words_at)
  have HRD0 := Lib.hid (show RdW w1 (w1.alloc (.cells #[.slice (some ⟨w0.heap.size, 0, none⟩) (Lib.countB s ⟨#[32]⟩ + 1) (Lib.countB s ⟨#[32]⟩ + 1), .bool true] 178)) w0.heap.size (wordsOf s) 0 true from ⟨(Below.refl _ _).alloc (Nat.le_refl _) _, some ⟨w0.heap.size, 0, none⟩, Lib.countB s ⟨#[32]⟩ + 1, by rw [Nat.sub_zero, HLEN.out]; exact Blk.new _ _ _, fun _ => rfl, by rw [HLEN.out]; omega, by rw [← HLEN.out]; exact words_maxlen HS.out⟩)
  have HN := Lib.hid (reader_next w1 _ _ (wordsOf s) 0 true HWA.out HRD0.out)
  have hlen0 : decide (0 < (wordsOf s).length) = true := by rw [HLEN.out]; simp
  rw [hlen0, Bool.and_true, hX] at HN
  go_wp2_with fail
  refine (HN.out).mono ?_
  rintro e w2 ⟨rfl, hR2, _⟩
  have HR2 := Lib.hid hR2
  have HB2 := Lib.hid (Below.next (Below.next HB0.out HB01.out) hR2.1)
  have hsz2 : w1.heap.size < w2.heap.size := by obtain ⟨_, P, c, hB, _⟩ := hR2; exact hB.lt
  have HSZ := Lib.hid hsz2
  clear hR2 hsz2 HN HRD0 HSPL hlen0
  have kld := Lib.hid (kinds_range (HKI.out.keep HB2.out))
  have q1 : ((⟨#[115, 117, 98]⟩ : ByteArray) != ⟨#[110, 111, 109, 111, 114, 101]⟩) = true := by decide
  have q2 : ((⟨#[115, 97, 109, 101]⟩ : ByteArray) != ⟨#[110, 111, 109, 111, 114, 101]⟩) = true := by decide
  have q3 : ((⟨#[108, 101, 97, 115, 116]⟩ : ByteArray) != ⟨#[110, 111, 109, 111, 114, 101]⟩) = true := by decide
  have q4 : ((⟨#[109, 111, 115, 116]⟩ : ByteArray) != ⟨#[110, 111, 109, 111, 114, 101]⟩) = true := by decide
  have q5 : ((⟨#[110, 111, 109, 111, 114, 101]⟩ : ByteArray) != ⟨#[110, 111, 109, 111, 114, 101]⟩) = false := by decide
  go_upto_region 3 with (fail)
  go_wp2_with (refine wpList_load_mid rfl 137 _ rfl 0 0 rfl kindCells _ kld.out Tryz.underlying137 rfl kinds_size ?_)
  clear kld
  refine wp_loop_rounds 6 ?_
  rw [rounds_succ]
  go_wp2_with fail
  rw [rounds_succ]
  go_wp2_with fail
  rw [rounds_succ]
  go_wp2_with fail
  rw [rounds_succ]
  go_wp2_with fail
  rw [rounds_succ]
  go_wp2_with fail
  rw [rounds_succ]
  go_wp2_with fail
  have HS1 := Lib.hid (fun x hx => Nat.lt_trans (HALL.out x hx) (by decide : 4294967281 < 1099511627776))
  have HS2 := Lib.hid (fun x hx => Nat.le_of_lt (Nat.lt_trans (HALL.out x hx) (by decide : 4294967281 < 281474976710656)))
  have HTB1 := Lib.hid (HTB.out.keep (Below.next HB0.out HB01.out))
  have HER1 := Lib.hid (HER.out.keep (Below.next HB0.out HB01.out))
  refine (reader_term w1 _ _ (wordsOf s) 1 true HWA.out (by repeat (first | exact HR2.out | apply RdW.alloc)) HS1.out).mono ?_
  rintro e w3 ⟨S, nS, cS, rfl, hR3, hS3, hFS, hg3⟩
  have BK := (Blk.newAt (g := w2.heap.size + 5) (by simp) 136 #[.string ⟨#[110, 111, 109, 111, 114, 101]⟩, .bool true, .bool true]).grown hg3 (by have := HSZ.out; simp; omega)
  have hb34 : Below w3.heap.size w3 (w3.alloc (.cells #[.int .i64 5, .slice S nS cS, .slice none 0 0, .int .i64 0] 32)) := (Below.refl _ _).alloc (Nat.le_refl _) _
  have HR4 := Lib.hid (hR3.alloc (.cells #[.int .i64 5, .slice S nS cS, .slice none 0 0, .int .i64 0] 32))
  have BA := Blk.new w3 32 #[.int .i64 5, .slice S nS cS, .slice none 0 0, .int .i64 0]
  have hsz3 : w2.heap.size + 6 ≤ w3.heap.size := by have := hg3.size; simpa using this
  obtain ⟨_, P3, c3, hB3, _⟩ := id hR3
  have HFS := Lib.hid (show FreshV w2 (.slice S nS cS) from fun A n c e => Nat.le_trans (by simp; omega) (hFS A n c e))
  clear hFS
  have HIS := Lib.hid (fun W (hW : w3.grownBy W (some w1.heap.size)) (h : isTerm (wordsOf s) 1 = true) => ints_gr (hS3 h) hB3 hW)
  have HIK := Lib.hid (fun W (hW : w3.grownBy W (some w1.heap.size)) => Blk.grown BK hW (by have := HSZ.out; simp; omega))
  clear hR3 hS3 hg3 BK hB3
  go_upto_region 8 with (fail)
  revert hb34 HR4 BA
  generalize (w3.alloc (.cells #[.int .i64 5, .slice S nS cS, .slice none 0 0, .int .i64 0] 32)) = w4
  intro hb34 HR4 BA
  have HSZ3 := Lib.hid hsz3
  have HLA := Lib.hid BA.lt
  have HA4 := Lib.hid BA
  have HG4 := Lib.hid (gr_below hb34 (some w1.heap.size))
  have BK := HIK.out w4 HG4.out
  have kt : w4.cell? ⟨w2.heap.size + 5, 1, none⟩ = some (.bool true) := BK.cell 1
  clear hsz3 hb34 BA BK
  go_wp2_with fail
  refine (reader_term w1 w4 _ (wordsOf s) 2 _ HWA.out HR4.out HS1.out).mono ?_
  rintro e w5 ⟨T, nT, cT, rfl, hR5, hT, hF, hg⟩
  have nR : w1.heap.size < w3.heap.size := by have := HSZ3.out; have := HSZ.out; omega
  have BA := HA4.out.grown hg (by simp; omega)
  have aT : w5.cell? ⟨w3.heap.size, 2, none⟩ = some (.slice none 0 0) := BA.cell 2
  have fT := BA.frozen 2
  have HG6 := Lib.hid (gr_set_new (gr_trans HG4.out hg) (Nat.le_refl _) 2 (.slice T nT cT))
  have HR6 := Lib.hid (hR5.far nR 2 (.slice T nT cT))
  have HA6 := Lib.hid (BA.set_ 2 (.slice T nT cT))
  have HT6 := Lib.hid (fun h => ints_fresh (hT h) hF HLA.out 2 (.slice T nT cT))
  have HF := Lib.hid hF
  have HLF := Lib.hid HLA.out
  clear hT hF
  clear hR5 hg BA nR
  have kn : (w5.setCell ⟨w3.heap.size, 2, none⟩ (.slice T nT cT)).cell? ⟨w2.heap.size + 5, 2, none⟩ = some (.bool true) := (HIK.out _ HG6.out).cell 2
  go_upto_region 10 with (fail)
  clear aT fT
  revert HG6 HR6 HA6 HT6 kn
  generalize World.setCell _ _ _ = w6
  intro HG6 HR6 HA6 HT6 kn
  go_wp2_with fail
  refine (reader_number w1 w6 _ (wordsOf s) 3 _ HWA.out HR6.out HS2.out HTB1.out HER1.out).mono ?_
  rintro e w7 ⟨n, rfl, hR7, hN, hg⟩
  have HN := Lib.hid hN
  clear hN
  have nR : w1.heap.size < w3.heap.size := by have := HSZ3.out; have := HSZ.out; omega
  have BA := HA6.out.grown hg (by simp; omega)
  have aT : w7.cell? ⟨w3.heap.size, 3, none⟩ = some (.int .i64 0) := BA.cell 3
  have fT := BA.frozen 3
  have HG8 := Lib.hid (gr_set_new (gr_trans HG6.out hg) (Nat.le_refl _) 3 (.int .i64 n))
  have HR8 := Lib.hid (hR7.far nR 3 (.int .i64 n))
  have HA8 := Lib.hid (BA.set_ 3 (.int .i64 n))
  obtain ⟨_, P6, c6, hB, _⟩ := id HR6.out
  have HT8 := Lib.hid (fun h => ints_fresh (ints_gr (HT6.out h) hB hg) HF.out HLA.out 3 (.int .i64 n))
  clear hR7 hg BA nR hB
  go_upto_region 12 with (fail)
  clear aT fT
  revert HG8 HR8 HA8 HT8
  generalize World.setCell _ _ _ = w8
  intro HG8 HR8 HA8 HT8
  obtain ⟨hbR, P, c, hB, _⟩ := HR8.out
  have HO := Lib.hid (readSTN_some 5 (wordsOf s))
  have HV := Lib.hid (fun a (h : readSTN 5 (wordsOf s) = some a) => readSTN_val h)
  generalize hOE : readSTN 5 (wordsOf s) = O at HO HV
  have HOE := Lib.hid hOE
  clear hOE
  have HO' := HO.out
  clear HO
  generalize (((true && isTerm (wordsOf s) 1) && isTerm (wordsOf s) 2) && isNum (wordsOf s) 3) = F at hB HO'
  generalize (wordsOf s).length - 4 = M at hB HO'
  have HBW := Lib.hid (Below.next (Below.next HB0.out HB01.out) hbR)
  have BRes := BR0.out.keep (Below.next HB01.out hbR)
  have r0 : w8.cell? ⟨w1.heap.size, 0, none⟩ = some (.slice P M c) := hB.cell 0
  have r1 : w8.cell? ⟨w1.heap.size, 1, none⟩ = some (.bool F) := hB.cell 1
  have a0 : w8.cell? ⟨w3.heap.size, 0, none⟩ = some (.int .i64 5) := HA8.out.cell 0
  have a1 : w8.cell? ⟨w3.heap.size, 1, none⟩ = some (.slice S nS cS) := HA8.out.cell 1
  have a2 : w8.cell? ⟨w3.heap.size, 2, none⟩ = some (.slice T nT cT) := HA8.out.cell 2
  have a3 : w8.cell? ⟨w3.heap.size, 3, none⟩ = some (.int .i64 n) := HA8.out.cell 3
  have z0 : w8.cell? ⟨w.heap.size, 0, none⟩ = some (.int .i64 0) := BRes.cell 0
  have y0 := BRes.frozen 0
  have z1 : w8.cell? ⟨w.heap.size, 1, none⟩ = some (.slice none 0 0) := BRes.cell 1
  have y1 := BRes.frozen 1
  have z2 : w8.cell? ⟨w.heap.size, 2, none⟩ = some (.slice none 0 0) := BRes.cell 2
  have y2 := BRes.frozen 2
  have z3 : w8.cell? ⟨w.heap.size, 3, none⟩ = some (.int .i64 0) := BRes.cell 3
  have y3 := BRes.frozen 3
  have GS := Lib.hid (BRes.set4 (.int .i64 5) (.slice S nS cS) (.slice T nT cT) (.int .i64 n))
  have GL := Lib.hid (below_set4 HBW.out (Nat.le_refl _) (.int .i64 5) (.slice S nS cS) (.slice T nT cT) (.int .i64 n))
  have HLW := Lib.hid (show w.heap.size < w2.heap.size by have := size_of HB2.out; have := HSZ.out; have := size_of HB01.out; have := HZ.out; omega)
  have nW1 : w.heap.size < w1.heap.size := by have := size_of HB01.out; have := HZ.out; omega
  have nW3 : w.heap.size < w3.heap.size := by have := HSZ3.out; have := HLW.out; omega
  have HIS' := Lib.hid (fun h => ints_fresh4 (HIS.out w8 HG8.out h) HFS.out HLW.out (.int .i64 5) (.slice S nS cS) (.slice T nT cT) (.int .i64 n))
  have HIT' := Lib.hid (fun h => ints_fresh4 (g := w.heap.size) (HT8.out h) HF.out (by have := HLW.out; have := HSZ3.out; have := HLA.out; omega) (.int .i64 5) (.slice S nS cS) (.slice T nT cT) (.int .i64 n))
  clear hB BRes hbR HA8 HR8 HG8 HIS HIK HT8 HBW BR0
  cases F
  · rw [Bool.false_and] at HO'
    go_region
    go_wp2
    revert GS GL HIS' HIT'
    generalize World.setCell _ _ _ = Wf
    intro GS GL HIS' HIT'
    have e0 : Wf.cell? ⟨w.heap.size, 0, none⟩ = some (.int .i64 5) := GS.out.cell 0
    have e1 : Wf.cell? ⟨w.heap.size, 1, none⟩ = some (.slice S nS cS) := GS.out.cell 1
    have e2 : Wf.cell? ⟨w.heap.size, 2, none⟩ = some (.slice T nT cT) := GS.out.cell 2
    have e3 : Wf.cell? ⟨w.heap.size, 3, none⟩ = some (.int .i64 n) := GS.out.cell 3
    refine bodyPost_ret (v := .tuple #[.agg #[.int .i64 5, .slice S nS cS, .slice T nT cT, .int .i64 n], .bool false]) (by simp [results, Tryz.results91, go_sem, e0, e1, e2, e3]) rfl ?_
    refine ⟨5, S, nS, cS, T, nT, cT, n, by rw [HOE.out, HO'], GL.out.drew, fun a ha => ?_⟩
    obtain ⟨h0, h1, h2, rfl⟩ := HV.out a (HOE.out.symm.trans ha)
    exact ⟨rfl, HN.out h2, (HIS'.out h0).keep (Below.refl _ _).drew, (HIT'.out h1).keep (Below.refl _ _).drew, fun A n c e => Nat.le_trans (Nat.le_of_lt HLW.out) (HFS.out A n c e), fun A n c e => Nat.le_trans (by have := HLW.out; have := HSZ3.out; have := HLA.out; omega) (HF.out A n c e)⟩
  · rw [Bool.true_and] at HO'
    by_cases hM : M = 0
    · subst hM
      rw [decide_eq_true rfl] at HO'
      go_region
      go_wp2
      revert GS GL HIS' HIT'
      generalize World.setCell _ _ _ = Wf
      intro GS GL HIS' HIT'
      have e0 : Wf.cell? ⟨w.heap.size, 0, none⟩ = some (.int .i64 5) := GS.out.cell 0
      have e1 : Wf.cell? ⟨w.heap.size, 1, none⟩ = some (.slice S nS cS) := GS.out.cell 1
      have e2 : Wf.cell? ⟨w.heap.size, 2, none⟩ = some (.slice T nT cT) := GS.out.cell 2
      have e3 : Wf.cell? ⟨w.heap.size, 3, none⟩ = some (.int .i64 n) := GS.out.cell 3
      refine bodyPost_ret (v := .tuple #[.agg #[.int .i64 5, .slice S nS cS, .slice T nT cT, .int .i64 n], .bool true]) (by simp [results, Tryz.results91, go_sem, e0, e1, e2, e3]) rfl ?_
      refine ⟨5, S, nS, cS, T, nT, cT, n, by rw [HOE.out, HO'], GL.out.drew, fun a ha => ?_⟩
      obtain ⟨h0, h1, h2, rfl⟩ := HV.out a (HOE.out.symm.trans ha)
      exact ⟨rfl, HN.out h2, (HIS'.out h0).keep (Below.refl _ _).drew, (HIT'.out h1).keep (Below.refl _ _).drew, fun A n c e => Nat.le_trans (Nat.le_of_lt HLW.out) (HFS.out A n c e), fun A n c e => Nat.le_trans (by have := HLW.out; have := HSZ3.out; have := HLA.out; omega) (HF.out A n c e)⟩
    · have hM' : decide (M = 0) = false := decide_eq_false hM
      rw [hM'] at HO'
      have hM1 : ((M : Int) == 0) = false := beq_eq_false_iff_ne.2 (by omega)
      go_region
      go_wp2
      revert GS GL HIS' HIT'
      generalize World.setCell _ _ _ = Wf
      intro GS GL HIS' HIT'
      have e0 : Wf.cell? ⟨w.heap.size, 0, none⟩ = some (.int .i64 5) := GS.out.cell 0
      have e1 : Wf.cell? ⟨w.heap.size, 1, none⟩ = some (.slice S nS cS) := GS.out.cell 1
      have e2 : Wf.cell? ⟨w.heap.size, 2, none⟩ = some (.slice T nT cT) := GS.out.cell 2
      have e3 : Wf.cell? ⟨w.heap.size, 3, none⟩ = some (.int .i64 n) := GS.out.cell 3
      refine bodyPost_ret (v := .tuple #[.agg #[.int .i64 5, .slice S nS cS, .slice T nT cT, .int .i64 n], .bool false]) (by simp [results, Tryz.results91, go_sem, e0, e1, e2, e3]) rfl ?_
      refine ⟨5, S, nS, cS, T, nT, cT, n, by rw [HOE.out, HO'], GL.out.drew, fun a ha => ?_⟩
      obtain ⟨h0, h1, h2, rfl⟩ := HV.out a (HOE.out.symm.trans ha)
      exact ⟨rfl, HN.out h2, (HIS'.out h0).keep (Below.refl _ _).drew, (HIT'.out h1).keep (Below.refl _ _).drew, fun A n c e => Nat.le_trans (Nat.le_of_lt HLW.out) (HFS.out A n c e), fun A n c e => Nat.le_trans (by have := HLW.out; have := HSZ3.out; have := HLA.out; omega) (HF.out A n c e)⟩
set_option maxHeartbeats 4000000 in
set_option maxRecDepth 100000 in
theorem read_0 (s : ByteArray) (w : World) (hs : s.size < 4294967281) (hk : KindsOk w) (ht : TabOk w) (he : ErrsOk w) (hm : MaxOk w) (hw0 : ∀ i, 1 ≤ i → i ≤ 5 → wordAt (wordsOf s) 0 ≠ Venn.wordB i) :
    Calls Tryz.prog 91 #[.string s] w (ReadsTo (none) w) := by
  have q1 : (([115, 117, 98] : List UInt8) == ((wordsOf s).getD 0 ⟨#[]⟩).toList) = false := word_ne (hw0 1 (by decide) (by decide))
  have q2 : (([115, 97, 109, 101] : List UInt8) == ((wordsOf s).getD 0 ⟨#[]⟩).toList) = false := word_ne (hw0 2 (by decide) (by decide))
  have q3 : (([108, 101, 97, 115, 116] : List UInt8) == ((wordsOf s).getD 0 ⟨#[]⟩).toList) = false := word_ne (hw0 3 (by decide) (by decide))
  have q4 : (([109, 111, 115, 116] : List UInt8) == ((wordsOf s).getD 0 ⟨#[]⟩).toList) = false := word_ne (hw0 4 (by decide) (by decide))
  have q5 : (([110, 111, 109, 111, 114, 101] : List UInt8) == ((wordsOf s).getD 0 ⟨#[]⟩).toList) = false := word_ne (hw0 5 (by decide) (by decide))
  have HKI := Lib.hid hk
  have HTB := Lib.hid ht
  have HER := Lib.hid he
  have HMX := Lib.hid hm
  have hal0 : Below w.heap.size w (w.alloc (.cells #[.int .i64 0, .slice none 0 0, .slice none 0 0, .int .i64 0] 32)) := by (repeat' (first | (with_reducible exact Below.refl _ _) | (with_reducible assumption) | (with_reducible refine Below.next ?_ (by with_reducible assumption)) | (with_reducible refine Below.drew ?_) | (with_reducible refine Below.laid ?_ _) | (with_reducible refine Below.setCell ?_ ?_ _) | (with_reducible refine size_of ?_) | (with_reducible refine Nat.le_succ_of_le ?_) | go_size))
  have BR0 := Lib.hid (Blk.new w 32 #[.int .i64 0, .slice none 0 0, .slice none 0 0, .int .i64 0])
  have hz : (w.alloc (.cells #[.int .i64 0, .slice none 0 0, .slice none 0 0, .int .i64 0] 32)).heap.size = w.heap.size + 1 := by simp
  have HS := Lib.hid hs
  have HSPL := Lib.hid (fun W (hW : MaxOk W) => strings_Split s ⟨#[32]⟩ W hW hs (by decide))
  have HLEN := Lib.hid (words_len s)
  have HALL := Lib.hid (words_size hs)
  clear hk ht he hm hs
  go_enter Tryz.func91, Tryz.ntmps91
  go_upto_region 1 with (fail)
  revert hal0 BR0 hz
  generalize w.alloc (.cells #[.int .i64 0, .slice none 0 0, .slice none 0 0, .int .i64 0] 32) = w0
  intro hal0 BR0 hz
  have HZ := Lib.hid hz
  have HB0 := Lib.hid hal0
  clear hal0 hz
  go_wp2_with fail
  refine (HSPL.out w0 (HMX.out.keep HB0.out)).mono ?_
  rintro e w1 ⟨rfl, hw1⟩
  have HW1 := Lib.hid (show w1 = w0.alloc (.cells ((wordsOf s).map Value.string).toArray 9) from hw1)
  clear hw1
  have HB01 := Lib.hid (show Below w0.heap.size w0 w1 by rw [HW1.out]; exact (Below.refl _ _).alloc (Nat.le_refl _) _)
  have HWA := Lib.hid (show WordsAt w1 w0.heap.size (wordsOf s) by rw [HW1.out]; exact words_at)
  have HRD0 := Lib.hid (show RdW w1 (w1.alloc (.cells #[.slice (some ⟨w0.heap.size, 0, none⟩) (Lib.countB s ⟨#[32]⟩ + 1) (Lib.countB s ⟨#[32]⟩ + 1), .bool true] 178)) w0.heap.size (wordsOf s) 0 true from ⟨(Below.refl _ _).alloc (Nat.le_refl _) _, some ⟨w0.heap.size, 0, none⟩, Lib.countB s ⟨#[32]⟩ + 1, by rw [Nat.sub_zero, HLEN.out]; exact Blk.new _ _ _, fun _ => rfl, by rw [HLEN.out]; omega, by rw [← HLEN.out]; exact words_maxlen HS.out⟩)
  have HN := Lib.hid (reader_next w1 _ _ (wordsOf s) 0 true HWA.out HRD0.out)
  have hlen0 : decide (0 < (wordsOf s).length) = true := by rw [HLEN.out]; simp
  rw [hlen0, Bool.and_true] at HN
  go_wp2_with fail
  refine (HN.out).mono ?_
  rintro e w2 ⟨rfl, hR2, _⟩
  have HR2 := Lib.hid hR2
  have HB2 := Lib.hid (Below.next (Below.next HB0.out HB01.out) hR2.1)
  have hsz2 : w1.heap.size < w2.heap.size := by obtain ⟨_, P, c, hB, _⟩ := hR2; exact hB.lt
  have HSZ := Lib.hid hsz2
  clear hR2 hsz2 HN HRD0 HSPL hlen0
  have kld := Lib.hid (kinds_range (HKI.out.keep HB2.out))
  generalize (wordsOf s).getD 0 ⟨#[]⟩ = X at q1 q2 q3 q4 q5 ⊢
  go_upto_region 3 with (fail)
  go_wp2_with (refine wpList_load_mid rfl 137 _ rfl 0 0 rfl kindCells _ kld.out Tryz.underlying137 rfl kinds_size ?_)
  clear kld
  refine wp_loop_rounds 7 ?_
  have HX := Lib.hid (Below.next HB01.out HR2.out.1)
  rw [rounds_succ]
  go_wp2_with fail
  rw [rounds_succ]
  go_wp2_with fail
  rw [rounds_succ]
  go_wp2_with fail
  rw [rounds_succ]
  go_wp2_with fail
  rw [rounds_succ]
  go_wp2_with fail
  rw [rounds_succ]
  go_wp2_with fail
  rw [rounds_succ]
  go_upto_region 14 with (fail)
  generalize hW : World.alloc _ _ = w3
  have hb3 : Below w2.heap.size w2 w3 := by rw [← hW]; repeat (first | exact Below.refl _ _ | apply Go.Proofs.YtcloppcekbdbaaaGreatDoor.Below.laid)
  clear hW
  have hbR := Below.next HX.out hb3
  have BRes := BR0.out.keep hbR
  have HBW := Lib.hid (Below.next HB0.out hbR)
  have z0 : w3.cell? ⟨w.heap.size, 0, none⟩ = some (.int .i64 0) := BRes.cell 0
  have y0 := BRes.frozen 0
  have z1 : w3.cell? ⟨w.heap.size, 1, none⟩ = some (.slice none 0 0) := BRes.cell 1
  have y1 := BRes.frozen 1
  have z2 : w3.cell? ⟨w.heap.size, 2, none⟩ = some (.slice none 0 0) := BRes.cell 2
  have y2 := BRes.frozen 2
  have z3 : w3.cell? ⟨w.heap.size, 3, none⟩ = some (.int .i64 0) := BRes.cell 3
  have y3 := BRes.frozen 3
  have GS := Lib.hid (BRes.set4 (.int .i64 0) (.slice none 0 0) (.slice none 0 0) (.int .i64 0))
  have GL := Lib.hid (below_set4 HBW.out (Nat.le_refl _) (.int .i64 0) (.slice none 0 0) (.slice none 0 0) (.int .i64 0))
  clear BRes hbR hb3 HBW HX HR2 HB2 BR0
  go_wp2
  revert GS GL
  generalize World.setCell _ _ _ = Wf
  intro GS GL
  have e0 : Wf.cell? ⟨w.heap.size, 0, none⟩ = some (.int .i64 0) := GS.out.cell 0
  have e1 : Wf.cell? ⟨w.heap.size, 1, none⟩ = some (.slice none 0 0) := GS.out.cell 1
  have e2 : Wf.cell? ⟨w.heap.size, 2, none⟩ = some (.slice none 0 0) := GS.out.cell 2
  have e3 : Wf.cell? ⟨w.heap.size, 3, none⟩ = some (.int .i64 0) := GS.out.cell 3
  refine bodyPost_ret (v := .tuple #[.agg #[.int .i64 0, .slice none 0 0, .slice none 0 0, .int .i64 0], .bool false]) (by simp [results, Tryz.results91, go_sem, e0, e1, e2, e3]) rfl ?_
  exact ⟨0, none, 0, 0, none, 0, 0, 0, rfl, GL.out, fun a ha => by cases ha⟩
theorem atom_Read (s : ByteArray) (w : World) (hs : s.size < 4294967281) (hk : KindsOk w) (ht : TabOk w) (he : ErrsOk w) (hm : MaxOk w) : Calls Tryz.prog 91 #[.string s] w (ReadsTo (readA (wordsOf s)) w) := by
  by_cases h1 : wordAt (wordsOf s) 0 = Venn.wordB 1
  · rw [readA, if_pos h1]; exact read_1 s w hs hk ht he hm h1
  by_cases h2 : wordAt (wordsOf s) 0 = Venn.wordB 2
  · rw [readA, if_neg h1, if_pos h2]; exact read_2 s w hs hk ht he hm h2
  by_cases h3 : wordAt (wordsOf s) 0 = Venn.wordB 3
  · rw [readA, if_neg h1, if_neg h2, if_pos h3]; exact read_3 s w hs hk ht he hm h3
  by_cases h4 : wordAt (wordsOf s) 0 = Venn.wordB 4
  · rw [readA, if_neg h1, if_neg h2, if_neg h3, if_pos h4]; exact read_4 s w hs hk ht he hm h4
  by_cases h5 : wordAt (wordsOf s) 0 = Venn.wordB 5
  · rw [readA, if_neg h1, if_neg h2, if_neg h3, if_neg h4, if_pos h5]; exact read_5 s w hs hk ht he hm h5
  rw [readA, if_neg h1, if_neg h2, if_neg h3, if_neg h4, if_neg h5]
  refine read_0 s w hs hk ht he hm fun i h h' => ?_
  rcases (by omega : i = 1 ∨ i = 2 ∨ i = 3 ∨ i = 4 ∨ i = 5) with rfl | rfl | rfl | rfl | rfl <;> assumption
end Go.Proofs.YtcloppcekbdbaaaGreatDoor
