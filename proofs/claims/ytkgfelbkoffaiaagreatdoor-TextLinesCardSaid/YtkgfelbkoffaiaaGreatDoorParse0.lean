/-
  THE WALK of text.Parse at the line "code 0": there is no atom.
-/
import Derived.Test.YtkgfelbkoffaiaaGreatDoorWords
import Derived.Test.YtkgfelbkoffaiaaGreatDoorSplit
import Derived.Test.YtkgfelbkoffaiaaGreatDoorFormG
namespace Go.Proofs.YtkgfelbkoffaiaaGreatDoor
open Go.RowKit Go.ChangeShapes
attribute [local go_sem] idxW0 idxW1 idxW2 idxW3

set_option maxHeartbeats 2000000 in
set_option maxRecDepth 100000 in
theorem text_sign0 (w : World) (hw : WordsOk w) : Calls Tryz.prog 99 #[.string ⟨#[48]⟩] w (Keeps (.tuple #[.int .i64 0, .bool true]) w) := by
  have k0 : w.cell? ⟨1, 0, none⟩ = some (.int .i64 10) := hw 0 _ rfl
  have k1 : w.cell? ⟨1, 1, none⟩ = some (str [97, 110, 100]) := hw 1 _ rfl
  have k2 : w.cell? ⟨1, 2, none⟩ = some (.int .i64 11) := hw 2 _ rfl
  have k3 : w.cell? ⟨1, 3, none⟩ = some (str [111, 114]) := hw 3 _ rfl
  have k4 : w.cell? ⟨1, 4, none⟩ = some (.int .i64 12) := hw 4 _ rfl
  have k5 : w.cell? ⟨1, 5, none⟩ = some (str [110, 111]) := hw 5 _ rfl
  have k6 : w.cell? ⟨1, 6, none⟩ = some (.int .i64 13) := hw 6 _ rfl
  have k7 : w.cell? ⟨1, 7, none⟩ = some (str [116, 104, 101, 110]) := hw 7 _ rfl
  unfold str at k1 k3 k5 k7
  have q0 : ((⟨#[97, 110, 100]⟩ : ByteArray) == ⟨#[48]⟩) = false := by decide
  have q1 : ((⟨#[111, 114]⟩ : ByteArray) == ⟨#[48]⟩) = false := by decide
  have q2 : ((⟨#[110, 111]⟩ : ByteArray) == ⟨#[48]⟩) = false := by decide
  have q3 : ((⟨#[116, 104, 101, 110]⟩ : ByteArray) == ⟨#[48]⟩) = false := by decide
  clear hw
  go_enter Tryz.func99, Tryz.ntmps99
  go_wp2
  refine wp_loop_rounds 5 ?_
  rw [rounds_succ]
  go_wp2_with fail
  rw [rounds_succ]
  go_wp2_with fail
  rw [rounds_succ]
  go_wp2_with fail
  rw [rounds_succ]
  go_wp2_with fail
  rw [rounds_succ]
  go_wp2
  go_ret2
  exact ⟨rfl, by (repeat' (first | (with_reducible exact Below.refl _ _) | (with_reducible assumption) | (with_reducible refine Below.next ?_ (by with_reducible assumption)) | (with_reducible refine Below.drew ?_) | (with_reducible refine Below.laid ?_ _) | (with_reducible refine Below.setCell ?_ ?_ _) | (with_reducible refine size_of ?_) | (with_reducible refine Nat.le_succ_of_le ?_) | go_size))⟩
set_option maxHeartbeats 2000000 in
set_option maxRecDepth 100000 in
theorem text_code0 (w : World) (hw : WordsOk w) (hm : MaxOk w) : Calls Tryz.prog 68 #[.string ⟨#[99, 111, 100, 101, 32, 48]⟩] w (fun e w' => ∃ A c, e = .returned (.tuple #[.slice A 1 c, .bool true]) ∧ Below w.heap.size w w' ∧ IsInts w' (.slice A 1 c) [0]) := by
  have HSP := Lib.hid (strings_Split ⟨#[99, 111, 100, 101, 32, 48]⟩ ⟨#[32]⟩ w hm (by decide) (by decide))
  rw [split_word.1, split_word.2] at HSP
  have HWO := Lib.hid hw
  have q0 : ((⟨#[99, 111, 100, 101]⟩ : ByteArray) != ⟨#[99, 111, 100, 101]⟩) = false := by decide
  have B1 := Lib.hid (Blk.new w 9 #[.string ⟨#[99, 111, 100, 101]⟩, .string ⟨#[48]⟩])
  have hal : Below w.heap.size w (w.alloc (.cells #[.string ⟨#[99, 111, 100, 101]⟩, .string ⟨#[48]⟩] 9)) := by (repeat' (first | (with_reducible exact Below.refl _ _) | (with_reducible assumption) | (with_reducible refine Below.next ?_ (by with_reducible assumption)) | (with_reducible refine Below.drew ?_) | (with_reducible refine Below.laid ?_ _) | (with_reducible refine Below.setCell ?_ ?_ _) | (with_reducible refine size_of ?_) | (with_reducible refine Nat.le_succ_of_le ?_) | go_size))
  clear hw hm
  go_enter Tryz.func68, Tryz.ntmps68
  go_wp2_with fail
  refine (HSP.out).mono ?_
  rintro e w1 ⟨rfl, hw1⟩
  have hw1' : w1 = w.alloc (.cells #[.string ⟨#[99, 111, 100, 101]⟩, .string ⟨#[48]⟩] 9) := hw1
  clear hw1
  rw [← hw1'] at B1 hal
  obtain ⟨⟨c0, c1⟩, _⟩ := B1.out.cells2
  clear hw1'
  go_wp2
  refine wp_loop_rounds 2 ?_
  rw [rounds_succ]
  go_wp2_with fail
  refine (text_sign0 w1 (HWO.out.keep hal)).mono ?_
  rintro e w2 ⟨rfl, hb2⟩
  have hq2 := Below.next hal hb2
  go_wp2_with (at_builtin; refine wpList_app1 _ rfl _ _ rfl w2.heap.size (.slice none 0 0) 0 _ rfl (World.ownsRow_nil _ _ _ _) w2.heap.size 1 0 (by simp [go_sem]) (by simp) (by omega) (by simp) ?_)
  intro v' w3 hown hgr
  have hbel := ((Below.laid hq2 (.cells #[.int .i64 0] 3)).grown hgr (by have := hq2.size; simp; omega) (fun g hg => by simp [Value.ownBlock] at hg))
  have HI := Lib.hid (IsInts.of_own (l := [0]) hown)
  obtain ⟨V, K, rfl⟩ := ownsRow_slice hown
  clear hown hgr
  go_wp2_with fail
  rw [rounds_succ]
  go_wp2
  go_ret2
  exact ⟨V, K, rfl, hbel, HI.out⟩
theorem form_none (c : List Int) : Venn.formChk ⟨[], c⟩ = 5 := by unfold Venn.formChk; rw [if_pos (.inl rfl)]
set_option maxHeartbeats 4000000 in
set_option maxRecDepth 100000 in
theorem text_Parse0 (w : World) (hw : WordsOk w) (hm : MaxOk w) (hk : KindsOk w) : Calls Tryz.prog 29 #[.string ⟨#[99, 111, 100, 101, 32, 48, 10]⟩] w (Keeps (.tuple #[.agg #[.slice none 0 0, .slice none 0 0], .iface 80 (.int .i64 5)]) w) := by
  have hal0 : Below w.heap.size w (w.alloc (.cells #[.slice none 0 0, .slice none 0 0] 25)) := by (repeat' (first | (with_reducible exact Below.refl _ _) | (with_reducible assumption) | (with_reducible refine Below.next ?_ (by with_reducible assumption)) | (with_reducible refine Below.drew ?_) | (with_reducible refine Below.laid ?_ _) | (with_reducible refine Below.setCell ?_ ?_ _) | (with_reducible refine size_of ?_) | (with_reducible refine Nat.le_succ_of_le ?_) | go_size))
  have HSP := Lib.hid (strings_Split ⟨#[99, 111, 100, 101, 32, 48, 10]⟩ ⟨#[10]⟩ (w.alloc (.cells #[.slice none 0 0, .slice none 0 0] 25)) (hm.keep hal0) (by decide) (by decide))
  rw [split_line.1, split_line.2] at HSP
  have HWO := Lib.hid hw
  have HMX := Lib.hid hm
  have HK := Lib.hid hk
  have BR0 := Lib.hid (Blk.new w 25 #[.slice none 0 0, .slice none 0 0])
  have hz : w.heap.size + 1 = (w.alloc (.cells #[.slice none 0 0, .slice none 0 0] 25)).heap.size := by simp
  have q0 : ((⟨#[]⟩ : ByteArray) != ⟨#[]⟩) = false := by decide
  clear hw hm hk
  go_enter Tryz.func29, Tryz.ntmps29
  go_upto_region 1 with (fail)
  revert hal0 HSP BR0 hz
  generalize w.alloc (.cells #[.slice none 0 0, .slice none 0 0] 25) = w0
  intro hal0 HSP BR0 hz
  have B1 := Lib.hid (Blk.new w0 9 #[.string ⟨#[99, 111, 100, 101, 32, 48]⟩, .string ⟨#[]⟩])
  have hal : Below w0.heap.size w0 (w0.alloc (.cells #[.string ⟨#[99, 111, 100, 101, 32, 48]⟩, .string ⟨#[]⟩] 9)) := by have w := w0; (repeat' (first | (with_reducible exact Below.refl _ _) | (with_reducible assumption) | (with_reducible refine Below.next ?_ (by with_reducible assumption)) | (with_reducible refine Below.drew ?_) | (with_reducible refine Below.laid ?_ _) | (with_reducible refine Below.setCell ?_ ?_ _) | (with_reducible refine size_of ?_) | (with_reducible refine Nat.le_succ_of_le ?_) | go_size))
  go_wp2_with fail
  refine (HSP.out).mono ?_
  rintro e w1 ⟨rfl, hw1⟩
  have hw1' : w1 = w0.alloc (.cells #[.string ⟨#[99, 111, 100, 101, 32, 48]⟩, .string ⟨#[]⟩] 9) := hw1
  clear hw1
  rw [← hw1'] at B1 hal
  obtain ⟨⟨c0, c1⟩, _⟩ := B1.out.cells2
  have hq1 := Below.next hal0 hal
  clear hw1' HSP
  go_wp2_with fail
  refine (text_code0 w1 (HWO.out.keep hq1) (HMX.out.keep hq1)).mono ?_
  rintro e w2 ⟨A, c, rfl, hb2, hI2⟩
  have hq2 := Below.next hq1 hb2
  have HC2 := Lib.hid hI2
  have BR2 := Lib.hid ((BR0.out.keep hal).keep hb2)
  clear c0 c1 hI2
  have hal2 : Below w2.heap.size w2 (w2.alloc (.cells #[.slice none 0 0, .slice A 1 c] 25)) := by have w := w2; (repeat' (first | (with_reducible exact Below.refl _ _) | (with_reducible assumption) | (with_reducible refine Below.next ?_ (by with_reducible assumption)) | (with_reducible refine Below.drew ?_) | (with_reducible refine Below.laid ?_ _) | (with_reducible refine Below.setCell ?_ ?_ _) | (with_reducible refine size_of ?_) | (with_reducible refine Nat.le_succ_of_le ?_) | go_size))
  have hq3 := Below.next hq2 hal2
  have BF := Lib.hid (Blk.new w2 25 #[.slice none 0 0, .slice A 1 c])
  have HFC := Lib.hid (form_Check (.slice none 0 0) (.slice A 1 c) [] [0] _ (IsAtoms.nil _) (HC2.out.keep hal2) (HK.out.keep hq3))
  rw [form_none, errV_ne (show (5 : Int) ≠ 0 by decide)] at HFC
  have BR3 := Lib.hid (BR2.out.keep hal2)
  obtain ⟨⟨f0, f1⟩, _⟩ := BF.out.cells2
  go_wp2
  refine wp_loop_rounds 1 ?_
  rw [rounds_succ]
  go_wp2_with fail
  refine (HFC.out).mono ?_
  rintro e w4 ⟨rfl, hb4⟩
  have BR4 := BR3.out.keep hb4
  have hq4 := Below.next hq3 hb4
  obtain ⟨⟨r0, r1⟩, s0, s1⟩ := BR4.cells2
  have GL := below_set2 hq4 (Nat.le_refl _) (.slice none 0 0) (.slice none 0 0)
  have GS := BR4.set2 (.slice none 0 0) (.slice none 0 0)
  clear f0 f1
  go_wp2
  clear r0 r1 s0 s1
  revert GL GS
  generalize World.setCell _ _ _ = Wf
  intro GL GS
  obtain ⟨⟨e0, e1⟩, _⟩ := GS.cells2
  refine bodyPost_ret (v := .tuple #[.agg #[.slice none 0 0, .slice none 0 0], .iface 80 (.int .i64 5)]) (by simp [results, Tryz.results29, go_sem, e0, e1]) rfl ⟨rfl, GL⟩
end Go.Proofs.YtkgfelbkoffaiaaGreatDoor
