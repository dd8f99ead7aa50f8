/-
  text.words, OF THE ROW's LIST; THE WALK of text.word.
-/
import Derived.Test.YtcloppcekbdbaaaGreatDoorLawF
import Derived.Test.YtcloppcekbdbaaaGreatDoorStrs
namespace Go.Proofs.YtcloppcekbdbaaaGreatDoor
open Go.RowKit Go.ChangeShapes

def wordCells : List Value := [.int .i64 10, str [97, 110, 100], .int .i64 11, str [111, 114], .int .i64 12, str [110, 111], .int .i64 13, str [116, 104, 101, 110]]
/-- text.words holds its four rows. -/
def WordsOk (w : World) : Prop := ∀ (i : Nat) (v : Value), wordCells[i]? = some v → w.cell? ⟨1, i, none⟩ = some v
theorem WordsOk.keep {w w' : World} (h : WordsOk w) (hb : Below w.heap.size w w') : WordsOk w' := fun i v hv => cell_keep hb (h i v hv)
theorem globWords : Tryz.prog.globalNamed "vennhouse/text.words" = some 1 := by kernel_rfl
theorem wordsT : (Tryz.prog.globals[1]?).map (·.type) = some 170 := by kernel_rfl
theorem cellsWord : Tryz.prog.cellsOf 169 = 2 := by kernel_rfl
theorem cellsWords : Tryz.prog.cellsOf 170 = 8 := by kernel_rfl
theorem len2w {α : Type} {l : List α} (h : l.length = 2) : ∃ a b, l = [a, b] := by
  match l, h with
  | [a, b], _ => exact ⟨a, b, rfl⟩
theorem word_row {w : World} {fuel : Nat} {cs : List Value} {x : DataW Unit × List MemPlace} (h : DataW.trod (fun _ => ()) Tryz.prog w 0 (fun _ => true) false fuel 169 cs = some x) :
    ∃ (n : Int) (s : ByteArray), cs = [.int .i64 n, .string s] ∧ x.1 = .agg [.lit (.int .i64 n), .lit (.string s.data.toList)] := by
  obtain ⟨y0, y1, m, rfl, hl, h0, h1⟩ := trod_struct2 Tryz.underlying169 h
  obtain ⟨n, e0, rfl, _⟩ := DataW.trod_int Tryz.underlying3 h0
  obtain ⟨s, e1, rfl, _⟩ := DataW.trod_string Tryz.underlying9 h1
  rw [cellsWord] at hl
  obtain ⟨c0, c1, rfl⟩ := len2w hl
  rw [cellsInt] at e0
  rw [cellsStr] at e1
  simp at e0 e1
  subst e0 e1
  exact ⟨n, s, rfl, rfl⟩
theorem words_of_laid {l : List (String × DataW Unit)} {W : World} (h : laidMetH Tryz.prog l W) (hm : ("vennhouse/text.words", (Rows.laid_vennhouse_text_words : DataW Unit)) ∈ l) : WordsOk W := by
  obtain ⟨ps, hlv, _, _⟩ := (laidMetH_iff.1 h).1
  obtain ⟨g, t, cs, fuel, p, e1, e2, e3, e4⟩ := laidVars_mem hlv (List.mem_filter.2 ⟨hm, by kernel_rfl⟩)
  obtain rfl := Option.some.inj (globWords.symm.trans e1)
  obtain rfl := Option.some.inj (wordsT.symm.trans e2)
  obtain ⟨xs, m, _, hx, hcl, hxl, hf⟩ := DataW.trod_array Tryz.underlying170 e4
  rw [cellsWords] at hcl
  have hxs : xs.map (·.1) = [.agg [.lit (.int .i64 10), .lit (.string [97, 110, 100])], .agg [.lit (.int .i64 11), .lit (.string [111, 114])], .agg [.lit (.int .i64 12), .lit (.string [110, 111])], .agg [.lit (.int .i64 13), .lit (.string [116, 104, 101, 110])]] := by
    have := congrArg Prod.fst hx
    unfold Rows.laid_vennhouse_text_words at this
    injection this with this
    exact this.symm
  have row : ∀ (i : Nat) (n : Int) (bs : List UInt8), (xs.map (·.1))[i]? = some (.agg [.lit (.int .i64 n), .lit (.string bs)]) → (cs.toList.drop (i * 2)).take 2 = [.int .i64 n, str bs] := by
    intro i n bs hi
    rw [List.getElem?_map] at hi
    obtain ⟨y, hy, hy1⟩ := Option.map_eq_some_iff.1 hi
    have hlt : i < 4 := by rw [← hxl]; exact (List.getElem?_eq_some_iff.1 hy).1
    have := hf i hlt
    rw [hy, cellsWord] at this
    obtain ⟨n', s, ec, ed⟩ := word_row this
    rw [hy1] at ed
    simp at ed
    obtain ⟨e1, e2⟩ := ed
    rw [ec, ← e1, str, e2]
  have rows : cs.toList = wordCells := by
    have r0 := row 0 _ _ (by rw [hxs]; rfl)
    have r1 := row 1 _ _ (by rw [hxs]; rfl)
    have r2 := row 2 _ _ (by rw [hxs]; rfl)
    have r3 := row 3 _ _ (by rw [hxs]; rfl)
    generalize cs.toList = L at hcl r0 r1 r2 r3
    match L, hcl with
    | [x0, x1, x2, x3, x4, x5, x6, x7], _ =>
      simp at r0 r1 r2 r3
      simp [wordCells, r0, r1, r2, r3]
  intro i v hv
  rw [← rows] at hv
  rw [World.var?_cell globWords e3 i]
  simpa using hv
theorem idxW0 (W : World) : (Instr.index 170 (.agg #[.int .i64 10, .string ⟨#[97, 110, 100]⟩, .int .i64 11, .string ⟨#[111, 114]⟩, .int .i64 12, .string ⟨#[110, 111]⟩, .int .i64 13, .string ⟨#[116, 104, 101, 110]⟩]) (.int .i64 0)).run Tryz.prog W = .ok (.agg #[.int .i64 10, .string ⟨#[97, 110, 100]⟩]) W := by kernel_rfl
theorem idxW1 (W : World) : (Instr.index 170 (.agg #[.int .i64 10, .string ⟨#[97, 110, 100]⟩, .int .i64 11, .string ⟨#[111, 114]⟩, .int .i64 12, .string ⟨#[110, 111]⟩, .int .i64 13, .string ⟨#[116, 104, 101, 110]⟩]) (.int .i64 1)).run Tryz.prog W = .ok (.agg #[.int .i64 11, .string ⟨#[111, 114]⟩]) W := by kernel_rfl
theorem idxW2 (W : World) : (Instr.index 170 (.agg #[.int .i64 10, .string ⟨#[97, 110, 100]⟩, .int .i64 11, .string ⟨#[111, 114]⟩, .int .i64 12, .string ⟨#[110, 111]⟩, .int .i64 13, .string ⟨#[116, 104, 101, 110]⟩]) (.int .i64 2)).run Tryz.prog W = .ok (.agg #[.int .i64 12, .string ⟨#[110, 111]⟩]) W := by kernel_rfl
theorem idxW3 (W : World) : (Instr.index 170 (.agg #[.int .i64 10, .string ⟨#[97, 110, 100]⟩, .int .i64 11, .string ⟨#[111, 114]⟩, .int .i64 12, .string ⟨#[110, 111]⟩, .int .i64 13, .string ⟨#[116, 104, 101, 110]⟩]) (.int .i64 3)).run Tryz.prog W = .ok (.agg #[.int .i64 13, .string ⟨#[116, 104, 101, 110]⟩]) W := by kernel_rfl
attribute [local go_sem] idxW0 idxW1 idxW2 idxW3
/-- A sign's word. -/
def wordS (s : Int) : List UInt8 := if s = 10 then [97, 110, 100] else if s = 11 then [111, 114] else if s = 12 then [110, 111] else if s = 13 then [116, 104, 101, 110] else Lib.itoa s
set_option maxHeartbeats 4000000 in
set_option maxRecDepth 100000 in
theorem text_word (s : Int) (w : World) (hw : WordsOk w) (ht : TabOk w) (h : 0 ≤ s ∧ s ≤ 13) : Calls Tryz.prog 75 #[.int .i64 s] w (Keeps (.string ⟨(wordS s).toArray⟩) w) := by
  have k0 : w.cell? ⟨1, 0, none⟩ = some (.int .i64 10) := hw 0 _ rfl
  have k1 : w.cell? ⟨1, 1, none⟩ = some (str [97, 110, 100]) := hw 1 _ rfl
  have k2 : w.cell? ⟨1, 2, none⟩ = some (.int .i64 11) := hw 2 _ rfl
  have k3 : w.cell? ⟨1, 3, none⟩ = some (str [111, 114]) := hw 3 _ rfl
  have k4 : w.cell? ⟨1, 4, none⟩ = some (.int .i64 12) := hw 4 _ rfl
  have k5 : w.cell? ⟨1, 5, none⟩ = some (str [110, 111]) := hw 5 _ rfl
  have k6 : w.cell? ⟨1, 6, none⟩ = some (.int .i64 13) := hw 6 _ rfl
  have k7 : w.cell? ⟨1, 7, none⟩ = some (str [116, 104, 101, 110]) := hw 7 _ rfl
  unfold str at k1 k3 k5 k7
  have HIT := Lib.hid (fun W (hW : Below w.heap.size w W) => strconv_Itoa s (by omega) (by omega) W (ht.keep hW))
  clear ht hw
  by_cases h10 : s < 10
  · have hn0 : (10 == s) = false := beq_eq_false_iff_ne.2 (by omega)
    have hn1 : (11 == s) = false := beq_eq_false_iff_ne.2 (by omega)
    have hn2 : (12 == s) = false := beq_eq_false_iff_ne.2 (by omega)
    have hn3 : (13 == s) = false := beq_eq_false_iff_ne.2 (by omega)
    have HV := Lib.hid (show wordS s = Lib.itoa s by unfold wordS; rw [if_neg (by omega), if_neg (by omega), if_neg (by omega), if_neg (by omega)])
    rw [HV.out]
    clear h h10
    go_enter Tryz.func75, Tryz.ntmps75
    go_wp2
    refine wp_loop_rounds 5 ?_
    rw [rounds_succ]
    go_wp2_with fail
    rw [rounds_succ]
    go_wp2_with fail
    rw [rounds_succ]
    go_wp2_with fail
    rw [rounds_succ]
    go_wp2_with fail
    rw [rounds_succ]
    go_wp2_with fail
    refine (HIT.out _ (by (repeat' (first | (with_reducible exact Below.refl _ _) | (with_reducible assumption) | (with_reducible refine Below.next ?_ (by with_reducible assumption)) | (with_reducible refine Below.drew ?_) | (with_reducible refine Below.laid ?_ _) | (with_reducible refine Below.setCell ?_ ?_ _) | (with_reducible refine size_of ?_) | (with_reducible refine Nat.le_succ_of_le ?_) | go_size)))).mono ?_
    rintro e w1 ⟨rfl, hb1⟩
    go_wp2
    go_ret
    exact ⟨rfl, Below.next (by (repeat' (first | (with_reducible exact Below.refl _ _) | (with_reducible assumption) | (with_reducible refine Below.next ?_ (by with_reducible assumption)) | (with_reducible refine Below.drew ?_) | (with_reducible refine Below.laid ?_ _) | (with_reducible refine Below.setCell ?_ ?_ _) | (with_reducible refine size_of ?_) | (with_reducible refine Nat.le_succ_of_le ?_) | go_size))) hb1⟩
  · rcases (by omega : s = 10 ∨ s = 11 ∨ s = 12 ∨ s = 13) with rfl | rfl | rfl | rfl
    · clear HIT
      go_enter Tryz.func75, Tryz.ntmps75
      go_wp2
      refine wp_loop_rounds 1 ?_
      rw [rounds_succ]
      go_wp2
      go_ret
      exact ⟨rfl, by (repeat' (first | (with_reducible exact Below.refl _ _) | (with_reducible assumption) | (with_reducible refine Below.next ?_ (by with_reducible assumption)) | (with_reducible refine Below.drew ?_) | (with_reducible refine Below.laid ?_ _) | (with_reducible refine Below.setCell ?_ ?_ _) | (with_reducible refine size_of ?_) | (with_reducible refine Nat.le_succ_of_le ?_) | go_size))⟩
    · clear HIT
      go_enter Tryz.func75, Tryz.ntmps75
      go_wp2
      refine wp_loop_rounds 2 ?_
      rw [rounds_succ]
      go_wp2_with fail
      rw [rounds_succ]
      go_wp2
      go_ret
      exact ⟨rfl, by (repeat' (first | (with_reducible exact Below.refl _ _) | (with_reducible assumption) | (with_reducible refine Below.next ?_ (by with_reducible assumption)) | (with_reducible refine Below.drew ?_) | (with_reducible refine Below.laid ?_ _) | (with_reducible refine Below.setCell ?_ ?_ _) | (with_reducible refine size_of ?_) | (with_reducible refine Nat.le_succ_of_le ?_) | go_size))⟩
    · clear HIT
      go_enter Tryz.func75, Tryz.ntmps75
      go_wp2
      refine wp_loop_rounds 3 ?_
      rw [rounds_succ]
      go_wp2_with fail
      rw [rounds_succ]
      go_wp2_with fail
      rw [rounds_succ]
      go_wp2
      go_ret
      exact ⟨rfl, by (repeat' (first | (with_reducible exact Below.refl _ _) | (with_reducible assumption) | (with_reducible refine Below.next ?_ (by with_reducible assumption)) | (with_reducible refine Below.drew ?_) | (with_reducible refine Below.laid ?_ _) | (with_reducible refine Below.setCell ?_ ?_ _) | (with_reducible refine size_of ?_) | (with_reducible refine Nat.le_succ_of_le ?_) | go_size))⟩
    · clear HIT
      go_enter Tryz.func75, Tryz.ntmps75
      go_wp2
      refine wp_loop_rounds 4 ?_
      rw [rounds_succ]
      go_wp2_with fail
      rw [rounds_succ]
      go_wp2_with fail
      rw [rounds_succ]
      go_wp2_with fail
      rw [rounds_succ]
      go_wp2
      go_ret
      exact ⟨rfl, by (repeat' (first | (with_reducible exact Below.refl _ _) | (with_reducible assumption) | (with_reducible refine Below.next ?_ (by with_reducible assumption)) | (with_reducible refine Below.drew ?_) | (with_reducible refine Below.laid ?_ _) | (with_reducible refine Below.setCell ?_ ?_ _) | (with_reducible refine size_of ?_) | (with_reducible refine Nat.le_succ_of_le ?_) | go_size))⟩
end Go.Proofs.YtcloppcekbdbaaaGreatDoor
