/-
  THE WALK of term.Set: the stack of sets.
-/
import Derived.Test.YtpcdiilgomfpbaaDoorTerm
import Derived.Test.YtpcdiilgomfpbaaDoorVennL
import Derived.Deep.RegionLaw
import Derived.Deep.AppendLies
import Derived.StillTailTactics
import Derived.WalkSmall
namespace Go.Proofs.YtpcdiilgomfpbaaDoor
open Go.RowKit

theorem Pure.still {P : Program} {f : FuncId} {args : Array Value} {w : World} {v : Value} (h : Calls P f args w (Pure v w)) : Calls P f args w fun e w'' => e = .returned v ∧ w'' = w :=
  h.mono fun _ _ ⟨he, hw⟩ => ⟨he, hw.symm⟩

/-- The row of sets, as it lies: the top last. -/
def stackOf (st : List Int) : List Value := st.reverse.map (Value.int .i64)
theorem stackOf_cons (x : Int) (st : List Int) : stackOf (x :: st) = stackOf st ++ [.int .i64 x] := by simp [stackOf]
theorem stackOf_length (st : List Int) : (stackOf st).length = st.length := by simp [stackOf]

/-- Between two rounds: the row holds the stack; nothing that lay before the call has turned. -/
structure SetInv (w wr : World) (W : Venn.World) (t : List Int) (v : Value) (k : Nat) (st : List Int) : Prop where
  len : st.length ≤ k
  own : wr.ownsRow (w.heap.size + 1) 3 1 v st.length (stackOf st)
  below : Below w.heap.size w wr
  size : w.heap.size < wr.heap.size
  blk : Blk wr w.heap.size 41 #[.int .i64 W.things, .int .i64 W.a, .int .i64 W.b, .int .i64 W.c]
  right : Venn.Right W.things st
  shape : Venn.shapeGo st.length (t.drop k) = 0
  fold : (t.drop k).foldl (Venn.setStep W) st = t.foldl (Venn.setStep W) []

theorem SetInv.step {w wr w1 : World} {W : Venn.World} {t : List Int} {v v' : Value} {k : Nat} {st st' : List Int} {x : Int} (h : SetInv w wr W t v k st) (hW : Venn.worldChk W = 0) (hx : 0 ≤ x ∧ x ≤ 8)
    (hD : t.drop k = x :: t.drop (k + 1)) (hst : st' = Venn.setStep W st x) (hown : w1.ownsRow (w.heap.size + 1) 3 1 v' st'.length (stackOf st')) (hb : Below w.heap.size w w1) (hz : w.heap.size < w1.heap.size)
    (hk : Blk w1 w.heap.size 41 #[.int .i64 W.things, .int .i64 W.a, .int .i64 W.b, .int .i64 W.c]) : SetInv w w1 W t v' (k + 1) st' := by
  have hs := h.shape
  rw [hD] at hs
  obtain ⟨h1, h2⟩ := Venn.shape_step hs
  have hl := Venn.setStep_length (w := W) hx h1
  have h0 := takes_012 x
  have hlen := h.len
  refine ⟨by rw [hst]; omega, hown, hb, hz, hk, by rw [hst]; exact Venn.setStep_right hW h.right x, by rw [hst, hl]; exact h2, ?_⟩
  rw [← h.fold, hD, hst]
  rfl

/-- A block of the call's own is laid, and the row grows. -/
theorem SetInv.push {w wr w1 : World} {W : Venn.World} {t : List Int} {v v' : Value} {k : Nat} {st st' : List Int} {x : Int} {o : Obj} (h : SetInv w wr W t v k st) (hW : Venn.worldChk W = 0) (hx : 0 ≤ x ∧ x ≤ 8)
    (hD : t.drop k = x :: t.drop (k + 1)) (hst : st' = Venn.setStep W st x) (hown : w1.ownsRow (w.heap.size + 1) 3 1 v' st'.length (stackOf st')) (hg : (wr.alloc o).grownBy w1 v.ownBlock) : SetInv w w1 W t v' (k + 1) st' := by
  have hlt := h.own.lt
  have hsz := h.size
  have hgs := hg.size
  have hb : Below w.heap.size w (wr.alloc o) := h.below.alloc (Nat.le_of_lt hsz) o
  refine h.step hW hx hD hst hown (hb.grown hg (by simp; omega) fun g hg' => by have := (hlt g hg').1; omega) (by simp at hgs; omega) ?_
  refine (h.blk.alloc o).grown hg ?_
  intro e
  have := (hlt _ e.symm).1
  omega

set_option maxHeartbeats 4000000 in
set_option maxRecDepth 100000 in
theorem term_Set (v : Value) (t : List Int) (th a b c : Int) (w : World) (h : IsInts w v t) (ht : Venn.termChk t = 0) (hw : Venn.worldChk ⟨th, a, b, c⟩ = 0) :
    Calls Tryd.prog 72 #[v, .agg #[.int .i64 th, .int .i64 a, .int .i64 b, .int .i64 c]] w (Keeps (.int .i64 (Venn.termSet t ⟨th, a, b, c⟩)) w) := by
  obtain ⟨A, cp, rfl, hr, hlc, hc⟩ := h
  have h12 : t.length ≤ 12 := by
    unfold Venn.termChk at ht
    split at ht
    · simp at ht
    · split at ht
      · simp at ht
      · omega
  have hsh : Venn.shapeGo 0 t = 0 := by
    unfold Venn.termChk at ht
    split at ht
    · simp at ht
    · split at ht
      · simp at ht
      · split at ht
        · simp at ht
        · exact ht
  have hbad : t.any Venn.badSign = false := by
    unfold Venn.termChk at ht
    split at ht
    · simp at ht
    · split at ht
      · simp at ht
      · split at ht
        · simp at ht
        · rename_i h; simpa using h
  have hB : ∀ x ∈ t, 0 ≤ x ∧ x ≤ 8 := by
    intro x hx
    have := List.any_eq_false.1 hbad x hx
    simp [Venn.badSign] at this
    omega
  have HT := Lib.hid hB
  have HW := Lib.hid hw
  have HS := Lib.hid hsh
  have hth := Lib.hid (Venn.worldChk_iff.1 hw).1
  clear hB hw hsh hbad ht
  go_enter Tryd.func72, Tryd.ntmps72
  go_wp2
  go_loopw [5, 11] (fun v i wr => ∃ (k : Nat) (st : List Int), k ≤ t.length ∧ i = .int .i64 k ∧ SetInv w wr ⟨th, a, b, c⟩ t v k st)
    (fun _ i _ => t.length - (intOf i).toNat)
  case atStart =>
    exact ⟨0, [], Nat.zero_le _, rfl, by simp, World.ownsRow_nil _ _ _ _, by go_grown, by simp, Blk.new _ _ _, fun x hx => by simp at hx, by simpa using HS.out, by simp⟩
  case round =>
    obtain ⟨k, st, hk, rfl, hinv⟩ := hrel
    have hlen := hinv.len
    have hown := hinv.own
    have hsz := hinv.size
    obtain ⟨A5, cp5, rfl⟩ := ownsRow_slice hown
    have HI := Lib.hid hinv
    by_cases hlt : k < t.length
    · obtain ⟨ad, rfl, hcell0⟩ := hr.int hlt
      have hcell := cell_keep hinv.below hcell0
      have hx08 := HT.out _ (List.getElem_mem hlt)
      have HD := Lib.hid (List.drop_eq_getElem_cons hlt)
      generalize t[k] = x at hcell hcell0 HD hx08
      have hc0 := hinv.blk.cell 0
      have hc1 := hinv.blk.cell 1
      have hc2 := hinv.blk.cell 2
      have hc3 := hinv.blk.cell 3
      simp at hc0 hc1 hc2 hc3
      have HX := Lib.hid hx08
      clear hcell0 hr hinv
      by_cases h3 : x < 3
      · obtain rfl | rfl | rfl : x = 0 ∨ x = 1 ∨ x = 2 := by omega
        · go_wp2_with (at_builtin; refine wpList_app1 _ rfl _ _ rfl (w.heap.size + 1) _ _ _ rfl (hown.alloc _) wr.heap.size 1 (a) rfl ?hy1 (by omega) (by simp; omega) ?_)
          try case hy1 => simp
          intro v' w1 hown' hg'
          go_wp2
          go_roundw
          case rel => exact ⟨k + 1, a :: st, by omega, by go_num, HI.out.push HW.out HX.out HD.out rfl (by rw [stackOf_cons]; exact hown') hg'⟩
          case measure => simp [intOf]; omega
        · go_wp2_with (at_builtin; refine wpList_app1 _ rfl _ _ rfl (w.heap.size + 1) _ _ _ rfl (hown.alloc _) wr.heap.size 1 (b) rfl ?hy2 (by omega) (by simp; omega) ?_)
          try case hy2 => simp
          intro v' w1 hown' hg'
          go_wp2
          go_roundw
          case rel => exact ⟨k + 1, b :: st, by omega, by go_num, HI.out.push HW.out HX.out HD.out rfl (by rw [stackOf_cons]; exact hown') hg'⟩
          case measure => simp [intOf]; omega
        · go_wp2_with (at_builtin; refine wpList_app1 _ rfl _ _ rfl (w.heap.size + 1) _ _ _ rfl (hown.alloc _) wr.heap.size 1 (c) rfl ?hy3 (by omega) (by simp; omega) ?_)
          try case hy3 => simp
          intro v' w1 hown' hg'
          go_wp2
          go_roundw
          case rel => exact ⟨k + 1, c :: st, by omega, by go_num, HI.out.push HW.out HX.out HD.out rfl (by rw [stackOf_cons]; exact hown') hg'⟩
          case measure => simp [intOf]; omega
      have hx3 : 3 ≤ x := by omega
      by_cases h3' : x = 3
      · subst h3'
        · go_wp2_with (at_builtin; refine wpList_app1 _ rfl _ _ rfl (w.heap.size + 1) _ _ _ rfl (hown.alloc _) wr.heap.size 1 (0) rfl ?hy4 (by omega) (by simp; omega) ?_)
          try case hy4 => simp
          intro v' w1 hown' hg'
          go_wp2
          go_roundw
          case rel => exact ⟨k + 1, 0 :: st, by omega, by go_num, HI.out.push HW.out HX.out HD.out rfl (by rw [stackOf_cons]; exact hown') hg'⟩
          case measure => simp [intOf]; omega
      have e3 : (x == 3) = false := beq_eq_false_iff_ne.2 h3'
      by_cases h4 : x = 4
      · subst h4
        · go_wp2_with (first | (go_at_call 108; refine (sets_All _ _ hth.out).mono ?_; rintro e w' ⟨rfl, rfl⟩) | (at_builtin; refine wpList_app1 _ rfl _ _ rfl (w.heap.size + 1) _ _ _ rfl (hown.alloc _) wr.heap.size 1 (Venn.allS th) rfl ?hy5 (by omega) (by simp; omega) ?_))
          try case hy5 => simp
          intro v' w1 hown' hg'
          go_wp2
          go_roundw
          case rel => exact ⟨k + 1, Venn.allS th :: st, by omega, by go_num, HI.out.push HW.out HX.out HD.out rfl (by rw [stackOf_cons]; exact hown') hg'⟩
          case measure => simp [intOf]; omega
      have e4 : (x == 4) = false := beq_eq_false_iff_ne.2 h4
      have hshape := HI.out.shape
      rw [HD.out] at hshape
      have hpop := (Venn.shape_step hshape).1
      by_cases h8 : x = 8
      · subst h8
        have hl1 : 1 ≤ st.length := by simp [Venn.takes] at hpop; omega
        clear hshape hpop
        obtain ⟨y, r, rfl⟩ : ∃ y r, st = y :: r := by
          match st, hl1 with
          | y :: r, _ => exact ⟨y, r, rfl⟩
        obtain ⟨g, cap, hv, hg1, hg2⟩ := hown.form (by simp)
        simp only [Value.slice.injEq] at hv
        obtain ⟨rfl, _, rfl⟩ := hv
        have hy : wr.cell? ⟨g, r.length, none⟩ = some (.int .i64 y) := by
          rw [hown.cellAt r.length (by simp)]
          simp [stackOf]
        have hfz := hown.frozenAt r.length
        have hry := setChk_63 (HI.out.right y (by simp))
        simp only [List.length_cons] at hown hlen hl1 ⊢
        go_wp2_with fail
        have hwrap : IntKind.i64.wrap (r.length : Int) = (r.length : Int) := IntWalk.i64_in _ (by simp at hl1; omega)
        have hlt1 : (r.length : Int) < (r.length : Int) + 1 := by omega
        go_still_tail 13, (by kernel_rfl)
        still_call (Pure.still (sets_Of _ _ _ _ _ hth.out hry (by omega)))
        repeat still_step
        try refine wpStill_nil ?_
        go_wp2
        go_roundw
        case rel =>
          have hst := hown.stored r.length (.int .i64 (Venn.setOf 8 th y 0))
          have hself : (stackOf (y :: r)).set r.length (.int .i64 (Venn.setOf 8 th y 0)) = stackOf (Venn.setOf 8 th y 0 :: r) := by
            rw [stackOf_cons, stackOf_cons, List.set_append_right _ _ (by simp [stackOf])]
            simp [stackOf]
          rw [hself] at hst
          refine ⟨k + 1, Venn.setOf 8 th y 0 :: r, by omega, by go_num, HI.out.step HW.out HX.out HD.out rfl hst.1.drew ?_ ?_ ?_⟩
          · exact (HI.out.below.setCell (p := ⟨g, r.length, none⟩) (by simp; omega) _).drew
          · simpa [World.setCell] using hsz
          · exact ((HI.out.blk.far (p := ⟨g, r.length, none⟩) (by simp; omega) _)).drew
        case measure => simp [intOf]; omega
      · have e8 : (x == 8) = false := beq_eq_false_iff_ne.2 h8
        have hx5 : 5 ≤ x := by omega
        have hl1 : 2 ≤ st.length := by simp [Venn.takes, h8, hx5] at hpop; omega
        clear hshape hpop
        obtain ⟨y, z, r, rfl⟩ : ∃ y z r, st = y :: z :: r := by
          match st, hl1 with
          | y :: z :: r, _ => exact ⟨y, z, r, rfl⟩
        obtain ⟨g, cap, hv, hg1, hg2⟩ := hown.form (by simp)
        simp only [Value.slice.injEq] at hv
        obtain ⟨rfl, _, rfl⟩ := hv
        have hy : wr.cell? ⟨g, r.length + 1, none⟩ = some (.int .i64 y) := by
          rw [hown.cellAt (r.length + 1) (by simp)]
          simp [stackOf]
        have hz : wr.cell? ⟨g, r.length, none⟩ = some (.int .i64 z) := by
          rw [hown.cellAt r.length (by simp; omega)]
          simp [stackOf]
        have hry := setChk_63 (HI.out.right y (by simp))
        have hrz := setChk_63 (HI.out.right z (by simp))
        have hown2 : wr.ownsRow (w.heap.size + 1) 3 1 (.slice (some ⟨g, 0, none⟩) r.length cp5) r.length (stackOf r) := by
          have h1 : wr.ownsRow (w.heap.size + 1) 3 1 (.slice (some ⟨g, 0, none⟩) (r.length + 1) cp5) (r.length + 1) (stackOf (z :: r)) := ownsRow_pop (last := [.int .i64 y]) (by simp [stackOf]) (by rw [← stackOf_cons]; simpa using hown)
          exact ownsRow_pop (last := [.int .i64 z]) (by simp [stackOf]) (by rw [← stackOf_cons]; exact h1)
        simp only [List.length_cons] at hown hlen hl1 ⊢
        obtain ⟨i0, hi0, hz0, hz1, hz2⟩ := info_parts int_info
        have hw1 : IntKind.i64.wrap (r.length : Int) = (r.length : Int) := IntWalk.i64_in _ (by omega)
        have hw3 : IntKind.i64.wrap ((r.length : Int) + 1 + 1 - 2) = (r.length : Int) := by
          rw [show (r.length : Int) + 1 + 1 - 2 = r.length by omega]; exact hw1
        have hcap : (r.length : Int) ≤ (cp5 : Int) := by
          have := hown.2
          rcases this with ⟨h1, _⟩ | ⟨_, cap', _, h1, _, _, h2, _⟩
          · cases h1
          · simp only [Value.slice.injEq] at h1; omega
        have hb0 : (0 : Int) ≤ (r.length : Int) := by omega
        have hb4 : (r.length : Int) < (r.length : Int) + 1 + 1 := by omega
        have hw2 : IntKind.i64.wrap ((r.length : Int) + 1) = (r.length : Int) + 1 := IntWalk.i64_in _ (by omega)
        have hb1 : (r.length : Int) < (r.length : Int) + 1 + 1 := by omega
        have hb2 : (r.length : Int) + 1 < (r.length : Int) + 1 + 1 := by omega
        have hb3 : (0 : Int) ≤ (r.length : Int) + 1 := by omega
        go_wp2_with fail
        go_region_law (first
            | (refine step_append_lies _ (by rfl) _ _ _ (by rfl) (w.heap.size + 1) 3 i0 _ 1 8 Tryd.underlying38 hi0 hz0 hz1 hz2 rfl (by omega) (.slice (some ⟨g, 0, none⟩) r.length cp5) r.length (stackOf r) (by rfl) ((hown2.alloc _).drew)
                ⟨wr.heap.size, 0, none⟩ 1 1 [.int .i64 (Venn.setOf x th z y)] (by rfl) (by rfl) (World.news_of_block (cs := #[.int .i64 (Venn.setOf x th z y)]) (t := 3) (fr := (0, 0)) (heap_alloc_new wr _)) (by simp [Value.oneCell'])
                (by omega) (by unfold maxLen; omega) (by omega) (by simp; omega) (wr.heap.size + 1) (by simp) ?_; intro gg cap w1 hown1 hgrow hat hlt2)
            | (go_simp; go_at_call 109; refine (sets_Of _ _ _ _ _ hth.out hrz hry).mono ?_; rintro e w' ⟨rfl, rfl⟩))
        all_goals
          go_wp2
          go_roundw
          case rel =>
            have hst : Venn.setStep ⟨th, a, b, c⟩ (y :: z :: r) x = Venn.setOf x th z y :: r := by
              simp [Venn.setStep, show ¬ x < 3 by omega, h3', h4, h8]
            refine ⟨k + 1, Venn.setOf x th z y :: r, by omega, by go_num, HI.out.push HW.out HX.out HD.out hst.symm (by rw [stackOf_cons]; exact hown1) (o := .cells #[.int .i64 (Venn.setOf x th z y)] 3) ?_⟩
            exact ⟨hgrow.os, hgrow.tape, hgrow.output, hgrow.size, hgrow.block⟩
          case measure => simp [intOf]; omega
    · have hk' : k = t.length := by omega
      have hd : t.drop k = [] := List.drop_eq_nil_of_le (by omega)
      have hs1 := hinv.shape
      have hf1 := hinv.fold
      have hb1 := hinv.below
      rw [hd] at hs1 hf1
      have hl1 : st.length = 1 := by
        simp only [Venn.shapeGo] at hs1
        split at hs1
        · omega
        · simp at hs1
      obtain ⟨y, rfl⟩ : ∃ y, st = [y] := by
        match st, hl1 with
        | [y], _ => exact ⟨y, rfl⟩
      obtain ⟨g, cap, hv, hg1, hg2⟩ := hown.form (by simp)
      simp only [Value.slice.injEq] at hv
      obtain ⟨rfl, _, rfl⟩ := hv
      have hy : wr.cell? ⟨g, 0, none⟩ = some (.int .i64 y) := by
        rw [hown.cellAt 0 (by simp)]
        simp [stackOf]
      have hres := Lib.hid (show Venn.termSet t ⟨th, a, b, c⟩ = y by simp only [List.foldl_nil] at hf1; rw [Venn.termSet, ← hf1]; rfl)
      clear hs1 hf1 hd hinv HI hk' hl1
      go_wp2
      go_ret
      exact ⟨ret_int hres.out.symm, hb1⟩

end Go.Proofs.YtpcdiilgomfpbaaDoor
