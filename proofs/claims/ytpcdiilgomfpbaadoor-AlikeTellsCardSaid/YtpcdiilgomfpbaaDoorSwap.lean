/-
  THE WALKS of slices.Clone (integers) and alike.Swap.
-/
import Derived.Test.YtpcdiilgomfpbaaDoorApp
import Derived.Test.YtpcdiilgomfpbaaDoorTerm
import Derived.Test.YtpcdiilgomfpbaaDoorAlike
import Derived.Test.YtpcdiilgomfpbaaDoorSome
import Derived.Lib.SliceRun
import Derived.Test.YtpcdiilgomfpbaaDoorVennSome
import Derived.WalkSmall
namespace Venn
def swapL (t : List Int) (x y : Int) : List Int := t.map fun s => if s = x then y else if s = y then x else s
def swapChk (t : List Int) (x y : Int) : Int := if termChk t = 0 then (if nameOk x = true ∧ nameOk y = true then 0 else 1) else termChk t
end Venn
namespace Go.Proofs.YtpcdiilgomfpbaaDoor
open Go.RowKit

/-- A copy of the call's own. -/
def ClonePost (l : List Int) (w : World) (e : Ending) (w' : World) : Prop := ∃ v', e = .returned v' ∧ Below w.heap.size w w' ∧ w'.ownsRow w.heap.size 3 1 v' l.length (l.map (Value.int .i64))
set_option maxHeartbeats 1000000 in
set_option maxRecDepth 100000 in
theorem clone_ints (v : Value) (l : List Int) (w : World) (h : IsInts w v l) (hl : l.length < 1000000000000) : Calls Tryd.prog 86 #[v] w (ClonePost l w) := by
  obtain ⟨A, c, rfl, hr, hlc, hc⟩ := h
  rcases A with _ | ad
  · have hnil : l = [] := by
      rcases l with _ | ⟨y, l⟩
      · rfl
      · obtain ⟨_, h, _⟩ := hr 0 (.int .i64 y) (by simp)
        cases h
    subst hnil
    have q38 : ∀ (w : World) (a : Option Addr) (n c n' c' : Nat), (binOp .eql 38 (.slice a n c) (.slice none n' c')).run Tryd.prog w = .ok (.bool a.isNone) w := fun w a n c n' c' => Lib.run_eql_slice_nil w _ _ a n c n' c' Tryd.underlying38
    go_enter Tryd.func86, Tryd.ntmps86
    go_wp2
    go_ret
    exact ⟨_, rfl, by (repeat' (first | (with_reducible exact Below.refl _ _) | (with_reducible refine Below.next ?_ (by with_reducible assumption)) | (with_reducible refine Below.drew ?_) | (with_reducible refine Below.laid ?_ _) | (with_reducible refine Below.setCell ?_ ?_ _) | (with_reducible refine size_of ?_) | (with_reducible refine Nat.le_succ_of_le ?_) | go_size)), World.ownsRow_nil _ _ _ _⟩
  · have hown : (w.alloc (.cells #[] 3)).ownsRow w.heap.size 3 1 (.slice (some ⟨w.heap.size, 0, none⟩) 0 0) 0 [] :=
      ⟨rfl, .inr ⟨w.heap.size, 0, #[], rfl, Nat.le_refl _, Blk.new w 3 #[], Nat.le_refl _, by simp [maxLen], rfl, rfl⟩⟩
    have hr2 : Rd (w.alloc (.cells #[] 3)) (some ad) (l.map (Value.int .i64)) := hr.keep (by (repeat' (first | (with_reducible exact Below.refl _ _) | (with_reducible refine Below.next ?_ (by with_reducible assumption)) | (with_reducible refine Below.drew ?_) | (with_reducible refine Below.laid ?_ _) | (with_reducible refine Below.setCell ?_ ?_ _) | (with_reducible refine size_of ?_) | (with_reducible refine Nat.le_succ_of_le ?_) | go_size)))
    have q38 : ∀ (w : World) (a : Option Addr) (n c n' c' : Nat), (binOp .eql 38 (.slice a n c) (.slice none n' c')).run Tryd.prog w = .ok (.bool a.isNone) w := fun w a n c n' c' => Lib.run_eql_slice_nil w _ _ a n c n' c' Tryd.underlying38
    go_enter Tryd.func86, Tryd.ntmps86
    go_wp2_with (at_builtin; refine wpList_appR _ rfl _ _ rfl w.heap.size _ _ _ rfl hown (some ad) c l rfl hr2 (by omega) (by simp) ?_)
    intro v' w1 hown' hg'
    go_wp2
    go_ret
    refine ⟨v', rfl, ?_, by simpa using hown'⟩
    exact ((Below.refl _ w).alloc (Nat.le_refl _) (.cells #[] 3)).grown hg' (by simp) (fun g hg => by simp [Value.ownBlock] at hg; omega)

def SwapPost (t : List Int) (x y : Int) (w : World) (e : Ending) (w' : World) : Prop :=
  ∃ v', e = .returned (.tuple #[v', errV (Venn.swapChk t x y)]) ∧ Below w.heap.size w w' ∧ IsInts w' v' (if Venn.swapChk t x y = 0 then Venn.swapL t x y else [])
theorem swap_step (t : List Int) (x y : Int) (k : Nat) (h : k < t.length) : Venn.swapL (t.take (k + 1)) x y = Venn.swapL (t.take k) x y ++ [if t[k] = x then y else if t[k] = y then x else t[k]] := by
  unfold Venn.swapL
  rw [List.take_succ_eq_append_getElem h, List.map_append]
  rfl
set_option maxHeartbeats 2000000 in
set_option maxRecDepth 100000 in
theorem alike_Swap (v : Value) (t : List Int) (x y : Int) (w : World) (h : IsInts w v t) : Calls Tryd.prog 43 #[v, .int .i64 x, .int .i64 y] w (SwapPost t x y w) := by
  obtain ⟨A, c, rfl, hr, hlc, hc⟩ := h
  have HI := Lib.hid (show IsInts w (.slice A t.length c) t from ⟨A, c, rfl, hr, hlc, hc⟩)
  have HR := Lib.hid hr
  clear hr
  by_cases h1 : ¬ Venn.termChk t = 0
  · have HX := Lib.hid (errV_ne h1)
    have HC := Lib.hid (show Venn.swapChk t x y = Venn.termChk t from if_neg h1)
    have HZ := Lib.hid h1
    clear h1
    go_enter Tryd.func43, Tryd.ntmps43
    go_wp2_with (go_at_call 45; refine (term_Check _ t _ HI.out).mono ?_; rintro e w' ⟨rfl, rfl⟩; rw [HX.out])
    go_ret2
    exact ⟨_, by rw [HC.out, HX.out]; rfl, by (repeat' (first | (with_reducible exact Below.refl _ _) | (with_reducible refine Below.next ?_ (by with_reducible assumption)) | (with_reducible refine Below.drew ?_) | (with_reducible refine Below.laid ?_ _) | (with_reducible refine Below.setCell ?_ ?_ _) | (with_reducible refine size_of ?_) | (with_reducible refine Nat.le_succ_of_le ?_) | go_size)), by rw [HC.out, if_neg HZ.out]; exact ⟨none, 0, rfl, Rd.nil _ _, Nat.le_refl _, by simp⟩⟩
  replace h1 := Decidable.not_not.1 h1
  have HX := Lib.hid (errV_zero h1)
  by_cases h2 : ¬ (Venn.nameOk x = true ∧ Venn.nameOk y = true)
  · have HC := Lib.hid (show Venn.swapChk t x y = 1 by rw [Venn.swapChk, if_pos h1, if_neg h2])
    clear h1
    cases hx : Venn.nameOk x
    · have HXX := Lib.hid hx
      clear h2 hx
      go_enter Tryd.func43, Tryd.ntmps43
      go_wp2_with (first | (go_at_call 45; refine (term_Check _ t _ HI.out).mono ?_; rintro e w' ⟨rfl, rfl⟩; rw [HX.out]) | (go_at_call 85; refine (alike_Name _ _).mono ?_; rintro e w' ⟨rfl, rfl⟩; rw [HXX.out]))
      go_ret2
      exact ⟨_, by rw [HC.out]; rfl, by (repeat' (first | (with_reducible exact Below.refl _ _) | (with_reducible refine Below.next ?_ (by with_reducible assumption)) | (with_reducible refine Below.drew ?_) | (with_reducible refine Below.laid ?_ _) | (with_reducible refine Below.setCell ?_ ?_ _) | (with_reducible refine size_of ?_) | (with_reducible refine Nat.le_succ_of_le ?_) | go_size)), by rw [HC.out]; exact ⟨none, 0, rfl, Rd.nil _ _, Nat.le_refl _, by simp⟩⟩
    · have hy : Venn.nameOk y = false := by
        cases hy : Venn.nameOk y
        · rfl
        · exact absurd ⟨hx, hy⟩ h2
      have HXX := Lib.hid hx
      have HYY := Lib.hid hy
      clear h2 hx hy
      go_enter Tryd.func43, Tryd.ntmps43
      go_wp2_with (first | (go_at_call 45; refine (term_Check _ t _ HI.out).mono ?_; rintro e w' ⟨rfl, rfl⟩; rw [HX.out]) | (go_at_call 85; refine (alike_Name x _).mono ?_; rintro e w' ⟨rfl, rfl⟩; rw [HXX.out]) | (go_at_call 85; refine (alike_Name y _).mono ?_; rintro e w' ⟨rfl, rfl⟩; rw [HYY.out]))
      go_ret2
      exact ⟨_, by rw [HC.out]; rfl, by (repeat' (first | (with_reducible exact Below.refl _ _) | (with_reducible refine Below.next ?_ (by with_reducible assumption)) | (with_reducible refine Below.drew ?_) | (with_reducible refine Below.laid ?_ _) | (with_reducible refine Below.setCell ?_ ?_ _) | (with_reducible refine size_of ?_) | (with_reducible refine Nat.le_succ_of_le ?_) | go_size)), by rw [HC.out]; exact ⟨none, 0, rfl, Rd.nil _ _, Nat.le_refl _, by simp⟩⟩
  replace h2 := Decidable.not_not.1 h2
  have HC := Lib.hid (show Venn.swapChk t x y = 0 by rw [Venn.swapChk, if_pos h1, if_pos h2])
  have HXX := Lib.hid h2.1
  have HYY := Lib.hid h2.2
  have h12 : t.length ≤ 12 := (Venn.termChk_parts h1).2.1
  clear h1 h2
  go_enter Tryd.func43, Tryd.ntmps43
  go_wp2_with (first
    | (go_at_call 45; refine (term_Check _ t _ HI.out).mono ?_; rintro e w' ⟨rfl, rfl⟩; rw [HX.out])
    | (go_at_call 85; refine (alike_Name x _).mono ?_; rintro e w' ⟨rfl, rfl⟩; rw [HXX.out])
    | (go_at_call 85; refine (alike_Name y _).mono ?_; rintro e w' ⟨rfl, rfl⟩; rw [HYY.out])
    | (go_at_call 86; refine (clone_ints _ t _ HI.out (by omega)).mono ?_; rintro e w1 ⟨v', rfl, hb1, hown1⟩; obtain ⟨VA, vc, rfl⟩ := ownsRow_slice hown1))
  go_loopw [30] (fun i wr => ∃ k : Nat, k ≤ t.length ∧ i = .int .i64 k ∧ Below w.heap.size w wr ∧ wr.ownsRow w.heap.size 3 1 (.slice VA t.length vc) t.length ((Venn.swapL (t.take k) x y ++ t.drop k).map (Value.int .i64))) (fun i _ => t.length - (intOf i).toNat)
  case atStart => exact ⟨0, Nat.zero_le _, rfl, hb1, by simpa [Venn.swapL] using hown1⟩
  case round =>
    obtain ⟨k, hk, rfl, hb, hown⟩ := hrel
    obtain ⟨wo, rfl⟩ : ∃ wo : World, wo = wr := ⟨_, rfl⟩
    by_cases hlt : k < t.length
    · obtain ⟨ad, rfl, hcell0⟩ := HR.out.int hlt
      have hcell := cell_keep hb hcell0
      have HS := Lib.hid (swap_step t x y k hlt)
      have HD := Lib.hid (List.drop_eq_getElem_cons hlt)
      have hsl : (Venn.swapL (t.take k) x y).length = k := by simp [Venn.swapL]; omega
      generalize t[k] = s at hcell hcell0 HS HD
      clear hcell0
      obtain ⟨g, cap, hv, hg1, hg2⟩ := hown.form (by omega)
      simp only [Value.slice.injEq] at hv
      obtain ⟨rfl, _, rfl⟩ := hv
      have hk1 : (k : Int) < (t.length : Int) := by omega
      have hk0 : (0 : Int) ≤ (k : Int) := by omega
      have hfz := hown.frozenAt k
      have hcl := hown.cellAt k (by simp; omega)
      rw [HD.out] at hown hcl
      have hcs : wo.cell? ⟨g, k, none⟩ = some (.int .i64 s) := by
        rw [hcl]
        simp [hsl]
      have HNX : ∀ z : Int, (if s = x then y else if s = y then x else s) = z → ((Venn.swapL (t.take k) x y ++ s :: t.drop (k + 1)).map (Value.int .i64)).set k (.int .i64 z) = (Venn.swapL (t.take (k + 1)) x y ++ t.drop (k + 1)).map (Value.int .i64) := by
        intro z hz
        rw [HS.out, hz]
        rw [List.map_append, List.set_append_right _ _ (by simp [hsl])]
        simp [hsl]
      have HN := Lib.hid HNX
      have HST := Lib.hid (fun z => hown.stored k (.int .i64 z))
      clear HNX hcl
      by_cases hx : s = x
      · have HE := Lib.hid (HN.out y (if_pos hx))
        have e1 : (s == x) = true := by simpa using hx
        clear hx
        go_wp2
        go_roundw
        case rel => exact ⟨k + 1, by omega, by go_num, hb.setCell (p := ⟨g, k, none⟩) hg1 _, by rw [← HE.out]; exact (HST.out y).1⟩
        case measure => simp [intOf]; omega
      · have e1 : (s == x) = false := by simpa using hx
        by_cases hy : s = y
        · have HE := Lib.hid (HN.out x (by rw [if_neg hx, if_pos hy]))
          have e2 : (s == y) = true := by simpa using hy
          clear hx hy
          go_wp2
          go_roundw
          case rel => exact ⟨k + 1, by omega, by go_num, hb.setCell (p := ⟨g, k, none⟩) hg1 _, by rw [← HE.out]; exact (HST.out x).1⟩
          case measure => simp [intOf]; omega
        · have HE := Lib.hid (show (Venn.swapL (t.take k) x y ++ s :: t.drop (k + 1)) = Venn.swapL (t.take (k + 1)) x y ++ t.drop (k + 1) by rw [HS.out, if_neg hx, if_neg hy]; simp)
          have e2 : (s == y) = false := by simpa using hy
          clear hx hy
          go_wp2
          go_roundw
          case rel => exact ⟨k + 1, by omega, by go_num, hb, by rw [← HE.out]; exact hown⟩
          case measure => simp [intOf]; omega
    · have hkt : k = t.length := by omega
      subst hkt
      have HO := Lib.hid hown
      go_wp2
      go_ret2
      refine ⟨_, by rw [HC.out]; rfl, hb, ?_⟩
      rw [HC.out, if_pos rfl]
      have := HO.out
      rw [List.take_length, List.drop_eq_nil_of_le (Nat.le_refl _), List.append_nil] at this
      exact IsInts.of_own this
end Go.Proofs.YtpcdiilgomfpbaaDoor
