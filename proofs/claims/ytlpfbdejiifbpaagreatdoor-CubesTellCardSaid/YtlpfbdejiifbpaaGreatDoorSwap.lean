/-
  THE WALKS of slices.Clone (integers) and alike.Swap.
-/
import Derived.Test.YtlpfbdejiifbpaaGreatDoorApp
import Derived.Test.YtlpfbdejiifbpaaGreatDoorSetsT
import Derived.Test.YtlpfbdejiifbpaaGreatDoorAlike
import Derived.Test.YtlpfbdejiifbpaaGreatDoorSome
import Derived.Lib.SliceRun
import Derived.Test.YtlpfbdejiifbpaaGreatDoorVennP1
import Derived.WalkSmall
namespace Venn
def swapL (t : List Int) (x y : Int) : List Int := t.map fun s => if s = x then y else if s = y then x else s
def swapChk (t : List Int) (x y : Int) : Int := if termChk t = 0 then (if nameOk x = true ∧ nameOk y = true then 0 else 1) else termChk t
end Venn
namespace Go.Proofs.YtlpfbdejiifbpaaGreatDoor
open Go.RowKit

/-- A copy of the call's own. -/
def ClonePost (l : List Int) (w : World) (e : Ending) (w' : World) : Prop := ∃ v', e = .returned v' ∧ Below w.heap.size w w' ∧ w'.ownsRow w.heap.size 3 1 v' l.length (l.map (Value.int .i64))
set_option maxHeartbeats 1000000 in
set_option maxRecDepth 100000 in
theorem clone_ints (v : Value) (l : List Int) (w : World) (h : IsInts w v l) (hl : l.length < 1000000000000) : Calls Tryz.prog 101 #[v] w (ClonePost l w) := by
  obtain ⟨A, c, rfl, hr, hlc, hc⟩ := h
  rcases A with _ | ad
  · have hnil : l = [] := by
      rcases l with _ | ⟨y, l⟩
      · rfl
      · obtain ⟨_, h, _⟩ := hr 0 (.int .i64 y) (by simp)
        cases h
    subst hnil
    have q38 : ∀ (w : World) (a : Option Addr) (n c n' c' : Nat), (binOp .eql 23 (.slice a n c) (.slice none n' c')).run Tryz.prog w = .ok (.bool a.isNone) w := fun w a n c n' c' => Lib.run_eql_slice_nil w _ _ a n c n' c' Tryz.underlying23
    go_enter Tryz.func101, Tryz.ntmps101
    go_wp2
    go_ret
    exact ⟨_, rfl, by (repeat' (first | (with_reducible exact Below.refl _ _) | (with_reducible assumption) | (with_reducible refine Below.next ?_ (by with_reducible assumption)) | (with_reducible refine Below.drew ?_) | (with_reducible refine Below.laid ?_ _) | (with_reducible refine Below.setCell ?_ ?_ _) | (with_reducible refine size_of ?_) | (with_reducible refine Nat.le_succ_of_le ?_) | go_size)), World.ownsRow_nil _ _ _ _⟩
  · have hown : (w.alloc (.cells #[] 3)).ownsRow w.heap.size 3 1 (.slice (some ⟨w.heap.size, 0, none⟩) 0 0) 0 [] :=
      ⟨rfl, .inr ⟨w.heap.size, 0, #[], rfl, Nat.le_refl _, Blk.new w 3 #[], Nat.le_refl _, by simp [maxLen], rfl, rfl⟩⟩
    have hr2 : Rd (w.alloc (.cells #[] 3)) (some ad) (l.map (Value.int .i64)) := hr.keep (by (repeat' (first | (with_reducible exact Below.refl _ _) | (with_reducible assumption) | (with_reducible refine Below.next ?_ (by with_reducible assumption)) | (with_reducible refine Below.drew ?_) | (with_reducible refine Below.laid ?_ _) | (with_reducible refine Below.setCell ?_ ?_ _) | (with_reducible refine size_of ?_) | (with_reducible refine Nat.le_succ_of_le ?_) | go_size)))
    have q38 : ∀ (w : World) (a : Option Addr) (n c n' c' : Nat), (binOp .eql 23 (.slice a n c) (.slice none n' c')).run Tryz.prog w = .ok (.bool a.isNone) w := fun w a n c n' c' => Lib.run_eql_slice_nil w _ _ a n c n' c' Tryz.underlying23
    go_enter Tryz.func101, Tryz.ntmps101
    go_wp2_with (at_builtin; refine wpList_appR _ rfl _ _ rfl w.heap.size _ _ _ rfl hown (some ad) c l rfl hr2 (by omega) (by simp) ?_)
    intro v' w1 hown' hg'
    go_wp2
    go_ret
    refine ⟨v', rfl, ?_, by simpa using hown'⟩
    exact ((Below.refl _ w).alloc (Nat.le_refl _) (.cells #[] 3)).grown hg' (by simp) (fun g hg => by simp [Value.ownBlock] at hg; omega)

def SwapPost (t : List Int) (x y : Int) (w : World) (e : Ending) (w' : World) : Prop :=
  ∃ v', e = .returned (.tuple #[v', errV (Venn.swapChk t x y)]) ∧ Below w.heap.size w w' ∧ IsInts w' v' (if Venn.swapChk t x y = 0 then Venn.swapL t x y else [])
theorem swap_step (t : List Int) (x y : Int) (k : Nat) (h : k < t.length) : Venn.swapL (t.take (k + 1)) x y = Venn.swapL (t.take k) x y ++ [if t[k] = x then y else if t[k] = y then x else t[k]] := by
  unfold Venn.swapL
  rw [List.take_succ_eq_append_getElem h, List.map_append]
  rfl
end Go.Proofs.YtlpfbdejiifbpaaGreatDoor
