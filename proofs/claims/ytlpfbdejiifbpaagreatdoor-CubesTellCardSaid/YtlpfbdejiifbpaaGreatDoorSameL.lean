/-
  THE WALK of vennsame.Lists at lists that are the same; ARGUMENTS OPENED: lists of lists of integers.
-/
import Derived.Test.YtlpfbdejiifbpaaGreatDoorLists
import Derived.Test.YtlpfbdejiifbpaaGreatDoorSame
import Derived.Test.YtlpfbdejiifbpaaGreatDoorLawF
import Derived.Deep.RegionLaw
namespace Go.Proofs.YtlpfbdejiifbpaaGreatDoor
open Go.RowKit

set_option maxHeartbeats 4000000 in
set_option maxRecDepth 100000 in
theorem same_Lists (u v : Value) (L : List (List Int)) (w : World) (hu : IsLists w u L) (hv : IsLists w v L) : Calls Tryz.prog 14 #[u, v] w (Keeps (.bool true) w) := by
  obtain ⟨A, ca, p, rfl, rfl, hrp, hop, h1, h2⟩ := hu
  obtain ⟨B, cb, q, rfl, hq, hrq, hoq, h3, h4⟩ := hv
  have hlen : q.length = p.length := by have := congrArg List.length hq; rw [lVals_len, lVals_len] at this; exact this
  rw [hlen]
  have HRP := Lib.hid hrp
  have HRQ := Lib.hid hrq
  have HS := Lib.hid (show ∀ (k : Nat) (x y : LV), p[k]? = some x → q[k]? = some y → IsInts w x.2 x.1 ∧ IsInts w y.2 x.1 from fun k x y hx hy => by
    refine ⟨hop x (List.mem_of_getElem? hx), ?_⟩
    have e : y.1 = x.1 := by
      have := congrArg (fun l => l[k]?) hq
      simp only [lVals, List.getElem?_map, hx, hy, Option.map_some] at this
      injection this
    rw [← e]
    exact hoq y (List.mem_of_getElem? hy))
  have HQL := Lib.hid hlen
  have hl : p.length ≤ 9223372036854775807 := by unfold maxLen at h2; omega
  clear hq hrp hop hrq hoq h1 h2 h3 h4 hlen
  go_enter Tryz.func14, Tryz.ntmps14
  go_wp2
  go_loopw [5] (fun i wr => ∃ k : Nat, k ≤ p.length ∧ i = .int .i64 k ∧ Below w.heap.size w wr) (fun i _ => p.length - (intOf i).toNat)
  case atStart => exact ⟨0, Nat.zero_le _, rfl, Below.refl _ _⟩
  case round =>
    obtain ⟨k, hk, rfl, hb⟩ := hrel
    obtain ⟨wo, rfl⟩ : ∃ wo : World, wo = wr := ⟨_, rfl⟩
    by_cases hlt : k < p.length
    · obtain ⟨x, hx⟩ : ∃ x, p[k]? = some x := ⟨_, List.getElem?_eq_getElem hlt⟩
      obtain ⟨y, hy⟩ : ∃ y, q[k]? = some y := ⟨_, List.getElem?_eq_getElem (by have := HQL.out; omega)⟩
      obtain ⟨ad, rfl, hc0⟩ := HRP.out k x.2 (by unfold lCells; rw [List.getElem?_map, hx]; rfl)
      obtain ⟨bd, rfl, hd0⟩ := HRQ.out k y.2 (by unfold lCells; rw [List.getElem?_map, hy]; rfl)
      have hc := cell_keep hb hc0
      have hd := cell_keep hb hd0
      obtain ⟨s1, s2⟩ := HS.out k x y hx hy
      have HI := Lib.hid (fun W (hW : Below w.heap.size w W) => same_Ints x.2 y.2 x.1 x.1 W (s1.keep hW) (s2.keep hW))
      rw [beq_self_eq_true] at HI
      obtain ⟨X, cX, e1, _⟩ := s1
      obtain ⟨Y, cY, e2, _⟩ := s2
      rw [e1] at hc HI
      rw [e2] at hd HI
      have hk1 : (k : Int) < (p.length : Int) := by omega
      have hk0 : (0 : Int) ≤ (k : Int) := by omega
      generalize x.1.length = n at hc hd HI
      clear hx hy hc0 hd0 e1 e2
      go_wp2_with fail
      go_region_law (go_simp; go_at_call 38; refine (HI.out _ (by (repeat' (first | (with_reducible exact Below.refl _ _) | (with_reducible assumption) | (with_reducible refine Below.next ?_ (by with_reducible assumption)) | (with_reducible refine Below.drew ?_) | (with_reducible refine Below.laid ?_ _) | (with_reducible refine Below.setCell ?_ ?_ _) | (with_reducible refine size_of ?_) | (with_reducible refine Nat.le_succ_of_le ?_) | go_size)))).mono ?_; rintro e w1 ⟨rfl, hb1⟩)
      all_goals
        go_wp2
        go_roundw
        case rel => exact ⟨k + 1, by omega, by go_num, by (repeat' (first | (with_reducible exact Below.refl _ _) | (with_reducible assumption) | (with_reducible refine Below.next ?_ (by with_reducible assumption)) | (with_reducible refine Below.drew ?_) | (with_reducible refine Below.laid ?_ _) | (with_reducible refine Below.setCell ?_ ?_ _) | (with_reducible refine size_of ?_) | (with_reducible refine Nat.le_succ_of_le ?_) | go_size))⟩
        case measure => simp [intOf]; omega
    · obtain rfl : k = p.length := by omega
      go_wp2
      go_ret
      exact ⟨rfl, hb⟩

section
open Go.ChangeShapes Go.WideShapes Go.ChangeAt
variable {H : Type} {enc : TypeId × Value → H} {w : World} {base b0 : Nat} {spare : Nat → Bool} {held : Bool} {r : Reach} {v : Value} {d : DataW H} {ps : List MemPlace}
theorem lists_of_trod {P : Program} {ts tw : TypeId} (hts : P.underlying ts = some (.slice tw)) (c1 : P.cellsOf tw = 1)
    (hat : ∀ (fuel : Nat) (cs : List Value) (x : DataW H × List MemPlace), DataW.trod enc P w base spare held fuel tw cs = some x → ∃ (l : List Int) (u : Value), cs = [u] ∧ IsInts w u l)
    {fuel : Nat} {cs : List Value} {x : DataW H × List MemPlace} (h : DataW.trod enc P w base spare held fuel ts cs = some x) : ∃ (l : List (List Int)) (u : Value), cs = [u] ∧ IsLists w u l := by
  rcases DataW.trod_slice hts h with ⟨hcs, _⟩ | ⟨a, len, cap, elems, rest, n, _, hcs, _, _, hl, hm, hel, hcell, _⟩
  · exact ⟨[], _, hcs, IsLists.nil _⟩
  · have hx : ∀ i : Nat, ∃ q : LV, i < len → w.cell? (a.add i) = some q.2 ∧ IsInts w q.2 q.1 := by
      intro i
      by_cases hi : i < len
      · have := hcell i hi
        rw [c1, List.getElem?_eq_getElem (by omega)] at this
        obtain ⟨cs, h1, h2⟩ := Option.bind_eq_some_iff.1 this
        obtain ⟨k1, k2⟩ := cells_len h1
        obtain ⟨l, u, rfl, hs⟩ := hat _ _ _ h2
        refine ⟨(l, u), fun _ => ⟨?_, hs⟩⟩
        have := k2 0 _ rfl
        rw [Nat.mul_one] at this
        rwa [add0] at this
      · exact ⟨([], default), fun h => absurd h hi⟩
    obtain ⟨f, hf⟩ := Classical.axiomOfChoice hx
    have hpl : ((List.range len).map f).length = len := by simp
    refine ⟨lVals ((List.range len).map f), _, hcs, some a, cap, (List.range len).map f, by rw [hpl], rfl, fun j u hj => ⟨a, rfl, ?_⟩, fun q hq => ?_, by rw [hpl]; simpa using hl, hm⟩
    · unfold lCells at hj
      rw [List.map_map, List.getElem?_map] at hj
      obtain ⟨i, hi, rfl⟩ := Option.map_eq_some_iff.1 hj
      have hil := List.getElem?_eq_some_iff.1 hi
      simp at hil
      obtain ⟨hil, rfl⟩ := hil
      exact (hf j hil).1
    · obtain ⟨i, hi, rfl⟩ := List.mem_map.1 hq
      exact (hf i (List.mem_range.1 hi)).2
set_option maxRecDepth 100000 in
theorem open_lists (hok : Value.okWide Tryz.prog w r b0 26 v) (h : DataW.Trod enc Tryz.prog w base spare held 26 v d ps) : ∃ l : List (List Int), IsLists w v l := by
  obtain ⟨a0, len, cap, rfl⟩ := okWide_slice Tryz.underlying26 hok
  obtain ⟨fuel, hf⟩ := h
  obtain ⟨l, u, e, hl⟩ := lists_of_trod Tryz.underlying26 (by kernel_rfl) (fun _ _ _ h => by
    obtain ⟨l, u, e, hl, _⟩ := isInts_of_trod Tryz.underlying23 Tryz.underlying3 cellsInt h
    exact ⟨l, u, e, hl⟩) hf
  simp [Value.cells] at e
  exact ⟨l, e ▸ hl⟩
end
end Go.Proofs.YtlpfbdejiifbpaaGreatDoor
