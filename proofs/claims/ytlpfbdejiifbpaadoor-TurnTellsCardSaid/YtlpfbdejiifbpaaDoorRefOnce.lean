/-
  THE WALKS of the reference's Once and Renamed.
-/
import Derived.Test.YtlpfbdejiifbpaaDoorVennOnce
import Derived.Test.YtlpfbdejiifbpaaDoorVennTurnS
import Derived.Test.YtlpfbdejiifbpaaDoorSigns
import Derived.IntWalk
namespace Venn
theorem once_count {l : List Int} : onceV l = true ↔ ∀ i, i < l.length → l.count (i : Int) = 1 := by
  constructor
  · intro h i hi
    have h1 : l.count (i : Int) ≤ 1 := List.nodup_iff_count.1 (once_nodup h) _
    have h2 : (i : Int) ∈ l := (once_perm h).mem_iff.2 (List.mem_map.2 ⟨i, by simpa using hi, rfl⟩)
    have := List.count_pos_iff.2 h2
    omega
  · intro h
    refine once_of ?_
    unfold onceB
    rw [List.all_eq_true]
    intro i hi
    have := h i (by simpa using hi)
    simpa using List.count_pos_iff.1 (by omega : 0 < l.count (i : Int))
end Venn
namespace Go.Proofs.YtlpfbdejiifbpaaDoor
open Go.RowKit

set_option maxHeartbeats 2000000 in
theorem ref_Once (v : Value) (l : List Int) (w : World) (hl : IsInts w v l) (hn : l.length ≤ 1000) : Calls Tryd.prog 6 #[v] w (Pure (.bool (Venn.onceV l)) w) := by
  obtain ⟨A, c, rfl, hr, _, _⟩ := hl
  have HR := Lib.hid hr
  obtain ⟨B, hB⟩ : ∃ B, B = Venn.onceV l := ⟨_, rfl⟩
  have HB1 := Lib.hid (fun (h : ∀ i, i < l.length → l.count (i : Int) = 1) => (hB.trans (Venn.once_count.2 h) : B = true))
  have HB2 := Lib.hid (fun (i : Nat) (hi : i < l.length) (h : l.count (i : Int) ≠ 1) => (by
    rw [hB]
    cases ho : Venn.onceV l
    · rfl
    · exact absurd (Venn.once_count.1 ho i hi) h : B = false))
  rw [← hB]
  clear hB hr
  go_enter Tryd.func6, Tryd.ntmps6
  go_wp2
  go_loop [3] (fun i => ∃ k : Nat, k ≤ l.length ∧ i = .int .i64 k ∧ ∀ m, m < k → l.count (m : Int) = 1) (fun i => l.length - (intOf i).toNat)
  case atStart => exact ⟨0, Nat.zero_le _, rfl, fun m h => absurd h (Nat.not_lt_zero _)⟩
  case round =>
    obtain ⟨k, hk, rfl, hall⟩ := hrel
    have HALL := Lib.hid hall
    clear hall
    by_cases hlt : k < l.length
    · have hk1 : (k : Int) < (l.length : Int) := by omega
      have hk6 : (k : Int) ≤ 1000 := by omega
      go_wp2
      go_loop [4, 5] (fun n j => ∃ m : Nat, m ≤ l.length ∧ j = .int .i64 m ∧ n = .int .i64 (((l.take m).count (k : Int) : Nat) : Int)) (fun _ j => l.length - (intOf j).toNat)
      case atStart => exact ⟨0, Nat.zero_le _, rfl, rfl⟩
      case round =>
        obtain ⟨m, hm, rfl, rfl⟩ := hrel
        by_cases hml : m < l.length
        · obtain ⟨x, hx⟩ : ∃ x, l[m]? = some x := ⟨l[m], List.getElem?_eq_getElem hml⟩
          obtain ⟨ad, rfl, hc⟩ := HR.out m (.int .i64 x) (by rw [List.getElem?_map, hx]; rfl)
          have hm1 : (m : Int) < (l.length : Int) := by omega
          have hm6 : (m : Int) ≤ 1000 := by omega
          have hct : (l.take m).count (k : Int) ≤ m := Nat.le_trans List.count_le_length (by rw [List.length_take]; omega)
          have HCT := Lib.hid (show (l.take (m + 1)).count (k : Int) = (l.take m).count (k : Int) + (if x = (k : Int) then 1 else 0) by
            rw [List.take_add_one, hx, List.count_append]
            simp [List.count_singleton])
          generalize (l.take m).count (k : Int) = N at hct HCT
          have hN : IntKind.i64.wrap ((N : Int) + 1) = ((N + 1 : Nat) : Int) := by rw [IntWalk.i64_in _ (by omega)]; omega
          by_cases hxe : x = (k : Int)
          · have e1 : (x == (k : Int)) = true := by simpa using hxe
            have HE := Lib.hid (HCT.out.trans (by rw [if_pos hxe]))
            clear HCT hx hxe
            go_wp2
            go_round
            case rel => exact ⟨m + 1, by omega, by go_num, by rw [HE.out]; simp⟩
            case measure => simp [intOf]; omega
          · have e1 : (x == (k : Int)) = false := by simpa using hxe
            have HE := Lib.hid (HCT.out.trans (by rw [if_neg hxe]))
            clear HCT hx hxe
            go_wp2
            go_round
            case rel => exact ⟨m + 1, by omega, by go_num, by rw [HE.out]; simp⟩
            case measure => simp [intOf]; omega
        · have hm' : m = l.length := by omega
          subst hm'
          rw [List.take_length]
          have HC := Lib.hid (HB2.out k hlt)
          have HA := Lib.hid (fun (h : l.count (k : Int) = 1) (m : Nat) (hm : m < k + 1) => (by
            rcases Nat.lt_succ_iff_lt_or_eq.1 hm with h1 | h1
            · exact HALL.out m h1
            · rw [h1]; exact h : l.count (m : Int) = 1))
          generalize l.count (k : Int) = N at HC HA
          by_cases hN : N = 1
          · have HA' := Lib.hid (HA.out hN)
            subst hN
            clear HC HA
            go_wp2
            go_round
            case rel => exact ⟨k + 1, by omega, by go_num, HA'.out⟩
            case measure => simp [intOf]; omega
          · have e1 : ((N : Int) != 1) = true := by simpa using (show ¬ (N : Int) = 1 by omega)
            have HF := Lib.hid (HC.out hN)
            clear HC HA hN
            go_wp2
            go_ret
            exact ⟨by rw [HF.out]; rfl, rfl⟩
    · have hk' : k = l.length := by omega
      subst hk'
      have HF := Lib.hid (HB1.out HALL.out)
      go_wp2
      go_ret
      exact ⟨by rw [HF.out]; rfl, rfl⟩

set_option maxHeartbeats 2000000 in
set_option maxRecDepth 100000 in
theorem ref_Renamed (v : Value) (t : List Int) (a b c : Int) (w : World) (h : IsInts w v t) (hl : t.length ≤ 1000) (hp : ∀ s ∈ t, 0 ≤ s) :
    Calls Tryd.prog 8 #[v, .agg #[.int .i64 a, .int .i64 b, .int .i64 c]] w (SignsPost (Venn.renT a b c t) w) := by
  obtain ⟨A, cA, rfl, hr, _, _⟩ := h
  have HR := Lib.hid hr
  have HP := Lib.hid hp
  have HLN := Lib.hid (Venn.renT_len a b c t)
  clear hr hp
  go_enter Tryd.func8, Tryd.ntmps8
  go_wp2
  have BP := Blk.new w 26 #[.int .i64 a, .int .i64 b, .int .i64 c]
  have hw1 : Below w.heap.size w (w.alloc (.cells #[.int .i64 a, .int .i64 b, .int .i64 c] 26)) := by (repeat' (first | (with_reducible exact Below.refl _ _) | (with_reducible assumption) | (with_reducible refine Below.next ?_ (by with_reducible assumption)) | (with_reducible refine Below.drew ?_) | (with_reducible refine Below.laid ?_ _) | (with_reducible refine Below.setCell ?_ ?_ _) | (with_reducible refine size_of ?_) | (with_reducible refine Nat.le_succ_of_le ?_) | go_size))
  revert BP hw1
  generalize World.alloc _ _ = w1
  intro BP hw1
  go_loopw [5, 6] (fun o i wr => ∃ k : Nat, k ≤ t.length ∧ i = .int .i64 k ∧ wr.ownsRow w1.heap.size 3 1 o k (((Venn.renT a b c t).take k).map (Value.int .i64)) ∧ Below w1.heap.size w1 wr) (fun _ i _ => t.length - (intOf i).toNat)
  case atStart => exact ⟨0, Nat.zero_le _, rfl, World.ownsRow_nil _ _ _ _, Below.refl _ _⟩
  case round =>
    obtain ⟨k, hk, rfl, hown, hb⟩ := hrel
    obtain ⟨wo, rfl⟩ : ∃ wo : World, wo = wr := ⟨_, rfl⟩
    obtain ⟨OA, oc, rfl⟩ := ownsRow_slice hown
    have HOWN := Lib.hid hown
    clear hown
    by_cases hlt : k < t.length
    · obtain ⟨s, hs⟩ : ∃ s, t[k]? = some s := ⟨t[k], List.getElem?_eq_getElem hlt⟩
      obtain ⟨ad, rfl, hc0⟩ := HR.out k (.int .i64 s) (by rw [List.getElem?_map, hs]; rfl)
      have hs0 := HP.out s (List.mem_of_getElem? hs)
      have hc1 := cell_keep (Below.next hw1 hb) hc0
      have BPo := BP.keep hb
      have p0 := BPo.cell 0
      have p1 := BPo.cell 1
      have p2 := BPo.cell 2
      have hk1 : (k : Int) < (t.length : Int) := by omega
      have hk6 : (k : Int) ≤ 1000 := by omega
      have hsz := hb.size
      have HTK := Lib.hid (show ((Venn.renT a b c t).take (k + 1)).map (Value.int .i64) = ((Venn.renT a b c t).take k).map (Value.int .i64) ++ [.int .i64 (Venn.renS a b c s)] by
        rw [List.take_add_one, Venn.renT, List.getElem?_map, hs, List.map_append]; rfl)
      have HRS := Lib.hid (show Venn.renS a b c s = if s = 0 then a else if s = 1 then b else if s = 2 then c else s from rfl)
      generalize Venn.renS a b c s = z at HTK HRS
      clear hs hc0
      rcases (by omega : s = 0 ∨ s = 1 ∨ s = 2 ∨ ¬ s < 3) with rfl | rfl | rfl | h3
      all_goals
        first
        | (have hz : z = s := by rw [HRS.out, if_neg (by omega), if_neg (by omega), if_neg (by omega)]
           subst hz)
        | (have hz : z = a := HRS.out; subst hz)
        | (have hz : z = b := HRS.out; subst hz)
        | (have hz : z = c := HRS.out; subst hz)
        clear HRS
        go_wp2_with (at_builtin; refine wpList_app1 _ rfl _ _ rfl w1.heap.size (.slice OA k oc) k _ rfl (HOWN.out.alloc _) wo.heap.size 1 z rfl ?_ (by omega) (by simp; omega) ?_)
        try (case refine_1 => exact (Blk.new wo 3 #[.int .i64 z]).cell 0)
        intro v8 w8 hown8 hgr8
        have hb8 : Below w1.heap.size w1 w8 := (Below.laid hb _).grown hgr8 (by simp; omega) (fun g e => (HOWN.out.lt g e).1)
        obtain ⟨OB, ob, rfl⟩ := ownsRow_slice hown8
        have HO8 := Lib.hid hown8
        clear hown8 hgr8
        go_wp2
        go_roundw
        case rel => exact ⟨k + 1, by omega, by go_num, by rw [HTK.out, List.map_take]; exact HO8.out, hb8⟩
        case measure => simp [intOf]; omega
    · have hkt : k = t.length := by omega
      subst hkt
      have hO := HOWN.out
      rw [List.take_of_length_le (by rw [HLN.out]; exact Nat.le_refl _)] at hO
      have HO := Lib.hid (own_base hO hw1.size)
      have HB := Lib.hid (Below.next hw1 hb)
      clear hO HOWN
      go_wp2
      go_ret
      exact ⟨_, rfl, HB.out, by rw [HLN.out]; exact HO.out⟩
end Go.Proofs.YtlpfbdejiifbpaaDoor
