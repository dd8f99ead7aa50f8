/-
  THE WALK of turn.signs: signs with other names.
-/
import Derived.Test.YtlpfbdejiifbpaaDoorSwap
import Derived.Test.YtlpfbdejiifbpaaDoorOwnA
import Derived.Test.YtlpfbdejiifbpaaDoorVennRen
namespace Go.Proofs.YtlpfbdejiifbpaaDoor
open Go.RowKit

def SignsPost (t : List Int) (w : World) (e : Ending) (w' : World) : Prop := ∃ v', e = .returned v' ∧ Below w.heap.size w w' ∧ w'.ownsRow w.heap.size 3 1 v' t.length (t.map (Value.int .i64))
set_option maxHeartbeats 2000000 in
set_option maxRecDepth 100000 in
theorem turn_signs (v : Value) (t : List Int) (a b c : Int) (w : World) (h : IsInts w v t) (hl : t.length ≤ 1000) (hp : ∀ s ∈ t, 0 ≤ s) :
    Calls Tryd.prog 26 #[v, .agg #[.int .i64 a, .int .i64 b, .int .i64 c]] w (SignsPost (Venn.renT a b c t) w) := by
  obtain ⟨A, cA, rfl, h'⟩ := h
  have HI := Lib.hid (show IsInts w (.slice A t.length cA) t from ⟨A, cA, rfl, h'⟩)
  have HP := Lib.hid hp
  have HLN := Lib.hid (Venn.renT_len a b c t)
  clear h' hp
  go_enter Tryd.func26, Tryd.ntmps26
  go_wp2_with fail
  have BP := Blk.new w 26 #[.int .i64 a, .int .i64 b, .int .i64 c]
  have hw1 : Below w.heap.size w (w.alloc (.cells #[.int .i64 a, .int .i64 b, .int .i64 c] 26)) := by (repeat' (first | (with_reducible exact Below.refl _ _) | (with_reducible assumption) | (with_reducible refine Below.next ?_ (by with_reducible assumption)) | (with_reducible refine Below.drew ?_) | (with_reducible refine Below.laid ?_ _) | (with_reducible refine Below.setCell ?_ ?_ _) | (with_reducible refine size_of ?_) | (with_reducible refine Nat.le_succ_of_le ?_) | go_size))
  refine (clone_ints _ t _ (HI.out.keep (by (repeat' (first | (with_reducible exact Below.refl _ _) | (with_reducible assumption) | (with_reducible refine Below.next ?_ (by with_reducible assumption)) | (with_reducible refine Below.drew ?_) | (with_reducible refine Below.laid ?_ _) | (with_reducible refine Below.setCell ?_ ?_ _) | (with_reducible refine size_of ?_) | (with_reducible refine Nat.le_succ_of_le ?_) | go_size)))) (by omega)).mono ?_
  rintro e w2 ⟨v', rfl, hb2, hown2⟩
  obtain ⟨VA, vc, rfl⟩ := ownsRow_slice hown2
  replace BP := BP.keep hb2
  have hw2 := Below.next hw1 hb2
  have hown := own_base hown2 (show w.heap.size + 1 ≤ _ by simp)
  have HOWN := Lib.hid hown
  have HBP := Lib.hid BP
  clear hw1 hb2 hown2 hown BP
  go_wp2
  go_loopw [12] (fun i wr => ∃ k : Nat, k ≤ t.length ∧ i = .int .i64 k ∧ Below w.heap.size w wr ∧ Blk wr w.heap.size 26 #[.int .i64 a, .int .i64 b, .int .i64 c] ∧ wr.ownsRow (w.heap.size + 1) 3 1 (.slice VA t.length vc) t.length ((Venn.renT a b c (t.take k) ++ t.drop k).map (Value.int .i64))) (fun i _ => t.length - (intOf i).toNat)
  case atStart => exact ⟨0, Nat.zero_le _, rfl, hw2, HBP.out, by simpa [Venn.renT] using HOWN.out⟩
  case round =>
    obtain ⟨k, hk, rfl, hb, BP, hown⟩ := hrel
    obtain ⟨wo, rfl⟩ : ∃ wo : World, wo = wr := ⟨_, rfl⟩
    by_cases hlt : k < t.length
    · have HS := Lib.hid (Venn.renT_step a b c t k hlt)
      have HD := Lib.hid (List.drop_eq_getElem_cons hlt)
      have hsl : (Venn.renT a b c (t.take k)).length = k := by simp [Venn.renT]; omega
      have hs0 := HP.out t[k] (List.getElem_mem hlt)
      generalize t[k] = s at HS HD hs0
      obtain ⟨g, cap, hv, hg1, hg2⟩ := hown.form (by omega)
      simp only [Value.slice.injEq] at hv
      obtain ⟨rfl, _, rfl⟩ := hv
      have hk1 : (k : Int) < (t.length : Int) := by omega
      have hk0 : (0 : Int) ≤ (k : Int) := by omega
      have hfz := hown.frozenAt k
      have hcl := hown.cellAt k (by simp; omega)
      rw [HD.out] at hown hcl
      have hcs : wo.cell? ⟨g, k, none⟩ = some (.int .i64 s) := by
        rw [hcl]
        simp [hsl]
      have HNX : ∀ z : Int, Venn.renS a b c s = z → ((Venn.renT a b c (t.take k) ++ s :: t.drop (k + 1)).map (Value.int .i64)).set k (.int .i64 z) = (Venn.renT a b c (t.take (k + 1)) ++ t.drop (k + 1)).map (Value.int .i64) := by
        intro z hz
        rw [HS.out, hz]
        rw [List.map_append, List.set_append_right _ _ (by simp [hsl])]
        simp [hsl]
      have HN := Lib.hid HNX
      have HST := Lib.hid (fun z => hown.stored k (.int .i64 z))
      have HOW := Lib.hid hown
      have HBP := Lib.hid BP
      have hng : ¬ w.heap.size = g := by omega
      obtain ⟨c0, c1, c2⟩ := (show wo.cell? ⟨w.heap.size, 0, none⟩ = some (.int .i64 a) ∧ wo.cell? ⟨w.heap.size, 1, none⟩ = some (.int .i64 b) ∧ wo.cell? ⟨w.heap.size, 2, none⟩ = some (.int .i64 c) from ⟨BP.cell 0, BP.cell 1, BP.cell 2⟩)
      clear HNX hcl hown BP
      rcases (by omega : s = 0 ∨ s = 1 ∨ s = 2 ∨ ¬ s < 3) with rfl | rfl | rfl | h3
      · have HE := Lib.hid (HN.out a rfl)
        go_wp2
        go_roundw
        case rel => exact ⟨k + 1, by omega, by go_num, hb.setCell (p := ⟨g, k, none⟩) (by show w.heap.size ≤ g; omega) _, HBP.out.far (p := ⟨g, k, none⟩) hng _, by rw [← HE.out]; exact (HST.out a).1⟩
        case measure => simp [intOf]; omega
      · have HE := Lib.hid (HN.out b rfl)
        go_wp2
        go_roundw
        case rel => exact ⟨k + 1, by omega, by go_num, hb.setCell (p := ⟨g, k, none⟩) (by show w.heap.size ≤ g; omega) _, HBP.out.far (p := ⟨g, k, none⟩) hng _, by rw [← HE.out]; exact (HST.out b).1⟩
        case measure => simp [intOf]; omega
      · have HE := Lib.hid (HN.out c rfl)
        go_wp2
        go_roundw
        case rel => exact ⟨k + 1, by omega, by go_num, hb.setCell (p := ⟨g, k, none⟩) (by show w.heap.size ≤ g; omega) _, HBP.out.far (p := ⟨g, k, none⟩) hng _, by rw [← HE.out]; exact (HST.out c).1⟩
        case measure => simp [intOf]; omega
      · have HE := Lib.hid (show (Venn.renT a b c (t.take k) ++ s :: t.drop (k + 1)) = Venn.renT a b c (t.take (k + 1)) ++ t.drop (k + 1) by rw [HS.out, Venn.renS, if_neg (by omega), if_neg (by omega), if_neg (by omega)]; simp)
        go_wp2
        go_roundw
        case rel => exact ⟨k + 1, by omega, by go_num, hb, HBP.out, by rw [← HE.out]; exact HOW.out⟩
        case measure => simp [intOf]; omega
    · have hkt : k = t.length := by omega
      subst hkt
      rw [List.take_length, List.drop_eq_nil_of_le (Nat.le_refl _), List.append_nil] at hown
      have HO := Lib.hid (own_base hown (show w.heap.size ≤ _ by omega))
      clear hown
      go_wp2
      go_ret
      exact ⟨_, rfl, hb, by rw [HLN.out]; exact HO.out⟩
end Go.Proofs.YtlpfbdejiifbpaaDoor
