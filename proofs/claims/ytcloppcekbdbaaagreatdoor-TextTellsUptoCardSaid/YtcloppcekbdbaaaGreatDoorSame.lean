/-
  THE WALKS of package vennsame: are two lists the same.
-/
import Derived.Test.YtcloppcekbdbaaaGreatDoorMem
import Derived.Deep.QuietTactic
import Derived.BigQuiet
namespace Go.Proofs.YtcloppcekbdbaaaGreatDoor
open Go.RowKit

set_option maxHeartbeats 2000000 in
theorem same_Ints (u v : Value) (s t : List Int) (w : World) (hs : IsInts w u s) (ht : IsInts w v t) : Calls Tryz.prog 80 #[u, v] w (Keeps (.bool (s == t)) w) := by
  obtain ⟨A, c, rfl, hrs, hlc, hc⟩ := hs
  obtain ⟨B, d, rfl, hrt, hld, hd⟩ := ht
  unfold maxLen at hc hd
  by_cases hl : s.length = t.length
  · have hne : (((s.length : Nat) : Int) != ((t.length : Nat) : Int)) = false := by rw [bne_eq_false_iff_eq]; omega
    have HL := Lib.hid hl
    clear hl
    go_enter Tryz.func80, Tryz.ntmps80
    go_wp2
    go_loopw [5] (fun i wr => ∃ k : Nat, k ≤ s.length ∧ i = .int .i64 k ∧ Below w.heap.size w wr ∧ (s.drop k == t.drop k) = (s == t)) (fun i _ => s.length - (intOf i).toNat)
    case atStart => exact ⟨0, Nat.zero_le _, rfl, Below.refl _ _, by simp⟩
    case round =>
      obtain ⟨k, hk, rfl, hb, hrest⟩ := hrel
      have HR := Lib.hid hrest; clear hrest
      by_cases hlt : k < s.length
      · have hlt2 : k < t.length := by have := HL.out; omega
        obtain ⟨ad, rfl, hca0⟩ := hrs.int hlt
        obtain ⟨bd, rfl, hcb0⟩ := hrt.int hlt2
        have hca := cell_keep hb hca0
        have hcb := cell_keep hb hcb0
        have HD := Lib.hid (List.drop_eq_getElem_cons hlt)
        have HE := Lib.hid (List.drop_eq_getElem_cons hlt2)
        generalize s[k] = x at hca0 hca HD
        generalize t[k] = y at hcb0 hcb HE
        clear hca0 hcb0 hrs hrt
        have b1 : (0 : Int) ≤ (k : Int) := by omega
        have b2 : (k : Int) < (s.length : Int) := by omega
        have b3 : (k : Int) < (t.length : Int) := by omega
        rcases hxy : (x != y) with _ | _
        · go_wp2_with fail
          go_quiet (fail)
          go_wp2
          go_roundw
          case rel => exact ⟨k + 1, by omega, by go_num, below_drewN hb _, by rw [← HR.out, HD.out, HE.out]; simp at hxy; simp [hxy]⟩
          case measure => simp [intOf]; omega
        · go_wp2_with fail
          go_quiet (fail)
          go_wp2
          go_ret
          exact ⟨ret_bool (by rw [← HR.out, HD.out, HE.out]; simp at hxy; simp [hxy]), below_drewN hb _⟩
      · have hd1 : s.drop k = [] := List.drop_eq_nil_of_le (by omega)
        have hd2 : t.drop k = [] := List.drop_eq_nil_of_le (by have := HL.out; omega)
        have HV := Lib.hid (show (s == t) = true by rw [← HR.out, hd1, hd2]; rfl)
        clear hd1 hd2
        go_wp2
        go_ret
        exact ⟨by rw [HV.out]; rfl, hb⟩
  · have hne : (((s.length : Nat) : Int) != ((t.length : Nat) : Int)) = true := by rw [bne_iff_ne]; omega
    rw [show (s == t) = false from beq_eq_false_iff_ne.2 (fun h => hl (by rw [h]))]
    clear hl
    go_enter Tryz.func80, Tryz.ntmps80
    go_wp2
    go_ret
    exact ⟨rfl, Below.refl _ _⟩

end Go.Proofs.YtcloppcekbdbaaaGreatDoor
