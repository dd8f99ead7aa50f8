/-
  THE LOG'S CALLS as LogStops makes them.
-/
import Derived.Test.YtcloppcekbdbaaaGreatDoorVennStops
import Derived.Test.YtcloppcekbdbaaaGreatDoorLawF
namespace Go.Proofs.YtcloppcekbdbaaaGreatDoor
open Go.RowKit

theorem err_66 (w : World) (hg : EtOk w) : Calls Tryz.prog 19 #[.iface 92 (.int .i64 6), .int .i64 6] w (Keeps (.bool true) w) := by
  have h := vennsame_Error 6 6 w hg
  rw [errV_ne (show (6 : Int) ≠ 0 by decide)] at h
  exact h
theorem err_61 (w : World) (hg : EtOk w) : Calls Tryz.prog 19 #[.iface 92 (.int .i64 6), .int .i64 1] w (Keeps (.bool false) w) := by
  have h := vennsame_Error 6 1 w hg
  rw [errV_ne (show (6 : Int) ≠ 0 by decide)] at h
  exact h
theorem err_16 (w : World) (hg : EtOk w) : Calls Tryz.prog 19 #[.iface 92 (.int .i64 1), .int .i64 6] w (Keeps (.bool false) w) := by
  have h := vennsame_Error 1 6 w hg
  rw [errV_ne (show (1 : Int) ≠ 0 by decide)] at h
  exact h
theorem err_11 (w : World) (hg : EtOk w) : Calls Tryz.prog 19 #[.iface 92 (.int .i64 1), .int .i64 1] w (Keeps (.bool true) w) := by
  have h := vennsame_Error 1 1 w hg
  rw [errV_ne (show (1 : Int) ≠ 0 by decide)] at h
  exact h
theorem err_06 (w : World) (hg : EtOk w) : Calls Tryz.prog 19 #[.nilIface, .int .i64 6] w (Keeps (.bool false) w) := by
  have h := vennsame_Error 0 6 w hg
  rw [errV_zero rfl] at h
  exact h
theorem rs_small {n : Nat} (hn : n ≤ 5) : (rsBA n).size ≤ 1073741824 ∧ (saidF (rs n)).length ≤ 90 := by
  rw [rsBA_size, rs_said, List.length_replicate]
  omega
/-- The empty atom is refused. -/
theorem stops_zero (j n safe : Nat) (L : Int) (w : World) (h : LogG w j 1 (saidF (rs n)) (rsBA n) safe L false) (hn : n ≤ 5) (hk : KindsOk w) (htab : TabOk w) (h0 : -1 ≤ L) (h9 : L ≤ 9) :
    Calls Tryz.prog 11 #[.pointer (some ⟨j, 0, none⟩), .agg #[.int .i64 0, .slice none 0 0, .slice none 0 0, .int .i64 0], .bool true] w
      (fun e w' => e = .returned (.iface 92 (.int .i64 1)) ∧ But (fun b => b = j) w w' ∧ LogG w' j 1 (saidF (rs n)) (rsBA n) safe L false) := by
  refine (logG_SayT j 1 _ _ safe L 0 0 _ _ [] [] w h (IsIntsNil w) (IsIntsNil w) hk htab (said_ok (rs_ok n)) (by decide) (rs_small hn).1 h0 (by omega) (rs_small hn).2).mono ?_
  rintro e w' ⟨E, rfl, hb, hc⟩
  have hz := say_zero 1 (saidF (rs n))
  rcases hc with ⟨h1, h2, h3⟩ | ⟨h1, _⟩ | ⟨h1, _⟩
  · rw [hz] at h1
    subst h1
    exact ⟨by rw [errV_ne (by decide)], hb, h3⟩
  · rw [hz] at h1
    exact absurd h1 (by decide)
  · rw [hz] at h1
    exact absurd h1 (by decide)
/-- Before the failing step it is said. -/
theorem stops_more (j n safe : Nat) (L : Int) (sv : Value) (w : World) (h : LogG w j 1 (saidF (rs n)) (rsBA n) safe L false) (hs : IsInts w sv [1]) (hn : n ≤ 5) (hk : KindsOk w) (htab : TabOk w) (h0 : 0 < L) (h9 : L ≤ 9) :
    Calls Tryz.prog 11 #[.pointer (some ⟨j, 0, none⟩), .agg #[.int .i64 4, sv, .slice none 0 0, .int .i64 1], .bool true] w
      (fun e w' => e = .returned .nilIface ∧ But (fun b => b = j) w w' ∧ LogG w' j 1 (saidF (rs (n + 1))) (rsBA (n + 1)) safe (L - 1) false) := by
  refine (logG_SayT j 1 _ _ safe L 4 1 _ _ [1] [] w h hs (IsIntsNil w) hk htab (said_ok (rs_ok n)) (by decide) (rs_small hn).1 (by omega) (by omega) (rs_small hn).2).mono ?_
  rintro e w' ⟨E, rfl, hb, hc⟩
  have hz := (rs_say (m := n) (by omega)).1
  rcases hc with ⟨h1, h2, h3⟩ | ⟨h1, h2, _⟩ | ⟨h1, h2, h3, h4⟩
  · rw [show (⟨4, [1], [], 1⟩ : Venn.Atom) = stA from rfl, hz] at h1
    exact absurd h1 h2
  · omega
  · subst h3
    refine ⟨by rw [errV_zero rfl], hb, ?_⟩
    rw [show (⟨4, [1], [], 1⟩ : Venn.Atom) = stA from rfl, rsBA_snoc, show max (-1) (L - 1) = L - 1 by omega] at h4
    rw [rs_snoc]
    unfold saidF at h4 ⊢
    rw [List.map_append]
    exact h4
/-- At the failing step half of it is laid. -/
theorem stops_half (j n safe : Nat) (sv : Value) (w : World) (h : LogG w j 1 (saidF (rs n)) (rsBA n) safe 0 false) (hs : IsInts w sv [1]) (hn : n ≤ 5) (hk : KindsOk w) (htab : TabOk w) :
    Calls Tryz.prog 11 #[.pointer (some ⟨j, 0, none⟩), .agg #[.int .i64 4, sv, .slice none 0 0, .int .i64 1], .bool true] w
      (fun e w' => e = .returned (.iface 92 (.int .i64 6)) ∧ But (fun b => b = j) w w' ∧ LogG w' j 1 (saidF (rs n)) (rsBA n ++ halfBA stA true) safe (-1) true) := by
  refine (logG_SayT j 1 _ _ safe 0 4 1 _ _ [1] [] w h hs (IsIntsNil w) hk htab (said_ok (rs_ok n)) (by decide) (rs_small hn).1 (by omega) (by omega) (rs_small hn).2).mono ?_
  rintro e w' ⟨E, rfl, hb, hc⟩
  have hz := (rs_say (m := n) (by omega)).1
  rcases hc with ⟨h1, h2, h3⟩ | ⟨h1, h2, h3, h4⟩ | ⟨h1, h2, h3, h4⟩
  · rw [show (⟨4, [1], [], 1⟩ : Venn.Atom) = stA from rfl, hz] at h1
    exact absurd h1 h2
  · subst h3
    exact ⟨by rw [errV_ne (by decide)], hb, h4⟩
  · exact absurd rfl h2
/-- Behind the crash another is said. -/
theorem stops_last (j n safe : Nat) (sv : Value) (w : World) (h : LogG w j 1 (saidF (rs n)) (rsBA n) safe (-1) false) (hs : IsInts w sv [2]) (hn : n ≤ 5) (hk : KindsOk w) (htab : TabOk w) :
    Calls Tryz.prog 11 #[.pointer (some ⟨j, 0, none⟩), .agg #[.int .i64 4, sv, .slice none 0 0, .int .i64 1], .bool true] w
      (fun e w' => e = .returned .nilIface ∧ But (fun b => b = j) w w' ∧ ∃ bs, LogG w' j 1 (saidF (rs n) ++ [Venn.aloneF stC true]) bs safe (-1) false) := by
  refine (logG_SayT j 1 _ _ safe (-1) 4 1 _ _ [2] [] w h hs (IsIntsNil w) hk htab (said_ok (rs_ok n)) (by decide) (rs_small hn).1 (by omega) (by omega) (rs_small hn).2).mono ?_
  rintro e w' ⟨E, rfl, hb, hc⟩
  have hz := (rs_say (m := n) (by omega)).2
  rcases hc with ⟨h1, h2, h3⟩ | ⟨h1, h2, h3, h4⟩ | ⟨h1, h2, h3, h4⟩
  · rw [show (⟨4, [2], [], 1⟩ : Venn.Atom) = stC from rfl, hz] at h1
    exact absurd h1 h2
  · exact absurd h2 (by decide)
  · subst h3
    exact ⟨by rw [errV_zero rfl], hb, _, h4⟩
theorem stops_crash (j m safe : Nat) (part : List UInt8) (keep : Int) (w : World) (h : LogG w j 1 (saidF (rs m)) ⟨(recsB (rs m) ++ part).toArray⟩ safe (-1) true) (hm : m ≤ 5) (hp : (10 : UInt8) ∉ part) (hl : part.length ≤ 100) (hs : safe ≤ (rsBA m).size) :
    Calls Tryz.prog 13 #[.pointer (some ⟨j, 0, none⟩), .int .i64 keep] w (fun e w' => e = .returned (.tuple #[]) ∧ But (fun b => b = j) w w' ∧ ∃ k, k ≤ 5 ∧ LogG w' j 1 (saidF (rs k)) (rsBA k) (rsBA k).size (-1) false) := by
  have hz : (⟨(recsB (rs m) ++ part).toArray⟩ : ByteArray).size = 10 * m + part.length := by
    show (recsB (rs m) ++ part).toArray.size = _
    rw [List.size_toArray, List.length_append, rsB_len]
  rw [rsBA_size] at hs
  refine (logG_Crash j 1 (rs m) part _ safe (-1) true keep w h rfl hp (rs_ok m) (by rw [hz]; omega) (by rw [hz]; omega)).mono ?_
  rintro e w' ⟨he, hb, hg⟩
  have hw := wholeN_le (rs m) (keptM (⟨(recsB (rs m) ++ part).toArray⟩ : ByteArray).size safe keep)
  generalize wholeN (rs m) (keptM (⟨(recsB (rs m) ++ part).toArray⟩ : ByteArray).size safe keep) = k at hg hw
  rw [rs_len] at hw
  rw [rs_take m k hw] at hg
  exact ⟨he, hb, k, by omega, hg⟩
/-- The list at the end, and what is looked at in it. -/
structure StopsEnd (w : World) (A : Option Addr) (k : Nat) : Prop where
  some : ∃ ad a2 c2 C cC a3 c3, A = some ad ∧ w.cell? (ad.add (k * 2)) = some (.slice (some a2) 1 c2) ∧ w.cell? ⟨(ad.add (k * 2)).block, (ad.add (k * 2)).off + 1, none⟩ = some (.slice C 1 cC) ∧
    IsAtoms w (.slice (some a2) 1 c2) [stC] ∧ IsInts w (.slice C 1 cC) [0] ∧ w.cell? ⟨a2.block, a2.off + 1, none⟩ = some (.slice (some a3) 1 c3) ∧ w.cell? a3 = some (.int .i64 2)
theorem said_end (k : Nat) : (saidF (rs k) ++ [Venn.aloneF stC true]).length = k + 1 ∧ (saidF (rs k) ++ [Venn.aloneF stC true])[k]? = some ⟨[stC], [0]⟩ := by
  have h : (saidF (rs k)).length = k := by rw [rs_said, List.length_replicate]
  refine ⟨by rw [List.length_append, h]; rfl, ?_⟩
  rw [List.getElem?_append_right (by omega), h, Nat.sub_self]
  rfl
theorem said_end_ok (k : Nat) : ∀ f ∈ saidF (rs k) ++ [Venn.aloneF stC true], Venn.formChk f = 0 := fun f hf => by
  rcases List.mem_append.1 hf with h | h
  · exact said_ok (rs_ok k) f h
  · rw [List.mem_singleton.1 h]
    exact alone_okG stC_ok true
theorem stops_end (j k : Nat) (bs : ByteArray) (safe : Nat) (w : World) (h : LogG w j 1 (saidF (rs k) ++ [Venn.aloneF stC true]) bs safe (-1) false) (hk : k ≤ 5) :
    Calls Tryz.prog 14 #[.pointer (some ⟨j, 0, none⟩)] w (fun e w' => ∃ A c, e = .returned (.slice A (k + 1) c) ∧ Below w.heap.size w w' ∧ StopsEnd w' A k) := by
  refine (logG_All j 1 _ bs safe (-1) false w h (said_end_ok k) (by rw [(said_end k).1]; omega)).mono ?_
  rintro e w' ⟨A, n, c, rfl, hb, A', c', hv, hr, -⟩
  rw [(said_end k).1] at hv
  cases hv
  obtain ⟨ad, sa, sc, rfl, h0, h1, ha, hc⟩ := hr k _ (said_end k).2
  refine ⟨_, c, rfl, hb, ⟨?_⟩⟩
  obtain ⟨A2, c2, rfl, hr2, -⟩ := id ha
  obtain ⟨C, cC, rfl, -⟩ := id hc
  obtain ⟨a2, sv, tv, rfl, -, g1, -, -, gs, -⟩ := hr2 0 stC rfl
  obtain ⟨A3, c3, rfl, hr3, -⟩ := id gs
  obtain ⟨a3, rfl, g3⟩ := hr3 0 _ rfl
  rw [Nat.zero_mul, add0] at g1
  rw [add0] at g3
  exact ⟨ad, a2, c2, C, cC, a3, c3, rfl, h0, h1, ha, hc, g1, g3⟩
theorem stops_count (j k : Nat) (bs : ByteArray) (safe : Nat) (w : World) (h : LogG w j 1 (saidF (rs k)) bs safe (-1) false) (hk : k ≤ 5) :
    Calls Tryz.prog 14 #[.pointer (some ⟨j, 0, none⟩)] w (fun e w' => ∃ A c, e = .returned (.slice A k c) ∧ Below w.heap.size w w') := by
  have hl : (saidF (rs k)).length = k := by rw [rs_said, List.length_replicate]
  refine (logG_All j 1 _ bs safe (-1) false w h (said_ok (rs_ok k)) (by rw [hl]; omega)).mono ?_
  rintro e w' ⟨A, n, c, rfl, hb, A', c', hv, -⟩
  rw [hl] at hv
  cases hv
  exact ⟨_, _, rfl, hb⟩
end Go.Proofs.YtcloppcekbdbaaaGreatDoor
