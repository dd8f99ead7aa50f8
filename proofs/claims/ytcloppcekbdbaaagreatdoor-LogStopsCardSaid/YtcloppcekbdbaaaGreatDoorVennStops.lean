/-
  THE PLAIN SIDE of LogStops.
-/
import Derived.Test.YtcloppcekbdbaaaGreatDoorLogGSay
import Derived.Test.YtcloppcekbdbaaaGreatDoorLogGAll
import Derived.Test.YtcloppcekbdbaaaGreatDoorVennP2
namespace Go.Proofs.YtcloppcekbdbaaaGreatDoor
open Go.RowKit

def stA : Venn.Atom := ⟨4, [1], [], 1⟩
def stC : Venn.Atom := ⟨4, [2], [], 1⟩
/-- So many times the same was said. -/
def rs (m : Nat) : List Rec := List.replicate m (stA, true)
theorem stA_ok : Venn.atomChk stA = 0 := by decide +kernel
theorem stC_ok : Venn.atomChk stC = 0 := by decide +kernel
theorem rs_ok (m : Nat) : ∀ r ∈ rs m, Venn.atomChk r.1 = 0 := fun r hr => by rw [(List.mem_replicate.1 hr).2]; exact stA_ok
theorem rs_said (m : Nat) : saidF (rs m) = List.replicate m (Venn.aloneF stA true) := by unfold saidF rs; rw [List.map_replicate]
theorem said_ok {l : List Rec} (h : ∀ r ∈ l, Venn.atomChk r.1 = 0) : ∀ f ∈ saidF l, Venn.formChk f = 0 := fun f hf => by
  obtain ⟨r, hr, rfl⟩ := List.mem_map.1 hf
  exact alone_okG (h r hr) r.2
set_option maxRecDepth 1000000 in
theorem open_st : ∀ m : Fin 6, Venn.openV (List.replicate m.val (Venn.aloneF stA true) ++ [Venn.aloneF stA true]) 1 = true ∧ Venn.openV (List.replicate m.val (Venn.aloneF stA true) ++ [Venn.aloneF stC true]) 1 = true := by decide +kernel
theorem rs_say {m : Nat} (h : m < 6) : sayE stA true 1 (saidF (rs m)) = 0 ∧ sayE stC true 1 (saidF (rs m)) = 0 := by
  obtain ⟨h1, h2⟩ := open_st ⟨m, h⟩
  rw [rs_said]
  unfold sayE
  constructor
  · rw [if_neg (by rw [stA_ok]; simp), if_neg (by simp; omega), if_pos h1]
  · rw [if_neg (by rw [stC_ok]; simp), if_neg (by simp; omega), if_pos h2]
theorem say_zero (u : Int) (ls : List Venn.Form) : sayE ⟨0, [], [], 0⟩ true u ls = 1 := by
  unfold sayE
  rw [if_pos (by decide)]
  decide
theorem rs_len (m : Nat) : (rs m).length = m := by simp [rs]
theorem rs_snoc (m : Nat) : rs (m + 1) = rs m ++ [(stA, true)] := by unfold rs; rw [List.replicate_succ']
theorem rs_take (m k : Nat) (h : k ≤ m) : (rs m).take k = rs k := by unfold rs; rw [List.take_replicate, Nat.min_eq_left h]
theorem stA_text : textA stA = [109, 111, 115, 116, 32, 66, 32, 49] := by decide +kernel
theorem rec_len : (recB (stA, true)).length = 10 := by rw [recB_len, stA_text]; rfl
theorem rsB_len : ∀ m : Nat, (recsB (rs m)).length = 10 * m
  | 0 => rfl
  | m + 1 => by rw [rs_snoc, recsB_app, recsB_one, List.length_append, rsB_len m, rec_len]; omega
/-- The bytes behind m records. -/
def rsBA (m : Nat) : ByteArray := ⟨(recsB (rs m)).toArray⟩
theorem ba_cat (a b : List UInt8) : (⟨a.toArray⟩ : ByteArray) ++ ⟨b.toArray⟩ = ⟨(a ++ b).toArray⟩ := by
  apply ByteArray.ext
  simp
theorem rsBA_snoc (m : Nat) : rsBA m ++ recBA stA true = rsBA (m + 1) := by
  unfold rsBA recBA
  rw [ba_cat, rs_snoc, recsB_app, recsB_one]
theorem rsBA_size (m : Nat) : (rsBA m).size = 10 * m := by
  show (recsB (rs m)).toArray.size = _
  rw [List.size_toArray, rsB_len]
def stHalf : List UInt8 := (recB (stA, true)).take 5
theorem half_st : halfBA stA true = ⟨stHalf.toArray⟩ := by
  have h : (recBA stA true).size = 10 := by show (recB (stA, true)).toArray.size = 10; rw [List.size_toArray, rec_len]
  unfold halfBA
  rw [h]
  apply ByteArray.ext
  apply Array.toList_inj.1
  rw [Lib.extract_from_zero]
  simp [stHalf, recBA]
theorem half_none : (10 : UInt8) ∉ stHalf := by
  have : stHalf = [43, 109, 111, 115, 116] := by unfold stHalf recB; rw [stA_text]; rfl
  rw [this]
  decide
theorem stHalf_len : stHalf.length = 5 := by unfold stHalf; rw [List.length_take, rec_len]; rfl
/-- How the log stands behind n steps of the first kind. -/
def StopSt (w : World) (j Af n : Nat) : Prop :=
  (n ≤ Af ∧ LogG w j 1 (saidF (rs n)) (rsBA n) 0 ((Af : Int) - (n : Int)) false) ∨ (Af < n ∧ LogG w j 1 (saidF (rs Af)) (rsBA Af ++ halfBA stA true) 0 (-1) true)
/-- .. and behind n steps of both kinds. -/
def StopSt2 (w : World) (j Af n : Nat) : Prop :=
  (n ≤ Af ∧ ∃ m safe, m ≤ 5 ∧ safe ≤ (rsBA m).size ∧ LogG w j 1 (saidF (rs m)) (rsBA m) safe ((Af : Int) - (n : Int)) false) ∨
  (Af < n ∧ ∃ m part safe, m ≤ 5 ∧ (10 : UInt8) ∉ part ∧ part.length ≤ 100 ∧ safe ≤ (rsBA m).size ∧ LogG w j 1 (saidF (rs m)) ⟨(recsB (rs m) ++ part).toArray⟩ safe (-1) true)
theorem StopSt.two {w : World} {j Af n : Nat} (h : StopSt w j Af n) (hn : n ≤ 5) (ha : Af ≤ 5) : StopSt2 w j Af n := by
  rcases h with ⟨h1, h2⟩ | ⟨h1, h2⟩
  · exact .inl ⟨h1, n, 0, hn, Nat.zero_le _, h2⟩
  · refine .inr ⟨h1, Af, stHalf, 0, ha, half_none, by rw [stHalf_len]; decide, Nat.zero_le _, ?_⟩
    rw [half_st] at h2
    unfold rsBA at h2
    rwa [ba_cat] at h2
end Go.Proofs.YtcloppcekbdbaaaGreatDoor
