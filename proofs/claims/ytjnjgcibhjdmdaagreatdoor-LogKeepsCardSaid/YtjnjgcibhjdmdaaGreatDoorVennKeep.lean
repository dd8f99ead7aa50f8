/-
  THE PLAIN SIDE of the log: records, and what is left of them behind a crash.
-/
import Derived.Test.YtjnjgcibhjdmdaaGreatDoorVennTen
import Derived.Test.YtjnjgcibhjdmdaaGreatDoorLogAlone
import Derived.Lib.LastIndexByte
namespace Go.Proofs.YtjnjgcibhjdmdaaGreatDoor
open Go.RowKit

/-- A record: an atom, and whether it holds. -/
abbrev Rec := Venn.Atom × Bool
def recB (r : Rec) : List UInt8 := (if r.2 = true then [43] else [45]) ++ (textA r.1 ++ [10])
def recsB (l : List Rec) : List UInt8 := l.flatMap recB
def saidF (l : List Rec) : List Venn.Form := l.map fun r => Venn.aloneF r.1 r.2
theorem recB_len (r : Rec) : (recB r).length = (textA r.1).length + 2 := by
  unfold recB
  split <;> simp
theorem recsB_app (l m : List Rec) : recsB (l ++ m) = recsB l ++ recsB m := by unfold recsB; rw [List.flatMap_append]
theorem recsB_one (r : Rec) : recsB [r] = recB r := by simp [recsB]
theorem recsB_cons (r : Rec) (l : List Rec) : recsB (r :: l) = recB r ++ recsB l := by simp [recsB]
/-- A record ends with the only line's end in it. -/
theorem recB_parts {r : Rec} (h : Venn.atomChk r.1 = 0) : ∃ x, recB r = x ++ [10] ∧ (10 : UInt8) ∉ x := by
  refine ⟨(if r.2 = true then [43] else [45]) ++ textA r.1, by rw [recB, List.append_assoc], ?_⟩
  intro hm
  rcases List.mem_append.1 hm with hm | hm
  · split at hm
    · exact absurd hm (by decide)
    · exact absurd hm (by decide)
  · exact textA_none h hm
/-- So many records are whole in the first m bytes. -/
def wholeN : List Rec → Nat → Nat
  | [], _ => 0
  | r :: l, m => if m < (recB r).length then 0 else wholeN l (m - (recB r).length) + 1
theorem wholeN_le : ∀ (l : List Rec) (m : Nat), wholeN l m ≤ l.length
  | [], _ => Nat.le_refl _
  | r :: l, m => by
    unfold wholeN
    split
    · exact Nat.zero_le _
    · have := wholeN_le l (m - (recB r).length)
      simp only [List.length_cons]; omega
theorem whole_spec : ∀ (l : List Rec) (m i : Nat), i ≤ l.length → ((recsB (l.take i)).length ≤ m ↔ i ≤ wholeN l m)
  | [], m, i, h => by
    have : i = 0 := by simpa using h
    subst this
    simp [recsB, wholeN]
  | r :: l, m, 0, _ => by simp [recsB]
  | r :: l, m, i + 1, h => by
    have ih := whole_spec l (m - (recB r).length) i (by simpa using h)
    rw [List.take_succ_cons, recsB_cons, List.length_append, wholeN]
    split
    · omega
    · omega
theorem keep_cut : ∀ (l : List Rec) (p : List UInt8) (m : Nat), (∀ r ∈ l, Venn.atomChk r.1 = 0) → (10 : UInt8) ∉ p →
    ∃ t, (10 : UInt8) ∉ t ∧ (recsB l ++ p).take m = recsB (l.take (wholeN l m)) ++ t
  | [], p, m, _, hp => ⟨p.take m, fun h => hp (List.mem_of_mem_take h), by simp [recsB]⟩
  | r :: l, p, m, h, hp => by
    obtain ⟨x, hx, hn⟩ := recB_parts (h r (by simp))
    rw [recsB_cons, List.append_assoc, wholeN]
    split
    · rename_i hm
      refine ⟨(recB r).take m, ?_, ?_⟩
      · rw [hx] at hm ⊢
        simp only [List.length_append, List.length_cons, List.length_nil] at hm
        rw [List.take_append_of_le_length (by omega)]
        exact fun h => hn (List.mem_of_mem_take h)
      · rw [List.take_append_of_le_length (by omega)]
        simp [recsB]
    · rename_i hm
      obtain ⟨t, ht, e⟩ := keep_cut l p (m - (recB r).length) (fun x hx => h x (List.mem_cons_of_mem _ hx)) hp
      refine ⟨t, ht, ?_⟩
      rw [List.take_append, List.take_of_length_le (by omega), e, List.take_succ_cons, recsB_cons, List.append_assoc]
theorem recs_count : ∀ (l : List Rec), (∀ r ∈ l, Venn.atomChk r.1 = 0) → (recsB l).count 10 = l.length
  | [], _ => rfl
  | r :: l, h => by
    obtain ⟨x, hx, hn⟩ := recB_parts (h r (by simp))
    rw [recsB_cons, List.count_append, recs_count l (fun x hx => h x (List.mem_cons_of_mem _ hx)), hx, List.count_append, List.count_eq_zero.2 hn]
    simp; omega
/-- A text of whole records, or of none, with no line's end behind: the last line's end. -/
theorem recs_last : ∀ {l : List Rec}, (∀ r ∈ l, Venn.atomChk r.1 = 0) → l ≠ [] → ∃ x, recsB l = x ++ [10]
  | [], _, h => absurd rfl h
  | [r], h, _ => by
    obtain ⟨x, hx, _⟩ := recB_parts (h r (by simp))
    exact ⟨x, by rw [recsB_one, hx]⟩
  | r :: s :: l, h, _ => by
    obtain ⟨x, hx⟩ := recs_last (l := s :: l) (fun x hx => h x (List.mem_cons_of_mem _ hx)) (by simp)
    exact ⟨recB r ++ x, by rw [recsB_cons, hx, List.append_assoc]⟩
theorem last_of {s : ByteArray} {x t : List UInt8} (hs : s.data.toList = x ++ [10] ++ t) (ht : (10 : UInt8) ∉ t) : Lib.lastIndexByte s 10 = (x.length : Int) := by
  have hsz : s.size = x.length + 1 + t.length := by rw [show s.size = s.data.toList.length from rfl, hs]; simp; omega
  have hat : ∀ j, (s.data[j]!) = (x ++ [10] ++ t).getD j default := fun j => by
    rw [← hs, List.getD, Array.getElem?_toList]
    simp [Array.getElem!_eq_getD, Array.getD_eq_getD_getElem?]
  rcases Lib.lastIndexByte_spec s 10 with ⟨_, h⟩ | ⟨i, h1, h2, h3, h4⟩
  · exfalso
    have := h x.length (by omega)
    rw [hat] at this
    apply this
    simp [List.getD]
  · rw [h2]
    rw [hat] at h3
    have hle : i ≤ x.length := by
      rcases Nat.lt_or_ge x.length i with hlt | hge
      · exfalso
        rw [List.getD, List.getElem?_append_right (by simp; omega)] at h3
        have hlt2 : i - (x ++ [10]).length < t.length := by simp; omega
        rw [List.getElem?_eq_getElem hlt2] at h3
        have hm := List.getElem_mem hlt2
        have : t[i - (x ++ [10]).length] = 10 := by
          apply UInt8.toNat_inj.1
          have h5 : ((t[i - (x ++ [10]).length].toNat : Nat) : Int) = 10 := h3
          show t[i - (x ++ [10]).length].toNat = 10
          omega
        rw [this] at hm
        exact ht hm
      · exact hge
    have hge : x.length ≤ i := by
      rcases Nat.lt_or_ge i x.length with hlt | hge
      · exfalso
        have := h4 x.length hlt (by omega)
        rw [hat] at this
        apply this
        simp [List.getD]
      · exact hge
    omega
theorem last_none {s : ByteArray} (h : (10 : UInt8) ∉ s.data.toList) : Lib.lastIndexByte s 10 = -1 := by
  rcases Lib.lastIndexByte_spec s 10 with ⟨h1, _⟩ | ⟨i, h1, h2, h3, h4⟩
  · exact h1
  · exfalso
    have hlt : i < s.data.toList.length := h1
    have : s.data[i]! = s.data.toList[i] := by
      rw [Array.getElem!_eq_getD, Array.getD_eq_getD_getElem?, ← Array.getElem?_toList, List.getElem?_eq_getElem hlt]; rfl
    rw [this] at h3
    have e : s.data.toList[i] = 10 := by
      apply UInt8.toNat_inj.1
      show s.data.toList[i].toNat = 10
      omega
    exact h (e ▸ List.getElem_mem hlt)
/-- WHAT IS LEFT BEHIND A CRASH: the whole records among the first m bytes. -/
theorem crash_cut {l : List Rec} {p : List UInt8} {m : Nat} (h : ∀ r ∈ l, Venn.atomChk r.1 = 0) (hp : (10 : UInt8) ∉ p) {b : ByteArray} (hb : b.data.toList = (recsB l ++ p).take m) :
    (Lib.lastIndexByte b 10 + 1).toNat = (recsB (l.take (wholeN l m))).length ∧ -1 ≤ Lib.lastIndexByte b 10 ∧ b.data.toList.take (recsB (l.take (wholeN l m))).length = recsB (l.take (wholeN l m)) := by
  obtain ⟨t, ht, e⟩ := keep_cut l p m h hp
  rw [e] at hb
  have hk : ∀ r ∈ l.take (wholeN l m), Venn.atomChk r.1 = 0 := fun r hr => h r (List.mem_of_mem_take hr)
  generalize l.take (wholeN l m) = k at hb hk
  by_cases hn : k = []
  · subst hn
    rw [last_none (by rw [hb]; simpa [recsB] using ht)]
    simp [recsB]
  · obtain ⟨x, hx⟩ := recs_last hk hn
    rw [hx] at hb ⊢
    rw [last_of hb ht]
    refine ⟨by simp <;> omega, by omega, ?_⟩
    rw [hb, List.take_left' rfl]
end Go.Proofs.YtjnjgcibhjdmdaaGreatDoor
