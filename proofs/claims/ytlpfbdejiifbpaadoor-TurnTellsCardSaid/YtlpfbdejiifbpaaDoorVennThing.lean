/-
  THE PLAIN SIDE of a world of other things, bit by bit with '+': what TurnTells reckons.
-/
import Derived.Test.YtlpfbdejiifbpaaDoorVennOnce
namespace Venn
theorem or_free : ∀ (x : Fin 64) (T : Fin 6), Nat.testBit x.val T.val = false → x.val ||| 2 ^ T.val = x.val + 2 ^ T.val ∧ x.val + 2 ^ T.val ≤ 63 := by decide +kernel
theorem orBit_free {acc : Int} (ha : 0 ≤ acc ∧ acc ≤ 63) {S k T : Nat} (hT : T ≤ 5) (hb : bit acc T = false) :
    orBit acc S k (T : Int) = (if S.testBit k = true then acc + ((2 ^ T : Nat) : Int) else acc) ∧ orBit acc S k (T : Int) ≤ 63 := by
  obtain ⟨A, rfl⟩ := Int.eq_ofNat_of_zero_le ha.1
  unfold bit at hb
  unfold orBit
  rw [Int.toNat_natCast] at hb ⊢
  rw [Int.toNat_natCast]
  have hb2 : S / 2 ^ k % 2 = (S.testBit k).toNat := by rw [Nat.testBit_eq_decide_div_mod_eq]; rcases Nat.mod_two_eq_zero_or_one (S / 2 ^ k) with h | h <;> simp [h]
  rw [hb2]
  cases S.testBit k
  · simp
    have := ha.2
    omega
  · obtain ⟨e1, e2⟩ := or_free ⟨A, by omega⟩ ⟨T, by omega⟩ hb
    simp only at e1 e2
    have e3 : A ||| (true.toNat * 2 ^ T) = A + 2 ^ T := by rw [show true.toNat * 2 ^ T = 2 ^ T by simp]; exact e1
    rw [e3, if_pos rfl]
    exact ⟨by push_cast; rfl, by exact_mod_cast e2⟩
/-- One set while the things come. -/
structure ThInv (s : Int) (q : List Int) (k : Nat) (acc : Int) : Prop where
  lo : 0 ≤ acc
  hi : acc ≤ 63
  free : ∀ t ∈ q.drop k, bit acc t.toNat = false
  go : thingsS s k (q.drop k) acc = thingsS s 0 q 0
theorem ThInv.start (s : Int) (q : List Int) : ThInv s q 0 0 := ⟨by decide, by decide, fun t _ => by simp [bit], rfl⟩
theorem ThInv.done {s : Int} {q : List Int} {acc : Int} (h : ThInv s q q.length acc) : acc = thingsS s 0 q 0 := by
  rw [← h.go, List.drop_length]
  rfl
def thStep (s : Int) (k T : Nat) (acc : Int) : Int := if bit s k = true then acc + ((2 ^ T : Nat) : Int) else acc
theorem ThInv.step {s : Int} {q : List Int} {k T : Nat} {acc : Int} (h : ThInv s q k acc) (ho : q.Nodup) (hm : ∀ x ∈ q, 0 ≤ x) (hk : q[k]? = some (T : Int)) (hT : T ≤ 5) : ThInv s q (k + 1) (thStep s k T acc) := by
  have hlt : k < q.length := by
    rcases Nat.lt_or_ge k q.length with h' | h'
    · exact h'
    · rw [List.getElem?_eq_none h'] at hk; cases hk
  have hdr : q.drop k = (T : Int) :: q.drop (k + 1) := by
    rw [List.drop_eq_getElem_cons hlt]
    rw [List.getElem?_eq_getElem hlt] at hk
    injection hk with hk
    rw [hk]
  have hnd : (q.drop k).Nodup := ho.sublist (List.drop_sublist k q)
  rw [hdr] at hnd
  have hf := h.free T (by rw [hdr]; simp)
  rw [Int.toNat_natCast] at hf
  obtain ⟨e1, e2⟩ := orBit_free (S := s.toNat) (k := k) ⟨h.lo, h.hi⟩ hT hf
  have e3 : orBit acc s.toNat k (T : Int) = thStep s k T acc := e1
  have e4 : 0 ≤ thStep s k T acc := by rw [← e3]; exact orBit_pos _ _ _ _
  refine ⟨e4, by rw [← e3]; exact e2, ?_, ?_⟩
  · intro t ht
    have h1 := h.free t (by rw [hdr]; exact List.mem_cons_of_mem _ ht)
    have h2 : t ≠ (T : Int) := fun e => (List.nodup_cons.1 hnd).1 (e ▸ ht)
    have h3 := hm t (List.mem_of_mem_drop ht)
    rw [← e3, bit_orB, h1, Bool.false_or]
    have : ¬ T = t.toNat := by omega
    simp [this]
  · rw [← e3, ← h.go, hdr]
    rfl
end Venn
