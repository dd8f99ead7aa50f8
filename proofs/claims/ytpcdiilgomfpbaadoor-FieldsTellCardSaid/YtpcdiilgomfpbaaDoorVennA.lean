/-
  PLAIN LAWS of masks of terms: what is same, part, apart.
-/
import Derived.Test.YtpcdiilgomfpbaaDoorVennM
namespace Venn
def chk2 (s t : List Int) : Int := if termChk s = 0 then termChk t else termChk s
def sameV (s t : List Int) : Bool := decide (chk2 s t = 0) && (mask s == mask t)
def partV (s t : List Int) : Bool := decide (chk2 s t = 0) && (((andNot (mask s).toNat (mask t).toNat : Nat) : Int) == 0)
def apartV (s t : List Int) : Bool := decide (chk2 s t = 0) && ((((mask s).toNat &&& (mask t).toNat : Nat) : Int) == 0)
theorem mask_range (t : List Int) : 0 ≤ mask t ∧ mask t ≤ 255 := by
  have := maskTo_lt t 8
  unfold mask
  omega
theorem termSet_not (t : List Int) (w : World) (h : (t.foldl (setStep w) []).length = 1) : termSet (t ++ [8]) w = setOf 8 w.things (termSet t w) 0 := by
  unfold termSet
  rw [List.foldl_append]
  cases hc : t.foldl (setStep w) [] with
  | nil => rw [hc] at h; simp at h
  | cons x r => simp [setStep]
theorem foldl_length {w : World} : ∀ (t : List Int) (st : List Int), (∀ x ∈ t, 0 ≤ x ∧ x ≤ 8) → shapeGo st.length t = 0 → (t.foldl (setStep w) st).length = 1
  | [], st, _, h => by
    simp only [shapeGo] at h
    split at h
    · simp; omega
    · simp at h
  | x :: r, st, hb, h => by
    obtain ⟨h1, h2⟩ := shape_step h
    refine foldl_length r _ (fun y hy => hb y (by simp [hy])) ?_
    rw [setStep_length (hb x (by simp)) h1]
    exact h2
theorem termChk_parts {t : List Int} (h : termChk t = 0) : t.length ≠ 0 ∧ t.length ≤ 12 ∧ (∀ x ∈ t, 0 ≤ x ∧ x ≤ 8) ∧ shapeGo 0 t = 0 := by
  unfold termChk at h
  split at h
  · simp at h
  split at h
  · simp at h
  split at h
  · simp at h
  · rename_i h1 h2 h3
    refine ⟨h1, by omega, fun x hx => ?_, h⟩
    have h3' : t.any badSign = false := by simpa using h3
    have := List.any_eq_false.1 h3' x hx
    simp [badSign] at this
    omega
theorem termChk_mk {t : List Int} (h0 : t.length ≠ 0) (h12 : t.length ≤ 12) (hb : ∀ x ∈ t, 0 ≤ x ∧ x ≤ 8) (hs : shapeGo 0 t = 0) : termChk t = 0 := by
  have h3 : t.any badSign = false := by
    rw [List.any_eq_false]
    intro x hx
    have := hb x hx
    simp [badSign]
    omega
  unfold termChk
  rw [if_neg h0, if_neg (by omega), if_neg (by rw [h3]; simp), hs]
theorem shape_append : ∀ (t r : List Int) (m : Int), shapeGo m t = 0 → shapeGo m (t ++ r) = shapeGo 1 r
  | [], r, m, h => by
    simp only [shapeGo] at h
    split at h
    · rename_i h1; rw [h1]; rfl
    · simp at h
  | x :: t, r, m, h => by
    obtain ⟨h1, h2⟩ := shape_step h
    rw [List.cons_append, shapeGo, if_neg (by omega)]
    exact shape_append t r _ h2
theorem termChk_not {t : List Int} (h : termChk t = 0) (hl : t.length ≤ 11) : termChk (t ++ [8]) = 0 := by
  obtain ⟨h0, _, hb, hs⟩ := termChk_parts h
  refine termChk_mk (by simp) (by simp; omega) ?_ ?_
  · intro x hx
    rcases List.mem_append.1 hx with h | h
    · exact hb x h
    · simp at h; omega
  · rw [shape_append _ _ _ hs]; rfl
theorem not_01 : ∀ x : Fin 2, setOf 8 1 (x.val : Int) 0 = 1 - (x.val : Int) := by decide +kernel
theorem lies_not {t : List Int} (h : termChk t = 0) (f : Nat) : lies (t ++ [8]) f = 1 - lies t f := by
  obtain ⟨_, _, hb, hs⟩ := termChk_parts h
  have h1 := lies_01 t f
  unfold lies at *
  rw [termSet_not t _ (foldl_length t [] hb hs)]
  generalize termSet t ⟨1, (f % 2 : Nat), (f / 2 % 2 : Nat), (f / 4 % 2 : Nat)⟩ = x at h1 ⊢
  rcases (by omega : x = 0 ∨ x = 1) with rfl | rfl
  · exact not_01 0
  · exact not_01 1
theorem maskTo_not {t : List Int} (h : termChk t = 0) : ∀ f, maskTo (t ++ [8]) f = 2 ^ f - 1 - maskTo t f
  | 0 => by simp [maskTo]
  | f + 1 => by
    unfold maskTo
    rw [maskTo_not h f, lies_not h f, Int.sub_mul, Int.one_mul, Int.pow_succ]
    omega
theorem and_compl : ∀ m : Fin 256, (m.val &&& (255 - m.val)) = 0 := by decide +kernel
theorem andNot_all : ∀ m : Fin 256, andNot m.val 255 = 0 := by decide +kernel
theorem mask_all : mask [4] = 255 := by decide +kernel
theorem apart_not {t : List Int} (h : termChk t = 0) (hl : t.length ≤ 11) : apartV t (t ++ [8]) = true := by
  have h2 := termChk_not h hl
  have hm : mask (t ++ [8]) = 255 - mask t := maskTo_not h 8
  have hr := mask_range t
  have hc := and_compl ⟨(mask t).toNat, by omega⟩
  unfold apartV chk2
  rw [if_pos h, hm, show (255 - mask t).toNat = 255 - (mask t).toNat by omega, hc, h2]
  rfl
theorem part_all {t : List Int} (h : termChk t = 0) : partV t [4] = true := by
  have hr := mask_range t
  have hc := andNot_all ⟨(mask t).toNat, by omega⟩
  unfold partV chk2
  rw [if_pos h, mask_all, show ((255 : Int)).toNat = 255 from rfl, hc]
  rfl
theorem same_self {t : List Int} (h : termChk t = 0) : sameV t t = true := by
  unfold sameV chk2
  rw [if_pos h, h]
  simp
end Venn
