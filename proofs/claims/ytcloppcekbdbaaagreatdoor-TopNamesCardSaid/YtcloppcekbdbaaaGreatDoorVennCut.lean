/-
  THE PLAIN SIDE of texts cut at a byte, and of numbers of two digits. No program.
-/
import Derived.Lib.SplitLaws
import Derived.Lib.AtoiAllCases
import Derived.Lib.ItoaMem
import Derived.Lib.Join
namespace Venn
open Go

/-- A text cut at each byte c. -/
def cutL (c : UInt8) : List UInt8 → List (List UInt8)
  | [] => [[]]
  | b :: r => if b = c then [] :: cutL c r else ((b :: (cutL c r).headD []) :: (cutL c r).tail)
theorem cutL_ne (c : UInt8) : ∀ l, cutL c l ≠ []
  | [] => by simp [cutL]
  | b :: r => by unfold cutL; split <;> simp
theorem cutL_none {c : UInt8} : ∀ {l : List UInt8}, c ∉ l → cutL c l = [l]
  | [], _ => rfl
  | b :: r, h => by
    have hb : b ≠ c := fun e => h (by rw [e]; exact List.mem_cons_self ..)
    rw [cutL, if_neg hb, cutL_none fun hm => h (List.mem_cons_of_mem _ hm)]; rfl
theorem cutL_app {c : UInt8} : ∀ {a : List UInt8}, c ∉ a → ∀ r, cutL c (a ++ c :: r) = a :: cutL c r
  | [], _, r => by rw [List.nil_append, cutL, if_pos rfl]
  | b :: a, h, r => by
    have hb : b ≠ c := fun e => h (by rw [e]; exact List.mem_cons_self ..)
    rw [List.cons_append, cutL, if_neg hb, cutL_app (fun hm => h (List.mem_cons_of_mem _ hm)) r]; rfl
theorem join_two (x y : List UInt8) (r : List (List UInt8)) (sep : List UInt8) : Lib.join (x :: y :: r) sep = x ++ sep ++ Lib.join (y :: r) sep := by
  unfold Lib.join
  rw [List.intercalate_cons_cons]
theorem join_cut (c : UInt8) : ∀ l, Lib.join (cutL c l) [c] = l
  | [] => by rw [cutL, Lib.join_one]
  | b :: r => by
    have ih := join_cut c r
    unfold cutL
    cases h : cutL c r with
    | nil => exact absurd h (cutL_ne c r)
    | cons x t =>
      rw [h] at ih
      split
      · rename_i e; subst e
        rw [join_two, ih]; rfl
      · cases t with
        | nil => rw [Lib.join_one] at ih; show Lib.join [b :: x] [c] = _; rw [Lib.join_one, ih]
        | cons y t => rw [join_two] at ih; show Lib.join ((b :: x) :: y :: t) [c] = _; rw [join_two, List.cons_append, List.cons_append, ih]
theorem cut_join {c : UInt8} : ∀ {xs : List (List UInt8)}, xs ≠ [] → (∀ x ∈ xs, c ∉ x) → cutL c (Lib.join xs [c]) = xs
  | [], h, _ => absurd rfl h
  | [x], _, h => by rw [Lib.join_one, cutL_none (h x (by simp))]
  | x :: y :: r, _, h => by
    rw [join_two, List.append_assoc, List.singleton_append, cutL_app (h x (by simp)), cut_join (by simp) (fun z hz => h z (List.mem_cons_of_mem _ hz))]
theorem cutL_length (c : UInt8) : ∀ l, (cutL c l).length = l.count c + 1
  | [] => rfl
  | b :: r => by
    have ih := cutL_length c r
    unfold cutL
    split
    · rename_i e; subst e; simp [ih]
    · rename_i e
      have : (b == c) = false := by simpa using e
      rw [List.count_cons, this]
      simp [ih]
theorem cutL_size (c : UInt8) : ∀ l, ∀ x ∈ cutL c l, x.length ≤ l.length
  | [], x, h => by simp [cutL] at h; subst h; exact Nat.le_refl _
  | b :: r, x, h => by
    have ih := cutL_size c r
    unfold cutL at h
    split at h
    · rcases List.mem_cons.1 h with rfl | h
      · simp
      · have := ih x h; simp; omega
    · cases hr : cutL c r with
      | nil => exact absurd hr (cutL_ne c r)
      | cons y t =>
        rw [hr] at h ih
        rcases List.mem_cons.1 h with rfl | h
        · have := ih y (by simp); simpa using this
        · have := ih x (List.mem_cons_of_mem _ h); simp; omega
/-- A piece of a text, and what it is cut into: one byte on. -/
theorem cutL_snoc (c : UInt8) (b : UInt8) : ∀ l, cutL c (l ++ [b]) = if b = c then cutL c l ++ [[]] else (cutL c l).dropLast ++ [(cutL c l).getLastD [] ++ [b]]
  | [] => by
    unfold cutL
    by_cases h : b = c
    · rw [if_pos h]; simp [h, cutL]
    · simp [h, cutL]
  | a :: l => by
    have ih := cutL_snoc c b l
    rw [List.cons_append, cutL, cutL, ih]
    cases hl : cutL c l with
    | nil => exact absurd hl (cutL_ne c l)
    | cons x t =>
      by_cases hb : b = c
      · simp only [if_pos hb]
        by_cases ha : a = c
        · simp [if_pos ha]
        · simp [if_neg ha]
      · simp only [if_neg hb]
        by_cases ha : a = c
        · simp [if_pos ha]
        · cases t with
          | nil => simp [if_neg ha]
          | cons y t => simp [if_neg ha]
theorem index_nil (c : UInt8) : Lib.index [] [c] = -1 := rfl
theorem index_same (c : UInt8) (l : List UInt8) : Lib.index (c :: l) [c] = ((0 : Nat) : Int) := by rw [Lib.index]; simp [List.isPrefixOf]
theorem index_other (b c : UInt8) (l : List UInt8) (h : b ≠ c) : Lib.index (b :: l) [c] = if Lib.index l [c] == -1 then -1 else Lib.index l [c] + 1 := by
  have hp : ([c] : List UInt8).isPrefixOf (b :: l) = false := by simp [List.isPrefixOf, Ne.symm h]
  rw [Lib.index, hp]; simp
/-- strings.Split cuts at each byte. -/
theorem splitK_cut (c : UInt8) : ∀ l : List UInt8, Lib.splitK [c] 0 (Lib.count l [c]) l = cutL c l
  | [] => by rw [Lib.count_miss (index_nil c)]; rfl
  | b :: l => by
    have ih := splitK_cut c l
    by_cases h : b = c
    · subst h
      rw [Lib.count_cons_eq, Nat.add_comm, Lib.splitK, index_same]
      rw [cutL, if_pos rfl, ← ih]
      simp
    · rw [Lib.count_cons_ne b c l h, cutL, if_neg h, ← ih]
      by_cases hm : Lib.index l [c] = -1
      · rw [Lib.count_miss hm]; rfl
      · have hge := Lib.index_ge l [c]
        obtain ⟨j, hj⟩ : ∃ j : Nat, Lib.index l [c] = j := ⟨(Lib.index l [c]).toNat, by omega⟩
        have hj' : Lib.index (b :: l) [c] = ((j + 1 : Nat) : Int) := by rw [index_other b c l h, if_neg (fun e => hm (beq_iff_eq.1 e)), hj]; omega
        have n1 : ¬ ((j : Int) == -1) = true := fun e => by have := beq_iff_eq.1 e; omega
        have n2 : ¬ (((j + 1 : Nat) : Int) == -1) = true := fun e => by have := beq_iff_eq.1 e; omega
        rw [Lib.count_hit (by simp) hj, Nat.add_comm, Lib.splitK, Lib.splitK, hj, hj', if_neg n1, if_neg n2]
        simp
theorem splitB_cut (c : UInt8) (s : ByteArray) : (Lib.splitB ⟨#[c]⟩ 0 (Lib.countB s ⟨#[c]⟩) s).map (·.data.toList) = cutL c s.data.toList := by
  rw [Lib.splitB_data]
  exact splitK_cut c _

/-- Is a byte a digit? -/
def dig (b : UInt8) : Bool := decide (48 ≤ b.toNat) && decide (b.toNat ≤ 57)
/-- A number of at most two digits, without a needless 0. -/
def num2 : List UInt8 → Option Nat
  | [a] => if dig a = true then some (a.toNat - 48) else none
  | [a, b] => if (dig a && dig b && decide (a.toNat ≠ 48)) = true then some (10 * (a.toNat - 48) + (b.toNat - 48)) else none
  | _ => none
/-- .. with a sign ahead, perhaps; no 0 with a sign. -/
def readNum (l : List UInt8) : Option Int :=
  if l.head? = some 45 then match num2 l.tail with | some n => if n = 0 then none else some (-(n : Int)) | none => none
  else (num2 l).map Int.ofNat
theorem dig_byte {a : UInt8} (h : dig a = true) : ∃ i : Fin 10, a = UInt8.ofNat (48 + i.val) ∧ a.toNat = 48 + i.val := by
  unfold dig at h
  simp only [Bool.and_eq_true, decide_eq_true_eq] at h
  have : a.toNat = 48 + (a.toNat - 48) := by omega
  refine ⟨⟨a.toNat - 48, by omega⟩, ?_, this⟩
  rw [← UInt8.toNat_inj]
  simp
  omega
theorem itoa_back : ∀ i : Fin 199, readNum (Lib.itoa ((i.val : Int) - 99)) = some ((i.val : Int) - 99) := by decide +kernel
theorem num2_itoa {l : List UInt8} {n : Nat} (h : num2 l = some n) : n < 100 ∧ Lib.decDigits n = l := by
  unfold num2 at h
  split at h
  · rename_i a
    split at h
    · rename_i hd
      obtain ⟨i, e, e2⟩ := dig_byte hd
      obtain rfl := Option.some.inj h
      rw [e2, Nat.add_sub_cancel_left]
      refine ⟨by omega, ?_⟩
      rw [Lib.decDigits_one i.isLt, e]
    · cases h
  · rename_i a b
    split at h
    · rename_i hd
      simp only [Bool.and_eq_true, decide_eq_true_eq] at hd
      obtain ⟨⟨h1, h2⟩, h3⟩ := hd
      obtain ⟨i, e, e2⟩ := dig_byte h1
      obtain ⟨j, e', e2'⟩ := dig_byte h2
      obtain rfl := Option.some.inj h
      rw [e2, e2', Nat.add_sub_cancel_left, Nat.add_sub_cancel_left]
      refine ⟨by omega, ?_⟩
      rw [Lib.decDigits_two (by omega) (by omega), e, e']
      congr 2
      · omega
      · congr 1; omega
    · cases h
  · cases h
theorem readNum_itoa {l : List UInt8} {v : Int} (h : readNum l = some v) : -100 < v ∧ v < 100 ∧ Lib.itoa v = l := by
  unfold readNum at h
  split at h
  · rename_i hh
    split at h
    · rename_i n hn
      obtain ⟨h1, h2⟩ := num2_itoa hn
      split at h
      · cases h
      · rename_i h0
        obtain rfl := Option.some.inj h
        refine ⟨by omega, by omega, ?_⟩
        rw [Lib.itoa_neg n (by omega), h2]
        cases l with
        | nil => cases hh
        | cons a t => simp at hh; rw [hh]; rfl
    · cases h
  · obtain ⟨n, hn, rfl⟩ := Option.map_eq_some_iff.1 h
    obtain ⟨h1, h2⟩ := num2_itoa hn
    refine ⟨by simp; omega, by simp; omega, ?_⟩
    show Lib.itoa (n : Int) = l
    rw [Lib.itoa_nonneg, h2]
end Venn
