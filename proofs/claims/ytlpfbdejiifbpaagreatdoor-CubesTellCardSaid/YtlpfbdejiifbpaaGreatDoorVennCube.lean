/-
  THE PLAIN SIDE of package cubes: two cubes joined, lists of cubes, the cubes of a formula.
-/
import Derived.Test.YtlpfbdejiifbpaaGreatDoorVennP2
import Derived.Lib.SlicesCompact
import Derived.Sort.Statements
namespace Venn
/-- Has one of two cubes a number? -/
def hasI (a b : List Int) (n : Int) : Bool := a.contains n || b.contains n
def joinN (a b : List Int) (n : Int) : List Int := (if hasI a b n then [n] else []) ++ (if hasI a b (-n) then [-n] else [])
def clash (a b : List Int) (n : Int) : Bool := hasI a b n && hasI a b (-n)
def six : List Int := [1, 2, 3, 4, 5, 6]
/-- Two cubes as one; none: an atom is both ways. -/
def joinV (a b : List Int) : Option (List Int) := if six.any (clash a b) then none else some (six.flatMap (joinN a b))
/-- A member that may be. -/
def mOk (x : Int) : Bool := (decide (1 ≤ x) && decide (x ≤ 6)) || (decide (-6 ≤ x) && decide (x ≤ -1))
theorem mOk_iff {x : Int} : mOk x = true ↔ (1 ≤ x ∧ x ≤ 6) ∨ (-6 ≤ x ∧ x ≤ -1) := by simp [mOk]
/-- Where a member stands: by atoms, the opposite first. -/
def keyM (x : Int) : Int := if 0 < x then 2 * x + 1 else -(2 * x)
theorem keyM_inj {x y : Int} (h : keyM x = keyM y) : x = y := by
  unfold keyM at h
  split at h <;> split at h <;> omega
def Rises (l : List Int) : Prop := l.Pairwise fun x y => keyM x < keyM y
theorem rises_uniq : ∀ {l m : List Int}, Rises l → Rises m → (∀ x, x ∈ l ↔ x ∈ m) → l = m
  | [], [], _, _, _ => rfl
  | [], y :: _, _, _, h => absurd ((h y).2 (by simp)) (by simp)
  | x :: _, [], _, _, h => absurd ((h x).1 (by simp)) (by simp)
  | x :: l, y :: m, hl, hm, h => by
    have hl' := List.pairwise_cons.1 hl
    have hm' := List.pairwise_cons.1 hm
    have hxy : x = y := by
      by_cases e : x = y
      · exact e
      · have h1 : y ∈ l := by
          have := (h y).2 (by simp)
          rcases List.mem_cons.1 this with e' | e'
          · exact absurd e'.symm e
          · exact e'
        have h2 : x ∈ m := by
          have := (h x).1 (by simp)
          rcases List.mem_cons.1 this with e' | e'
          · exact absurd e' e
          · exact e'
        have := hl'.1 y h1
        have := hm'.1 x h2
        omega
    subst hxy
    have hx1 : x ∉ l := fun hx => by have := hl'.1 x hx; omega
    have hx2 : x ∉ m := fun hx => by have := hm'.1 x hx; omega
    congr 1
    refine rises_uniq hl'.2 hm'.2 fun z => ⟨fun hz => ?_, fun hz => ?_⟩
    · rcases List.mem_cons.1 ((h z).1 (List.mem_cons_of_mem _ hz)) with e | e
      · subst e; exact absurd hz hx1
      · exact e
    · rcases List.mem_cons.1 ((h z).2 (List.mem_cons_of_mem _ hz)) with e | e
      · subst e; exact absurd hz hx2
      · exact e
theorem hasI_iff {a b : List Int} {n : Int} : hasI a b n = true ↔ n ∈ a ∨ n ∈ b := by simp [hasI]
theorem six_iff {n : Int} : n ∈ six ↔ 1 ≤ n ∧ n ≤ 6 := by
  simp only [six, List.mem_cons, List.not_mem_nil, or_false]
  omega
theorem joinN_mem {a b : List Int} {n x : Int} : x ∈ joinN a b n ↔ (x = n ∨ x = -n) ∧ (x ∈ a ∨ x ∈ b) := by
  unfold joinN
  rw [List.mem_append]
  constructor
  · rintro (h | h)
    · split at h
      · rename_i h1
        obtain rfl := List.mem_singleton.1 h
        exact ⟨.inl rfl, hasI_iff.1 h1⟩
      · cases h
    · split at h
      · rename_i h1
        obtain rfl := List.mem_singleton.1 h
        exact ⟨.inr rfl, hasI_iff.1 h1⟩
      · cases h
  · rintro ⟨rfl | rfl, h⟩
    · rw [if_pos (hasI_iff.2 h)]; exact .inl (by simp)
    · rw [if_pos (hasI_iff.2 h)]; exact .inr (by simp)
theorem joinL_mem {a b : List Int} {x : Int} : x ∈ six.flatMap (joinN a b) ↔ mOk x = true ∧ (x ∈ a ∨ x ∈ b) := by
  rw [List.mem_flatMap]
  constructor
  · rintro ⟨n, hn, hx⟩
    obtain ⟨h1, h2⟩ := joinN_mem.1 hx
    have := six_iff.1 hn
    refine ⟨mOk_iff.2 ?_, h2⟩
    omega
  · rintro ⟨h1, h2⟩
    have := mOk_iff.1 h1
    by_cases hx : 0 < x
    · exact ⟨x, six_iff.2 (by omega), joinN_mem.2 ⟨.inl rfl, h2⟩⟩
    · exact ⟨-x, six_iff.2 (by omega), joinN_mem.2 ⟨.inr (by omega), h2⟩⟩
theorem joinN_rises {a b : List Int} {n : Int} (h : clash a b n = false) : Rises (joinN a b n) := by
  unfold clash at h
  unfold joinN Rises
  cases h1 : hasI a b n <;> cases h2 : hasI a b (-n) <;> simp_all
theorem pairwise_flat {α β : Type} (R : β → β → Prop) (f : α → List β) : ∀ (l : List α), (∀ n ∈ l, (f n).Pairwise R) → l.Pairwise (fun m n => ∀ x ∈ f m, ∀ y ∈ f n, R x y) → (l.flatMap f).Pairwise R := by
  intro l
  induction l with
  | nil => intro _ _; exact List.Pairwise.nil
  | cons m l ih =>
    intro h1 h2
    obtain ⟨h3, h4⟩ := List.pairwise_cons.1 h2
    rw [List.flatMap_cons]
    refine List.pairwise_append.2 ⟨h1 m (by simp), ih (fun n hn => h1 n (List.mem_cons_of_mem _ hn)) h4, fun x hx y hy => ?_⟩
    obtain ⟨n, hn, hy⟩ := List.mem_flatMap.1 hy
    exact h3 n hn x hx y hy
theorem joinL_rises {a b : List Int} (h : six.any (clash a b) = false) : Rises (six.flatMap (joinN a b)) := by
  refine pairwise_flat _ _ _ (fun n hn => joinN_rises ?_) ?_
  · have := List.any_eq_false.1 h n hn
    simpa using this
  · have : six.Pairwise fun m n => 0 < m ∧ m < n := by unfold six; decide
    refine this.imp fun {m n} hmn x hx y hy => ?_
    have h1 := (joinN_mem.1 hx).1
    have h2 := (joinN_mem.1 hy).1
    unfold keyM
    split <;> split <;> omega
/-- The first of two neighbours is the other's opposite. -/
def adjBad (l : List Int) : Bool := (List.range l.length).any fun i => decide (1 ≤ i) && (l[i]! == -l[i - 1]!)
theorem adjBad_clash {a b l : List Int} (hr : Rises l) (hm : ∀ x, x ∈ l ↔ mOk x = true ∧ (x ∈ a ∨ x ∈ b)) : adjBad l = six.any (clash a b) := by
  rw [Bool.eq_iff_iff]
  constructor
  · intro h
    obtain ⟨i, hi, h⟩ := List.any_eq_true.1 h
    simp only [Bool.and_eq_true, decide_eq_true_eq, beq_iff_eq] at h
    have hi' := List.mem_range.1 hi
    obtain ⟨h1, h2⟩ := h
    rw [getElem!_pos l i hi', getElem!_pos l (i - 1) (by omega)] at h2
    have m1 := (hm _).1 (List.getElem_mem hi')
    have m2 := (hm _).1 (List.getElem_mem (show i - 1 < l.length by omega))
    rw [h2] at m1
    generalize l[i - 1] = y at m1 m2
    have hy := mOk_iff.1 m2.1
    by_cases hp : 0 < y
    · refine List.any_eq_true.2 ⟨y, six_iff.2 (by omega), ?_⟩
      unfold clash
      rw [hasI_iff.2 m2.2, hasI_iff.2 m1.2]; rfl
    · refine List.any_eq_true.2 ⟨-y, six_iff.2 (by omega), ?_⟩
      unfold clash
      rw [Int.neg_neg, hasI_iff.2 m2.2, hasI_iff.2 m1.2]; rfl
  · intro h
    obtain ⟨n, hn, h⟩ := List.any_eq_true.1 h
    unfold clash at h
    simp only [Bool.and_eq_true] at h
    have hn' := six_iff.1 hn
    obtain ⟨i, hi, ei⟩ := List.getElem_of_mem ((hm n).2 ⟨mOk_iff.2 (by omega), hasI_iff.1 h.1⟩)
    obtain ⟨j, hj, ej⟩ := List.getElem_of_mem ((hm (-n)).2 ⟨mOk_iff.2 (by omega), hasI_iff.1 h.2⟩)
    have hP := List.pairwise_iff_getElem.1 hr
    have kn : keyM n = 2 * n + 1 := by unfold keyM; rw [if_pos (by omega)]
    have kn' : keyM (-n) = 2 * n := by unfold keyM; rw [if_neg (by omega)]; omega
    have hji : j < i := by
      rcases Nat.lt_trichotomy i j with h | h | h
      · have := hP i j hi hj h; rw [ei, ej, kn, kn'] at this; omega
      · subst h; rw [ei] at ej; omega
      · exact h
    have hi1 : j = i - 1 := by
      by_cases e : j + 1 = i
      · omega
      · have h1 := hP j (j + 1) hj (by omega) (by omega)
        have h2 := hP (j + 1) i (by omega) hi (by omega)
        rw [ej, kn'] at h1
        rw [ei, kn] at h2
        omega
    refine List.any_eq_true.2 ⟨i, List.mem_range.2 hi, ?_⟩
    simp only [Bool.and_eq_true, decide_eq_true_eq, beq_iff_eq]
    refine ⟨by omega, ?_⟩
    rw [getElem!_pos l i hi, getElem!_pos l (i - 1) (by omega), ei]
    have : l[i - 1]'(by omega) = -n := by rw [← ej]; congr 1; exact hi1.symm
    rw [this]; omega
open Go.Lib Go.Sort in
/-- Of a sorted list the first of each: it rises, and has the same members. -/
theorem compact_rises (d : Array Int) (hs : ∀ i j, i ≤ j → j < d.size → keyM d[i]! ≤ keyM d[j]!) : ∀ m, m ≤ d.size →
    Rises (compactUpTo d m) ∧ (∀ x, x ∈ compactUpTo d m ↔ ∃ j, j < m ∧ d[j]! = x) := by
  intro m
  induction m with
  | zero => intro _; exact ⟨List.Pairwise.nil, fun x => ⟨fun h => by simp [compactUpTo] at h, fun ⟨j, hj, _⟩ => absurd hj (Nat.not_lt_zero _)⟩⟩
  | succ m ih =>
    intro hm
    obtain ⟨h1, h2⟩ := ih (by omega)
    rw [compactUpTo_succ]
    by_cases hk : keeps d m = true
    · rw [if_pos hk]
      refine ⟨List.pairwise_append.2 ⟨h1, List.pairwise_singleton _ _, fun x hx y hy => ?_⟩, fun x => ?_⟩
      · obtain rfl := List.mem_singleton.1 hy
        obtain ⟨j, hj, rfl⟩ := (h2 x).1 hx
        have hne : d[m]! ≠ d[m - 1]! := by
          unfold keeps at hk
          rcases of_decide_eq_true hk with h | h
          · omega
          · exact h
        have a1 := hs j (m - 1) (by omega) (by omega)
        have a2 := hs (m - 1) m (by omega) (by omega)
        have a3 : keyM d[m - 1]! ≠ keyM d[m]! := fun e => hne (keyM_inj e).symm
        omega
      · rw [List.mem_append, h2, List.mem_singleton]
        constructor
        · rintro (⟨j, hj, e⟩ | rfl)
          · exact ⟨j, by omega, e⟩
          · exact ⟨m, by omega, rfl⟩
        · rintro ⟨j, hj, e⟩
          by_cases hjm : j = m
          · subst hjm; exact .inr e.symm
          · exact .inl ⟨j, by omega, e⟩
    · rw [if_neg hk, List.append_nil]
      refine ⟨h1, fun x => ?_⟩
      rw [h2]
      have hm0 : m ≠ 0 ∧ d[m]! = d[m - 1]! := by
        unfold keeps at hk
        simp only [decide_eq_true_eq] at hk
        exact ⟨fun e => hk (.inl e), Classical.byContradiction fun e => hk (.inr e)⟩
      constructor
      · rintro ⟨j, hj, e⟩
        exact ⟨j, by omega, e⟩
      · rintro ⟨j, hj, e⟩
        by_cases hjm : j = m
        · subst hjm; exact ⟨j - 1, by omega, by rw [← hm0.2]; exact e⟩
        · exact ⟨j, by omega, e⟩
open Go.Lib Go.Sort in
/-- SORTED, THE FIRST OF EACH: that is the join, if no neighbours are opposites. -/
theorem merge_join {lt : Int → Int → Bool} (hO : SWO lt) (hk : ∀ x y, mOk x = true → mOk y = true → (lt x y = true ↔ keyM x < keyM y)) {a b : List Int} (ha : ∀ x ∈ a, mOk x = true) (hb : ∀ x ∈ b, mOk x = true) :
    joinV a b = if adjBad (compactUpTo ((a ++ b).mergeSort fun x y => !lt y x).toArray (a.length + b.length)) then none else some (compactUpTo ((a ++ b).mergeSort fun x y => !lt y x).toArray (a.length + b.length)) := by
  have hp : ((a ++ b).mergeSort fun x y => !lt y x).Perm (a ++ b) := List.mergeSort_perm _ _
  have hs := List.pairwise_mergeSort (le := fun x y => !lt y x) (fun x y z h1 h2 => by
      simp only [Bool.not_eq_true'] at h1 h2 ⊢
      exact hO.ntrans z y x h2 h1) (fun x y => by
      simp only [Bool.or_eq_true, Bool.not_eq_true']
      cases h : lt y x
      · exact .inl rfl
      · right
        cases h' : lt x y
        · rfl
        · have := hO.trans x y x h' h; rw [hO.irrefl] at this; cases this) (a ++ b)
  generalize ((a ++ b).mergeSort fun x y => !lt y x) = ss at hp hs
  have hlen : ss.length = a.length + b.length := by rw [hp.length_eq]; simp
  rw [← hlen]
  have hmem : ∀ x ∈ ss, mOk x = true := fun x hx => by
    rcases List.mem_append.1 ((hp.mem_iff).1 hx) with h | h
    · exact ha x h
    · exact hb x h
  have hsz : ss.toArray.size = ss.length := by simp
  have hle : ∀ i j, i ≤ j → j < ss.toArray.size → keyM ss.toArray[i]! ≤ keyM ss.toArray[j]! := by
    intro i j hij hj
    rw [hsz] at hj
    have e : ∀ k, k < ss.length → ss.toArray[k]! = ss[k]! := fun k hk => by simp
    rw [e i (by omega), e j hj, getElem!_pos ss i (by omega), getElem!_pos ss j hj]
    rcases Nat.lt_or_ge i j with h | h
    · have := (List.pairwise_iff_getElem.1 hs) i j (by omega) hj h
      simp only [Bool.not_eq_true'] at this
      have h3 := hk ss[j] ss[i] (hmem _ (List.getElem_mem _)) (hmem _ (List.getElem_mem _))
      by_cases h4 : keyM ss[j] < keyM ss[i]
      · rw [h3.2 h4] at this; cases this
      · omega
    · have : i = j := by omega
      subst this; exact Int.le_refl _
  obtain ⟨hr, hmm⟩ := compact_rises ss.toArray hle ss.length (by rw [hsz]; exact Nat.le_refl _)
  have hset : ∀ x, x ∈ compactUpTo ss.toArray ss.length ↔ mOk x = true ∧ (x ∈ a ∨ x ∈ b) := by
    intro x
    rw [hmm x]
    constructor
    · rintro ⟨j, hj, e⟩
      have e' : ss.toArray[j]! = ss[j] := by simp [getElem!_pos, hj]
      rw [e'] at e
      subst e
      exact ⟨hmem _ (List.getElem_mem _), List.mem_append.1 (hp.mem_iff.1 (List.getElem_mem _))⟩
    · rintro ⟨_, h⟩
      obtain ⟨j, hj, e⟩ := List.getElem_of_mem (hp.mem_iff.2 (List.mem_append.2 h))
      exact ⟨j, hj, by simp [getElem!_pos, hj, e]⟩
  rw [adjBad_clash hr hset]
  unfold joinV
  by_cases hc : six.any (clash a b) = true
  · rw [if_pos hc, if_pos hc]
  · rw [if_neg hc, if_neg hc]
    congr 1
    refine rises_uniq (joinL_rises (by simpa using hc)) hr fun x => ?_
    rw [joinL_mem, hset]
end Venn
