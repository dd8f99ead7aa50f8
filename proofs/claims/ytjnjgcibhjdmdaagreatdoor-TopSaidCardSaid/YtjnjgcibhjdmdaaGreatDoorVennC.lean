/-
  THE PLAIN SIDE of package cubes: two cubes joined, lists of cubes, the cubes of a formula.
  THE PLAIN SIDE of package cubes: lists of cubes, the cubes of a formula; what they say.
  THE PLAIN LAW of vennlaw1.CubesSay: the members of a formula's cubes are its atoms; what they say.
  THE PLAIN SIDE of package model: a cube as rows; the first of the cubes whose rows fit; what a model says.
-/
import Derived.Test.YtjnjgcibhjdmdaaGreatDoorVennP2
import Derived.Lib.SlicesCompact
import Derived.Sort.Statements
namespace Venn
/-- Has one of two cubes a number? -/
def hasI (a b : List Int) (n : Int) : Bool := a.contains n || b.contains n
def joinN (a b : List Int) (n : Int) : List Int := (if hasI a b n then [n] else []) ++ (if hasI a b (-n) then [-n] else [])
def clash (a b : List Int) (n : Int) : Bool := hasI a b n && hasI a b (-n)
def six : List Int := [1, 2, 3, 4, 5, 6]
/-- Two cubes as one; none: an atom is both ways. -/
def joinV (a b : List Int) : Option (List Int) := if six.any (clash a b) then none else some (six.flatMap (joinN a b))
/-- A member that may be. -/
def mOk (x : Int) : Bool := (decide (1 ≤ x) && decide (x ≤ 6)) || (decide (-6 ≤ x) && decide (x ≤ -1))
theorem mOk_iff {x : Int} : mOk x = true ↔ (1 ≤ x ∧ x ≤ 6) ∨ (-6 ≤ x ∧ x ≤ -1) := by simp [mOk]
/-- Where a member stands: by atoms, the opposite first. -/
def keyM (x : Int) : Int := if 0 < x then 2 * x + 1 else -(2 * x)
theorem keyM_inj {x y : Int} (h : keyM x = keyM y) : x = y := by
  unfold keyM at h
  split at h <;> split at h <;> omega
def Rises (l : List Int) : Prop := l.Pairwise fun x y => keyM x < keyM y
theorem rises_uniq : ∀ {l m : List Int}, Rises l → Rises m → (∀ x, x ∈ l ↔ x ∈ m) → l = m
  | [], [], _, _, _ => rfl
  | [], y :: _, _, _, h => absurd ((h y).2 (by simp)) (by simp)
  | x :: _, [], _, _, h => absurd ((h x).1 (by simp)) (by simp)
  | x :: l, y :: m, hl, hm, h => by
    have hl' := List.pairwise_cons.1 hl
    have hm' := List.pairwise_cons.1 hm
    have hxy : x = y := by
      by_cases e : x = y
      · exact e
      · have h1 : y ∈ l := by
          have := (h y).2 (by simp)
          rcases List.mem_cons.1 this with e' | e'
          · exact absurd e'.symm e
          · exact e'
        have h2 : x ∈ m := by
          have := (h x).1 (by simp)
          rcases List.mem_cons.1 this with e' | e'
          · exact absurd e' e
          · exact e'
        have := hl'.1 y h1
        have := hm'.1 x h2
        omega
    subst hxy
    have hx1 : x ∉ l := fun hx => by have := hl'.1 x hx; omega
    have hx2 : x ∉ m := fun hx => by have := hm'.1 x hx; omega
    congr 1
    refine rises_uniq hl'.2 hm'.2 fun z => ⟨fun hz => ?_, fun hz => ?_⟩
    · rcases List.mem_cons.1 ((h z).1 (List.mem_cons_of_mem _ hz)) with e | e
      · subst e; exact absurd hz hx1
      · exact e
    · rcases List.mem_cons.1 ((h z).2 (List.mem_cons_of_mem _ hz)) with e | e
      · subst e; exact absurd hz hx2
      · exact e
theorem hasI_iff {a b : List Int} {n : Int} : hasI a b n = true ↔ n ∈ a ∨ n ∈ b := by simp [hasI]
theorem six_iff {n : Int} : n ∈ six ↔ 1 ≤ n ∧ n ≤ 6 := by
  simp only [six, List.mem_cons, List.not_mem_nil, or_false]
  omega
theorem joinN_mem {a b : List Int} {n x : Int} : x ∈ joinN a b n ↔ (x = n ∨ x = -n) ∧ (x ∈ a ∨ x ∈ b) := by
  unfold joinN
  rw [List.mem_append]
  constructor
  · rintro (h | h)
    · split at h
      · rename_i h1
        obtain rfl := List.mem_singleton.1 h
        exact ⟨.inl rfl, hasI_iff.1 h1⟩
      · cases h
    · split at h
      · rename_i h1
        obtain rfl := List.mem_singleton.1 h
        exact ⟨.inr rfl, hasI_iff.1 h1⟩
      · cases h
  · rintro ⟨rfl | rfl, h⟩
    · rw [if_pos (hasI_iff.2 h)]; exact .inl (by simp)
    · rw [if_pos (hasI_iff.2 h)]; exact .inr (by simp)
theorem joinL_mem {a b : List Int} {x : Int} : x ∈ six.flatMap (joinN a b) ↔ mOk x = true ∧ (x ∈ a ∨ x ∈ b) := by
  rw [List.mem_flatMap]
  constructor
  · rintro ⟨n, hn, hx⟩
    obtain ⟨h1, h2⟩ := joinN_mem.1 hx
    have := six_iff.1 hn
    refine ⟨mOk_iff.2 ?_, h2⟩
    omega
  · rintro ⟨h1, h2⟩
    have := mOk_iff.1 h1
    by_cases hx : 0 < x
    · exact ⟨x, six_iff.2 (by omega), joinN_mem.2 ⟨.inl rfl, h2⟩⟩
    · exact ⟨-x, six_iff.2 (by omega), joinN_mem.2 ⟨.inr (by omega), h2⟩⟩
theorem joinN_rises {a b : List Int} {n : Int} (h : clash a b n = false) : Rises (joinN a b n) := by
  unfold clash at h
  unfold joinN Rises
  cases h1 : hasI a b n <;> cases h2 : hasI a b (-n) <;> simp_all
theorem pairwise_flat {α β : Type} (R : β → β → Prop) (f : α → List β) : ∀ (l : List α), (∀ n ∈ l, (f n).Pairwise R) → l.Pairwise (fun m n => ∀ x ∈ f m, ∀ y ∈ f n, R x y) → (l.flatMap f).Pairwise R := by
  intro l
  induction l with
  | nil => intro _ _; exact List.Pairwise.nil
  | cons m l ih =>
    intro h1 h2
    obtain ⟨h3, h4⟩ := List.pairwise_cons.1 h2
    rw [List.flatMap_cons]
    refine List.pairwise_append.2 ⟨h1 m (by simp), ih (fun n hn => h1 n (List.mem_cons_of_mem _ hn)) h4, fun x hx y hy => ?_⟩
    obtain ⟨n, hn, hy⟩ := List.mem_flatMap.1 hy
    exact h3 n hn x hx y hy
theorem joinL_rises {a b : List Int} (h : six.any (clash a b) = false) : Rises (six.flatMap (joinN a b)) := by
  refine pairwise_flat _ _ _ (fun n hn => joinN_rises ?_) ?_
  · have := List.any_eq_false.1 h n hn
    simpa using this
  · have : six.Pairwise fun m n => 0 < m ∧ m < n := by unfold six; decide
    refine this.imp fun {m n} hmn x hx y hy => ?_
    have h1 := (joinN_mem.1 hx).1
    have h2 := (joinN_mem.1 hy).1
    unfold keyM
    split <;> split <;> omega
/-- The first of two neighbours is the other's opposite. -/
def adjBad (l : List Int) : Bool := (List.range l.length).any fun i => decide (1 ≤ i) && (l[i]! == -l[i - 1]!)
theorem adjBad_clash {a b l : List Int} (hr : Rises l) (hm : ∀ x, x ∈ l ↔ mOk x = true ∧ (x ∈ a ∨ x ∈ b)) : adjBad l = six.any (clash a b) := by
  rw [Bool.eq_iff_iff]
  constructor
  · intro h
    obtain ⟨i, hi, h⟩ := List.any_eq_true.1 h
    simp only [Bool.and_eq_true, decide_eq_true_eq, beq_iff_eq] at h
    have hi' := List.mem_range.1 hi
    obtain ⟨h1, h2⟩ := h
    rw [getElem!_pos l i hi', getElem!_pos l (i - 1) (by omega)] at h2
    have m1 := (hm _).1 (List.getElem_mem hi')
    have m2 := (hm _).1 (List.getElem_mem (show i - 1 < l.length by omega))
    rw [h2] at m1
    generalize l[i - 1] = y at m1 m2
    have hy := mOk_iff.1 m2.1
    by_cases hp : 0 < y
    · refine List.any_eq_true.2 ⟨y, six_iff.2 (by omega), ?_⟩
      unfold clash
      rw [hasI_iff.2 m2.2, hasI_iff.2 m1.2]; rfl
    · refine List.any_eq_true.2 ⟨-y, six_iff.2 (by omega), ?_⟩
      unfold clash
      rw [Int.neg_neg, hasI_iff.2 m2.2, hasI_iff.2 m1.2]; rfl
  · intro h
    obtain ⟨n, hn, h⟩ := List.any_eq_true.1 h
    unfold clash at h
    simp only [Bool.and_eq_true] at h
    have hn' := six_iff.1 hn
    obtain ⟨i, hi, ei⟩ := List.getElem_of_mem ((hm n).2 ⟨mOk_iff.2 (by omega), hasI_iff.1 h.1⟩)
    obtain ⟨j, hj, ej⟩ := List.getElem_of_mem ((hm (-n)).2 ⟨mOk_iff.2 (by omega), hasI_iff.1 h.2⟩)
    have hP := List.pairwise_iff_getElem.1 hr
    have kn : keyM n = 2 * n + 1 := by unfold keyM; rw [if_pos (by omega)]
    have kn' : keyM (-n) = 2 * n := by unfold keyM; rw [if_neg (by omega)]; omega
    have hji : j < i := by
      rcases Nat.lt_trichotomy i j with h | h | h
      · have := hP i j hi hj h; rw [ei, ej, kn, kn'] at this; omega
      · subst h; rw [ei] at ej; omega
      · exact h
    have hi1 : j = i - 1 := by
      by_cases e : j + 1 = i
      · omega
      · have h1 := hP j (j + 1) hj (by omega) (by omega)
        have h2 := hP (j + 1) i (by omega) hi (by omega)
        rw [ej, kn'] at h1
        rw [ei, kn] at h2
        omega
    refine List.any_eq_true.2 ⟨i, List.mem_range.2 hi, ?_⟩
    simp only [Bool.and_eq_true, decide_eq_true_eq, beq_iff_eq]
    refine ⟨by omega, ?_⟩
    rw [getElem!_pos l i hi, getElem!_pos l (i - 1) (by omega), ei]
    have : l[i - 1]'(by omega) = -n := by rw [← ej]; congr 1; exact hi1.symm
    rw [this]; omega
open Go.Lib Go.Sort in
/-- Of a sorted list the first of each: it rises, and has the same members. -/
theorem compact_rises (d : Array Int) (hs : ∀ i j, i ≤ j → j < d.size → keyM d[i]! ≤ keyM d[j]!) : ∀ m, m ≤ d.size →
    Rises (compactUpTo d m) ∧ (∀ x, x ∈ compactUpTo d m ↔ ∃ j, j < m ∧ d[j]! = x) := by
  intro m
  induction m with
  | zero => intro _; exact ⟨List.Pairwise.nil, fun x => ⟨fun h => by simp [compactUpTo] at h, fun ⟨j, hj, _⟩ => absurd hj (Nat.not_lt_zero _)⟩⟩
  | succ m ih =>
    intro hm
    obtain ⟨h1, h2⟩ := ih (by omega)
    rw [compactUpTo_succ]
    by_cases hk : keeps d m = true
    · rw [if_pos hk]
      refine ⟨List.pairwise_append.2 ⟨h1, List.pairwise_singleton _ _, fun x hx y hy => ?_⟩, fun x => ?_⟩
      · obtain rfl := List.mem_singleton.1 hy
        obtain ⟨j, hj, rfl⟩ := (h2 x).1 hx
        have hne : d[m]! ≠ d[m - 1]! := by
          unfold keeps at hk
          rcases of_decide_eq_true hk with h | h
          · omega
          · exact h
        have a1 := hs j (m - 1) (by omega) (by omega)
        have a2 := hs (m - 1) m (by omega) (by omega)
        have a3 : keyM d[m - 1]! ≠ keyM d[m]! := fun e => hne (keyM_inj e).symm
        omega
      · rw [List.mem_append, h2, List.mem_singleton]
        constructor
        · rintro (⟨j, hj, e⟩ | rfl)
          · exact ⟨j, by omega, e⟩
          · exact ⟨m, by omega, rfl⟩
        · rintro ⟨j, hj, e⟩
          by_cases hjm : j = m
          · subst hjm; exact .inr e.symm
          · exact .inl ⟨j, by omega, e⟩
    · rw [if_neg hk, List.append_nil]
      refine ⟨h1, fun x => ?_⟩
      rw [h2]
      have hm0 : m ≠ 0 ∧ d[m]! = d[m - 1]! := by
        unfold keeps at hk
        simp only [decide_eq_true_eq] at hk
        exact ⟨fun e => hk (.inl e), Classical.byContradiction fun e => hk (.inr e)⟩
      constructor
      · rintro ⟨j, hj, e⟩
        exact ⟨j, by omega, e⟩
      · rintro ⟨j, hj, e⟩
        by_cases hjm : j = m
        · subst hjm; exact ⟨j - 1, by omega, by rw [← hm0.2]; exact e⟩
        · exact ⟨j, by omega, e⟩
open Go.Lib Go.Sort in
/-- SORTED, THE FIRST OF EACH: that is the join, if no neighbours are opposites. -/
theorem merge_join {lt : Int → Int → Bool} (hO : SWO lt) (hk : ∀ x y, mOk x = true → mOk y = true → (lt x y = true ↔ keyM x < keyM y)) {a b : List Int} (ha : ∀ x ∈ a, mOk x = true) (hb : ∀ x ∈ b, mOk x = true) :
    joinV a b = if adjBad (compactUpTo ((a ++ b).mergeSort fun x y => !lt y x).toArray (a.length + b.length)) then none else some (compactUpTo ((a ++ b).mergeSort fun x y => !lt y x).toArray (a.length + b.length)) := by
  have hp : ((a ++ b).mergeSort fun x y => !lt y x).Perm (a ++ b) := List.mergeSort_perm _ _
  have hs := List.pairwise_mergeSort (le := fun x y => !lt y x) (fun x y z h1 h2 => by
      simp only [Bool.not_eq_true'] at h1 h2 ⊢
      exact hO.ntrans z y x h2 h1) (fun x y => by
      simp only [Bool.or_eq_true, Bool.not_eq_true']
      cases h : lt y x
      · exact .inl rfl
      · right
        cases h' : lt x y
        · rfl
        · have := hO.trans x y x h' h; rw [hO.irrefl] at this; cases this) (a ++ b)
  generalize ((a ++ b).mergeSort fun x y => !lt y x) = ss at hp hs
  have hlen : ss.length = a.length + b.length := by rw [hp.length_eq]; simp
  rw [← hlen]
  have hmem : ∀ x ∈ ss, mOk x = true := fun x hx => by
    rcases List.mem_append.1 ((hp.mem_iff).1 hx) with h | h
    · exact ha x h
    · exact hb x h
  have hsz : ss.toArray.size = ss.length := by simp
  have hle : ∀ i j, i ≤ j → j < ss.toArray.size → keyM ss.toArray[i]! ≤ keyM ss.toArray[j]! := by
    intro i j hij hj
    rw [hsz] at hj
    have e : ∀ k, k < ss.length → ss.toArray[k]! = ss[k]! := fun k hk => by simp
    rw [e i (by omega), e j hj, getElem!_pos ss i (by omega), getElem!_pos ss j hj]
    rcases Nat.lt_or_ge i j with h | h
    · have := (List.pairwise_iff_getElem.1 hs) i j (by omega) hj h
      simp only [Bool.not_eq_true'] at this
      have h3 := hk ss[j] ss[i] (hmem _ (List.getElem_mem _)) (hmem _ (List.getElem_mem _))
      by_cases h4 : keyM ss[j] < keyM ss[i]
      · rw [h3.2 h4] at this; cases this
      · omega
    · have : i = j := by omega
      subst this; exact Int.le_refl _
  obtain ⟨hr, hmm⟩ := compact_rises ss.toArray hle ss.length (by rw [hsz]; exact Nat.le_refl _)
  have hset : ∀ x, x ∈ compactUpTo ss.toArray ss.length ↔ mOk x = true ∧ (x ∈ a ∨ x ∈ b) := by
    intro x
    rw [hmm x]
    constructor
    · rintro ⟨j, hj, e⟩
      have e' : ss.toArray[j]! = ss[j] := by simp [getElem!_pos, hj]
      rw [e'] at e
      subst e
      exact ⟨hmem _ (List.getElem_mem _), List.mem_append.1 (hp.mem_iff.1 (List.getElem_mem _))⟩
    · rintro ⟨_, h⟩
      obtain ⟨j, hj, e⟩ := List.getElem_of_mem (hp.mem_iff.2 (List.mem_append.2 h))
      exact ⟨j, hj, by simp [getElem!_pos, hj, e]⟩
  rw [adjBad_clash hr hset]
  unfold joinV
  by_cases hc : six.any (clash a b) = true
  · rw [if_pos hc, if_pos hc]
  · rw [if_neg hc, if_neg hc]
    congr 1
    refine rises_uniq (joinL_rises (by simpa using hc)) hr fun x => ?_
    rw [joinL_mem, hset]
end Venn

namespace Venn
def absI (m : Int) : Int := if m < 0 then -m else m
/-- A cube behind others, if it is not there. -/
def putV (l : List (List Int)) (c : List Int) : List (List Int) := if l.contains c then l else l ++ [c]
def and1 (x : List Int) : List (List Int) → List (List Int) → List (List Int)
  | o, [] => o
  | o, y :: r => and1 x (match joinV x y with | some c => putV o c | none => o) r
def and2 (b : List (List Int)) : List (List Int) → List (List Int) → List (List Int)
  | o, [] => o
  | o, x :: r => and2 b (and1 x o b) r
def orL : List (List Int) → List (List Int) → List (List Int)
  | o, [] => o
  | o, c :: r => orL (putV o c) r
def chkC (l : List (List Int)) : Option (List (List Int)) := if 40 < l.length then none else some l
def andV (a b : List (List Int)) : Option (List (List Int)) := chkC (and2 b [] a)
def orV (a b : List (List Int)) : Option (List (List Int)) := chkC (orL a b)
def turnC (c : List Int) : List (List Int) := c.map fun m => [-m]
def noFrom : List (List Int) → List (List Int) → Option (List (List Int))
  | o, [] => some o
  | o, c :: r => match andV o (turnC c) with | none => none | some n => noFrom n r
def noV (l : List (List Int)) : Option (List (List Int)) := noFrom [[]] l
def thenV (a b : List (List Int)) : Option (List (List Int)) := match noV a with | none => none | some x => orV x b
def opC (s : Int) (a b : List (List Int)) : Option (List (List Int)) := if s = 10 then andV a b else if s = 11 then orV a b else thenV a b
/-- One sign: the row's last first. -/
def cStep (st : List (List (List Int))) (s : Int) : Option (List (List (List Int))) :=
  if s = 12 then (match st with | x :: r => (match noV x with | none => none | some y => some (y :: r)) | [] => some [])
  else if s = 10 ∨ s = 11 ∨ s = 13 then (match st with | y :: x :: r => (match opC s x y with | none => none | some z => some (z :: r)) | _ => some st)
  else some ([[s + 1]] :: st)
def cFold : List (List (List Int)) → List Int → Option (List (List (List Int)))
  | st, [] => some st
  | st, s :: r => match cStep st s with | none => none | some st' => cFold st' r
def cubesO (c : List Int) : Option (List (List Int)) := match cFold [] c with | none => none | some st => some (st.headD [])
/-- The fault, and the cubes. -/
def cubesErr (f : Form) : Int := if formChk f = 0 then (match cubesO f.code with | none => 4 | some _ => 0) else formChk f
def cubesV (f : Form) : List (List Int) := if formChk f = 0 then (match cubesO f.code with | none => [] | some l => l) else []

/-- A cube that may be. -/
def CubeOk (c : List Int) : Prop := (∀ x ∈ c, mOk x = true) ∧ (c.Pairwise fun x y => absI x < absI y) ∧ c.length ≤ 6
def CsOk (l : List (List Int)) : Prop := (∀ c ∈ l, CubeOk c) ∧ l.Nodup
theorem absI_ok {x : Int} (h : mOk x = true) : 1 ≤ absI x ∧ absI x ≤ 6 := by
  have := mOk_iff.1 h
  unfold absI
  split <;> omega
theorem joinN_len {a b : List Int} {n : Int} (h : clash a b n = false) : (joinN a b n).length ≤ 1 := by
  unfold clash at h
  unfold joinN
  cases h1 : hasI a b n <;> cases h2 : hasI a b (-n) <;> simp_all
theorem flat_len1 {f : Int → List Int} : ∀ (l : List Int), (∀ n ∈ l, (f n).length ≤ 1) → (l.flatMap f).length ≤ l.length := by
  intro l
  induction l with
  | nil => intro _; simp
  | cons n l ih =>
    intro h
    rw [List.flatMap_cons, List.length_append, List.length_cons]
    have h1 := h n (by simp)
    have h2 := ih fun m hm => h m (List.mem_cons_of_mem _ hm)
    omega
theorem joinV_some {a b c : List Int} (h : joinV a b = some c) : six.any (clash a b) = false ∧ c = six.flatMap (joinN a b) := by
  unfold joinV at h
  split at h
  · cases h
  · rename_i h1
    exact ⟨by simpa using h1, by injection h with h; exact h.symm⟩
theorem joinV_ok {a b c : List Int} (h : joinV a b = some c) : CubeOk c := by
  obtain ⟨h1, rfl⟩ := joinV_some h
  have hc : ∀ n ∈ six, clash a b n = false := fun n hn => by simpa using List.any_eq_false.1 h1 n hn
  refine ⟨fun x hx => (joinL_mem.1 hx).1, ?_, ?_⟩
  · refine pairwise_flat _ _ _ (fun n hn => ?_) ?_
    · have := joinN_len (hc n hn)
      match hj : joinN a b n, this with
      | [], _ => exact List.Pairwise.nil
      | [x], _ => exact List.pairwise_singleton _ _
    · have : six.Pairwise fun m n => 0 < m ∧ m < n := by unfold six; decide
      refine this.imp fun {m n} hmn x hx y hy => ?_
      have h1 := (joinN_mem.1 hx).1
      have h2 := (joinN_mem.1 hy).1
      unfold absI
      split <;> split <;> omega
  · exact flat_len1 six fun n hn => joinN_len (hc n hn)
theorem putV_mem {l : List (List Int)} {c x : List Int} : x ∈ putV l c ↔ x ∈ l ∨ x = c := by
  unfold putV
  split
  · rename_i h
    have h' : c ∈ l := by simpa using h
    constructor
    · exact .inl
    · rintro (h | rfl)
      · exact h
      · exact h'
  · simp
theorem putV_ok {l : List (List Int)} {c : List Int} (h : CsOk l) (hc : CubeOk c) : CsOk (putV l c) := by
  refine ⟨fun x hx => ?_, ?_⟩
  · rcases putV_mem.1 hx with h' | rfl
    · exact h.1 x h'
    · exact hc
  · unfold putV
    split
    · exact h.2
    · rename_i hn
      have hn' : c ∉ l := by simpa using hn
      refine List.nodup_append.2 ⟨h.2, by simp, fun a ha b hb => ?_⟩
      obtain rfl := List.mem_singleton.1 hb
      intro e
      exact hn' (e ▸ ha)
theorem putV_len (l : List (List Int)) (c : List Int) : (putV l c).length ≤ l.length + 1 ∧ l.length ≤ (putV l c).length := by
  unfold putV
  split <;> simp
theorem and1_ok {x : List Int} : ∀ (b o : List (List Int)), CsOk o → CsOk (and1 x o b) := by
  intro b
  induction b with
  | nil => intro o h; exact h
  | cons y r ih =>
    intro o h
    rw [and1]
    cases hj : joinV x y with
    | none => exact ih _ h
    | some c => exact ih _ (putV_ok h (joinV_ok hj))
theorem and1_len {x : List Int} : ∀ (b o : List (List Int)), (and1 x o b).length ≤ o.length + b.length := by
  intro b
  induction b with
  | nil => intro o; exact Nat.le_refl _
  | cons y r ih =>
    intro o
    rw [and1]
    cases hj : joinV x y with
    | none => have := ih o; simp only [List.length_cons]; omega
    | some c => have := ih (putV o c); have := putV_len o c; simp only [List.length_cons]; omega
theorem and2_ok {b : List (List Int)} : ∀ (a o : List (List Int)), CsOk o → CsOk (and2 b o a) := by
  intro a
  induction a with
  | nil => intro o h; exact h
  | cons y r ih => intro o h; exact ih _ (and1_ok _ _ h)
theorem and2_len {b : List (List Int)} : ∀ (a o : List (List Int)), (and2 b o a).length ≤ o.length + a.length * b.length := by
  intro a
  induction a with
  | nil => intro o; simp [and2]
  | cons y r ih =>
    intro o
    have h1 := ih (and1 y o b)
    have h2 := @and1_len y b o
    rw [and2, List.length_cons, Nat.succ_mul]
    omega
theorem orL_ok : ∀ (b o : List (List Int)), CsOk o → (∀ c ∈ b, CubeOk c) → CsOk (orL o b) := by
  intro b
  induction b with
  | nil => intro o h _; exact h
  | cons c r ih => intro o h hb; exact ih _ (putV_ok h (hb c (by simp))) fun x hx => hb x (List.mem_cons_of_mem _ hx)
theorem orL_len : ∀ (b o : List (List Int)), (orL o b).length ≤ o.length + b.length := by
  intro b
  induction b with
  | nil => intro o; exact Nat.le_refl _
  | cons c r ih => intro o; have := ih (putV o c); have := putV_len o c; rw [orL, List.length_cons]; omega
theorem chkC_some {l x : List (List Int)} (h : chkC l = some x) : x = l ∧ l.length ≤ 40 := by
  unfold chkC at h
  split at h
  · cases h
  · injection h with h; exact ⟨h.symm, by omega⟩
/-- So many cubes as may be. -/
def COk (l : List (List Int)) : Prop := CsOk l ∧ l.length ≤ 40
theorem nil_csOk : CsOk [] := ⟨fun _ h => (by cases h), List.nodup_nil⟩
theorem nilnil_ok : COk [[]] := ⟨⟨fun c h => by obtain rfl := List.mem_singleton.1 h; exact ⟨fun _ h => (by cases h), List.Pairwise.nil, by simp⟩, by simp⟩, by simp⟩
theorem andV_ok {a b x : List (List Int)} (h : andV a b = some x) : COk x := by
  obtain ⟨rfl, h2⟩ := chkC_some h
  exact ⟨and2_ok _ _ nil_csOk, h2⟩
theorem orV_ok {a b x : List (List Int)} (ha : CsOk a) (hb : CsOk b) (h : orV a b = some x) : COk x := by
  obtain ⟨rfl, h2⟩ := chkC_some h
  exact ⟨orL_ok _ _ ha hb.1, h2⟩
theorem noFrom_ok : ∀ (l o x : List (List Int)), COk o → noFrom o l = some x → COk x := by
  intro l
  induction l with
  | nil => intro o x h e; injection e with e; exact e ▸ h
  | cons c r ih =>
    intro o x h e
    rw [noFrom] at e
    cases ha : andV o (turnC c) with
    | none => rw [ha] at e; cases e
    | some n => rw [ha] at e; exact ih n x (andV_ok ha) e
theorem noV_ok {l x : List (List Int)} (h : noV l = some x) : COk x := noFrom_ok _ _ _ nilnil_ok h
theorem thenV_ok {a b x : List (List Int)} (hb : COk b) (h : thenV a b = some x) : COk x := by
  unfold thenV at h
  cases hn : noV a with
  | none => rw [hn] at h; cases h
  | some y => rw [hn] at h; exact orV_ok (noV_ok hn).1 hb.1 h
theorem opC_ok {s : Int} {a b x : List (List Int)} (ha : COk a) (hb : COk b) (h : opC s a b = some x) : COk x := by
  unfold opC at h
  split at h
  · exact andV_ok h
  · split at h
    · exact orV_ok ha.1 hb.1 h
    · exact thenV_ok hb h
theorem one_ok {s : Int} (h0 : 0 ≤ s) (h6 : s < 6) : COk [[s + 1]] := by
  refine ⟨⟨fun c h => ?_, by simp⟩, by simp⟩
  obtain rfl := List.mem_singleton.1 h
  refine ⟨fun x hx => ?_, List.pairwise_singleton _ _, by simp⟩
  obtain rfl := List.mem_singleton.1 hx
  exact mOk_iff.2 (by omega)
theorem cStep_ok {n : Int} {st st' : List (List (List Int))} {s : Int} (hs : codeOk n s = true) (h : ∀ l ∈ st, COk l) (e : cStep st s = some st') : ∀ l ∈ st', COk l := by
  unfold cStep at e
  by_cases h12 : s = 12
  · rw [if_pos h12] at e
    match st, h, e with
    | [], h, e => injection e with e; subst e; exact h
    | x :: r, h, e =>
      simp only at e
      cases hn : noV x with
      | none => rw [hn] at e; cases e
      | some y =>
        rw [hn] at e
        injection e with e
        subst e
        intro l hl
        rcases List.mem_cons.1 hl with rfl | hl
        · exact noV_ok hn
        · exact h l (List.mem_cons_of_mem _ hl)
  rw [if_neg h12] at e
  by_cases h3 : s = 10 ∨ s = 11 ∨ s = 13
  · rw [if_pos h3] at e
    match st, h, e with
    | [], h, e => injection e with e; subst e; exact h
    | [x], h, e => injection e with e; subst e; exact h
    | y :: x :: r, h, e =>
      simp only at e
      cases hn : opC s x y with
      | none => rw [hn] at e; cases e
      | some z =>
        rw [hn] at e
        injection e with e
        subst e
        intro l hl
        rcases List.mem_cons.1 hl with rfl | hl
        · exact opC_ok (h x (by simp)) (h y (by simp)) hn
        · exact h l (List.mem_cons_of_mem _ (List.mem_cons_of_mem _ hl))
  · rw [if_neg h3] at e
    injection e with e
    subst e
    intro l hl
    rcases List.mem_cons.1 hl with rfl | hl
    · rcases codeOk_cases hs with h | h | h | h | h
      all_goals first | omega | exact one_ok h.1 h.2.1
    · exact h l hl
theorem cStep_length {st st' : List (List (List Int))} {s : Int} (h : ¬ ((st.length : Int) < fTakes s)) (e : cStep st s = some st') : (st'.length : Int) = st.length + (1 - fTakes s) := by
  unfold cStep at e
  unfold fTakes at *
  by_cases h12 : s = 12
  · rw [if_pos h12] at h e ⊢
    match st, h, e with
    | [], h, e => simp at h
    | x :: r, h, e =>
      simp only at e
      cases hn : noV x with
      | none => rw [hn] at e; cases e
      | some y => rw [hn] at e; injection e with e; subst e; simp
  rw [if_neg h12] at h e ⊢
  by_cases h3 : s = 10 ∨ s = 11 ∨ s = 13
  · rw [if_pos h3] at h e ⊢
    match st, h, e with
    | [], h, e => simp at h
    | [x], h, e => simp at h
    | y :: x :: r, h, e =>
      simp only at e
      cases hn : opC s x y with
      | none => rw [hn] at e; cases e
      | some z => rw [hn] at e; injection e with e; subst e; simp; omega
  · rw [if_neg h3] at e ⊢
    injection e with e
    subst e
    simp
theorem cFold_ok {n : Int} : ∀ (c : List Int) (st st' : List (List (List Int))), c.all (codeOk n) = true → (∀ l ∈ st, COk l) → fShape st.length c = true → cFold st c = some st' → (∀ l ∈ st', COk l) ∧ st'.length = 1 := by
  intro c
  induction c with
  | nil =>
    intro st st' _ h hs e
    injection e with e
    subst e
    simp only [fShape, decide_eq_true_eq] at hs
    exact ⟨h, by omega⟩
  | cons s r ih =>
    intro st st' hc h hs e
    rw [List.all_cons, Bool.and_eq_true] at hc
    rw [fShape] at hs
    split at hs
    · cases hs
    rename_i h1
    rw [cFold] at e
    cases hx : cStep st s with
    | none => rw [hx] at e; cases e
    | some st1 =>
      rw [hx] at e
      exact ih st1 st' hc.2 (cStep_ok hc.1 h hx) (by rw [cStep_length h1 hx]; exact hs) e
theorem cubesO_ok {f : Form} {l : List (List Int)} (h : formChk f = 0) (e : cubesO f.code = some l) : COk l := by
  obtain ⟨h1, h2, h3, h4, h5, h6, h7⟩ := formChk_parts h
  unfold cubesO at e
  cases hx : cFold [] f.code with
  | none => rw [hx] at e; cases e
  | some st =>
    rw [hx] at e
    injection e with e
    obtain ⟨g1, g2⟩ := cFold_ok f.code [] st h6 (fun _ h => by cases h) h7 hx
    match st, g2 with
    | [y], _ => subst e; exact g1 y (by simp)
theorem cubesV_ok {f : Form} (h : formChk f = 0) : COk (cubesV f) := by
  unfold cubesV
  rw [if_pos h]
  cases hx : cubesO f.code with
  | none => exact ⟨nil_csOk, by simp⟩
  | some l => exact cubesO_ok h hx

/-- What a member says, by which atoms hold. -/
def litV (v : Int → Bool) (m : Int) : Bool := v (absI m) == decide (0 < m)
def cubeV (v : Int → Bool) (c : List Int) : Bool := c.all (litV v)
def someV (v : Int → Bool) (l : List (List Int)) : Bool := l.any (cubeV v)
theorem lit_opp (v : Int → Bool) {n : Int} (h : 1 ≤ n) : litV v n = v n ∧ litV v (-n) = !v n := by
  unfold litV absI
  rw [if_neg (by omega), if_pos (by omega), decide_eq_true (by omega), decide_eq_false (by omega), Int.neg_neg]
  cases v n <;> exact ⟨rfl, rfl⟩
theorem lit_neg (v : Int → Bool) {m : Int} (h : mOk m = true) : litV v (-m) = !litV v m := by
  have := mOk_iff.1 h
  by_cases hp : 0 < m
  · obtain ⟨h1, h2⟩ := lit_opp v (n := m) (by omega)
    rw [h2, h1]
  · obtain ⟨h1, h2⟩ := lit_opp v (n := -m) (by omega)
    rw [Int.neg_neg] at h2
    rw [h2, h1, Bool.not_not]
theorem cubeV_join {v : Int → Bool} {a b : List Int} (ha : ∀ x ∈ a, mOk x = true) (hb : ∀ x ∈ b, mOk x = true) :
    (match joinV a b with | some c => cubeV v c | none => false) = (cubeV v a && cubeV v b) := by
  cases hj : joinV a b with
  | some c =>
    obtain ⟨_, rfl⟩ := joinV_some hj
    simp only
    rw [Bool.eq_iff_iff, Bool.and_eq_true]
    simp only [cubeV, List.all_eq_true]
    constructor
    · intro h
      exact ⟨fun x hx => h x (joinL_mem.2 ⟨ha x hx, .inl hx⟩), fun x hx => h x (joinL_mem.2 ⟨hb x hx, .inr hx⟩)⟩
    · rintro ⟨h1, h2⟩ x hx
      rcases (joinL_mem.1 hx).2 with h | h
      · exact h1 x h
      · exact h2 x h
  | none =>
    simp only
    unfold joinV at hj
    split at hj
    · rename_i hc
      obtain ⟨n, hn, hc⟩ := List.any_eq_true.1 hc
      unfold clash at hc
      rw [Bool.and_eq_true, hasI_iff, hasI_iff] at hc
      obtain ⟨h1, h2⟩ := lit_opp v (six_iff.1 hn).1
      symm
      rw [Bool.eq_false_iff]
      intro h
      rw [Bool.and_eq_true] at h
      simp only [cubeV, List.all_eq_true] at h
      have hh : ∀ x, x ∈ a ∨ x ∈ b → litV v x = true := fun x hx => hx.elim (h.1 x) (h.2 x)
      have e1 := hh _ hc.1
      have e2 := hh _ hc.2
      rw [h1] at e1
      rw [h2, e1] at e2
      cases e2
    · cases hj
theorem someV_put (v : Int → Bool) (l : List (List Int)) (c : List Int) : someV v (putV l c) = (someV v l || cubeV v c) := by
  unfold putV someV
  split
  · rename_i h
    have h' : c ∈ l := by simpa using h
    cases hc : cubeV v c
    · rw [Bool.or_false]
    · rw [Bool.or_true]; exact List.any_eq_true.2 ⟨c, h', hc⟩
  · simp
theorem someV_and1 {v : Int → Bool} {x : List Int} (hx : ∀ m ∈ x, mOk m = true) : ∀ (b o : List (List Int)), (∀ c ∈ b, ∀ m ∈ c, mOk m = true) → someV v (and1 x o b) = (someV v o || (cubeV v x && someV v b)) := by
  intro b
  induction b with
  | nil => intro o _; simp [and1, someV]
  | cons y r ih =>
    intro o h
    have h1 := cubeV_join (v := v) hx (h y (by simp))
    have h2 := fun o => ih o fun c hc => h c (List.mem_cons_of_mem _ hc)
    rw [and1, h2]
    have e : someV v (y :: r) = (cubeV v y || someV v r) := rfl
    rw [e]
    cases hj : joinV x y with
    | none =>
      rw [hj] at h1
      simp only at h1
      rw [Bool.and_or_distrib_left, ← h1, Bool.false_or]
    | some c =>
      rw [hj] at h1
      simp only at h1
      rw [Bool.and_or_distrib_left, ← h1, someV_put, Bool.or_assoc]
theorem someV_and2 {v : Int → Bool} {b : List (List Int)} (hb : ∀ c ∈ b, ∀ m ∈ c, mOk m = true) : ∀ (a o : List (List Int)), (∀ c ∈ a, ∀ m ∈ c, mOk m = true) → someV v (and2 b o a) = (someV v o || (someV v a && someV v b)) := by
  intro a
  induction a with
  | nil => intro o _; simp [and2, someV]
  | cons x r ih =>
    intro o h
    rw [and2, ih _ fun c hc => h c (List.mem_cons_of_mem _ hc), someV_and1 (h x (by simp)) _ _ hb]
    have e : someV v (x :: r) = (cubeV v x || someV v r) := rfl
    rw [e, Bool.and_or_distrib_right, Bool.or_assoc]
theorem someV_or {v : Int → Bool} : ∀ (b o : List (List Int)), someV v (orL o b) = (someV v o || someV v b) := by
  intro b
  induction b with
  | nil => intro o; simp [orL, someV]
  | cons c r ih =>
    intro o
    rw [orL, ih, someV_put, Bool.or_assoc]
    rfl
theorem someV_turn {v : Int → Bool} : ∀ (c : List Int), (∀ m ∈ c, mOk m = true) → someV v (turnC c) = !cubeV v c := by
  intro c
  induction c with
  | nil => intro _; rfl
  | cons m r ih =>
    intro h
    have h1 := ih fun x hx => h x (List.mem_cons_of_mem _ hx)
    have e1 : someV v (turnC (m :: r)) = (cubeV v [-m] || someV v (turnC r)) := rfl
    have e2 : cubeV v (m :: r) = (litV v m && cubeV v r) := rfl
    have e3 : cubeV v [-m] = litV v (-m) := by simp [cubeV]
    rw [e1, e2, e3, h1, lit_neg v (h m (by simp)), Bool.not_and]
theorem turnC_ok {c : List Int} (h : ∀ m ∈ c, mOk m = true) : ∀ d ∈ turnC c, ∀ m ∈ d, mOk m = true := by
  intro d hd m hm
  unfold turnC at hd
  obtain ⟨x, hx, rfl⟩ := List.mem_map.1 hd
  obtain rfl := List.mem_singleton.1 hm
  have := mOk_iff.1 (h x hx)
  exact mOk_iff.2 (by omega)
theorem mem_of_cok {l : List (List Int)} (h : COk l) : ∀ c ∈ l, ∀ m ∈ c, mOk m = true := fun c hc => (h.1.1 c hc).1
theorem someV_andV {v : Int → Bool} {a b x : List (List Int)} (ha : ∀ c ∈ a, ∀ m ∈ c, mOk m = true) (hb : ∀ c ∈ b, ∀ m ∈ c, mOk m = true) (h : andV a b = some x) : someV v x = (someV v a && someV v b) := by
  obtain ⟨rfl, _⟩ := chkC_some h
  rw [someV_and2 hb _ _ ha]
  rfl
theorem someV_orV {v : Int → Bool} {a b x : List (List Int)} (h : orV a b = some x) : someV v x = (someV v a || someV v b) := by
  obtain ⟨rfl, _⟩ := chkC_some h
  exact someV_or _ _
theorem someV_noFrom {v : Int → Bool} : ∀ (l o x : List (List Int)), (∀ c ∈ l, ∀ m ∈ c, mOk m = true) → (∀ c ∈ o, ∀ m ∈ c, mOk m = true) → noFrom o l = some x → someV v x = (someV v o && !someV v l) := by
  intro l
  induction l with
  | nil => intro o x _ _ e; injection e with e; subst e; simp [someV]
  | cons c r ih =>
    intro o x h ho e
    rw [noFrom] at e
    cases ha : andV o (turnC c) with
    | none => rw [ha] at e; cases e
    | some n =>
      rw [ha] at e
      rw [ih n x (fun d hd => h d (List.mem_cons_of_mem _ hd)) (mem_of_cok (andV_ok ha)) e, someV_andV ho (turnC_ok (h c (by simp))) ha, someV_turn c (h c (by simp))]
      have e1 : someV v (c :: r) = (cubeV v c || someV v r) := rfl
      rw [e1, Bool.not_or, Bool.and_assoc]
theorem someV_noV {v : Int → Bool} {l x : List (List Int)} (hl : ∀ c ∈ l, ∀ m ∈ c, mOk m = true) (h : noV l = some x) : someV v x = !someV v l := by
  have := someV_noFrom (v := v) l [[]] x hl (mem_of_cok nilnil_ok) h
  rw [this]
  rfl
theorem someV_op {v : Int → Bool} {s : Int} {a b x : List (List Int)} (hs : s = 10 ∨ s = 11 ∨ s = 13) (ha : COk a) (hb : COk b) (h : opC s a b = some x) :
    someV v x = if s = 10 then (someV v a && someV v b) else if s = 11 then (someV v a || someV v b) else (!someV v a || someV v b) := by
  unfold opC at h
  rcases hs with rfl | rfl | rfl
  · exact someV_andV (mem_of_cok ha) (mem_of_cok hb) h
  · exact someV_orV h
  · simp at h
    unfold thenV at h
    cases hn : noV a with
    | none => rw [hn] at h; cases h
    | some y =>
      rw [hn] at h
      rw [someV_orV h, someV_noV (mem_of_cok ha) hn]
      rfl
/-- Which atoms hold in a world, from 1 on. -/
def valA (l : List Atom) (w : World) (n : Int) : Bool := match l[(n - 1).toNat]? with | some a => atomTrue a w | none => false
theorem cStep_says {l : List Atom} {w : World} {n : Int} {st st' : List (List (List Int))} {s : Int} (hs : codeOk n s = true) (h : ∀ l ∈ st, COk l) (hp : ¬ ((st.length : Int) < fTakes s)) (e : cStep st s = some st') :
    st'.map (someV (valA l w)) = fStep w l (st.map (someV (valA l w))) s := by
  unfold cStep at e
  unfold fStep
  unfold fTakes at hp
  by_cases h12 : s = 12
  · rw [if_pos h12] at e ⊢
    match st, h, e with
    | [], h, e => injection e with e; subst e; rfl
    | x :: r, h, e =>
      simp only at e
      cases hn : noV x with
      | none => rw [hn] at e; cases e
      | some y =>
        rw [hn] at e
        injection e with e
        subst e
        rw [List.map_cons, someV_noV (mem_of_cok (h x (by simp))) hn]
        rfl
  rw [if_neg h12] at e hp ⊢
  by_cases h3 : s = 10 ∨ s = 11 ∨ s = 13
  · rw [if_pos h3] at e hp
    match st, h, e, hp with
    | [], h, e, hp => simp at hp
    | [x], h, e, hp => simp at hp
    | y :: x :: r, h, e, _ =>
      simp only at e
      cases hn : opC s x y with
      | none => rw [hn] at e; cases e
      | some z =>
        rw [hn] at e
        injection e with e
        subst e
        rw [List.map_cons, someV_op h3 (h x (by simp)) (h y (by simp)) hn]
        rcases h3 with rfl | rfl | rfl <;> rfl
  · rw [if_neg h3] at e
    rw [if_neg (by omega), if_neg (by omega), if_neg (by omega)]
    injection e with e
    subst e
    have h0 : 0 ≤ s := by
      rcases codeOk_cases hs with h | h | h | h | h <;> omega
    rw [List.map_cons]
    have e1 : someV (valA l w) [[s + 1]] = valA l w (s + 1) := by
      simp only [someV, cubeV, List.any_cons, List.any_nil, List.all_cons, List.all_nil, Bool.or_false, Bool.and_true]
      exact (lit_opp _ (by omega)).1
    rw [e1]
    unfold valA
    rw [show s + 1 - 1 = s by omega]
    cases l[s.toNat]? <;> rfl
theorem cFold_says {l : List Atom} {w : World} {n : Int} : ∀ (c : List Int) (st st' : List (List (List Int))), c.all (codeOk n) = true → (∀ l ∈ st, COk l) → fShape st.length c = true → cFold st c = some st' →
    st'.map (someV (valA l w)) = c.foldl (fStep w l) (st.map (someV (valA l w))) := by
  intro c
  induction c with
  | nil => intro st st' _ _ _ e; injection e with e; subst e; rfl
  | cons s r ih =>
    intro st st' hc h hs e
    rw [List.all_cons, Bool.and_eq_true] at hc
    rw [fShape] at hs
    split at hs
    · cases hs
    rename_i h1
    rw [cFold] at e
    cases hx : cStep st s with
    | none => rw [hx] at e; cases e
    | some st1 =>
      rw [hx] at e
      rw [ih st1 st' hc.2 (cStep_ok hc.1 h hx) (by rw [cStep_length h1 hx]; exact hs) e, cStep_says hc.1 h h1 hx]
      rfl
/-- CUBES SAY WHAT THE FORMULA SAYS. -/
theorem cubes_say {f : Form} {l : List (List Int)} (h : formChk f = 0) (e : cubesO f.code = some l) (w : World) : someV (valA f.atoms w) l = formTrue f w := by
  obtain ⟨h1, h2, h3, h4, h5, h6, h7⟩ := formChk_parts h
  unfold cubesO at e
  cases hx : cFold [] f.code with
  | none => rw [hx] at e; cases e
  | some st =>
    rw [hx] at e
    injection e with e
    have g := cFold_says (l := f.atoms) (w := w) f.code [] st h6 (fun _ h => by cases h) h7 hx
    obtain ⟨_, g2⟩ := cFold_ok f.code [] st h6 (fun _ h => by cases h) h7 hx
    match st, g2 with
    | [y], _ =>
      subst e
      unfold formTrue
      have g' : [someV (valA f.atoms w) y] = f.code.foldl (fStep w f.atoms) [] := g
      rw [← g']
      rfl
end Venn

namespace Venn
def AllIn (Q : Int → Prop) (l : List (List Int)) : Prop := ∀ c ∈ l, ∀ m ∈ c, Q m
theorem join_in {Q : Int → Prop} {a b c : List Int} (ha : ∀ m ∈ a, Q m) (hb : ∀ m ∈ b, Q m) (h : joinV a b = some c) : ∀ m ∈ c, Q m := by
  obtain ⟨_, rfl⟩ := joinV_some h
  intro m hm
  exact (joinL_mem.1 hm).2.elim (ha m) (hb m)
theorem put_in {Q : Int → Prop} {l : List (List Int)} {c : List Int} (h : AllIn Q l) (hc : ∀ m ∈ c, Q m) : AllIn Q (putV l c) := by
  intro x hx
  rcases putV_mem.1 hx with h' | rfl
  · exact h x h'
  · exact hc
theorem and1_in {Q : Int → Prop} {x : List Int} (hx : ∀ m ∈ x, Q m) : ∀ (b o : List (List Int)), AllIn Q b → AllIn Q o → AllIn Q (and1 x o b) := by
  intro b
  induction b with
  | nil => intro o _ h; exact h
  | cons y r ih =>
    intro o hb h
    rw [and1]
    have hr : AllIn Q r := fun c hc => hb c (List.mem_cons_of_mem _ hc)
    cases hj : joinV x y with
    | none => exact ih _ hr h
    | some c => exact ih _ hr (put_in h (join_in hx (hb y (by simp)) hj))
theorem and2_in {Q : Int → Prop} {b : List (List Int)} (hb : AllIn Q b) : ∀ (a o : List (List Int)), AllIn Q a → AllIn Q o → AllIn Q (and2 b o a) := by
  intro a
  induction a with
  | nil => intro o _ h; exact h
  | cons y r ih => intro o ha h; exact ih _ (fun c hc => ha c (List.mem_cons_of_mem _ hc)) (and1_in (ha y (by simp)) _ _ hb h)
theorem orL_in {Q : Int → Prop} : ∀ (b o : List (List Int)), AllIn Q b → AllIn Q o → AllIn Q (orL o b) := by
  intro b
  induction b with
  | nil => intro o _ h; exact h
  | cons c r ih => intro o hb h; exact ih _ (fun x hx => hb x (List.mem_cons_of_mem _ hx)) (put_in h (hb c (by simp)))
theorem andV_in {Q : Int → Prop} {a b x : List (List Int)} (ha : AllIn Q a) (hb : AllIn Q b) (h : andV a b = some x) : AllIn Q x := by
  obtain ⟨rfl, _⟩ := chkC_some h
  exact and2_in hb _ _ ha (fun _ h => by cases h)
theorem orV_in {Q : Int → Prop} {a b x : List (List Int)} (ha : AllIn Q a) (hb : AllIn Q b) (h : orV a b = some x) : AllIn Q x := by
  obtain ⟨rfl, _⟩ := chkC_some h
  exact orL_in _ _ hb ha
theorem noFrom_in {Q : Int → Prop} (hQ : ∀ m, Q m → Q (-m)) : ∀ (l o x : List (List Int)), AllIn Q l → AllIn Q o → noFrom o l = some x → AllIn Q x := by
  intro l
  induction l with
  | nil => intro o x _ h e; injection e with e; exact e ▸ h
  | cons c r ih =>
    intro o x hl h e
    rw [noFrom] at e
    cases ha : andV o (turnC c) with
    | none => rw [ha] at e; cases e
    | some n =>
      rw [ha] at e
      refine ih n x (fun d hd => hl d (List.mem_cons_of_mem _ hd)) (andV_in h (fun d hd m hm => ?_) ha) e
      obtain ⟨z, hz, rfl⟩ := List.mem_map.1 hd
      obtain rfl := List.mem_singleton.1 hm
      exact hQ z (hl c (by simp) z hz)
theorem noV_in {Q : Int → Prop} (hQ : ∀ m, Q m → Q (-m)) {l x : List (List Int)} (hl : AllIn Q l) (h : noV l = some x) : AllIn Q x :=
  noFrom_in hQ l [[]] x hl (fun c hc m hm => by obtain rfl := List.mem_singleton.1 hc; cases hm) h
theorem opC_in {Q : Int → Prop} (hQ : ∀ m, Q m → Q (-m)) {s : Int} {a b x : List (List Int)} (ha : AllIn Q a) (hb : AllIn Q b) (h : opC s a b = some x) : AllIn Q x := by
  unfold opC at h
  split at h
  · exact andV_in ha hb h
  · split at h
    · exact orV_in ha hb h
    · unfold thenV at h
      cases hn : noV a with
      | none => rw [hn] at h; cases h
      | some y => rw [hn] at h; exact orV_in (noV_in hQ ha hn) hb h
theorem cFold_in {Q : Int → Prop} (hQ : ∀ m, Q m → Q (-m)) {n : Int} (hn : ∀ s, 0 ≤ s → s < n → Q (s + 1)) : ∀ (c : List Int) (st st' : List (List (List Int))), c.all (codeOk n) = true → (∀ l ∈ st, AllIn Q l) → cFold st c = some st' → ∀ l ∈ st', AllIn Q l := by
  intro c
  induction c with
  | nil => intro st st' _ h e; injection e with e; exact e ▸ h
  | cons s r ih =>
    intro st st' hc h e
    rw [List.all_cons, Bool.and_eq_true] at hc
    rw [cFold] at e
    cases hx : cStep st s with
    | none => rw [hx] at e; cases e
    | some st1 =>
      rw [hx] at e
      refine ih st1 st' hc.2 ?_ e
      unfold cStep at hx
      by_cases h12 : s = 12
      · rw [if_pos h12] at hx
        match st, h, hx with
        | [], h, hx => injection hx with hx; subst hx; exact h
        | x :: r, h, hx =>
          simp only at hx
          cases hv : noV x with
          | none => rw [hv] at hx; cases hx
          | some y =>
            rw [hv] at hx
            injection hx with hx
            subst hx
            intro l hl
            rcases List.mem_cons.1 hl with rfl | hl
            · exact noV_in hQ (h x (by simp)) hv
            · exact h l (List.mem_cons_of_mem _ hl)
      rw [if_neg h12] at hx
      by_cases h3 : s = 10 ∨ s = 11 ∨ s = 13
      · rw [if_pos h3] at hx
        match st, h, hx with
        | [], h, hx => injection hx with hx; subst hx; exact h
        | [x], h, hx => injection hx with hx; subst hx; exact h
        | y :: x :: r, h, hx =>
          simp only at hx
          cases hv : opC s x y with
          | none => rw [hv] at hx; cases hx
          | some z =>
            rw [hv] at hx
            injection hx with hx
            subst hx
            intro l hl
            rcases List.mem_cons.1 hl with rfl | hl
            · exact opC_in hQ (h x (by simp)) (h y (by simp)) hv
            · exact h l (List.mem_cons_of_mem _ (List.mem_cons_of_mem _ hl))
      · rw [if_neg h3] at hx
        injection hx with hx
        subst hx
        intro l hl
        rcases List.mem_cons.1 hl with rfl | hl
        · intro d hd m hm
          obtain rfl := List.mem_singleton.1 hd
          obtain rfl := List.mem_singleton.1 hm
          rcases codeOk_cases hc.1 with h' | h' | h' | h' | h'
          all_goals first | omega | exact hn s h'.1 h'.2.2
        · exact h l hl
/-- The members of a formula's cubes are its atoms. -/
theorem cubes_in {f : Form} {l : List (List Int)} (h : formChk f = 0) (e : cubesO f.code = some l) : ∀ c ∈ l, ∀ m ∈ c, m ≠ 0 ∧ -(f.atoms.length : Int) ≤ m ∧ m ≤ f.atoms.length := by
  obtain ⟨h1, h2, h3, h4, h5, h6, h7⟩ := formChk_parts h
  unfold cubesO at e
  cases hx : cFold [] f.code with
  | none => rw [hx] at e; cases e
  | some st =>
    rw [hx] at e
    injection e with e
    have g := cFold_in (Q := fun m => m ≠ 0 ∧ -(f.atoms.length : Int) ≤ m ∧ m ≤ f.atoms.length) (fun m hm => by omega) (n := f.atoms.length) (fun s h0 h1 => by omega) f.code [] st h6 (fun _ h => by cases h) hx
    obtain ⟨_, g2⟩ := cFold_ok f.code [] st h6 (fun _ h => by cases h) h7 hx
    match st, g2 with
    | [y], _ => subst e; exact g y (by simp)
end Venn

namespace Venn
/-- The row of a member. -/
def rowOf (l : List Atom) (m : Int) : List Int := match l[(absI m - 1).toNat]? with | some a => rowL a (decide (0 < m)) | none => []
def linesV (l : List Atom) (c : List Int) : List (List Int) := c.map (rowOf l)
def firstM (l : List Atom) (u : Int) : List (List Int) → Option (List Int)
  | [] => none
  | c :: r => match firstFit u (linesV l c) with | some n => some n | none => firstM l u r
def modelO (f : Form) (u : Int) : Option (List Int) := firstM f.atoms u (cubesV f)
def modelErr (f : Form) (u : Int) : Int := if cubesErr f = 0 then (if things u = true then (match modelO f u with | some _ => 0 | none => 5) else 1) else cubesErr f
def modelV (f : Form) (u : Int) : World := if cubesErr f = 0 then (if things u = true then (match modelO f u with | some n => made n | none => ⟨0, 0, 0, 0⟩) else ⟨0, 0, 0, 0⟩) else ⟨0, 0, 0, 0⟩
def againstErr (f : Form) (u : Int) : Int := if negChk f = 0 then modelErr (negF f) u else negChk f
def againstV (f : Form) (u : Int) : World := if negChk f = 0 then modelV (negF f) u else ⟨0, 0, 0, 0⟩
def sureErr (f : Form) (u : Int) : Int := if formChk f = 0 then (if againstErr f u = 0 ∨ againstErr f u = 5 then 0 else againstErr f u) else formChk f
def sureV (f : Form) (u : Int) : Bool := if formChk f = 0 then decide (againstErr f u = 5) else false
theorem cubesErr_form {f : Form} (h : cubesErr f = 0) : formChk f = 0 ∧ ∃ l, cubesO f.code = some l ∧ cubesV f = l := by
  unfold cubesErr at h
  by_cases hz : formChk f = 0
  · rw [if_pos hz] at h
    refine ⟨hz, ?_⟩
    unfold cubesV
    rw [if_pos hz]
    cases hx : cubesO f.code with
    | none => rw [hx] at h; cases h
    | some l => exact ⟨l, rfl, rfl⟩
  · rw [if_neg hz] at h
    exact absurd h hz
theorem rowOf_ok {l : List Atom} (ha : ∀ a ∈ l, atomChk a = 0) {m : Int} (hm : m ≠ 0 ∧ -(l.length : Int) ≤ m ∧ m ≤ l.length) : ∃ a, l[(absI m - 1).toNat]? = some a ∧ atomChk a = 0 ∧ rowOf l m = rowL a (decide (0 < m)) := by
  have hx : (absI m - 1).toNat < l.length := by unfold absI; split <;> omega
  refine ⟨l[(absI m - 1).toNat], List.getElem?_eq_getElem hx, ha _ (List.getElem_mem hx), ?_⟩
  unfold rowOf
  rw [List.getElem?_eq_getElem hx]
theorem lines_so {l : List Atom} (ha : ∀ a ∈ l, atomChk a = 0) {w : World} (hw : worldChk w = 0) : ∀ (c : List Int), (∀ m ∈ c, m ≠ 0 ∧ -(l.length : Int) ≤ m ∧ m ≤ l.length) → rowsSo (linesV l c) (fieldsOf w) = cubeV (valA l w) c := by
  intro c
  induction c with
  | nil => intro _; rfl
  | cons m r ih =>
    intro h
    have h1 := ih fun x hx => h x (List.mem_cons_of_mem _ hx)
    obtain ⟨a, e1, e2, e3⟩ := rowOf_ok ha (h m (by simp))
    have e : rowsSo (linesV l (m :: r)) (fieldsOf w) = (rowSo (rowOf l m) (fieldsOf w) && rowsSo (linesV l r) (fieldsOf w)) := rfl
    have e' : cubeV (valA l w) (m :: r) = (litV (valA l w) m && cubeV (valA l w) r) := rfl
    rw [e, e', h1, e3, row_says e2 hw]
    congr 1
    unfold litV valA
    rw [e1]
theorem firstM_some {l : List Atom} {u : Int} {n : List Int} : ∀ {L : List (List Int)}, firstM l u L = some n → ∃ c ∈ L, n ∈ allC u ∧ rowsSo (linesV l c) n = true := by
  intro L
  induction L with
  | nil => intro h; cases h
  | cons c r ih =>
    intro h
    rw [firstM] at h
    cases hf : firstFit u (linesV l c) with
    | some x =>
      rw [hf] at h
      injection h with h
      subst h
      exact ⟨c, by simp, List.mem_of_find?_eq_some hf, List.find?_some hf⟩
    | none =>
      rw [hf] at h
      obtain ⟨d, h1, h2⟩ := ih h
      exact ⟨d, List.mem_cons_of_mem _ h1, h2⟩
theorem firstM_none {l : List Atom} {u : Int} : ∀ {L : List (List Int)}, firstM l u L = none → ∀ c ∈ L, ∀ n ∈ allC u, rowsSo (linesV l c) n = false := by
  intro L
  induction L with
  | nil => intro _ c hc; cases hc
  | cons c r ih =>
    intro h
    rw [firstM] at h
    cases hf : firstFit u (linesV l c) with
    | some x => rw [hf] at h; cases h
    | none =>
      rw [hf] at h
      intro d hd n hn
      rcases List.mem_cons.1 hd with rfl | hd
      · have := List.find?_eq_none.1 hf n hn
        simpa using this
      · exact ih h d hd n hn
theorem firstM_mem {l : List Atom} {u : Int} {n : List Int} {L : List (List Int)} (h : firstM l u L = some n) : n ∈ allC u := by
  obtain ⟨_, _, h1, _⟩ := firstM_some h
  exact h1
theorem chk_atoms {f : Form} (h : formChk f = 0) : ∀ a ∈ f.atoms, atomChk a = 0 := by
  obtain ⟨_, _, _, _, h5, _, _⟩ := formChk_parts h
  exact fun x hx => atomsChk_mem h5 x hx
theorem fields_made_allC {u : Int} (hu : things u = true) {n : List Int} (hn : n ∈ allC u) : fieldsOf (made n) = n := by
  obtain ⟨h1, h2, h3⟩ := (mem_allC hu n).1 hn
  refine fieldsOf_made h1 h2 ?_
  simp only [things, Bool.and_eq_true, decide_eq_true_eq] at hu
  omega
/-- IN A MODEL IT HOLDS. -/
theorem model_holds {f : Form} {u : Int} (h : cubesErr f = 0) (hu : things u = true) {n : List Int} (hn : modelO f u = some n) : worldChk (made n) = 0 ∧ (made n).things = u ∧ formTrue f (made n) = true := by
  obtain ⟨hz, L, hL, hv⟩ := cubesErr_form h
  unfold modelO at hn
  rw [hv] at hn
  obtain ⟨c, hc, hm, hs⟩ := firstM_some hn
  obtain ⟨w1, w2⟩ := made_allC hu hm
  refine ⟨w1, w2, ?_⟩
  rw [← cubes_say hz hL]
  have := lines_so (chk_atoms hz) w1 c (cubes_in hz hL c hc)
  rw [fields_made_allC hu hm, hs] at this
  exact List.any_eq_true.2 ⟨c, hc, this.symm⟩
/-- WHERE THERE IS NONE IT NEVER DOES. -/
theorem model_none {f : Form} {u : Int} (h : cubesErr f = 0) (hn : modelO f u = none) {w : World} (hw : worldChk w = 0) (ht : w.things = u) : formTrue f w = false := by
  obtain ⟨hz, L, hL, hv⟩ := cubesErr_form h
  unfold modelO at hn
  rw [hv] at hn
  rw [← cubes_say hz hL]
  unfold someV
  rw [List.any_eq_false]
  intro c hc
  rw [← lines_so (chk_atoms hz) hw c (cubes_in hz hL c hc), firstM_none hn c hc _ (ht ▸ fieldsOf_mem hw)]
  decide
end Venn
