/-
  THE PLAIN SIDE: what the program's functions compute, as functions on integers and lists. No program in sight.
  PLAIN: term.Value.
  PLAIN LAWS of sets. No program in sight.
  PLAIN LAWS of masks: a term is a right set; what it is in a world of one thing is 1 or 0.
  PLAIN LAWS of masks of terms: what is same, part, apart.
  THE PLAIN SIDE of two terms, one behind the other.
  THE PLAIN LAW of vennlaw1.SetsTurn: De Morgan, and how many.
  THE PLAIN SIDE of atoms.
  THE PLAIN SIDE of rows.
  THE PLAIN SIDE of counts, of rows that are so, and of the counts that fit.
  THE PLAIN SIDE of formulas.
  THE PLAIN SIDE of package some.
  THE PLAIN SIDE of form.Negate and form.Both.
  THE PLAIN SIDE of the least counts that fit.
-/

namespace Venn

/-! ### sets -/
def things (u : Int) : Bool := decide (0 ≤ u) && decide (u ≤ 6)
def allS (u : Int) : Int := ((2 ^ u.toNat : Nat) : Int) - 1
def rightS (u s : Int) : Bool := decide (0 ≤ s) && decide (s ≤ allS u)
def setChk (u s : Int) : Int := if (things u && rightS u s) = true then 0 else 1
def andNot (a b : Nat) : Nat := a ^^^ (a &&& b)
def setOf (what u a b : Int) : Int :=
  if what = 5 then ((a.toNat ||| b.toNat : Nat) : Int)
  else if what = 6 then ((a.toNat &&& b.toNat : Nat) : Int)
  else if what = 7 then (andNot a.toNat b.toNat : Int)
  else (andNot (allS u).toNat a.toNat : Int)
def bit (s : Int) (i : Nat) : Bool := s.toNat.testBit i
def many (s : Int) : Int := ((List.range 6).filter fun i => bit s i).length
def sizeV (u s : Int) : Int := if setChk u s = 0 then many s else 0
def setDoChk (what u a b : Int) : Int :=
  if setChk u a = 0 then (if setChk u b = 0 then (if what < 5 ∨ 8 < what then 1 else 0) else 1) else 1

def setDoV (what u a b : Int) : Int := if setDoChk what u a b = 0 then setOf what u a b else 0
def hasChk (u s i : Int) : Int := if setChk u s = 0 then (if i < 0 ∨ u ≤ i then 1 else 0) else 1
def hasV (u s i : Int) : Bool := if hasChk u s i = 0 then bit s i.toNat else false

/-! ### worlds and terms -/
structure World where
  things : Int
  a : Int
  b : Int
  c : Int
def World.has (w : World) (k : Int) : Int := if k = 0 then w.a else if k = 1 then w.b else w.c
def worldChk (w : World) : Int :=
  if things w.things = true then (if setChk w.things w.a = 0 then (if setChk w.things w.b = 0 then setChk w.things w.c else 1) else 1) else 1

def takes (s : Int) : Int := if s = 8 then 1 else if 5 ≤ s then 2 else 0
def shapeGo : Int → List Int → Int
  | m, [] => if m = 1 then 0 else 3
  | m, s :: r => if m < takes s then 3 else shapeGo (m + (1 - takes s)) r
def badSign (s : Int) : Bool := decide (s < 0) || decide (8 < s)
def termChk (t : List Int) : Int :=
  if t.length = 0 then 5 else if 12 < t.length then 4 else if t.any badSign = true then 1 else shapeGo 0 t

/-- One sign, on the stack of sets (the top first). -/
def setStep (w : World) (st : List Int) (s : Int) : List Int :=
  if s < 3 then w.has s :: st
  else if s = 3 then 0 :: st
  else if s = 4 then allS w.things :: st
  else if s = 8 then (match st with | x :: r => setOf 8 w.things x 0 :: r | [] => [])
  else (match st with | y :: x :: r => setOf s w.things x y :: r | _ => st)
def termSet (t : List Int) (w : World) : Int := (t.foldl (setStep w) []).headD 0


/-! ### fields -/
/-- Thing t joins name nm, if the field k says so. -/
def orBit (s : Int) (k nm : Nat) (t : Int) : Int := ((s.toNat ||| (k / 2 ^ nm % 2) * 2 ^ t.toNat : Nat) : Int)
def addThing (k : Nat) (w : World) : World := ⟨w.things + 1, orBit w.a k 0 w.things, orBit w.b k 1 w.things, orBit w.c k 2 w.things⟩
def addMany (k : Nat) : Nat → World → World
  | 0, w => w
  | n + 1, w => addMany k n (addThing k w)
def madeGo : Nat → List Int → World → World
  | _, [], w => w
  | k, n :: r, w => madeGo (k + 1) r (addMany k n.toNat w)
/-- The world of so many in each field. -/
def made (l : List Int) : World := madeGo 0 l ⟨0, 0, 0, 0⟩
/-- Does a term lie in a field: 1 or 0. -/
def lies (t : List Int) (f : Nat) : Int := termSet t ⟨1, (f % 2 : Nat), (f / 2 % 2 : Nat), (f / 4 % 2 : Nat)⟩
def maskTo (t : List Int) : Nat → Int
  | 0 => 0
  | f + 1 => maskTo t f + lies t f * 2 ^ f
/-- In which fields a term lies. -/
def mask (t : List Int) : Int := maskTo t 8
end Venn

namespace Venn
def valueChk (t : List Int) (w : World) : Int := if termChk t = 0 then worldChk w else termChk t
def valueV (t : List Int) (w : World) : Int := if valueChk t w = 0 then termSet t w else 0
end Venn

namespace Venn

theorem setChk_iff {u s : Int} : setChk u s = 0 ↔ (0 ≤ u ∧ u ≤ 6) ∧ 0 ≤ s ∧ s.toNat < 2 ^ u.toNat := by
  have hp : 0 < 2 ^ u.toNat := Nat.two_pow_pos _
  unfold setChk things rightS allS
  constructor
  · intro h
    split at h
    · rename_i hh
      simp only [Bool.and_eq_true, decide_eq_true_eq] at hh
      exact ⟨hh.1, hh.2.1, by omega⟩
    · simp at h
  · rintro ⟨⟨h1, h2⟩, h3, h4⟩
    rw [if_pos]
    simp only [Bool.and_eq_true, decide_eq_true_eq]
    exact ⟨⟨h1, h2⟩, h3, by omega⟩

theorem andNot_lt {a b n : Nat} (h : a < 2 ^ n) : andNot a b < 2 ^ n :=
  Nat.xor_lt_two_pow h (Nat.lt_of_le_of_lt Nat.and_le_left h)

/-- What is done to right sets is a right set. -/
theorem setOf_right {what u a b : Int} (ha : setChk u a = 0) (hb : setChk u b = 0) : setChk u (setOf what u a b) = 0 := by
  obtain ⟨hu, ha0, ha1⟩ := setChk_iff.1 ha
  obtain ⟨_, hb0, hb1⟩ := setChk_iff.1 hb
  have hp : 0 < 2 ^ u.toNat := Nat.two_pow_pos _
  unfold setOf
  split
  · exact setChk_iff.2 ⟨hu, by omega, by simpa using Nat.or_lt_two_pow ha1 hb1⟩
  split
  · exact setChk_iff.2 ⟨hu, by omega, by simpa using Nat.lt_of_le_of_lt Nat.and_le_left ha1⟩
  split
  · exact setChk_iff.2 ⟨hu, by omega, by simpa using andNot_lt ha1⟩
  · exact setChk_iff.2 ⟨hu, by omega, by rw [Int.toNat_natCast]; exact andNot_lt (by unfold allS; omega)⟩

theorem many_le (s : Int) : 0 ≤ many s ∧ many s ≤ 6 := by
  unfold many
  have := List.length_filter_le (fun i => bit s i) (List.range 6)
  simp at this
  omega

theorem small_of {u s : Int} (h : setChk u s = 0) : ∃ (U : Fin 7) (S : Fin 64), u = ((U.val : Nat) : Int) ∧ s = ((S.val : Nat) : Int) := by
  obtain ⟨hu, h0, h1⟩ := setChk_iff.1 h
  have : 2 ^ u.toNat ≤ 2 ^ 6 := Nat.pow_le_pow_right (by omega) (by omega)
  exact ⟨⟨u.toNat, by omega⟩, ⟨s.toNat, by omega⟩, by simp; omega, by simp; omega⟩

/-! ### terms -/
theorem worldChk_iff {w : World} : worldChk w = 0 ↔ things w.things = true ∧ setChk w.things w.a = 0 ∧ setChk w.things w.b = 0 ∧ setChk w.things w.c = 0 := by
  unfold worldChk
  constructor
  · intro h
    split at h
    · split at h
      · split at h
        · exact ⟨‹_›, ‹_›, ‹_›, h⟩
        · simp at h
      · simp at h
    · simp at h
  · rintro ⟨h1, h2, h3, h4⟩
    rw [if_pos h1, if_pos h2, if_pos h3, h4]
theorem setChk_zero {u : Int} (h : things u = true) : setChk u 0 = 0 := by
  have h' : 0 ≤ u ∧ u ≤ 6 := by simpa [things] using h
  exact setChk_iff.2 ⟨h', by omega, Nat.two_pow_pos _⟩
theorem setChk_all {u : Int} (h : things u = true) : setChk u (allS u) = 0 := by
  have h' : 0 ≤ u ∧ u ≤ 6 := by simpa [things] using h
  have hp : 0 < 2 ^ u.toNat := Nat.two_pow_pos _
  exact setChk_iff.2 ⟨h', by unfold allS; omega, by unfold allS; omega⟩
def Right (u : Int) (st : List Int) : Prop := ∀ x ∈ st, setChk u x = 0
theorem has_right {w : World} (hw : worldChk w = 0) (k : Int) : setChk w.things (w.has k) = 0 := by
  obtain ⟨_, h2, h3, h4⟩ := worldChk_iff.1 hw
  unfold World.has
  split
  · exact h2
  split
  · exact h3
  · exact h4
theorem setStep_right {w : World} (hw : worldChk w = 0) {st : List Int} (hst : Right w.things st) (s : Int) : Right w.things (setStep w st s) := by
  have ht := (worldChk_iff.1 hw).1
  unfold setStep
  split
  · intro x hx; rcases List.mem_cons.1 hx with rfl | hx; exact has_right hw s; exact hst x hx
  split
  · intro x hx; rcases List.mem_cons.1 hx with rfl | hx; exact setChk_zero ht; exact hst x hx
  split
  · intro x hx; rcases List.mem_cons.1 hx with rfl | hx; exact setChk_all ht; exact hst x hx
  split
  · split
    · rename_i y r
      intro x hx
      rcases List.mem_cons.1 hx with rfl | hx
      · exact setOf_right (hst y (by simp)) (setChk_zero ht)
      · exact hst x (by simp [hx])
    · intro x hx; simp at hx
  · split
    · rename_i y x' r
      intro x hx
      rcases List.mem_cons.1 hx with rfl | hx
      · exact setOf_right (hst x' (by simp)) (hst y (by simp))
      · exact hst x (by simp [hx])
    · rename_i hno
      exact hst
theorem shape_step {m : Int} {x : Int} {r : List Int} (h : shapeGo m (x :: r) = 0) : takes x ≤ m ∧ shapeGo (m + (1 - takes x)) r = 0 := by
  unfold shapeGo at h
  split at h
  · simp at h
  · exact ⟨by omega, h⟩
theorem setStep_length {w : World} {st : List Int} {x : Int} (hx : 0 ≤ x ∧ x ≤ 8) (h : takes x ≤ (st.length : Int)) : ((setStep w st x).length : Int) = st.length + (1 - takes x) := by
  by_cases h3 : x < 3
  · have h8 : ¬ x = 8 := by omega
    have h5 : ¬ 5 ≤ x := by omega
    simp [setStep, takes, h3, h8, h5]
  by_cases h3' : x = 3
  · subst h3'; simp [setStep, takes]
  by_cases h4 : x = 4
  · subst h4; simp [setStep, takes]
  by_cases h8 : x = 8
  · subst h8
    match st, h with
    | [], h => simp [takes] at h
    | y :: r, _ => simp [setStep, takes]
  have h5 : 5 ≤ x := by omega
  match st, h with
  | [], h => simp [takes, h8, h5] at h
  | [_], h => simp [takes, h8, h5] at h
  | y :: z :: r, _ => simp [setStep, takes, h3, h3', h4, h8, h5]; omega
theorem sum_nonneg : ∀ (l : List Int), (∀ x ∈ l, 0 ≤ x) → 0 ≤ l.sum
  | [], _ => by simp
  | x :: r, h => by
    have h1 := h x (by simp)
    have h2 := sum_nonneg r fun y hy => h y (by simp [hy])
    simp only [List.sum_cons]
    omega
end Venn

namespace Venn
theorem foldl_right {w : World} (hw : worldChk w = 0) : ∀ (t : List Int) (st : List Int), Right w.things st → Right w.things (t.foldl (setStep w) st)
  | [], _, h => h
  | s :: r, _, h => foldl_right hw r _ (setStep_right hw h s)
theorem termSet_right {w : World} (hw : worldChk w = 0) (t : List Int) : setChk w.things (termSet t w) = 0 := by
  have h := foldl_right hw t [] (fun x hx => by simp at hx)
  unfold termSet
  cases hc : t.foldl (setStep w) [] with
  | nil => exact setChk_zero (worldChk_iff.1 hw).1
  | cons x r => exact h x (by rw [hc]; simp)
theorem one_right (f : Nat) : worldChk ⟨1, (f % 2 : Nat), (f / 2 % 2 : Nat), (f / 4 % 2 : Nat)⟩ = 0 := by
  have h1 : f % 2 < 2 := Nat.mod_lt _ (by omega)
  have h2 : f / 2 % 2 < 2 := Nat.mod_lt _ (by omega)
  have h3 : f / 4 % 2 < 2 := Nat.mod_lt _ (by omega)
  refine worldChk_iff.2 ⟨show things 1 = true by decide, ?_, ?_, ?_⟩ <;> exact setChk_iff.2 ⟨by simp, by simp; omega, by simp; omega⟩
theorem lies_01 (t : List Int) (f : Nat) : 0 ≤ lies t f ∧ lies t f ≤ 1 := by
  have h := setChk_iff.1 (termSet_right (one_right f) t)
  unfold lies
  have h2 : 0 ≤ termSet t ⟨1, (f % 2 : Nat), (f / 2 % 2 : Nat), (f / 4 % 2 : Nat)⟩ ∧ (termSet t ⟨1, (f % 2 : Nat), (f / 2 % 2 : Nat), (f / 4 % 2 : Nat)⟩).toNat < 2 := h.2
  omega
theorem maskTo_lt (t : List Int) : ∀ f, 0 ≤ maskTo t f ∧ maskTo t f < 2 ^ f
  | 0 => by simp [maskTo]
  | f + 1 => by
    have h1 := maskTo_lt t f
    have h2 := lies_01 t f
    have hp : (0 : Int) < 2 ^ f := Int.pow_pos (by omega)
    unfold maskTo
    rw [Int.pow_succ]
    rcases (by omega : lies t f = 0 ∨ lies t f = 1) with h | h <;> rw [h] <;> omega
end Venn

namespace Venn
def chk2 (s t : List Int) : Int := if termChk s = 0 then termChk t else termChk s
def sameV (s t : List Int) : Bool := decide (chk2 s t = 0) && (mask s == mask t)
def partV (s t : List Int) : Bool := decide (chk2 s t = 0) && (((andNot (mask s).toNat (mask t).toNat : Nat) : Int) == 0)
def apartV (s t : List Int) : Bool := decide (chk2 s t = 0) && ((((mask s).toNat &&& (mask t).toNat : Nat) : Int) == 0)
theorem mask_range (t : List Int) : 0 ≤ mask t ∧ mask t ≤ 255 := by
  have := maskTo_lt t 8
  unfold mask
  omega
theorem termSet_not (t : List Int) (w : World) (h : (t.foldl (setStep w) []).length = 1) : termSet (t ++ [8]) w = setOf 8 w.things (termSet t w) 0 := by
  unfold termSet
  rw [List.foldl_append]
  cases hc : t.foldl (setStep w) [] with
  | nil => rw [hc] at h; simp at h
  | cons x r => simp [setStep]
theorem foldl_length {w : World} : ∀ (t : List Int) (st : List Int), (∀ x ∈ t, 0 ≤ x ∧ x ≤ 8) → shapeGo st.length t = 0 → (t.foldl (setStep w) st).length = 1
  | [], st, _, h => by
    simp only [shapeGo] at h
    split at h
    · simp; omega
    · simp at h
  | x :: r, st, hb, h => by
    obtain ⟨h1, h2⟩ := shape_step h
    refine foldl_length r _ (fun y hy => hb y (by simp [hy])) ?_
    rw [setStep_length (hb x (by simp)) h1]
    exact h2
theorem termChk_parts {t : List Int} (h : termChk t = 0) : t.length ≠ 0 ∧ t.length ≤ 12 ∧ (∀ x ∈ t, 0 ≤ x ∧ x ≤ 8) ∧ shapeGo 0 t = 0 := by
  unfold termChk at h
  split at h
  · simp at h
  split at h
  · simp at h
  split at h
  · simp at h
  · rename_i h1 h2 h3
    refine ⟨h1, by omega, fun x hx => ?_, h⟩
    have h3' : t.any badSign = false := by simpa using h3
    have := List.any_eq_false.1 h3' x hx
    simp [badSign] at this
    omega
theorem termChk_mk {t : List Int} (h0 : t.length ≠ 0) (h12 : t.length ≤ 12) (hb : ∀ x ∈ t, 0 ≤ x ∧ x ≤ 8) (hs : shapeGo 0 t = 0) : termChk t = 0 := by
  have h3 : t.any badSign = false := by
    rw [List.any_eq_false]
    intro x hx
    have := hb x hx
    simp [badSign]
    omega
  unfold termChk
  rw [if_neg h0, if_neg (by omega), if_neg (by rw [h3]; simp), hs]
theorem shape_append : ∀ (t r : List Int) (m : Int), shapeGo m t = 0 → shapeGo m (t ++ r) = shapeGo 1 r
  | [], r, m, h => by
    simp only [shapeGo] at h
    split at h
    · rename_i h1; rw [h1]; rfl
    · simp at h
  | x :: t, r, m, h => by
    obtain ⟨h1, h2⟩ := shape_step h
    rw [List.cons_append, shapeGo, if_neg (by omega)]
    exact shape_append t r _ h2
theorem termChk_not {t : List Int} (h : termChk t = 0) (hl : t.length ≤ 11) : termChk (t ++ [8]) = 0 := by
  obtain ⟨h0, _, hb, hs⟩ := termChk_parts h
  refine termChk_mk (by simp) (by simp; omega) ?_ ?_
  · intro x hx
    rcases List.mem_append.1 hx with h | h
    · exact hb x h
    · simp at h; omega
  · rw [shape_append _ _ _ hs]; rfl
theorem not_01 : ∀ x : Fin 2, setOf 8 1 (x.val : Int) 0 = 1 - (x.val : Int) := by decide +kernel
theorem lies_not {t : List Int} (h : termChk t = 0) (f : Nat) : lies (t ++ [8]) f = 1 - lies t f := by
  obtain ⟨_, _, hb, hs⟩ := termChk_parts h
  have h1 := lies_01 t f
  unfold lies at *
  rw [termSet_not t _ (foldl_length t [] hb hs)]
  generalize termSet t ⟨1, (f % 2 : Nat), (f / 2 % 2 : Nat), (f / 4 % 2 : Nat)⟩ = x at h1 ⊢
  rcases (by omega : x = 0 ∨ x = 1) with rfl | rfl
  · exact not_01 0
  · exact not_01 1
theorem maskTo_not {t : List Int} (h : termChk t = 0) : ∀ f, maskTo (t ++ [8]) f = 2 ^ f - 1 - maskTo t f
  | 0 => by simp [maskTo]
  | f + 1 => by
    unfold maskTo
    rw [maskTo_not h f, lies_not h f, Int.sub_mul, Int.one_mul, Int.pow_succ]
    omega
theorem and_compl : ∀ m : Fin 256, (m.val &&& (255 - m.val)) = 0 := by decide +kernel
theorem andNot_all : ∀ m : Fin 256, andNot m.val 255 = 0 := by decide +kernel
theorem mask_all : mask [4] = 255 := by decide +kernel
theorem apart_not {t : List Int} (h : termChk t = 0) (hl : t.length ≤ 11) : apartV t (t ++ [8]) = true := by
  have h2 := termChk_not h hl
  have hm : mask (t ++ [8]) = 255 - mask t := maskTo_not h 8
  have hr := mask_range t
  have hc := and_compl ⟨(mask t).toNat, by omega⟩
  unfold apartV chk2
  rw [if_pos h, hm, show (255 - mask t).toNat = 255 - (mask t).toNat by omega, hc, h2]
  rfl
theorem part_all {t : List Int} (h : termChk t = 0) : partV t [4] = true := by
  have hr := mask_range t
  have hc := andNot_all ⟨(mask t).toNat, by omega⟩
  unfold partV chk2
  rw [if_pos h, mask_all, show ((255 : Int)).toNat = 255 from rfl, hc]
  rfl
theorem same_self {t : List Int} (h : termChk t = 0) : sameV t t = true := by
  unfold sameV chk2
  rw [if_pos h, h]
  simp
end Venn

namespace Venn
theorem setStep_base {w : World} {st base : List Int} {x : Int} (hx : 0 ≤ x ∧ x ≤ 8) (h : takes x ≤ st.length) : setStep w (st ++ base) x = setStep w st x ++ base := by
  unfold takes at h
  unfold setStep
  by_cases h3 : x < 3
  · simp [h3]
  by_cases e3 : x = 3
  · simp [e3]
  by_cases e4 : x = 4
  · simp [e4]
  by_cases e8 : x = 8
  · subst e8
    match st, h with
    | y :: r, _ => simp
  · have h5 : 5 ≤ x := by omega
    rw [if_neg e8, if_pos h5] at h
    match st, h with
    | y :: z :: r, _ => simp [h3, e3, e4, e8]
    | [y], h => simp at h
    | [], h => simp at h
theorem foldl_base {w : World} : ∀ (t : List Int) (st base : List Int), (∀ x ∈ t, 0 ≤ x ∧ x ≤ 8) → shapeGo st.length t = 0 → t.foldl (setStep w) (st ++ base) = t.foldl (setStep w) st ++ base := by
  intro t
  induction t with
  | nil => intro st base _ _; rfl
  | cons x t ih =>
    intro st base hx hs
    have hx0 := hx x (by simp)
    obtain ⟨h1, h2⟩ := shape_step hs
    simp only [List.foldl_cons]
    rw [setStep_base hx0 (by omega)]
    have hl := setStep_length (w := w) hx0 h1
    exact ih _ base (fun y hy => hx y (List.mem_cons_of_mem _ hy)) (by rw [hl]; exact h2)
theorem shape_app : ∀ (t u : List Int) (k m : Int), 0 ≤ m → shapeGo k t = 0 → shapeGo (m + k) (t ++ u) = shapeGo (m + 1) u := by
  intro t
  induction t with
  | nil =>
    intro u k m _ h
    simp only [shapeGo] at h
    split at h
    · rename_i hk; rw [hk]; rfl
    · cases h
  | cons x t ih =>
    intro u k m hm h
    simp only [shapeGo] at h
    split at h
    · cases h
    · rename_i hk
      simp only [List.cons_append, shapeGo]
      rw [if_neg (by omega), ← ih u _ m hm h]
      congr 1
      omega
theorem termChk_split {t : List Int} (h : termChk t = 0) : 0 < t.length ∧ t.length ≤ 12 ∧ (∀ x ∈ t, 0 ≤ x ∧ x ≤ 8) ∧ shapeGo 0 t = 0 := by
  unfold termChk at h
  split at h
  · simp at h
  · split at h
    · simp at h
    · split at h
      · simp at h
      · rename_i h1 h2 h3
        refine ⟨by omega, by omega, fun x hx => ?_, h⟩
        have h3' : t.any badSign = false := by simpa using h3
        have := List.any_eq_false.1 h3' x hx
        simp [badSign] at this
        omega
theorem termChk_both {t r : List Int} {what : Int} (ht : termChk t = 0) (hr : termChk r = 0) (hl : t.length + r.length ≤ 11) (hw : 5 ≤ what ∧ what ≤ 7) : termChk (t ++ r ++ [what]) = 0 := by
  obtain ⟨t1, _, t3, t4⟩ := termChk_split ht
  obtain ⟨r1, _, r3, r4⟩ := termChk_split hr
  have hs : shapeGo 0 (t ++ r ++ [what]) = 0 := by
    have h1 := shape_app t (r ++ [what]) 0 0 (by omega) t4
    have h2 := shape_app r [what] 0 1 (by omega) r4
    simp only [Int.add_zero, Int.zero_add] at h1 h2
    rw [List.append_assoc, h1, h2]
    have htk : takes what = 2 := by unfold takes; rw [if_neg (by omega), if_pos (by omega)]
    simp [shapeGo, htk]
  unfold termChk
  rw [if_neg (by simp), if_neg (by simp; omega), if_neg, hs]
  intro h
  obtain ⟨x, hx, hb⟩ := List.any_eq_true.1 h
  have : 0 ≤ x ∧ x ≤ 8 := by
    rcases List.mem_append.1 hx with hx | hx
    · rcases List.mem_append.1 hx with hx | hx
      · exact t3 x hx
      · exact r3 x hx
    · rw [List.mem_singleton.1 hx]; omega
  simp [badSign] at hb
  omega
theorem fold_one {w : World} {t : List Int} (ht : termChk t = 0) (base : List Int) : t.foldl (setStep w) base = termSet t w :: base := by
  obtain ⟨_, _, t3, t4⟩ := termChk_split ht
  have h1 := foldl_base (w := w) t [] base t3 (by simpa using t4)
  simp only [List.nil_append] at h1
  have hlen : ∀ (t : List Int) (st : List Int), (∀ x ∈ t, 0 ≤ x ∧ x ≤ 8) → shapeGo st.length t = 0 → (t.foldl (setStep w) st).length = 1 := by
    intro t
    induction t with
    | nil => intro st _ h; simp only [shapeGo] at h; split at h <;> first | (simp; omega) | cases h
    | cons x t ih =>
      intro st hx hs
      have hx0 := hx x (by simp)
      obtain ⟨h1, h2⟩ := shape_step hs
      have hl := setStep_length (w := w) hx0 h1
      exact ih _ (fun y hy => hx y (List.mem_cons_of_mem _ hy)) (by rw [hl]; exact h2)
  have h2 := hlen t [] t3 (by simpa using t4)
  rw [h1, termSet]
  match hh : t.foldl (setStep w) [], h2 with
  | [y], _ => rfl
theorem termSet_both {w : World} {t r : List Int} {what : Int} (ht : termChk t = 0) (hr : termChk r = 0) (hw : 5 ≤ what ∧ what ≤ 7) : termSet (t ++ r ++ [what]) w = setOf what w.things (termSet t w) (termSet r w) := by
  have e : (t ++ r ++ [what]).foldl (setStep w) [] = [setOf what w.things (termSet t w) (termSet r w)] := by
    rw [List.foldl_append, List.foldl_append, fold_one ht, fold_one hr]
    simp only [List.foldl_cons, List.foldl_nil, setStep]
    rw [if_neg (by omega), if_neg (by omega), if_neg (by omega), if_neg (by omega)]
  rw [termSet, e]
  rfl
end Venn

namespace Venn
theorem turn_plain : ∀ (u : Fin 7) (a b : Fin 64), setChk u.val a.val = 0 → setChk u.val b.val = 0 →
    setOf 8 u.val (setOf 6 u.val a.val b.val) a.val = setOf 5 u.val (setOf 8 u.val a.val b.val) (setOf 8 u.val b.val a.val) ∧
    setOf 5 u.val (setOf 7 u.val a.val b.val) (setOf 6 u.val a.val b.val) = a.val ∧
    setOf 8 u.val (setOf 8 u.val a.val b.val) a.val = a.val ∧
    many (setOf 5 u.val a.val b.val) + many (setOf 6 u.val a.val b.val) = many a.val + many b.val := by
  decide +kernel

theorem turn_plain' {u a b : Int} (ha : setChk u a = 0) (hb : setChk u b = 0) :
    setOf 8 u (setOf 6 u a b) a = setOf 5 u (setOf 8 u a b) (setOf 8 u b a) ∧
    setOf 5 u (setOf 7 u a b) (setOf 6 u a b) = a ∧
    setOf 8 u (setOf 8 u a b) a = a ∧
    many (setOf 5 u a b) + many (setOf 6 u a b) = many a + many b := by
  obtain ⟨U, A, rfl, rfl⟩ := small_of ha
  obtain ⟨_, B, _, rfl⟩ := small_of hb
  exact turn_plain U A B ha hb

end Venn

namespace Venn
structure Atom where
  what : Int
  s : List Int
  t : List Int
  n : Int
def hasT (w : Int) : Bool := w == 1 || w == 2 || w == 5
def nChk (w n : Int) : Int := if n < -20 ∨ 20 < n ∨ (w < 3 ∧ n ≠ 0) then 1 else 0
def atomChk (a : Atom) : Int :=
  if a.what < 1 ∨ 5 < a.what then 1
  else if termChk a.s ≠ 0 then termChk a.s
  else if hasT a.what = true then (if termChk a.t ≠ 0 then termChk a.t else nChk a.what a.n)
  else if a.t = [] then nChk a.what a.n else 3
def atomTrue (a : Atom) (w : World) : Bool :=
  if a.what = 1 then (((andNot (termSet a.s w).toNat (termSet a.t w).toNat : Nat) : Int) == 0)
  else if a.what = 2 then (termSet a.s w == termSet a.t w)
  else if a.what = 3 then decide (a.n ≤ many (termSet a.s w))
  else if a.what = 4 then decide (many (termSet a.s w) ≤ a.n)
  else decide (many (termSet a.s w) ≤ many (termSet a.t w) + a.n)
def holdsChk (a : Atom) (w : World) : Int := if atomChk a = 0 then worldChk w else atomChk a
def holdsV (a : Atom) (w : World) : Bool := if holdsChk a w = 0 then atomTrue a w else false
theorem atomChk_parts {a : Atom} (h : atomChk a = 0) : 1 ≤ a.what ∧ a.what ≤ 5 ∧ termChk a.s = 0 ∧ (hasT a.what = true → termChk a.t = 0) ∧ (hasT a.what = false → a.t = []) ∧ -20 ≤ a.n ∧ a.n ≤ 20 ∧ (a.what < 3 → a.n = 0) := by
  have hn : ∀ {w n : Int}, nChk w n = 0 → -20 ≤ n ∧ n ≤ 20 ∧ (w < 3 → n = 0) := by
    intro w n h
    unfold nChk at h
    split at h
    · simp at h
    · omega
  unfold atomChk at h
  split at h
  · simp at h
  split at h
  · contradiction
  rename_i h1 h2
  have h2' : termChk a.s = 0 := by omega
  split at h
  · split at h
    · contradiction
    · rename_i h3 h4
      have := hn h
      exact ⟨by omega, by omega, h2', fun _ => by omega, fun hf => (by rw [h3] at hf; cases hf), this⟩
  · split at h
    · rename_i h3 h4
      have := hn h
      exact ⟨by omega, by omega, h2', fun hf => absurd hf h3, fun _ => h4, this⟩
    · simp at h
end Venn

namespace Venn
/-- Bit f of a mask, as a number. -/
def bitI (s : Int) (f : Nat) : Int := s / 2 ^ f % 2
def timesV (what a b : Int) : Int :=
  if what = 1 then a * (1 - b) else if what = 2 then a + b - 2 * (a * b) else if what = 3 then -a else if what = 4 then a else if what = 5 then a - b else 0
def timesAt (what s t : Int) (f : Nat) : Int := timesV what (bitI s f) (bitI t f)
theorem bitI_01 (s : Int) (f : Nat) : bitI s f = 0 ∨ bitI s f = 1 := by unfold bitI; omega
end Venn
namespace Venn
theorem timesAt_range (what s t : Int) (f : Nat) : -1 ≤ timesAt what s t f ∧ timesAt what s t f ≤ 1 := by
  unfold timesAt timesV
  rcases bitI_01 s f with h | h <;> rcases bitI_01 t f with h' | h' <;> rw [h, h'] <;> (repeat' split) <;> omega
def tMask (a : Atom) : Int := if a.t = [] then 0 else mask a.t
def rowT (a : Atom) (h : Bool) (f : Nat) : Int := if h = true then timesAt a.what (mask a.s) (tMask a) f else -timesAt a.what (mask a.s) (tMask a) f
def rowM (a : Atom) (h : Bool) : Int := if h = true then (if a.what = 3 then -a.n else a.n) else -(if a.what = 3 then -a.n else a.n) - 1
end Venn

namespace Venn
/-- What is wrong with counts. -/
def countsChk (n : List Int) : Int := if n.all things = true then (if 6 < n.sum then 4 else 0) else 1
/-- Counts of the same sum behind these. -/
def afterC : List Int → Option (List Int)
  | [a0, a1, a2, a3, a4, a5, a6, a7] =>
    if a7 ≠ 0 then some [a0, a1, a2, a3, a4, a5, a6 + 1, a7 - 1]
    else if a6 ≠ 0 then some [a0, a1, a2, a3, a4, a5 + 1, 0, a6 - 1]
    else if a5 ≠ 0 then some [a0, a1, a2, a3, a4 + 1, 0, 0, a5 - 1]
    else if a4 ≠ 0 then some [a0, a1, a2, a3 + 1, 0, 0, 0, a4 - 1]
    else if a3 ≠ 0 then some [a0, a1, a2 + 1, 0, 0, 0, 0, a3 - 1]
    else if a2 ≠ 0 then some [a0, a1 + 1, 0, 0, 0, 0, 0, a2 - 1]
    else if a1 ≠ 0 then some [a0 + 1, 0, 0, 0, 0, 0, 0, a1 - 1]
    else none
  | _ => none
/-- All lists of k + 1 numbers of the sum u, one behind the other. -/
def allG : Nat → Nat → List (List Int)
  | 0, u => [[(u : Int)]]
  | k + 1, u => (List.range (u + 1)).flatMap fun j => (allG k (u - j)).map fun x => (j : Int) :: x
def allC (u : Int) : List (List Int) := allG 7 u.toNat
def linksB : List (List Int) → Bool
  | [] => false
  | [x] => (afterC x).isNone
  | x :: y :: r => (afterC x == some y) && linksB (y :: r)
theorem links_all : ∀ u : Fin 7, linksB (allG 7 u.val) = true ∧ (allG 7 u.val).head? = some [0, 0, 0, 0, 0, 0, 0, (u.val : Int)] := by decide +kernel
theorem links_split : ∀ (pre : List (List Int)) (x : List Int) (rest : List (List Int)), linksB (pre ++ x :: rest) = true →
    (rest = [] ∧ afterC x = none) ∨ ∃ y r, rest = y :: r ∧ afterC x = some y := by
  intro pre
  induction pre with
  | nil =>
    intro x rest h
    cases rest with
    | nil => exact .inl ⟨rfl, by simpa [linksB] using h⟩
    | cons y r =>
      simp only [List.nil_append, linksB, Bool.and_eq_true, beq_iff_eq] at h
      exact .inr ⟨y, r, rfl, h.1⟩
  | cons p pre ih =>
    intro x rest h
    cases pre with
    | nil =>
      simp only [List.cons_append, List.nil_append, linksB, Bool.and_eq_true] at h
      exact ih x rest h.2
    | cons q pre =>
      simp only [List.cons_append, linksB, Bool.and_eq_true] at h
      exact ih x rest h.2
theorem links_allC {u : Int} (h : things u = true) : linksB (allC u) = true ∧ ∃ r, allC u = [0, 0, 0, 0, 0, 0, 0, u] :: r := by
  simp only [things, Bool.and_eq_true, decide_eq_true_eq] at h
  obtain ⟨U, rfl⟩ := Int.eq_ofNat_of_zero_le h.1
  have := links_all ⟨U, by omega⟩
  refine ⟨this.1, ?_⟩
  have h2 := this.2
  rw [allC, Int.toNat_natCast]
  cases hl : allG 7 U with
  | nil => simp only [hl] at h2; cases h2
  | cons a r =>
    simp only [hl, List.head?_cons, Option.some.injEq] at h2
    exact ⟨r, by rw [h2]⟩
theorem mem_allG : ∀ (k u : Nat) (x : List Int), x ∈ allG k u ↔ x.length = k + 1 ∧ (∀ y ∈ x, 0 ≤ y) ∧ x.sum = u := by
  intro k
  induction k with
  | zero =>
    intro u x
    simp only [allG, List.mem_singleton]
    constructor
    · rintro rfl
      simp
    · rintro ⟨h1, h2, h3⟩
      match x, h1 with
      | [y], _ => simp at h3; rw [h3]
  | succ k ih =>
    intro u x
    simp only [allG, List.mem_flatMap, List.mem_range, List.mem_map]
    constructor
    · rintro ⟨j, hj, y, hy, rfl⟩
      obtain ⟨h1, h2, h3⟩ := (ih _ _).1 hy
      refine ⟨by simp [h1], fun z hz => ?_, ?_⟩
      · rcases List.mem_cons.1 hz with rfl | hz
        · omega
        · exact h2 z hz
      · simp [h3]; omega
    · rintro ⟨h1, h2, h3⟩
      match x, h1 with
      | a :: y, h1 =>
        have ha := h2 a (by simp)
        have hs : 0 ≤ y.sum := sum_nonneg _ fun z hz => h2 z (List.mem_cons_of_mem _ hz)
        obtain ⟨j, rfl⟩ := Int.eq_ofNat_of_zero_le ha
        rw [List.sum_cons] at h3
        refine ⟨j, by omega, y, (ih _ _).2 ⟨by simpa using h1, fun z hz => h2 z (List.mem_cons_of_mem _ hz), by omega⟩, rfl⟩
theorem le_sum : ∀ (l : List Int), (∀ y ∈ l, 0 ≤ y) → ∀ y ∈ l, y ≤ l.sum := by
  intro l
  induction l with
  | nil => intro _ y hy; cases hy
  | cons a l ih =>
    intro h y hy
    have hs : 0 ≤ l.sum := sum_nonneg _ fun z hz => h z (List.mem_cons_of_mem _ hz)
    have ha := h a (by simp)
    rw [List.sum_cons]
    rcases List.mem_cons.1 hy with rfl | hy
    · omega
    · have := ih (fun z hz => h z (List.mem_cons_of_mem _ hz)) y hy
      omega
theorem mem_allC {u : Int} (h : things u = true) (x : List Int) : x ∈ allC u ↔ x.length = 8 ∧ (∀ y ∈ x, 0 ≤ y) ∧ x.sum = u := by
  simp only [things, Bool.and_eq_true, decide_eq_true_eq] at h
  rw [allC, mem_allG]
  have : ((u.toNat : Nat) : Int) = u := by omega
  rw [this]
/-- Counts of the list, number by number. -/
theorem of_allC {u : Int} (h : things u = true) {x : List Int} (hx : x ∈ allC u) : ∃ a0 a1 a2 a3 a4 a5 a6 a7 : Int, x = [a0, a1, a2, a3, a4, a5, a6, a7] ∧ (0 ≤ a0 ∧ a0 ≤ 6) ∧ (0 ≤ a1 ∧ a1 ≤ 6) ∧ (0 ≤ a2 ∧ a2 ≤ 6) ∧ (0 ≤ a3 ∧ a3 ≤ 6) ∧ (0 ≤ a4 ∧ a4 ≤ 6) ∧ (0 ≤ a5 ∧ a5 ≤ 6) ∧ (0 ≤ a6 ∧ a6 ≤ 6) ∧ (0 ≤ a7 ∧ a7 ≤ 6) ∧ a0 + a1 + a2 + a3 + a4 + a5 + a6 + a7 = u := by
  obtain ⟨h1, h2, h3⟩ := (mem_allC h x).1 hx
  have hle := le_sum x h2
  simp only [things, Bool.and_eq_true, decide_eq_true_eq] at h
  match x, h1 with
  | [a0, a1, a2, a3, a4, a5, a6, a7], _ =>
    simp only [List.mem_cons, List.not_mem_nil, or_false, forall_eq_or_imp, forall_eq] at h2 hle
    simp only [List.sum_cons, List.sum_nil] at h3 hle
    refine ⟨a0, a1, a2, a3, a4, a5, a6, a7, rfl, ?_, ?_, ?_, ?_, ?_, ?_, ?_, ?_, ?_⟩
    all_goals omega

/-! ### rows -/
def rowOk : List Int → Bool
  | [x0, x1, x2, x3, x4, x5, x6, x7, m] => decide (-2 ≤ x0 ∧ x0 ≤ 2) && decide (-2 ≤ x1 ∧ x1 ≤ 2) && decide (-2 ≤ x2 ∧ x2 ≤ 2) && decide (-2 ≤ x3 ∧ x3 ≤ 2) && decide (-2 ≤ x4 ∧ x4 ≤ 2) && decide (-2 ≤ x5 ∧ x5 ≤ 2) && decide (-2 ≤ x6 ∧ x6 ≤ 2) && decide (-2 ≤ x7 ∧ x7 ≤ 2) && decide (-100 ≤ m ∧ m ≤ 100)
  | _ => false
def rowsChk (l : List (List Int)) : Int := if 12 < l.length then 4 else if l.all rowOk = true then 0 else 1
def rowSo : List Int → List Int → Bool
  | [x0, x1, x2, x3, x4, x5, x6, x7, m], [n0, n1, n2, n3, n4, n5, n6, n7] => decide (x0 * n0 + x1 * n1 + x2 * n2 + x3 * n3 + x4 * n4 + x5 * n5 + x6 * n6 + x7 * n7 ≤ m)
  | _, _ => false
def rowsSo (l : List (List Int)) (n : List Int) : Bool := l.all fun r => rowSo r n

/-! ### the counts that fit -/
def fitChk (u : Int) (l : List (List Int)) : Int := if things u = true then rowsChk l else 1
def firstFit (u : Int) (l : List (List Int)) : Option (List Int) := (allC u).find? (rowsSo l)
def manyFit (u : Int) (l : List (List Int)) : Int := ((allC u).filter (rowsSo l)).length
def nextChk (u : Int) (n : List Int) : Int := if things u = true then (if countsChk n = 0 then (if n.sum = u then (if (afterC n).isSome then 0 else 5) else 3) else countsChk n) else 1
end Venn

namespace Venn
structure Form where
  atoms : List Atom
  code : List Int
/-- So many formulas a sign takes. -/
def fTakes (s : Int) : Int := if s = 12 then 1 else if s = 10 ∨ s = 11 ∨ s = 13 then 2 else 0
def fSign (s : Int) : Bool := decide (s = 12) || decide (s = 10 ∨ s = 11 ∨ s = 13) || decide (0 ≤ s ∧ s < 6)
def fShape : Int → List Int → Bool
  | m, [] => decide (m = 1)
  | m, s :: r => if m < fTakes s then false else fShape (m + (1 - fTakes s)) r
def codeOk (n : Int) (s : Int) : Bool := fSign s && !(decide (fTakes s = 0) && decide (n ≤ s))
def atomsChk : List Atom → Int
  | [] => 0
  | a :: r => if atomChk a = 0 then atomsChk r else atomChk a
def codeChk (n : Int) (c : List Int) : Int := if c.all (codeOk n) = true then (if fShape 0 c = true then 0 else 3) else 1
def formChk (f : Form) : Int :=
  if f.atoms.length = 0 ∨ f.code.length = 0 then 5
  else if 6 < f.atoms.length ∨ 20 < f.code.length then 4
  else if atomsChk f.atoms = 0 then codeChk f.atoms.length f.code else atomsChk f.atoms
def fStep (w : World) (l : List Atom) (st : List Bool) (s : Int) : List Bool :=
  if s = 12 then (match st with | x :: r => (!x) :: r | [] => [])
  else if s = 10 then (match st with | y :: x :: r => (x && y) :: r | _ => st)
  else if s = 11 then (match st with | y :: x :: r => (x || y) :: r | _ => st)
  else if s = 13 then (match st with | y :: x :: r => (!x || y) :: r | _ => st)
  else (match l[s.toNat]? with | some a => atomTrue a w :: st | none => false :: st)
def formTrue (f : Form) (w : World) : Bool := (f.code.foldl (fStep w f.atoms) []).headD false
def formHoldsChk (f : Form) (w : World) : Int := if formChk f = 0 then worldChk w else formChk f
def formHoldsV (f : Form) (w : World) : Bool := if formHoldsChk f w = 0 then formTrue f w else false

theorem fTakes_012 (s : Int) : fTakes s = 0 ∨ fTakes s = 1 ∨ fTakes s = 2 := by
  unfold fTakes
  split
  · exact .inr (.inl rfl)
  · split
    · exact .inr (.inr rfl)
    · exact .inl rfl
theorem formChk_parts {f : Form} (h : formChk f = 0) : 0 < f.atoms.length ∧ f.atoms.length ≤ 6 ∧ 0 < f.code.length ∧ f.code.length ≤ 20 ∧ atomsChk f.atoms = 0 ∧ f.code.all (codeOk f.atoms.length) = true ∧ fShape 0 f.code = true := by
  unfold formChk at h
  split at h
  · cases h
  · split at h
    · cases h
    · split at h
      · unfold codeChk at h
        split at h
        · split at h
          · refine ⟨by omega, by omega, by omega, by omega, by assumption, by assumption, by assumption⟩
          · cases h
        · cases h
      · contradiction
theorem atomsChk_mem : ∀ {l : List Atom}, atomsChk l = 0 → ∀ a ∈ l, atomChk a = 0 := by
  intro l
  induction l with
  | nil => intro _ a h; cases h
  | cons b l ih =>
    intro h a ha
    unfold atomsChk at h
    split at h
    · rcases List.mem_cons.1 ha with rfl | ha
      · assumption
      · exact ih h a ha
    · contradiction
/-- What a sign that is right is. -/
theorem codeOk_cases {n s : Int} (h : codeOk n s = true) : s = 12 ∨ s = 10 ∨ s = 11 ∨ s = 13 ∨ (0 ≤ s ∧ s < 6 ∧ s < n) := by
  simp only [codeOk, fSign, Bool.and_eq_true, Bool.or_eq_true, decide_eq_true_eq, Bool.not_eq_true'] at h
  obtain ⟨h1, h2⟩ := h
  by_cases h12 : s = 12
  · exact .inl h12
  by_cases h3 : s = 10 ∨ s = 11 ∨ s = 13
  · omega
  have ht : fTakes s = 0 := by unfold fTakes; rw [if_neg h12, if_neg h3]
  simp [ht] at h2
  omega
theorem fStep_length {w : World} {l : List Atom} {st : List Bool} {s : Int} (h : ¬ ((st.length : Int) < fTakes s)) : ((fStep w l st s).length : Int) = st.length + (1 - fTakes s) := by
  unfold fStep fTakes at *
  by_cases h12 : s = 12
  · rw [if_pos h12] at h ⊢
    rw [if_pos h12]
    match st, h with
    | x :: r, _ => simp
  rw [if_neg h12] at h ⊢
  rw [if_neg h12]
  by_cases h3 : s = 10 ∨ s = 11 ∨ s = 13
  · rw [if_pos h3] at h ⊢
    match st, h with
    | [], h => simp at h
    | [x], h => simp at h
    | y :: x :: r, _ =>
      rcases h3 with rfl | rfl | rfl
      all_goals simp; omega
  · rw [if_neg h3, if_neg (by omega), if_neg (by omega), if_neg (by omega)]
    split <;> simp
end Venn

namespace Venn
def nameOk (n : Int) : Bool := decide (0 ≤ n) && decide (n < 3)
def World.put (w : World) (name : Int) (s : Int) : World := if name = 0 then ⟨w.things, s, w.b, w.c⟩ else if name = 1 then ⟨w.things, w.a, s, w.c⟩ else ⟨w.things, w.a, w.b, s⟩
def someChk (f : Form) (name : Int) (w : World) : Int := if formChk f = 0 then (if nameOk name = true then worldChk w else 1) else formChk f
/-- The first number from k on, of n. -/
def firstFrom (p : Nat → Bool) : Nat → Nat → Int
  | 0, _ => -1
  | n + 1, k => if p k = true then (k : Int) else firstFrom p n (k + 1)
def firstSet (f : Form) (name : Int) (w : World) (so : Bool) : Int := firstFrom (fun s => formTrue f (w.put name (s : Int)) == so) (2 ^ w.things.toNat) 0
theorem firstFrom_range (p : Nat → Bool) : ∀ (n k : Nat), (firstFrom p n k = -1 ∧ ∀ j, k ≤ j → j < k + n → p j = false) ∨ (∃ j : Nat, firstFrom p n k = j ∧ k ≤ j ∧ j < k + n ∧ p j = true) := by
  intro n
  induction n with
  | zero => intro k; exact .inl ⟨rfl, fun j h1 h2 => by omega⟩
  | succ n ih =>
    intro k
    unfold firstFrom
    by_cases h : p k = true
    · rw [if_pos h]
      exact .inr ⟨k, rfl, Nat.le_refl _, by omega, h⟩
    · rw [if_neg h]
      rcases ih (k + 1) with ⟨h1, h2⟩ | ⟨j, h1, h2, h3, h4⟩
      · refine .inl ⟨h1, fun j hj1 hj2 => ?_⟩
        rcases Nat.eq_or_lt_of_le hj1 with rfl | hlt
        · simpa using h
        · exact h2 j hlt (by omega)
      · exact .inr ⟨j, h1, by omega, by omega, h4⟩
end Venn

namespace Venn
def negF (f : Form) : Form := ⟨f.atoms, f.code ++ [12]⟩
def sh (n : Nat) (s : Int) : Int := if s < 6 then s + n else s
def bothF (f g : Form) : Form := ⟨f.atoms ++ g.atoms, f.code ++ g.code.map (sh f.atoms.length) ++ [10]⟩
def negChk (f : Form) : Int := if formChk f = 0 then (if f.code.length = 20 then 4 else 0) else formChk f
def bothChk (f g : Form) : Int := if formChk f = 0 then (if formChk g = 0 then (if 6 < f.atoms.length + g.atoms.length ∨ 19 < f.code.length + g.code.length then 4 else 0) else formChk g) else formChk f
theorem fStep_base {w : World} {l : List Atom} {st base : List Bool} {s : Int} (h : ¬ ((st.length : Int) < fTakes s)) : fStep w l (st ++ base) s = fStep w l st s ++ base := by
  unfold fTakes at h
  unfold fStep
  by_cases h12 : s = 12
  · rw [if_pos h12] at h
    rw [if_pos h12, if_pos h12]
    match st, h with
    | x :: r, _ => rfl
  rw [if_neg h12] at h
  rw [if_neg h12, if_neg h12]
  by_cases h3 : s = 10 ∨ s = 11 ∨ s = 13
  · rw [if_pos h3] at h
    match st, h with
    | [], h => simp at h
    | [x], h => simp at h
    | y :: x :: r, _ =>
      rcases h3 with rfl | rfl | rfl
      all_goals simp
  · rw [if_neg (by omega), if_neg (by omega), if_neg (by omega), if_neg (by omega), if_neg (by omega), if_neg (by omega)]
    split <;> rfl
theorem ffold_base {w : World} {l : List Atom} : ∀ (c : List Int) (st base : List Bool), fShape st.length c = true → c.foldl (fStep w l) (st ++ base) = c.foldl (fStep w l) st ++ base := by
  intro c
  induction c with
  | nil => intro st base _; rfl
  | cons s c ih =>
    intro st base h
    rw [fShape] at h
    split at h
    · cases h
    rename_i h1
    rw [List.foldl_cons, List.foldl_cons, fStep_base h1]
    exact ih _ base (by rw [fStep_length h1]; exact h)
theorem ffold_length {w : World} {l : List Atom} : ∀ (c : List Int) (st : List Bool), fShape st.length c = true → (c.foldl (fStep w l) st).length = 1 := by
  intro c
  induction c with
  | nil => intro st h; simp only [fShape, decide_eq_true_eq] at h; simp only [List.foldl_nil]; omega
  | cons s c ih =>
    intro st h
    rw [fShape] at h
    split at h
    · cases h
    rename_i h1
    exact ih _ (by rw [fStep_length h1]; exact h)
theorem ffold_one {w : World} {l : List Atom} {c : List Int} (h : fShape 0 c = true) : c.foldl (fStep w l) [] = [formTrue ⟨l, c⟩ w] := by
  have h1 := ffold_length (w := w) (l := l) c [] h
  unfold formTrue
  simp only
  generalize c.foldl (fStep w l) [] = r at h1
  match r, h1 with
  | [x], _ => rfl
  | [], h => cases h
  | _ :: _ :: _, h => simp at h
theorem fShape_app : ∀ (c r : List Int) (k m : Int), 0 ≤ m → fShape k c = true → fShape (m + k) (c ++ r) = fShape (m + 1) r := by
  intro c
  induction c with
  | nil => intro r k m _ h; simp only [fShape, decide_eq_true_eq] at h; rw [h]; rfl
  | cons s c ih =>
    intro r k m hm h
    rw [fShape] at h
    split at h
    · cases h
    rw [List.cons_append, fShape, if_neg (by omega), ← ih r _ m hm h]
    congr 1
    omega
theorem codeOk_up {n n' s : Int} (h : codeOk n s = true) (hn : n ≤ n') : codeOk n' s = true := by
  unfold codeOk at *
  simp only [Bool.and_eq_true, Bool.not_eq_true', Bool.and_eq_false_iff, decide_eq_false_iff_not] at *
  exact ⟨h.1, by rcases h.2 with h | h; exact .inl h; exact .inr (by omega)⟩
theorem atomsChk_app : ∀ {l m : List Atom}, atomsChk l = 0 → atomsChk m = 0 → atomsChk (l ++ m) = 0 := by
  intro l m h hm
  induction l with
  | nil => exact hm
  | cons a l ih =>
    unfold atomsChk at h
    split at h
    · rename_i ha
      rw [List.cons_append, atomsChk, if_pos ha]
      exact ih h
    · contradiction
theorem formChk_mk {f : Form} (h1 : 0 < f.atoms.length) (h2 : f.atoms.length ≤ 6) (h3 : 0 < f.code.length) (h4 : f.code.length ≤ 20) (h5 : atomsChk f.atoms = 0) (h6 : f.code.all (codeOk f.atoms.length) = true) (h7 : fShape 0 f.code = true) : formChk f = 0 := by
  unfold formChk codeChk
  rw [if_neg (by omega), if_neg (by omega), if_pos h5, if_pos h6, if_pos h7]
theorem negF_chk {f : Form} (h : formChk f = 0) (hl : f.code.length < 20) : formChk (negF f) = 0 := by
  obtain ⟨h1, h2, h3, h4, h5, h6, h7⟩ := formChk_parts h
  refine formChk_mk h1 h2 (by simp [negF]) (by simp [negF]; omega) h5 ?_ ?_
  · simp only [negF, List.all_append, h6, Bool.true_and]
    simp [codeOk, fSign, fTakes]
  · have := fShape_app f.code [12] 0 0 (by omega) h7
    simp only [negF]
    rw [show (0 : Int) = 0 + 0 from rfl, this]
    decide
theorem negF_true {f : Form} (h : formChk f = 0) (w : World) : formTrue (negF f) w = !formTrue f w := by
  obtain ⟨h1, h2, h3, h4, h5, h6, h7⟩ := formChk_parts h
  obtain ⟨l, c⟩ := f
  simp only [formTrue, negF, List.foldl_append]
  rw [ffold_one h7]
  simp [fStep, formTrue]
theorem ok_shift {n n' : Nat} {s : Int} (h : codeOk n' s = true) (hn : n + n' ≤ 6) : codeOk ((n + n' : Nat) : Int) (sh n s) = true ∧ fTakes (sh n s) = fTakes s := by
  rcases codeOk_cases h with rfl | rfl | rfl | rfl | ⟨h0, h6, hs⟩
  · exact ⟨rfl, rfl⟩
  · exact ⟨rfl, rfl⟩
  · exact ⟨rfl, rfl⟩
  · exact ⟨rfl, rfl⟩
  · have e : sh n s = s + n := by unfold sh; rw [if_pos h6]
    have t0 : ∀ x : Int, x < 6 → fTakes x = 0 := fun x hx => by unfold fTakes; rw [if_neg (by omega), if_neg (by omega)]
    rw [e]
    refine ⟨?_, by rw [t0 _ (by omega), t0 _ (by omega)]⟩
    unfold codeOk fSign
    simp only [Bool.and_eq_true, Bool.or_eq_true, decide_eq_true_eq, Bool.not_eq_true', Bool.and_eq_false_iff, decide_eq_false_iff_not]
    exact ⟨.inr (by omega), .inr (by omega)⟩
theorem fShape_shift {n n' : Nat} (hn : n + n' ≤ 6) : ∀ (c : List Int) (m : Int), c.all (codeOk n') = true → fShape m (c.map (sh n)) = fShape m c := by
  intro c
  induction c with
  | nil => intro m _; rfl
  | cons s c ih =>
    intro m h
    rw [List.all_cons, Bool.and_eq_true] at h
    rw [List.map_cons, fShape, fShape, (ok_shift h.1 hn).2, ih _ h.2]
theorem fStep_left {w : World} {l m : List Atom} {st : List Bool} {s : Int} (h : codeOk l.length s = true) : fStep w (l ++ m) st s = fStep w l st s := by
  unfold fStep
  by_cases h12 : s = 12
  · rw [if_pos h12, if_pos h12]
  by_cases h10 : s = 10
  · rw [if_neg h12, if_neg h12, if_pos h10, if_pos h10]
  by_cases h11 : s = 11
  · rw [if_neg h12, if_neg h12, if_neg h10, if_neg h10, if_pos h11, if_pos h11]
  by_cases h13 : s = 13
  · rw [if_neg h12, if_neg h12, if_neg h10, if_neg h10, if_neg h11, if_neg h11, if_pos h13, if_pos h13]
  rw [if_neg h12, if_neg h12, if_neg h10, if_neg h10, if_neg h11, if_neg h11, if_neg h13, if_neg h13]
  have : s.toNat < l.length := by rcases codeOk_cases h with h | h | h | h | h <;> omega
  rw [List.getElem?_append_left this]
theorem fStep_right {w : World} {l m : List Atom} {st : List Bool} {s : Int} (h : codeOk m.length s = true) (hn : l.length + m.length ≤ 6) : fStep w (l ++ m) st (sh l.length s) = fStep w m st s := by
  rcases codeOk_cases h with rfl | rfl | rfl | rfl | ⟨h0, h6, hs⟩
  · rfl
  · rfl
  · rfl
  · rfl
  · have e : sh l.length s = s + l.length := by unfold sh; rw [if_pos h6]
    rw [e]
    unfold fStep
    rw [if_neg (by omega), if_neg (by omega), if_neg (by omega), if_neg (by omega), if_neg (by omega), if_neg (by omega), if_neg (by omega), if_neg (by omega)]
    rw [List.getElem?_append_right (by omega), show (s + (l.length : Int)).toNat - l.length = s.toNat by omega]
theorem ffold_left {w : World} {l m : List Atom} : ∀ (c : List Int) (st : List Bool), c.all (codeOk l.length) = true → c.foldl (fStep w (l ++ m)) st = c.foldl (fStep w l) st := by
  intro c
  induction c with
  | nil => intro st _; rfl
  | cons s c ih =>
    intro st h
    rw [List.all_cons, Bool.and_eq_true] at h
    rw [List.foldl_cons, List.foldl_cons, fStep_left h.1, ih _ h.2]
theorem ffold_right {w : World} {l m : List Atom} (hn : l.length + m.length ≤ 6) : ∀ (c : List Int) (st : List Bool), c.all (codeOk m.length) = true → (c.map (sh l.length)).foldl (fStep w (l ++ m)) st = c.foldl (fStep w m) st := by
  intro c
  induction c with
  | nil => intro st _; rfl
  | cons s c ih =>
    intro st h
    rw [List.all_cons, Bool.and_eq_true] at h
    rw [List.map_cons, List.foldl_cons, List.foldl_cons, fStep_right h.1 hn, ih _ h.2]
theorem bothF_chk {f g : Form} (hf : formChk f = 0) (hg : formChk g = 0) (ha : f.atoms.length + g.atoms.length ≤ 6) (hc : f.code.length + g.code.length ≤ 19) : formChk (bothF f g) = 0 := by
  obtain ⟨h1, h2, h3, h4, h5, h6, h7⟩ := formChk_parts hf
  obtain ⟨g1, g2, g3, g4, g5, g6, g7⟩ := formChk_parts hg
  refine formChk_mk (by simp [bothF]; omega) (by simp [bothF]; omega) (by simp [bothF]; omega) (by simp [bothF]; omega) (atomsChk_app h5 g5) ?_ ?_
  · simp only [bothF, List.all_append, Bool.and_eq_true, List.all_eq_true]
    refine ⟨⟨fun s hs => codeOk_up (List.all_eq_true.1 h6 s hs) (by simp; omega), fun s hs => ?_⟩, fun s hs => ?_⟩
    · obtain ⟨y, hy, rfl⟩ := List.mem_map.1 hs
      have := (ok_shift (n := f.atoms.length) (List.all_eq_true.1 g6 y hy) ha).1
      rwa [List.length_append]
    · obtain rfl : s = 10 := by simpa using hs
      rfl
  · have e1 := fShape_app f.code (g.code.map (sh f.atoms.length) ++ [10]) 0 0 (by omega) h7
    have e2 := fShape_app (g.code.map (sh f.atoms.length)) [10] 0 1 (by omega) (by rw [fShape_shift ha _ _ g6]; exact g7)
    simp only [bothF, List.append_assoc]
    rw [show (0 : Int) = 0 + 0 from rfl, e1, show (0 + 1 : Int) = 1 + 0 from rfl, e2]
    decide
theorem bothF_true {f g : Form} (hf : formChk f = 0) (hg : formChk g = 0) (ha : f.atoms.length + g.atoms.length ≤ 6) (w : World) : formTrue (bothF f g) w = (formTrue f w && formTrue g w) := by
  obtain ⟨h1, h2, h3, h4, h5, h6, h7⟩ := formChk_parts hf
  obtain ⟨g1, g2, g3, g4, g5, g6, g7⟩ := formChk_parts hg
  obtain ⟨l, c⟩ := f
  obtain ⟨m, d⟩ := g
  have e : (bothF ⟨l, c⟩ ⟨m, d⟩).code.foldl (fStep w (l ++ m)) [] = [formTrue ⟨l, c⟩ w && formTrue ⟨m, d⟩ w] := by
    simp only [bothF, List.foldl_append]
    rw [ffold_left c [] h6, ffold_one h7, ffold_right ha d _ g6]
    rw [show [formTrue ⟨l, c⟩ w] = [] ++ [formTrue ⟨l, c⟩ w] from rfl, ffold_base d [] _ g7, ffold_one g7]
    simp [fStep]
  unfold formTrue at e ⊢
  rw [show (bothF ⟨l, c⟩ ⟨m, d⟩).atoms = l ++ m from rfl, e]
  rfl
end Venn

namespace Venn
def lexLt : List Int → List Int → Prop
  | a :: x, b :: y => a < b ∨ (a = b ∧ lexLt x y)
  | _, _ => False
theorem sorted_allG : ∀ (k u : Nat), (allG k u).Pairwise lexLt := by
  intro k
  induction k with
  | zero => intro u; exact List.pairwise_singleton _ _
  | succ k ih =>
    intro u
    rw [allG, List.pairwise_flatMap]
    refine ⟨fun j hj => ?_, ?_⟩
    · rw [List.pairwise_map]
      exact (ih (u - j)).imp fun h => .inr ⟨rfl, h⟩
    · refine List.pairwise_lt_range.imp ?_
      intro i j hij x hx y hy
      obtain ⟨x', _, rfl⟩ := List.mem_map.1 hx
      obtain ⟨y', _, rfl⟩ := List.mem_map.1 hy
      exact .inl (by omega)
theorem firstFit_split {u : Int} {l : List (List Int)} {x : List Int} (h : firstFit u l = some x) : ∃ pre rest, allC u = pre ++ x :: rest ∧ ∀ y ∈ pre, rowsSo l y = false := by
  obtain ⟨h1, pre, rest, h2, h3⟩ := List.find?_eq_some_iff_append.1 h
  exact ⟨pre, rest, h2, fun y hy => by simpa using h3 y hy⟩
/-- Nothing ahead of the first fits. -/
theorem firstFit_least {u : Int} {l : List (List Int)} {x n : List Int} (h : firstFit u l = some x) (hn : n ∈ allC u) (hs : rowsSo l n = true) : n = x ∨ lexLt x n := by
  obtain ⟨pre, rest, e, hp⟩ := firstFit_split h
  rw [e] at hn
  rcases List.mem_append.1 hn with hm | hm
  · rw [hp n hm] at hs; cases hs
  · rcases List.mem_cons.1 hm with rfl | hm
    · exact .inl rfl
    · have := sorted_allG 7 u.toNat
      rw [show allG 7 u.toNat = pre ++ x :: rest from e, List.pairwise_append] at this
      exact .inr ((List.pairwise_cons.1 this.2.1).1 n hm)
theorem many_le_all (u : Int) (l : List (List Int)) : manyFit u l ≤ manyFit u [] := by
  unfold manyFit
  have h1 : ((allC u).filter (rowsSo [])) = allC u := List.filter_eq_self.2 fun _ _ => rfl
  rw [h1]
  have := List.length_filter_le (rowsSo l) (allC u)
  omega
theorem many_snoc (u : Int) (l : List (List Int)) (r : List Int) : manyFit u (l ++ [r]) ≤ manyFit u l := by
  unfold manyFit
  have h : (allC u).filter (rowsSo (l ++ [r])) = ((allC u).filter (rowsSo l)).filter (rowsSo [r]) := by
    rw [List.filter_filter]
    congr 1
    funext x
    simp [rowsSo, Bool.and_comm]
  rw [h]
  have := List.length_filter_le (rowsSo [r]) ((allC u).filter (rowsSo l))
  omega
theorem first_many (u : Int) (l : List (List Int)) : (firstFit u l = none ∧ manyFit u l = 0) ∨ (∃ x, firstFit u l = some x ∧ 0 < manyFit u l) := by
  unfold firstFit manyFit
  cases h : (allC u).find? (rowsSo l) with
  | none =>
    have := List.find?_eq_none.1 h
    refine .inl ⟨rfl, ?_⟩
    rw [List.filter_eq_nil_iff.2 this]
    rfl
  | some x =>
    refine .inr ⟨x, rfl, ?_⟩
    have hx : x ∈ (allC u).filter (rowsSo l) := List.mem_filter.2 ⟨List.mem_of_find?_eq_some h, List.find?_some h⟩
    have := List.length_pos_of_mem hx
    omega
theorem many_two : manyFit 2 [] = 36 := by decide +kernel
def fitsChk (l : List (List Int)) (n : List Int) : Int := if rowsChk l = 0 then countsChk n else rowsChk l
def fitsV (l : List (List Int)) (n : List Int) : Bool := if fitsChk l n = 0 then rowsSo l n else false
end Venn
