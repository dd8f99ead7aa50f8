/-
  THE PLAIN SIDE, THING BY THING: a term's set has a thing just if the term lies in the thing's field; sums over fields are sums over things.
-/
import Derived.Test.YtpcdiilgomfpbaaDoorVennFit
import Derived.Test.YtpcdiilgomfpbaaDoorVennM
namespace Venn
/-! ### sums -/
def sumTo : Nat → (Nat → Int) → Int
  | 0, _ => 0
  | n + 1, f => sumTo n f + f n
theorem sumTo_congr {f g : Nat → Int} : ∀ n, (∀ i, i < n → f i = g i) → sumTo n f = sumTo n g := by
  intro n
  induction n with
  | zero => intro _; rfl
  | succ n ih => intro h; rw [sumTo, sumTo, ih fun i hi => h i (by omega), h n (by omega)]
theorem sumTo_add (f g : Nat → Int) : ∀ n, sumTo n (fun i => f i + g i) = sumTo n f + sumTo n g := by
  intro n
  induction n with
  | zero => rfl
  | succ n ih => simp only [sumTo, ih]; omega
theorem sumTo_neg (f : Nat → Int) : ∀ n, sumTo n (fun i => -f i) = -sumTo n f := by
  intro n
  induction n with
  | zero => rfl
  | succ n ih => simp only [sumTo, ih]; omega
theorem sumTo_sub (f g : Nat → Int) : ∀ n, sumTo n (fun i => f i - g i) = sumTo n f - sumTo n g := by
  intro n
  induction n with
  | zero => rfl
  | succ n ih => simp only [sumTo, ih]; omega
theorem sumTo_nonneg {f : Nat → Int} : ∀ n, (∀ i, i < n → 0 ≤ f i) → 0 ≤ sumTo n f := by
  intro n
  induction n with
  | zero => intro _; exact Int.le_refl 0
  | succ n ih => intro h; have := ih fun i hi => h i (by omega); have := h n (by omega); simp only [sumTo]; omega
theorem sumTo_zero {f : Nat → Int} : ∀ n, (∀ i, i < n → 0 ≤ f i) → sumTo n f ≤ 0 → ∀ i, i < n → f i = 0 := by
  intro n
  induction n with
  | zero => intro _ _ i hi; omega
  | succ n ih =>
    intro h hs i hi
    have h1 := sumTo_nonneg n fun i hi => h i (by omega)
    have h2 := h n (by omega)
    simp only [sumTo] at hs
    rcases Nat.lt_succ_iff_lt_or_eq.1 hi with h3 | rfl
    · exact ih (fun i hi => h i (by omega)) (by omega) i h3
    · omega
theorem sumTo_const0 : ∀ n, sumTo n (fun _ => 0) = 0 := by
  intro n
  induction n with
  | zero => rfl
  | succ n ih => rw [sumTo, ih]; rfl
def toI (b : Bool) : Int := if b = true then 1 else 0
theorem toI_01 (b : Bool) : toI b = 0 ∨ toI b = 1 := by cases b <;> simp [toI]

/-! ### sets -/
theorem many_sum : ∀ (U : Fin 7) (S : Fin 64), setChk ((U.val : Nat) : Int) ((S.val : Nat) : Int) = 0 → many ((S.val : Nat) : Int) = sumTo U.val (fun i => toI (bit ((S.val : Nat) : Int) i)) := by decide +kernel
theorem many_sumTo {u s : Int} (h : setChk u s = 0) : many s = sumTo u.toNat (fun i => toI (bit s i)) := by
  obtain ⟨U, S, rfl, rfl⟩ := small_of h
  exact many_sum U S h
theorem bit_high {u s : Int} (h : setChk u s = 0) {i : Nat} (hi : u.toNat ≤ i) : bit s i = false := by
  obtain ⟨_, h0, h1⟩ := setChk_iff.1 h
  exact Nat.testBit_lt_two_pow (Nat.lt_of_lt_of_le h1 (Nat.pow_le_pow_right (by decide) hi))
theorem bit_ext {u a b : Int} (ha : setChk u a = 0) (hb : setChk u b = 0) (h : ∀ i, i < u.toNat → bit a i = bit b i) : a = b := by
  obtain ⟨_, a0, a1⟩ := setChk_iff.1 ha
  obtain ⟨_, b0, b1⟩ := setChk_iff.1 hb
  have : a.toNat = b.toNat := Nat.eq_of_testBit_eq fun i => by
    rcases Nat.lt_or_ge i u.toNat with hi | hi
    · exact h i hi
    · exact (bit_high ha hi).trans (bit_high hb hi).symm
  omega
def opB (s : Int) (x y : Bool) : Bool := if s = 5 then x || y else if s = 6 then x && y else x && !y
theorem bit_setOf (s u a b : Int) (i : Nat) (h8 : s ≠ 8) (h : 5 ≤ s ∧ s ≤ 8) : bit (setOf s u a b) i = opB s (bit a i) (bit b i) := by
  rcases (by omega : s = 5 ∨ s = 6 ∨ s = 7) with rfl | rfl | rfl
  · simp [setOf, bit, opB]
  · simp [setOf, bit, opB]
  · simp only [setOf, bit, opB, andNot]
    simp
    cases a.toNat.testBit i <;> cases b.toNat.testBit i <;> rfl
theorem bit_not (u a b : Int) {i : Nat} (hi : i < u.toNat) : bit (setOf 8 u a b) i = !bit a i := by
  have : (allS u).toNat = 2 ^ u.toNat - 1 := by unfold allS; omega
  simp only [setOf, bit, andNot]
  have hi' : (i : Int) < u := by omega
  simp [this, hi']

/-! ### a term, thing by thing -/
def evB (p : Int → Bool) (st : List Bool) (s : Int) : List Bool :=
  if s < 3 then p s :: st
  else if s = 3 then false :: st
  else if s = 4 then true :: st
  else if s = 8 then (match st with | x :: r => (!x) :: r | [] => [])
  else (match st with | y :: x :: r => opB s x y :: r | _ => st)
def evT (t : List Int) (p : Int → Bool) : Bool := (t.foldl (evB p) []).headD false
theorem setStep_bit (w : World) (st : List Int) (s : Int) (hs : 0 ≤ s ∧ s ≤ 8) (i : Nat) (hi : i < w.things.toNat) : (setStep w st s).map (fun x => bit x i) = evB (fun k => bit (w.has k) i) (st.map fun x => bit x i) s := by
  unfold setStep evB
  by_cases h3 : s < 3
  · rw [if_pos h3, if_pos h3]; rfl
  rw [if_neg h3, if_neg h3]
  by_cases h4 : s = 3
  · rw [if_pos h4, if_pos h4]; simp [bit]
  rw [if_neg h4, if_neg h4]
  by_cases h5 : s = 4
  · rw [if_pos h5, if_pos h5]
    have : (allS w.things).toNat = 2 ^ w.things.toNat - 1 := by unfold allS; omega
    simp [bit, this, hi]
  rw [if_neg h5, if_neg h5]
  by_cases h8 : s = 8
  · rw [if_pos h8, if_pos h8]
    match st with
    | [] => rfl
    | x :: r => simp [bit_not _ _ _ hi]
  rw [if_neg h8, if_neg h8]
  match st with
  | [] => rfl
  | [x] => rfl
  | y :: x :: r => simp [bit_setOf s w.things x y i h8 (by omega)]
theorem foldl_bit (w : World) (i : Nat) (hi : i < w.things.toNat) : ∀ (t st : List Int), (∀ x ∈ t, 0 ≤ x ∧ x ≤ 8) → (t.foldl (setStep w) st).map (fun x => bit x i) = t.foldl (evB fun k => bit (w.has k) i) (st.map fun x => bit x i) := by
  intro t
  induction t with
  | nil => intro st _; rfl
  | cons s t ih =>
    intro st h
    rw [List.foldl_cons, ih _ fun x hx => h x (List.mem_cons_of_mem _ hx), setStep_bit w st s (h s (by simp)) i hi, List.foldl_cons]
theorem bit_termSet {t : List Int} (ht : termChk t = 0) (w : World) {i : Nat} (hi : i < w.things.toNat) : bit (termSet t w) i = evT t (fun k => bit (w.has k) i) := by
  have h := foldl_bit w i hi t [] (termChk_parts ht).2.2.1
  unfold termSet evT
  rw [show ([] : List Bool) = ([] : List Int).map (fun x => bit x i) from rfl, ← h]
  cases t.foldl (setStep w) [] with
  | nil => simp [bit]
  | cons x r => rfl

/-! ### fields -/
def fieldIn (w : World) (i : Nat) : Nat := (if bit w.a i = true then 1 else 0) + (if bit w.b i = true then 2 else 0) + (if bit w.c i = true then 4 else 0)
theorem fieldIn_lt (w : World) (i : Nat) : fieldIn w i < 8 := by unfold fieldIn; split <;> split <;> split <;> omega
def fieldsAt (w : World) : Nat → Nat → Int
  | 0, _ => 0
  | n + 1, f => fieldsAt w n f + (if fieldIn w n = f then 1 else 0)
def fieldsOf (w : World) : List Int := [fieldsAt w w.things.toNat 0, fieldsAt w w.things.toNat 1, fieldsAt w w.things.toNat 2, fieldsAt w w.things.toNat 3, fieldsAt w w.things.toNat 4, fieldsAt w w.things.toNat 5, fieldsAt w w.things.toNat 6, fieldsAt w w.things.toNat 7]
theorem has_field (w : World) (i : Nat) (k : Int) : bit (w.has k) i = bit ((⟨1, ((fieldIn w i % 2 : Nat) : Int), ((fieldIn w i / 2 % 2 : Nat) : Int), ((fieldIn w i / 4 % 2 : Nat) : Int)⟩ : World).has k) 0 := by
  unfold World.has fieldIn
  cases ha : bit w.a i <;> cases hb : bit w.b i <;> cases hc : bit w.c i
  all_goals
    simp
    by_cases h0 : k = 0
    · simp only [h0, if_true]; first | rw [ha]; rfl | rw [ha]; decide
    · by_cases h1 : k = 1
      · simp only [h1]; simp; first | rw [hb]; rfl | rw [hb]; decide
      · simp only [h0, h1, if_false]; first | rw [hc]; rfl | rw [hc]; decide
theorem lies_field {t : List Int} (ht : termChk t = 0) (w : World) {i : Nat} (hi : i < w.things.toNat) : lies t (fieldIn w i) = toI (bit (termSet t w) i) := by
  have h1 := bit_termSet ht w hi
  have h2 : bit (lies t (fieldIn w i)) 0 = evT t (fun k => bit (w.has k) i) := by
    unfold lies
    rw [bit_termSet ht _ (show 0 < ((1 : Int)).toNat by decide)]
    congr 1
    funext k
    exact (has_field w i k).symm
  rw [h1, ← h2]
  rcases (by have := lies_01 t (fieldIn w i); omega : lies t (fieldIn w i) = 0 ∨ lies t (fieldIn w i) = 1) with h | h <;> rw [h] <;> decide
theorem dot_field (T : Nat → Int) (w : World) : ∀ n, T 0 * fieldsAt w n 0 + T 1 * fieldsAt w n 1 + T 2 * fieldsAt w n 2 + T 3 * fieldsAt w n 3 + T 4 * fieldsAt w n 4 + T 5 * fieldsAt w n 5 + T 6 * fieldsAt w n 6 + T 7 * fieldsAt w n 7 = sumTo n (fun i => T (fieldIn w i)) := by
  intro n
  induction n with
  | zero => simp [fieldsAt, sumTo]
  | succ n ih =>
    simp only [sumTo, ← ih, fieldsAt]
    have := fieldIn_lt w n
    generalize fieldIn w n = f at this
    simp only [Int.mul_add]
    rcases (by omega : f = 0 ∨ f = 1 ∨ f = 2 ∨ f = 3 ∨ f = 4 ∨ f = 5 ∨ f = 6 ∨ f = 7) with rfl | rfl | rfl | rfl | rfl | rfl | rfl | rfl
    all_goals
      simp
      omega
theorem fieldsAt_range (w : World) : ∀ n f, 0 ≤ fieldsAt w n f ∧ fieldsAt w n f ≤ n := by
  intro n f
  induction n with
  | zero => simp [fieldsAt]
  | succ n ih => simp only [fieldsAt]; split <;> omega
theorem fieldsAt_sum (w : World) (n : Nat) : fieldsAt w n 0 + fieldsAt w n 1 + fieldsAt w n 2 + fieldsAt w n 3 + fieldsAt w n 4 + fieldsAt w n 5 + fieldsAt w n 6 + fieldsAt w n 7 = n := by
  have h := dot_field (fun _ => 1) w n
  simp only [Int.one_mul] at h
  rw [h]
  clear h
  induction n with
  | zero => rfl
  | succ n ih => rw [sumTo, ih]; omega
theorem fieldsOf_chk {w : World} (hw : worldChk w = 0) : countsChk (fieldsOf w) = 0 := by
  obtain ⟨h0, _⟩ := worldChk_iff.1 hw
  simp only [things, Bool.and_eq_true, decide_eq_true_eq] at h0
  have hs := fieldsAt_sum w w.things.toNat
  have hr := fieldsAt_range w w.things.toNat
  unfold countsChk
  rw [if_pos, if_neg]
  · simp only [fieldsOf, List.sum_cons, List.sum_nil]; omega
  · simp only [fieldsOf, List.all_cons, List.all_nil, Bool.and_true, Bool.and_eq_true, things, decide_eq_true_eq]
    have h := fun f => hr f
    refine ⟨⟨(h 0).1, ?_⟩, ⟨(h 1).1, ?_⟩, ⟨(h 2).1, ?_⟩, ⟨(h 3).1, ?_⟩, ⟨(h 4).1, ?_⟩, ⟨(h 5).1, ?_⟩, ⟨(h 6).1, ?_⟩, ⟨(h 7).1, ?_⟩⟩
    all_goals (refine Int.le_trans (h _).2 ?_; omega)

/-! ### a row says what the atom says -/
theorem bitI_mask (t : List Int) (f : Nat) (hf : f < 8) : bitI (mask t) f = lies t f := by
  have h := fun g => lies_01 t g
  have e : mask t = lies t 0 + lies t 1 * 2 + lies t 2 * 4 + lies t 3 * 8 + lies t 4 * 16 + lies t 5 * 32 + lies t 6 * 64 + lies t 7 * 128 := by
    simp only [mask, maskTo]; simp
  have h0 := h 0; have h1 := h 1; have h2 := h 2; have h3 := h 3; have h4 := h 4; have h5 := h 5; have h6 := h 6; have h7 := h 7
  unfold bitI
  rw [e]
  rcases (by omega : f = 0 ∨ f = 1 ∨ f = 2 ∨ f = 3 ∨ f = 4 ∨ f = 5 ∨ f = 6 ∨ f = 7) with rfl | rfl | rfl | rfl | rfl | rfl | rfl | rfl
  all_goals
    simp
    omega
def tLies (a : Atom) (f : Nat) : Int := if a.t = [] then 0 else lies a.t f
theorem bitI_tMask (a : Atom) (f : Nat) (hf : f < 8) : bitI (tMask a) f = tLies a f := by
  unfold tMask tLies
  split
  · simp [bitI]
  · exact bitI_mask _ f hf
theorem rowT_lies (a : Atom) (f : Nat) (hf : f < 8) : rowT a true f = timesV a.what (lies a.s f) (tLies a f) := by
  rw [rowT, if_pos rfl, timesAt, bitI_mask _ f hf, bitI_tMask _ f hf]
def tSet (a : Atom) (w : World) : Int := if a.t = [] then 0 else termSet a.t w
/-- The row's sum, thing by thing. -/
theorem row_sum {a : Atom} (ha : atomChk a = 0) (w : World) : rowT a true 0 * fieldsAt w w.things.toNat 0 + rowT a true 1 * fieldsAt w w.things.toNat 1 + rowT a true 2 * fieldsAt w w.things.toNat 2 + rowT a true 3 * fieldsAt w w.things.toNat 3 + rowT a true 4 * fieldsAt w w.things.toNat 4 + rowT a true 5 * fieldsAt w w.things.toNat 5 + rowT a true 6 * fieldsAt w w.things.toNat 6 + rowT a true 7 * fieldsAt w w.things.toNat 7
    = sumTo w.things.toNat (fun i => timesV a.what (toI (bit (termSet a.s w) i)) (toI (bit (tSet a w) i))) := by
  rw [dot_field (rowT a true) w]
  obtain ⟨h1, h5, hs, ht, ht0, _⟩ := atomChk_parts ha
  refine sumTo_congr _ fun i hi => ?_
  rw [rowT_lies a _ (fieldIn_lt w i), lies_field hs w hi]
  congr 1
  unfold tLies tSet
  split
  · simp [bit, toI]
  · rename_i hne
    cases hb : hasT a.what
    · exact absurd (ht0 hb) hne
    · exact lies_field (ht hb) w hi
theorem row_atom {a : Atom} (ha : atomChk a = 0) {w : World} (hw : worldChk w = 0) : decide (sumTo w.things.toNat (fun i => timesV a.what (toI (bit (termSet a.s w) i)) (toI (bit (tSet a w) i))) ≤ rowM a true) = atomTrue a w := by
  obtain ⟨h1, h5, hs, ht, ht0, hn1, hn2, hn3⟩ := atomChk_parts ha
  have rs := termSet_right hw a.s
  have rt : hasT a.what = true → tSet a w = termSet a.t w := fun h => by
    unfold tSet
    rw [if_neg]
    intro e
    have := ht h
    rw [e] at this
    cases this
  rw [rowM, if_pos rfl]
  unfold atomTrue
  rcases (by omega : a.what = 1 ∨ a.what = 2 ∨ a.what = 3 ∨ a.what = 4 ∨ a.what = 5) with h | h | h | h | h
  · have rtt := termSet_right hw a.t
    rw [rt (by rw [h]; rfl)]
    have hn := hn3 (by omega)
    simp only [h, hn, if_true, if_neg (show ¬ (1 : Int) = 3 by decide)]
    have hnn : ∀ i, i < w.things.toNat → 0 ≤ timesV 1 (toI (bit (termSet a.s w) i)) (toI (bit (termSet a.t w) i)) := fun i _ => by
      rcases toI_01 (bit (termSet a.s w) i) with e | e <;> rcases toI_01 (bit (termSet a.t w) i) with e' | e' <;> rw [e, e'] <;> decide
    have ro : setChk w.things (setOf 7 w.things (termSet a.s w) (termSet a.t w)) = 0 := setOf_right rs rtt
    have e7 : setOf 7 w.things (termSet a.s w) (termSet a.t w) = ((andNot (termSet a.s w).toNat (termSet a.t w).toNat : Nat) : Int) := rfl
    rw [← e7]
    refine Bool.eq_iff_iff.2 ?_
    rw [decide_eq_true_eq, beq_iff_eq]
    constructor
    · intro hle
      refine bit_ext ro (setChk_zero (worldChk_iff.1 hw).1) fun i hi => ?_
      have := sumTo_zero _ hnn hle i hi
      rw [bit_setOf 7 _ _ _ i (by decide) (by decide), show bit 0 i = false by simp [bit]]
      revert this
      cases bit (termSet a.s w) i <;> cases bit (termSet a.t w) i <;> decide
    · intro e0
      have : ∀ i, i < w.things.toNat → timesV 1 (toI (bit (termSet a.s w) i)) (toI (bit (termSet a.t w) i)) = 0 := fun i hi => by
        have e1 : bit (setOf 7 w.things (termSet a.s w) (termSet a.t w)) i = false := by rw [e0]; simp [bit]
        rw [bit_setOf 7 _ _ _ i (by decide) (by decide)] at e1
        revert e1
        cases bit (termSet a.s w) i <;> cases bit (termSet a.t w) i <;> decide
      rw [sumTo_congr _ this, sumTo_const0]
      exact Int.le_refl 0
  · have rtt := termSet_right hw a.t
    rw [rt (by rw [h]; rfl)]
    have hn := hn3 (by omega)
    simp only [h, hn, if_true, if_neg (show ¬ (2 : Int) = 3 by decide), if_neg (show ¬ (2 : Int) = 1 by decide)]
    have hnn : ∀ i, i < w.things.toNat → 0 ≤ timesV 2 (toI (bit (termSet a.s w) i)) (toI (bit (termSet a.t w) i)) := fun i _ => by
      rcases toI_01 (bit (termSet a.s w) i) with e | e <;> rcases toI_01 (bit (termSet a.t w) i) with e' | e' <;> rw [e, e'] <;> decide
    refine Bool.eq_iff_iff.2 ?_
    rw [decide_eq_true_eq, beq_iff_eq]
    constructor
    · intro hle
      refine bit_ext rs rtt fun i hi => ?_
      have := sumTo_zero _ hnn hle i hi
      revert this
      cases bit (termSet a.s w) i <;> cases bit (termSet a.t w) i <;> decide
    · intro e0
      have : ∀ i, i < w.things.toNat → timesV 2 (toI (bit (termSet a.s w) i)) (toI (bit (termSet a.t w) i)) = 0 := fun i hi => by
        rw [e0]
        cases bit (termSet a.t w) i <;> decide
      rw [sumTo_congr _ this, sumTo_const0]
      exact Int.le_refl 0
  · simp only [h, if_true, if_neg (show ¬ (3 : Int) = 1 by decide), if_neg (show ¬ (3 : Int) = 2 by decide)]
    rw [many_sumTo rs]
    have e : sumTo w.things.toNat (fun i => timesV 3 (toI (bit (termSet a.s w) i)) (toI (bit (tSet a w) i))) = -sumTo w.things.toNat (fun i => toI (bit (termSet a.s w) i)) := by
      rw [← sumTo_neg]; rfl
    rw [e]
    exact decide_eq_decide.2 (by omega)
  · simp only [h, if_true, if_neg (show ¬ (4 : Int) = 1 by decide), if_neg (show ¬ (4 : Int) = 2 by decide), if_neg (show ¬ (4 : Int) = 3 by decide)]
    rw [many_sumTo rs]
    rfl
  · have rtt := termSet_right hw a.t
    rw [rt (by rw [h]; rfl)]
    simp only [h, if_neg (show ¬ (5 : Int) = 1 by decide), if_neg (show ¬ (5 : Int) = 2 by decide), if_neg (show ¬ (5 : Int) = 3 by decide), if_neg (show ¬ (5 : Int) = 4 by decide)]
    rw [many_sumTo rs, many_sumTo rtt]
    have e : sumTo w.things.toNat (fun i => timesV 5 (toI (bit (termSet a.s w) i)) (toI (bit (termSet a.t w) i))) = sumTo w.things.toNat (fun i => toI (bit (termSet a.s w) i)) - sumTo w.things.toNat (fun i => toI (bit (termSet a.t w) i)) := by
      rw [← sumTo_sub]; rfl
    rw [e]
    exact decide_eq_decide.2 (by omega)
/-- The row of an atom, as nine numbers. -/
def rowL (a : Atom) (h : Bool) : List Int := [rowT a h 0, rowT a h 1, rowT a h 2, rowT a h 3, rowT a h 4, rowT a h 5, rowT a h 6, rowT a h 7, rowM a h]
theorem row_says {a : Atom} (ha : atomChk a = 0) {w : World} (hw : worldChk w = 0) (h : Bool) : rowSo (rowL a h) (fieldsOf w) = (atomTrue a w == h) := by
  have e1 := row_sum ha w
  have e2 := row_atom ha hw
  rw [← e1] at e2
  cases h
  · rw [← e2]
    have eT : ∀ f, rowT a false f = -rowT a true f := fun f => by simp [rowT]
    have eM : rowM a false = -(rowM a true) - 1 := by simp [rowM]
    simp only [rowL, rowSo, fieldsOf, eT, eM, Int.neg_mul, beq_false, ← decide_not]
    exact decide_eq_decide.2 (by omega)
  · rw [← e2]
    simp only [rowL, rowSo, fieldsOf, beq_true]
end Venn
