/-
  THE PLAIN SIDE of package turn: other names, other things.
  THE PLAIN SIDE of turn.World and turn.Things.
  THE PLAIN LAWS of package turn: other names leave what is right right; other things: bit by bit.
  THE PLAIN SIDE of vennlaw2.TurnSame: counts with other names, looked at one by one.
  THE PLAIN LAW of vennlaw2.TurnSame: no name is special, and no thing.
-/
import Derived.Test.YtcloppcekbdbaaaGreatDoorVennP2
namespace Venn
/-- From i on each number one more. -/
def upFrom : Int → List Int → Bool
  | _, [] => true
  | i, x :: r => x == i && upFrom (i + 1) r
def sortI (l : List Int) : List Int := l.mergeSort fun x y => decide (x ≤ y)
/-- Has a list each number from 0 on just once? -/
def onceV (l : List Int) : Bool := upFrom 0 (sortI l)
theorem sortI_len (l : List Int) : (sortI l).length = l.length := List.length_mergeSort _
/-- A sign with other names. -/
def renS (a b c s : Int) : Int := if s = 0 then a else if s = 1 then b else if s = 2 then c else s
def renT (a b c : Int) (t : List Int) : List Int := t.map (renS a b c)
theorem renT_step (a b c : Int) (t : List Int) (k : Nat) (h : k < t.length) : renT a b c (t.take (k + 1)) = renT a b c (t.take k) ++ [renS a b c t[k]] := by
  unfold renT
  rw [List.take_succ_eq_append_getElem h, List.map_append]
  rfl
theorem renT_len (a b c : Int) (t : List Int) : (renT a b c t).length = t.length := by simp [renT]
def renA (a b c : Int) (x : Atom) : Atom := ⟨x.what, renT a b c x.s, renT a b c x.t, x.n⟩
def renF (a b c : Int) (f : Form) : Form := ⟨f.atoms.map (renA a b c), f.code⟩
/-- What is wrong with a formula's other names. -/
def namesErr (f : Form) (a b c : Int) : Int := if formChk f = 0 then (if onceV [a, b, c] = true then 0 else 1) else formChk f
def namesV (f : Form) (a b c : Int) : Form := if namesErr f a b c = 0 then renF a b c f else ⟨[], []⟩
end Venn

namespace Venn
/-- A world with other names. -/
def toN (a b x y z j : Int) : Int := if a = j then x else if b = j then y else z
def renW (a b : Int) (w : World) : World := ⟨w.things, toN a b w.a w.b w.c 0, toN a b w.a w.b w.c 1, toN a b w.a w.b w.c 2⟩
def renWErr (w : World) (a b c : Int) : Int := if onceV [a, b, c] = true then worldChk w else 1
def renWV (w : World) (a b c : Int) : World := if renWErr w a b c = 0 then renW a b w else ⟨0, 0, 0, 0⟩
/-- A world of other things. -/
def thingsS (s : Int) : Nat → List Int → Int → Int
  | _, [], acc => acc
  | i, t :: q, acc => thingsS s (i + 1) q (orBit acc s.toNat i t)
def thingsW (q : List Int) (w : World) : World := ⟨w.things, thingsS w.a 0 q 0, thingsS w.b 0 q 0, thingsS w.c 0 q 0⟩
def thingsErr (w : World) (q : List Int) : Int := if worldChk w = 0 then (if (q.length : Int) = w.things then (if onceV q = true then 0 else 1) else 3) else worldChk w
def thingsV (w : World) (q : List Int) : World := if thingsErr w q = 0 then thingsW q w else ⟨0, 0, 0, 0⟩
theorem upFrom_mem : ∀ (l : List Int) (i : Int), upFrom i l = true → ∀ x ∈ l, i ≤ x ∧ x < i + l.length := by
  intro l
  induction l with
  | nil => intro i _ x hx; cases hx
  | cons y r ih =>
    intro i h x hx
    simp only [upFrom, Bool.and_eq_true, beq_iff_eq] at h
    obtain ⟨rfl, h2⟩ := h
    simp only [List.length_cons]
    rcases List.mem_cons.1 hx with rfl | hx
    · omega
    · have := ih _ h2 x hx
      omega
theorem upFrom_nodup : ∀ (l : List Int) (i : Int), upFrom i l = true → l.Nodup := by
  intro l
  induction l with
  | nil => intro i _; exact List.nodup_nil
  | cons y r ih =>
    intro i h
    simp only [upFrom, Bool.and_eq_true, beq_iff_eq] at h
    obtain ⟨rfl, h2⟩ := h
    refine List.nodup_cons.2 ⟨fun hm => ?_, ih _ h2⟩
    have := upFrom_mem r _ h2 y hm
    omega
theorem sortI_perm (l : List Int) : (sortI l).Perm l := List.mergeSort_perm _ _
theorem once_mem {l : List Int} (h : onceV l = true) : ∀ x ∈ l, 0 ≤ x ∧ x < (l.length : Int) := by
  intro x hx
  have := upFrom_mem _ 0 h x ((sortI_perm l).mem_iff.2 hx)
  rw [sortI_len] at this
  omega
theorem once_nodup {l : List Int} (h : onceV l = true) : l.Nodup := (sortI_perm l).nodup_iff.1 (upFrom_nodup _ 0 h)
/-- Three names: six ways. -/
theorem once_three {a b c : Int} (h : onceV [a, b, c] = true) : (a = 0 ∧ b = 1 ∧ c = 2) ∨ (a = 0 ∧ b = 2 ∧ c = 1) ∨ (a = 1 ∧ b = 0 ∧ c = 2) ∨ (a = 1 ∧ b = 2 ∧ c = 0) ∨ (a = 2 ∧ b = 0 ∧ c = 1) ∨ (a = 2 ∧ b = 1 ∧ c = 0) := by
  have h1 := once_mem h
  have h2 := once_nodup h
  have ha := h1 a (by simp)
  have hb := h1 b (by simp)
  have hc := h1 c (by simp)
  simp at ha hb hc h2
  omega
end Venn

namespace Venn
/-! ### each number just once -/
def upTo (n : Nat) : List Int := (List.range n).map fun k : Nat => (k : Int)
theorem upTo_succ (n : Nat) : upTo (n + 1) = upTo n ++ [(n : Int)] := by
  unfold upTo
  rw [List.range_succ, List.map_append]
  rfl
theorem perm_upTo : ∀ (n : Nat) (l : List Int), l.length = n → (∀ i, i < n → (i : Int) ∈ l) → l.Perm (upTo n) := by
  intro n
  induction n with
  | zero => intro l hl _; rw [List.eq_nil_of_length_eq_zero hl]; exact List.Perm.refl _
  | succ n ih =>
    intro l hl h
    have hm := h n (by omega)
    have h1 := List.perm_cons_erase hm
    have h2 := ih (l.erase (n : Int)) (by rw [List.length_erase_of_mem hm]; omega) fun i hi => (List.mem_erase_of_ne (by omega)).2 (h i (by omega))
    rw [upTo_succ]
    exact (h1.trans (h2.cons _)).trans (List.perm_append_comm (l₁ := [(n : Int)]) (l₂ := upTo n))
theorem upFrom_list : ∀ (n : Nat) (i : Int), upFrom i ((List.range n).map fun k : Nat => i + (k : Int)) = true := by
  intro n
  induction n with
  | zero => intro i; rfl
  | succ n ih =>
    intro i
    rw [List.range_succ_eq_map, List.map_cons, List.map_map]
    simp only [upFrom, Bool.and_eq_true, beq_iff_eq]
    refine ⟨by simp, ?_⟩
    have := ih (i + 1)
    have e : ((fun k : Nat => i + (k : Int)) ∘ Nat.succ) = fun k : Nat => i + 1 + (k : Int) := by
      funext k
      simp only [Function.comp]
      omega
    rw [e]
    exact this
theorem sorted_upTo (n : Nat) : (upTo n).Pairwise fun a b => decide (a ≤ b) = true := by
  unfold upTo
  rw [List.pairwise_map]
  exact List.pairwise_lt_range.imp fun h => by simp; omega
theorem sortI_upTo {l : List Int} (h : l.Perm (upTo l.length)) : sortI l = upTo l.length := by
  refine List.Perm.eq_of_pairwise (le := fun a b => decide (a ≤ b) = true) (fun a b _ _ h1 h2 => ?_) (List.pairwise_mergeSort (fun a b c h1 h2 => ?_) (fun a b => ?_) l) (sorted_upTo _) ((List.mergeSort_perm _ _).trans h)
  · simp at h1 h2; omega
  · simp at h1 h2 ⊢; omega
  · simp; omega
/-- Just once, by looking. -/
def onceB (l : List Int) : Bool := (List.range l.length).all fun i => l.contains (i : Int)
theorem once_of {l : List Int} (h : onceB l = true) : onceV l = true := by
  unfold onceB at h
  rw [List.all_eq_true] at h
  have hp := perm_upTo l.length l rfl fun i hi => by simpa using h i (by simpa using hi)
  rw [onceV, sortI_upTo hp]
  have := upFrom_list l.length 0
  simpa [upTo] using this
/-! ### names -/
def In3 (a b c : Int) : Prop := (0 ≤ a ∧ a < 3) ∧ (0 ≤ b ∧ b < 3) ∧ (0 ≤ c ∧ c < 3)
theorem once_in3 {a b c : Int} (h : onceV [a, b, c] = true) : In3 a b c := by
  have := once_three h
  unfold In3
  omega
theorem renS_in {a b c s : Int} (h : In3 a b c) (hs : 0 ≤ s ∧ s < 3) : 0 ≤ renS a b c s ∧ renS a b c s < 3 := by
  obtain ⟨h1, h2, h3⟩ := h
  unfold renS
  split
  · exact h1
  · split
    · exact h2
    · split
      · exact h3
      · omega
theorem renS_out (a b c : Int) {s : Int} (hs : s < 0 ∨ 3 ≤ s) : renS a b c s = s := by
  unfold renS
  rw [if_neg (by omega), if_neg (by omega), if_neg (by omega)]
theorem badSign_ren {a b c : Int} (h : In3 a b c) (s : Int) : badSign (renS a b c s) = badSign s := by
  by_cases hs : s < 0 ∨ 3 ≤ s
  · rw [renS_out a b c hs]
  · have := renS_in h (s := s) (by omega)
    unfold badSign
    rw [decide_eq_false (by omega), decide_eq_false (by omega), decide_eq_false (by omega), decide_eq_false (by omega)]
theorem takes_ren {a b c : Int} (h : In3 a b c) (s : Int) : takes (renS a b c s) = takes s := by
  by_cases hs : s < 0 ∨ 3 ≤ s
  · rw [renS_out a b c hs]
  · have := renS_in h (s := s) (by omega)
    unfold takes
    rw [if_neg (by omega), if_neg (by omega), if_neg (by omega), if_neg (by omega)]
theorem shapeGo_ren {a b c : Int} (h : In3 a b c) : ∀ (t : List Int) (m : Int), shapeGo m (renT a b c t) = shapeGo m t := by
  intro t
  induction t with
  | nil => intro m; rfl
  | cons s r ih =>
    intro m
    show shapeGo m (renS a b c s :: renT a b c r) = _
    unfold shapeGo
    rw [takes_ren h, ih]
theorem termChk_ren {a b c : Int} (h : In3 a b c) (t : List Int) : termChk (renT a b c t) = termChk t := by
  unfold termChk
  rw [renT_len, shapeGo_ren h]
  have : (renT a b c t).any badSign = t.any badSign := by
    unfold renT
    rw [List.any_map]
    congr 1
    funext s
    exact badSign_ren h s
  rw [this]
theorem renT_nil {a b c : Int} {t : List Int} : renT a b c t = [] ↔ t = [] := by
  unfold renT
  exact List.map_eq_nil_iff
theorem atomChk_ren {a b c : Int} (h : In3 a b c) (x : Atom) : atomChk (renA a b c x) = atomChk x := by
  unfold atomChk renA
  simp only [termChk_ren h, renT_nil]
theorem atomsChk_ren {a b c : Int} (h : In3 a b c) : ∀ l : List Atom, atomsChk (l.map (renA a b c)) = atomsChk l := by
  intro l
  induction l with
  | nil => rfl
  | cons x r ih => simp only [List.map_cons, atomsChk, atomChk_ren h, ih]
theorem formChk_ren {a b c : Int} (h : In3 a b c) (f : Form) : formChk (renF a b c f) = formChk f := by
  unfold formChk renF
  simp only [atomsChk_ren h, List.length_map]
theorem renS_swap (s : Int) : renS 1 0 2 (renS 1 0 2 s) = s := by
  by_cases h0 : s = 0
  · subst h0; rfl
  by_cases h1 : s = 1
  · subst h1; rfl
  by_cases h2 : s = 2
  · subst h2; rfl
  have : renS 1 0 2 s = s := renS_out 1 0 2 (by omega)
  rw [this, this]
theorem renT_swap (t : List Int) : renT 1 0 2 (renT 1 0 2 t) = t := by
  unfold renT
  rw [List.map_map]
  exact (List.map_congr_left fun s _ => renS_swap s).trans (List.map_id _)
theorem renF_swap (f : Form) : renF 1 0 2 (renF 1 0 2 f) = f := by
  obtain ⟨l, c⟩ := f
  unfold renF
  simp only [List.map_map, Form.mk.injEq, and_true]
  refine (List.map_congr_left fun x _ => ?_).trans (List.map_id _)
  simp only [Function.comp, renA, renT_swap, id]
theorem once_102 : onceV [1, 0, 2] = true := once_of (by decide)
theorem names_102 (f : Form) : namesErr f 1 0 2 = formChk f := by
  unfold namesErr
  rw [if_pos once_102]
  split <;> simp_all
/-! ### things -/
theorem bit_orB {acc : Int} {S k t : Nat} (j : Nat) : bit (orBit acc S k (t : Int)) j = (bit acc j || (decide (t = j) && S.testBit k)) := by
  unfold bit orBit
  rw [Int.toNat_natCast, Int.toNat_natCast, Nat.testBit_or]
  congr 1
  have hb : S / 2 ^ k % 2 = (S.testBit k).toNat := by rw [Nat.testBit_eq_decide_div_mod_eq]; rcases Nat.mod_two_eq_zero_or_one (S / 2 ^ k) with h | h <;> simp [h]
  rw [hb]
  cases S.testBit k
  · simp
  · simp [Nat.testBit_two_pow]
/-- Is a thing's new place j, and had the set the thing? -/
def hitS (S : Nat) : Nat → List Int → Nat → Bool
  | _, [], _ => false
  | i, t :: q, j => (decide (t.toNat = j) && S.testBit i) || hitS S (i + 1) q j
theorem bit_things (S : Nat) (j : Nat) : ∀ (q : List Int) (i : Nat) (acc : Int), (∀ t ∈ q, 0 ≤ t) → bit (thingsS (S : Int) i q acc) j = (bit acc j || hitS S i q j) := by
  intro q
  induction q with
  | nil => intro i acc _; simp [thingsS, hitS]
  | cons t q ih =>
    intro i acc h
    obtain ⟨T, rfl⟩ := Int.eq_ofNat_of_zero_le (h t (by simp))
    rw [thingsS, ih (i + 1) _ fun x hx => h x (List.mem_cons_of_mem _ hx), Int.toNat_natCast, bit_orB]
    simp only [hitS, Int.toNat_natCast, Bool.or_assoc]
theorem hitS_none (S : Nat) (j : Nat) : ∀ (q : List Int) (i : Nat), (∀ t ∈ q, t.toNat ≠ j) → hitS S i q j = false := by
  intro q
  induction q with
  | nil => intro i _; rfl
  | cons t q ih =>
    intro i h
    simp only [hitS, ih (i + 1) fun x hx => h x (List.mem_cons_of_mem _ hx), Bool.or_false, decide_eq_false (h t (by simp)), Bool.false_and]
theorem hitS_at (S : Nat) : ∀ (q : List Int) (i m : Nat) (t : Int), (∀ t ∈ q, 0 ≤ t) → q.Nodup → q[m]? = some t → hitS S i q t.toNat = S.testBit (i + m) := by
  intro q
  induction q with
  | nil => intro i m t _ _ h; simp at h
  | cons x q ih =>
    intro i m t h0 hn h
    have hx0 := h0 x (by simp)
    have h0' : ∀ t ∈ q, 0 ≤ t := fun y hy => h0 y (List.mem_cons_of_mem _ hy)
    obtain ⟨hnx, hnq⟩ := List.nodup_cons.1 hn
    cases m with
    | zero =>
      simp at h
      subst h
      have : hitS S (i + 1) q x.toNat = false := hitS_none S _ q _ fun y hy e => by
        have := h0' y hy
        have : y = x := by omega
        exact hnx (this ▸ hy)
      simp [hitS, this]
    | succ m =>
      have hm : q[m]? = some t := by simpa using h
      have htq := List.mem_of_getElem? hm
      have ht0 := h0' t htq
      have hne : x.toNat ≠ t.toNat := fun e => by
        have : x = t := by omega
        exact hnx (this ▸ htq)
      simp only [hitS, decide_eq_false hne, Bool.false_and, Bool.false_or, ih (i + 1) m t h0' hnq hm]
      congr 1
      omega
/-- Where thing m goes, there it is just if it was. -/
theorem bit_thing_at {s : Int} (hs : 0 ≤ s) {q : List Int} (ho : onceV q = true) {m : Nat} {t : Int} (hm : q[m]? = some t) : bit (thingsS s 0 q 0) t.toNat = bit s m := by
  obtain ⟨S, rfl⟩ := Int.eq_ofNat_of_zero_le hs
  rw [bit_things S _ q 0 0 fun t ht => (once_mem ho t ht).1, hitS_at S q 0 m t (fun t ht => (once_mem ho t ht).1) (once_nodup ho) hm]
  simp [bit]
theorem bit_thing_high {s : Int} (hs : 0 ≤ s) {q : List Int} (ho : onceV q = true) {j : Nat} (hj : q.length ≤ j) : bit (thingsS s 0 q 0) j = false := by
  obtain ⟨S, rfl⟩ := Int.eq_ofNat_of_zero_le hs
  rw [bit_things S _ q 0 0 fun t ht => (once_mem ho t ht).1, hitS_none S j q 0 fun t ht e => by have := once_mem ho t ht; omega]
  simp [bit]
theorem orBit_pos (s : Int) (k nm : Nat) (t : Int) : 0 ≤ orBit s k nm t := by unfold orBit; omega
theorem things_pos (s : Int) : ∀ (q : List Int) (i : Nat) (acc : Int), 0 ≤ acc → 0 ≤ thingsS s i q acc := by
  intro q
  induction q with
  | nil => intro i acc h; exact h
  | cons t q ih => intro i acc _; exact ih _ _ (orBit_pos _ _ _ _)
theorem things_right {s u : Int} (hs : setChk u s = 0) {q : List Int} (ho : onceV q = true) (hl : (q.length : Int) = u) : setChk u (thingsS s 0 q 0) = 0 := by
  obtain ⟨h0, h1, h2⟩ := setChk_iff.1 hs
  refine setChk_iff.2 ⟨h0, things_pos s q 0 0 (by decide), ?_⟩
  refine Nat.lt_pow_two_of_testBit _ fun j hj => ?_
  have := bit_thing_high h1 ho (j := j) (by omega)
  simpa [bit] using this
theorem thingsW_right {w : World} (hw : worldChk w = 0) {q : List Int} (ho : onceV q = true) (hl : (q.length : Int) = w.things) : worldChk (thingsW q w) = 0 := by
  obtain ⟨h1, h2, h3, h4⟩ := worldChk_iff.1 hw
  exact worldChk_iff.2 ⟨h1, things_right h2 ho hl, things_right h3 ho hl, things_right h4 ho hl⟩
/-! ### two things changed -/
def swapQ (n i k : Nat) : List Int := (List.range n).map fun j => if j = i then (k : Int) else if j = k then (i : Int) else (j : Int)
theorem swapQ_len (n i k : Nat) : (swapQ n i k).length = n := by simp [swapQ]
set_option maxRecDepth 1000000 in
theorem swapQ_once0 : ∀ (n : Fin 7) (i k : Fin 6), i.val < n.val → k.val < n.val → onceB (swapQ n.val i.val k.val) = true := by decide +kernel
theorem swapQ_once {n i k : Nat} (hn : n ≤ 6) (hi : i < n) (hk : k < n) : onceV (swapQ n i k) = true := once_of (swapQ_once0 ⟨n, by omega⟩ ⟨i, by omega⟩ ⟨k, by omega⟩ hi hk)
theorem swapQ_at {n i k j : Nat} (hj : j < n) : (swapQ n i k)[j]? = some (if j = i then (k : Int) else if j = k then (i : Int) else (j : Int)) := by
  simp [swapQ, hj]
theorem swapS_twice {n i k : Nat} (hn : n ≤ 6) (hi : i < n) (hk : k < n) {s : Int} (hs : setChk (n : Int) s = 0) : thingsS (thingsS s 0 (swapQ n i k) 0) 0 (swapQ n i k) 0 = s := by
  have ho := swapQ_once hn hi hk
  have h1 := things_right hs ho (by rw [swapQ_len])
  have h2 := things_right h1 ho (by rw [swapQ_len])
  have p0 := (setChk_iff.1 hs).2.1
  have p1 := (setChk_iff.1 h1).2.1
  refine bit_ext h2 hs fun j hj => ?_
  rw [Int.toNat_natCast] at hj
  by_cases e1 : j = i
  · subst e1
    by_cases e2 : j = k
    · subst e2
      have a1 := bit_thing_at p0 ho (swapQ_at (i := j) (k := j) hj)
      have a2 := bit_thing_at p1 ho (swapQ_at (i := j) (k := j) hj)
      simp only [if_true, Int.toNat_natCast] at a1 a2
      rw [a2, a1]
    · have a1 := bit_thing_at p0 ho (swapQ_at (i := j) (k := k) hj)
      have a2 := bit_thing_at p1 ho (swapQ_at (i := j) (k := k) hk)
      rw [if_pos rfl, Int.toNat_natCast] at a1
      rw [if_neg (fun e => e2 e.symm), if_pos rfl, Int.toNat_natCast] at a2
      rw [a2, a1]
  · by_cases e2 : j = k
    · subst e2
      have a1 := bit_thing_at p0 ho (swapQ_at (i := i) (k := j) hj)
      have a2 := bit_thing_at p1 ho (swapQ_at (i := i) (k := j) hi)
      rw [if_neg e1, if_pos rfl, Int.toNat_natCast] at a1
      rw [if_pos rfl, Int.toNat_natCast] at a2
      rw [a2, a1]
    · have a1 := bit_thing_at p0 ho (swapQ_at (i := i) (k := k) hj)
      have a2 := bit_thing_at p1 ho (swapQ_at (i := i) (k := k) hj)
      rw [if_neg e1, if_neg e2, Int.toNat_natCast] at a1 a2
      rw [a2, a1]
/-- Two things changed twice. -/
theorem swap_back {th a b d : Int} (hw : worldChk ⟨th, a, b, d⟩ = 0) {i k : Nat} (hi : (i : Int) < th) (hk : (k : Int) < th) :
    ∃ y : World, y.things = th ∧ thingsErr ⟨th, a, b, d⟩ (swapQ th.toNat i k) = 0 ∧ thingsV ⟨th, a, b, d⟩ (swapQ th.toNat i k) = y ∧ thingsErr y (swapQ th.toNat i k) = 0 ∧ thingsV y (swapQ th.toNat i k) = ⟨th, a, b, d⟩ := by
  obtain ⟨h1, h2, h3, h4⟩ := worldChk_iff.1 hw
  have hth := h1
  simp only [things, Bool.and_eq_true, decide_eq_true_eq] at hth
  obtain ⟨n, rfl⟩ := Int.eq_ofNat_of_zero_le hth.1
  have hn : n ≤ 6 := by have := hth.2; omega
  rw [Int.toNat_natCast]
  have ho := swapQ_once hn (show i < n by omega) (show k < n by omega)
  have e1 : thingsErr ⟨n, a, b, d⟩ (swapQ n i k) = 0 := by rw [thingsErr, if_pos hw, if_pos (by rw [swapQ_len]), if_pos ho]
  have hy := thingsW_right hw ho (show ((swapQ n i k).length : Int) = (n : Int) by rw [swapQ_len])
  have e2 : thingsErr (thingsW (swapQ n i k) ⟨n, a, b, d⟩) (swapQ n i k) = 0 := by rw [thingsErr, if_pos hy, if_pos (by rw [swapQ_len]; rfl), if_pos ho]
  refine ⟨thingsW (swapQ n i k) ⟨n, a, b, d⟩, rfl, e1, by rw [thingsV, if_pos e1], e2, ?_⟩
  rw [thingsV, if_pos e2]
  show (⟨n, _, _, _⟩ : World) = _
  rw [World.mk.injEq]
  exact ⟨rfl, swapS_twice hn (by omega) (by omega) h2, swapS_twice hn (by omega) (by omega) h3, swapS_twice hn (by omega) (by omega) h4⟩
end Venn

namespace Venn
def permC (a b : Int) (x : List Int) : List Int := fieldsOf (renW a b (made x))
set_option maxRecDepth 1000000 in
theorem permC_lits : ∀ (a b a' b' : Fin 3), (a.val ≠ b.val ∧ a'.val ≠ b'.val ∧ (∀ k : Fin 3, renS (a.val : Int) (b.val : Int) (3 - (a.val : Int) - (b.val : Int)) (renS (a'.val : Int) (b'.val : Int) (3 - (a'.val : Int) - (b'.val : Int)) (k.val : Int)) = (k.val : Int))) →
    ∀ u : Fin 5, ∀ x ∈ allG 7 u.val, permC (a.val : Int) (b.val : Int) (permC (a'.val : Int) (b'.val : Int) x) = x ∧ ways (permC (a.val : Int) (b.val : Int) x) = ways x := by decide +kernel
set_option maxRecDepth 1000000 in
theorem allG_nodup : ∀ u : Fin 5, (allG 7 u.val).Nodup := by decide +kernel
end Venn

namespace Venn
/-! ### other things: the fields have as many -/
theorem perm_sum {l m : List Int} (h : l.Perm m) : l.sum = m.sum := by
  induction h with
  | nil => rfl
  | cons x _ ih => rw [List.sum_cons, List.sum_cons, ih]
  | swap x y l => simp only [List.sum_cons]; omega
  | trans _ _ h1 h2 => exact h1.trans h2
theorem once_perm {l : List Int} (h : onceV l = true) : l.Perm (upTo l.length) := by
  have h1 := upFrom_mem _ 0 h
  have h2 := upFrom_nodup _ 0 h
  have hl := sortI_len l
  have key : ∀ (s : List Int) (i : Int), upFrom i s = true → s = (List.range s.length).map fun k : Nat => i + (k : Int) := by
    intro s
    induction s with
    | nil => intro i _; rfl
    | cons x r ih =>
      intro i hs
      simp only [upFrom, Bool.and_eq_true, beq_iff_eq] at hs
      obtain ⟨rfl, hs⟩ := hs
      have := ih _ hs
      rw [List.length_cons, List.range_succ_eq_map, List.map_cons, List.map_map]
      have e : ((fun k : Nat => x + (k : Int)) ∘ Nat.succ) = fun k : Nat => x + 1 + (k : Int) := by
        funext k
        simp only [Function.comp]
        omega
      rw [e, ← this]
      simp
  have h3 := key _ 0 h
  rw [hl] at h3
  have h4 : sortI l = upTo l.length := by
    rw [h3, upTo]
    exact List.map_congr_left fun k _ => by omega
  rw [← h4]
  exact (sortI_perm l).symm
def isF (w : World) (f i : Nat) : Int := if fieldIn w i = f then 1 else 0
theorem fieldsAt_list (w : World) (f : Nat) : ∀ n, fieldsAt w n f = ((List.range n).map (isF w f)).sum := by
  intro n
  induction n with
  | zero => rfl
  | succ n ih => rw [fieldsAt, ih, List.range_succ, List.map_append, List.sum_append]; simp [isF]
theorem things_has (q : List Int) (w : World) (k : Int) : (thingsW q w).has k = thingsS (w.has k) 0 q 0 := by
  unfold World.has thingsW
  simp only
  split
  · rfl
  · split <;> rfl
theorem fieldIn_things {w : World} (hw : worldChk w = 0) {q : List Int} (ho : onceV q = true) {m : Nat} {t : Int} (hm : q[m]? = some t) : fieldIn (thingsW q w) t.toNat = fieldIn w m := by
  obtain ⟨_, h2, h3, h4⟩ := worldChk_iff.1 hw
  unfold fieldIn thingsW
  simp only
  rw [bit_thing_at (setChk_iff.1 h2).2.1 ho hm, bit_thing_at (setChk_iff.1 h3).2.1 ho hm, bit_thing_at (setChk_iff.1 h4).2.1 ho hm]
theorem fieldsAt_things {w : World} (hw : worldChk w = 0) {q : List Int} (ho : onceV q = true) (f : Nat) : fieldsAt (thingsW q w) q.length f = fieldsAt w q.length f := by
  rw [fieldsAt_list, fieldsAt_list]
  have h1 := perm_sum ((once_perm ho).map fun t => isF (thingsW q w) f t.toNat)
  have h2 : (upTo q.length).map (fun t => isF (thingsW q w) f t.toNat) = (List.range q.length).map (isF (thingsW q w) f) := by
    unfold upTo
    rw [List.map_map]
    exact List.map_congr_left fun k _ => by simp
  have h3 : q.map (fun t => isF (thingsW q w) f t.toNat) = (List.range q.length).map (isF w f) := by
    refine List.ext_getElem? fun k => ?_
    by_cases hk : k < q.length
    · have hm : q[k]? = some q[k] := List.getElem?_eq_getElem hk
      rw [List.getElem?_map, hm, List.getElem?_map, List.getElem?_range hk]
      simp only [Option.map_some, isF, fieldIn_things hw ho hm]
    · rw [List.getElem?_eq_none (by simp; omega), List.getElem?_eq_none (by simp; omega)]
  rw [← h2, ← h1, h3]
theorem fields_things {w : World} (hw : worldChk w = 0) {q : List Int} (ho : onceV q = true) (hl : (q.length : Int) = w.things) : fieldsOf (thingsW q w) = fieldsOf w := by
  have hn : w.things.toNat = q.length := by omega
  unfold fieldsOf
  rw [show (thingsW q w).things = w.things from rfl, hn]
  simp only [fieldsAt_things hw ho]
theorem formTrue_things {f : Form} (hf : formChk f = 0) {w : World} (hw : worldChk w = 0) {q : List Int} (ho : onceV q = true) (hl : (q.length : Int) = w.things) : formTrue f (thingsW q w) = formTrue f w := by
  rw [← formTrue_made hf (thingsW_right hw ho hl), fields_things hw ho hl, formTrue_made hf hw]
/-! ### other names -/
theorem renW_has {a b c : Int} (h : onceV [a, b, c] = true) (w : World) {s : Int} (h0 : 0 ≤ s) (h3 : s < 3) : (renW a b w).has (renS a b c s) = w.has s := by
  rcases once_three h with ⟨rfl, rfl, rfl⟩ | ⟨rfl, rfl, rfl⟩ | ⟨rfl, rfl, rfl⟩ | ⟨rfl, rfl, rfl⟩ | ⟨rfl, rfl, rfl⟩ | ⟨rfl, rfl, rfl⟩
  all_goals
    rcases (by omega : s = 0 ∨ s = 1 ∨ s = 2) with rfl | rfl | rfl
    all_goals simp [renS, renW, toN, World.has]
theorem setStep_ren {a b c : Int} (h : onceV [a, b, c] = true) (w : World) (st : List Int) {s : Int} (h0 : 0 ≤ s) : setStep (renW a b w) st (renS a b c s) = setStep w st s := by
  by_cases h3 : s < 3
  · have hr := renS_in (once_in3 h) ⟨h0, h3⟩
    unfold setStep
    rw [if_pos hr.2, if_pos h3, renW_has h w h0 h3]
  · rw [renS_out a b c (Or.inr (by omega))]
    unfold setStep
    rw [if_neg h3, if_neg h3]
    rfl
theorem termSet_ren {a b c : Int} (h : onceV [a, b, c] = true) (w : World) {t : List Int} (ht : ∀ s ∈ t, 0 ≤ s) : termSet (renT a b c t) (renW a b w) = termSet t w := by
  have key : ∀ (t : List Int) (st : List Int), (∀ s ∈ t, 0 ≤ s) → (renT a b c t).foldl (setStep (renW a b w)) st = t.foldl (setStep w) st := by
    intro t
    induction t with
    | nil => intro st _; rfl
    | cons s r ih =>
      intro st hs
      show (renT a b c r).foldl (setStep (renW a b w)) (setStep (renW a b w) st (renS a b c s)) = _
      rw [setStep_ren h w st (hs s (by simp)), ih _ fun x hx => hs x (List.mem_cons_of_mem _ hx)]
      rfl
  unfold termSet
  rw [key t [] ht]
theorem term_pos {t : List Int} (h : termChk t = 0) : ∀ s ∈ t, 0 ≤ s := fun s hs => ((termChk_parts h).2.2.1 s hs).1
theorem atomTrue_ren {a b c : Int} (h : onceV [a, b, c] = true) (w : World) {x : Atom} (hx : atomChk x = 0) : atomTrue (renA a b c x) (renW a b w) = atomTrue x w := by
  obtain ⟨_, _, hs, ht1, ht2, _⟩ := atomChk_parts hx
  have h1 := termSet_ren h w (term_pos hs)
  have h2 : termSet (renT a b c x.t) (renW a b w) = termSet x.t w := by
    cases hT : hasT x.what
    · rw [ht2 hT]; rfl
    · exact termSet_ren h w (term_pos (ht1 hT))
  unfold atomTrue renA
  simp only [h1, h2]
theorem formTrue_ren {a b c : Int} (h : onceV [a, b, c] = true) (w : World) {f : Form} (hf : formChk f = 0) : formTrue (renF a b c f) (renW a b w) = formTrue f w := by
  have ha := atomsChk_mem (formChk_parts hf).2.2.2.2.1
  have e : fStep (renW a b w) (f.atoms.map (renA a b c)) = fStep w f.atoms := by
    funext st s
    cases hh : f.atoms[s.toNat]? with
    | none =>
      unfold fStep
      rw [List.getElem?_map, hh]
      rfl
    | some x =>
      unfold fStep
      rw [List.getElem?_map, hh]
      simp only [Option.map_some, atomTrue_ren h w (ha x (List.mem_of_getElem? hh))]
  unfold formTrue renF
  simp only
  rw [e]
/-! ### in as many worlds -/
theorem renW_right {a b c : Int} (h : onceV [a, b, c] = true) {w : World} (hw : worldChk w = 0) : worldChk (renW a b w) = 0 := by
  obtain ⟨h1, h2, h3, h4⟩ := worldChk_iff.1 hw
  refine worldChk_iff.2 ?_
  rcases once_three h with ⟨rfl, rfl, rfl⟩ | ⟨rfl, rfl, rfl⟩ | ⟨rfl, rfl, rfl⟩ | ⟨rfl, rfl, rfl⟩ | ⟨rfl, rfl, rfl⟩ | ⟨rfl, rfl, rfl⟩
  all_goals
    simp only [renW, toN]
    simp [h1, h2, h3, h4]
theorem perm_of_sub {α : Type} [BEq α] [LawfulBEq α] : ∀ (l m : List α), l.Nodup → (∀ x ∈ l, x ∈ m) → m.length ≤ l.length → l.Perm m := by
  intro l
  induction l with
  | nil =>
    intro m _ _ hl
    have : m = [] := List.eq_nil_of_length_eq_zero (by simpa using hl)
    subst this
    exact List.Perm.refl _
  | cons a l ih =>
    intro m hn hs hl
    obtain ⟨ha, hn'⟩ := List.nodup_cons.1 hn
    have hm := hs a (by simp)
    have h1 := List.perm_cons_erase hm
    have h2 := ih (m.erase a) hn' (fun x hx => (List.mem_erase_of_ne (fun e : x = a => ha (e ▸ hx))).2 (hs x (List.mem_cons_of_mem _ hx))) (by rw [List.length_erase_of_mem hm]; simp only [List.length_cons] at hl; omega)
    exact (h2.cons a).trans h1.symm
/-- Each way of three names has its way back. -/
theorem once_back {a b c : Int} (h : onceV [a, b, c] = true) : ∃ A B A' B' : Fin 3, a = (A.val : Int) ∧ b = (B.val : Int) ∧ c = 3 - a - b ∧
    (A.val ≠ B.val ∧ A'.val ≠ B'.val ∧ (∀ k : Fin 3, renS (A.val : Int) (B.val : Int) (3 - (A.val : Int) - (B.val : Int)) (renS (A'.val : Int) (B'.val : Int) (3 - (A'.val : Int) - (B'.val : Int)) (k.val : Int)) = (k.val : Int))) ∧
    (A'.val ≠ B'.val ∧ A.val ≠ B.val ∧ (∀ k : Fin 3, renS (A'.val : Int) (B'.val : Int) (3 - (A'.val : Int) - (B'.val : Int)) (renS (A.val : Int) (B.val : Int) (3 - (A.val : Int) - (B.val : Int)) (k.val : Int)) = (k.val : Int))) := by
  rcases once_three h with ⟨rfl, rfl, rfl⟩ | ⟨rfl, rfl, rfl⟩ | ⟨rfl, rfl, rfl⟩ | ⟨rfl, rfl, rfl⟩ | ⟨rfl, rfl, rfl⟩ | ⟨rfl, rfl, rfl⟩
  · exact ⟨0, 1, 0, 1, rfl, rfl, rfl, by decide, by decide⟩
  · exact ⟨0, 2, 0, 2, rfl, rfl, rfl, by decide, by decide⟩
  · exact ⟨1, 0, 1, 0, rfl, rfl, rfl, by decide, by decide⟩
  · exact ⟨1, 2, 2, 0, rfl, rfl, rfl, by decide, by decide⟩
  · exact ⟨2, 0, 1, 2, rfl, rfl, rfl, by decide, by decide⟩
  · exact ⟨2, 1, 2, 1, rfl, rfl, rfl, by decide, by decide⟩
theorem permC_mem {a b c : Int} (h : onceV [a, b, c] = true) {u : Int} (hu : things u = true) {x : List Int} (hx : x ∈ allC u) : permC a b x ∈ allC u := by
  obtain ⟨h1, h2⟩ := made_allC hu hx
  have h3 := fieldsOf_mem (renW_right h h1)
  rw [show (renW a b (made x)).things = (made x).things from rfl, h2] at h3
  exact h3
theorem worldsGo_sum (f : Form) : ∀ l : List (List Int), worldsGo f l = (l.map fun x => if formTrue f (made x) = true then ways x else 0).sum := by
  intro l
  unfold worldsGo
  have key : ∀ (l : List (List Int)) (s : Int), l.foldl (fun s x => if formTrue f (made x) = true then s + ways x else s) s = s + (l.map fun x => if formTrue f (made x) = true then ways x else 0).sum := by
    intro l
    induction l with
    | nil => intro s; simp
    | cons x r ih =>
      intro s
      rw [List.foldl_cons, ih, List.map_cons, List.sum_cons]
      split <;> omega
  rw [key]
  omega
theorem worlds_ren {a b c : Int} (h : onceV [a, b, c] = true) {f : Form} (hf : formChk f = 0) {u : Int} (hu : things u = true) (h4 : u ≤ 4) : worldsV (renF a b c f) u = worldsV f u := by
  have hth := hu
  simp only [things, Bool.and_eq_true, decide_eq_true_eq] at hth
  have hg := formChk_ren (once_in3 h) f
  obtain ⟨A, B, A', B', ha, hb, hc, k1, k2⟩ := once_back h
  have hU : u.toNat < 5 := by omega
  have hin : ∀ x, x ∈ allC u → x ∈ allG 7 (⟨u.toNat, hU⟩ : Fin 5).val := fun x hx => by simpa [allC] using hx
  have l1 : ∀ x ∈ allC u, ways (permC a b x) = ways x := fun x hx => by
    have := (permC_lits A B A' B' k1 ⟨u.toNat, hU⟩ x (hin x hx)).2
    rwa [← ha, ← hb] at this
  have l2 : ∀ x ∈ allC u, permC (A'.val : Int) (B'.val : Int) (permC a b x) = x := fun x hx => by
    have := (permC_lits A' B' A B k2 ⟨u.toNat, hU⟩ x (hin x hx)).1
    rwa [← ha, ← hb] at this
  have hn : (allC u).Nodup := allG_nodup ⟨u.toNat, hU⟩
  have hp : ((allC u).map (permC a b)).Perm (allC u) := by
    refine perm_of_sub _ _ ?_ (fun y hy => ?_) (by simp)
    · unfold List.Nodup at hn ⊢
      rw [List.pairwise_map]
      exact hn.imp_of_mem fun {x y} hx hy hne e => hne (by rw [← l2 x hx, ← l2 y hy, e])
    · obtain ⟨x, hx, rfl⟩ := List.mem_map.1 hy
      exact permC_mem h hu hx
  have hs := perm_sum (hp.map fun x => if formTrue (renF a b c f) (made x) = true then ways x else 0)
  rw [List.map_map] at hs
  have ht : ∀ x ∈ allC u, formTrue (renF a b c f) (made (permC a b x)) = formTrue f (made x) := fun x hx => by
    obtain ⟨m1, m2⟩ := made_allC hu hx
    have r1 := renW_right h m1
    rw [← formTrue_ren h (made x) hf]
    unfold permC
    exact formTrue_made (by rw [hg]; exact hf) r1
  have he : (allC u).map ((fun x => if formTrue (renF a b c f) (made x) = true then ways x else 0) ∘ permC a b) = (allC u).map fun x => if formTrue f (made x) = true then ways x else 0 :=
    List.map_congr_left fun x hx => by simp only [Function.comp, ht x hx, l1 x hx]
  rw [he] at hs
  have e1 : worldsChk (renF a b c f) u = 0 := by rw [worldsChk, hg, if_pos hf, if_pos hu]
  have e2 : worldsChk f u = 0 := by rw [worldsChk, if_pos hf, if_pos hu]
  rw [worldsV, worldsV, if_pos e1, if_pos e2, worldsGo_sum, worldsGo_sum]
  exact hs.symm
end Venn
