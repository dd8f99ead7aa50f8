/-
  THE PLAIN LAWS of package turn: other names leave what is right right; other things: bit by bit.
-/
import Derived.Test.YtlpfbdejiifbpaaDoorVennRenW
namespace Venn
/-! ### each number just once -/
def upTo (n : Nat) : List Int := (List.range n).map fun k : Nat => (k : Int)
theorem upTo_succ (n : Nat) : upTo (n + 1) = upTo n ++ [(n : Int)] := by
  unfold upTo
  rw [List.range_succ, List.map_append]
  rfl
theorem perm_upTo : ∀ (n : Nat) (l : List Int), l.length = n → (∀ i, i < n → (i : Int) ∈ l) → l.Perm (upTo n) := by
  intro n
  induction n with
  | zero => intro l hl _; rw [List.eq_nil_of_length_eq_zero hl]; exact List.Perm.refl _
  | succ n ih =>
    intro l hl h
    have hm := h n (by omega)
    have h1 := List.perm_cons_erase hm
    have h2 := ih (l.erase (n : Int)) (by rw [List.length_erase_of_mem hm]; omega) fun i hi => (List.mem_erase_of_ne (by omega)).2 (h i (by omega))
    rw [upTo_succ]
    exact (h1.trans (h2.cons _)).trans (List.perm_append_comm (l₁ := [(n : Int)]) (l₂ := upTo n))
theorem upFrom_list : ∀ (n : Nat) (i : Int), upFrom i ((List.range n).map fun k : Nat => i + (k : Int)) = true := by
  intro n
  induction n with
  | zero => intro i; rfl
  | succ n ih =>
    intro i
    rw [List.range_succ_eq_map, List.map_cons, List.map_map]
    simp only [upFrom, Bool.and_eq_true, beq_iff_eq]
    refine ⟨by simp, ?_⟩
    have := ih (i + 1)
    have e : ((fun k : Nat => i + (k : Int)) ∘ Nat.succ) = fun k : Nat => i + 1 + (k : Int) := by
      funext k
      simp only [Function.comp]
      omega
    rw [e]
    exact this
theorem sorted_upTo (n : Nat) : (upTo n).Pairwise fun a b => decide (a ≤ b) = true := by
  unfold upTo
  rw [List.pairwise_map]
  exact List.pairwise_lt_range.imp fun h => by simp; omega
theorem sortI_upTo {l : List Int} (h : l.Perm (upTo l.length)) : sortI l = upTo l.length := by
  refine List.Perm.eq_of_pairwise (le := fun a b => decide (a ≤ b) = true) (fun a b _ _ h1 h2 => ?_) (List.pairwise_mergeSort (fun a b c h1 h2 => ?_) (fun a b => ?_) l) (sorted_upTo _) ((List.mergeSort_perm _ _).trans h)
  · simp at h1 h2; omega
  · simp at h1 h2 ⊢; omega
  · simp; omega
/-- Just once, by looking. -/
def onceB (l : List Int) : Bool := (List.range l.length).all fun i => l.contains (i : Int)
theorem once_of {l : List Int} (h : onceB l = true) : onceV l = true := by
  unfold onceB at h
  rw [List.all_eq_true] at h
  have hp := perm_upTo l.length l rfl fun i hi => by simpa using h i (by simpa using hi)
  rw [onceV, sortI_upTo hp]
  have := upFrom_list l.length 0
  simpa [upTo] using this
/-! ### names -/
def In3 (a b c : Int) : Prop := (0 ≤ a ∧ a < 3) ∧ (0 ≤ b ∧ b < 3) ∧ (0 ≤ c ∧ c < 3)
theorem once_in3 {a b c : Int} (h : onceV [a, b, c] = true) : In3 a b c := by
  have := once_three h
  unfold In3
  omega
theorem renS_in {a b c s : Int} (h : In3 a b c) (hs : 0 ≤ s ∧ s < 3) : 0 ≤ renS a b c s ∧ renS a b c s < 3 := by
  obtain ⟨h1, h2, h3⟩ := h
  unfold renS
  split
  · exact h1
  · split
    · exact h2
    · split
      · exact h3
      · omega
theorem renS_out (a b c : Int) {s : Int} (hs : s < 0 ∨ 3 ≤ s) : renS a b c s = s := by
  unfold renS
  rw [if_neg (by omega), if_neg (by omega), if_neg (by omega)]
theorem badSign_ren {a b c : Int} (h : In3 a b c) (s : Int) : badSign (renS a b c s) = badSign s := by
  by_cases hs : s < 0 ∨ 3 ≤ s
  · rw [renS_out a b c hs]
  · have := renS_in h (s := s) (by omega)
    unfold badSign
    rw [decide_eq_false (by omega), decide_eq_false (by omega), decide_eq_false (by omega), decide_eq_false (by omega)]
theorem takes_ren {a b c : Int} (h : In3 a b c) (s : Int) : takes (renS a b c s) = takes s := by
  by_cases hs : s < 0 ∨ 3 ≤ s
  · rw [renS_out a b c hs]
  · have := renS_in h (s := s) (by omega)
    unfold takes
    rw [if_neg (by omega), if_neg (by omega), if_neg (by omega), if_neg (by omega)]
theorem shapeGo_ren {a b c : Int} (h : In3 a b c) : ∀ (t : List Int) (m : Int), shapeGo m (renT a b c t) = shapeGo m t := by
  intro t
  induction t with
  | nil => intro m; rfl
  | cons s r ih =>
    intro m
    show shapeGo m (renS a b c s :: renT a b c r) = _
    unfold shapeGo
    rw [takes_ren h, ih]
theorem termChk_ren {a b c : Int} (h : In3 a b c) (t : List Int) : termChk (renT a b c t) = termChk t := by
  unfold termChk
  rw [renT_len, shapeGo_ren h]
  have : (renT a b c t).any badSign = t.any badSign := by
    unfold renT
    rw [List.any_map]
    congr 1
    funext s
    exact badSign_ren h s
  rw [this]
theorem renT_nil {a b c : Int} {t : List Int} : renT a b c t = [] ↔ t = [] := by
  unfold renT
  exact List.map_eq_nil_iff
theorem atomChk_ren {a b c : Int} (h : In3 a b c) (x : Atom) : atomChk (renA a b c x) = atomChk x := by
  unfold atomChk renA
  simp only [termChk_ren h, renT_nil]
theorem atomsChk_ren {a b c : Int} (h : In3 a b c) : ∀ l : List Atom, atomsChk (l.map (renA a b c)) = atomsChk l := by
  intro l
  induction l with
  | nil => rfl
  | cons x r ih => simp only [List.map_cons, atomsChk, atomChk_ren h, ih]
theorem formChk_ren {a b c : Int} (h : In3 a b c) (f : Form) : formChk (renF a b c f) = formChk f := by
  unfold formChk renF
  simp only [atomsChk_ren h, List.length_map]
theorem renS_swap (s : Int) : renS 1 0 2 (renS 1 0 2 s) = s := by
  by_cases h0 : s = 0
  · subst h0; rfl
  by_cases h1 : s = 1
  · subst h1; rfl
  by_cases h2 : s = 2
  · subst h2; rfl
  have : renS 1 0 2 s = s := renS_out 1 0 2 (by omega)
  rw [this, this]
theorem renT_swap (t : List Int) : renT 1 0 2 (renT 1 0 2 t) = t := by
  unfold renT
  rw [List.map_map]
  exact (List.map_congr_left fun s _ => renS_swap s).trans (List.map_id _)
theorem renF_swap (f : Form) : renF 1 0 2 (renF 1 0 2 f) = f := by
  obtain ⟨l, c⟩ := f
  unfold renF
  simp only [List.map_map, Form.mk.injEq, and_true]
  refine (List.map_congr_left fun x _ => ?_).trans (List.map_id _)
  simp only [Function.comp, renA, renT_swap, id]
theorem once_102 : onceV [1, 0, 2] = true := once_of (by decide)
theorem names_102 (f : Form) : namesErr f 1 0 2 = formChk f := by
  unfold namesErr
  rw [if_pos once_102]
  split <;> simp_all
/-! ### things -/
theorem bit_orB {acc : Int} {S k t : Nat} (j : Nat) : bit (orBit acc S k (t : Int)) j = (bit acc j || (decide (t = j) && S.testBit k)) := by
  unfold bit orBit
  rw [Int.toNat_natCast, Int.toNat_natCast, Nat.testBit_or]
  congr 1
  have hb : S / 2 ^ k % 2 = (S.testBit k).toNat := by rw [Nat.testBit_eq_decide_div_mod_eq]; rcases Nat.mod_two_eq_zero_or_one (S / 2 ^ k) with h | h <;> simp [h]
  rw [hb]
  cases S.testBit k
  · simp
  · simp [Nat.testBit_two_pow]
/-- Is a thing's new place j, and had the set the thing? -/
def hitS (S : Nat) : Nat → List Int → Nat → Bool
  | _, [], _ => false
  | i, t :: q, j => (decide (t.toNat = j) && S.testBit i) || hitS S (i + 1) q j
theorem bit_things (S : Nat) (j : Nat) : ∀ (q : List Int) (i : Nat) (acc : Int), (∀ t ∈ q, 0 ≤ t) → bit (thingsS (S : Int) i q acc) j = (bit acc j || hitS S i q j) := by
  intro q
  induction q with
  | nil => intro i acc _; simp [thingsS, hitS]
  | cons t q ih =>
    intro i acc h
    obtain ⟨T, rfl⟩ := Int.eq_ofNat_of_zero_le (h t (by simp))
    rw [thingsS, ih (i + 1) _ fun x hx => h x (List.mem_cons_of_mem _ hx), Int.toNat_natCast, bit_orB]
    simp only [hitS, Int.toNat_natCast, Bool.or_assoc]
theorem hitS_none (S : Nat) (j : Nat) : ∀ (q : List Int) (i : Nat), (∀ t ∈ q, t.toNat ≠ j) → hitS S i q j = false := by
  intro q
  induction q with
  | nil => intro i _; rfl
  | cons t q ih =>
    intro i h
    simp only [hitS, ih (i + 1) fun x hx => h x (List.mem_cons_of_mem _ hx), Bool.or_false, decide_eq_false (h t (by simp)), Bool.false_and]
theorem hitS_at (S : Nat) : ∀ (q : List Int) (i m : Nat) (t : Int), (∀ t ∈ q, 0 ≤ t) → q.Nodup → q[m]? = some t → hitS S i q t.toNat = S.testBit (i + m) := by
  intro q
  induction q with
  | nil => intro i m t _ _ h; simp at h
  | cons x q ih =>
    intro i m t h0 hn h
    have hx0 := h0 x (by simp)
    have h0' : ∀ t ∈ q, 0 ≤ t := fun y hy => h0 y (List.mem_cons_of_mem _ hy)
    obtain ⟨hnx, hnq⟩ := List.nodup_cons.1 hn
    cases m with
    | zero =>
      simp at h
      subst h
      have : hitS S (i + 1) q x.toNat = false := hitS_none S _ q _ fun y hy e => by
        have := h0' y hy
        have : y = x := by omega
        exact hnx (this ▸ hy)
      simp [hitS, this]
    | succ m =>
      have hm : q[m]? = some t := by simpa using h
      have htq := List.mem_of_getElem? hm
      have ht0 := h0' t htq
      have hne : x.toNat ≠ t.toNat := fun e => by
        have : x = t := by omega
        exact hnx (this ▸ htq)
      simp only [hitS, decide_eq_false hne, Bool.false_and, Bool.false_or, ih (i + 1) m t h0' hnq hm]
      congr 1
      omega
/-- Where thing m goes, there it is just if it was. -/
theorem bit_thing_at {s : Int} (hs : 0 ≤ s) {q : List Int} (ho : onceV q = true) {m : Nat} {t : Int} (hm : q[m]? = some t) : bit (thingsS s 0 q 0) t.toNat = bit s m := by
  obtain ⟨S, rfl⟩ := Int.eq_ofNat_of_zero_le hs
  rw [bit_things S _ q 0 0 fun t ht => (once_mem ho t ht).1, hitS_at S q 0 m t (fun t ht => (once_mem ho t ht).1) (once_nodup ho) hm]
  simp [bit]
theorem bit_thing_high {s : Int} (hs : 0 ≤ s) {q : List Int} (ho : onceV q = true) {j : Nat} (hj : q.length ≤ j) : bit (thingsS s 0 q 0) j = false := by
  obtain ⟨S, rfl⟩ := Int.eq_ofNat_of_zero_le hs
  rw [bit_things S _ q 0 0 fun t ht => (once_mem ho t ht).1, hitS_none S j q 0 fun t ht e => by have := once_mem ho t ht; omega]
  simp [bit]
theorem orBit_pos (s : Int) (k nm : Nat) (t : Int) : 0 ≤ orBit s k nm t := by unfold orBit; omega
theorem things_pos (s : Int) : ∀ (q : List Int) (i : Nat) (acc : Int), 0 ≤ acc → 0 ≤ thingsS s i q acc := by
  intro q
  induction q with
  | nil => intro i acc h; exact h
  | cons t q ih => intro i acc _; exact ih _ _ (orBit_pos _ _ _ _)
theorem things_right {s u : Int} (hs : setChk u s = 0) {q : List Int} (ho : onceV q = true) (hl : (q.length : Int) = u) : setChk u (thingsS s 0 q 0) = 0 := by
  obtain ⟨h0, h1, h2⟩ := setChk_iff.1 hs
  refine setChk_iff.2 ⟨h0, things_pos s q 0 0 (by decide), ?_⟩
  refine Nat.lt_pow_two_of_testBit _ fun j hj => ?_
  have := bit_thing_high h1 ho (j := j) (by omega)
  simpa [bit] using this
theorem thingsW_right {w : World} (hw : worldChk w = 0) {q : List Int} (ho : onceV q = true) (hl : (q.length : Int) = w.things) : worldChk (thingsW q w) = 0 := by
  obtain ⟨h1, h2, h3, h4⟩ := worldChk_iff.1 hw
  exact worldChk_iff.2 ⟨h1, things_right h2 ho hl, things_right h3 ho hl, things_right h4 ho hl⟩
/-! ### two things changed -/
def swapQ (n i k : Nat) : List Int := (List.range n).map fun j => if j = i then (k : Int) else if j = k then (i : Int) else (j : Int)
theorem swapQ_len (n i k : Nat) : (swapQ n i k).length = n := by simp [swapQ]
set_option maxRecDepth 1000000 in
theorem swapQ_once0 : ∀ (n : Fin 7) (i k : Fin 6), i.val < n.val → k.val < n.val → onceB (swapQ n.val i.val k.val) = true := by decide +kernel
theorem swapQ_once {n i k : Nat} (hn : n ≤ 6) (hi : i < n) (hk : k < n) : onceV (swapQ n i k) = true := once_of (swapQ_once0 ⟨n, by omega⟩ ⟨i, by omega⟩ ⟨k, by omega⟩ hi hk)
theorem swapQ_at {n i k j : Nat} (hj : j < n) : (swapQ n i k)[j]? = some (if j = i then (k : Int) else if j = k then (i : Int) else (j : Int)) := by
  simp [swapQ, hj]
theorem swapS_twice {n i k : Nat} (hn : n ≤ 6) (hi : i < n) (hk : k < n) {s : Int} (hs : setChk (n : Int) s = 0) : thingsS (thingsS s 0 (swapQ n i k) 0) 0 (swapQ n i k) 0 = s := by
  have ho := swapQ_once hn hi hk
  have h1 := things_right hs ho (by rw [swapQ_len])
  have h2 := things_right h1 ho (by rw [swapQ_len])
  have p0 := (setChk_iff.1 hs).2.1
  have p1 := (setChk_iff.1 h1).2.1
  refine bit_ext h2 hs fun j hj => ?_
  rw [Int.toNat_natCast] at hj
  by_cases e1 : j = i
  · subst e1
    by_cases e2 : j = k
    · subst e2
      have a1 := bit_thing_at p0 ho (swapQ_at (i := j) (k := j) hj)
      have a2 := bit_thing_at p1 ho (swapQ_at (i := j) (k := j) hj)
      simp only [if_true, Int.toNat_natCast] at a1 a2
      rw [a2, a1]
    · have a1 := bit_thing_at p0 ho (swapQ_at (i := j) (k := k) hj)
      have a2 := bit_thing_at p1 ho (swapQ_at (i := j) (k := k) hk)
      rw [if_pos rfl, Int.toNat_natCast] at a1
      rw [if_neg (fun e => e2 e.symm), if_pos rfl, Int.toNat_natCast] at a2
      rw [a2, a1]
  · by_cases e2 : j = k
    · subst e2
      have a1 := bit_thing_at p0 ho (swapQ_at (i := i) (k := j) hj)
      have a2 := bit_thing_at p1 ho (swapQ_at (i := i) (k := j) hi)
      rw [if_neg e1, if_pos rfl, Int.toNat_natCast] at a1
      rw [if_pos rfl, Int.toNat_natCast] at a2
      rw [a2, a1]
    · have a1 := bit_thing_at p0 ho (swapQ_at (i := i) (k := k) hj)
      have a2 := bit_thing_at p1 ho (swapQ_at (i := i) (k := k) hj)
      rw [if_neg e1, if_neg e2, Int.toNat_natCast] at a1 a2
      rw [a2, a1]
/-- Two things changed twice. -/
theorem swap_back {th a b d : Int} (hw : worldChk ⟨th, a, b, d⟩ = 0) {i k : Nat} (hi : (i : Int) < th) (hk : (k : Int) < th) :
    ∃ y : World, y.things = th ∧ thingsErr ⟨th, a, b, d⟩ (swapQ th.toNat i k) = 0 ∧ thingsV ⟨th, a, b, d⟩ (swapQ th.toNat i k) = y ∧ thingsErr y (swapQ th.toNat i k) = 0 ∧ thingsV y (swapQ th.toNat i k) = ⟨th, a, b, d⟩ := by
  obtain ⟨h1, h2, h3, h4⟩ := worldChk_iff.1 hw
  have hth := h1
  simp only [things, Bool.and_eq_true, decide_eq_true_eq] at hth
  obtain ⟨n, rfl⟩ := Int.eq_ofNat_of_zero_le hth.1
  have hn : n ≤ 6 := by have := hth.2; omega
  rw [Int.toNat_natCast]
  have ho := swapQ_once hn (show i < n by omega) (show k < n by omega)
  have e1 : thingsErr ⟨n, a, b, d⟩ (swapQ n i k) = 0 := by rw [thingsErr, if_pos hw, if_pos (by rw [swapQ_len]), if_pos ho]
  have hy := thingsW_right hw ho (show ((swapQ n i k).length : Int) = (n : Int) by rw [swapQ_len])
  have e2 : thingsErr (thingsW (swapQ n i k) ⟨n, a, b, d⟩) (swapQ n i k) = 0 := by rw [thingsErr, if_pos hy, if_pos (by rw [swapQ_len]; rfl), if_pos ho]
  refine ⟨thingsW (swapQ n i k) ⟨n, a, b, d⟩, rfl, e1, by rw [thingsV, if_pos e1], e2, ?_⟩
  rw [thingsV, if_pos e2]
  show (⟨n, _, _, _⟩ : World) = _
  rw [World.mk.injEq]
  exact ⟨rfl, swapS_twice hn (by omega) (by omega) h2, swapS_twice hn (by omega) (by omega) h3, swapS_twice hn (by omega) (by omega) h4⟩
end Venn
