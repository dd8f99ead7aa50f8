/-
  THE PLAIN SIDE of packages core and ask.
-/
import Derived.Test.YtpcdiilgomfpbaaDoorVennSpan
namespace Venn
def formsChk : List Form → Int
  | [] => 0
  | f :: r => if formChk f = 0 then formsChk r else formChk f
def coreChk (l : List Form) (u : Int) : Int :=
  if l.length = 0 then 5 else if 6 < l.length then 4 else if formsChk l = 0 then (if things u = true then 0 else 1) else formsChk l
def formsTrue (l : List Form) (w : World) : Bool := l.all fun f => formTrue f w
def yesOf (l : List Form) (f : Form) (xs : List (List Int)) : Nat := (xs.filter fun x => formsTrue l (made x) && formTrue f (made x)).length
def noOf (l : List Form) (f : Form) (xs : List (List Int)) : Nat := (xs.filter fun x => formsTrue l (made x) && !formTrue f (made x)).length
def answer (y n : Int) : Int := if n = 0 then 1 else if y = 0 then -1 else 0
def askChk (l : List Form) (f : Form) (u : Int) : Int := if coreChk l u = 0 then formChk f else coreChk l u
def askErr (l : List Form) (f : Form) (u : Int) : Int := if askChk l f u = 0 then (if yesOf l f (allC u) + noOf l f (allC u) = 0 then 6 else 0) else askChk l f u
def askV (l : List Form) (f : Form) (u : Int) : Int := if askErr l f u = 0 then answer (yesOf l f (allC u)) (noOf l f (allC u)) else 0
theorem formsChk_mem : ∀ {l : List Form}, formsChk l = 0 → ∀ f ∈ l, formChk f = 0 := by
  intro l
  induction l with
  | nil => intro _ f h; cases h
  | cons g l ih =>
    intro h f hf
    unfold formsChk at h
    split at h
    · rcases List.mem_cons.1 hf with rfl | hf
      · assumption
      · exact ih h f hf
    · contradiction
theorem coreChk_parts {l : List Form} {u : Int} (h : coreChk l u = 0) : l.length ≠ 0 ∧ l.length ≤ 6 ∧ formsChk l = 0 ∧ things u = true := by
  unfold coreChk at h
  split at h
  · cases h
  split at h
  · cases h
  split at h
  · split at h
    · exact ⟨by assumption, by omega, by assumption, by assumption⟩
    · cases h
  · contradiction
theorem yes_snoc (l : List Form) (f : Form) (pre : List (List Int)) (x : List Int) : yesOf l f (pre ++ [x]) = yesOf l f pre + (if formsTrue l (made x) = true then (if formTrue f (made x) = true then 1 else 0) else 0) := by
  unfold yesOf
  rw [List.filter_append, List.length_append, List.filter_cons, List.filter_nil]
  cases formsTrue l (made x) <;> cases formTrue f (made x) <;> rfl
theorem no_snoc (l : List Form) (f : Form) (pre : List (List Int)) (x : List Int) : noOf l f (pre ++ [x]) = noOf l f pre + (if formsTrue l (made x) = true then (if formTrue f (made x) = true then 0 else 1) else 0) := by
  unfold noOf
  rw [List.filter_append, List.length_append, List.filter_cons, List.filter_nil]
  cases formsTrue l (made x) <;> cases formTrue f (made x) <;> rfl
theorem yesno_le (l : List Form) (f : Form) : ∀ (xs : List (List Int)), yesOf l f xs + noOf l f xs ≤ xs.length := by
  intro xs
  induction xs with
  | nil => simp [yesOf, noOf]
  | cons x xs ih =>
    unfold yesOf noOf at *
    simp only [List.filter_cons, List.length_cons]
    cases formsTrue l (made x) <;> cases formTrue f (made x) <;> simp <;> omega

/-! ### who has more has fewer too -/
abbrev moreForm (name n : Int) : Form := ⟨[⟨3, [name], [], n⟩], [0]⟩
def wit (u c : Int) (name : Nat) : List Int := if name = 0 then [u - c, c, 0, 0, 0, 0, 0, 0] else if name = 1 then [u - c, 0, c, 0, 0, 0, 0, 0] else [u - c, 0, 0, 0, c, 0, 0, 0]
theorem wit_all : ∀ (u c : Fin 7) (name : Fin 3), c.val ≤ u.val → many ((made (wit (u.val : Nat) (c.val : Nat) name.val)).has (name.val : Nat)) = ((c.val : Nat) : Int) ∧ (wit (u.val : Nat) (c.val : Nat) name.val).length = 8 ∧
    (∀ y ∈ wit (u.val : Nat) (c.val : Nat) name.val, (0 : Int) ≤ y) ∧ (wit (u.val : Nat) (c.val : Nat) name.val).sum = ((u.val : Nat) : Int) := by decide +kernel
theorem many_upto : ∀ (U : Fin 7) (S : Fin 64), setChk ((U.val : Nat) : Int) ((S.val : Nat) : Int) = 0 → many ((S.val : Nat) : Int) ≤ ((U.val : Nat) : Int) := by decide +kernel
theorem many_things {u s : Int} (h : setChk u s = 0) : many s ≤ u := by
  obtain ⟨U, S, rfl, rfl⟩ := small_of h
  exact many_upto U S h
theorem more_true (name n : Int) (hn : 0 ≤ name ∧ name ≤ 2) (w : World) : formTrue (moreForm name n) w = decide (n ≤ many (w.has name)) := by
  rcases (by omega : name = 0 ∨ name = 1 ∨ name = 2) with rfl | rfl | rfl
  all_goals rfl
theorem more_chk (name n : Int) (hn : 0 ≤ name ∧ name ≤ 2) (h : 0 ≤ n ∧ n ≤ 20) : formChk (moreForm name n) = 0 := by
  have h1 : nChk 3 n = 0 := by unfold nChk; rw [if_neg (by omega)]
  have h2 : atomChk ⟨3, [name], [], n⟩ = 0 := by
    have ht : termChk [name] = 0 := by
      rcases (by omega : name = 0 ∨ name = 1 ∨ name = 2) with rfl | rfl | rfl
      all_goals decide
    simp [atomChk, ht, hasT, h1]
  simp [formChk, atomsChk, h2, codeChk, codeOk, fSign, fTakes, fShape]
theorem ask_more (name n m u : Int) (hname : 0 ≤ name ∧ name ≤ 2) (hn : 0 ≤ n ∧ n ≤ 20) (hm : 0 ≤ m ∧ m ≤ 20) (hu : 0 ≤ u ∧ u ≤ 6) (hnu : n ≤ u) :
    askErr [moreForm name n] (moreForm name m) u = 0 ∧ askV [moreForm name n] (moreForm name m) u = if m ≤ n then 1 else if u < m then -1 else 0 := by
  have hth : things u = true := by simp [things]; omega
  have hchk : askChk [moreForm name n] (moreForm name m) u = 0 := by
    have hc : coreChk [moreForm name n] u = 0 := by
      unfold coreChk
      rw [if_neg (by simp), if_neg (by simp), if_pos, if_pos hth]
      simp [formsChk, more_chk name n hname hn]
    unfold askChk
    rw [if_pos hc]
    exact more_chk name m hname hm
  have tr : ∀ (k : Int) (x : List Int), formTrue (moreForm name k) (made x) = decide (k ≤ many ((made x).has name)) := fun k x => more_true name k hname _
  have hb : ∀ x ∈ allC u, many ((made x).has name) ≤ u := fun x hx => by
    obtain ⟨h1, h2⟩ := made_allC hth hx
    have := many_things (has_right h1 name)
    omega
  have hw : ∀ c : Int, 0 ≤ c → c ≤ u → ∃ x ∈ allC u, many ((made x).has name) = c := fun c hc hcu => by
    have := wit_all ⟨u.toNat, by omega⟩ ⟨c.toNat, by omega⟩ ⟨name.toNat, by omega⟩ (by simp only []; omega)
    simp only [show ((u.toNat : Nat) : Int) = u by omega, show ((c.toNat : Nat) : Int) = c by omega, show ((name.toNat : Nat) : Int) = name by omega] at this
    exact ⟨_, (mem_allC hth _).2 this.2, this.1⟩
  have pos : ∀ (p : List Int → Bool), (∃ x ∈ allC u, p x = true) → 0 < ((allC u).filter p).length := fun p ⟨x, hx, hp⟩ => List.length_pos_of_mem (List.mem_filter.2 ⟨hx, hp⟩)
  have zero : ∀ (p : List Int → Bool), (∀ x ∈ allC u, p x = false) → ((allC u).filter p).length = 0 := fun p h => by
    rw [List.length_eq_zero_iff, List.filter_eq_nil_iff]
    intro x hx; rw [h x hx]; decide
  have py : ∀ x, (formsTrue [moreForm name n] (made x) && formTrue (moreForm name m) (made x)) = (decide (n ≤ many ((made x).has name)) && decide (m ≤ many ((made x).has name))) := fun x => by
    simp only [formsTrue, List.all_cons, List.all_nil, Bool.and_true, tr]
  have pn : ∀ x, (formsTrue [moreForm name n] (made x) && !formTrue (moreForm name m) (made x)) = (decide (n ≤ many ((made x).has name)) && !decide (m ≤ many ((made x).has name))) := fun x => by
    simp only [formsTrue, List.all_cons, List.all_nil, Bool.and_true, tr]
  obtain ⟨xu, hxu, exu⟩ := hw u (by omega) (by omega)
  obtain ⟨xn, hxn, exn⟩ := hw n (by omega) hnu
  have hY : yesOf [moreForm name n] (moreForm name m) (allC u) = ((allC u).filter fun x => decide (n ≤ many ((made x).has name)) && decide (m ≤ many ((made x).has name))).length := by
    unfold yesOf; simp only [py]
  have hN : noOf [moreForm name n] (moreForm name m) (allC u) = ((allC u).filter fun x => decide (n ≤ many ((made x).has name)) && !decide (m ≤ many ((made x).has name))).length := by
    unfold noOf; simp only [pn]
  have key : (m ≤ n → 0 < yesOf [moreForm name n] (moreForm name m) (allC u) ∧ noOf [moreForm name n] (moreForm name m) (allC u) = 0) ∧
      (u < m → yesOf [moreForm name n] (moreForm name m) (allC u) = 0 ∧ 0 < noOf [moreForm name n] (moreForm name m) (allC u)) ∧
      (n < m → m ≤ u → 0 < yesOf [moreForm name n] (moreForm name m) (allC u) ∧ 0 < noOf [moreForm name n] (moreForm name m) (allC u)) := by
    rw [hY, hN]
    refine ⟨fun h => ⟨pos _ ⟨xu, hxu, ?_⟩, zero _ fun x hx => ?_⟩, fun h => ⟨zero _ fun x hx => ?_, pos _ ⟨xu, hxu, ?_⟩⟩, fun h h' => ⟨pos _ ⟨xu, hxu, ?_⟩, pos _ ⟨xn, hxn, ?_⟩⟩⟩
    · rw [exu]; simp; omega
    · simp; omega
    · have := hb x hx; simp; omega
    · rw [exu]; simp; omega
    · rw [exu]; simp; omega
    · rw [exn]; simp; omega
  have herr : askErr [moreForm name n] (moreForm name m) u = 0 := by
    unfold askErr
    rw [if_pos hchk, if_neg]
    by_cases h : m ≤ n
    · have := key.1 h; omega
    · by_cases h' : u < m
      · have := key.2.1 h'; omega
      · have := key.2.2 (by omega) (by omega); omega
  refine ⟨herr, ?_⟩
  unfold askV
  rw [if_pos herr]
  unfold answer
  by_cases h : m ≤ n
  · have := key.1 h
    rw [if_pos (by omega), if_pos h]
  · by_cases h' : u < m
    · have := key.2.1 h'
      rw [if_neg (by omega), if_pos (by omega), if_neg h, if_pos h']
    · have := key.2.2 (by omega) (by omega)
      rw [if_neg (by omega), if_neg (by omega), if_neg h, if_neg h']
end Venn
