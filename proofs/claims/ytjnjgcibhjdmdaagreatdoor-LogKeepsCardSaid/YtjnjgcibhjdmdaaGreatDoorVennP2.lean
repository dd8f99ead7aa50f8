/-
  THE PLAIN SIDE of packages span, worlds, ask, core: worlds of counts are right; what the rounds over all counts add up.
  THE PLAIN SIDE of packages core and ask.
  THE PLAIN SIDE, THING BY THING: a term's set has a thing just if the term lies in the thing's field; sums over fields are sums over things.
  THE PLAIN SIDE of the reference's In and Value: a row of signs, read from its end.
  THE PLAIN SIDE: WHERE NAMES CROSS IS ALL THAT COUNTS: a formula's truth hangs on the fields alone; the world of counts has these counts; a set for a name goes over from world to world.
  THE PLAIN SIDE of package core: whether some are open, and the core.
  THE PLAIN SIDE of SomeEach and FormTwice.
  THE PLAIN SIDE of SpanReached: between these, and both are reached.
-/
import Derived.Test.YtjnjgcibhjdmdaaGreatDoorVennP1
namespace Venn
/-! ### the world of counts is right -/
theorem orBit_right0 : ∀ (T : Fin 6) (s : Fin 64) (k : Fin 8), setChk (T.val : Nat) (s.val : Nat) = 0 → setChk ((T.val + 1 : Nat) : Int) (orBit (s.val : Nat) k.val 0 (T.val : Nat)) = 0 := by decide +kernel
theorem orBit_right1 : ∀ (T : Fin 6) (s : Fin 64) (k : Fin 8), setChk (T.val : Nat) (s.val : Nat) = 0 → setChk ((T.val + 1 : Nat) : Int) (orBit (s.val : Nat) k.val 1 (T.val : Nat)) = 0 := by decide +kernel
theorem orBit_right2 : ∀ (T : Fin 6) (s : Fin 64) (k : Fin 8), setChk (T.val : Nat) (s.val : Nat) = 0 → setChk ((T.val + 1 : Nat) : Int) (orBit (s.val : Nat) k.val 2 (T.val : Nat)) = 0 := by decide +kernel
theorem addThing_right {W : World} {k : Nat} (hk : k < 8) (h : worldChk W = 0) (ht : W.things ≤ 5) : worldChk (addThing k W) = 0 := by
  obtain ⟨h0, ha, hb, hc⟩ := worldChk_iff.1 h
  simp only [things, Bool.and_eq_true, decide_eq_true_eq] at h0
  obtain ⟨T, e⟩ := Int.eq_ofNat_of_zero_le h0.1
  obtain ⟨th, a, b, c⟩ := W
  simp only at e ha hb hc ht h0
  subst e
  obtain ⟨_, A, _, rfl⟩ := small_of ha
  obtain ⟨_, B, _, rfl⟩ := small_of hb
  obtain ⟨_, C, _, rfl⟩ := small_of hc
  have e1 : ((T : Int) + 1) = ((T + 1 : Nat) : Int) := by omega
  refine worldChk_iff.2 ⟨?_, ?_, ?_, ?_⟩
  · rw [things, Bool.and_eq_true, decide_eq_true_eq, decide_eq_true_eq]
    show 0 ≤ (T : Int) + 1 ∧ (T : Int) + 1 ≤ 6
    have ht' : (T : Int) ≤ 5 := ht
    omega
  · simp only [addThing]; rw [e1]; exact orBit_right0 ⟨T, by omega⟩ A ⟨k, hk⟩ ha
  · simp only [addThing]; rw [e1]; exact orBit_right1 ⟨T, by omega⟩ B ⟨k, hk⟩ hb
  · simp only [addThing]; rw [e1]; exact orBit_right2 ⟨T, by omega⟩ C ⟨k, hk⟩ hc
theorem addMany_right {k : Nat} (hk : k < 8) : ∀ (n : Nat) (W : World), worldChk W = 0 → W.things + n ≤ 6 → worldChk (addMany k n W) = 0 ∧ (addMany k n W).things = W.things + n := by
  intro n
  induction n with
  | zero => intro W h _; exact ⟨h, by simp [addMany]⟩
  | succ n ih =>
    intro W h hn
    have := ih (addThing k W) (addThing_right hk h (by omega)) (by simp only [addThing]; omega)
    refine ⟨this.1, ?_⟩
    rw [addMany, this.2]
    simp only [addThing]; omega
theorem madeGo_right : ∀ (l : List Int) (k : Nat) (W : World), k + l.length ≤ 8 → (∀ x ∈ l, 0 ≤ x) → worldChk W = 0 → W.things + l.sum ≤ 6 → worldChk (madeGo k l W) = 0 ∧ (madeGo k l W).things = W.things + l.sum := by
  intro l
  induction l with
  | nil => intro k W _ _ h _; exact ⟨h, by simp [madeGo]⟩
  | cons n l ih =>
    intro k W hk hp h hs
    have h0 := hp n (by simp)
    have hs0 := sum_nonneg l fun z hz => hp z (List.mem_cons_of_mem _ hz)
    simp only [List.length_cons] at hk
    rw [List.sum_cons] at hs
    have h1 := addMany_right (k := k) (by omega) n.toNat W h (by omega)
    have h2 := ih (k + 1) (addMany k n.toNat W) (by omega) (fun z hz => hp z (List.mem_cons_of_mem _ hz)) h1.1 (by rw [h1.2]; omega)
    refine ⟨h2.1, ?_⟩
    rw [madeGo, h2.2, h1.2, List.sum_cons]
    omega
theorem made_right {l : List Int} (h8 : l.length = 8) (hp : ∀ x ∈ l, 0 ≤ x) (hs : l.sum ≤ 6) : worldChk (made l) = 0 ∧ (made l).things = l.sum := by
  have := madeGo_right l 0 ⟨0, 0, 0, 0⟩ (by omega) hp (by decide) (by simpa using hs)
  rw [show ((⟨0, 0, 0, 0⟩ : World).things : Int) = 0 from rfl, Int.zero_add] at this
  exact this
theorem made_allC {u : Int} (h : things u = true) {x : List Int} (hx : x ∈ allC u) : worldChk (made x) = 0 ∧ (made x).things = u := by
  obtain ⟨h8, hp, hs⟩ := (mem_allC h x).1 hx
  simp only [things, Bool.and_eq_true, decide_eq_true_eq] at h
  have := made_right h8 hp (by omega)
  rwa [hs] at this

/-! ### span -/
/-- So many things of a term, in the world of counts. -/
def cntT (t : List Int) (x : List Int) : Int := many (termSet t (made x))
def spanStep (f : Form) (t : List Int) (p : Int × Int) (x : List Int) : Int × Int := if formTrue f (made x) = true then (min p.1 (cntT t x), max p.2 (cntT t x)) else p
def spanGo (f : Form) (t : List Int) (u : Int) (l : List (List Int)) : Int × Int := l.foldl (spanStep f t) (u + 1, -1)
def spanChk (f : Form) (t : List Int) (u : Int) : Int :=
  if formChk f = 0 then (if termChk t = 0 then (if things u = true then (if (spanGo f t u (allC u)).2 < 0 then 5 else 0) else 1) else termChk t) else formChk f
def spanV (f : Form) (t : List Int) (u : Int) : Int × Int := if spanChk f t u = 0 then spanGo f t u (allC u) else (0, 0)
def exactChk (f : Form) (t : List Int) (u : Int) : Int := if spanChk f t u = 0 then (if (spanV f t u).1 = (spanV f t u).2 then 0 else 8) else spanChk f t u
def exactV (f : Form) (t : List Int) (u : Int) : Int := if exactChk f t u = 0 then (spanV f t u).1 else 0
theorem spanGo_snoc (f : Form) (t : List Int) (u : Int) (pre : List (List Int)) (x : List Int) : spanGo f t u (pre ++ [x]) = spanStep f t (spanGo f t u pre) x := by simp [spanGo]
theorem cntT_le (t x : List Int) : 0 ≤ cntT t x ∧ cntT t x ≤ 6 := many_le _
theorem spanStep_range (f : Form) (t : List Int) (p : Int × Int) (x : List Int) (h1 : -1 ≤ p.1 ∧ p.1 ≤ 7) (h2 : -1 ≤ p.2 ∧ p.2 ≤ 7) : (-1 ≤ (spanStep f t p x).1 ∧ (spanStep f t p x).1 ≤ 7) ∧ (-1 ≤ (spanStep f t p x).2 ∧ (spanStep f t p x).2 ≤ 7) := by
  have := cntT_le t x
  unfold spanStep
  split
  · constructor
    · show -1 ≤ min p.1 (cntT t x) ∧ min p.1 (cntT t x) ≤ 7; omega
    · show -1 ≤ max p.2 (cntT t x) ∧ max p.2 (cntT t x) ≤ 7; omega
  · exact ⟨h1, h2⟩
theorem spanGo_range (f : Form) (t : List Int) (u : Int) (hu : -2 ≤ u ∧ u ≤ 6) (l : List (List Int)) : (-1 ≤ (spanGo f t u l).1 ∧ (spanGo f t u l).1 ≤ 7) ∧ (-1 ≤ (spanGo f t u l).2 ∧ (spanGo f t u l).2 ≤ 7) := by
  unfold spanGo
  have : ∀ (l : List (List Int)) (p : Int × Int), (-1 ≤ p.1 ∧ p.1 ≤ 7) → (-1 ≤ p.2 ∧ p.2 ≤ 7) → (-1 ≤ (l.foldl (spanStep f t) p).1 ∧ (l.foldl (spanStep f t) p).1 ≤ 7) ∧ (-1 ≤ (l.foldl (spanStep f t) p).2 ∧ (l.foldl (spanStep f t) p).2 ≤ 7) := by
    intro l
    induction l with
    | nil => intro p h1 h2; exact ⟨h1, h2⟩
    | cons x l ih =>
      intro p h1 h2
      have := spanStep_range f t p x h1 h2
      exact ih _ this.1 this.2
  exact this l _ (by simp only []; omega) (by simp only []; omega)
/-- The formula that says that of all there are none or more. -/
abbrev allForm : Form := ⟨[⟨3, [4], [], 0⟩], [0]⟩
def spanLit (t : List Int) (lo hi : Nat → Int) : Bool := (List.range 7).all fun u => spanGo allForm t (u : Nat) (allG 7 u) == (lo u, hi u)
set_option maxRecDepth 1000000 in
theorem span_lit4 : spanLit [4] (fun u => (u : Nat)) (fun u => (u : Nat)) = true := by decide +kernel
set_option maxRecDepth 1000000 in
theorem span_lit3 : spanLit [3] (fun _ => 0) (fun _ => 0) = true := by decide +kernel
set_option maxRecDepth 1000000 in
theorem span_lit0 : spanLit [0] (fun _ => 0) (fun u => (u : Nat)) = true := by decide +kernel
set_option maxRecDepth 1000000 in
theorem span_lit1 : spanLit [1] (fun _ => 0) (fun u => (u : Nat)) = true := by decide +kernel
set_option maxRecDepth 1000000 in
theorem span_lit2 : spanLit [2] (fun _ => 0) (fun u => (u : Nat)) = true := by decide +kernel
theorem span_lit {t : List Int} {lo hi : Nat → Int} (h : spanLit t lo hi = true) {u : Int} (hu : 0 ≤ u ∧ u ≤ 6) : spanGo allForm t u (allC u) = (lo u.toNat, hi u.toNat) := by
  unfold spanLit at h
  have := List.all_eq_true.1 h u.toNat (List.mem_range.2 (by omega))
  rw [show ((u.toNat : Nat) : Int) = u by omega] at this
  exact eq_of_beq this

/-! ### worlds -/
/-- So many more of a field are put, one behind the other. -/
def waysIn : Nat → Nat → Int → Int → Int × Int
  | 0, _, o, th => (o, th)
  | r + 1, i, o, th => waysIn r (i + 1) ((o * (th + 1)) / (i : Int)) (th + 1)
def ways (l : List Int) : Int := (l.foldl (fun p k => waysIn k.toNat 1 p.1 p.2) (1, 0)).1
def worldsGo (f : Form) (l : List (List Int)) : Int := l.foldl (fun s x => if formTrue f (made x) = true then s + ways x else s) 0
def worldsChk (f : Form) (u : Int) : Int := if formChk f = 0 then (if things u = true then 0 else 1) else formChk f
def worldsV (f : Form) (u : Int) : Int := if worldsChk f u = 0 then worldsGo f (allC u) else 0
theorem worldsGo_snoc (f : Form) (pre : List (List Int)) (x : List Int) : worldsGo f (pre ++ [x]) = if formTrue f (made x) = true then worldsGo f pre + ways x else worldsGo f pre := by simp [worldsGo]
set_option maxRecDepth 1000000 in
theorem half_lits : ∀ (u : Fin 7) (name : Fin 3), worldsGo ⟨[⟨4, [((name.val : Nat) : Int)], [], 0⟩], [0]⟩ (allG 7 u.val) = ((2 ^ (2 * u.val) : Nat) : Int) := by decide +kernel
set_option maxRecDepth 1000000 in
theorem ways_range : ∀ (u : Fin 7), ∀ x ∈ allG 7 u.val, 0 ≤ ways x ∧ ways x ≤ 720 := by decide +kernel
end Venn

namespace Venn
def formsChk : List Form → Int
  | [] => 0
  | f :: r => if formChk f = 0 then formsChk r else formChk f
def coreChk (l : List Form) (u : Int) : Int :=
  if l.length = 0 then 5 else if 6 < l.length then 4 else if formsChk l = 0 then (if things u = true then 0 else 1) else formsChk l
def formsTrue (l : List Form) (w : World) : Bool := l.all fun f => formTrue f w
def yesOf (l : List Form) (f : Form) (xs : List (List Int)) : Nat := (xs.filter fun x => formsTrue l (made x) && formTrue f (made x)).length
def noOf (l : List Form) (f : Form) (xs : List (List Int)) : Nat := (xs.filter fun x => formsTrue l (made x) && !formTrue f (made x)).length
def answer (y n : Int) : Int := if n = 0 then 1 else if y = 0 then -1 else 0
def askChk (l : List Form) (f : Form) (u : Int) : Int := if coreChk l u = 0 then formChk f else coreChk l u
def askErr (l : List Form) (f : Form) (u : Int) : Int := if askChk l f u = 0 then (if yesOf l f (allC u) + noOf l f (allC u) = 0 then 6 else 0) else askChk l f u
def askV (l : List Form) (f : Form) (u : Int) : Int := if askErr l f u = 0 then answer (yesOf l f (allC u)) (noOf l f (allC u)) else 0
theorem formsChk_mem : ∀ {l : List Form}, formsChk l = 0 → ∀ f ∈ l, formChk f = 0 := by
  intro l
  induction l with
  | nil => intro _ f h; cases h
  | cons g l ih =>
    intro h f hf
    unfold formsChk at h
    split at h
    · rcases List.mem_cons.1 hf with rfl | hf
      · assumption
      · exact ih h f hf
    · contradiction
theorem coreChk_parts {l : List Form} {u : Int} (h : coreChk l u = 0) : l.length ≠ 0 ∧ l.length ≤ 6 ∧ formsChk l = 0 ∧ things u = true := by
  unfold coreChk at h
  split at h
  · cases h
  split at h
  · cases h
  split at h
  · split at h
    · exact ⟨by assumption, by omega, by assumption, by assumption⟩
    · cases h
  · contradiction
theorem yes_snoc (l : List Form) (f : Form) (pre : List (List Int)) (x : List Int) : yesOf l f (pre ++ [x]) = yesOf l f pre + (if formsTrue l (made x) = true then (if formTrue f (made x) = true then 1 else 0) else 0) := by
  unfold yesOf
  rw [List.filter_append, List.length_append, List.filter_cons, List.filter_nil]
  cases formsTrue l (made x) <;> cases formTrue f (made x) <;> rfl
theorem no_snoc (l : List Form) (f : Form) (pre : List (List Int)) (x : List Int) : noOf l f (pre ++ [x]) = noOf l f pre + (if formsTrue l (made x) = true then (if formTrue f (made x) = true then 0 else 1) else 0) := by
  unfold noOf
  rw [List.filter_append, List.length_append, List.filter_cons, List.filter_nil]
  cases formsTrue l (made x) <;> cases formTrue f (made x) <;> rfl
theorem yesno_le (l : List Form) (f : Form) : ∀ (xs : List (List Int)), yesOf l f xs + noOf l f xs ≤ xs.length := by
  intro xs
  induction xs with
  | nil => simp [yesOf, noOf]
  | cons x xs ih =>
    unfold yesOf noOf at *
    simp only [List.filter_cons, List.length_cons]
    cases formsTrue l (made x) <;> cases formTrue f (made x) <;> simp <;> omega

/-! ### who has more has fewer too -/
abbrev moreForm (name n : Int) : Form := ⟨[⟨3, [name], [], n⟩], [0]⟩
def wit (u c : Int) (name : Nat) : List Int := if name = 0 then [u - c, c, 0, 0, 0, 0, 0, 0] else if name = 1 then [u - c, 0, c, 0, 0, 0, 0, 0] else [u - c, 0, 0, 0, c, 0, 0, 0]
theorem wit_all : ∀ (u c : Fin 7) (name : Fin 3), c.val ≤ u.val → many ((made (wit (u.val : Nat) (c.val : Nat) name.val)).has (name.val : Nat)) = ((c.val : Nat) : Int) ∧ (wit (u.val : Nat) (c.val : Nat) name.val).length = 8 ∧
    (∀ y ∈ wit (u.val : Nat) (c.val : Nat) name.val, (0 : Int) ≤ y) ∧ (wit (u.val : Nat) (c.val : Nat) name.val).sum = ((u.val : Nat) : Int) := by decide +kernel
theorem many_upto : ∀ (U : Fin 7) (S : Fin 64), setChk ((U.val : Nat) : Int) ((S.val : Nat) : Int) = 0 → many ((S.val : Nat) : Int) ≤ ((U.val : Nat) : Int) := by decide +kernel
theorem many_things {u s : Int} (h : setChk u s = 0) : many s ≤ u := by
  obtain ⟨U, S, rfl, rfl⟩ := small_of h
  exact many_upto U S h
theorem more_true (name n : Int) (hn : 0 ≤ name ∧ name ≤ 2) (w : World) : formTrue (moreForm name n) w = decide (n ≤ many (w.has name)) := by
  rcases (by omega : name = 0 ∨ name = 1 ∨ name = 2) with rfl | rfl | rfl
  all_goals rfl
theorem more_chk (name n : Int) (hn : 0 ≤ name ∧ name ≤ 2) (h : 0 ≤ n ∧ n ≤ 20) : formChk (moreForm name n) = 0 := by
  have h1 : nChk 3 n = 0 := by unfold nChk; rw [if_neg (by omega)]
  have h2 : atomChk ⟨3, [name], [], n⟩ = 0 := by
    have ht : termChk [name] = 0 := by
      rcases (by omega : name = 0 ∨ name = 1 ∨ name = 2) with rfl | rfl | rfl
      all_goals decide
    simp [atomChk, ht, hasT, h1]
  simp [formChk, atomsChk, h2, codeChk, codeOk, fSign, fTakes, fShape]
theorem ask_more (name n m u : Int) (hname : 0 ≤ name ∧ name ≤ 2) (hn : 0 ≤ n ∧ n ≤ 20) (hm : 0 ≤ m ∧ m ≤ 20) (hu : 0 ≤ u ∧ u ≤ 6) (hnu : n ≤ u) :
    askErr [moreForm name n] (moreForm name m) u = 0 ∧ askV [moreForm name n] (moreForm name m) u = if m ≤ n then 1 else if u < m then -1 else 0 := by
  have hth : things u = true := by simp [things]; omega
  have hchk : askChk [moreForm name n] (moreForm name m) u = 0 := by
    have hc : coreChk [moreForm name n] u = 0 := by
      unfold coreChk
      rw [if_neg (by simp), if_neg (by simp), if_pos, if_pos hth]
      simp [formsChk, more_chk name n hname hn]
    unfold askChk
    rw [if_pos hc]
    exact more_chk name m hname hm
  have tr : ∀ (k : Int) (x : List Int), formTrue (moreForm name k) (made x) = decide (k ≤ many ((made x).has name)) := fun k x => more_true name k hname _
  have hb : ∀ x ∈ allC u, many ((made x).has name) ≤ u := fun x hx => by
    obtain ⟨h1, h2⟩ := made_allC hth hx
    have := many_things (has_right h1 name)
    omega
  have hw : ∀ c : Int, 0 ≤ c → c ≤ u → ∃ x ∈ allC u, many ((made x).has name) = c := fun c hc hcu => by
    have := wit_all ⟨u.toNat, by omega⟩ ⟨c.toNat, by omega⟩ ⟨name.toNat, by omega⟩ (by simp only []; omega)
    simp only [show ((u.toNat : Nat) : Int) = u by omega, show ((c.toNat : Nat) : Int) = c by omega, show ((name.toNat : Nat) : Int) = name by omega] at this
    exact ⟨_, (mem_allC hth _).2 this.2, this.1⟩
  have pos : ∀ (p : List Int → Bool), (∃ x ∈ allC u, p x = true) → 0 < ((allC u).filter p).length := fun p ⟨x, hx, hp⟩ => List.length_pos_of_mem (List.mem_filter.2 ⟨hx, hp⟩)
  have zero : ∀ (p : List Int → Bool), (∀ x ∈ allC u, p x = false) → ((allC u).filter p).length = 0 := fun p h => by
    rw [List.length_eq_zero_iff, List.filter_eq_nil_iff]
    intro x hx; rw [h x hx]; decide
  have py : ∀ x, (formsTrue [moreForm name n] (made x) && formTrue (moreForm name m) (made x)) = (decide (n ≤ many ((made x).has name)) && decide (m ≤ many ((made x).has name))) := fun x => by
    simp only [formsTrue, List.all_cons, List.all_nil, Bool.and_true, tr]
  have pn : ∀ x, (formsTrue [moreForm name n] (made x) && !formTrue (moreForm name m) (made x)) = (decide (n ≤ many ((made x).has name)) && !decide (m ≤ many ((made x).has name))) := fun x => by
    simp only [formsTrue, List.all_cons, List.all_nil, Bool.and_true, tr]
  obtain ⟨xu, hxu, exu⟩ := hw u (by omega) (by omega)
  obtain ⟨xn, hxn, exn⟩ := hw n (by omega) hnu
  have hY : yesOf [moreForm name n] (moreForm name m) (allC u) = ((allC u).filter fun x => decide (n ≤ many ((made x).has name)) && decide (m ≤ many ((made x).has name))).length := by
    unfold yesOf; simp only [py]
  have hN : noOf [moreForm name n] (moreForm name m) (allC u) = ((allC u).filter fun x => decide (n ≤ many ((made x).has name)) && !decide (m ≤ many ((made x).has name))).length := by
    unfold noOf; simp only [pn]
  have key : (m ≤ n → 0 < yesOf [moreForm name n] (moreForm name m) (allC u) ∧ noOf [moreForm name n] (moreForm name m) (allC u) = 0) ∧
      (u < m → yesOf [moreForm name n] (moreForm name m) (allC u) = 0 ∧ 0 < noOf [moreForm name n] (moreForm name m) (allC u)) ∧
      (n < m → m ≤ u → 0 < yesOf [moreForm name n] (moreForm name m) (allC u) ∧ 0 < noOf [moreForm name n] (moreForm name m) (allC u)) := by
    rw [hY, hN]
    refine ⟨fun h => ⟨pos _ ⟨xu, hxu, ?_⟩, zero _ fun x hx => ?_⟩, fun h => ⟨zero _ fun x hx => ?_, pos _ ⟨xu, hxu, ?_⟩⟩, fun h h' => ⟨pos _ ⟨xu, hxu, ?_⟩, pos _ ⟨xn, hxn, ?_⟩⟩⟩
    · rw [exu]; simp; omega
    · simp; omega
    · have := hb x hx; simp; omega
    · rw [exu]; simp; omega
    · rw [exu]; simp; omega
    · rw [exn]; simp; omega
  have herr : askErr [moreForm name n] (moreForm name m) u = 0 := by
    unfold askErr
    rw [if_pos hchk, if_neg]
    by_cases h : m ≤ n
    · have := key.1 h; omega
    · by_cases h' : u < m
      · have := key.2.1 h'; omega
      · have := key.2.2 (by omega) (by omega); omega
  refine ⟨herr, ?_⟩
  unfold askV
  rw [if_pos herr]
  unfold answer
  by_cases h : m ≤ n
  · have := key.1 h
    rw [if_pos (by omega), if_pos h]
  · by_cases h' : u < m
    · have := key.2.1 h'
      rw [if_neg (by omega), if_pos (by omega), if_neg h, if_pos h']
    · have := key.2.2 (by omega) (by omega)
      rw [if_neg (by omega), if_neg (by omega), if_neg h, if_neg h']
end Venn

namespace Venn
/-! ### sums -/
def sumTo : Nat → (Nat → Int) → Int
  | 0, _ => 0
  | n + 1, f => sumTo n f + f n
theorem sumTo_congr {f g : Nat → Int} : ∀ n, (∀ i, i < n → f i = g i) → sumTo n f = sumTo n g := by
  intro n
  induction n with
  | zero => intro _; rfl
  | succ n ih => intro h; rw [sumTo, sumTo, ih fun i hi => h i (by omega), h n (by omega)]
theorem sumTo_add (f g : Nat → Int) : ∀ n, sumTo n (fun i => f i + g i) = sumTo n f + sumTo n g := by
  intro n
  induction n with
  | zero => rfl
  | succ n ih => simp only [sumTo, ih]; omega
theorem sumTo_neg (f : Nat → Int) : ∀ n, sumTo n (fun i => -f i) = -sumTo n f := by
  intro n
  induction n with
  | zero => rfl
  | succ n ih => simp only [sumTo, ih]; omega
theorem sumTo_sub (f g : Nat → Int) : ∀ n, sumTo n (fun i => f i - g i) = sumTo n f - sumTo n g := by
  intro n
  induction n with
  | zero => rfl
  | succ n ih => simp only [sumTo, ih]; omega
theorem sumTo_nonneg {f : Nat → Int} : ∀ n, (∀ i, i < n → 0 ≤ f i) → 0 ≤ sumTo n f := by
  intro n
  induction n with
  | zero => intro _; exact Int.le_refl 0
  | succ n ih => intro h; have := ih fun i hi => h i (by omega); have := h n (by omega); simp only [sumTo]; omega
theorem sumTo_zero {f : Nat → Int} : ∀ n, (∀ i, i < n → 0 ≤ f i) → sumTo n f ≤ 0 → ∀ i, i < n → f i = 0 := by
  intro n
  induction n with
  | zero => intro _ _ i hi; omega
  | succ n ih =>
    intro h hs i hi
    have h1 := sumTo_nonneg n fun i hi => h i (by omega)
    have h2 := h n (by omega)
    simp only [sumTo] at hs
    rcases Nat.lt_succ_iff_lt_or_eq.1 hi with h3 | rfl
    · exact ih (fun i hi => h i (by omega)) (by omega) i h3
    · omega
theorem sumTo_const0 : ∀ n, sumTo n (fun _ => 0) = 0 := by
  intro n
  induction n with
  | zero => rfl
  | succ n ih => rw [sumTo, ih]; rfl
def toI (b : Bool) : Int := if b = true then 1 else 0
theorem toI_01 (b : Bool) : toI b = 0 ∨ toI b = 1 := by cases b <;> simp [toI]

/-! ### sets -/
theorem many_sum : ∀ (U : Fin 7) (S : Fin 64), setChk ((U.val : Nat) : Int) ((S.val : Nat) : Int) = 0 → many ((S.val : Nat) : Int) = sumTo U.val (fun i => toI (bit ((S.val : Nat) : Int) i)) := by decide +kernel
theorem many_sumTo {u s : Int} (h : setChk u s = 0) : many s = sumTo u.toNat (fun i => toI (bit s i)) := by
  obtain ⟨U, S, rfl, rfl⟩ := small_of h
  exact many_sum U S h
theorem bit_high {u s : Int} (h : setChk u s = 0) {i : Nat} (hi : u.toNat ≤ i) : bit s i = false := by
  obtain ⟨_, h0, h1⟩ := setChk_iff.1 h
  exact Nat.testBit_lt_two_pow (Nat.lt_of_lt_of_le h1 (Nat.pow_le_pow_right (by decide) hi))
theorem bit_ext {u a b : Int} (ha : setChk u a = 0) (hb : setChk u b = 0) (h : ∀ i, i < u.toNat → bit a i = bit b i) : a = b := by
  obtain ⟨_, a0, a1⟩ := setChk_iff.1 ha
  obtain ⟨_, b0, b1⟩ := setChk_iff.1 hb
  have : a.toNat = b.toNat := Nat.eq_of_testBit_eq fun i => by
    rcases Nat.lt_or_ge i u.toNat with hi | hi
    · exact h i hi
    · exact (bit_high ha hi).trans (bit_high hb hi).symm
  omega
def opB (s : Int) (x y : Bool) : Bool := if s = 5 then x || y else if s = 6 then x && y else x && !y
theorem bit_setOf (s u a b : Int) (i : Nat) (h8 : s ≠ 8) (h : 5 ≤ s ∧ s ≤ 8) : bit (setOf s u a b) i = opB s (bit a i) (bit b i) := by
  rcases (by omega : s = 5 ∨ s = 6 ∨ s = 7) with rfl | rfl | rfl
  · simp [setOf, bit, opB]
  · simp [setOf, bit, opB]
  · simp only [setOf, bit, opB, andNot]
    simp
    cases a.toNat.testBit i <;> cases b.toNat.testBit i <;> rfl
theorem bit_not (u a b : Int) {i : Nat} (hi : i < u.toNat) : bit (setOf 8 u a b) i = !bit a i := by
  have : (allS u).toNat = 2 ^ u.toNat - 1 := by unfold allS; omega
  simp only [setOf, bit, andNot]
  have hi' : (i : Int) < u := by omega
  simp [this, hi']

/-! ### a term, thing by thing -/
def evB (p : Int → Bool) (st : List Bool) (s : Int) : List Bool :=
  if s < 3 then p s :: st
  else if s = 3 then false :: st
  else if s = 4 then true :: st
  else if s = 8 then (match st with | x :: r => (!x) :: r | [] => [])
  else (match st with | y :: x :: r => opB s x y :: r | _ => st)
def evT (t : List Int) (p : Int → Bool) : Bool := (t.foldl (evB p) []).headD false
theorem setStep_bit (w : World) (st : List Int) (s : Int) (hs : 0 ≤ s ∧ s ≤ 8) (i : Nat) (hi : i < w.things.toNat) : (setStep w st s).map (fun x => bit x i) = evB (fun k => bit (w.has k) i) (st.map fun x => bit x i) s := by
  unfold setStep evB
  by_cases h3 : s < 3
  · rw [if_pos h3, if_pos h3]; rfl
  rw [if_neg h3, if_neg h3]
  by_cases h4 : s = 3
  · rw [if_pos h4, if_pos h4]; simp [bit]
  rw [if_neg h4, if_neg h4]
  by_cases h5 : s = 4
  · rw [if_pos h5, if_pos h5]
    have : (allS w.things).toNat = 2 ^ w.things.toNat - 1 := by unfold allS; omega
    simp [bit, this, hi]
  rw [if_neg h5, if_neg h5]
  by_cases h8 : s = 8
  · rw [if_pos h8, if_pos h8]
    match st with
    | [] => rfl
    | x :: r => simp [bit_not _ _ _ hi]
  rw [if_neg h8, if_neg h8]
  match st with
  | [] => rfl
  | [x] => rfl
  | y :: x :: r => simp [bit_setOf s w.things x y i h8 (by omega)]
theorem foldl_bit (w : World) (i : Nat) (hi : i < w.things.toNat) : ∀ (t st : List Int), (∀ x ∈ t, 0 ≤ x ∧ x ≤ 8) → (t.foldl (setStep w) st).map (fun x => bit x i) = t.foldl (evB fun k => bit (w.has k) i) (st.map fun x => bit x i) := by
  intro t
  induction t with
  | nil => intro st _; rfl
  | cons s t ih =>
    intro st h
    rw [List.foldl_cons, ih _ fun x hx => h x (List.mem_cons_of_mem _ hx), setStep_bit w st s (h s (by simp)) i hi, List.foldl_cons]
theorem bit_termSet {t : List Int} (ht : termChk t = 0) (w : World) {i : Nat} (hi : i < w.things.toNat) : bit (termSet t w) i = evT t (fun k => bit (w.has k) i) := by
  have h := foldl_bit w i hi t [] (termChk_parts ht).2.2.1
  unfold termSet evT
  rw [show ([] : List Bool) = ([] : List Int).map (fun x => bit x i) from rfl, ← h]
  cases t.foldl (setStep w) [] with
  | nil => simp [bit]
  | cons x r => rfl

/-! ### fields -/
def fieldIn (w : World) (i : Nat) : Nat := (if bit w.a i = true then 1 else 0) + (if bit w.b i = true then 2 else 0) + (if bit w.c i = true then 4 else 0)
theorem fieldIn_lt (w : World) (i : Nat) : fieldIn w i < 8 := by unfold fieldIn; split <;> split <;> split <;> omega
def fieldsAt (w : World) : Nat → Nat → Int
  | 0, _ => 0
  | n + 1, f => fieldsAt w n f + (if fieldIn w n = f then 1 else 0)
def fieldsOf (w : World) : List Int := [fieldsAt w w.things.toNat 0, fieldsAt w w.things.toNat 1, fieldsAt w w.things.toNat 2, fieldsAt w w.things.toNat 3, fieldsAt w w.things.toNat 4, fieldsAt w w.things.toNat 5, fieldsAt w w.things.toNat 6, fieldsAt w w.things.toNat 7]
theorem has_field (w : World) (i : Nat) (k : Int) : bit (w.has k) i = bit ((⟨1, ((fieldIn w i % 2 : Nat) : Int), ((fieldIn w i / 2 % 2 : Nat) : Int), ((fieldIn w i / 4 % 2 : Nat) : Int)⟩ : World).has k) 0 := by
  unfold World.has fieldIn
  cases ha : bit w.a i <;> cases hb : bit w.b i <;> cases hc : bit w.c i
  all_goals
    simp
    by_cases h0 : k = 0
    · simp only [h0, if_true]; first | rw [ha]; rfl | rw [ha]; decide
    · by_cases h1 : k = 1
      · simp only [h1]; simp; first | rw [hb]; rfl | rw [hb]; decide
      · simp only [h0, h1, if_false]; first | rw [hc]; rfl | rw [hc]; decide
theorem lies_field {t : List Int} (ht : termChk t = 0) (w : World) {i : Nat} (hi : i < w.things.toNat) : lies t (fieldIn w i) = toI (bit (termSet t w) i) := by
  have h1 := bit_termSet ht w hi
  have h2 : bit (lies t (fieldIn w i)) 0 = evT t (fun k => bit (w.has k) i) := by
    unfold lies
    rw [bit_termSet ht _ (show 0 < ((1 : Int)).toNat by decide)]
    congr 1
    funext k
    exact (has_field w i k).symm
  rw [h1, ← h2]
  rcases (by have := lies_01 t (fieldIn w i); omega : lies t (fieldIn w i) = 0 ∨ lies t (fieldIn w i) = 1) with h | h <;> rw [h] <;> decide
theorem dot_field (T : Nat → Int) (w : World) : ∀ n, T 0 * fieldsAt w n 0 + T 1 * fieldsAt w n 1 + T 2 * fieldsAt w n 2 + T 3 * fieldsAt w n 3 + T 4 * fieldsAt w n 4 + T 5 * fieldsAt w n 5 + T 6 * fieldsAt w n 6 + T 7 * fieldsAt w n 7 = sumTo n (fun i => T (fieldIn w i)) := by
  intro n
  induction n with
  | zero => simp [fieldsAt, sumTo]
  | succ n ih =>
    simp only [sumTo, ← ih, fieldsAt]
    have := fieldIn_lt w n
    generalize fieldIn w n = f at this
    simp only [Int.mul_add]
    rcases (by omega : f = 0 ∨ f = 1 ∨ f = 2 ∨ f = 3 ∨ f = 4 ∨ f = 5 ∨ f = 6 ∨ f = 7) with rfl | rfl | rfl | rfl | rfl | rfl | rfl | rfl
    all_goals
      simp
      omega
theorem fieldsAt_range (w : World) : ∀ n f, 0 ≤ fieldsAt w n f ∧ fieldsAt w n f ≤ n := by
  intro n f
  induction n with
  | zero => simp [fieldsAt]
  | succ n ih => simp only [fieldsAt]; split <;> omega
theorem fieldsAt_sum (w : World) (n : Nat) : fieldsAt w n 0 + fieldsAt w n 1 + fieldsAt w n 2 + fieldsAt w n 3 + fieldsAt w n 4 + fieldsAt w n 5 + fieldsAt w n 6 + fieldsAt w n 7 = n := by
  have h := dot_field (fun _ => 1) w n
  simp only [Int.one_mul] at h
  rw [h]
  clear h
  induction n with
  | zero => rfl
  | succ n ih => rw [sumTo, ih]; omega
theorem fieldsOf_chk {w : World} (hw : worldChk w = 0) : countsChk (fieldsOf w) = 0 := by
  obtain ⟨h0, _⟩ := worldChk_iff.1 hw
  simp only [things, Bool.and_eq_true, decide_eq_true_eq] at h0
  have hs := fieldsAt_sum w w.things.toNat
  have hr := fieldsAt_range w w.things.toNat
  unfold countsChk
  rw [if_pos, if_neg]
  · simp only [fieldsOf, List.sum_cons, List.sum_nil]; omega
  · simp only [fieldsOf, List.all_cons, List.all_nil, Bool.and_true, Bool.and_eq_true, things, decide_eq_true_eq]
    have h := fun f => hr f
    refine ⟨⟨(h 0).1, ?_⟩, ⟨(h 1).1, ?_⟩, ⟨(h 2).1, ?_⟩, ⟨(h 3).1, ?_⟩, ⟨(h 4).1, ?_⟩, ⟨(h 5).1, ?_⟩, ⟨(h 6).1, ?_⟩, ⟨(h 7).1, ?_⟩⟩
    all_goals (refine Int.le_trans (h _).2 ?_; omega)

/-! ### a row says what the atom says -/
theorem bitI_mask (t : List Int) (f : Nat) (hf : f < 8) : bitI (mask t) f = lies t f := by
  have h := fun g => lies_01 t g
  have e : mask t = lies t 0 + lies t 1 * 2 + lies t 2 * 4 + lies t 3 * 8 + lies t 4 * 16 + lies t 5 * 32 + lies t 6 * 64 + lies t 7 * 128 := by
    simp only [mask, maskTo]; simp
  have h0 := h 0; have h1 := h 1; have h2 := h 2; have h3 := h 3; have h4 := h 4; have h5 := h 5; have h6 := h 6; have h7 := h 7
  unfold bitI
  rw [e]
  rcases (by omega : f = 0 ∨ f = 1 ∨ f = 2 ∨ f = 3 ∨ f = 4 ∨ f = 5 ∨ f = 6 ∨ f = 7) with rfl | rfl | rfl | rfl | rfl | rfl | rfl | rfl
  all_goals
    simp
    omega
def tLies (a : Atom) (f : Nat) : Int := if a.t = [] then 0 else lies a.t f
theorem bitI_tMask (a : Atom) (f : Nat) (hf : f < 8) : bitI (tMask a) f = tLies a f := by
  unfold tMask tLies
  split
  · simp [bitI]
  · exact bitI_mask _ f hf
theorem rowT_lies (a : Atom) (f : Nat) (hf : f < 8) : rowT a true f = timesV a.what (lies a.s f) (tLies a f) := by
  rw [rowT, if_pos rfl, timesAt, bitI_mask _ f hf, bitI_tMask _ f hf]
def tSet (a : Atom) (w : World) : Int := if a.t = [] then 0 else termSet a.t w
/-- The row's sum, thing by thing. -/
theorem row_sum {a : Atom} (ha : atomChk a = 0) (w : World) : rowT a true 0 * fieldsAt w w.things.toNat 0 + rowT a true 1 * fieldsAt w w.things.toNat 1 + rowT a true 2 * fieldsAt w w.things.toNat 2 + rowT a true 3 * fieldsAt w w.things.toNat 3 + rowT a true 4 * fieldsAt w w.things.toNat 4 + rowT a true 5 * fieldsAt w w.things.toNat 5 + rowT a true 6 * fieldsAt w w.things.toNat 6 + rowT a true 7 * fieldsAt w w.things.toNat 7
    = sumTo w.things.toNat (fun i => timesV a.what (toI (bit (termSet a.s w) i)) (toI (bit (tSet a w) i))) := by
  rw [dot_field (rowT a true) w]
  obtain ⟨h1, h5, hs, ht, ht0, _⟩ := atomChk_parts ha
  refine sumTo_congr _ fun i hi => ?_
  rw [rowT_lies a _ (fieldIn_lt w i), lies_field hs w hi]
  congr 1
  unfold tLies tSet
  split
  · simp [bit, toI]
  · rename_i hne
    cases hb : hasT a.what
    · exact absurd (ht0 hb) hne
    · exact lies_field (ht hb) w hi
theorem row_atom {a : Atom} (ha : atomChk a = 0) {w : World} (hw : worldChk w = 0) : decide (sumTo w.things.toNat (fun i => timesV a.what (toI (bit (termSet a.s w) i)) (toI (bit (tSet a w) i))) ≤ rowM a true) = atomTrue a w := by
  obtain ⟨h1, h5, hs, ht, ht0, hn1, hn2, hn3⟩ := atomChk_parts ha
  have rs := termSet_right hw a.s
  have rt : hasT a.what = true → tSet a w = termSet a.t w := fun h => by
    unfold tSet
    rw [if_neg]
    intro e
    have := ht h
    rw [e] at this
    cases this
  rw [rowM, if_pos rfl]
  unfold atomTrue
  rcases (by omega : a.what = 1 ∨ a.what = 2 ∨ a.what = 3 ∨ a.what = 4 ∨ a.what = 5) with h | h | h | h | h
  · have rtt := termSet_right hw a.t
    rw [rt (by rw [h]; rfl)]
    have hn := hn3 (by omega)
    simp only [h, hn, if_true, if_neg (show ¬ (1 : Int) = 3 by decide)]
    have hnn : ∀ i, i < w.things.toNat → 0 ≤ timesV 1 (toI (bit (termSet a.s w) i)) (toI (bit (termSet a.t w) i)) := fun i _ => by
      rcases toI_01 (bit (termSet a.s w) i) with e | e <;> rcases toI_01 (bit (termSet a.t w) i) with e' | e' <;> rw [e, e'] <;> decide
    have ro : setChk w.things (setOf 7 w.things (termSet a.s w) (termSet a.t w)) = 0 := setOf_right rs rtt
    have e7 : setOf 7 w.things (termSet a.s w) (termSet a.t w) = ((andNot (termSet a.s w).toNat (termSet a.t w).toNat : Nat) : Int) := rfl
    rw [← e7]
    refine Bool.eq_iff_iff.2 ?_
    rw [decide_eq_true_eq, beq_iff_eq]
    constructor
    · intro hle
      refine bit_ext ro (setChk_zero (worldChk_iff.1 hw).1) fun i hi => ?_
      have := sumTo_zero _ hnn hle i hi
      rw [bit_setOf 7 _ _ _ i (by decide) (by decide), show bit 0 i = false by simp [bit]]
      revert this
      cases bit (termSet a.s w) i <;> cases bit (termSet a.t w) i <;> decide
    · intro e0
      have : ∀ i, i < w.things.toNat → timesV 1 (toI (bit (termSet a.s w) i)) (toI (bit (termSet a.t w) i)) = 0 := fun i hi => by
        have e1 : bit (setOf 7 w.things (termSet a.s w) (termSet a.t w)) i = false := by rw [e0]; simp [bit]
        rw [bit_setOf 7 _ _ _ i (by decide) (by decide)] at e1
        revert e1
        cases bit (termSet a.s w) i <;> cases bit (termSet a.t w) i <;> decide
      rw [sumTo_congr _ this, sumTo_const0]
      exact Int.le_refl 0
  · have rtt := termSet_right hw a.t
    rw [rt (by rw [h]; rfl)]
    have hn := hn3 (by omega)
    simp only [h, hn, if_true, if_neg (show ¬ (2 : Int) = 3 by decide), if_neg (show ¬ (2 : Int) = 1 by decide)]
    have hnn : ∀ i, i < w.things.toNat → 0 ≤ timesV 2 (toI (bit (termSet a.s w) i)) (toI (bit (termSet a.t w) i)) := fun i _ => by
      rcases toI_01 (bit (termSet a.s w) i) with e | e <;> rcases toI_01 (bit (termSet a.t w) i) with e' | e' <;> rw [e, e'] <;> decide
    refine Bool.eq_iff_iff.2 ?_
    rw [decide_eq_true_eq, beq_iff_eq]
    constructor
    · intro hle
      refine bit_ext rs rtt fun i hi => ?_
      have := sumTo_zero _ hnn hle i hi
      revert this
      cases bit (termSet a.s w) i <;> cases bit (termSet a.t w) i <;> decide
    · intro e0
      have : ∀ i, i < w.things.toNat → timesV 2 (toI (bit (termSet a.s w) i)) (toI (bit (termSet a.t w) i)) = 0 := fun i hi => by
        rw [e0]
        cases bit (termSet a.t w) i <;> decide
      rw [sumTo_congr _ this, sumTo_const0]
      exact Int.le_refl 0
  · simp only [h, if_true, if_neg (show ¬ (3 : Int) = 1 by decide), if_neg (show ¬ (3 : Int) = 2 by decide)]
    rw [many_sumTo rs]
    have e : sumTo w.things.toNat (fun i => timesV 3 (toI (bit (termSet a.s w) i)) (toI (bit (tSet a w) i))) = -sumTo w.things.toNat (fun i => toI (bit (termSet a.s w) i)) := by
      rw [← sumTo_neg]; rfl
    rw [e]
    exact decide_eq_decide.2 (by omega)
  · simp only [h, if_true, if_neg (show ¬ (4 : Int) = 1 by decide), if_neg (show ¬ (4 : Int) = 2 by decide), if_neg (show ¬ (4 : Int) = 3 by decide)]
    rw [many_sumTo rs]
    rfl
  · have rtt := termSet_right hw a.t
    rw [rt (by rw [h]; rfl)]
    simp only [h, if_neg (show ¬ (5 : Int) = 1 by decide), if_neg (show ¬ (5 : Int) = 2 by decide), if_neg (show ¬ (5 : Int) = 3 by decide), if_neg (show ¬ (5 : Int) = 4 by decide)]
    rw [many_sumTo rs, many_sumTo rtt]
    have e : sumTo w.things.toNat (fun i => timesV 5 (toI (bit (termSet a.s w) i)) (toI (bit (termSet a.t w) i))) = sumTo w.things.toNat (fun i => toI (bit (termSet a.s w) i)) - sumTo w.things.toNat (fun i => toI (bit (termSet a.t w) i)) := by
      rw [← sumTo_sub]; rfl
    rw [e]
    exact decide_eq_decide.2 (by omega)
/-- The row of an atom, as nine numbers. -/
def rowL (a : Atom) (h : Bool) : List Int := [rowT a h 0, rowT a h 1, rowT a h 2, rowT a h 3, rowT a h 4, rowT a h 5, rowT a h 6, rowT a h 7, rowM a h]
theorem row_says {a : Atom} (ha : atomChk a = 0) {w : World} (hw : worldChk w = 0) (h : Bool) : rowSo (rowL a h) (fieldsOf w) = (atomTrue a w == h) := by
  have e1 := row_sum ha w
  have e2 := row_atom ha hw
  rw [← e1] at e2
  cases h
  · rw [← e2]
    have eT : ∀ f, rowT a false f = -rowT a true f := fun f => by simp [rowT]
    have eM : rowM a false = -(rowM a true) - 1 := by simp [rowM]
    simp only [rowL, rowSo, fieldsOf, eT, eM, Int.neg_mul, beq_false, ← decide_not]
    exact decide_eq_decide.2 (by omega)
  · rw [← e2]
    simp only [rowL, rowSo, fieldsOf, beq_true]
end Venn

namespace Venn
/-- The stack of answers, where no sign lacks one. -/
def stepO (p : Int → Bool) (st : List Bool) (s : Int) : Option (List Bool) := if (st.length : Int) < takes s then none else some (evB p st s)
def evO (p : Int → Bool) : List Int → List Bool → Option (List Bool)
  | [], st => some st
  | s :: r, st => match stepO p st s with
    | none => none
    | some st' => evO p r st'
theorem evO_snoc (p : Int → Bool) (s : Int) : ∀ (t : List Int) (st : List Bool), evO p (t ++ [s]) st = (evO p t st).bind fun st' => stepO p st' s := by
  intro t
  induction t with
  | nil => intro st; simp only [List.nil_append, evO, Option.bind_some]; cases stepO p st s <;> rfl
  | cons x t ih =>
    intro st
    simp only [List.cons_append, evO]
    cases stepO p st x with
    | none => rfl
    | some st' => exact ih st'
theorem evB_length {p : Int → Bool} {st : List Bool} {s : Int} (hs : 0 ≤ s ∧ s ≤ 8) (h : ¬ (st.length : Int) < takes s) : ((evB p st s).length : Int) = st.length + (1 - takes s) := by
  unfold evB takes at *
  by_cases h3 : s < 3
  · rw [if_pos h3, if_neg (by omega), if_neg (by omega)]; simp
  rw [if_neg h3]
  by_cases h4 : s = 3
  · rw [if_pos h4, if_neg (by omega), if_neg (by omega)]; simp
  rw [if_neg h4]
  by_cases h5 : s = 4
  · rw [if_pos h5, if_neg (by omega), if_neg (by omega)]; simp
  rw [if_neg h5]
  by_cases h8 : s = 8
  · rw [if_pos h8, if_pos h8]
    rw [if_pos h8] at h
    match st, h with
    | [], h => simp at h
    | x :: r, _ => simp
  rw [if_neg h8, if_neg h8, if_pos (by omega)]
  rw [if_neg h8, if_pos (by omega)] at h
  match st, h with
  | [], h => simp at h
  | [x], h => simp at h
  | y :: x :: r, _ => simp; omega
theorem evO_shape (p : Int → Bool) : ∀ (t : List Int) (st : List Bool), (∀ x ∈ t, 0 ≤ x ∧ x ≤ 8) → shapeGo st.length t = 0 → evO p t st = some (t.foldl (evB p) st) ∧ (t.foldl (evB p) st).length = 1 := by
  intro t
  induction t with
  | nil =>
    intro st _ h
    simp only [shapeGo] at h
    split at h
    · exact ⟨rfl, by simp only [List.foldl_nil]; omega⟩
    · cases h
  | cons s t ih =>
    intro st hs h
    rw [shapeGo] at h
    split at h
    · cases h
    rename_i h1
    have hl := evB_length (p := p) (hs s (by simp)) h1
    have := ih (evB p st s) (fun x hx => hs x (List.mem_cons_of_mem _ hx)) (by rw [hl]; exact h)
    refine ⟨?_, this.2⟩
    simp only [evO, stepO, if_neg h1]
    exact this.1
theorem evO_term {t : List Int} (ht : termChk t = 0) (p : Int → Bool) : evO p t [] = some [evT t p] := by
  obtain ⟨h0, h12, hs, hg⟩ := termChk_parts ht
  obtain ⟨h1, h2⟩ := evO_shape p t [] hs hg
  rw [h1]
  unfold evT
  generalize t.foldl (evB p) [] = r at h2
  match r, h2 with
  | [x], _ => rfl
  | [], h => cases h
  | _ :: _ :: _, h => simp at h
/-- What the last sign of a row that is read so is. -/
theorem evO_last {p : Int → Bool} {t' : List Int} {s : Int} {x : Bool} {st : List Bool} (hs : 0 ≤ s ∧ s ≤ 8) (h : evO p (t' ++ [s]) [] = some (x :: st)) :
    (s < 3 ∧ x = p s ∧ evO p t' [] = some st) ∨ ((s = 3 ∨ s = 4) ∧ x = (s == 4) ∧ evO p t' [] = some st) ∨ (∃ b, s = 8 ∧ x = !b ∧ evO p t' [] = some (b :: st)) ∨
    (∃ a b, 5 ≤ s ∧ s ≤ 7 ∧ x = opB s a b ∧ evO p t' [] = some (b :: a :: st)) := by
  rw [evO_snoc] at h
  cases hv : evO p t' [] with
  | none => rw [hv] at h; cases h
  | some st' =>
    rw [hv] at h
    simp only [Option.bind_some, stepO] at h
    split at h
    · cases h
    rename_i h1
    simp only [Option.some.injEq, evB] at h
    unfold takes at h1
    by_cases h3 : s < 3
    · rw [if_pos h3] at h
      simp only [List.cons.injEq] at h
      exact .inl ⟨h3, h.1.symm, by rw [h.2]⟩
    rw [if_neg h3] at h
    by_cases h4 : s = 3
    · rw [if_pos h4] at h
      simp only [List.cons.injEq] at h
      exact .inr (.inl ⟨.inl h4, by rw [← h.1, h4]; rfl, by rw [h.2]⟩)
    rw [if_neg h4] at h
    by_cases h5 : s = 4
    · rw [if_pos h5] at h
      simp only [List.cons.injEq] at h
      exact .inr (.inl ⟨.inr h5, by rw [← h.1, h5]; rfl, by rw [h.2]⟩)
    rw [if_neg h5] at h
    by_cases h8 : s = 8
    · rw [if_pos h8] at h h1
      match st', h1 with
      | [], h1 => simp at h1
      | b :: r, _ =>
        simp only [List.cons.injEq] at h
        exact .inr (.inr (.inl ⟨b, h8, h.1.symm, by rw [h.2]⟩))
    rw [if_neg h8] at h
    rw [if_neg h8, if_pos (by omega)] at h1
    match st', h1 with
    | [], h1 => simp at h1
    | [_], h1 => simp at h1
    | b :: a :: r, _ =>
      simp only [List.cons.injEq] at h
      exact .inr (.inr (.inr ⟨a, b, by omega, by omega, h.1.symm, by rw [h.2]⟩))
/-- A set is the sum of what it has. -/
def bitsTo (s : Int) : Nat → Int
  | 0 => 0
  | n + 1 => if bit s n = true then bitsTo s n + ((2 ^ n : Nat) : Int) else bitsTo s n
theorem bits_sum : ∀ (U : Fin 7) (S : Fin 64), setChk ((U.val : Nat) : Int) ((S.val : Nat) : Int) = 0 → bitsTo ((S.val : Nat) : Int) U.val = ((S.val : Nat) : Int) := by decide +kernel
theorem bitsTo_self {u s : Int} (h : setChk u s = 0) : bitsTo s u.toNat = s := by
  obtain ⟨U, S, rfl, rfl⟩ := small_of h
  exact bits_sum U S h
theorem bitsTo_range (s : Int) : ∀ n, 0 ≤ bitsTo s n ∧ bitsTo s n < ((2 ^ n : Nat) : Int) := by
  intro n
  induction n with
  | zero => simp [bitsTo]
  | succ n ih =>
    simp only [bitsTo, Nat.pow_succ]
    split <;> omega
end Venn

namespace Venn
theorem atomTrue_fields {a : Atom} (ha : atomChk a = 0) {w x : World} (hw : worldChk w = 0) (hx : worldChk x = 0) (h : fieldsOf w = fieldsOf x) : atomTrue a w = atomTrue a x := by
  have e1 := row_says ha hw true
  have e2 := row_says ha hx true
  rw [h, e2] at e1
  simpa using e1.symm
theorem formTrue_atoms {f : Form} {w x : World} (h : ∀ a ∈ f.atoms, atomTrue a w = atomTrue a x) : formTrue f w = formTrue f x := by
  have e : fStep w f.atoms = fStep x f.atoms := by
    funext st s
    cases hh : f.atoms[s.toNat]? with
    | none => unfold fStep; rw [hh]
    | some a =>
      unfold fStep
      rw [hh]
      simp only [h a (List.mem_of_getElem? hh)]
  unfold formTrue
  rw [e]
theorem formTrue_fields {f : Form} (hf : formChk f = 0) {w x : World} (hw : worldChk w = 0) (hx : worldChk x = 0) (h : fieldsOf w = fieldsOf x) : formTrue f w = formTrue f x :=
  formTrue_atoms fun a ha => atomTrue_fields (atomsChk_mem (formChk_parts hf).2.2.2.2.1 a ha) hw hx h

/-! ### the world of counts has these counts -/
theorem bit_orBit (s : Int) (k nm : Nat) (t : Int) (i : Nat) : bit (orBit s k nm t) i = (bit s i || (decide (k / 2 ^ nm % 2 = 1) && decide (t.toNat = i))) := by
  unfold orBit bit
  rw [Int.toNat_natCast, Nat.testBit_or]
  congr 1
  rcases Nat.mod_two_eq_zero_or_one (k / 2 ^ nm) with h | h
  · simp [h]
  · rw [h, Nat.one_mul, Nat.testBit_two_pow]; simp
theorem fieldIn_below (k : Nat) (W : World) {i : Nat} (hi : i < W.things.toNat) : fieldIn (addThing k W) i = fieldIn W i := by
  have hne : ¬ W.things.toNat = i := by omega
  simp [fieldIn, addThing, bit_orBit, hne]
theorem fieldIn_at {k : Nat} (hk : k < 8) {W : World} (h : worldChk W = 0) : fieldIn (addThing k W) W.things.toNat = k := by
  obtain ⟨h0, ha, hb, hc⟩ := worldChk_iff.1 h
  simp only [fieldIn, addThing, bit_orBit, bit_high ha (Nat.le_refl _), bit_high hb (Nat.le_refl _), bit_high hc (Nat.le_refl _), Bool.false_or, decide_true, Bool.and_true, decide_eq_true_eq]
  rcases (by omega : k = 0 ∨ k = 1 ∨ k = 2 ∨ k = 3 ∨ k = 4 ∨ k = 5 ∨ k = 6 ∨ k = 7) with rfl | rfl | rfl | rfl | rfl | rfl | rfl | rfl <;> rfl
theorem fieldsAt_congr {w x : World} : ∀ (n : Nat) (f : Nat), (∀ i, i < n → fieldIn w i = fieldIn x i) → fieldsAt w n f = fieldsAt x n f := by
  intro n f
  induction n with
  | zero => intro _; rfl
  | succ n ih => intro h; rw [fieldsAt, fieldsAt, ih fun i hi => h i (by omega), h n (by omega)]
theorem fieldsAt_add {k : Nat} (hk : k < 8) {W : World} (h : worldChk W = 0) (f : Nat) : fieldsAt (addThing k W) (W.things.toNat + 1) f = fieldsAt W W.things.toNat f + (if k = f then 1 else 0) := by
  rw [fieldsAt, fieldIn_at hk h, fieldsAt_congr W.things.toNat f fun i hi => fieldIn_below k W hi]
theorem fieldsAt_many {k : Nat} (hk : k < 8) (f : Nat) : ∀ (n : Nat) (W : World), worldChk W = 0 → W.things + n ≤ 6 → fieldsAt (addMany k n W) (W.things.toNat + n) f = fieldsAt W W.things.toNat f + (if k = f then (n : Int) else 0) := by
  intro n
  induction n with
  | zero => intro W _ _; simp [addMany]
  | succ n ih =>
    intro W h hn
    have h0 := (worldChk_iff.1 h).1
    simp only [things, Bool.and_eq_true, decide_eq_true_eq] at h0
    have e : (addThing k W).things = W.things + 1 := rfl
    have := ih (addThing k W) (addThing_right hk h (by omega)) (by rw [e]; omega)
    rw [e, show (W.things + 1).toNat = W.things.toNat + 1 by omega, fieldsAt_add hk h] at this
    rw [addMany, show W.things.toNat + (n + 1) = W.things.toNat + 1 + n by omega, this]
    split <;> omega
theorem fieldsAt_madeGo (f : Nat) : ∀ (l : List Int) (k : Nat) (W : World), k + l.length ≤ 8 → (∀ x ∈ l, 0 ≤ x) → worldChk W = 0 → W.things + l.sum ≤ 6 →
    fieldsAt (madeGo k l W) (W.things.toNat + l.sum.toNat) f = fieldsAt W W.things.toNat f + (if k ≤ f then (l[f - k]?).getD 0 else 0) := by
  intro l
  induction l with
  | nil => intro k W _ _ h _; simp [madeGo]
  | cons n l ih =>
    intro k W hk hp h hs
    have h0 := hp n (by simp)
    have hs0 := sum_nonneg l fun z hz => hp z (List.mem_cons_of_mem _ hz)
    have ht := (worldChk_iff.1 h).1
    simp only [things, Bool.and_eq_true, decide_eq_true_eq] at ht
    simp only [List.length_cons] at hk
    rw [List.sum_cons] at hs
    have h1 := addMany_right (k := k) (by omega) n.toNat W h (by omega)
    have h2 := ih (k + 1) (addMany k n.toNat W) (by omega) (fun z hz => hp z (List.mem_cons_of_mem _ hz)) h1.1 (by rw [h1.2]; omega)
    have h3 := fieldsAt_many (k := k) (by omega) f n.toNat W h (by omega)
    rw [h1.2, show (W.things + (n.toNat : Int)).toNat = W.things.toNat + n.toNat by omega, h3] at h2
    rw [madeGo, List.sum_cons, show W.things.toNat + (n + l.sum).toNat = W.things.toNat + n.toNat + l.sum.toNat by omega, h2]
    by_cases hkf : k = f
    · subst hkf
      simp; omega
    · by_cases hle : k ≤ f
      · rw [if_neg hkf, if_pos (by omega), if_pos hle, show f - k = (f - (k + 1)) + 1 by omega]
        simp
      · rw [if_neg hkf, if_neg (by omega), if_neg hle]; omega
theorem fieldsOf_made {l : List Int} (h8 : l.length = 8) (hp : ∀ x ∈ l, 0 ≤ x) (hs : l.sum ≤ 6) : fieldsOf (made l) = l := by
  have hm := made_right h8 hp hs
  have hn := sum_nonneg l hp
  have h : ∀ f, fieldsAt (made l) (made l).things.toNat f = (l[f]?).getD 0 := by
    intro f
    have := fieldsAt_madeGo f l 0 ⟨0, 0, 0, 0⟩ (by omega) hp (by decide) (by simpa using hs)
    rw [hm.2]
    simpa [fieldsAt, made] using this
  match l, h8 with
  | [a0, a1, a2, a3, a4, a5, a6, a7], _ => simp only [fieldsOf, h]; rfl
theorem countsChk_parts {l : List Int} (h : countsChk l = 0) : (∀ x ∈ l, 0 ≤ x) ∧ l.sum ≤ 6 := by
  unfold countsChk at h
  split at h
  · rename_i ha
    split at h
    · cases h
    · refine ⟨fun x hx => ?_, by omega⟩
      have := List.all_eq_true.1 ha x hx
      simp only [things, Bool.and_eq_true, decide_eq_true_eq] at this
      exact this.1
  · cases h
/-- The world of a world's fields: it is right, it has as many things, and the same fields. -/
theorem made_fields {w : World} (hw : worldChk w = 0) : worldChk (made (fieldsOf w)) = 0 ∧ (made (fieldsOf w)).things = w.things ∧ fieldsOf (made (fieldsOf w)) = fieldsOf w := by
  obtain ⟨hp, hs⟩ := countsChk_parts (fieldsOf_chk hw)
  have h1 := made_right (l := fieldsOf w) rfl hp hs
  refine ⟨h1.1, ?_, fieldsOf_made rfl hp hs⟩
  rw [h1.2]
  have := fieldsAt_sum w w.things.toNat
  have h0 := (worldChk_iff.1 hw).1
  simp only [things, Bool.and_eq_true, decide_eq_true_eq] at h0
  simp only [fieldsOf, List.sum_cons, List.sum_nil]
  omega
theorem formTrue_made {f : Form} (hf : formChk f = 0) {w : World} (hw : worldChk w = 0) : formTrue f (made (fieldsOf w)) = formTrue f w :=
  formTrue_fields hf (made_fields hw).1 hw (made_fields hw).2.2
theorem fieldsOf_mem {w : World} (hw : worldChk w = 0) : fieldsOf w ∈ allC w.things := by
  have h0 := (worldChk_iff.1 hw).1
  refine (mem_allC h0 _).2 ⟨rfl, (countsChk_parts (fieldsOf_chk hw)).1, ?_⟩
  simp only [things, Bool.and_eq_true, decide_eq_true_eq] at h0
  have := fieldsAt_sum w w.things.toNat
  simp only [fieldsOf, List.sum_cons, List.sum_nil]
  omega

/-! ### worlds alike by their things' order -/
def fieldL (w : World) (n : Nat) : List Nat := (List.range n).map (fieldIn w)
theorem fieldsAt_count (w : World) (f : Nat) : ∀ n, fieldsAt w n f = ((fieldL w n).count f : Nat) := by
  intro n
  induction n with
  | zero => rfl
  | succ n ih =>
    rw [fieldsAt, ih, fieldL, fieldL, List.range_succ, List.map_append, List.count_append]
    simp only [List.map_cons, List.map_nil, List.count_cons, List.count_nil]
    by_cases h : fieldIn w n = f
    · simp [h]
    · simp [h]
theorem fieldL_perm {w x : World} (ht : w.things = x.things) (h : fieldsOf w = fieldsOf x) : (fieldL w w.things.toNat).Perm (fieldL x w.things.toNat) := by
  refine List.perm_iff_count.2 fun f => ?_
  by_cases hf : f < 8
  · unfold fieldsOf at h
    rw [← ht] at h
    simp only [List.cons.injEq, and_true] at h
    obtain ⟨h0, h1, h2, h3, h4, h5, h6, h7⟩ := h
    have e : fieldsAt w w.things.toNat f = fieldsAt x w.things.toNat f := by
      rcases (by omega : f = 0 ∨ f = 1 ∨ f = 2 ∨ f = 3 ∨ f = 4 ∨ f = 5 ∨ f = 6 ∨ f = 7) with rfl | rfl | rfl | rfl | rfl | rfl | rfl | rfl <;> assumption
    rw [fieldsAt_count, fieldsAt_count] at e
    exact Int.ofNat.inj e
  · have hz : ∀ (w : World) n, (fieldL w n).count f = 0 := fun w n => by
      refine List.count_eq_zero.2 fun hm => ?_
      obtain ⟨i, _, rfl⟩ := List.mem_map.1 hm
      have := fieldIn_lt w i
      omega
    rw [hz, hz]
theorem fieldsOf_perm {w x : World} (ht : w.things = x.things) (h : (fieldL w w.things.toNat).Perm (fieldL x w.things.toNat)) : fieldsOf w = fieldsOf x := by
  have e : ∀ f, fieldsAt w w.things.toNat f = fieldsAt x x.things.toNat f := fun f => by
    rw [fieldsAt_count, fieldsAt_count, ← ht, h.count_eq]
  simp only [fieldsOf, e]
/-- A map's values in another order: so are the things mapped. -/
theorem perm_lift {α β : Type} (g : α → β) {l2 l3 : List β} (h : l2.Perm l3) : ∀ l1 : List α, l1.map g = l2 → ∃ l, l1.Perm l ∧ l.map g = l3 := by
  induction h with
  | nil => intro l1 h; exact ⟨l1, List.Perm.refl _, h⟩
  | cons x _ ih =>
    intro l1 h
    match l1, h with
    | a :: l1, h =>
      simp only [List.map_cons, List.cons.injEq] at h
      obtain ⟨l, h1, h2⟩ := ih l1 h.2
      exact ⟨a :: l, h1.cons a, by rw [List.map_cons, h2, h.1]⟩
  | swap x y l =>
    intro l1 h
    match l1, h with
    | a :: b :: l1, h =>
      simp only [List.map_cons, List.cons.injEq] at h
      exact ⟨b :: a :: l1, List.Perm.swap b a l1, by simp [h]⟩
  | trans _ _ ih1 ih2 =>
    intro l1 h
    obtain ⟨l, h1, h2⟩ := ih1 l1 h
    obtain ⟨l', h3, h4⟩ := ih2 l h2
    exact ⟨l', h1.trans h3, h4⟩
/-- A set of these answers. -/
def setFrom : List Bool → Nat
  | [] => 0
  | b :: l => (if b = true then 1 else 0) + 2 * setFrom l
theorem setFrom_bit : ∀ (l : List Bool) (i : Nat), (setFrom l).testBit i = (l[i]?).getD false := by
  intro l
  induction l with
  | nil => intro i; simp [setFrom]
  | cons b l ih =>
    intro i
    unfold setFrom
    cases i with
    | zero => cases b <;> simp [Nat.testBit_zero] <;> omega
    | succ i =>
      rw [Nat.testBit_succ]
      have : ((if b = true then 1 else 0) + 2 * setFrom l) / 2 = setFrom l := by cases b <;> simp <;> omega
      rw [this, ih]
      simp
theorem setFrom_lt : ∀ (l : List Bool), setFrom l < 2 ^ l.length := by
  intro l
  induction l with
  | nil => simp [setFrom]
  | cons b l ih =>
    unfold setFrom
    rw [List.length_cons, Nat.pow_succ]
    split <;> omega
theorem put2_chk {w : World} (hw : worldChk w = 0) {s : Int} (hs : setChk w.things s = 0) : worldChk (w.put 2 s) = 0 := by
  obtain ⟨h0, ha, hb, hc⟩ := worldChk_iff.1 hw
  exact worldChk_iff.2 ⟨h0, ha, hb, hs⟩
theorem fieldIn_put2 (w : World) (s : Int) (i : Nat) : fieldIn (w.put 2 s) i = fieldIn w i % 4 + (if bit s i = true then 4 else 0) := by
  show fieldIn ⟨w.things, w.a, w.b, s⟩ i = _
  unfold fieldIn
  cases bit w.a i <;> cases bit w.b i <;> cases bit w.c i <;> cases bit s i <;> rfl
/-- A set for the last name, in a world of the same fields. -/
theorem set_over {w x : World} (hw : worldChk w = 0) (ht : w.things = x.things) (h : fieldsOf w = fieldsOf x) (s : Int) :
    ∃ s' : Int, setChk x.things s' = 0 ∧ fieldsOf (w.put 2 s) = fieldsOf (x.put 2 s') := by
  have h0 := (worldChk_iff.1 hw).1
  have h0' := h0
  simp only [things, Bool.and_eq_true, decide_eq_true_eq] at h0'
  have hp := fieldL_perm ht h
  obtain ⟨n, hn⟩ : ∃ n, w.things.toNat = n := ⟨_, rfl⟩
  rw [hn] at hp
  obtain ⟨Q, hQ1, hQ2⟩ := perm_lift (fun p : Nat × Bool => p.1) hp ((List.range n).map fun i => (fieldIn w i, bit s i)) (by simp [fieldL])
  have hlen : Q.length = n := by rw [← hQ1.length_eq]; simp
  have hS : setFrom (Q.map (·.2)) < 2 ^ n := by have := setFrom_lt (Q.map (·.2)); rwa [List.length_map, hlen] at this
  refine ⟨(setFrom (Q.map (·.2)) : Nat), setChk_iff.2 ⟨by rw [← ht]; exact h0', by omega, by rw [← ht, hn]; simpa using hS⟩, ?_⟩
  have e1 : fieldL (w.put 2 s) n = ((List.range n).map fun i => (fieldIn w i, bit s i)).map fun p => p.1 % 4 + (if p.2 = true then 4 else 0) := by
    rw [List.map_map]
    refine List.map_congr_left fun i _ => ?_
    rw [fieldIn_put2]; rfl
  have e2 : fieldL (x.put 2 (setFrom (Q.map (·.2)) : Nat)) n = Q.map fun p => p.1 % 4 + (if p.2 = true then 4 else 0) := by
    refine List.ext_getElem? fun i => ?_
    by_cases hi : i < n
    · have hq : ∃ p, Q[i]? = some p := ⟨Q[i]'(by omega), List.getElem?_eq_getElem (by omega)⟩
      obtain ⟨p, hp⟩ := hq
      have hf : fieldIn x i = p.1 := by
        have : (Q.map (·.1))[i]? = (fieldL x n)[i]? := by rw [hQ2]
        simp [fieldL, hp, hi] at this
        exact this.symm
      have hb : bit ((setFrom (Q.map (·.2)) : Nat) : Int) i = p.2 := by
        unfold bit
        rw [Int.toNat_natCast, setFrom_bit]
        simp [hp]
      simp [fieldL, hi, hp, fieldIn_put2, hf, hb]
    · rw [List.getElem?_eq_none (by simp [fieldL]; omega), List.getElem?_eq_none (by simp; omega)]
  refine fieldsOf_perm ht ?_
  show (fieldL (w.put 2 s) w.things.toNat).Perm (fieldL _ w.things.toNat)
  rw [hn, e1, e2]
  exact hQ1.map _

/-! ### whether there is a set -/
theorem firstSet_some {f : Form} {name : Int} {w : World} {so : Bool} : 0 ≤ firstSet f name w so ↔ ∃ s : Nat, s < 2 ^ w.things.toNat ∧ formTrue f (w.put name (s : Int)) = so := by
  unfold firstSet
  rcases firstFrom_range (fun s => formTrue f (w.put name (s : Int)) == so) (2 ^ w.things.toNat) 0 with ⟨h1, h2⟩ | ⟨j, h1, h2, h3, h4⟩
  · rw [h1]
    constructor
    · intro h; omega
    · rintro ⟨s, hs, e⟩
      have := h2 s (Nat.zero_le _) (by omega)
      simp [e] at this
  · rw [h1]
    constructor
    · intro _; exact ⟨j, by omega, by simpa using h4⟩
    · intro _; omega
theorem firstSet_is {f : Form} {name : Int} {w : World} {so : Bool} (h : 0 ≤ firstSet f name w so) : formTrue f (w.put name (firstSet f name w so)) = so ∧ (firstSet f name w so).toNat < 2 ^ w.things.toNat := by
  unfold firstSet at h ⊢
  rcases firstFrom_range (fun s => formTrue f (w.put name (s : Int)) == so) (2 ^ w.things.toNat) 0 with ⟨h1, h2⟩ | ⟨j, h1, h2, h3, h4⟩
  · rw [h1] at h; omega
  · rw [h1]
    exact ⟨by simpa using h4, by simp; omega⟩
theorem firstSet_over {f : Form} (hf : formChk f = 0) {w x : World} (hw : worldChk w = 0) (hx : worldChk x = 0) (ht : w.things = x.things) (h : fieldsOf w = fieldsOf x) (hp : 0 ≤ firstSet f 2 w true) : 0 ≤ firstSet f 2 x true := by
  obtain ⟨s, hs, e⟩ := firstSet_some.1 hp
  have h0 := (worldChk_iff.1 hw).1
  simp only [things, Bool.and_eq_true, decide_eq_true_eq] at h0
  have hs' : setChk w.things (s : Int) = 0 := setChk_iff.2 ⟨h0, by omega, by simpa using hs⟩
  obtain ⟨s', h1, h2⟩ := set_over hw ht h s
  refine firstSet_some.2 ⟨s'.toNat, (setChk_iff.1 h1).2.2, ?_⟩
  rw [show ((s'.toNat : Nat) : Int) = s' by have := (setChk_iff.1 h1).2.1; omega, ← formTrue_fields hf (put2_chk hw hs') (put2_chk hx h1) h2]
  exact e
theorem firstSet_made {f : Form} (hf : formChk f = 0) {w : World} (hw : worldChk w = 0) : (0 ≤ firstSet f 2 (made (fieldsOf w)) true) ↔ 0 ≤ firstSet f 2 w true := by
  obtain ⟨h1, h2, h3⟩ := made_fields hw
  exact ⟨firstSet_over hf h1 hw h2 h3, firstSet_over hf hw h1 h2.symm h3.symm⟩
theorem firstSet_none {f : Form} {w : World} (hw : worldChk w = 0) (h : ¬ 0 ≤ firstSet f 2 w true) : formTrue f w = false := by
  cases hT : formTrue f w
  · rfl
  · exfalso
    have hc := (worldChk_iff.1 hw).2.2.2
    refine h (firstSet_some.2 ⟨w.c.toNat, (setChk_iff.1 hc).2.2, ?_⟩)
    rw [show ((w.c.toNat : Nat) : Int) = w.c by have := (setChk_iff.1 hc).2.1; omega]
    exact hT

/-! ### in how many worlds -/
set_option maxRecDepth 1000000 in
theorem ways_pos : ∀ (u : Fin 7), ∀ x ∈ allG 7 u.val, 1 ≤ ways x := by decide +kernel
theorem ways_pos_all {u : Int} (h : things u = true) {x : List Int} (hx : x ∈ allC u) : 1 ≤ ways x := by
  simp only [things, Bool.and_eq_true, decide_eq_true_eq] at h
  exact ways_pos ⟨u.toNat, by omega⟩ x hx
theorem worldsGo_pos {f : Form} : ∀ (l : List (List Int)), (∀ x ∈ l, 1 ≤ ways x) → (∃ x ∈ l, formTrue f (made x) = true) → 0 < worldsGo f l := by
  have hge : ∀ (l : List (List Int)) (s : Int), (∀ x ∈ l, 1 ≤ ways x) → s ≤ l.foldl (fun s x => if formTrue f (made x) = true then s + ways x else s) s ∧
      ((∃ x ∈ l, formTrue f (made x) = true) → s < l.foldl (fun s x => if formTrue f (made x) = true then s + ways x else s) s) := by
    intro l
    induction l with
    | nil => intro s _; exact ⟨Int.le_refl _, fun ⟨x, hx, _⟩ => by simp at hx⟩
    | cons y l ih =>
      intro s h
      have hy := h y (by simp)
      rw [List.foldl_cons]
      by_cases hT : formTrue f (made y) = true
      · rw [if_pos hT]
        have := (ih (s + ways y) fun x hx => h x (List.mem_cons_of_mem _ hx)).1
        exact ⟨by omega, fun _ => by omega⟩
      · rw [if_neg hT]
        have := ih s fun x hx => h x (List.mem_cons_of_mem _ hx)
        refine ⟨this.1, fun ⟨x, hx, hxt⟩ => this.2 ?_⟩
        rcases List.mem_cons.1 hx with rfl | hx
        · exact absurd hxt hT
        · exact ⟨x, hx, hxt⟩
  intro l h1 h2
  exact (hge l 0 h1).2 h2
theorem worlds_pos {f : Form} (hf : formChk f = 0) {w : World} (hw : worldChk w = 0) (h : formTrue f w = true) : 0 < worldsGo f (allC w.things) :=
  worldsGo_pos _ (fun _ hx => ways_pos_all (worldChk_iff.1 hw).1 hx) ⟨fieldsOf w, fieldsOf_mem hw, by rw [formTrue_made hf hw]; exact h⟩
end Venn

namespace Venn
def openV (l : List Form) (u : Int) : Bool := (allC u).any fun x => formsTrue l (made x)
def coreStep (u : Int) (st : List Form × List Int) (i : Nat) : List Form × List Int :=
  if openV (st.1.eraseIdx st.2.length) u = true then (st.1, st.2 ++ [(i : Int)]) else (st.1.eraseIdx st.2.length, st.2)
def coreGo (l : List Form) (u : Int) (k : Nat) : List Form × List Int := (List.range k).foldl (coreStep u) (l, [])
def coreErr (l : List Form) (u : Int) : Int := if coreChk l u = 0 then (if openV l u = true then 8 else 0) else coreChk l u
def coreV (l : List Form) (u : Int) : List Int := if coreErr l u = 0 then (coreGo l u l.length).2 else []
def openChk (l : List Form) (u : Int) : Int := coreChk l u
def openR (l : List Form) (u : Int) : Bool := if coreChk l u = 0 then openV l u else false
theorem coreGo_succ (l : List Form) (u : Int) (k : Nat) : coreGo l u (k + 1) = coreStep u (coreGo l u k) k := by
  unfold coreGo
  rw [List.range_succ, List.foldl_append]; rfl
/-- What holds on the way: so many are left, at least one more than were found for each to come. -/
theorem coreGo_len (l : List Form) (u : Int) : ∀ k, k ≤ l.length → (coreGo l u k).2.length ≤ k ∧ (coreGo l u k).1.length + k = l.length + (coreGo l u k).2.length := by
  intro k
  induction k with
  | zero => intro _; simp [coreGo]
  | succ k ih =>
    intro h
    obtain ⟨h1, h2⟩ := ih (by omega)
    rw [coreGo_succ]
    unfold coreStep
    split
    · simp only [List.length_append, List.length_cons, List.length_nil]; omega
    · simp only [List.length_eraseIdx]
      rw [if_pos (by omega)]
      omega
theorem coreGo_sub (l : List Form) (u : Int) : ∀ k, ∀ f ∈ (coreGo l u k).1, f ∈ l := by
  intro k
  induction k with
  | zero => intro f h; simpa [coreGo] using h
  | succ k ih =>
    intro f h
    rw [coreGo_succ] at h
    unfold coreStep at h
    split at h
    · exact ih f h
    · exact ih f (List.mem_of_mem_eraseIdx h)
theorem openV_iff {l : List Form} {u : Int} : openV l u = true ↔ ∃ x ∈ allC u, formsTrue l (made x) = true := by
  unfold openV; rw [List.any_eq_true]
theorem openV_false {l : List Form} {u : Int} : openV l u = false ↔ ∀ x ∈ allC u, formsTrue l (made x) = false := by
  unfold openV; rw [List.any_eq_false]; simp
theorem openV_perm {l m : List Form} {u : Int} (h : ∀ w, formsTrue l w = formsTrue m w) : openV l u = openV m u := by
  unfold openV; simp only [h]
/-- Open just if there is a world. -/
theorem openV_world {l : List Form} {u : Int} (hl : ∀ f ∈ l, formChk f = 0) {w : World} (hw : worldChk w = 0) (hu : w.things = u) (h : formsTrue l w = true) : openV l u = true := by
  refine openV_iff.2 ⟨fieldsOf w, by rw [← hu]; exact fieldsOf_mem hw, ?_⟩
  unfold formsTrue at h ⊢
  rw [List.all_eq_true] at h ⊢
  intro f hf
  rw [formTrue_made (hl f hf) hw]
  exact h f hf
theorem allC_ne {u : Int} (hu : things u = true) : ∃ x, x ∈ allC u := by
  simp only [things, Bool.and_eq_true, decide_eq_true_eq] at hu
  exact ⟨[u, 0, 0, 0, 0, 0, 0, 0], (mem_allC (by simp [things]; omega) _).2 ⟨rfl, by simp; omega, by simp⟩⟩

/-! ### one alone that never holds -/
theorem alone_true (a : Atom) (w : World) : formTrue ⟨[a], [0]⟩ w = atomTrue a w := by
  simp [formTrue, fStep]
theorem many_nonneg (s : Int) : 0 ≤ many s := by unfold many; omega
theorem alone_chk (a : Atom) : formChk ⟨[a], [0]⟩ = atomChk a := by
  by_cases h : atomChk a = 0
  · simp [formChk, atomsChk, h, codeChk, codeOk, fSign, fTakes, fShape]
  · simp [formChk, atomsChk, h]
theorem core_alone (t : List Int) (u : Int) (ht : termChk t = 0) (hu : things u = true) :
    coreErr [⟨[⟨3, t, [], 0⟩], [0]⟩, ⟨[⟨4, t, [], -1⟩], [0]⟩, ⟨[⟨3, t, [], 0⟩], [0]⟩] u = 0 ∧ coreV [⟨[⟨3, t, [], 0⟩], [0]⟩, ⟨[⟨4, t, [], -1⟩], [0]⟩, ⟨[⟨3, t, [], 0⟩], [0]⟩] u = [1] ∧
    openR [⟨[⟨3, t, [], 0⟩], [0]⟩] u = true ∧ coreChk [⟨[⟨3, t, [], 0⟩], [0]⟩] u = 0 := by
  obtain ⟨g, hg⟩ : ∃ g : Form, g = ⟨[⟨3, t, [], 0⟩], [0]⟩ := ⟨_, rfl⟩
  obtain ⟨f, hf⟩ : ∃ f : Form, f = ⟨[⟨4, t, [], -1⟩], [0]⟩ := ⟨_, rfl⟩
  rw [← hg, ← hf]
  have gt : ∀ w, formTrue g w = true := fun w => by
    rw [hg, alone_true]; unfold atomTrue; simp; exact many_nonneg _
  have ft : ∀ w, formTrue f w = false := fun w => by
    rw [hf, alone_true]; unfold atomTrue; simp; have := many_nonneg (termSet t w); omega
  have gc : formChk g = 0 := by
    rw [hg, alone_chk]; simp [atomChk, ht, hasT, nChk]
  have fc : formChk f = 0 := by
    rw [hf, alone_chk]; simp [atomChk, ht, hasT, nChk]
  obtain ⟨x, hx⟩ := allC_ne hu
  have og : openV [g] u = true := openV_iff.2 ⟨x, hx, by simp [formsTrue, gt]⟩
  have o3 : openV [g, f, g] u = false := openV_false.2 fun x _ => by simp [formsTrue, gt, ft]
  have ofg : openV [f, g] u = false := openV_false.2 fun x _ => by simp [formsTrue, gt, ft]
  have of1 : openV [f] u = false := openV_false.2 fun x _ => by simp [formsTrue, ft]
  have c3 : coreChk [g, f, g] u = 0 := by simp [coreChk, formsChk, gc, fc, hu]
  have c1 : coreChk [g] u = 0 := by simp [coreChk, formsChk, gc, hu]
  have e3 : coreErr [g, f, g] u = 0 := by rw [coreErr, if_pos c3, o3]; rfl
  refine ⟨e3, ?_, ?_, c1⟩
  · rw [coreV, if_pos e3]
    have s1 : coreStep u ([g, f, g], []) 0 = ([f, g], []) := by simp [coreStep, ofg]
    have s2 : coreStep u ([f, g], []) 1 = ([f, g], [1]) := by simp [coreStep, og]
    have s3 : coreStep u ([f, g], [1]) 2 = ([f], [1]) := by simp [coreStep, of1]
    show (coreStep u (coreStep u (coreStep u ([g, f, g], []) 0) 1) 2).2 = [1]
    rw [s1, s2, s3]
  · rw [openR, if_pos c1]; exact og
theorem core_alone_bad (t : List Int) (u : Int) (h : ¬ (termChk t = 0 ∧ things u = true)) :
    coreChk [⟨[⟨3, t, [], 0⟩], [0]⟩, ⟨[⟨4, t, [], -1⟩], [0]⟩, ⟨[⟨3, t, [], 0⟩], [0]⟩] u ≠ 0 := by
  intro hc
  obtain ⟨_, _, hfs, hu⟩ := coreChk_parts hc
  have := formsChk_mem hfs ⟨[⟨3, t, [], 0⟩], [0]⟩ (by simp)
  rw [alone_chk] at this
  exact h ⟨(atomChk_parts this).2.2.1, hu⟩
end Venn

namespace Venn
theorem put_put (w : World) (name s t : Int) : (w.put name s).put name t = w.put name t := by
  unfold World.put
  by_cases h0 : name = 0
  · simp [h0]
  · by_cases h1 : name = 1
    · simp [h1]
    · simp [h0, h1]
theorem put_things (w : World) (name s : Int) : (w.put name s).things = w.things := by
  unfold World.put
  split
  · rfl
  · split <;> rfl
theorem put_chk {w : World} (hw : worldChk w = 0) (name : Int) {s : Int} (hs : setChk w.things s = 0) : worldChk (w.put name s) = 0 := by
  obtain ⟨h0, ha, hb, hc⟩ := worldChk_iff.1 hw
  unfold World.put
  split
  · exact worldChk_iff.2 ⟨h0, hs, hb, hc⟩
  · split
    · exact worldChk_iff.2 ⟨h0, ha, hs, hc⟩
    · exact worldChk_iff.2 ⟨h0, ha, hb, hs⟩
theorem put_set {w : World} {name s : Int} (h : worldChk (w.put name s) = 0) : setChk w.things s = 0 := by
  obtain ⟨h0, ha, hb, hc⟩ := worldChk_iff.1 h
  rw [put_things] at ha hb hc
  unfold World.put at ha hb hc
  split at ha
  · exact ha
  · rename_i h0
    rw [if_neg h0] at hb hc
    split at hb
    · exact hb
    · rename_i h1
      rw [if_neg h1] at hc
      exact hc
theorem firstSet_put (f : Form) (name : Int) (w : World) (s : Int) (so : Bool) : firstSet f name (w.put name s) so = firstSet f name w so := by
  unfold firstSet
  simp only [put_put, put_things]
theorem firstSet_neg {f : Form} (hf : formChk f = 0) (name : Int) (w : World) : firstSet (negF f) name w true = firstSet f name w false := by
  unfold firstSet
  have : (fun s : Nat => formTrue (negF f) (w.put name (s : Int)) == true) = fun s : Nat => formTrue f (w.put name (s : Int)) == false := by
    funext s
    rw [negF_true hf]
    cases formTrue f (w.put name (s : Int)) <;> rfl
  rw [this]
theorem set_below {u s : Int} (h : setChk u s = 0) : 0 ≤ s ∧ s.toNat < 2 ^ u.toNat := ⟨(setChk_iff.1 h).2.1, (setChk_iff.1 h).2.2⟩
theorem firstSet_of {f : Form} {name : Int} {w : World} {s : Int} (h : setChk w.things s = 0) {so : Bool} (hT : formTrue f (w.put name s) = so) : 0 ≤ firstSet f name w so := by
  obtain ⟨h0, h1⟩ := set_below h
  refine firstSet_some.2 ⟨s.toNat, h1, ?_⟩
  rw [show ((s.toNat : Nat) : Int) = s by omega]
  exact hT
theorem firstFrom_least (p : Nat → Bool) : ∀ (n k j : Nat), k ≤ j → j < k + n → p j = true → firstFrom p n k ≤ j := by
  intro n
  induction n with
  | zero => intro k j h1 h2; omega
  | succ n ih =>
    intro k j h1 h2 h3
    unfold firstFrom
    split
    · omega
    · rename_i h
      rcases Nat.eq_or_lt_of_le h1 with rfl | hlt
      · exact absurd h3 h
      · exact ih (k + 1) j hlt (by omega) h3
theorem firstSet_least {f : Form} {name : Int} {w : World} {s : Int} (h : setChk w.things s = 0) {so : Bool} (hT : formTrue f (w.put name s) = so) : firstSet f name w so ≤ s := by
  obtain ⟨h0, h1⟩ := set_below h
  have := firstFrom_least (fun s => formTrue f (w.put name (s : Int)) == so) (2 ^ w.things.toNat) 0 s.toNat (Nat.zero_le _) (by omega) (by
    simp only [show ((s.toNat : Nat) : Int) = s by omega, hT, beq_self_eq_true])
  unfold firstSet
  omega
theorem set_zero {u : Int} (h : things u = true) : setChk u 0 = 0 := by
  simp only [things, Bool.and_eq_true, decide_eq_true_eq] at h
  exact setChk_iff.2 ⟨h, by omega, by simp; exact Nat.two_pow_pos _⟩
theorem firstSet_set {f : Form} {name : Int} {w : World} (hw : worldChk w = 0) {so : Bool} (h : 0 ≤ firstSet f name w so) : setChk w.things (firstSet f name w so) = 0 := by
  have h0 := (worldChk_iff.1 hw).1
  simp only [things, Bool.and_eq_true, decide_eq_true_eq] at h0
  exact setChk_iff.2 ⟨h0, h, (firstSet_is h).2⟩
/-- It is so with each, or with one; or with each it is not. -/
theorem each_is {f : Form} {name : Int} {w : World} (hw : worldChk w = 0) (h : ¬ 0 ≤ firstSet f name w false) : 0 ≤ firstSet f name w true := by
  cases hT : formTrue f (w.put name 0)
  · exact absurd (firstSet_of (set_zero (worldChk_iff.1 hw).1) hT) h
  · exact firstSet_of (set_zero (worldChk_iff.1 hw).1) hT

/-! ### a formula, then itself -/
def thenF (f : Form) : Form := ⟨f.atoms, f.code ++ f.code ++ [13]⟩
theorem thenF_chk {f : Form} (h : formChk f = 0) (hl : f.code.length ≤ 9) : formChk (thenF f) = 0 := by
  obtain ⟨h1, h2, h3, h4, h5, h6, h7⟩ := formChk_parts h
  refine formChk_mk h1 h2 (by simp [thenF]; omega) (by simp [thenF]; omega) h5 ?_ ?_
  · simp only [thenF, List.all_append, h6, Bool.true_and]
    simp [codeOk, fSign, fTakes]
  · have a := fShape_app f.code [13] 0 1 (by omega) h7
    have b := fShape_app f.code (f.code ++ [13]) 0 0 (by omega) h7
    simp only [thenF, List.append_assoc]
    rw [show (0 : Int) = 0 + 0 from rfl, b, show (0 : Int) + 1 = 1 + 0 from rfl, a]
    decide
theorem thenF_true {f : Form} (h : formChk f = 0) (w : World) : formTrue (thenF f) w = true := by
  obtain ⟨h1, h2, h3, h4, h5, h6, h7⟩ := formChk_parts h
  obtain ⟨l, c⟩ := f
  have e := ffold_one (w := w) (l := l) h7
  simp only at e h7
  have e2 := ffold_base (w := w) (l := l) c [] [formTrue ⟨l, c⟩ w] h7
  rw [List.nil_append, e] at e2
  simp only [formTrue, thenF, List.foldl_append]
  rw [e, e2]
  cases hT : formTrue ⟨l, c⟩ w <;> simp [fStep]
end Venn

namespace Venn
theorem many_fields {t : List Int} (ht : termChk t = 0) {w x : World} (hw : worldChk w = 0) (hx : worldChk x = 0) (h : fieldsOf w = fieldsOf x) : many (termSet t w) = many (termSet t x) := by
  have key : ∀ n : Int, 0 ≤ n ∧ n ≤ 6 → (n ≤ many (termSet t w) ↔ n ≤ many (termSet t x)) := fun n hn => by
    have hc : atomChk ⟨3, t, [], n⟩ = 0 := by
      have h1 : nChk 3 n = 0 := by unfold nChk; rw [if_neg (by omega)]
      simp [atomChk, ht, hasT, h1]
    have := atomTrue_fields hc hw hx h
    simpa [atomTrue] using this
  have h1 := (key _ (many_le (termSet t w))).1 (Int.le_refl _)
  have h2 := (key _ (many_le (termSet t x))).2 (Int.le_refl _)
  omega
theorem cntT_world {t : List Int} (ht : termChk t = 0) {w : World} (hw : worldChk w = 0) : cntT t (fieldsOf w) = many (termSet t w) :=
  many_fields ht (made_fields hw).1 hw (made_fields hw).2.2
theorem span_fold (f : Form) (t : List Int) : ∀ (l : List (List Int)) (p : Int × Int),
    (l.foldl (spanStep f t) p).1 ≤ p.1 ∧ p.2 ≤ (l.foldl (spanStep f t) p).2 ∧
    (∀ x ∈ l, formTrue f (made x) = true → (l.foldl (spanStep f t) p).1 ≤ cntT t x ∧ cntT t x ≤ (l.foldl (spanStep f t) p).2) ∧
    ((l.foldl (spanStep f t) p).1 = p.1 ∨ ∃ x ∈ l, formTrue f (made x) = true ∧ cntT t x = (l.foldl (spanStep f t) p).1) ∧
    ((l.foldl (spanStep f t) p).2 = p.2 ∨ ∃ x ∈ l, formTrue f (made x) = true ∧ cntT t x = (l.foldl (spanStep f t) p).2) := by
  intro l
  induction l with
  | nil => intro p; exact ⟨Int.le_refl _, Int.le_refl _, (fun x h => by cases h), .inl rfl, .inl rfl⟩
  | cons y l ih =>
    rintro ⟨p1, p2⟩
    rw [List.foldl_cons]
    obtain ⟨h1, h2, h3, h4, h5⟩ := ih (spanStep f t (p1, p2) y)
    generalize List.foldl (spanStep f t) (spanStep f t (p1, p2) y) l = r at h1 h2 h3 h4 h5 ⊢
    obtain ⟨r1, r2⟩ := r
    simp only at h1 h2 h3 h4 h5 ⊢
    by_cases hy : formTrue f (made y) = true
    · have e : spanStep f t (p1, p2) y = (min p1 (cntT t y), max p2 (cntT t y)) := if_pos hy
      rw [e] at h1 h2 h4 h5
      simp only at h1 h2 h4 h5
      obtain ⟨C, hC⟩ : ∃ C, cntT t y = C := ⟨_, rfl⟩
      rw [hC] at h1 h2 h4 h5
      refine ⟨by omega, by omega, fun x hx hxt => ?_, ?_, ?_⟩
      · rcases List.mem_cons.1 hx with rfl | hx
        · rw [hC]; omega
        · exact h3 x hx hxt
      · rcases h4 with h4 | ⟨x, hx, h⟩
        · rcases (by omega : r1 = p1 ∨ r1 = C) with h | h
          · exact .inl h
          · exact .inr ⟨y, by simp, hy, by rw [hC, h]⟩
        · exact .inr ⟨x, List.mem_cons_of_mem _ hx, h⟩
      · rcases h5 with h5 | ⟨x, hx, h⟩
        · rcases (by omega : r2 = p2 ∨ r2 = C) with h | h
          · exact .inl h
          · exact .inr ⟨y, by simp, hy, by rw [hC, h]⟩
        · exact .inr ⟨x, List.mem_cons_of_mem _ hx, h⟩
    · have e : spanStep f t (p1, p2) y = (p1, p2) := if_neg hy
      rw [e] at h1 h2 h4 h5
      refine ⟨h1, h2, fun x hx hxt => ?_, ?_, ?_⟩
      · rcases List.mem_cons.1 hx with rfl | hx
        · exact absurd hxt hy
        · exact h3 x hx hxt
      · rcases h4 with h4 | ⟨x, hx, h⟩
        · exact .inl h4
        · exact .inr ⟨x, List.mem_cons_of_mem _ hx, h⟩
      · rcases h5 with h5 | ⟨x, hx, h⟩
        · exact .inl h5
        · exact .inr ⟨x, List.mem_cons_of_mem _ hx, h⟩
abbrev numForm (what : Int) (t : List Int) (n : Int) : Form := ⟨[⟨what, t, [], n⟩], [0]⟩
theorem num_chk {what : Int} (h : what = 3 ∨ what = 4) {t : List Int} (ht : termChk t = 0) {n : Int} (hn : -20 ≤ n ∧ n ≤ 20) : formChk (numForm what t n) = 0 := by
  rw [alone_chk]
  have h1 : nChk what n = 0 := by unfold nChk; rw [if_neg (by omega)]
  rcases h with rfl | rfl <;> simp [atomChk, ht, hasT, h1]
theorem two_chk {f g : Form} {u : Int} (hf : formChk f = 0) (hg : formChk g = 0) (hu : things u = true) : coreChk [f, g] u = 0 := by simp [coreChk, formsChk, hf, hg, hu]
theorem span_reached {f : Form} {t : List Int} {u : Int} (h : spanChk f t u = 0) :
    (0 ≤ (spanV f t u).1 ∧ (spanV f t u).2 ≤ 6 ∧ (spanV f t u).1 ≤ (spanV f t u).2) ∧
    (∀ w, worldChk w = 0 → w.things = u → formTrue f w = true → (spanV f t u).1 ≤ many (termSet t w) ∧ many (termSet t w) ≤ (spanV f t u).2) ∧
    (coreChk [f, numForm 4 t (spanV f t u).1] u = 0 ∧ openV [f, numForm 4 t (spanV f t u).1] u = true) ∧
    (coreChk [f, numForm 3 t (spanV f t u).2] u = 0 ∧ openV [f, numForm 3 t (spanV f t u).2] u = true) ∧
    (coreChk [f, numForm 4 t ((spanV f t u).1 - 1)] u = 0 ∧ openV [f, numForm 4 t ((spanV f t u).1 - 1)] u = false) ∧
    (coreChk [f, numForm 3 t ((spanV f t u).2 + 1)] u = 0 ∧ openV [f, numForm 3 t ((spanV f t u).2 + 1)] u = false) := by
  have hv : spanV f t u = spanGo f t u (allC u) := by rw [spanV, if_pos h]
  have hp : formChk f = 0 ∧ termChk t = 0 ∧ things u = true ∧ ¬ (spanGo f t u (allC u)).2 < 0 := by
    unfold spanChk at h
    split at h
    · split at h
      · split at h
        · split at h
          · cases h
          · exact ⟨by assumption, by assumption, by assumption, by assumption⟩
        · cases h
      · contradiction
    · contradiction
  obtain ⟨hf, ht, hu, hneg⟩ := hp
  rw [hv]
  obtain ⟨g1, g2, g3, g4, g5⟩ := span_fold f t (allC u) (u + 1, -1)
  change (spanGo f t u (allC u)).1 ≤ _ at g1
  have g3' : ∀ x ∈ allC u, formTrue f (made x) = true → (spanGo f t u (allC u)).1 ≤ cntT t x ∧ cntT t x ≤ (spanGo f t u (allC u)).2 := g3
  have g4' : (spanGo f t u (allC u)).1 = u + 1 ∨ ∃ x ∈ allC u, formTrue f (made x) = true ∧ cntT t x = (spanGo f t u (allC u)).1 := g4
  have g5' : (spanGo f t u (allC u)).2 = -1 ∨ ∃ x ∈ allC u, formTrue f (made x) = true ∧ cntT t x = (spanGo f t u (allC u)).2 := g5
  clear g1 g2 g3 g4 g5 hv h
  generalize spanGo f t u (allC u) = r at hneg g3' g4' g5'
  obtain ⟨x2, hx2, hm2, hc2⟩ : ∃ x ∈ allC u, formTrue f (made x) = true ∧ cntT t x = r.2 := by
    rcases g5' with h | h
    · omega
    · exact h
  have hle : ∀ x ∈ allC u, cntT t x ≤ u := fun x hx => by
    have hr := made_allC hu hx
    have := many_things (termSet_right hr.1 t)
    rw [hr.2] at this
    exact this
  obtain ⟨x1, hx1, hm1, hc1⟩ : ∃ x ∈ allC u, formTrue f (made x) = true ∧ cntT t x = r.1 := by
    rcases g4' with h | h
    · have := g3' x2 hx2 hm2
      have := hle x2 hx2
      omega
    · exact h
  have b1 := cntT_le t x1
  have b2 := cntT_le t x2
  have b12 := g3' x1 hx1 hm1
  have tl : ∀ n w, formTrue (numForm 4 t n) w = decide (many (termSet t w) ≤ n) := fun n w => by rw [alone_true]; simp [atomTrue]
  have tg : ∀ n w, formTrue (numForm 3 t n) w = decide (n ≤ many (termSet t w)) := fun n w => by rw [alone_true]; simp [atomTrue]
  refine ⟨⟨by omega, by omega, by omega⟩, fun w hw hwu hT => ?_, ⟨two_chk hf (num_chk (.inr rfl) ht (by omega)) hu, ?_⟩, ⟨two_chk hf (num_chk (.inl rfl) ht (by omega)) hu, ?_⟩, ⟨two_chk hf (num_chk (.inr rfl) ht (by omega)) hu, ?_⟩, ⟨two_chk hf (num_chk (.inl rfl) ht (by omega)) hu, ?_⟩⟩
  · have := g3' (fieldsOf w) (by rw [← hwu]; exact fieldsOf_mem hw) (by rw [formTrue_made hf hw]; exact hT)
    rwa [cntT_world ht hw] at this
  · refine openV_iff.2 ⟨x1, hx1, ?_⟩
    have : many (termSet t (made x1)) ≤ r.1 := by rw [← hc1]; exact Int.le_refl _
    simp [formsTrue, hm1, tl, this]
  · refine openV_iff.2 ⟨x2, hx2, ?_⟩
    have : r.2 ≤ many (termSet t (made x2)) := by rw [← hc2]; exact Int.le_refl _
    simp [formsTrue, hm2, tg, this]
  · refine openV_false.2 fun x hx => ?_
    cases hT : formTrue f (made x)
    · simp [formsTrue, hT]
    · have h1 : r.1 ≤ many (termSet t (made x)) := (g3' x hx hT).1
      simp [formsTrue, hT, tl]; omega
  · refine openV_false.2 fun x hx => ?_
    cases hT : formTrue f (made x)
    · simp [formsTrue, hT]
    · have h1 : many (termSet t (made x)) ≤ r.2 := (g3' x hx hT).2
      simp [formsTrue, hT, tg]; omega
end Venn
