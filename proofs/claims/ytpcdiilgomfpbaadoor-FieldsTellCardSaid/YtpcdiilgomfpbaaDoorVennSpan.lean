/-
  THE PLAIN SIDE of packages span, worlds, ask, core: worlds of counts are right; what the rounds over all counts add up.
-/
import Derived.Test.YtpcdiilgomfpbaaDoorVennFit
import Derived.Test.YtpcdiilgomfpbaaDoorVennForm
import Derived.Test.YtpcdiilgomfpbaaDoorVennM
namespace Venn
/-! ### the world of counts is right -/
theorem orBit_right0 : ∀ (T : Fin 6) (s : Fin 64) (k : Fin 8), setChk (T.val : Nat) (s.val : Nat) = 0 → setChk ((T.val + 1 : Nat) : Int) (orBit (s.val : Nat) k.val 0 (T.val : Nat)) = 0 := by decide +kernel
theorem orBit_right1 : ∀ (T : Fin 6) (s : Fin 64) (k : Fin 8), setChk (T.val : Nat) (s.val : Nat) = 0 → setChk ((T.val + 1 : Nat) : Int) (orBit (s.val : Nat) k.val 1 (T.val : Nat)) = 0 := by decide +kernel
theorem orBit_right2 : ∀ (T : Fin 6) (s : Fin 64) (k : Fin 8), setChk (T.val : Nat) (s.val : Nat) = 0 → setChk ((T.val + 1 : Nat) : Int) (orBit (s.val : Nat) k.val 2 (T.val : Nat)) = 0 := by decide +kernel
theorem addThing_right {W : World} {k : Nat} (hk : k < 8) (h : worldChk W = 0) (ht : W.things ≤ 5) : worldChk (addThing k W) = 0 := by
  obtain ⟨h0, ha, hb, hc⟩ := worldChk_iff.1 h
  simp only [things, Bool.and_eq_true, decide_eq_true_eq] at h0
  obtain ⟨T, e⟩ := Int.eq_ofNat_of_zero_le h0.1
  obtain ⟨th, a, b, c⟩ := W
  simp only at e ha hb hc ht h0
  subst e
  obtain ⟨_, A, _, rfl⟩ := small_of ha
  obtain ⟨_, B, _, rfl⟩ := small_of hb
  obtain ⟨_, C, _, rfl⟩ := small_of hc
  have e1 : ((T : Int) + 1) = ((T + 1 : Nat) : Int) := by omega
  refine worldChk_iff.2 ⟨?_, ?_, ?_, ?_⟩
  · rw [things, Bool.and_eq_true, decide_eq_true_eq, decide_eq_true_eq]
    show 0 ≤ (T : Int) + 1 ∧ (T : Int) + 1 ≤ 6
    have ht' : (T : Int) ≤ 5 := ht
    omega
  · simp only [addThing]; rw [e1]; exact orBit_right0 ⟨T, by omega⟩ A ⟨k, hk⟩ ha
  · simp only [addThing]; rw [e1]; exact orBit_right1 ⟨T, by omega⟩ B ⟨k, hk⟩ hb
  · simp only [addThing]; rw [e1]; exact orBit_right2 ⟨T, by omega⟩ C ⟨k, hk⟩ hc
theorem addMany_right {k : Nat} (hk : k < 8) : ∀ (n : Nat) (W : World), worldChk W = 0 → W.things + n ≤ 6 → worldChk (addMany k n W) = 0 ∧ (addMany k n W).things = W.things + n := by
  intro n
  induction n with
  | zero => intro W h _; exact ⟨h, by simp [addMany]⟩
  | succ n ih =>
    intro W h hn
    have := ih (addThing k W) (addThing_right hk h (by omega)) (by simp only [addThing]; omega)
    refine ⟨this.1, ?_⟩
    rw [addMany, this.2]
    simp only [addThing]; omega
theorem madeGo_right : ∀ (l : List Int) (k : Nat) (W : World), k + l.length ≤ 8 → (∀ x ∈ l, 0 ≤ x) → worldChk W = 0 → W.things + l.sum ≤ 6 → worldChk (madeGo k l W) = 0 ∧ (madeGo k l W).things = W.things + l.sum := by
  intro l
  induction l with
  | nil => intro k W _ _ h _; exact ⟨h, by simp [madeGo]⟩
  | cons n l ih =>
    intro k W hk hp h hs
    have h0 := hp n (by simp)
    have hs0 := sum_nonneg l fun z hz => hp z (List.mem_cons_of_mem _ hz)
    simp only [List.length_cons] at hk
    rw [List.sum_cons] at hs
    have h1 := addMany_right (k := k) (by omega) n.toNat W h (by omega)
    have h2 := ih (k + 1) (addMany k n.toNat W) (by omega) (fun z hz => hp z (List.mem_cons_of_mem _ hz)) h1.1 (by rw [h1.2]; omega)
    refine ⟨h2.1, ?_⟩
    rw [madeGo, h2.2, h1.2, List.sum_cons]
    omega
theorem made_right {l : List Int} (h8 : l.length = 8) (hp : ∀ x ∈ l, 0 ≤ x) (hs : l.sum ≤ 6) : worldChk (made l) = 0 ∧ (made l).things = l.sum := by
  have := madeGo_right l 0 ⟨0, 0, 0, 0⟩ (by omega) hp (by decide) (by simpa using hs)
  rw [show ((⟨0, 0, 0, 0⟩ : World).things : Int) = 0 from rfl, Int.zero_add] at this
  exact this
theorem made_allC {u : Int} (h : things u = true) {x : List Int} (hx : x ∈ allC u) : worldChk (made x) = 0 ∧ (made x).things = u := by
  obtain ⟨h8, hp, hs⟩ := (mem_allC h x).1 hx
  simp only [things, Bool.and_eq_true, decide_eq_true_eq] at h
  have := made_right h8 hp (by omega)
  rwa [hs] at this

/-! ### span -/
/-- So many things of a term, in the world of counts. -/
def cntT (t : List Int) (x : List Int) : Int := many (termSet t (made x))
def spanStep (f : Form) (t : List Int) (p : Int × Int) (x : List Int) : Int × Int := if formTrue f (made x) = true then (min p.1 (cntT t x), max p.2 (cntT t x)) else p
def spanGo (f : Form) (t : List Int) (u : Int) (l : List (List Int)) : Int × Int := l.foldl (spanStep f t) (u + 1, -1)
def spanChk (f : Form) (t : List Int) (u : Int) : Int :=
  if formChk f = 0 then (if termChk t = 0 then (if things u = true then (if (spanGo f t u (allC u)).2 < 0 then 5 else 0) else 1) else termChk t) else formChk f
def spanV (f : Form) (t : List Int) (u : Int) : Int × Int := if spanChk f t u = 0 then spanGo f t u (allC u) else (0, 0)
def exactChk (f : Form) (t : List Int) (u : Int) : Int := if spanChk f t u = 0 then (if (spanV f t u).1 = (spanV f t u).2 then 0 else 8) else spanChk f t u
def exactV (f : Form) (t : List Int) (u : Int) : Int := if exactChk f t u = 0 then (spanV f t u).1 else 0
theorem spanGo_snoc (f : Form) (t : List Int) (u : Int) (pre : List (List Int)) (x : List Int) : spanGo f t u (pre ++ [x]) = spanStep f t (spanGo f t u pre) x := by simp [spanGo]
theorem cntT_le (t x : List Int) : 0 ≤ cntT t x ∧ cntT t x ≤ 6 := many_le _
theorem spanStep_range (f : Form) (t : List Int) (p : Int × Int) (x : List Int) (h1 : -1 ≤ p.1 ∧ p.1 ≤ 7) (h2 : -1 ≤ p.2 ∧ p.2 ≤ 7) : (-1 ≤ (spanStep f t p x).1 ∧ (spanStep f t p x).1 ≤ 7) ∧ (-1 ≤ (spanStep f t p x).2 ∧ (spanStep f t p x).2 ≤ 7) := by
  have := cntT_le t x
  unfold spanStep
  split
  · constructor
    · show -1 ≤ min p.1 (cntT t x) ∧ min p.1 (cntT t x) ≤ 7; omega
    · show -1 ≤ max p.2 (cntT t x) ∧ max p.2 (cntT t x) ≤ 7; omega
  · exact ⟨h1, h2⟩
theorem spanGo_range (f : Form) (t : List Int) (u : Int) (hu : -2 ≤ u ∧ u ≤ 6) (l : List (List Int)) : (-1 ≤ (spanGo f t u l).1 ∧ (spanGo f t u l).1 ≤ 7) ∧ (-1 ≤ (spanGo f t u l).2 ∧ (spanGo f t u l).2 ≤ 7) := by
  unfold spanGo
  have : ∀ (l : List (List Int)) (p : Int × Int), (-1 ≤ p.1 ∧ p.1 ≤ 7) → (-1 ≤ p.2 ∧ p.2 ≤ 7) → (-1 ≤ (l.foldl (spanStep f t) p).1 ∧ (l.foldl (spanStep f t) p).1 ≤ 7) ∧ (-1 ≤ (l.foldl (spanStep f t) p).2 ∧ (l.foldl (spanStep f t) p).2 ≤ 7) := by
    intro l
    induction l with
    | nil => intro p h1 h2; exact ⟨h1, h2⟩
    | cons x l ih =>
      intro p h1 h2
      have := spanStep_range f t p x h1 h2
      exact ih _ this.1 this.2
  exact this l _ (by simp only []; omega) (by simp only []; omega)
/-- The formula that says that of all there are none or more. -/
abbrev allForm : Form := ⟨[⟨3, [4], [], 0⟩], [0]⟩
def spanLit (t : List Int) (lo hi : Nat → Int) : Bool := (List.range 7).all fun u => spanGo allForm t (u : Nat) (allG 7 u) == (lo u, hi u)
set_option maxRecDepth 1000000 in
theorem span_lit4 : spanLit [4] (fun u => (u : Nat)) (fun u => (u : Nat)) = true := by decide +kernel
set_option maxRecDepth 1000000 in
theorem span_lit3 : spanLit [3] (fun _ => 0) (fun _ => 0) = true := by decide +kernel
set_option maxRecDepth 1000000 in
theorem span_lit0 : spanLit [0] (fun _ => 0) (fun u => (u : Nat)) = true := by decide +kernel
set_option maxRecDepth 1000000 in
theorem span_lit1 : spanLit [1] (fun _ => 0) (fun u => (u : Nat)) = true := by decide +kernel
set_option maxRecDepth 1000000 in
theorem span_lit2 : spanLit [2] (fun _ => 0) (fun u => (u : Nat)) = true := by decide +kernel
theorem span_lit {t : List Int} {lo hi : Nat → Int} (h : spanLit t lo hi = true) {u : Int} (hu : 0 ≤ u ∧ u ≤ 6) : spanGo allForm t u (allC u) = (lo u.toNat, hi u.toNat) := by
  unfold spanLit at h
  have := List.all_eq_true.1 h u.toNat (List.mem_range.2 (by omega))
  rw [show ((u.toNat : Nat) : Int) = u by omega] at this
  exact eq_of_beq this

/-! ### worlds -/
/-- So many more of a field are put, one behind the other. -/
def waysIn : Nat → Nat → Int → Int → Int × Int
  | 0, _, o, th => (o, th)
  | r + 1, i, o, th => waysIn r (i + 1) ((o * (th + 1)) / (i : Int)) (th + 1)
def ways (l : List Int) : Int := (l.foldl (fun p k => waysIn k.toNat 1 p.1 p.2) (1, 0)).1
def worldsGo (f : Form) (l : List (List Int)) : Int := l.foldl (fun s x => if formTrue f (made x) = true then s + ways x else s) 0
def worldsChk (f : Form) (u : Int) : Int := if formChk f = 0 then (if things u = true then 0 else 1) else formChk f
def worldsV (f : Form) (u : Int) : Int := if worldsChk f u = 0 then worldsGo f (allC u) else 0
theorem worldsGo_snoc (f : Form) (pre : List (List Int)) (x : List Int) : worldsGo f (pre ++ [x]) = if formTrue f (made x) = true then worldsGo f pre + ways x else worldsGo f pre := by simp [worldsGo]
set_option maxRecDepth 1000000 in
theorem half_lits : ∀ (u : Fin 7) (name : Fin 3), worldsGo ⟨[⟨4, [((name.val : Nat) : Int)], [], 0⟩], [0]⟩ (allG 7 u.val) = ((2 ^ (2 * u.val) : Nat) : Int) := by decide +kernel
set_option maxRecDepth 1000000 in
theorem ways_range : ∀ (u : Fin 7), ∀ x ∈ allG 7 u.val, 0 ≤ ways x ∧ ways x ≤ 720 := by decide +kernel
end Venn
