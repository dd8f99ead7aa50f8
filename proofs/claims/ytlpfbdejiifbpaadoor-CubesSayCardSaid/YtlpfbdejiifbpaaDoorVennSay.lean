/-
  THE PLAIN LAW of vennlaw1.CubesSay: the members of a formula's cubes are its atoms; what they say.
-/
import Derived.Test.YtlpfbdejiifbpaaDoorVennCubes
namespace Venn
def AllIn (Q : Int → Prop) (l : List (List Int)) : Prop := ∀ c ∈ l, ∀ m ∈ c, Q m
theorem join_in {Q : Int → Prop} {a b c : List Int} (ha : ∀ m ∈ a, Q m) (hb : ∀ m ∈ b, Q m) (h : joinV a b = some c) : ∀ m ∈ c, Q m := by
  obtain ⟨_, rfl⟩ := joinV_some h
  intro m hm
  exact (joinL_mem.1 hm).2.elim (ha m) (hb m)
theorem put_in {Q : Int → Prop} {l : List (List Int)} {c : List Int} (h : AllIn Q l) (hc : ∀ m ∈ c, Q m) : AllIn Q (putV l c) := by
  intro x hx
  rcases putV_mem.1 hx with h' | rfl
  · exact h x h'
  · exact hc
theorem and1_in {Q : Int → Prop} {x : List Int} (hx : ∀ m ∈ x, Q m) : ∀ (b o : List (List Int)), AllIn Q b → AllIn Q o → AllIn Q (and1 x o b) := by
  intro b
  induction b with
  | nil => intro o _ h; exact h
  | cons y r ih =>
    intro o hb h
    rw [and1]
    have hr : AllIn Q r := fun c hc => hb c (List.mem_cons_of_mem _ hc)
    cases hj : joinV x y with
    | none => exact ih _ hr h
    | some c => exact ih _ hr (put_in h (join_in hx (hb y (by simp)) hj))
theorem and2_in {Q : Int → Prop} {b : List (List Int)} (hb : AllIn Q b) : ∀ (a o : List (List Int)), AllIn Q a → AllIn Q o → AllIn Q (and2 b o a) := by
  intro a
  induction a with
  | nil => intro o _ h; exact h
  | cons y r ih => intro o ha h; exact ih _ (fun c hc => ha c (List.mem_cons_of_mem _ hc)) (and1_in (ha y (by simp)) _ _ hb h)
theorem orL_in {Q : Int → Prop} : ∀ (b o : List (List Int)), AllIn Q b → AllIn Q o → AllIn Q (orL o b) := by
  intro b
  induction b with
  | nil => intro o _ h; exact h
  | cons c r ih => intro o hb h; exact ih _ (fun x hx => hb x (List.mem_cons_of_mem _ hx)) (put_in h (hb c (by simp)))
theorem andV_in {Q : Int → Prop} {a b x : List (List Int)} (ha : AllIn Q a) (hb : AllIn Q b) (h : andV a b = some x) : AllIn Q x := by
  obtain ⟨rfl, _⟩ := chkC_some h
  exact and2_in hb _ _ ha (fun _ h => by cases h)
theorem orV_in {Q : Int → Prop} {a b x : List (List Int)} (ha : AllIn Q a) (hb : AllIn Q b) (h : orV a b = some x) : AllIn Q x := by
  obtain ⟨rfl, _⟩ := chkC_some h
  exact orL_in _ _ hb ha
theorem noFrom_in {Q : Int → Prop} (hQ : ∀ m, Q m → Q (-m)) : ∀ (l o x : List (List Int)), AllIn Q l → AllIn Q o → noFrom o l = some x → AllIn Q x := by
  intro l
  induction l with
  | nil => intro o x _ h e; injection e with e; exact e ▸ h
  | cons c r ih =>
    intro o x hl h e
    rw [noFrom] at e
    cases ha : andV o (turnC c) with
    | none => rw [ha] at e; cases e
    | some n =>
      rw [ha] at e
      refine ih n x (fun d hd => hl d (List.mem_cons_of_mem _ hd)) (andV_in h (fun d hd m hm => ?_) ha) e
      obtain ⟨z, hz, rfl⟩ := List.mem_map.1 hd
      obtain rfl := List.mem_singleton.1 hm
      exact hQ z (hl c (by simp) z hz)
theorem noV_in {Q : Int → Prop} (hQ : ∀ m, Q m → Q (-m)) {l x : List (List Int)} (hl : AllIn Q l) (h : noV l = some x) : AllIn Q x :=
  noFrom_in hQ l [[]] x hl (fun c hc m hm => by obtain rfl := List.mem_singleton.1 hc; cases hm) h
theorem opC_in {Q : Int → Prop} (hQ : ∀ m, Q m → Q (-m)) {s : Int} {a b x : List (List Int)} (ha : AllIn Q a) (hb : AllIn Q b) (h : opC s a b = some x) : AllIn Q x := by
  unfold opC at h
  split at h
  · exact andV_in ha hb h
  · split at h
    · exact orV_in ha hb h
    · unfold thenV at h
      cases hn : noV a with
      | none => rw [hn] at h; cases h
      | some y => rw [hn] at h; exact orV_in (noV_in hQ ha hn) hb h
theorem cFold_in {Q : Int → Prop} (hQ : ∀ m, Q m → Q (-m)) {n : Int} (hn : ∀ s, 0 ≤ s → s < n → Q (s + 1)) : ∀ (c : List Int) (st st' : List (List (List Int))), c.all (codeOk n) = true → (∀ l ∈ st, AllIn Q l) → cFold st c = some st' → ∀ l ∈ st', AllIn Q l := by
  intro c
  induction c with
  | nil => intro st st' _ h e; injection e with e; exact e ▸ h
  | cons s r ih =>
    intro st st' hc h e
    rw [List.all_cons, Bool.and_eq_true] at hc
    rw [cFold] at e
    cases hx : cStep st s with
    | none => rw [hx] at e; cases e
    | some st1 =>
      rw [hx] at e
      refine ih st1 st' hc.2 ?_ e
      unfold cStep at hx
      by_cases h12 : s = 12
      · rw [if_pos h12] at hx
        match st, h, hx with
        | [], h, hx => injection hx with hx; subst hx; exact h
        | x :: r, h, hx =>
          simp only at hx
          cases hv : noV x with
          | none => rw [hv] at hx; cases hx
          | some y =>
            rw [hv] at hx
            injection hx with hx
            subst hx
            intro l hl
            rcases List.mem_cons.1 hl with rfl | hl
            · exact noV_in hQ (h x (by simp)) hv
            · exact h l (List.mem_cons_of_mem _ hl)
      rw [if_neg h12] at hx
      by_cases h3 : s = 10 ∨ s = 11 ∨ s = 13
      · rw [if_pos h3] at hx
        match st, h, hx with
        | [], h, hx => injection hx with hx; subst hx; exact h
        | [x], h, hx => injection hx with hx; subst hx; exact h
        | y :: x :: r, h, hx =>
          simp only at hx
          cases hv : opC s x y with
          | none => rw [hv] at hx; cases hx
          | some z =>
            rw [hv] at hx
            injection hx with hx
            subst hx
            intro l hl
            rcases List.mem_cons.1 hl with rfl | hl
            · exact opC_in hQ (h x (by simp)) (h y (by simp)) hv
            · exact h l (List.mem_cons_of_mem _ (List.mem_cons_of_mem _ hl))
      · rw [if_neg h3] at hx
        injection hx with hx
        subst hx
        intro l hl
        rcases List.mem_cons.1 hl with rfl | hl
        · intro d hd m hm
          obtain rfl := List.mem_singleton.1 hd
          obtain rfl := List.mem_singleton.1 hm
          rcases codeOk_cases hc.1 with h' | h' | h' | h' | h'
          all_goals first | omega | exact hn s h'.1 h'.2.2
        · exact h l hl
/-- The members of a formula's cubes are its atoms. -/
theorem cubes_in {f : Form} {l : List (List Int)} (h : formChk f = 0) (e : cubesO f.code = some l) : ∀ c ∈ l, ∀ m ∈ c, m ≠ 0 ∧ -(f.atoms.length : Int) ≤ m ∧ m ≤ f.atoms.length := by
  obtain ⟨h1, h2, h3, h4, h5, h6, h7⟩ := formChk_parts h
  unfold cubesO at e
  cases hx : cFold [] f.code with
  | none => rw [hx] at e; cases e
  | some st =>
    rw [hx] at e
    injection e with e
    have g := cFold_in (Q := fun m => m ≠ 0 ∧ -(f.atoms.length : Int) ≤ m ∧ m ≤ f.atoms.length) (fun m hm => by omega) (n := f.atoms.length) (fun s h0 h1 => by omega) f.code [] st h6 (fun _ h => by cases h) hx
    obtain ⟨_, g2⟩ := cFold_ok f.code [] st h6 (fun _ h => by cases h) h7 hx
    match st, g2 with
    | [y], _ => subst e; exact g y (by simp)
end Venn
