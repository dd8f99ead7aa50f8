/-
  THE PLAIN SIDE of package cubes: lists of cubes, the cubes of a formula; what they say.
-/
import Derived.Test.YtlpfbdejiifbpaaGreatDoorVennCube
namespace Venn
def absI (m : Int) : Int := if m < 0 then -m else m
/-- A cube behind others, if it is not there. -/
def putV (l : List (List Int)) (c : List Int) : List (List Int) := if l.contains c then l else l ++ [c]
def and1 (x : List Int) : List (List Int) → List (List Int) → List (List Int)
  | o, [] => o
  | o, y :: r => and1 x (match joinV x y with | some c => putV o c | none => o) r
def and2 (b : List (List Int)) : List (List Int) → List (List Int) → List (List Int)
  | o, [] => o
  | o, x :: r => and2 b (and1 x o b) r
def orL : List (List Int) → List (List Int) → List (List Int)
  | o, [] => o
  | o, c :: r => orL (putV o c) r
def chkC (l : List (List Int)) : Option (List (List Int)) := if 40 < l.length then none else some l
def andV (a b : List (List Int)) : Option (List (List Int)) := chkC (and2 b [] a)
def orV (a b : List (List Int)) : Option (List (List Int)) := chkC (orL a b)
def turnC (c : List Int) : List (List Int) := c.map fun m => [-m]
def noFrom : List (List Int) → List (List Int) → Option (List (List Int))
  | o, [] => some o
  | o, c :: r => match andV o (turnC c) with | none => none | some n => noFrom n r
def noV (l : List (List Int)) : Option (List (List Int)) := noFrom [[]] l
def thenV (a b : List (List Int)) : Option (List (List Int)) := match noV a with | none => none | some x => orV x b
def opC (s : Int) (a b : List (List Int)) : Option (List (List Int)) := if s = 10 then andV a b else if s = 11 then orV a b else thenV a b
/-- One sign: the row's last first. -/
def cStep (st : List (List (List Int))) (s : Int) : Option (List (List (List Int))) :=
  if s = 12 then (match st with | x :: r => (match noV x with | none => none | some y => some (y :: r)) | [] => some [])
  else if s = 10 ∨ s = 11 ∨ s = 13 then (match st with | y :: x :: r => (match opC s x y with | none => none | some z => some (z :: r)) | _ => some st)
  else some ([[s + 1]] :: st)
def cFold : List (List (List Int)) → List Int → Option (List (List (List Int)))
  | st, [] => some st
  | st, s :: r => match cStep st s with | none => none | some st' => cFold st' r
def cubesO (c : List Int) : Option (List (List Int)) := match cFold [] c with | none => none | some st => some (st.headD [])
/-- The fault, and the cubes. -/
def cubesErr (f : Form) : Int := if formChk f = 0 then (match cubesO f.code with | none => 4 | some _ => 0) else formChk f
def cubesV (f : Form) : List (List Int) := if formChk f = 0 then (match cubesO f.code with | none => [] | some l => l) else []

/-- A cube that may be. -/
def CubeOk (c : List Int) : Prop := (∀ x ∈ c, mOk x = true) ∧ (c.Pairwise fun x y => absI x < absI y) ∧ c.length ≤ 6
def CsOk (l : List (List Int)) : Prop := (∀ c ∈ l, CubeOk c) ∧ l.Nodup
theorem absI_ok {x : Int} (h : mOk x = true) : 1 ≤ absI x ∧ absI x ≤ 6 := by
  have := mOk_iff.1 h
  unfold absI
  split <;> omega
theorem joinN_len {a b : List Int} {n : Int} (h : clash a b n = false) : (joinN a b n).length ≤ 1 := by
  unfold clash at h
  unfold joinN
  cases h1 : hasI a b n <;> cases h2 : hasI a b (-n) <;> simp_all
theorem flat_len1 {f : Int → List Int} : ∀ (l : List Int), (∀ n ∈ l, (f n).length ≤ 1) → (l.flatMap f).length ≤ l.length := by
  intro l
  induction l with
  | nil => intro _; simp
  | cons n l ih =>
    intro h
    rw [List.flatMap_cons, List.length_append, List.length_cons]
    have h1 := h n (by simp)
    have h2 := ih fun m hm => h m (List.mem_cons_of_mem _ hm)
    omega
theorem joinV_some {a b c : List Int} (h : joinV a b = some c) : six.any (clash a b) = false ∧ c = six.flatMap (joinN a b) := by
  unfold joinV at h
  split at h
  · cases h
  · rename_i h1
    exact ⟨by simpa using h1, by injection h with h; exact h.symm⟩
theorem joinV_ok {a b c : List Int} (h : joinV a b = some c) : CubeOk c := by
  obtain ⟨h1, rfl⟩ := joinV_some h
  have hc : ∀ n ∈ six, clash a b n = false := fun n hn => by simpa using List.any_eq_false.1 h1 n hn
  refine ⟨fun x hx => (joinL_mem.1 hx).1, ?_, ?_⟩
  · refine pairwise_flat _ _ _ (fun n hn => ?_) ?_
    · have := joinN_len (hc n hn)
      match hj : joinN a b n, this with
      | [], _ => exact List.Pairwise.nil
      | [x], _ => exact List.pairwise_singleton _ _
    · have : six.Pairwise fun m n => 0 < m ∧ m < n := by unfold six; decide
      refine this.imp fun {m n} hmn x hx y hy => ?_
      have h1 := (joinN_mem.1 hx).1
      have h2 := (joinN_mem.1 hy).1
      unfold absI
      split <;> split <;> omega
  · exact flat_len1 six fun n hn => joinN_len (hc n hn)
theorem putV_mem {l : List (List Int)} {c x : List Int} : x ∈ putV l c ↔ x ∈ l ∨ x = c := by
  unfold putV
  split
  · rename_i h
    have h' : c ∈ l := by simpa using h
    constructor
    · exact .inl
    · rintro (h | rfl)
      · exact h
      · exact h'
  · simp
theorem putV_ok {l : List (List Int)} {c : List Int} (h : CsOk l) (hc : CubeOk c) : CsOk (putV l c) := by
  refine ⟨fun x hx => ?_, ?_⟩
  · rcases putV_mem.1 hx with h' | rfl
    · exact h.1 x h'
    · exact hc
  · unfold putV
    split
    · exact h.2
    · rename_i hn
      have hn' : c ∉ l := by simpa using hn
      refine List.nodup_append.2 ⟨h.2, by simp, fun a ha b hb => ?_⟩
      obtain rfl := List.mem_singleton.1 hb
      intro e
      exact hn' (e ▸ ha)
theorem putV_len (l : List (List Int)) (c : List Int) : (putV l c).length ≤ l.length + 1 ∧ l.length ≤ (putV l c).length := by
  unfold putV
  split <;> simp
theorem and1_ok {x : List Int} : ∀ (b o : List (List Int)), CsOk o → CsOk (and1 x o b) := by
  intro b
  induction b with
  | nil => intro o h; exact h
  | cons y r ih =>
    intro o h
    rw [and1]
    cases hj : joinV x y with
    | none => exact ih _ h
    | some c => exact ih _ (putV_ok h (joinV_ok hj))
theorem and1_len {x : List Int} : ∀ (b o : List (List Int)), (and1 x o b).length ≤ o.length + b.length := by
  intro b
  induction b with
  | nil => intro o; exact Nat.le_refl _
  | cons y r ih =>
    intro o
    rw [and1]
    cases hj : joinV x y with
    | none => have := ih o; simp only [List.length_cons]; omega
    | some c => have := ih (putV o c); have := putV_len o c; simp only [List.length_cons]; omega
theorem and2_ok {b : List (List Int)} : ∀ (a o : List (List Int)), CsOk o → CsOk (and2 b o a) := by
  intro a
  induction a with
  | nil => intro o h; exact h
  | cons y r ih => intro o h; exact ih _ (and1_ok _ _ h)
theorem and2_len {b : List (List Int)} : ∀ (a o : List (List Int)), (and2 b o a).length ≤ o.length + a.length * b.length := by
  intro a
  induction a with
  | nil => intro o; simp [and2]
  | cons y r ih =>
    intro o
    have h1 := ih (and1 y o b)
    have h2 := @and1_len y b o
    rw [and2, List.length_cons, Nat.succ_mul]
    omega
theorem orL_ok : ∀ (b o : List (List Int)), CsOk o → (∀ c ∈ b, CubeOk c) → CsOk (orL o b) := by
  intro b
  induction b with
  | nil => intro o h _; exact h
  | cons c r ih => intro o h hb; exact ih _ (putV_ok h (hb c (by simp))) fun x hx => hb x (List.mem_cons_of_mem _ hx)
theorem orL_len : ∀ (b o : List (List Int)), (orL o b).length ≤ o.length + b.length := by
  intro b
  induction b with
  | nil => intro o; exact Nat.le_refl _
  | cons c r ih => intro o; have := ih (putV o c); have := putV_len o c; rw [orL, List.length_cons]; omega
theorem chkC_some {l x : List (List Int)} (h : chkC l = some x) : x = l ∧ l.length ≤ 40 := by
  unfold chkC at h
  split at h
  · cases h
  · injection h with h; exact ⟨h.symm, by omega⟩
/-- So many cubes as may be. -/
def COk (l : List (List Int)) : Prop := CsOk l ∧ l.length ≤ 40
theorem nil_csOk : CsOk [] := ⟨fun _ h => (by cases h), List.nodup_nil⟩
theorem nilnil_ok : COk [[]] := ⟨⟨fun c h => by obtain rfl := List.mem_singleton.1 h; exact ⟨fun _ h => (by cases h), List.Pairwise.nil, by simp⟩, by simp⟩, by simp⟩
theorem andV_ok {a b x : List (List Int)} (h : andV a b = some x) : COk x := by
  obtain ⟨rfl, h2⟩ := chkC_some h
  exact ⟨and2_ok _ _ nil_csOk, h2⟩
theorem orV_ok {a b x : List (List Int)} (ha : CsOk a) (hb : CsOk b) (h : orV a b = some x) : COk x := by
  obtain ⟨rfl, h2⟩ := chkC_some h
  exact ⟨orL_ok _ _ ha hb.1, h2⟩
theorem noFrom_ok : ∀ (l o x : List (List Int)), COk o → noFrom o l = some x → COk x := by
  intro l
  induction l with
  | nil => intro o x h e; injection e with e; exact e ▸ h
  | cons c r ih =>
    intro o x h e
    rw [noFrom] at e
    cases ha : andV o (turnC c) with
    | none => rw [ha] at e; cases e
    | some n => rw [ha] at e; exact ih n x (andV_ok ha) e
theorem noV_ok {l x : List (List Int)} (h : noV l = some x) : COk x := noFrom_ok _ _ _ nilnil_ok h
theorem thenV_ok {a b x : List (List Int)} (hb : COk b) (h : thenV a b = some x) : COk x := by
  unfold thenV at h
  cases hn : noV a with
  | none => rw [hn] at h; cases h
  | some y => rw [hn] at h; exact orV_ok (noV_ok hn).1 hb.1 h
theorem opC_ok {s : Int} {a b x : List (List Int)} (ha : COk a) (hb : COk b) (h : opC s a b = some x) : COk x := by
  unfold opC at h
  split at h
  · exact andV_ok h
  · split at h
    · exact orV_ok ha.1 hb.1 h
    · exact thenV_ok hb h
theorem one_ok {s : Int} (h0 : 0 ≤ s) (h6 : s < 6) : COk [[s + 1]] := by
  refine ⟨⟨fun c h => ?_, by simp⟩, by simp⟩
  obtain rfl := List.mem_singleton.1 h
  refine ⟨fun x hx => ?_, List.pairwise_singleton _ _, by simp⟩
  obtain rfl := List.mem_singleton.1 hx
  exact mOk_iff.2 (by omega)
theorem cStep_ok {n : Int} {st st' : List (List (List Int))} {s : Int} (hs : codeOk n s = true) (h : ∀ l ∈ st, COk l) (e : cStep st s = some st') : ∀ l ∈ st', COk l := by
  unfold cStep at e
  by_cases h12 : s = 12
  · rw [if_pos h12] at e
    match st, h, e with
    | [], h, e => injection e with e; subst e; exact h
    | x :: r, h, e =>
      simp only at e
      cases hn : noV x with
      | none => rw [hn] at e; cases e
      | some y =>
        rw [hn] at e
        injection e with e
        subst e
        intro l hl
        rcases List.mem_cons.1 hl with rfl | hl
        · exact noV_ok hn
        · exact h l (List.mem_cons_of_mem _ hl)
  rw [if_neg h12] at e
  by_cases h3 : s = 10 ∨ s = 11 ∨ s = 13
  · rw [if_pos h3] at e
    match st, h, e with
    | [], h, e => injection e with e; subst e; exact h
    | [x], h, e => injection e with e; subst e; exact h
    | y :: x :: r, h, e =>
      simp only at e
      cases hn : opC s x y with
      | none => rw [hn] at e; cases e
      | some z =>
        rw [hn] at e
        injection e with e
        subst e
        intro l hl
        rcases List.mem_cons.1 hl with rfl | hl
        · exact opC_ok (h x (by simp)) (h y (by simp)) hn
        · exact h l (List.mem_cons_of_mem _ (List.mem_cons_of_mem _ hl))
  · rw [if_neg h3] at e
    injection e with e
    subst e
    intro l hl
    rcases List.mem_cons.1 hl with rfl | hl
    · rcases codeOk_cases hs with h | h | h | h | h
      all_goals first | omega | exact one_ok h.1 h.2.1
    · exact h l hl
theorem cStep_length {st st' : List (List (List Int))} {s : Int} (h : ¬ ((st.length : Int) < fTakes s)) (e : cStep st s = some st') : (st'.length : Int) = st.length + (1 - fTakes s) := by
  unfold cStep at e
  unfold fTakes at *
  by_cases h12 : s = 12
  · rw [if_pos h12] at h e ⊢
    match st, h, e with
    | [], h, e => simp at h
    | x :: r, h, e =>
      simp only at e
      cases hn : noV x with
      | none => rw [hn] at e; cases e
      | some y => rw [hn] at e; injection e with e; subst e; simp
  rw [if_neg h12] at h e ⊢
  by_cases h3 : s = 10 ∨ s = 11 ∨ s = 13
  · rw [if_pos h3] at h e ⊢
    match st, h, e with
    | [], h, e => simp at h
    | [x], h, e => simp at h
    | y :: x :: r, h, e =>
      simp only at e
      cases hn : opC s x y with
      | none => rw [hn] at e; cases e
      | some z => rw [hn] at e; injection e with e; subst e; simp; omega
  · rw [if_neg h3] at e ⊢
    injection e with e
    subst e
    simp
theorem cFold_ok {n : Int} : ∀ (c : List Int) (st st' : List (List (List Int))), c.all (codeOk n) = true → (∀ l ∈ st, COk l) → fShape st.length c = true → cFold st c = some st' → (∀ l ∈ st', COk l) ∧ st'.length = 1 := by
  intro c
  induction c with
  | nil =>
    intro st st' _ h hs e
    injection e with e
    subst e
    simp only [fShape, decide_eq_true_eq] at hs
    exact ⟨h, by omega⟩
  | cons s r ih =>
    intro st st' hc h hs e
    rw [List.all_cons, Bool.and_eq_true] at hc
    rw [fShape] at hs
    split at hs
    · cases hs
    rename_i h1
    rw [cFold] at e
    cases hx : cStep st s with
    | none => rw [hx] at e; cases e
    | some st1 =>
      rw [hx] at e
      exact ih st1 st' hc.2 (cStep_ok hc.1 h hx) (by rw [cStep_length h1 hx]; exact hs) e
theorem cubesO_ok {f : Form} {l : List (List Int)} (h : formChk f = 0) (e : cubesO f.code = some l) : COk l := by
  obtain ⟨h1, h2, h3, h4, h5, h6, h7⟩ := formChk_parts h
  unfold cubesO at e
  cases hx : cFold [] f.code with
  | none => rw [hx] at e; cases e
  | some st =>
    rw [hx] at e
    injection e with e
    obtain ⟨g1, g2⟩ := cFold_ok f.code [] st h6 (fun _ h => by cases h) h7 hx
    match st, g2 with
    | [y], _ => subst e; exact g1 y (by simp)
theorem cubesV_ok {f : Form} (h : formChk f = 0) : COk (cubesV f) := by
  unfold cubesV
  rw [if_pos h]
  cases hx : cubesO f.code with
  | none => exact ⟨nil_csOk, by simp⟩
  | some l => exact cubesO_ok h hx

/-- What a member says, by which atoms hold. -/
def litV (v : Int → Bool) (m : Int) : Bool := v (absI m) == decide (0 < m)
def cubeV (v : Int → Bool) (c : List Int) : Bool := c.all (litV v)
def someV (v : Int → Bool) (l : List (List Int)) : Bool := l.any (cubeV v)
theorem lit_opp (v : Int → Bool) {n : Int} (h : 1 ≤ n) : litV v n = v n ∧ litV v (-n) = !v n := by
  unfold litV absI
  rw [if_neg (by omega), if_pos (by omega), decide_eq_true (by omega), decide_eq_false (by omega), Int.neg_neg]
  cases v n <;> exact ⟨rfl, rfl⟩
theorem lit_neg (v : Int → Bool) {m : Int} (h : mOk m = true) : litV v (-m) = !litV v m := by
  have := mOk_iff.1 h
  by_cases hp : 0 < m
  · obtain ⟨h1, h2⟩ := lit_opp v (n := m) (by omega)
    rw [h2, h1]
  · obtain ⟨h1, h2⟩ := lit_opp v (n := -m) (by omega)
    rw [Int.neg_neg] at h2
    rw [h2, h1, Bool.not_not]
theorem cubeV_join {v : Int → Bool} {a b : List Int} (ha : ∀ x ∈ a, mOk x = true) (hb : ∀ x ∈ b, mOk x = true) :
    (match joinV a b with | some c => cubeV v c | none => false) = (cubeV v a && cubeV v b) := by
  cases hj : joinV a b with
  | some c =>
    obtain ⟨_, rfl⟩ := joinV_some hj
    simp only
    rw [Bool.eq_iff_iff, Bool.and_eq_true]
    simp only [cubeV, List.all_eq_true]
    constructor
    · intro h
      exact ⟨fun x hx => h x (joinL_mem.2 ⟨ha x hx, .inl hx⟩), fun x hx => h x (joinL_mem.2 ⟨hb x hx, .inr hx⟩)⟩
    · rintro ⟨h1, h2⟩ x hx
      rcases (joinL_mem.1 hx).2 with h | h
      · exact h1 x h
      · exact h2 x h
  | none =>
    simp only
    unfold joinV at hj
    split at hj
    · rename_i hc
      obtain ⟨n, hn, hc⟩ := List.any_eq_true.1 hc
      unfold clash at hc
      rw [Bool.and_eq_true, hasI_iff, hasI_iff] at hc
      obtain ⟨h1, h2⟩ := lit_opp v (six_iff.1 hn).1
      symm
      rw [Bool.eq_false_iff]
      intro h
      rw [Bool.and_eq_true] at h
      simp only [cubeV, List.all_eq_true] at h
      have hh : ∀ x, x ∈ a ∨ x ∈ b → litV v x = true := fun x hx => hx.elim (h.1 x) (h.2 x)
      have e1 := hh _ hc.1
      have e2 := hh _ hc.2
      rw [h1] at e1
      rw [h2, e1] at e2
      cases e2
    · cases hj
theorem someV_put (v : Int → Bool) (l : List (List Int)) (c : List Int) : someV v (putV l c) = (someV v l || cubeV v c) := by
  unfold putV someV
  split
  · rename_i h
    have h' : c ∈ l := by simpa using h
    cases hc : cubeV v c
    · rw [Bool.or_false]
    · rw [Bool.or_true]; exact List.any_eq_true.2 ⟨c, h', hc⟩
  · simp
theorem someV_and1 {v : Int → Bool} {x : List Int} (hx : ∀ m ∈ x, mOk m = true) : ∀ (b o : List (List Int)), (∀ c ∈ b, ∀ m ∈ c, mOk m = true) → someV v (and1 x o b) = (someV v o || (cubeV v x && someV v b)) := by
  intro b
  induction b with
  | nil => intro o _; simp [and1, someV]
  | cons y r ih =>
    intro o h
    have h1 := cubeV_join (v := v) hx (h y (by simp))
    have h2 := fun o => ih o fun c hc => h c (List.mem_cons_of_mem _ hc)
    rw [and1, h2]
    have e : someV v (y :: r) = (cubeV v y || someV v r) := rfl
    rw [e]
    cases hj : joinV x y with
    | none =>
      rw [hj] at h1
      simp only at h1
      rw [Bool.and_or_distrib_left, ← h1, Bool.false_or]
    | some c =>
      rw [hj] at h1
      simp only at h1
      rw [Bool.and_or_distrib_left, ← h1, someV_put, Bool.or_assoc]
theorem someV_and2 {v : Int → Bool} {b : List (List Int)} (hb : ∀ c ∈ b, ∀ m ∈ c, mOk m = true) : ∀ (a o : List (List Int)), (∀ c ∈ a, ∀ m ∈ c, mOk m = true) → someV v (and2 b o a) = (someV v o || (someV v a && someV v b)) := by
  intro a
  induction a with
  | nil => intro o _; simp [and2, someV]
  | cons x r ih =>
    intro o h
    rw [and2, ih _ fun c hc => h c (List.mem_cons_of_mem _ hc), someV_and1 (h x (by simp)) _ _ hb]
    have e : someV v (x :: r) = (cubeV v x || someV v r) := rfl
    rw [e, Bool.and_or_distrib_right, Bool.or_assoc]
theorem someV_or {v : Int → Bool} : ∀ (b o : List (List Int)), someV v (orL o b) = (someV v o || someV v b) := by
  intro b
  induction b with
  | nil => intro o; simp [orL, someV]
  | cons c r ih =>
    intro o
    rw [orL, ih, someV_put, Bool.or_assoc]
    rfl
theorem someV_turn {v : Int → Bool} : ∀ (c : List Int), (∀ m ∈ c, mOk m = true) → someV v (turnC c) = !cubeV v c := by
  intro c
  induction c with
  | nil => intro _; rfl
  | cons m r ih =>
    intro h
    have h1 := ih fun x hx => h x (List.mem_cons_of_mem _ hx)
    have e1 : someV v (turnC (m :: r)) = (cubeV v [-m] || someV v (turnC r)) := rfl
    have e2 : cubeV v (m :: r) = (litV v m && cubeV v r) := rfl
    have e3 : cubeV v [-m] = litV v (-m) := by simp [cubeV]
    rw [e1, e2, e3, h1, lit_neg v (h m (by simp)), Bool.not_and]
theorem turnC_ok {c : List Int} (h : ∀ m ∈ c, mOk m = true) : ∀ d ∈ turnC c, ∀ m ∈ d, mOk m = true := by
  intro d hd m hm
  unfold turnC at hd
  obtain ⟨x, hx, rfl⟩ := List.mem_map.1 hd
  obtain rfl := List.mem_singleton.1 hm
  have := mOk_iff.1 (h x hx)
  exact mOk_iff.2 (by omega)
theorem mem_of_cok {l : List (List Int)} (h : COk l) : ∀ c ∈ l, ∀ m ∈ c, mOk m = true := fun c hc => (h.1.1 c hc).1
theorem someV_andV {v : Int → Bool} {a b x : List (List Int)} (ha : ∀ c ∈ a, ∀ m ∈ c, mOk m = true) (hb : ∀ c ∈ b, ∀ m ∈ c, mOk m = true) (h : andV a b = some x) : someV v x = (someV v a && someV v b) := by
  obtain ⟨rfl, _⟩ := chkC_some h
  rw [someV_and2 hb _ _ ha]
  rfl
theorem someV_orV {v : Int → Bool} {a b x : List (List Int)} (h : orV a b = some x) : someV v x = (someV v a || someV v b) := by
  obtain ⟨rfl, _⟩ := chkC_some h
  exact someV_or _ _
theorem someV_noFrom {v : Int → Bool} : ∀ (l o x : List (List Int)), (∀ c ∈ l, ∀ m ∈ c, mOk m = true) → (∀ c ∈ o, ∀ m ∈ c, mOk m = true) → noFrom o l = some x → someV v x = (someV v o && !someV v l) := by
  intro l
  induction l with
  | nil => intro o x _ _ e; injection e with e; subst e; simp [someV]
  | cons c r ih =>
    intro o x h ho e
    rw [noFrom] at e
    cases ha : andV o (turnC c) with
    | none => rw [ha] at e; cases e
    | some n =>
      rw [ha] at e
      rw [ih n x (fun d hd => h d (List.mem_cons_of_mem _ hd)) (mem_of_cok (andV_ok ha)) e, someV_andV ho (turnC_ok (h c (by simp))) ha, someV_turn c (h c (by simp))]
      have e1 : someV v (c :: r) = (cubeV v c || someV v r) := rfl
      rw [e1, Bool.not_or, Bool.and_assoc]
theorem someV_noV {v : Int → Bool} {l x : List (List Int)} (hl : ∀ c ∈ l, ∀ m ∈ c, mOk m = true) (h : noV l = some x) : someV v x = !someV v l := by
  have := someV_noFrom (v := v) l [[]] x hl (mem_of_cok nilnil_ok) h
  rw [this]
  rfl
theorem someV_op {v : Int → Bool} {s : Int} {a b x : List (List Int)} (hs : s = 10 ∨ s = 11 ∨ s = 13) (ha : COk a) (hb : COk b) (h : opC s a b = some x) :
    someV v x = if s = 10 then (someV v a && someV v b) else if s = 11 then (someV v a || someV v b) else (!someV v a || someV v b) := by
  unfold opC at h
  rcases hs with rfl | rfl | rfl
  · exact someV_andV (mem_of_cok ha) (mem_of_cok hb) h
  · exact someV_orV h
  · simp at h
    unfold thenV at h
    cases hn : noV a with
    | none => rw [hn] at h; cases h
    | some y =>
      rw [hn] at h
      rw [someV_orV h, someV_noV (mem_of_cok ha) hn]
      rfl
/-- Which atoms hold in a world, from 1 on. -/
def valA (l : List Atom) (w : World) (n : Int) : Bool := match l[(n - 1).toNat]? with | some a => atomTrue a w | none => false
theorem cStep_says {l : List Atom} {w : World} {n : Int} {st st' : List (List (List Int))} {s : Int} (hs : codeOk n s = true) (h : ∀ l ∈ st, COk l) (hp : ¬ ((st.length : Int) < fTakes s)) (e : cStep st s = some st') :
    st'.map (someV (valA l w)) = fStep w l (st.map (someV (valA l w))) s := by
  unfold cStep at e
  unfold fStep
  unfold fTakes at hp
  by_cases h12 : s = 12
  · rw [if_pos h12] at e ⊢
    match st, h, e with
    | [], h, e => injection e with e; subst e; rfl
    | x :: r, h, e =>
      simp only at e
      cases hn : noV x with
      | none => rw [hn] at e; cases e
      | some y =>
        rw [hn] at e
        injection e with e
        subst e
        rw [List.map_cons, someV_noV (mem_of_cok (h x (by simp))) hn]
        rfl
  rw [if_neg h12] at e hp ⊢
  by_cases h3 : s = 10 ∨ s = 11 ∨ s = 13
  · rw [if_pos h3] at e hp
    match st, h, e, hp with
    | [], h, e, hp => simp at hp
    | [x], h, e, hp => simp at hp
    | y :: x :: r, h, e, _ =>
      simp only at e
      cases hn : opC s x y with
      | none => rw [hn] at e; cases e
      | some z =>
        rw [hn] at e
        injection e with e
        subst e
        rw [List.map_cons, someV_op h3 (h x (by simp)) (h y (by simp)) hn]
        rcases h3 with rfl | rfl | rfl <;> rfl
  · rw [if_neg h3] at e
    rw [if_neg (by omega), if_neg (by omega), if_neg (by omega)]
    injection e with e
    subst e
    have h0 : 0 ≤ s := by
      rcases codeOk_cases hs with h | h | h | h | h <;> omega
    rw [List.map_cons]
    have e1 : someV (valA l w) [[s + 1]] = valA l w (s + 1) := by
      simp only [someV, cubeV, List.any_cons, List.any_nil, List.all_cons, List.all_nil, Bool.or_false, Bool.and_true]
      exact (lit_opp _ (by omega)).1
    rw [e1]
    unfold valA
    rw [show s + 1 - 1 = s by omega]
    cases l[s.toNat]? <;> rfl
theorem cFold_says {l : List Atom} {w : World} {n : Int} : ∀ (c : List Int) (st st' : List (List (List Int))), c.all (codeOk n) = true → (∀ l ∈ st, COk l) → fShape st.length c = true → cFold st c = some st' →
    st'.map (someV (valA l w)) = c.foldl (fStep w l) (st.map (someV (valA l w))) := by
  intro c
  induction c with
  | nil => intro st st' _ _ _ e; injection e with e; subst e; rfl
  | cons s r ih =>
    intro st st' hc h hs e
    rw [List.all_cons, Bool.and_eq_true] at hc
    rw [fShape] at hs
    split at hs
    · cases hs
    rename_i h1
    rw [cFold] at e
    cases hx : cStep st s with
    | none => rw [hx] at e; cases e
    | some st1 =>
      rw [hx] at e
      rw [ih st1 st' hc.2 (cStep_ok hc.1 h hx) (by rw [cStep_length h1 hx]; exact hs) e, cStep_says hc.1 h h1 hx]
      rfl
/-- CUBES SAY WHAT THE FORMULA SAYS. -/
theorem cubes_say {f : Form} {l : List (List Int)} (h : formChk f = 0) (e : cubesO f.code = some l) (w : World) : someV (valA f.atoms w) l = formTrue f w := by
  obtain ⟨h1, h2, h3, h4, h5, h6, h7⟩ := formChk_parts h
  unfold cubesO at e
  cases hx : cFold [] f.code with
  | none => rw [hx] at e; cases e
  | some st =>
    rw [hx] at e
    injection e with e
    have g := cFold_says (l := f.atoms) (w := w) f.code [] st h6 (fun _ h => by cases h) h7 hx
    obtain ⟨_, g2⟩ := cFold_ok f.code [] st h6 (fun _ h => by cases h) h7 hx
    match st, g2 with
    | [y], _ =>
      subst e
      unfold formTrue
      have g' : [someV (valA f.atoms w) y] = f.code.foldl (fStep w f.atoms) [] := g
      rw [← g']
      rfl
end Venn
