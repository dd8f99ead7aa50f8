/-
  THE PLAIN LAW of vennlaw2.TurnSame: no name is special, and no thing.
-/
import Derived.Test.YtlpfbdejiifbpaaDoorVennOnce
import Derived.Test.YtlpfbdejiifbpaaDoorVennTurnL
namespace Venn
/-! ### other things: the fields have as many -/
theorem perm_sum {l m : List Int} (h : l.Perm m) : l.sum = m.sum := by
  induction h with
  | nil => rfl
  | cons x _ ih => rw [List.sum_cons, List.sum_cons, ih]
  | swap x y l => simp only [List.sum_cons]; omega
  | trans _ _ h1 h2 => exact h1.trans h2
theorem once_perm {l : List Int} (h : onceV l = true) : l.Perm (upTo l.length) := by
  have h1 := upFrom_mem _ 0 h
  have h2 := upFrom_nodup _ 0 h
  have hl := sortI_len l
  have key : ∀ (s : List Int) (i : Int), upFrom i s = true → s = (List.range s.length).map fun k : Nat => i + (k : Int) := by
    intro s
    induction s with
    | nil => intro i _; rfl
    | cons x r ih =>
      intro i hs
      simp only [upFrom, Bool.and_eq_true, beq_iff_eq] at hs
      obtain ⟨rfl, hs⟩ := hs
      have := ih _ hs
      rw [List.length_cons, List.range_succ_eq_map, List.map_cons, List.map_map]
      have e : ((fun k : Nat => x + (k : Int)) ∘ Nat.succ) = fun k : Nat => x + 1 + (k : Int) := by
        funext k
        simp only [Function.comp]
        omega
      rw [e, ← this]
      simp
  have h3 := key _ 0 h
  rw [hl] at h3
  have h4 : sortI l = upTo l.length := by
    rw [h3, upTo]
    exact List.map_congr_left fun k _ => by omega
  rw [← h4]
  exact (sortI_perm l).symm
def isF (w : World) (f i : Nat) : Int := if fieldIn w i = f then 1 else 0
theorem fieldsAt_list (w : World) (f : Nat) : ∀ n, fieldsAt w n f = ((List.range n).map (isF w f)).sum := by
  intro n
  induction n with
  | zero => rfl
  | succ n ih => rw [fieldsAt, ih, List.range_succ, List.map_append, List.sum_append]; simp [isF]
theorem things_has (q : List Int) (w : World) (k : Int) : (thingsW q w).has k = thingsS (w.has k) 0 q 0 := by
  unfold World.has thingsW
  simp only
  split
  · rfl
  · split <;> rfl
theorem fieldIn_things {w : World} (hw : worldChk w = 0) {q : List Int} (ho : onceV q = true) {m : Nat} {t : Int} (hm : q[m]? = some t) : fieldIn (thingsW q w) t.toNat = fieldIn w m := by
  obtain ⟨_, h2, h3, h4⟩ := worldChk_iff.1 hw
  unfold fieldIn thingsW
  simp only
  rw [bit_thing_at (setChk_iff.1 h2).2.1 ho hm, bit_thing_at (setChk_iff.1 h3).2.1 ho hm, bit_thing_at (setChk_iff.1 h4).2.1 ho hm]
theorem fieldsAt_things {w : World} (hw : worldChk w = 0) {q : List Int} (ho : onceV q = true) (f : Nat) : fieldsAt (thingsW q w) q.length f = fieldsAt w q.length f := by
  rw [fieldsAt_list, fieldsAt_list]
  have h1 := perm_sum ((once_perm ho).map fun t => isF (thingsW q w) f t.toNat)
  have h2 : (upTo q.length).map (fun t => isF (thingsW q w) f t.toNat) = (List.range q.length).map (isF (thingsW q w) f) := by
    unfold upTo
    rw [List.map_map]
    exact List.map_congr_left fun k _ => by simp
  have h3 : q.map (fun t => isF (thingsW q w) f t.toNat) = (List.range q.length).map (isF w f) := by
    refine List.ext_getElem? fun k => ?_
    by_cases hk : k < q.length
    · have hm : q[k]? = some q[k] := List.getElem?_eq_getElem hk
      rw [List.getElem?_map, hm, List.getElem?_map, List.getElem?_range hk]
      simp only [Option.map_some, isF, fieldIn_things hw ho hm]
    · rw [List.getElem?_eq_none (by simp; omega), List.getElem?_eq_none (by simp; omega)]
  rw [← h2, ← h1, h3]
theorem fields_things {w : World} (hw : worldChk w = 0) {q : List Int} (ho : onceV q = true) (hl : (q.length : Int) = w.things) : fieldsOf (thingsW q w) = fieldsOf w := by
  have hn : w.things.toNat = q.length := by omega
  unfold fieldsOf
  rw [show (thingsW q w).things = w.things from rfl, hn]
  simp only [fieldsAt_things hw ho]
theorem formTrue_things {f : Form} (hf : formChk f = 0) {w : World} (hw : worldChk w = 0) {q : List Int} (ho : onceV q = true) (hl : (q.length : Int) = w.things) : formTrue f (thingsW q w) = formTrue f w := by
  rw [← formTrue_made hf (thingsW_right hw ho hl), fields_things hw ho hl, formTrue_made hf hw]
/-! ### other names -/
theorem renW_has {a b c : Int} (h : onceV [a, b, c] = true) (w : World) {s : Int} (h0 : 0 ≤ s) (h3 : s < 3) : (renW a b w).has (renS a b c s) = w.has s := by
  rcases once_three h with ⟨rfl, rfl, rfl⟩ | ⟨rfl, rfl, rfl⟩ | ⟨rfl, rfl, rfl⟩ | ⟨rfl, rfl, rfl⟩ | ⟨rfl, rfl, rfl⟩ | ⟨rfl, rfl, rfl⟩
  all_goals
    rcases (by omega : s = 0 ∨ s = 1 ∨ s = 2) with rfl | rfl | rfl
    all_goals simp [renS, renW, toN, World.has]
theorem setStep_ren {a b c : Int} (h : onceV [a, b, c] = true) (w : World) (st : List Int) {s : Int} (h0 : 0 ≤ s) : setStep (renW a b w) st (renS a b c s) = setStep w st s := by
  by_cases h3 : s < 3
  · have hr := renS_in (once_in3 h) ⟨h0, h3⟩
    unfold setStep
    rw [if_pos hr.2, if_pos h3, renW_has h w h0 h3]
  · rw [renS_out a b c (Or.inr (by omega))]
    unfold setStep
    rw [if_neg h3, if_neg h3]
    rfl
theorem termSet_ren {a b c : Int} (h : onceV [a, b, c] = true) (w : World) {t : List Int} (ht : ∀ s ∈ t, 0 ≤ s) : termSet (renT a b c t) (renW a b w) = termSet t w := by
  have key : ∀ (t : List Int) (st : List Int), (∀ s ∈ t, 0 ≤ s) → (renT a b c t).foldl (setStep (renW a b w)) st = t.foldl (setStep w) st := by
    intro t
    induction t with
    | nil => intro st _; rfl
    | cons s r ih =>
      intro st hs
      show (renT a b c r).foldl (setStep (renW a b w)) (setStep (renW a b w) st (renS a b c s)) = _
      rw [setStep_ren h w st (hs s (by simp)), ih _ fun x hx => hs x (List.mem_cons_of_mem _ hx)]
      rfl
  unfold termSet
  rw [key t [] ht]
theorem term_pos {t : List Int} (h : termChk t = 0) : ∀ s ∈ t, 0 ≤ s := fun s hs => ((termChk_parts h).2.2.1 s hs).1
theorem atomTrue_ren {a b c : Int} (h : onceV [a, b, c] = true) (w : World) {x : Atom} (hx : atomChk x = 0) : atomTrue (renA a b c x) (renW a b w) = atomTrue x w := by
  obtain ⟨_, _, hs, ht1, ht2, _⟩ := atomChk_parts hx
  have h1 := termSet_ren h w (term_pos hs)
  have h2 : termSet (renT a b c x.t) (renW a b w) = termSet x.t w := by
    cases hT : hasT x.what
    · rw [ht2 hT]; rfl
    · exact termSet_ren h w (term_pos (ht1 hT))
  unfold atomTrue renA
  simp only [h1, h2]
theorem formTrue_ren {a b c : Int} (h : onceV [a, b, c] = true) (w : World) {f : Form} (hf : formChk f = 0) : formTrue (renF a b c f) (renW a b w) = formTrue f w := by
  have ha := atomsChk_mem (formChk_parts hf).2.2.2.2.1
  have e : fStep (renW a b w) (f.atoms.map (renA a b c)) = fStep w f.atoms := by
    funext st s
    cases hh : f.atoms[s.toNat]? with
    | none =>
      unfold fStep
      rw [List.getElem?_map, hh]
      rfl
    | some x =>
      unfold fStep
      rw [List.getElem?_map, hh]
      simp only [Option.map_some, atomTrue_ren h w (ha x (List.mem_of_getElem? hh))]
  unfold formTrue renF
  simp only
  rw [e]
/-! ### in as many worlds -/
theorem renW_right {a b c : Int} (h : onceV [a, b, c] = true) {w : World} (hw : worldChk w = 0) : worldChk (renW a b w) = 0 := by
  obtain ⟨h1, h2, h3, h4⟩ := worldChk_iff.1 hw
  refine worldChk_iff.2 ?_
  rcases once_three h with ⟨rfl, rfl, rfl⟩ | ⟨rfl, rfl, rfl⟩ | ⟨rfl, rfl, rfl⟩ | ⟨rfl, rfl, rfl⟩ | ⟨rfl, rfl, rfl⟩ | ⟨rfl, rfl, rfl⟩
  all_goals
    simp only [renW, toN]
    simp [h1, h2, h3, h4]
theorem perm_of_sub {α : Type} [BEq α] [LawfulBEq α] : ∀ (l m : List α), l.Nodup → (∀ x ∈ l, x ∈ m) → m.length ≤ l.length → l.Perm m := by
  intro l
  induction l with
  | nil =>
    intro m _ _ hl
    have : m = [] := List.eq_nil_of_length_eq_zero (by simpa using hl)
    subst this
    exact List.Perm.refl _
  | cons a l ih =>
    intro m hn hs hl
    obtain ⟨ha, hn'⟩ := List.nodup_cons.1 hn
    have hm := hs a (by simp)
    have h1 := List.perm_cons_erase hm
    have h2 := ih (m.erase a) hn' (fun x hx => (List.mem_erase_of_ne (fun e : x = a => ha (e ▸ hx))).2 (hs x (List.mem_cons_of_mem _ hx))) (by rw [List.length_erase_of_mem hm]; simp only [List.length_cons] at hl; omega)
    exact (h2.cons a).trans h1.symm
/-- Each way of three names has its way back. -/
theorem once_back {a b c : Int} (h : onceV [a, b, c] = true) : ∃ A B A' B' : Fin 3, a = (A.val : Int) ∧ b = (B.val : Int) ∧ c = 3 - a - b ∧
    (A.val ≠ B.val ∧ A'.val ≠ B'.val ∧ (∀ k : Fin 3, renS (A.val : Int) (B.val : Int) (3 - (A.val : Int) - (B.val : Int)) (renS (A'.val : Int) (B'.val : Int) (3 - (A'.val : Int) - (B'.val : Int)) (k.val : Int)) = (k.val : Int))) ∧
    (A'.val ≠ B'.val ∧ A.val ≠ B.val ∧ (∀ k : Fin 3, renS (A'.val : Int) (B'.val : Int) (3 - (A'.val : Int) - (B'.val : Int)) (renS (A.val : Int) (B.val : Int) (3 - (A.val : Int) - (B.val : Int)) (k.val : Int)) = (k.val : Int))) := by
  rcases once_three h with ⟨rfl, rfl, rfl⟩ | ⟨rfl, rfl, rfl⟩ | ⟨rfl, rfl, rfl⟩ | ⟨rfl, rfl, rfl⟩ | ⟨rfl, rfl, rfl⟩ | ⟨rfl, rfl, rfl⟩
  · exact ⟨0, 1, 0, 1, rfl, rfl, rfl, by decide, by decide⟩
  · exact ⟨0, 2, 0, 2, rfl, rfl, rfl, by decide, by decide⟩
  · exact ⟨1, 0, 1, 0, rfl, rfl, rfl, by decide, by decide⟩
  · exact ⟨1, 2, 2, 0, rfl, rfl, rfl, by decide, by decide⟩
  · exact ⟨2, 0, 1, 2, rfl, rfl, rfl, by decide, by decide⟩
  · exact ⟨2, 1, 2, 1, rfl, rfl, rfl, by decide, by decide⟩
theorem permC_mem {a b c : Int} (h : onceV [a, b, c] = true) {u : Int} (hu : things u = true) {x : List Int} (hx : x ∈ allC u) : permC a b x ∈ allC u := by
  obtain ⟨h1, h2⟩ := made_allC hu hx
  have h3 := fieldsOf_mem (renW_right h h1)
  rw [show (renW a b (made x)).things = (made x).things from rfl, h2] at h3
  exact h3
theorem worldsGo_sum (f : Form) : ∀ l : List (List Int), worldsGo f l = (l.map fun x => if formTrue f (made x) = true then ways x else 0).sum := by
  intro l
  unfold worldsGo
  have key : ∀ (l : List (List Int)) (s : Int), l.foldl (fun s x => if formTrue f (made x) = true then s + ways x else s) s = s + (l.map fun x => if formTrue f (made x) = true then ways x else 0).sum := by
    intro l
    induction l with
    | nil => intro s; simp
    | cons x r ih =>
      intro s
      rw [List.foldl_cons, ih, List.map_cons, List.sum_cons]
      split <;> omega
  rw [key]
  omega
theorem worlds_ren {a b c : Int} (h : onceV [a, b, c] = true) {f : Form} (hf : formChk f = 0) {u : Int} (hu : things u = true) (h4 : u ≤ 4) : worldsV (renF a b c f) u = worldsV f u := by
  have hth := hu
  simp only [things, Bool.and_eq_true, decide_eq_true_eq] at hth
  have hg := formChk_ren (once_in3 h) f
  obtain ⟨A, B, A', B', ha, hb, hc, k1, k2⟩ := once_back h
  have hU : u.toNat < 5 := by omega
  have hin : ∀ x, x ∈ allC u → x ∈ allG 7 (⟨u.toNat, hU⟩ : Fin 5).val := fun x hx => by simpa [allC] using hx
  have l1 : ∀ x ∈ allC u, ways (permC a b x) = ways x := fun x hx => by
    have := (permC_lits A B A' B' k1 ⟨u.toNat, hU⟩ x (hin x hx)).2
    rwa [← ha, ← hb] at this
  have l2 : ∀ x ∈ allC u, permC (A'.val : Int) (B'.val : Int) (permC a b x) = x := fun x hx => by
    have := (permC_lits A' B' A B k2 ⟨u.toNat, hU⟩ x (hin x hx)).1
    rwa [← ha, ← hb] at this
  have hn : (allC u).Nodup := allG_nodup ⟨u.toNat, hU⟩
  have hp : ((allC u).map (permC a b)).Perm (allC u) := by
    refine perm_of_sub _ _ ?_ (fun y hy => ?_) (by simp)
    · unfold List.Nodup at hn ⊢
      rw [List.pairwise_map]
      exact hn.imp_of_mem fun {x y} hx hy hne e => hne (by rw [← l2 x hx, ← l2 y hy, e])
    · obtain ⟨x, hx, rfl⟩ := List.mem_map.1 hy
      exact permC_mem h hu hx
  have hs := perm_sum (hp.map fun x => if formTrue (renF a b c f) (made x) = true then ways x else 0)
  rw [List.map_map] at hs
  have ht : ∀ x ∈ allC u, formTrue (renF a b c f) (made (permC a b x)) = formTrue f (made x) := fun x hx => by
    obtain ⟨m1, m2⟩ := made_allC hu hx
    have r1 := renW_right h m1
    rw [← formTrue_ren h (made x) hf]
    unfold permC
    exact formTrue_made (by rw [hg]; exact hf) r1
  have he : (allC u).map ((fun x => if formTrue (renF a b c f) (made x) = true then ways x else 0) ∘ permC a b) = (allC u).map fun x => if formTrue f (made x) = true then ways x else 0 :=
    List.map_congr_left fun x hx => by simp only [Function.comp, ht x hx, l1 x hx]
  rw [he] at hs
  have e1 : worldsChk (renF a b c f) u = 0 := by rw [worldsChk, hg, if_pos hf, if_pos hu]
  have e2 : worldsChk f u = 0 := by rw [worldsChk, if_pos hf, if_pos hu]
  rw [worldsV, worldsV, if_pos e1, if_pos e2, worldsGo_sum, worldsGo_sum]
  exact hs.symm
end Venn
