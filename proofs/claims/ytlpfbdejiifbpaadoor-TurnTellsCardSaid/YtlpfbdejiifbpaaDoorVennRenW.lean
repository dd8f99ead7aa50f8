/-
  THE PLAIN SIDE of turn.World and turn.Things.
-/
import Derived.Test.YtlpfbdejiifbpaaDoorVennRen
namespace Venn
/-- A world with other names. -/
def toN (a b x y z j : Int) : Int := if a = j then x else if b = j then y else z
def renW (a b : Int) (w : World) : World := ⟨w.things, toN a b w.a w.b w.c 0, toN a b w.a w.b w.c 1, toN a b w.a w.b w.c 2⟩
def renWErr (w : World) (a b c : Int) : Int := if onceV [a, b, c] = true then worldChk w else 1
def renWV (w : World) (a b c : Int) : World := if renWErr w a b c = 0 then renW a b w else ⟨0, 0, 0, 0⟩
/-- A world of other things. -/
def thingsS (s : Int) : Nat → List Int → Int → Int
  | _, [], acc => acc
  | i, t :: q, acc => thingsS s (i + 1) q (orBit acc s.toNat i t)
def thingsW (q : List Int) (w : World) : World := ⟨w.things, thingsS w.a 0 q 0, thingsS w.b 0 q 0, thingsS w.c 0 q 0⟩
def thingsErr (w : World) (q : List Int) : Int := if worldChk w = 0 then (if (q.length : Int) = w.things then (if onceV q = true then 0 else 1) else 3) else worldChk w
def thingsV (w : World) (q : List Int) : World := if thingsErr w q = 0 then thingsW q w else ⟨0, 0, 0, 0⟩
theorem upFrom_mem : ∀ (l : List Int) (i : Int), upFrom i l = true → ∀ x ∈ l, i ≤ x ∧ x < i + l.length := by
  intro l
  induction l with
  | nil => intro i _ x hx; cases hx
  | cons y r ih =>
    intro i h x hx
    simp only [upFrom, Bool.and_eq_true, beq_iff_eq] at h
    obtain ⟨rfl, h2⟩ := h
    simp only [List.length_cons]
    rcases List.mem_cons.1 hx with rfl | hx
    · omega
    · have := ih _ h2 x hx
      omega
theorem upFrom_nodup : ∀ (l : List Int) (i : Int), upFrom i l = true → l.Nodup := by
  intro l
  induction l with
  | nil => intro i _; exact List.nodup_nil
  | cons y r ih =>
    intro i h
    simp only [upFrom, Bool.and_eq_true, beq_iff_eq] at h
    obtain ⟨rfl, h2⟩ := h
    refine List.nodup_cons.2 ⟨fun hm => ?_, ih _ h2⟩
    have := upFrom_mem r _ h2 y hm
    omega
theorem sortI_perm (l : List Int) : (sortI l).Perm l := List.mergeSort_perm _ _
theorem once_mem {l : List Int} (h : onceV l = true) : ∀ x ∈ l, 0 ≤ x ∧ x < (l.length : Int) := by
  intro x hx
  have := upFrom_mem _ 0 h x ((sortI_perm l).mem_iff.2 hx)
  rw [sortI_len] at this
  omega
theorem once_nodup {l : List Int} (h : onceV l = true) : l.Nodup := (sortI_perm l).nodup_iff.1 (upFrom_nodup _ 0 h)
/-- Three names: six ways. -/
theorem once_three {a b c : Int} (h : onceV [a, b, c] = true) : (a = 0 ∧ b = 1 ∧ c = 2) ∨ (a = 0 ∧ b = 2 ∧ c = 1) ∨ (a = 1 ∧ b = 0 ∧ c = 2) ∨ (a = 1 ∧ b = 2 ∧ c = 0) ∨ (a = 2 ∧ b = 0 ∧ c = 1) ∨ (a = 2 ∧ b = 1 ∧ c = 0) := by
  have h1 := once_mem h
  have h2 := once_nodup h
  have ha := h1 a (by simp)
  have hb := h1 b (by simp)
  have hc := h1 c (by simp)
  simp at ha hb hc h2
  omega
end Venn
