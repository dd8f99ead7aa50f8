/-
  THE PLAIN SIDE of vennlaw2.TurnSame: counts with other names, looked at one by one.
-/
import Derived.Test.YtlpfbdejiifbpaaDoorVennOnce
namespace Venn
def permC (a b : Int) (x : List Int) : List Int := fieldsOf (renW a b (made x))
set_option maxRecDepth 1000000 in
theorem permC_lits : ∀ (a b a' b' : Fin 3), (a.val ≠ b.val ∧ a'.val ≠ b'.val ∧ (∀ k : Fin 3, renS (a.val : Int) (b.val : Int) (3 - (a.val : Int) - (b.val : Int)) (renS (a'.val : Int) (b'.val : Int) (3 - (a'.val : Int) - (b'.val : Int)) (k.val : Int)) = (k.val : Int))) →
    ∀ u : Fin 5, ∀ x ∈ allG 7 u.val, permC (a.val : Int) (b.val : Int) (permC (a'.val : Int) (b'.val : Int) x) = x ∧ ways (permC (a.val : Int) (b.val : Int) x) = ways x := by decide +kernel
set_option maxRecDepth 1000000 in
theorem allG_nodup : ∀ u : Fin 5, (allG 7 u.val).Nodup := by decide +kernel
end Venn
