/-
  Does a slice of ints hold a number?
-/
import Derived.Test.YtmblkllijjlkoaaKOk2
set_option linter.unusedVariables false
set_option linter.unusedSimpArgs false
namespace Go.Proofs.Ytmblkllijjlkoaa
open Go.RowKit
theorem lecz (x y : Int) : (x ≤ y ∧ decide (x ≤ y) = true) ∨ (¬ x ≤ y ∧ decide (x ≤ y) = false) := by
  by_cases h : x ≤ y
  · exact .inl ⟨h, by simpa using h⟩
  · exact .inr ⟨h, by simpa using h⟩
def hasTo (xs : List Int) (x : Int) : Nat → Bool
  | 0 => false
  | k + 1 => hasTo xs x k || xs.getD k 0 == x
def hasI (xs : List Int) (x : Int) : Bool := hasTo xs x xs.length
theorem hasTo_succ {xs : List Int} {x y : Int} {k : Nat} (h : xs[k]? = some y) : hasTo xs x (k + 1) = (hasTo xs x k || y == x) := by rw [hasTo, getD_of h]
theorem hasTo_true {xs : List Int} {x : Int} {k n : Nat} (hk : k < n) (h : (xs.getD k 0 == x) = true) : hasTo xs x n = true := by
  induction n with
  | zero => omega
  | succ n ih =>
    rw [hasTo]
    rcases Nat.lt_or_ge k n with h1 | h1
    · rw [ih h1]; rfl
    · obtain rfl : k = n := by omega
      rw [h, Bool.or_true]
end Go.Proofs.Ytmblkllijjlkoaa
