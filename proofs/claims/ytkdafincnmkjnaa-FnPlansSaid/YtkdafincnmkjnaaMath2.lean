/-
  What the functions on fractions, chances and counts return.
-/
import Derived.Test.YtkdafincnmkjnaaMath
set_option linter.unusedVariables false
set_option linter.unusedSimpArgs false
namespace Go.Proofs.Ytkdafincnmkjnaa
open Go.RowKit
def fracOk (a b : Int) : Bool := between a 0 1000000 && between b 1 1000000
def fracLess (a b c d : Int) : Bool := fracOk a b && (fracOk c d && decide (a * d < c * b))
theorem mul_in {a d : Int} (h1 : between a 0 1000000 = true) (h2 : between d 1 1000000 = true) : -9223372036854775808 ≤ a * d ∧ a * d ≤ 9223372036854775807 := by
  rw [between_iff] at *
  have h1' : a * d ≤ 1000000 * 1000000 := Int.mul_le_mul h1.2 h2.2 (by omega) (by omega)
  have h2' : 0 ≤ a * d := Int.mul_nonneg (by omega) (by omega)
  omega
theorem mul_w {a d : Int} (h1 : between a 0 1000000 = true) (h2 : between d 1 1000000 = true) : wrap64 (a * d) = a * d := IntWalk.wrap64_in _ (mul_in h1 h2)
def chanceOk (n a b : Int) : Bool := between n 1 16 && (between a 0 n && between b 0 n)
def chNum (n a b : Int) : Int := if chanceOk n a b then redNum (binomial (n - a) b) (binomial n b) else 0
def chDen (n a b : Int) : Int := if chanceOk n a b then redDen (binomial (n - a) b) (binomial n b) else 0
theorem binomial_bound (n k : Int) : 0 ≤ binomial n k ∧ binomial n k ≤ 20000 := by
  unfold binomial
  split
  · rename_i h
    simp only [Bool.and_eq_true, between_iff] at h
    have := bin_bound (n := n.toNat) (k := k.toNat) (j := k.toNat) (by omega) (by omega) (Nat.le_refl _)
    omega
  · omega

end Go.Proofs.Ytkdafincnmkjnaa
