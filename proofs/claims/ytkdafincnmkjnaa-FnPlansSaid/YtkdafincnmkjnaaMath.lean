/-
  What the functions on fractions, binomial coefficients and counts return.
-/
import Derived.Test.YtkdafincnmkjnaaScal
set_option linter.unusedVariables false
set_option linter.unusedSimpArgs false
namespace Go.Proofs.Ytkdafincnmkjnaa
open Go.RowKit

/-! ### Binomial coefficients -/
def bin (n k : Nat) : Nat → Int
  | 0 => 1
  | j + 1 => bin n k j * ((n : Int) - k + (j + 1)) / (j + 1)
def binomial (n k : Int) : Int := if between n 0 16 && between k 0 n then bin n.toNat k.toNat k.toNat else 0
theorem bin_bound {n k j : Nat} (hn : n ≤ 16) (hk : k ≤ n) (hj : j ≤ k) : 1 ≤ bin n k j ∧ bin n k j ≤ 20000 :=
  (by decide : ∀ n : Fin 17, ∀ k : Fin 17, ∀ j : Fin 17, k.val ≤ n.val → j.val ≤ k.val → 1 ≤ bin n.val k.val j.val ∧ bin n.val k.val j.val ≤ 20000) ⟨n, by omega⟩ ⟨k, by omega⟩ ⟨j, by omega⟩ hk hj
theorem bin_mul_bound {a b : Int} (ha : 1 ≤ a ∧ a ≤ 20000) (hb : 1 ≤ b ∧ b ≤ 16) : 0 ≤ a * b ∧ a * b ≤ 320000 := by
  obtain ⟨hb1, hb2⟩ := hb
  have h1 : a * b ≤ 20000 * 16 := Int.mul_le_mul ha.2 hb2 (by omega) (by omega)
  have h2 : 0 ≤ a * b := Int.mul_nonneg (by omega) (by omega)
  omega


/-! ### Fractions -/
def gcdI (a b : Int) : Int := (Nat.gcd a.toNat b.toNat : Int)
def redNum (a b : Int) : Int := if a < 0 ∨ b < 1 then 0 else a / gcdI a b
def redDen (a b : Int) : Int := if a < 0 ∨ b < 1 then 0 else b / gcdI a b
theorem div_in {m i : Int} (h0 : 0 ≤ m) (hi : 1 ≤ i) (hm : m ≤ 9223372036854775807) : -9223372036854775808 ≤ m / i ∧ m / i ≤ 9223372036854775807 := by
  have h1 := Int.ediv_nonneg h0 (show 0 ≤ i by omega)
  have h2 := Int.ediv_le_self i h0
  omega
theorem gcd_step {a b : Nat} : Nat.gcd b (a % b) = Nat.gcd a b := by rw [Nat.gcd_comm a b, Nat.gcd_rec b a, Nat.gcd_comm]

end Go.Proofs.Ytkdafincnmkjnaa
