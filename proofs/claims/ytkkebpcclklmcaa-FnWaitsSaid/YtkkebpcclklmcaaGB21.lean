/-
  Texts put together: Span.
-/
import Derived.Test.YtkkebpcclklmcaaGB4
/-
  What the functions on one span or two return.
-/
set_option linter.unusedVariables false
set_option linter.unusedSimpArgs false
namespace Go.Proofs.Ytkkebpcclklmcaa
open Go.RowKit

def meshable (p c b p' c' b' : Int) : Bool := spanOk p c b && (spanOk p' c' b' && (c == c' && (p != p' && bits .and .i64 b b' == 0)))
theorem spanOk_parts {p c b : Int} (h : spanOk p c b = true) : (0 ≤ p ∧ p ≤ 31) ∧ (0 ≤ c ∧ c ≤ 3) ∧ bitmapOk (slotsOf c) b = true := by
  simp only [spanOk, Bool.and_eq_true, between_iff] at h; exact ⟨h.1.1, h.1.2, h.2⟩
def spanAddr (p c b slot : Int) : Int := if spanOk p c b && between slot 0 (slotsOf c - 1) then p * 16 + slot * classSize c else -1
theorem spanAddr_mul {slot c : Int} (h : between slot 0 (slotsOf c - 1) = true) : 0 ≤ slot * classSize c ∧ slot * classSize c ≤ 15 := by
  cases hc : between c 0 3 with
  | false => simp [slotsOf, classSize, hc, between_iff] at *
  | true =>
    rw [between_iff] at h
    rcases class_cases hc with rfl | rfl | rfl | rfl <;> simp [slotsOf, classSize, hc] at * <;> omega

theorem div_in' {m i : Int} (h0 : 0 ≤ m) (hi : 1 ≤ i) (hi8 : i ≤ 8) (hm : m ≤ 9223372036854775807) : wrap64 (m / i) = m / i ∧ wrap64 (m % i) = m % i := by
  have h1 := Int.ediv_nonneg h0 (show 0 ≤ i by omega)
  have h2 := Int.ediv_le_self i h0
  have h3 := Int.emod_nonneg m (show i ≠ 0 by omega)
  have h4 := Int.emod_lt_of_pos m (show 0 < i by omega)
  exact ⟨IntWalk.wrap64_in _ ⟨by omega, by omega⟩, IntWalk.wrap64_in _ ⟨by omega, by omega⟩⟩
end Go.Proofs.Ytkkebpcclklmcaa
