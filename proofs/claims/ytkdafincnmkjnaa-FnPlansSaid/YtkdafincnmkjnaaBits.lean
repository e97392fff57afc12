/-
  Bitmaps as natural numbers.
-/
import Derived.Test.YtkdafincnmkjnaaInts
set_option linter.unusedVariables false
set_option linter.unusedSimpArgs false
namespace Go.Proofs.Ytkdafincnmkjnaa
open Go.RowKit
theorem i64_nat (a b : Nat) (ha : a < 65536) (hb : b < 65536) : bits .and .i64 (a : Int) (b : Int) = ((a &&& b : Nat) : Int) ∧ bits .or .i64 (a : Int) (b : Int) = ((a ||| b : Nat) : Int) :=
  bits_nat .i64 16 (by decide) (fun n h0 h1 => by rw [IntKind.wrap_i64]; omega) a b (by omega) (by omega)
theorem i64_andNot (a b : Nat) (ha : a < 65536) (hb : b < 65536) : bits .andNot .i64 (a : Int) (b : Int) = ((a ^^^ (a &&& b) : Nat) : Int) := by
  have key : (BitVec.ofInt 64 (a : Int) &&& ~~~(BitVec.ofInt 64 (b : Int))).toNat = a ^^^ (a &&& b) := by
    rw [BitVec.toNat_and, BitVec.toNat_not, BitVec.ofInt_natCast, BitVec.ofInt_natCast, BitVec.toNat_ofNat, BitVec.toNat_ofNat, Nat.mod_eq_of_lt (by omega), Nat.mod_eq_of_lt (by omega)]
    apply Nat.eq_of_testBit_eq
    intro i
    rw [Nat.testBit_and, Nat.testBit_xor, Nat.testBit_and, show 2 ^ 64 - 1 - b = 2 ^ 64 - (b + 1) by omega, Nat.testBit_two_pow_sub_succ (by omega)]
    by_cases hi : i < 64
    · simp [hi]
      cases a.testBit i <;> cases b.testBit i <;> rfl
    · have : a.testBit i = false := Nat.testBit_lt_two_pow (Nat.lt_of_lt_of_le (show a < 2 ^ 16 by omega) (Nat.pow_le_pow_right (by omega) (by omega)))
      simp [this]
  have hx : a ^^^ (a &&& b) < 2 ^ 16 := Nat.xor_lt_two_pow (by omega) (Nat.and_lt_two_pow _ (by omega))
  show IntKind.i64.wrap ((BitVec.ofInt 64 (a : Int) &&& ~~~(BitVec.ofInt 64 (b : Int))).toNat : Nat) = _
  rw [key, IntKind.wrap_i64]
  omega
theorem hasSlot_bit (b i : Nat) (hb : b < 65536) (hi : i < 16) : hasSlot (b : Int) (i : Int) = b.testBit i := by
  have h1 : slotOk (b : Int) (i : Int) = true := slotOk_iff.2 ⟨by omega, by omega, by omega⟩
  have h2 : (b : Int) / 2 ^ (i : Int).toNat = ((b / 2 ^ i : Nat) : Int) := by rw [Int.toNat_natCast, Int.natCast_ediv]; simp
  have h3 : b / 2 ^ i < 65536 := Nat.lt_of_le_of_lt (Nat.div_le_self _ _) hb
  unfold hasSlot
  rw [h1, h2, show (1 : Int) = ((1 : Nat) : Int) from rfl, (i64_nat _ _ h3 (by omega)).1, Bool.true_and, Nat.and_one_is_mod, Nat.testBit_eq_decide_div_mod_eq, Bool.eq_iff_iff]
  simp only [beq_iff_eq, decide_eq_true_eq]
  omega
theorem pow16 {i : Nat} (hi : i < 16) : 2 ^ i < 65536 := by
  have : 2 ^ i ≤ 2 ^ 15 := Nat.pow_le_pow_right (by omega) (by omega)
  omega
theorem withSlot_bit (b i : Nat) (hb : b < 65536) (hi : i < 16) : withSlot (b : Int) (i : Int) = ((b ||| 2 ^ i : Nat) : Int) := by
  have h1 : slotOk (b : Int) (i : Int) = true := slotOk_iff.2 ⟨by omega, by omega, by omega⟩
  have h2 : (2 : Int) ^ (i : Int).toNat = ((2 ^ i : Nat) : Int) := by rw [Int.toNat_natCast]; simp
  unfold withSlot
  rw [if_pos h1, h2, (i64_nat _ _ hb (pow16 hi)).2]
theorem withoutSlot_bit (b i : Nat) (hb : b < 65536) (hi : i < 16) : withoutSlot (b : Int) (i : Int) = ((b ^^^ (b &&& 2 ^ i) : Nat) : Int) := by
  have h1 : slotOk (b : Int) (i : Int) = true := slotOk_iff.2 ⟨by omega, by omega, by omega⟩
  have h2 : (2 : Int) ^ (i : Int).toNat = ((2 ^ i : Nat) : Int) := by rw [Int.toNat_natCast]; simp
  unfold withoutSlot
  rw [if_pos h1, h2, i64_andNot _ _ hb (pow16 hi)]
/-- A slot that was free is taken and given back. -/
theorem slot_back (b i : Nat) (hb : b < 65536) (hi : i < 16) (h : b.testBit i = false) : (b ||| 2 ^ i) ^^^ ((b ||| 2 ^ i) &&& 2 ^ i) = b := by
  apply Nat.eq_of_testBit_eq
  intro j
  rw [Nat.testBit_xor, Nat.testBit_and, Nat.testBit_or, Nat.testBit_two_pow]
  by_cases hj : i = j
  · subst hj; simp [h]
  · simp [hj]
theorem mem_freeTo (b : Int) : ∀ (k : Nat) (x : Int), x ∈ freeTo b k ↔ (0 ≤ x ∧ x < k) ∧ hasSlot b x = false
  | 0, x => by simp [freeTo]; omega
  | k + 1, x => by
    rw [freeTo, List.mem_append, mem_freeTo b k x]
    cases h : hasSlot b k
    · simp only [Bool.false_eq_true, if_false, List.mem_singleton]
      constructor
      · rintro (h1 | rfl)
        · exact ⟨by omega, h1.2⟩
        · exact ⟨by omega, h⟩
      · rintro ⟨h1, h2⟩
        by_cases hx : x = k
        · exact .inr hx
        · exact .inl ⟨by omega, h2⟩
    · simp only [if_true, List.not_mem_nil, or_false]
      constructor
      · rintro ⟨h1, h2⟩; exact ⟨by omega, h2⟩
      · rintro ⟨h1, h2⟩
        refine ⟨⟨h1.1, ?_⟩, h2⟩
        rcases Int.lt_or_eq_of_le (show x ≤ k by omega) with h3 | h3
        · exact h3
        · subst h3; rw [h] at h2; exact absurd h2 (by decide)
end Go.Proofs.Ytkdafincnmkjnaa
