/-
  The cells of a span: a slot's cells denote the slot; there are as many cells as slots in use times the size of a slot.
-/
import Derived.Test.YtoopdfnpfeeanaaCells
import Derived.Test.YtoopdfnpfeeanaaCount
import Derived.Test.YtoopdfnpfeeanaaBits
import Derived.Test.YtoopdfnpfeeanaaSpan
import Derived.Test.YtoopdfnpfeeanaaDraw4
set_option linter.unusedVariables false
set_option linter.unusedSimpArgs false
namespace Go.Proofs.Ytoopdfnpfeeanaa
open Go.RowKit
theorem cells_row (c b : Int) (s : Nat) (hs : classSize c = s) (j : Nat) : ∀ r, r ≤ s → (cellsTo c b (j * s + r)).length = (cellsTo c b (j * s)).length + if hasSlot b j then r else 0
  | 0, _ => by simp
  | r + 1, h => by
    have hd : ((j * s + r : Nat) : Int) / (s : Int) = (j : Int) := by
      rw [← Int.natCast_ediv, Nat.mul_comm j s, Nat.mul_add_div (by omega), Nat.div_eq_of_lt (show r < s by omega), Nat.add_zero]
    rw [show j * s + (r + 1) = (j * s + r) + 1 by omega, cellsTo, List.length_append, cells_row c b s hs j r (by omega), hs, hd]
    split <;> simp
    omega
theorem cells_mul (c b : Int) (s : Nat) (hs : classSize c = s) : ∀ j, (cellsTo c b (j * s)).length = countTo b j * s
  | 0 => by simp [cellsTo, countTo]
  | j + 1 => by
    rw [Nat.succ_mul, cells_row c b s hs j s (Nat.le_refl _), cells_mul c b s hs j, countTo, Nat.add_mul]
    split <;> simp
theorem count_above (b n : Nat) (hb : b < 2 ^ n) (hn : n ≤ 16) : ∀ k, n ≤ k → k ≤ 16 → countTo (b : Int) k = countTo (b : Int) n
  | 0, h, _ => by rw [show n = 0 by omega]
  | k + 1, h, h2 => by
    rcases Nat.lt_or_ge k n with h1 | h1
    · rw [show n = k + 1 by omega]
    · have h16 : 2 ^ n ≤ 2 ^ 16 := Nat.pow_le_pow_right (by omega) hn
      rw [countTo, count_above b n hb hn k h1 (by omega), hasSlot_bit b k (by omega) (by omega), Nat.testBit_lt_two_pow (Nat.lt_of_lt_of_le hb (Nat.pow_le_pow_right (by omega) h1))]
      simp
theorem cells_count {p c b : Int} (hp : 0 ≤ p ∧ p ≤ 7) (hc : 0 ≤ c ∧ c ≤ 3) (hb : 0 ≤ b ∧ b < 2 ^ slotsNat c) : ((spanCells p c b).length : Int) = countSlots b * classSize c := by
  have h4 := classSize_four hc
  have hm := class_mul (between_iff.2 hc)
  have hn : (slotsNat c : Int) = slotsOf c := by have := slotsOf_bound c; unfold slotsNat; omega
  obtain ⟨b, rfl⟩ := Int.eq_ofNat_of_zero_le hb.1
  obtain ⟨s, hs⟩ : ∃ s : Nat, classSize c = (s : Int) := ⟨(classSize c).toNat, by omega⟩
  rw [← hn, hs] at hm
  have hm' : slotsNat c * s = 16 := by exact_mod_cast hm
  have hs1 : 1 ≤ s := by omega
  have hn16 : slotsNat c ≤ 16 := by have := slotsOf_bound c; omega
  have hn1 : 1 ≤ slotsNat c := by
    rcases Nat.eq_zero_or_pos (slotsNat c) with h | h
    · rw [h] at hm'; omega
    · exact h
  have hbn : b < 2 ^ slotsNat c := by have : ((2 : Int) ^ slotsNat c) = ((2 ^ slotsNat c : Nat) : Int) := by simp
                                      omega
  have hok : spanOk p c (b : Int) = true := by
    simp only [spanOk, Bool.and_eq_true, between_iff, bitmapOk, ← hn, Int.toNat_natCast]
    omega
  unfold spanCells countSlots
  have hl := cells_mul c b s hs (slotsNat c)
  rw [hm'] at hl
  rw [if_pos hok, hl, hs, count_above b _ hbn hn16 16 hn16 (Nat.le_refl _)]
  simp
theorem spanOk_drawn {p c b : Int} (hp : 0 ≤ p ∧ p ≤ 7) (hc : 0 ≤ c ∧ c ≤ 3) (hb : 0 ≤ b ∧ b < 2 ^ slotsNat c) : spanOk p c b = true := by
  have hn : (slotsNat c : Int) = slotsOf c := by have := slotsOf_bound c; unfold slotsNat; omega
  have h2 : 1 ≤ slotsOf c := by rcases class_cases (between_iff.2 hc) with rfl | rfl | rfl | rfl <;> decide
  have := slotsOf_bound c
  simp only [spanOk, Bool.and_eq_true, between_iff, bitmapOk, ← hn, Int.toNat_natCast]
  omega
theorem slotsOf_pos {c : Int} (hc : 0 ≤ c ∧ c ≤ 3) : 1 ≤ slotsOf c ∧ slotsOf c ≤ 16 := by
  rcases class_cases (between_iff.2 hc) with rfl | rfl | rfl | rfl <;> decide
theorem slot_back_at {p c b q r : Int} (hp : 0 ≤ p ∧ p ≤ 7) (hc : 0 ≤ c ∧ c ≤ 3) (hok : spanOk p c b = true) (hq : 0 ≤ q) (hr : 0 ≤ r) :
    (0 ≤ spanAddr p c b (q % slotsOf c) + r % classSize c ∧ spanAddr p c b (q % slotsOf c) + r % classSize c ≤ 1000) ∧
    slotAtA p c b (spanAddr p c b (q % slotsOf c) + r % classSize c) = q % slotsOf c ∧ slotAtB p c b (spanAddr p c b (q % slotsOf c) + r % classSize c) = r % classSize c ∧ 0 ≤ spanAddr p c b (q % slotsOf c) := by
  have hcs : (classSize c = 1 ∧ slotsOf c = 16) ∨ (classSize c = 2 ∧ slotsOf c = 8) ∨ (classSize c = 4 ∧ slotsOf c = 4) ∨ (classSize c = 8 ∧ slotsOf c = 2) := by
    rcases class_cases (between_iff.2 hc) with rfl | rfl | rfl | rfl <;> decide
  have e1 : between (q % slotsOf c) 0 (slotsOf c - 1) = true := by
    rw [between_iff]; rcases hcs with ⟨_, h2⟩ | ⟨_, h2⟩ | ⟨_, h2⟩ | ⟨_, h2⟩ <;> rw [h2] <;> omega
  have e2 : spanAddr p c b (q % slotsOf c) = p * 16 + (q % slotsOf c) * classSize c := by unfold spanAddr; rw [hok, e1]; rfl
  have e3 : slotIn p c b (spanAddr p c b (q % slotsOf c) + r % classSize c) = true := by
    unfold slotIn; rw [hok, e2, Bool.true_and, between_iff]
    rcases hcs with ⟨h1, h2⟩ | ⟨h1, h2⟩ | ⟨h1, h2⟩ | ⟨h1, h2⟩ <;> rw [h1, h2] <;> omega
  unfold slotAtA slotAtB
  rw [e3, if_pos rfl, if_pos rfl, e2]
  rcases hcs with ⟨h1, h2⟩ | ⟨h1, h2⟩ | ⟨h1, h2⟩ | ⟨h1, h2⟩ <;> rw [h1, h2] <;> omega
end Go.Proofs.Ytoopdfnpfeeanaa
