/-
  What the functions that count return.
-/
import Derived.Test.YtkdafincnmkjnaaMath2
set_option linter.unusedVariables false
set_option linter.unusedSimpArgs false
namespace Go.Proofs.Ytkdafincnmkjnaa
open Go.RowKit
/-- How many of the first k slots a bitmap has. -/
def countTo (b : Int) : Nat → Nat
  | 0 => 0
  | k + 1 => countTo b k + if hasSlot b k then 1 else 0
def countSlots (b : Int) : Int := countTo b 16
theorem countTo_le (b : Int) (k : Nat) : countTo b k ≤ k := by
  induction k with
  | zero => exact Nat.le_refl _
  | succ k ih => simp only [countTo]; split <;> omega
theorem s_CountSlots (b : Int) (w : World) : Calls Try.prog 21 #[.int .i64 b] w fun e w' => e = .returned (.int .i64 (countSlots b)) ∧ w = w' := by
  (have hall := all_nil w; go_enter Try.func21, Try.ntmps21)
  go_wp2_with (first | (go_at_call 22; (first | (refine (s_HasSlot _ _ true (by assumption) _).mono ?_) | (refine (s_HasSlot _ _ false (by assumption) _).mono ?_) | (refine (s_HasSlot _ _ _ rfl _).mono ?_)); rintro e w2 ⟨rfl, rfl⟩))
  go_loop [3, 4] (fun n i => ∃ k : Nat, k ≤ 16 ∧ i = .int .i64 k ∧ n = .int .i64 (countTo b k)) (fun _ i => 16 - (intOf i).toNat)
  case atStart => exact ⟨0, Nat.zero_le _, rfl, rfl⟩
  case round =>
    obtain ⟨k, hk, rfl, rfl⟩ := hrel
    have hle := countTo_le b k
    by_cases hlt : k < 16
    · have hs : Hid (countTo b (k + 1) = countTo b k + if hasSlot b k then 1 else 0) := rfl
      cases hh : hasSlot b k
      all_goals go_wp2_with (first | (go_at_call 22; (first | (refine (s_HasSlot _ _ true (by assumption) _).mono ?_) | (refine (s_HasSlot _ _ false (by assumption) _).mono ?_) | (refine (s_HasSlot _ _ _ rfl _).mono ?_)); rintro e w2 ⟨rfl, rfl⟩))
      all_goals go_round
      case rel => exact ⟨k + 1, by omega, by go_num, by rw [hs.out, if_neg (by simp [hh])]; rfl⟩
      case measure => simp [intOf]; omega
      case rel => exact ⟨k + 1, by omega, by go_num, by rw [hs.out, if_pos (by simp [hh])]; go_num⟩
      case measure => simp [intOf]; omega
    · obtain rfl : k = 16 := by omega
      go_wp2_with (first | (go_at_call 22; (first | (refine (s_HasSlot _ _ true (by assumption) _).mono ?_) | (refine (s_HasSlot _ _ false (by assumption) _).mono ?_) | (refine (s_HasSlot _ _ _ rfl _).mono ?_)); rintro e w2 ⟨rfl, rfl⟩))
      go_ret
      exact ⟨rfl, rfl⟩

end Go.Proofs.Ytkdafincnmkjnaa
