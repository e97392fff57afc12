/-
  What the functions that count return.
-/
import Derived.Test.YtohmpjabplmleaaMath2
set_option linter.unusedVariables false
set_option linter.unusedSimpArgs false
namespace Go.Proofs.Ytohmpjabplmleaa
open Go.RowKit
/-- How many of the first k slots a bitmap has. -/
def countTo (b : Int) : Nat → Nat
  | 0 => 0
  | k + 1 => countTo b k + if hasSlot b k then 1 else 0
def countSlots (b : Int) : Int := countTo b 16
theorem countTo_le (b : Int) (k : Nat) : countTo b k ≤ k := by
  induction k with
  | zero => exact Nat.le_refl _
  | succ k ih => simp only [countTo]; split <;> omega
theorem i_CountSlots (b : Int) (w : World) : Calls Try.prog 51 #[.int .i64 b] w fun e w' => e = .returned (.int .i64 (countSlots b)) ∧ w = w' := by
  (have hall := all_nil w; go_enter Try.func51, Try.ntmps51)
  go_wp2_with (first | (go_at_call 56; (first | (refine (i_HasSlot _ _ true (by assumption) _).mono ?_) | (refine (i_HasSlot _ _ false (by assumption) _).mono ?_) | (refine (i_HasSlot _ _ _ rfl _).mono ?_)); rintro e w2 ⟨rfl, rfl⟩))
  go_loop [3, 4] (fun n i => ∃ k : Nat, k ≤ 16 ∧ i = .int .i64 k ∧ n = .int .i64 (countTo b k)) (fun _ i => 16 - (intOf i).toNat)
  case atStart => exact ⟨0, Nat.zero_le _, rfl, rfl⟩
  case round =>
    obtain ⟨k, hk, rfl, rfl⟩ := hrel
    have hle := countTo_le b k
    by_cases hlt : k < 16
    · have hs : Hid (countTo b (k + 1) = countTo b k + if hasSlot b k then 1 else 0) := rfl
      cases hh : hasSlot b k
      all_goals go_wp2_with (first | (go_at_call 56; (first | (refine (i_HasSlot _ _ true (by assumption) _).mono ?_) | (refine (i_HasSlot _ _ false (by assumption) _).mono ?_) | (refine (i_HasSlot _ _ _ rfl _).mono ?_)); rintro e w2 ⟨rfl, rfl⟩))
      all_goals go_round
      case rel => exact ⟨k + 1, by omega, by go_num, by rw [hs.out, if_neg (by simp [hh])]; rfl⟩
      case measure => simp [intOf]; omega
      case rel => exact ⟨k + 1, by omega, by go_num, by rw [hs.out, if_pos (by simp [hh])]; go_num⟩
      case measure => simp [intOf]; omega
    · obtain rfl : k = 16 := by omega
      go_wp2_with (first | (go_at_call 56; (first | (refine (i_HasSlot _ _ true (by assumption) _).mono ?_) | (refine (i_HasSlot _ _ false (by assumption) _).mono ?_) | (refine (i_HasSlot _ _ _ rfl _).mono ?_)); rintro e w2 ⟨rfl, rfl⟩))
      go_ret
      exact ⟨rfl, rfl⟩
theorem s_CountSlots (b : Int) (w : World) : Calls Try.prog 49 #[.int .i64 b] w fun e w' => e = .returned (.int .i64 (countSlots b)) ∧ w = w' := by
  (have hall := all_nil w; go_enter Try.func49, Try.ntmps49)
  go_wp2_with (first | (go_at_call 55; (first | (refine (s_HasSlot _ _ true (by assumption) _).mono ?_) | (refine (s_HasSlot _ _ false (by assumption) _).mono ?_) | (refine (s_HasSlot _ _ _ rfl _).mono ?_)); rintro e w2 ⟨rfl, rfl⟩))
  go_loop [3, 4] (fun n i => ∃ k : Nat, k ≤ 16 ∧ i = .int .i64 k ∧ n = .int .i64 (countTo b k)) (fun _ i => 16 - (intOf i).toNat)
  case atStart => exact ⟨0, Nat.zero_le _, rfl, rfl⟩
  case round =>
    obtain ⟨k, hk, rfl, rfl⟩ := hrel
    have hle := countTo_le b k
    by_cases hlt : k < 16
    · have hs : Hid (countTo b (k + 1) = countTo b k + if hasSlot b k then 1 else 0) := rfl
      cases hh : hasSlot b k
      all_goals go_wp2_with (first | (go_at_call 55; (first | (refine (s_HasSlot _ _ true (by assumption) _).mono ?_) | (refine (s_HasSlot _ _ false (by assumption) _).mono ?_) | (refine (s_HasSlot _ _ _ rfl _).mono ?_)); rintro e w2 ⟨rfl, rfl⟩))
      all_goals go_round
      case rel => exact ⟨k + 1, by omega, by go_num, by rw [hs.out, if_neg (by simp [hh])]; rfl⟩
      case measure => simp [intOf]; omega
      case rel => exact ⟨k + 1, by omega, by go_num, by rw [hs.out, if_pos (by simp [hh])]; go_num⟩
      case measure => simp [intOf]; omega
    · obtain rfl : k = 16 := by omega
      go_wp2_with (first | (go_at_call 55; (first | (refine (s_HasSlot _ _ true (by assumption) _).mono ?_) | (refine (s_HasSlot _ _ false (by assumption) _).mono ?_) | (refine (s_HasSlot _ _ _ rfl _).mono ?_)); rintro e w2 ⟨rfl, rfl⟩))
      go_ret
      exact ⟨rfl, rfl⟩

def disjAt (a b : Int) (x : Int) : Bool := countSlots x == b && bits .and .i64 x (2 ^ a.toNat - 1) == 0
def disjTo (a b : Int) : Nat → Nat
  | 0 => 0
  | k + 1 => disjTo a b k + if disjAt a b k then 1 else 0
theorem disjTo_le (a b : Int) (k : Nat) : disjTo a b k ≤ k := by
  induction k with
  | zero => exact Nat.le_refl _
  | succ k ih => simp only [disjTo]; split <;> omega
def countDisjoint (n a b : Int) : Int := if chanceOk n a b && decide (n ≤ 10) then (disjTo a b (2 ^ n.toNat) : Int) else 0
set_option maxHeartbeats 400000 in
theorem i_CountDisjoint (n a b : Int) (w : World) : Calls Try.prog 31 #[.int .i64 n, .int .i64 a, .int .i64 b] w fun e w' => e = .returned (.int .i64 (countDisjoint n a b)) ∧ w = w' := by
  cases h1 : chanceOk n a b
  · (have hall := all_nil w; go_enter Try.func31, Try.ntmps31)
    go_wp2_with (first | (go_at_call 50; (first | (refine (i_chanceOk _ _ _ true (by assumption) _).mono ?_) | (refine (i_chanceOk _ _ _ false (by assumption) _).mono ?_) | (refine (i_chanceOk _ _ _ _ rfl _).mono ?_)); rintro e w2 ⟨rfl, rfl⟩) | (go_at_call 51; (refine (i_CountSlots _ _).mono ?_); rintro e w2 ⟨rfl, rfl⟩))
    all_goals go_ret
    all_goals exact ⟨by simp [countDisjoint, h1], rfl⟩
  by_cases h2 : n ≤ 10
  · have hd : (1 ≤ n ∧ n ≤ 16) ∧ (0 ≤ a ∧ a ≤ 16) := by
      simp only [chanceOk, Bool.and_eq_true, between_iff] at h1; omega
    have hp := pow_in (c := n) (by omega) (by omega)
    have hq := pow_in (c := a) (by omega) (by omega)
    have H : Hid (countDisjoint n a b = (disjTo a b (2 ^ n.toNat) : Int)) := by unfold Hid; simp [countDisjoint, h1, h2]
    obtain ⟨M, hM⟩ : ∃ M : Nat, M = 2 ^ n.toNat := ⟨_, rfl⟩
    have hM2 : wrap64 (2 ^ n.toNat) = (M : Int) := by rw [hp.1, hM]; norm_cast
    have hM3 : M ≤ 65536 := by have := hp.2.2.2; rw [hM]; omega
    rw [← hM] at H
    have hA : wrap64 (wrap64 (2 ^ a.toNat) - 1) = 2 ^ a.toNat - 1 := by rw [hq.1, hq.2.1]
    have hA2 : ∀ x, Hid ((bits .and .i64 x (wrap64 (wrap64 (2 ^ a.toNat) - 1)) == 0) = (bits .and .i64 x (2 ^ a.toNat - 1) == 0)) := fun x => by rw [hA]; rfl
    have HA := Lib.hid hA; clear hp hq hM hA hA2
    (have hall := all_nil w; go_enter Try.func31, Try.ntmps31)
    go_wp2_with (first | (go_at_call 50; (first | (refine (i_chanceOk _ _ _ true (by assumption) _).mono ?_) | (refine (i_chanceOk _ _ _ false (by assumption) _).mono ?_) | (refine (i_chanceOk _ _ _ _ rfl _).mono ?_)); rintro e w2 ⟨rfl, rfl⟩) | (go_at_call 51; (refine (i_CountSlots _ _).mono ?_); rintro e w2 ⟨rfl, rfl⟩))
    go_loop [7, 8] (fun c i => ∃ k : Nat, k ≤ M ∧ i = .int .i64 k ∧ c = .int .i64 (disjTo a b k)) (fun _ i => M - (intOf i).toNat)
    case atStart => exact ⟨0, Nat.zero_le _, rfl, rfl⟩
    case round =>
      obtain ⟨k, hk, rfl, rfl⟩ := hrel
      have hle := disjTo_le a b k
      by_cases hlt : k < M
      · have hs : Hid (disjTo a b (k + 1) = disjTo a b k + if disjAt a b k then 1 else 0) := rfl
        cases hh : (countSlots k == b)
        · go_wp2_with (first | (go_at_call 50; (first | (refine (i_chanceOk _ _ _ true (by assumption) _).mono ?_) | (refine (i_chanceOk _ _ _ false (by assumption) _).mono ?_) | (refine (i_chanceOk _ _ _ _ rfl _).mono ?_)); rintro e w2 ⟨rfl, rfl⟩) | (go_at_call 51; (refine (i_CountSlots _ _).mono ?_); rintro e w2 ⟨rfl, rfl⟩))
          go_round
          case rel => exact ⟨k + 1, by omega, by go_num, by rw [hs.out, if_neg (by simp [disjAt, hh])]; rfl⟩
          case measure => simp [intOf]; omega
        · cases hh2 : (bits .and .i64 k (wrap64 (wrap64 (2 ^ a.toNat) - 1)) == 0)
          · have hdd : Hid (disjAt a b k = false) := by unfold Hid; rw [disjAt, hh, ← HA.out, hh2]; rfl
            go_wp2_with (first | (go_at_call 50; (first | (refine (i_chanceOk _ _ _ true (by assumption) _).mono ?_) | (refine (i_chanceOk _ _ _ false (by assumption) _).mono ?_) | (refine (i_chanceOk _ _ _ _ rfl _).mono ?_)); rintro e w2 ⟨rfl, rfl⟩) | (go_at_call 51; (refine (i_CountSlots _ _).mono ?_); rintro e w2 ⟨rfl, rfl⟩))
            go_round
            case rel => exact ⟨k + 1, by omega, by go_num, by rw [hs.out, hdd.out]; rfl⟩
            case measure => simp [intOf]; omega
          · have hdd : Hid (disjAt a b k = true) := by unfold Hid; rw [disjAt, hh, ← HA.out, hh2]; rfl
            go_wp2_with (first | (go_at_call 50; (first | (refine (i_chanceOk _ _ _ true (by assumption) _).mono ?_) | (refine (i_chanceOk _ _ _ false (by assumption) _).mono ?_) | (refine (i_chanceOk _ _ _ _ rfl _).mono ?_)); rintro e w2 ⟨rfl, rfl⟩) | (go_at_call 51; (refine (i_CountSlots _ _).mono ?_); rintro e w2 ⟨rfl, rfl⟩))
            go_round
            case rel => exact ⟨k + 1, by omega, by go_num, by rw [hs.out, hdd.out]; go_num⟩
            case measure => simp [intOf]; omega
      · obtain rfl : k = M := by omega
        go_wp2_with (first | (go_at_call 50; (first | (refine (i_chanceOk _ _ _ true (by assumption) _).mono ?_) | (refine (i_chanceOk _ _ _ false (by assumption) _).mono ?_) | (refine (i_chanceOk _ _ _ _ rfl _).mono ?_)); rintro e w2 ⟨rfl, rfl⟩) | (go_at_call 51; (refine (i_CountSlots _ _).mono ?_); rintro e w2 ⟨rfl, rfl⟩))
        go_ret
        exact ⟨ret_int (by rw [H.out]), rfl⟩
  · (have hall := all_nil w; go_enter Try.func31, Try.ntmps31)
    go_wp2_with (first | (go_at_call 50; (first | (refine (i_chanceOk _ _ _ true (by assumption) _).mono ?_) | (refine (i_chanceOk _ _ _ false (by assumption) _).mono ?_) | (refine (i_chanceOk _ _ _ _ rfl _).mono ?_)); rintro e w2 ⟨rfl, rfl⟩) | (go_at_call 51; (refine (i_CountSlots _ _).mono ?_); rintro e w2 ⟨rfl, rfl⟩))
    all_goals go_ret
    all_goals exact ⟨ret_int (by unfold countDisjoint; rw [if_neg (by simp; omega)]), rfl⟩
set_option maxHeartbeats 400000 in
theorem s_CountDisjoint (n a b : Int) (w : World) : Calls Try.prog 30 #[.int .i64 n, .int .i64 a, .int .i64 b] w fun e w' => e = .returned (.int .i64 (countDisjoint n a b)) ∧ w = w' := by
  cases h1 : chanceOk n a b
  · (have hall := all_nil w; go_enter Try.func30, Try.ntmps30)
    go_wp2_with (first | (go_at_call 48; (first | (refine (s_l12Ok _ _ _ true (by assumption) _).mono ?_) | (refine (s_l12Ok _ _ _ false (by assumption) _).mono ?_) | (refine (s_l12Ok _ _ _ _ rfl _).mono ?_)); rintro e w2 ⟨rfl, rfl⟩) | (go_at_call 49; (refine (s_CountSlots _ _).mono ?_); rintro e w2 ⟨rfl, rfl⟩))
    all_goals go_ret
    all_goals exact ⟨by simp [countDisjoint, h1], rfl⟩
  by_cases h2 : n ≤ 10
  · have hd : (1 ≤ n ∧ n ≤ 16) ∧ (0 ≤ a ∧ a ≤ 16) := by
      simp only [chanceOk, Bool.and_eq_true, between_iff] at h1; omega
    have hp := pow_in (c := n) (by omega) (by omega)
    have hq := pow_in (c := a) (by omega) (by omega)
    have H : Hid (countDisjoint n a b = (disjTo a b (2 ^ n.toNat) : Int)) := by unfold Hid; simp [countDisjoint, h1, h2]
    obtain ⟨M, hM⟩ : ∃ M : Nat, M = 2 ^ n.toNat := ⟨_, rfl⟩
    have hM2 : wrap64 (2 ^ n.toNat) = (M : Int) := by rw [hp.1, hM]; norm_cast
    have hM3 : M ≤ 65536 := by have := hp.2.2.2; rw [hM]; omega
    rw [← hM] at H
    have hA : wrap64 (wrap64 (2 ^ a.toNat) - 1) = 2 ^ a.toNat - 1 := by rw [hq.1, hq.2.1]
    have hA2 : ∀ x, Hid ((bits .and .i64 x (wrap64 (wrap64 (2 ^ a.toNat) - 1)) == 0) = (bits .and .i64 x (2 ^ a.toNat - 1) == 0)) := fun x => by rw [hA]; rfl
    have HA := Lib.hid hA; clear hp hq hM hA hA2
    (have hall := all_nil w; go_enter Try.func30, Try.ntmps30)
    go_wp2_with (first | (go_at_call 48; (first | (refine (s_l12Ok _ _ _ true (by assumption) _).mono ?_) | (refine (s_l12Ok _ _ _ false (by assumption) _).mono ?_) | (refine (s_l12Ok _ _ _ _ rfl _).mono ?_)); rintro e w2 ⟨rfl, rfl⟩) | (go_at_call 49; (refine (s_CountSlots _ _).mono ?_); rintro e w2 ⟨rfl, rfl⟩))
    go_loop [7, 8] (fun c i => ∃ k : Nat, k ≤ M ∧ i = .int .i64 k ∧ c = .int .i64 (disjTo a b k)) (fun _ i => M - (intOf i).toNat)
    case atStart => exact ⟨0, Nat.zero_le _, rfl, rfl⟩
    case round =>
      obtain ⟨k, hk, rfl, rfl⟩ := hrel
      have hle := disjTo_le a b k
      by_cases hlt : k < M
      · have hs : Hid (disjTo a b (k + 1) = disjTo a b k + if disjAt a b k then 1 else 0) := rfl
        cases hh : (countSlots k == b)
        · go_wp2_with (first | (go_at_call 48; (first | (refine (s_l12Ok _ _ _ true (by assumption) _).mono ?_) | (refine (s_l12Ok _ _ _ false (by assumption) _).mono ?_) | (refine (s_l12Ok _ _ _ _ rfl _).mono ?_)); rintro e w2 ⟨rfl, rfl⟩) | (go_at_call 49; (refine (s_CountSlots _ _).mono ?_); rintro e w2 ⟨rfl, rfl⟩))
          go_round
          case rel => exact ⟨k + 1, by omega, by go_num, by rw [hs.out, if_neg (by simp [disjAt, hh])]; rfl⟩
          case measure => simp [intOf]; omega
        · cases hh2 : (bits .and .i64 k (wrap64 (wrap64 (2 ^ a.toNat) - 1)) == 0)
          · have hdd : Hid (disjAt a b k = false) := by unfold Hid; rw [disjAt, hh, ← HA.out, hh2]; rfl
            go_wp2_with (first | (go_at_call 48; (first | (refine (s_l12Ok _ _ _ true (by assumption) _).mono ?_) | (refine (s_l12Ok _ _ _ false (by assumption) _).mono ?_) | (refine (s_l12Ok _ _ _ _ rfl _).mono ?_)); rintro e w2 ⟨rfl, rfl⟩) | (go_at_call 49; (refine (s_CountSlots _ _).mono ?_); rintro e w2 ⟨rfl, rfl⟩))
            go_round
            case rel => exact ⟨k + 1, by omega, by go_num, by rw [hs.out, hdd.out]; rfl⟩
            case measure => simp [intOf]; omega
          · have hdd : Hid (disjAt a b k = true) := by unfold Hid; rw [disjAt, hh, ← HA.out, hh2]; rfl
            go_wp2_with (first | (go_at_call 48; (first | (refine (s_l12Ok _ _ _ true (by assumption) _).mono ?_) | (refine (s_l12Ok _ _ _ false (by assumption) _).mono ?_) | (refine (s_l12Ok _ _ _ _ rfl _).mono ?_)); rintro e w2 ⟨rfl, rfl⟩) | (go_at_call 49; (refine (s_CountSlots _ _).mono ?_); rintro e w2 ⟨rfl, rfl⟩))
            go_round
            case rel => exact ⟨k + 1, by omega, by go_num, by rw [hs.out, hdd.out]; go_num⟩
            case measure => simp [intOf]; omega
      · obtain rfl : k = M := by omega
        go_wp2_with (first | (go_at_call 48; (first | (refine (s_l12Ok _ _ _ true (by assumption) _).mono ?_) | (refine (s_l12Ok _ _ _ false (by assumption) _).mono ?_) | (refine (s_l12Ok _ _ _ _ rfl _).mono ?_)); rintro e w2 ⟨rfl, rfl⟩) | (go_at_call 49; (refine (s_CountSlots _ _).mono ?_); rintro e w2 ⟨rfl, rfl⟩))
        go_ret
        exact ⟨ret_int (by rw [H.out]), rfl⟩
  · (have hall := all_nil w; go_enter Try.func30, Try.ntmps30)
    go_wp2_with (first | (go_at_call 48; (first | (refine (s_l12Ok _ _ _ true (by assumption) _).mono ?_) | (refine (s_l12Ok _ _ _ false (by assumption) _).mono ?_) | (refine (s_l12Ok _ _ _ _ rfl _).mono ?_)); rintro e w2 ⟨rfl, rfl⟩) | (go_at_call 49; (refine (s_CountSlots _ _).mono ?_); rintro e w2 ⟨rfl, rfl⟩))
    all_goals go_ret
    all_goals exact ⟨ret_int (by unfold countDisjoint; rw [if_neg (by simp; omega)]), rfl⟩

end Go.Proofs.Ytohmpjabplmleaa
