/-
  Seeds, choices, and the slot that a span takes.
-/
import Derived.Test.YtkdafincnmkjnaaCells
import Derived.Deep.RegionHeld3
set_option linter.unusedVariables false
set_option linter.unusedSimpArgs false
namespace Go.Proofs.Ytkdafincnmkjnaa
open Go.RowKit
def nextSeed (s : Int) : Int := if between s 0 1073741823 then (1103515245 * s + 12345) % 1073741824 else 0
def chooseOk (s n : Int) : Bool := between s 0 1073741823 && between n 1 1000
def chooseK (s n : Int) : Int := if chooseOk s n then nextSeed s / 1024 % n else 0
def chooseS (s n : Int) : Int := if chooseOk s n then nextSeed s else s
theorem nextSeed_in (s : Int) : 0 ≤ nextSeed s ∧ nextSeed s ≤ 1073741823 := by unfold nextSeed; split <;> omega
theorem chooseK_in {s n : Int} (hn : 1 ≤ n) : 0 ≤ chooseK s n ∧ chooseK s n < n := by
  unfold chooseK
  split
  · exact ⟨Int.emod_nonneg _ (by omega), Int.emod_lt_of_pos _ (by omega)⟩
  · omega
theorem mod_w {k m : Int} (hk : 0 ≤ k) (hm : 1 ≤ m) (hm2 : m ≤ 1000) : wrap64 (k % m) = k % m := by
  have h1 := Int.emod_nonneg k (show m ≠ 0 by omega)
  have h2 := Int.emod_lt_of_pos k (show 0 < m by omega)
  exact IntWalk.wrap64_in _ ⟨by omega, by omega⟩
theorem i_seedOk (s : Int) (r : Bool) (hr : between s 0 1073741823 = r) (w : World) : Calls Try.prog 93 #[.int .i64 s] w fun e w' => e = .returned (.bool r) ∧ w = w' := by
  subst hr
  (have hall := all_nil w; go_enter Try.func93, Try.ntmps93)
  go_wp2_with (first | (go_at_call 90; (first | (refine (i_between _ _ _ true (by assumption) _).mono ?_) | (refine (i_between _ _ _ false (by assumption) _).mono ?_) | (refine (i_between _ _ _ _ rfl _).mono ?_)); rintro e w2 ⟨rfl, rfl⟩))
  all_goals (go_ret; refine ⟨?_, rfl⟩; (simp_all []))
theorem i_NextSeed (s : Int) (w : World) : Calls Try.prog 131 #[.int .i64 s] w fun e w' => e = .returned (.int .i64 (nextSeed s)) ∧ w = w' := by
  cases h : between s 0 1073741823
  · (have hall := all_nil w; go_enter Try.func131, Try.ntmps131)
    go_wp2_with (first | (go_at_call 93; (first | (refine (i_seedOk _ true (by assumption) _).mono ?_) | (refine (i_seedOk _ false (by assumption) _).mono ?_) | (refine (i_seedOk _ _ rfl _).mono ?_)); rintro e w2 ⟨rfl, rfl⟩))
    go_ret
    exact ⟨by simp [nextSeed, h], rfl⟩
  · have hb := between_iff.1 h
    (have hall := all_nil w; go_enter Try.func131, Try.ntmps131)
    go_wp2_with (first | (go_at_call 93; (first | (refine (i_seedOk _ true (by assumption) _).mono ?_) | (refine (i_seedOk _ false (by assumption) _).mono ?_) | (refine (i_seedOk _ _ rfl _).mono ?_)); rintro e w2 ⟨rfl, rfl⟩))
    go_ret
    exact ⟨by simp [nextSeed, h], rfl⟩
theorem s_NextSeed (s : Int) (w : World) : Calls Try.prog 125 #[.int .i64 s] w fun e w' => e = .returned (.int .i64 (nextSeed s)) ∧ w = w' := by
  cases h : between s 0 1073741823
  · (have hall := all_nil w; go_enter Try.func125, Try.ntmps125)
    go_wp2_with (first | (go_at_call 88; (first | (refine (s_l01In _ _ _ true (by assumption) _).mono ?_) | (refine (s_l01In _ _ _ false (by assumption) _).mono ?_) | (refine (s_l01In _ _ _ _ rfl _).mono ?_)); rintro e w2 ⟨rfl, rfl⟩))
    go_ret
    exact ⟨by simp [nextSeed, h], rfl⟩
  · have hb := between_iff.1 h
    (have hall := all_nil w; go_enter Try.func125, Try.ntmps125)
    go_wp2_with (first | (go_at_call 88; (first | (refine (s_l01In _ _ _ true (by assumption) _).mono ?_) | (refine (s_l01In _ _ _ false (by assumption) _).mono ?_) | (refine (s_l01In _ _ _ _ rfl _).mono ?_)); rintro e w2 ⟨rfl, rfl⟩))
    go_ret
    exact ⟨by simp [nextSeed, h], rfl⟩

theorem i_Choose (s n : Int) (w : World) : Calls Try.prog 122 #[.int .i64 s, .int .i64 n] w fun e w' => e = .returned (.tuple #[.int .i64 (chooseK s n), .int .i64 (chooseS s n)]) ∧ w = w' := by
  cases h1 : between s 0 1073741823; rotate_left; cases h2 : between n 1 1000
  rotate_left
  · have hb := between_iff.1 h2
    have hs := nextSeed_in s
    have D1 := Lib.hid (mod_w (k := nextSeed s / 1024) (m := n) (by omega) (by omega) (by omega))
    (have hall := all_nil w; go_enter Try.func122, Try.ntmps122)
    go_wp2_with (first | (go_at_call 93; (first | (refine (i_seedOk _ true (by assumption) _).mono ?_) | (refine (i_seedOk _ false (by assumption) _).mono ?_) | (refine (i_seedOk _ _ rfl _).mono ?_)); rintro e w2 ⟨rfl, rfl⟩) | (go_at_call 90; (first | (refine (i_between _ _ _ true (by assumption) _).mono ?_) | (refine (i_between _ _ _ false (by assumption) _).mono ?_) | (refine (i_between _ _ _ _ rfl _).mono ?_)); rintro e w2 ⟨rfl, rfl⟩) | (go_at_call 131; (refine (i_NextSeed _ _).mono ?_); rintro e w2 ⟨rfl, rfl⟩))
    go_ret2
    exact ⟨by simp [chooseK, chooseS, chooseOk, h1, h2, D1.out], rfl⟩
  all_goals (have hall := all_nil w; go_enter Try.func122, Try.ntmps122)
  all_goals go_wp2_with (first | (go_at_call 93; (first | (refine (i_seedOk _ true (by assumption) _).mono ?_) | (refine (i_seedOk _ false (by assumption) _).mono ?_) | (refine (i_seedOk _ _ rfl _).mono ?_)); rintro e w2 ⟨rfl, rfl⟩) | (go_at_call 90; (first | (refine (i_between _ _ _ true (by assumption) _).mono ?_) | (refine (i_between _ _ _ false (by assumption) _).mono ?_) | (refine (i_between _ _ _ _ rfl _).mono ?_)); rintro e w2 ⟨rfl, rfl⟩) | (go_at_call 131; (refine (i_NextSeed _ _).mono ?_); rintro e w2 ⟨rfl, rfl⟩))
  all_goals go_ret2
  all_goals exact ⟨by simp [chooseK, chooseS, chooseOk, *], rfl⟩
theorem s_Choose (s n : Int) (w : World) : Calls Try.prog 97 #[.int .i64 s, .int .i64 n] w fun e w' => e = .returned (.tuple #[.int .i64 (chooseK s n), .int .i64 (chooseS s n)]) ∧ w = w' := by
  cases h1 : between n 1 1000; rotate_left; cases h2 : between s 0 1073741823
  rotate_left
  · have hb := between_iff.1 h1
    have hs := nextSeed_in s
    have D1 := Lib.hid (mod_w (k := nextSeed s / 1024) (m := n) (by omega) (by omega) (by omega))
    (have hall := all_nil w; go_enter Try.func97, Try.ntmps97)
    go_wp2_with (first | (go_at_call 88; (first | (refine (s_l01In _ _ _ true (by assumption) _).mono ?_) | (refine (s_l01In _ _ _ false (by assumption) _).mono ?_) | (refine (s_l01In _ _ _ _ rfl _).mono ?_)); rintro e w2 ⟨rfl, rfl⟩) | (go_at_call 125; (refine (s_NextSeed _ _).mono ?_); rintro e w2 ⟨rfl, rfl⟩))
    go_ret2
    exact ⟨by simp [chooseK, chooseS, chooseOk, h1, h2, D1.out], rfl⟩
  all_goals (have hall := all_nil w; go_enter Try.func97, Try.ntmps97)
  all_goals go_wp2_with (first | (go_at_call 88; (first | (refine (s_l01In _ _ _ true (by assumption) _).mono ?_) | (refine (s_l01In _ _ _ false (by assumption) _).mono ?_) | (refine (s_l01In _ _ _ _ rfl _).mono ?_)); rintro e w2 ⟨rfl, rfl⟩) | (go_at_call 125; (refine (s_NextSeed _ _).mono ?_); rintro e w2 ⟨rfl, rfl⟩))
  all_goals go_ret2
  all_goals exact ⟨by simp [chooseK, chooseS, chooseOk, *], rfl⟩

def takeFree (c b : Int) : List Int := freeSlots (slotsOf c) b
def takeOk (p c b seed : Int) : Bool := spanOk p c b && (between seed 0 1073741823 && !(((takeFree c b).length : Int) == 0))
def takeK (c b seed : Int) : Nat := (chooseK seed (takeFree c b).length).toNat
def takeSlot (p c b seed : Int) : Int := if takeOk p c b seed then (takeFree c b).getD (takeK c b seed) 0 else -1
def takeBits (p c b seed : Int) : Int := if takeOk p c b seed then withSlot b ((takeFree c b).getD (takeK c b seed) 0) else b
def takeSeed (p c b seed : Int) : Int := if takeOk p c b seed then chooseS seed (takeFree c b).length else seed
theorem freeTo_in (b : Int) : ∀ (k : Nat) (x : Int), x ∈ freeTo b k → 0 ≤ x ∧ x < k
  | 0, x, h => by simp [freeTo] at h
  | k + 1, x, h => by
    simp only [freeTo, List.mem_append] at h
    rcases h with h | h
    · have := freeTo_in b k x h; omega
    · split at h
      · simp at h
      · simp at h; omega
theorem takeFree_len (c b : Int) : (takeFree c b).length ≤ 16 := by
  unfold takeFree freeSlots
  split
  · rename_i h
    have := freeTo_le b (slotsOf c).toNat
    have := slotsOf_bound c
    omega
  · simp
end Go.Proofs.Ytkdafincnmkjnaa
