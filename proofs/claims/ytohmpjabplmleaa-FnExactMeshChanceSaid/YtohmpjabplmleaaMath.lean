/-
  What the functions on fractions, binomial coefficients and counts return.
-/
import Derived.Test.YtohmpjabplmleaaScal
set_option linter.unusedVariables false
set_option linter.unusedSimpArgs false
namespace Go.Proofs.Ytohmpjabplmleaa
open Go.RowKit

/-! ### Binomial coefficients -/
def bin (n k : Nat) : Nat → Int
  | 0 => 1
  | j + 1 => bin n k j * ((n : Int) - k + (j + 1)) / (j + 1)
def binomial (n k : Int) : Int := if between n 0 16 && between k 0 n then bin n.toNat k.toNat k.toNat else 0
theorem bin_bound {n k j : Nat} (hn : n ≤ 16) (hk : k ≤ n) (hj : j ≤ k) : 1 ≤ bin n k j ∧ bin n k j ≤ 20000 :=
  (by decide : ∀ n : Fin 17, ∀ k : Fin 17, ∀ j : Fin 17, k.val ≤ n.val → j.val ≤ k.val → 1 ≤ bin n.val k.val j.val ∧ bin n.val k.val j.val ≤ 20000) ⟨n, by omega⟩ ⟨k, by omega⟩ ⟨j, by omega⟩ hk hj
theorem bin_mul_bound {a b : Int} (ha : 1 ≤ a ∧ a ≤ 20000) (hb : 1 ≤ b ∧ b ≤ 16) : 0 ≤ a * b ∧ a * b ≤ 320000 := by
  obtain ⟨hb1, hb2⟩ := hb
  have h1 : a * b ≤ 20000 * 16 := Int.mul_le_mul ha.2 hb2 (by omega) (by omega)
  have h2 : 0 ≤ a * b := Int.mul_nonneg (by omega) (by omega)
  omega
theorem i_Binomial (n k : Int) (w : World) : Calls Try.prog 19 #[.int .i64 n, .int .i64 k] w fun e w' => e = .returned (.int .i64 (binomial n k)) ∧ w = w' := by
  cases h1 : between n 0 16
  · (have hall := all_nil w; go_enter Try.func19, Try.ntmps19)
    go_wp2_with (first | (go_at_call 39; (first | (refine (i_between _ _ _ true (by assumption) _).mono ?_) | (refine (i_between _ _ _ false (by assumption) _).mono ?_) | (refine (i_between _ _ _ _ rfl _).mono ?_)); rintro e w2 ⟨rfl, rfl⟩) | (with_reducible refine wp_region_grew (by kernel_rfl) (by kernel_rfl) ?_; (repeat (go_big_quiet_step (first | (go_at_call 39; first | exact calls_same (i_between _ _ _ true (by assumption) _) | exact calls_same (i_between _ _ _ false (by assumption) _) | exact calls_same (i_between _ _ _ _ rfl _))))); refine wpQuiet_nil ?_; intro w2 hw'; have hb := grew_below hw'; clear hw'; obtain ⟨hc, hf⟩ := bcell hb; have hz := hb.size; (try simp only [World.size_alloc, World.size_setCell, World.size_drew] at hz); (first | (replace hall := ext4 (w2 := w2) hall (by omega)) | (replace hall := ext3 (w2 := w2) hall (by omega)) | (replace hall := ext2 (w2 := w2) hall (by omega)) | (replace hall := ext1 (w2 := w2) hall (by omega)) | (replace hall := ext0 (w2 := w2) hall (by omega))); have hx := hall; (try simp only [allLt, and_true] at hx); obtain ⟨w1, rfl⟩ : ∃ x, x = w2 := ⟨_, rfl⟩))
    all_goals (go_ret; refine ⟨by simp_all [binomial], ?_⟩)
    all_goals rfl
  cases h2 : between k 0 n
  · (have hall := all_nil w; go_enter Try.func19, Try.ntmps19)
    go_wp2_with (first | (go_at_call 39; (first | (refine (i_between _ _ _ true (by assumption) _).mono ?_) | (refine (i_between _ _ _ false (by assumption) _).mono ?_) | (refine (i_between _ _ _ _ rfl _).mono ?_)); rintro e w2 ⟨rfl, rfl⟩) | (with_reducible refine wp_region_grew (by kernel_rfl) (by kernel_rfl) ?_; (repeat (go_big_quiet_step (first | (go_at_call 39; first | exact calls_same (i_between _ _ _ true (by assumption) _) | exact calls_same (i_between _ _ _ false (by assumption) _) | exact calls_same (i_between _ _ _ _ rfl _))))); refine wpQuiet_nil ?_; intro w2 hw'; have hb := grew_below hw'; clear hw'; obtain ⟨hc, hf⟩ := bcell hb; have hz := hb.size; (try simp only [World.size_alloc, World.size_setCell, World.size_drew] at hz); (first | (replace hall := ext4 (w2 := w2) hall (by omega)) | (replace hall := ext3 (w2 := w2) hall (by omega)) | (replace hall := ext2 (w2 := w2) hall (by omega)) | (replace hall := ext1 (w2 := w2) hall (by omega)) | (replace hall := ext0 (w2 := w2) hall (by omega))); have hx := hall; (try simp only [allLt, and_true] at hx); obtain ⟨w1, rfl⟩ : ∃ x, x = w2 := ⟨_, rfl⟩))
    all_goals (go_ret; refine ⟨by simp_all [binomial], ?_⟩)
    all_goals rfl
  · have hn := between_iff.1 h1
    have hk := between_iff.1 h2
    obtain ⟨m, rfl⟩ := Int.eq_ofNat_of_zero_le hn.1
    obtain ⟨c, rfl⟩ := Int.eq_ofNat_of_zero_le hk.1
    have H : Hid (binomial (m : Int) (c : Int) = bin m c c) := by unfold Hid; simp [binomial, h1, h2]
    have hm : m ≤ 16 := by omega
    have hc : c ≤ m := by omega
    (have hall := all_nil w; go_enter Try.func19, Try.ntmps19)
    go_wp2_with (first | (go_at_call 39; (first | (refine (i_between _ _ _ true (by assumption) _).mono ?_) | (refine (i_between _ _ _ false (by assumption) _).mono ?_) | (refine (i_between _ _ _ _ rfl _).mono ?_)); rintro e w2 ⟨rfl, rfl⟩) | (with_reducible refine wp_region_grew (by kernel_rfl) (by kernel_rfl) ?_; (repeat (go_big_quiet_step (first | (go_at_call 39; first | exact calls_same (i_between _ _ _ true (by assumption) _) | exact calls_same (i_between _ _ _ false (by assumption) _) | exact calls_same (i_between _ _ _ _ rfl _))))); refine wpQuiet_nil ?_; intro w2 hw'; have hb := grew_below hw'; clear hw'; obtain ⟨hc, hf⟩ := bcell hb; have hz := hb.size; (try simp only [World.size_alloc, World.size_setCell, World.size_drew] at hz); (first | (replace hall := ext4 (w2 := w2) hall (by omega)) | (replace hall := ext3 (w2 := w2) hall (by omega)) | (replace hall := ext2 (w2 := w2) hall (by omega)) | (replace hall := ext1 (w2 := w2) hall (by omega)) | (replace hall := ext0 (w2 := w2) hall (by omega))); have hx := hall; (try simp only [allLt, and_true] at hx); obtain ⟨w1, rfl⟩ : ∃ x, x = w2 := ⟨_, rfl⟩))
    go_loop [5, 6] (fun o i => ∃ j : Nat, j ≤ c ∧ i = .int .i64 ((j : Int) + 1) ∧ o = .int .i64 (bin m c j)) (fun _ i => c + 1 - (intOf i).toNat)
    case atStart => exact ⟨0, Nat.zero_le _, rfl, rfl⟩
    case round =>
      obtain ⟨j, hj, rfl, rfl⟩ := hrel
      by_cases hlt : j < c
      · have b1 := bin_bound hm hc hj
        have b2 := bin_mul_bound b1 (b := (m : Int) - c + (j + 1)) (by omega)
        have b3 : Hid (bin m c (j + 1) = bin m c j * ((m : Int) - c + (j + 1)) / (j + 1)) := rfl
        have hle : (j : Int) + 1 ≤ c := by omega
        go_wp2
        go_round
        case rel => exact ⟨j + 1, by omega, by go_num, by rw [b3.out]⟩
        case measure => simp [intOf]; omega
      · have hle : ¬ (j : Int) + 1 ≤ c := by omega
        obtain rfl : j = c := by omega
        go_wp2
        go_ret
        exact ⟨ret_int (by rw [H.out]), rfl⟩
theorem s_Binomial (n k : Int) (w : World) : Calls Try.prog 18 #[.int .i64 n, .int .i64 k] w fun e w' => e = .returned (.int .i64 (binomial n k)) ∧ w = w' := by
  cases h1 : between n 0 16
  · (have hall := all_nil w; go_enter Try.func18, Try.ntmps18)
    go_wp2_with (first | (go_at_call 40; (first | (refine (s_l01In _ _ _ true (by assumption) _).mono ?_) | (refine (s_l01In _ _ _ false (by assumption) _).mono ?_) | (refine (s_l01In _ _ _ _ rfl _).mono ?_)); rintro e w2 ⟨rfl, rfl⟩) | (with_reducible refine wp_region_grew (by kernel_rfl) (by kernel_rfl) ?_; (repeat (go_big_quiet_step (first | (go_at_call 40; first | exact calls_same (s_l01In _ _ _ true (by assumption) _) | exact calls_same (s_l01In _ _ _ false (by assumption) _) | exact calls_same (s_l01In _ _ _ _ rfl _))))); refine wpQuiet_nil ?_; intro w2 hw'; have hb := grew_below hw'; clear hw'; obtain ⟨hc, hf⟩ := bcell hb; have hz := hb.size; (try simp only [World.size_alloc, World.size_setCell, World.size_drew] at hz); (first | (replace hall := ext4 (w2 := w2) hall (by omega)) | (replace hall := ext3 (w2 := w2) hall (by omega)) | (replace hall := ext2 (w2 := w2) hall (by omega)) | (replace hall := ext1 (w2 := w2) hall (by omega)) | (replace hall := ext0 (w2 := w2) hall (by omega))); have hx := hall; (try simp only [allLt, and_true] at hx); obtain ⟨w1, rfl⟩ : ∃ x, x = w2 := ⟨_, rfl⟩))
    all_goals (go_ret; refine ⟨by simp_all [binomial], ?_⟩)
    all_goals rfl
  cases h2 : between k 0 n
  · (have hall := all_nil w; go_enter Try.func18, Try.ntmps18)
    go_wp2_with (first | (go_at_call 40; (first | (refine (s_l01In _ _ _ true (by assumption) _).mono ?_) | (refine (s_l01In _ _ _ false (by assumption) _).mono ?_) | (refine (s_l01In _ _ _ _ rfl _).mono ?_)); rintro e w2 ⟨rfl, rfl⟩) | (with_reducible refine wp_region_grew (by kernel_rfl) (by kernel_rfl) ?_; (repeat (go_big_quiet_step (first | (go_at_call 40; first | exact calls_same (s_l01In _ _ _ true (by assumption) _) | exact calls_same (s_l01In _ _ _ false (by assumption) _) | exact calls_same (s_l01In _ _ _ _ rfl _))))); refine wpQuiet_nil ?_; intro w2 hw'; have hb := grew_below hw'; clear hw'; obtain ⟨hc, hf⟩ := bcell hb; have hz := hb.size; (try simp only [World.size_alloc, World.size_setCell, World.size_drew] at hz); (first | (replace hall := ext4 (w2 := w2) hall (by omega)) | (replace hall := ext3 (w2 := w2) hall (by omega)) | (replace hall := ext2 (w2 := w2) hall (by omega)) | (replace hall := ext1 (w2 := w2) hall (by omega)) | (replace hall := ext0 (w2 := w2) hall (by omega))); have hx := hall; (try simp only [allLt, and_true] at hx); obtain ⟨w1, rfl⟩ : ∃ x, x = w2 := ⟨_, rfl⟩))
    all_goals (go_ret; refine ⟨by simp_all [binomial], ?_⟩)
    all_goals rfl
  · have hn := between_iff.1 h1
    have hk := between_iff.1 h2
    obtain ⟨m, rfl⟩ := Int.eq_ofNat_of_zero_le hn.1
    obtain ⟨c, rfl⟩ := Int.eq_ofNat_of_zero_le hk.1
    have H : Hid (binomial (m : Int) (c : Int) = bin m c c) := by unfold Hid; simp [binomial, h1, h2]
    have hm : m ≤ 16 := by omega
    have hc : c ≤ m := by omega
    (have hall := all_nil w; go_enter Try.func18, Try.ntmps18)
    go_wp2_with (first | (go_at_call 40; (first | (refine (s_l01In _ _ _ true (by assumption) _).mono ?_) | (refine (s_l01In _ _ _ false (by assumption) _).mono ?_) | (refine (s_l01In _ _ _ _ rfl _).mono ?_)); rintro e w2 ⟨rfl, rfl⟩) | (with_reducible refine wp_region_grew (by kernel_rfl) (by kernel_rfl) ?_; (repeat (go_big_quiet_step (first | (go_at_call 40; first | exact calls_same (s_l01In _ _ _ true (by assumption) _) | exact calls_same (s_l01In _ _ _ false (by assumption) _) | exact calls_same (s_l01In _ _ _ _ rfl _))))); refine wpQuiet_nil ?_; intro w2 hw'; have hb := grew_below hw'; clear hw'; obtain ⟨hc, hf⟩ := bcell hb; have hz := hb.size; (try simp only [World.size_alloc, World.size_setCell, World.size_drew] at hz); (first | (replace hall := ext4 (w2 := w2) hall (by omega)) | (replace hall := ext3 (w2 := w2) hall (by omega)) | (replace hall := ext2 (w2 := w2) hall (by omega)) | (replace hall := ext1 (w2 := w2) hall (by omega)) | (replace hall := ext0 (w2 := w2) hall (by omega))); have hx := hall; (try simp only [allLt, and_true] at hx); obtain ⟨w1, rfl⟩ : ∃ x, x = w2 := ⟨_, rfl⟩))
    go_loop [5, 6] (fun o i => ∃ j : Nat, j ≤ c ∧ i = .int .i64 ((j : Int) + 1) ∧ o = .int .i64 (bin m c j)) (fun _ i => c + 1 - (intOf i).toNat)
    case atStart => exact ⟨0, Nat.zero_le _, rfl, rfl⟩
    case round =>
      obtain ⟨j, hj, rfl, rfl⟩ := hrel
      by_cases hlt : j < c
      · have b1 := bin_bound hm hc hj
        have b2 := bin_mul_bound b1 (b := (m : Int) - c + (j + 1)) (by omega)
        have b3 : Hid (bin m c (j + 1) = bin m c j * ((m : Int) - c + (j + 1)) / (j + 1)) := rfl
        have hle : (j : Int) + 1 ≤ c := by omega
        go_wp2
        go_round
        case rel => exact ⟨j + 1, by omega, by go_num, by rw [b3.out]⟩
        case measure => simp [intOf]; omega
      · have hle : ¬ (j : Int) + 1 ≤ c := by omega
        obtain rfl : j = c := by omega
        go_wp2
        go_ret
        exact ⟨ret_int (by rw [H.out]), rfl⟩


/-! ### Fractions -/
def gcdI (a b : Int) : Int := (Nat.gcd a.toNat b.toNat : Int)
def redNum (a b : Int) : Int := if a < 0 ∨ b < 1 then 0 else a / gcdI a b
def redDen (a b : Int) : Int := if a < 0 ∨ b < 1 then 0 else b / gcdI a b
theorem div_in {m i : Int} (h0 : 0 ≤ m) (hi : 1 ≤ i) (hm : m ≤ 9223372036854775807) : -9223372036854775808 ≤ m / i ∧ m / i ≤ 9223372036854775807 := by
  have h1 := Int.ediv_nonneg h0 (show 0 ≤ i by omega)
  have h2 := Int.ediv_le_self i h0
  omega
theorem gcd_step {a b : Nat} : Nat.gcd b (a % b) = Nat.gcd a b := by rw [Nat.gcd_comm a b, Nat.gcd_rec b a, Nat.gcd_comm]
set_option maxHeartbeats 400000 in
theorem i_Reduced (a b : Int) (ha : a ≤ 9223372036854775807) (hb' : b ≤ 9223372036854775807) (w : World) : Calls Try.prog 21 #[.agg #[.int .i64 a, .int .i64 b]] w fun e w' => e = .returned (.agg #[.int .i64 (redNum a b), .int .i64 (redDen a b)]) ∧ Below w.heap.size w w' := by
  by_cases h1 : a < 0
  · (have hall := all_nil w; go_enter Try.func21, Try.ntmps21)
    go_wp2_with (first | (with_reducible refine wp_region_grew_tail (id := 6) 9 (by kernel_rfl) (by kernel_rfl) ?_; simp only [List.take_succ_cons, List.take_zero, List.drop_succ_cons, List.drop_zero]; (repeat (go_big_quiet_step (fail))); refine wpQuiet_nil ?_; intro w2 hw'; have hb := grew_below hw'; clear hw'; obtain ⟨hc, hf⟩ := bcell hb; have hz := hb.size; (try simp only [World.size_alloc, World.size_setCell, World.size_drew] at hz); (first | (replace hall := ext4 (w2 := w2) hall (by omega)) | (replace hall := ext3 (w2 := w2) hall (by omega)) | (replace hall := ext2 (w2 := w2) hall (by omega)) | (replace hall := ext1 (w2 := w2) hall (by omega)) | (replace hall := ext0 (w2 := w2) hall (by omega))); have hx := hall; (try simp only [allLt, and_true] at hx); obtain ⟨w1, rfl⟩ : ∃ x, x = w2 := ⟨_, rfl⟩) | (with_reducible refine wp_region_grew (by kernel_rfl) (by kernel_rfl) ?_; (repeat (go_big_quiet_step (fail))); refine wpQuiet_nil ?_; intro w2 hw'; have hb := grew_below hw'; clear hw'; obtain ⟨hc, hf⟩ := bcell hb; have hz := hb.size; (try simp only [World.size_alloc, World.size_setCell, World.size_drew] at hz); (first | (replace hall := ext4 (w2 := w2) hall (by omega)) | (replace hall := ext3 (w2 := w2) hall (by omega)) | (replace hall := ext2 (w2 := w2) hall (by omega)) | (replace hall := ext1 (w2 := w2) hall (by omega)) | (replace hall := ext0 (w2 := w2) hall (by omega))); have hx := hall; (try simp only [allLt, and_true] at hx); obtain ⟨w1, rfl⟩ : ∃ x, x = w2 := ⟨_, rfl⟩))
    (refine bodyPost_ret (v := .agg #[.int .i64 (redNum a b), .int .i64 (redDen a b)]) (by simp [results, Try.results21, go_sem, redNum, redDen, h1]) rfl ⟨rfl, ?_⟩; (repeat (first | exact Below.refl _ _ | refine Below.alloc ?_ (by (try simp only [World.size_alloc, World.size_setCell, World.size_drew]); omega) _ | refine Below.setCell ?_ (by (try simp only [World.size_alloc, World.size_setCell, World.size_drew]); omega) _ | refine Below.drew ?_ | (refine Below.trans ?_ (Below.mono (by assumption) (by (try simp only [World.size_alloc, World.size_setCell, World.size_drew]); omega))))))
  · by_cases h2 : b < 1
    · (have hall := all_nil w; go_enter Try.func21, Try.ntmps21)
      go_wp2_with (first | (with_reducible refine wp_region_grew_tail (id := 6) 9 (by kernel_rfl) (by kernel_rfl) ?_; simp only [List.take_succ_cons, List.take_zero, List.drop_succ_cons, List.drop_zero]; (repeat (go_big_quiet_step (fail))); refine wpQuiet_nil ?_; intro w2 hw'; have hb := grew_below hw'; clear hw'; obtain ⟨hc, hf⟩ := bcell hb; have hz := hb.size; (try simp only [World.size_alloc, World.size_setCell, World.size_drew] at hz); (first | (replace hall := ext4 (w2 := w2) hall (by omega)) | (replace hall := ext3 (w2 := w2) hall (by omega)) | (replace hall := ext2 (w2 := w2) hall (by omega)) | (replace hall := ext1 (w2 := w2) hall (by omega)) | (replace hall := ext0 (w2 := w2) hall (by omega))); have hx := hall; (try simp only [allLt, and_true] at hx); obtain ⟨w1, rfl⟩ : ∃ x, x = w2 := ⟨_, rfl⟩) | (with_reducible refine wp_region_grew (by kernel_rfl) (by kernel_rfl) ?_; (repeat (go_big_quiet_step (fail))); refine wpQuiet_nil ?_; intro w2 hw'; have hb := grew_below hw'; clear hw'; obtain ⟨hc, hf⟩ := bcell hb; have hz := hb.size; (try simp only [World.size_alloc, World.size_setCell, World.size_drew] at hz); (first | (replace hall := ext4 (w2 := w2) hall (by omega)) | (replace hall := ext3 (w2 := w2) hall (by omega)) | (replace hall := ext2 (w2 := w2) hall (by omega)) | (replace hall := ext1 (w2 := w2) hall (by omega)) | (replace hall := ext0 (w2 := w2) hall (by omega))); have hx := hall; (try simp only [allLt, and_true] at hx); obtain ⟨w1, rfl⟩ : ∃ x, x = w2 := ⟨_, rfl⟩))
      (refine bodyPost_ret (v := .agg #[.int .i64 (redNum a b), .int .i64 (redDen a b)]) (by simp [results, Try.results21, go_sem, redNum, redDen, h2]) rfl ⟨rfl, ?_⟩; (repeat (first | exact Below.refl _ _ | refine Below.alloc ?_ (by (try simp only [World.size_alloc, World.size_setCell, World.size_drew]); omega) _ | refine Below.setCell ?_ (by (try simp only [World.size_alloc, World.size_setCell, World.size_drew]); omega) _ | refine Below.drew ?_ | (refine Below.trans ?_ (Below.mono (by assumption) (by (try simp only [World.size_alloc, World.size_setCell, World.size_drew]); omega))))))
    · (have hall := all_nil w; go_enter Try.func21, Try.ntmps21)
      go_wp2_with (first | (with_reducible refine wp_region_grew_tail (id := 6) 9 (by kernel_rfl) (by kernel_rfl) ?_; simp only [List.take_succ_cons, List.take_zero, List.drop_succ_cons, List.drop_zero]; (repeat (go_big_quiet_step (fail))); refine wpQuiet_nil ?_; intro w2 hw'; have hb := grew_below hw'; clear hw'; obtain ⟨hc, hf⟩ := bcell hb; have hz := hb.size; (try simp only [World.size_alloc, World.size_setCell, World.size_drew] at hz); (first | (replace hall := ext4 (w2 := w2) hall (by omega)) | (replace hall := ext3 (w2 := w2) hall (by omega)) | (replace hall := ext2 (w2 := w2) hall (by omega)) | (replace hall := ext1 (w2 := w2) hall (by omega)) | (replace hall := ext0 (w2 := w2) hall (by omega))); have hx := hall; (try simp only [allLt, and_true] at hx); obtain ⟨w1, rfl⟩ : ∃ x, x = w2 := ⟨_, rfl⟩) | (with_reducible refine wp_region_grew (by kernel_rfl) (by kernel_rfl) ?_; (repeat (go_big_quiet_step (fail))); refine wpQuiet_nil ?_; intro w2 hw'; have hb := grew_below hw'; clear hw'; obtain ⟨hc, hf⟩ := bcell hb; have hz := hb.size; (try simp only [World.size_alloc, World.size_setCell, World.size_drew] at hz); (first | (replace hall := ext4 (w2 := w2) hall (by omega)) | (replace hall := ext3 (w2 := w2) hall (by omega)) | (replace hall := ext2 (w2 := w2) hall (by omega)) | (replace hall := ext1 (w2 := w2) hall (by omega)) | (replace hall := ext0 (w2 := w2) hall (by omega))); have hx := hall; (try simp only [allLt, and_true] at hx); obtain ⟨w1, rfl⟩ : ∃ x, x = w2 := ⟨_, rfl⟩))
      obtain ⟨m, rfl⟩ := Int.eq_ofNat_of_zero_le (show 0 ≤ a by omega)
      obtain ⟨n, rfl⟩ := Int.eq_ofNat_of_zero_le (show 0 ≤ b by omega)
      go_loopw [3, 4] (fun x y wr => ∃ i j : Nat, x = .int .i64 i ∧ y = .int .i64 j ∧ Nat.gcd i j = Nat.gcd m n ∧ i ≤ 9223372036854775807 ∧ j ≤ 9223372036854775807 ∧ wr.cell? ⟨w.heap.size, 0, none⟩ = some (.int .i64 m) ∧ wr.cell? ⟨w.heap.size, 1, none⟩ = some (.int .i64 n) ∧
          wr.cell? ⟨w.heap.size + 1, 0, none⟩ = some (.int .i64 0) ∧ wr.cell? ⟨w.heap.size + 1, 1, none⟩ = some (.int .i64 0) ∧ wr.frozen? ⟨w.heap.size + 1, 0, none⟩ = false ∧ wr.frozen? ⟨w.heap.size + 1, 1, none⟩ = false ∧ w.heap.size + 1 + 1 ≤ wr.heap.size ∧ Below w.heap.size w wr) (fun _ y _ => (intOf y).toNat)
      case atStart =>
        refine ⟨m, n, rfl, rfl, rfl, by omega, by omega, ?_, ?_, ?_, ?_, ?_, ?_, ?_, ?_⟩
        all_goals first | (go_simp; done) | (simp only [World.size_alloc]; omega) | omega | (repeat (first | exact Below.refl _ _ | refine Below.alloc ?_ (by (try simp only [World.size_alloc, World.size_setCell, World.size_drew]); omega) _ | refine Below.setCell ?_ (by (try simp only [World.size_alloc, World.size_setCell, World.size_drew]); omega) _ | refine Below.drew ?_ | (refine Below.trans ?_ (Below.mono (by assumption) (by (try simp only [World.size_alloc, World.size_setCell, World.size_drew]); omega)))))
      case round =>
        obtain ⟨i, j, rfl, rfl, hg, hi, hj, c1, c2, c3, c4, f1, f2, hsz, hbel⟩ := hrel
        by_cases hj0 : j = 0
        · subst hj0
          rw [Nat.gcd_zero_right] at hg
          have hpos : 1 ≤ (i : Int) := by
            have := Nat.gcd_pos_of_pos_right m (show 0 < n by omega)
            omega
          have HG := Lib.hid hg; clear hg
          (obtain ⟨w1, rfl⟩ : ∃ x, x = wr := ⟨_, rfl⟩; have hall : allLt [w.heap.size + 1, w.heap.size] w1.heap.size := ⟨by omega, by omega, trivial⟩; have hx := hall; (try simp only [allLt, and_true] at hx))
          have hi1 : ¬ ((m : Int) < 0 ∨ (n : Int) < 1) := by omega
          have e1 : redNum (m : Int) (n : Int) = (m : Int) / i := by unfold redNum gcdI; rw [if_neg hi1, Int.toNat_natCast, Int.toNat_natCast, HG.out]
          have e2 : redDen (m : Int) (n : Int) = (n : Int) / i := by unfold redDen gcdI; rw [if_neg hi1, Int.toNat_natCast, Int.toNat_natCast, HG.out]
          have E1 := Lib.hid e1; have E2 := Lib.hid e2; clear e1 e2 hi1
          have D1 := Lib.hid (IntWalk.wrap64_in ((m : Int) / i) (div_in (by omega) hpos ha))
          have D2 := Lib.hid (IntWalk.wrap64_in ((n : Int) / i) (div_in (by omega) hpos hb'))
          go_wp2_with (first | (with_reducible refine wp_region_grew_tail (id := 6) 9 (by kernel_rfl) (by kernel_rfl) ?_; simp only [List.take_succ_cons, List.take_zero, List.drop_succ_cons, List.drop_zero]; (repeat (go_big_quiet_step (fail))); refine wpQuiet_nil ?_; intro w2 hw'; have hb := grew_below hw'; clear hw'; obtain ⟨hc, hf⟩ := bcell hb; have hz := hb.size; (try simp only [World.size_alloc, World.size_setCell, World.size_drew] at hz); (first | (replace hall := ext4 (w2 := w2) hall (by omega)) | (replace hall := ext3 (w2 := w2) hall (by omega)) | (replace hall := ext2 (w2 := w2) hall (by omega)) | (replace hall := ext1 (w2 := w2) hall (by omega)) | (replace hall := ext0 (w2 := w2) hall (by omega))); have hx := hall; (try simp only [allLt, and_true] at hx); obtain ⟨w1, rfl⟩ : ∃ x, x = w2 := ⟨_, rfl⟩) | (with_reducible refine wp_region_grew (by kernel_rfl) (by kernel_rfl) ?_; (repeat (go_big_quiet_step (fail))); refine wpQuiet_nil ?_; intro w2 hw'; have hb := grew_below hw'; clear hw'; obtain ⟨hc, hf⟩ := bcell hb; have hz := hb.size; (try simp only [World.size_alloc, World.size_setCell, World.size_drew] at hz); (first | (replace hall := ext4 (w2 := w2) hall (by omega)) | (replace hall := ext3 (w2 := w2) hall (by omega)) | (replace hall := ext2 (w2 := w2) hall (by omega)) | (replace hall := ext1 (w2 := w2) hall (by omega)) | (replace hall := ext0 (w2 := w2) hall (by omega))); have hx := hall; (try simp only [allLt, and_true] at hx); obtain ⟨w1, rfl⟩ : ∃ x, x = w2 := ⟨_, rfl⟩))
          (refine bodyPost_ret (v := .agg #[.int .i64 ((m : Int) / i), .int .i64 ((n : Int) / i)]) (by simp [results, Try.results21, go_sem, *, D1.out, D2.out]) rfl ⟨by rw [E1.out, E2.out], ?_⟩; (repeat (first | exact Below.refl _ _ | refine Below.alloc ?_ (by (try simp only [World.size_alloc, World.size_setCell, World.size_drew]); omega) _ | refine Below.setCell ?_ (by (try simp only [World.size_alloc, World.size_setCell, World.size_drew]); omega) _ | refine Below.drew ?_ | (refine Below.trans ?_ (Below.mono (by assumption) (by (try simp only [World.size_alloc, World.size_setCell, World.size_drew]); omega))))))
        · have hne : ((j : Int) != 0) = true := by simp; omega
          have HG := Lib.hid hg; clear hg
          have hj1 : 1 ≤ (j : Int) := by omega
          (obtain ⟨w1, rfl⟩ : ∃ x, x = wr := ⟨_, rfl⟩; have hall : allLt [w.heap.size + 1, w.heap.size] w1.heap.size := ⟨by omega, by omega, trivial⟩; have hx := hall; (try simp only [allLt, and_true] at hx))
          go_wp2_with (first | (with_reducible refine wp_region_grew_tail (id := 6) 9 (by kernel_rfl) (by kernel_rfl) ?_; simp only [List.take_succ_cons, List.take_zero, List.drop_succ_cons, List.drop_zero]; (repeat (go_big_quiet_step (fail))); refine wpQuiet_nil ?_; intro w2 hw'; have hb := grew_below hw'; clear hw'; obtain ⟨hc, hf⟩ := bcell hb; have hz := hb.size; (try simp only [World.size_alloc, World.size_setCell, World.size_drew] at hz); (first | (replace hall := ext4 (w2 := w2) hall (by omega)) | (replace hall := ext3 (w2 := w2) hall (by omega)) | (replace hall := ext2 (w2 := w2) hall (by omega)) | (replace hall := ext1 (w2 := w2) hall (by omega)) | (replace hall := ext0 (w2 := w2) hall (by omega))); have hx := hall; (try simp only [allLt, and_true] at hx); obtain ⟨w1, rfl⟩ : ∃ x, x = w2 := ⟨_, rfl⟩) | (with_reducible refine wp_region_grew (by kernel_rfl) (by kernel_rfl) ?_; (repeat (go_big_quiet_step (fail))); refine wpQuiet_nil ?_; intro w2 hw'; have hb := grew_below hw'; clear hw'; obtain ⟨hc, hf⟩ := bcell hb; have hz := hb.size; (try simp only [World.size_alloc, World.size_setCell, World.size_drew] at hz); (first | (replace hall := ext4 (w2 := w2) hall (by omega)) | (replace hall := ext3 (w2 := w2) hall (by omega)) | (replace hall := ext2 (w2 := w2) hall (by omega)) | (replace hall := ext1 (w2 := w2) hall (by omega)) | (replace hall := ext0 (w2 := w2) hall (by omega))); have hx := hall; (try simp only [allLt, and_true] at hx); obtain ⟨w1, rfl⟩ : ∃ x, x = w2 := ⟨_, rfl⟩))
          go_roundw
          case rel =>
            have hml := Nat.mod_lt i (show 0 < j by omega)
            exact ⟨j, i % j, rfl, by rw [Int.natCast_emod], by rw [gcd_step, HG.out], hj, by omega, by go_simp, by go_simp, by go_simp, by go_simp, by go_simp, by go_simp, by omega, (by (repeat (first | exact Below.refl _ _ | refine Below.alloc ?_ (by (try simp only [World.size_alloc, World.size_setCell, World.size_drew]); omega) _ | refine Below.setCell ?_ (by (try simp only [World.size_alloc, World.size_setCell, World.size_drew]); omega) _ | refine Below.drew ?_ | (refine Below.trans ?_ (Below.mono (by assumption) (by (try simp only [World.size_alloc, World.size_setCell, World.size_drew]); omega))))))⟩
          case measure =>
            have hml := Nat.mod_lt i (show 0 < j by omega)
            simp only [intOf]; omega
set_option maxHeartbeats 400000 in
theorem s_Reduced (a b : Int) (ha : a ≤ 9223372036854775807) (hb' : b ≤ 9223372036854775807) (w : World) : Calls Try.prog 20 #[.agg #[.int .i64 a, .int .i64 b]] w fun e w' => e = .returned (.agg #[.int .i64 (redNum a b), .int .i64 (redDen a b)]) ∧ Below w.heap.size w w' := by
  by_cases h1 : a < 0
  · (have hall := all_nil w; go_enter Try.func20, Try.ntmps20)
    go_wp2_with (first | (with_reducible refine wp_region_grew_tail (id := 7) 9 (by kernel_rfl) (by kernel_rfl) ?_; simp only [List.take_succ_cons, List.take_zero, List.drop_succ_cons, List.drop_zero]; (repeat (go_big_quiet_step (fail))); refine wpQuiet_nil ?_; intro w2 hw'; have hb := grew_below hw'; clear hw'; obtain ⟨hc, hf⟩ := bcell hb; have hz := hb.size; (try simp only [World.size_alloc, World.size_setCell, World.size_drew] at hz); (first | (replace hall := ext4 (w2 := w2) hall (by omega)) | (replace hall := ext3 (w2 := w2) hall (by omega)) | (replace hall := ext2 (w2 := w2) hall (by omega)) | (replace hall := ext1 (w2 := w2) hall (by omega)) | (replace hall := ext0 (w2 := w2) hall (by omega))); have hx := hall; (try simp only [allLt, and_true] at hx); obtain ⟨w1, rfl⟩ : ∃ x, x = w2 := ⟨_, rfl⟩) | (with_reducible refine wp_region_grew (by kernel_rfl) (by kernel_rfl) ?_; (repeat (go_big_quiet_step (fail))); refine wpQuiet_nil ?_; intro w2 hw'; have hb := grew_below hw'; clear hw'; obtain ⟨hc, hf⟩ := bcell hb; have hz := hb.size; (try simp only [World.size_alloc, World.size_setCell, World.size_drew] at hz); (first | (replace hall := ext4 (w2 := w2) hall (by omega)) | (replace hall := ext3 (w2 := w2) hall (by omega)) | (replace hall := ext2 (w2 := w2) hall (by omega)) | (replace hall := ext1 (w2 := w2) hall (by omega)) | (replace hall := ext0 (w2 := w2) hall (by omega))); have hx := hall; (try simp only [allLt, and_true] at hx); obtain ⟨w1, rfl⟩ : ∃ x, x = w2 := ⟨_, rfl⟩))
    (refine bodyPost_ret (v := .agg #[.int .i64 (redNum a b), .int .i64 (redDen a b)]) (by simp [results, Try.results20, go_sem, redNum, redDen, h1]) rfl ⟨rfl, ?_⟩; (repeat (first | exact Below.refl _ _ | refine Below.alloc ?_ (by (try simp only [World.size_alloc, World.size_setCell, World.size_drew]); omega) _ | refine Below.setCell ?_ (by (try simp only [World.size_alloc, World.size_setCell, World.size_drew]); omega) _ | refine Below.drew ?_ | (refine Below.trans ?_ (Below.mono (by assumption) (by (try simp only [World.size_alloc, World.size_setCell, World.size_drew]); omega))))))
  · by_cases h2 : b < 1
    · (have hall := all_nil w; go_enter Try.func20, Try.ntmps20)
      go_wp2_with (first | (with_reducible refine wp_region_grew_tail (id := 7) 9 (by kernel_rfl) (by kernel_rfl) ?_; simp only [List.take_succ_cons, List.take_zero, List.drop_succ_cons, List.drop_zero]; (repeat (go_big_quiet_step (fail))); refine wpQuiet_nil ?_; intro w2 hw'; have hb := grew_below hw'; clear hw'; obtain ⟨hc, hf⟩ := bcell hb; have hz := hb.size; (try simp only [World.size_alloc, World.size_setCell, World.size_drew] at hz); (first | (replace hall := ext4 (w2 := w2) hall (by omega)) | (replace hall := ext3 (w2 := w2) hall (by omega)) | (replace hall := ext2 (w2 := w2) hall (by omega)) | (replace hall := ext1 (w2 := w2) hall (by omega)) | (replace hall := ext0 (w2 := w2) hall (by omega))); have hx := hall; (try simp only [allLt, and_true] at hx); obtain ⟨w1, rfl⟩ : ∃ x, x = w2 := ⟨_, rfl⟩) | (with_reducible refine wp_region_grew (by kernel_rfl) (by kernel_rfl) ?_; (repeat (go_big_quiet_step (fail))); refine wpQuiet_nil ?_; intro w2 hw'; have hb := grew_below hw'; clear hw'; obtain ⟨hc, hf⟩ := bcell hb; have hz := hb.size; (try simp only [World.size_alloc, World.size_setCell, World.size_drew] at hz); (first | (replace hall := ext4 (w2 := w2) hall (by omega)) | (replace hall := ext3 (w2 := w2) hall (by omega)) | (replace hall := ext2 (w2 := w2) hall (by omega)) | (replace hall := ext1 (w2 := w2) hall (by omega)) | (replace hall := ext0 (w2 := w2) hall (by omega))); have hx := hall; (try simp only [allLt, and_true] at hx); obtain ⟨w1, rfl⟩ : ∃ x, x = w2 := ⟨_, rfl⟩))
      (refine bodyPost_ret (v := .agg #[.int .i64 (redNum a b), .int .i64 (redDen a b)]) (by simp [results, Try.results20, go_sem, redNum, redDen, h2]) rfl ⟨rfl, ?_⟩; (repeat (first | exact Below.refl _ _ | refine Below.alloc ?_ (by (try simp only [World.size_alloc, World.size_setCell, World.size_drew]); omega) _ | refine Below.setCell ?_ (by (try simp only [World.size_alloc, World.size_setCell, World.size_drew]); omega) _ | refine Below.drew ?_ | (refine Below.trans ?_ (Below.mono (by assumption) (by (try simp only [World.size_alloc, World.size_setCell, World.size_drew]); omega))))))
    · (have hall := all_nil w; go_enter Try.func20, Try.ntmps20)
      go_wp2_with (first | (with_reducible refine wp_region_grew_tail (id := 7) 9 (by kernel_rfl) (by kernel_rfl) ?_; simp only [List.take_succ_cons, List.take_zero, List.drop_succ_cons, List.drop_zero]; (repeat (go_big_quiet_step (fail))); refine wpQuiet_nil ?_; intro w2 hw'; have hb := grew_below hw'; clear hw'; obtain ⟨hc, hf⟩ := bcell hb; have hz := hb.size; (try simp only [World.size_alloc, World.size_setCell, World.size_drew] at hz); (first | (replace hall := ext4 (w2 := w2) hall (by omega)) | (replace hall := ext3 (w2 := w2) hall (by omega)) | (replace hall := ext2 (w2 := w2) hall (by omega)) | (replace hall := ext1 (w2 := w2) hall (by omega)) | (replace hall := ext0 (w2 := w2) hall (by omega))); have hx := hall; (try simp only [allLt, and_true] at hx); obtain ⟨w1, rfl⟩ : ∃ x, x = w2 := ⟨_, rfl⟩) | (with_reducible refine wp_region_grew (by kernel_rfl) (by kernel_rfl) ?_; (repeat (go_big_quiet_step (fail))); refine wpQuiet_nil ?_; intro w2 hw'; have hb := grew_below hw'; clear hw'; obtain ⟨hc, hf⟩ := bcell hb; have hz := hb.size; (try simp only [World.size_alloc, World.size_setCell, World.size_drew] at hz); (first | (replace hall := ext4 (w2 := w2) hall (by omega)) | (replace hall := ext3 (w2 := w2) hall (by omega)) | (replace hall := ext2 (w2 := w2) hall (by omega)) | (replace hall := ext1 (w2 := w2) hall (by omega)) | (replace hall := ext0 (w2 := w2) hall (by omega))); have hx := hall; (try simp only [allLt, and_true] at hx); obtain ⟨w1, rfl⟩ : ∃ x, x = w2 := ⟨_, rfl⟩))
      obtain ⟨m, rfl⟩ := Int.eq_ofNat_of_zero_le (show 0 ≤ a by omega)
      obtain ⟨n, rfl⟩ := Int.eq_ofNat_of_zero_le (show 0 ≤ b by omega)
      go_loopw [3, 4] (fun x y wr => ∃ i j : Nat, x = .int .i64 i ∧ y = .int .i64 j ∧ Nat.gcd i j = Nat.gcd m n ∧ i ≤ 9223372036854775807 ∧ j ≤ 9223372036854775807 ∧ wr.cell? ⟨w.heap.size, 0, none⟩ = some (.int .i64 m) ∧ wr.cell? ⟨w.heap.size, 1, none⟩ = some (.int .i64 n) ∧
          wr.cell? ⟨w.heap.size + 1, 0, none⟩ = some (.int .i64 0) ∧ wr.cell? ⟨w.heap.size + 1, 1, none⟩ = some (.int .i64 0) ∧ wr.frozen? ⟨w.heap.size + 1, 0, none⟩ = false ∧ wr.frozen? ⟨w.heap.size + 1, 1, none⟩ = false ∧ w.heap.size + 1 + 1 ≤ wr.heap.size ∧ Below w.heap.size w wr) (fun _ y _ => (intOf y).toNat)
      case atStart =>
        refine ⟨m, n, rfl, rfl, rfl, by omega, by omega, ?_, ?_, ?_, ?_, ?_, ?_, ?_, ?_⟩
        all_goals first | (go_simp; done) | (simp only [World.size_alloc]; omega) | omega | (repeat (first | exact Below.refl _ _ | refine Below.alloc ?_ (by (try simp only [World.size_alloc, World.size_setCell, World.size_drew]); omega) _ | refine Below.setCell ?_ (by (try simp only [World.size_alloc, World.size_setCell, World.size_drew]); omega) _ | refine Below.drew ?_ | (refine Below.trans ?_ (Below.mono (by assumption) (by (try simp only [World.size_alloc, World.size_setCell, World.size_drew]); omega)))))
      case round =>
        obtain ⟨i, j, rfl, rfl, hg, hi, hj, c1, c2, c3, c4, f1, f2, hsz, hbel⟩ := hrel
        by_cases hj0 : j = 0
        · subst hj0
          rw [Nat.gcd_zero_right] at hg
          have hpos : 1 ≤ (i : Int) := by
            have := Nat.gcd_pos_of_pos_right m (show 0 < n by omega)
            omega
          have HG := Lib.hid hg; clear hg
          (obtain ⟨w1, rfl⟩ : ∃ x, x = wr := ⟨_, rfl⟩; have hall : allLt [w.heap.size + 1, w.heap.size] w1.heap.size := ⟨by omega, by omega, trivial⟩; have hx := hall; (try simp only [allLt, and_true] at hx))
          have hi1 : ¬ ((m : Int) < 0 ∨ (n : Int) < 1) := by omega
          have e1 : redNum (m : Int) (n : Int) = (m : Int) / i := by unfold redNum gcdI; rw [if_neg hi1, Int.toNat_natCast, Int.toNat_natCast, HG.out]
          have e2 : redDen (m : Int) (n : Int) = (n : Int) / i := by unfold redDen gcdI; rw [if_neg hi1, Int.toNat_natCast, Int.toNat_natCast, HG.out]
          have E1 := Lib.hid e1; have E2 := Lib.hid e2; clear e1 e2 hi1
          have D1 := Lib.hid (IntWalk.wrap64_in ((m : Int) / i) (div_in (by omega) hpos ha))
          have D2 := Lib.hid (IntWalk.wrap64_in ((n : Int) / i) (div_in (by omega) hpos hb'))
          go_wp2_with (first | (with_reducible refine wp_region_grew_tail (id := 7) 9 (by kernel_rfl) (by kernel_rfl) ?_; simp only [List.take_succ_cons, List.take_zero, List.drop_succ_cons, List.drop_zero]; (repeat (go_big_quiet_step (fail))); refine wpQuiet_nil ?_; intro w2 hw'; have hb := grew_below hw'; clear hw'; obtain ⟨hc, hf⟩ := bcell hb; have hz := hb.size; (try simp only [World.size_alloc, World.size_setCell, World.size_drew] at hz); (first | (replace hall := ext4 (w2 := w2) hall (by omega)) | (replace hall := ext3 (w2 := w2) hall (by omega)) | (replace hall := ext2 (w2 := w2) hall (by omega)) | (replace hall := ext1 (w2 := w2) hall (by omega)) | (replace hall := ext0 (w2 := w2) hall (by omega))); have hx := hall; (try simp only [allLt, and_true] at hx); obtain ⟨w1, rfl⟩ : ∃ x, x = w2 := ⟨_, rfl⟩) | (with_reducible refine wp_region_grew (by kernel_rfl) (by kernel_rfl) ?_; (repeat (go_big_quiet_step (fail))); refine wpQuiet_nil ?_; intro w2 hw'; have hb := grew_below hw'; clear hw'; obtain ⟨hc, hf⟩ := bcell hb; have hz := hb.size; (try simp only [World.size_alloc, World.size_setCell, World.size_drew] at hz); (first | (replace hall := ext4 (w2 := w2) hall (by omega)) | (replace hall := ext3 (w2 := w2) hall (by omega)) | (replace hall := ext2 (w2 := w2) hall (by omega)) | (replace hall := ext1 (w2 := w2) hall (by omega)) | (replace hall := ext0 (w2 := w2) hall (by omega))); have hx := hall; (try simp only [allLt, and_true] at hx); obtain ⟨w1, rfl⟩ : ∃ x, x = w2 := ⟨_, rfl⟩))
          (refine bodyPost_ret (v := .agg #[.int .i64 ((m : Int) / i), .int .i64 ((n : Int) / i)]) (by simp [results, Try.results20, go_sem, *, D1.out, D2.out]) rfl ⟨by rw [E1.out, E2.out], ?_⟩; (repeat (first | exact Below.refl _ _ | refine Below.alloc ?_ (by (try simp only [World.size_alloc, World.size_setCell, World.size_drew]); omega) _ | refine Below.setCell ?_ (by (try simp only [World.size_alloc, World.size_setCell, World.size_drew]); omega) _ | refine Below.drew ?_ | (refine Below.trans ?_ (Below.mono (by assumption) (by (try simp only [World.size_alloc, World.size_setCell, World.size_drew]); omega))))))
        · have hne : ((j : Int) != 0) = true := by simp; omega
          have HG := Lib.hid hg; clear hg
          have hj1 : 1 ≤ (j : Int) := by omega
          (obtain ⟨w1, rfl⟩ : ∃ x, x = wr := ⟨_, rfl⟩; have hall : allLt [w.heap.size + 1, w.heap.size] w1.heap.size := ⟨by omega, by omega, trivial⟩; have hx := hall; (try simp only [allLt, and_true] at hx))
          go_wp2_with (first | (with_reducible refine wp_region_grew_tail (id := 7) 9 (by kernel_rfl) (by kernel_rfl) ?_; simp only [List.take_succ_cons, List.take_zero, List.drop_succ_cons, List.drop_zero]; (repeat (go_big_quiet_step (fail))); refine wpQuiet_nil ?_; intro w2 hw'; have hb := grew_below hw'; clear hw'; obtain ⟨hc, hf⟩ := bcell hb; have hz := hb.size; (try simp only [World.size_alloc, World.size_setCell, World.size_drew] at hz); (first | (replace hall := ext4 (w2 := w2) hall (by omega)) | (replace hall := ext3 (w2 := w2) hall (by omega)) | (replace hall := ext2 (w2 := w2) hall (by omega)) | (replace hall := ext1 (w2 := w2) hall (by omega)) | (replace hall := ext0 (w2 := w2) hall (by omega))); have hx := hall; (try simp only [allLt, and_true] at hx); obtain ⟨w1, rfl⟩ : ∃ x, x = w2 := ⟨_, rfl⟩) | (with_reducible refine wp_region_grew (by kernel_rfl) (by kernel_rfl) ?_; (repeat (go_big_quiet_step (fail))); refine wpQuiet_nil ?_; intro w2 hw'; have hb := grew_below hw'; clear hw'; obtain ⟨hc, hf⟩ := bcell hb; have hz := hb.size; (try simp only [World.size_alloc, World.size_setCell, World.size_drew] at hz); (first | (replace hall := ext4 (w2 := w2) hall (by omega)) | (replace hall := ext3 (w2 := w2) hall (by omega)) | (replace hall := ext2 (w2 := w2) hall (by omega)) | (replace hall := ext1 (w2 := w2) hall (by omega)) | (replace hall := ext0 (w2 := w2) hall (by omega))); have hx := hall; (try simp only [allLt, and_true] at hx); obtain ⟨w1, rfl⟩ : ∃ x, x = w2 := ⟨_, rfl⟩))
          go_roundw
          case rel =>
            have hml := Nat.mod_lt i (show 0 < j by omega)
            exact ⟨j, i % j, rfl, by rw [Int.natCast_emod], by rw [gcd_step, HG.out], hj, by omega, by go_simp, by go_simp, by go_simp, by go_simp, by go_simp, by go_simp, by omega, (by (repeat (first | exact Below.refl _ _ | refine Below.alloc ?_ (by (try simp only [World.size_alloc, World.size_setCell, World.size_drew]); omega) _ | refine Below.setCell ?_ (by (try simp only [World.size_alloc, World.size_setCell, World.size_drew]); omega) _ | refine Below.drew ?_ | (refine Below.trans ?_ (Below.mono (by assumption) (by (try simp only [World.size_alloc, World.size_setCell, World.size_drew]); omega))))))⟩
          case measure =>
            have hml := Nat.mod_lt i (show 0 < j by omega)
            simp only [intOf]; omega

end Go.Proofs.Ytohmpjabplmleaa
