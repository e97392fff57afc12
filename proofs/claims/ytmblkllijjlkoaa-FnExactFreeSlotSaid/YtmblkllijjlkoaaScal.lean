/-
  What the small functions on numbers, classes and bitmaps return: one contract a function.
-/
import Derived.Test.YtmblkllijjlkoaaTail
set_option linter.unusedVariables false
set_option linter.unusedSimpArgs false
namespace Go.Proofs.Ytmblkllijjlkoaa
open Go.RowKit

theorem i_between (n lo hi : Int) (r : Bool) (hr : between n lo hi = r) (w : World) :
    Calls Try.prog 51 #[.int .i64 n, .int .i64 lo, .int .i64 hi] w fun e w' => e = .returned (.bool r) ∧ w = w' := by
  subst hr
  (have hall := all_nil w; go_enter Try.func51, Try.ntmps51)
  go_wp2
  all_goals (go_ret; refine ⟨?_, rfl⟩; (simp_all [between]))
  omega
theorem s_l01In (n lo hi : Int) (r : Bool) (hr : between n lo hi = r) (w : World) :
    Calls Try.prog 45 #[.int .i64 n, .int .i64 lo, .int .i64 hi] w fun e w' => e = .returned (.bool r) ∧ w = w' := by
  subst hr
  (have hall := all_nil w; go_enter Try.func45, Try.ntmps45)
  go_wp2
  all_goals (go_ret; refine ⟨?_, rfl⟩; (simp_all [between]))
  omega
theorem i_classOk (c : Int) (r : Bool) (hr : between c 0 3 = r) (w : World) : Calls Try.prog 68 #[.int .i64 c] w fun e w' => e = .returned (.bool r) ∧ w = w' := by
  subst hr
  (have hall := all_nil w; go_enter Try.func68, Try.ntmps68)
  go_wp2_with (first | (go_at_call 51; (first | (refine (i_between _ _ _ true (by assumption) _).mono ?_) | (refine (i_between _ _ _ false (by assumption) _).mono ?_) | (refine (i_between _ _ _ _ rfl _).mono ?_)); rintro e w1 ⟨rfl, rfl⟩))
  all_goals (go_ret; refine ⟨?_, rfl⟩; (simp_all []))
theorem i_ClassSize (c : Int) (w : World) : Calls Try.prog 40 #[.int .i64 c] w fun e w' => e = .returned (.int .i64 (classSize c)) ∧ w = w' := by
  cases h : between c 0 3
  · (have hall := all_nil w; go_enter Try.func40, Try.ntmps40)
    go_wp2_with (first | (go_at_call 68; (first | (refine (i_classOk _ true (by assumption) _).mono ?_) | (refine (i_classOk _ false (by assumption) _).mono ?_) | (refine (i_classOk _ _ rfl _).mono ?_)); rintro e w1 ⟨rfl, rfl⟩))
    go_ret
    exact ⟨by simp [classSize_out h], rfl⟩
  · have hb := between_iff.1 h
    (have hall := all_nil w; go_enter Try.func40, Try.ntmps40)
    go_wp2_with (first | (go_at_call 68; (first | (refine (i_classOk _ true (by assumption) _).mono ?_) | (refine (i_classOk _ false (by assumption) _).mono ?_) | (refine (i_classOk _ _ rfl _).mono ?_)); rintro e w1 ⟨rfl, rfl⟩))
    go_ret
    exact ⟨ret_int (by rw [classSize_in h]; exact (pow_in hb.1 (by omega)).1), rfl⟩
theorem s_ClassSize (c : Int) (w : World) : Calls Try.prog 63 #[.int .i64 c] w fun e w' => e = .returned (.int .i64 (classSize c)) ∧ w = w' := by
  cases h : between c 0 3
  · (have hall := all_nil w; go_enter Try.func63, Try.ntmps63)
    go_wp2_with (first | (go_at_call 45; (first | (refine (s_l01In _ _ _ true (by assumption) _).mono ?_) | (refine (s_l01In _ _ _ false (by assumption) _).mono ?_) | (refine (s_l01In _ _ _ _ rfl _).mono ?_)); rintro e w1 ⟨rfl, rfl⟩))
    go_ret
    exact ⟨by simp [classSize_out h], rfl⟩
  · rcases class_cases h with rfl | rfl | rfl | rfl
    all_goals (have hall := all_nil w; go_enter Try.func63, Try.ntmps63)
    all_goals go_wp2_with (first | (go_at_call 45; (first | (refine (s_l01In _ _ _ true (by assumption) _).mono ?_) | (refine (s_l01In _ _ _ false (by assumption) _).mono ?_) | (refine (s_l01In _ _ _ _ rfl _).mono ?_)); rintro e w1 ⟨rfl, rfl⟩))
    all_goals go_ret
    all_goals exact ⟨rfl, rfl⟩
theorem i_SlotsOf (c : Int) (w : World) : Calls Try.prog 67 #[.int .i64 c] w fun e w' => e = .returned (.int .i64 (slotsOf c)) ∧ w = w' := by
  cases h : between c 0 3
  · (have hall := all_nil w; go_enter Try.func67, Try.ntmps67)
    go_wp2_with (first | (go_at_call 68; (first | (refine (i_classOk _ true (by assumption) _).mono ?_) | (refine (i_classOk _ false (by assumption) _).mono ?_) | (refine (i_classOk _ _ rfl _).mono ?_)); rintro e w1 ⟨rfl, rfl⟩) | (go_at_call 40; (refine (i_ClassSize _ _).mono ?_); rintro e w1 ⟨rfl, rfl⟩))
    go_ret
    exact ⟨by simp [slotsOf_out h], rfl⟩
  · have hc : (classSize c = 1 ∧ slotsOf c = 16) ∨ (classSize c = 2 ∧ slotsOf c = 8) ∨ (classSize c = 4 ∧ slotsOf c = 4) ∨ (classSize c = 8 ∧ slotsOf c = 2) := by
      rcases class_cases h with rfl | rfl | rfl | rfl <;> decide
    rcases hc with ⟨h1, h2⟩ | ⟨h1, h2⟩ | ⟨h1, h2⟩ | ⟨h1, h2⟩
    all_goals have H := Lib.hid h2; clear h2
    all_goals (have hall := all_nil w; go_enter Try.func67, Try.ntmps67)
    all_goals go_wp2_with (first | (go_at_call 68; (first | (refine (i_classOk _ true (by assumption) _).mono ?_) | (refine (i_classOk _ false (by assumption) _).mono ?_) | (refine (i_classOk _ _ rfl _).mono ?_)); rintro e w1 ⟨rfl, rfl⟩) | (go_at_call 40; (refine (i_ClassSize _ _).mono ?_); rintro e w1 ⟨rfl, rfl⟩))
    all_goals go_ret
    all_goals exact ⟨by rw [H.out]; rfl, rfl⟩
theorem s_SlotsOf (c : Int) (w : World) : Calls Try.prog 99 #[.int .i64 c] w fun e w' => e = .returned (.int .i64 (slotsOf c)) ∧ w = w' := by
  cases h : between c 0 3
  · (have hall := all_nil w; go_enter Try.func99, Try.ntmps99)
    go_wp2_with (first | (go_at_call 45; (first | (refine (s_l01In _ _ _ true (by assumption) _).mono ?_) | (refine (s_l01In _ _ _ false (by assumption) _).mono ?_) | (refine (s_l01In _ _ _ _ rfl _).mono ?_)); rintro e w1 ⟨rfl, rfl⟩))
    go_ret
    exact ⟨by simp [slotsOf_out h], rfl⟩
  · rcases class_cases h with rfl | rfl | rfl | rfl
    all_goals (have hall := all_nil w; go_enter Try.func99, Try.ntmps99)
    all_goals go_wp2_with (first | (go_at_call 45; (first | (refine (s_l01In _ _ _ true (by assumption) _).mono ?_) | (refine (s_l01In _ _ _ false (by assumption) _).mono ?_) | (refine (s_l01In _ _ _ _ rfl _).mono ?_)); rintro e w1 ⟨rfl, rfl⟩))
    all_goals go_ret
    all_goals exact ⟨rfl, rfl⟩
theorem i_BitmapOk (n b : Int) (r : Bool) (hr : bitmapOk n b = r) (w : World) : Calls Try.prog 100 #[.int .i64 n, .int .i64 b] w fun e w' => e = .returned (.bool r) ∧ w = w' := by
  subst hr
  cases h : between n 1 16
  · (have hall := all_nil w; go_enter Try.func100, Try.ntmps100)
    go_wp2_with (first | (go_at_call 51; (first | (refine (i_between _ _ _ true (by assumption) _).mono ?_) | (refine (i_between _ _ _ false (by assumption) _).mono ?_) | (refine (i_between _ _ _ _ rfl _).mono ?_)); rintro e w1 ⟨rfl, rfl⟩))
    go_ret
    exact ⟨by simp [bitmapOk, h], rfl⟩
  · have hb := between_iff.1 h
    have hp := pow_in (c := n) (by omega) hb.2
    have e1 : wrap64 (wrap64 (2 ^ n.toNat) - 1) = 2 ^ n.toNat - 1 := by rw [hp.1, hp.2.1]
    have H := Lib.hid e1; clear e1 hp
    (have hall := all_nil w; go_enter Try.func100, Try.ntmps100)
    go_wp2_with (first | (go_at_call 51; (first | (refine (i_between _ _ _ true (by assumption) _).mono ?_) | (refine (i_between _ _ _ false (by assumption) _).mono ?_) | (refine (i_between _ _ _ _ rfl _).mono ?_)); rintro e w1 ⟨rfl, rfl⟩))
    go_ret
    exact ⟨ret_bool (by simp only [bitmapOk, h, Bool.true_and]; first | rw [H.out] | rfl), rfl⟩
theorem s_BitmapOk (n b : Int) (r : Bool) (hr : bitmapOk n b = r) (w : World) : Calls Try.prog 104 #[.int .i64 n, .int .i64 b] w fun e w' => e = .returned (.bool r) ∧ w = w' := by
  subst hr
  cases h : between n 1 16
  · (have hall := all_nil w; go_enter Try.func104, Try.ntmps104)
    go_wp2_with (first | (go_at_call 45; (first | (refine (s_l01In _ _ _ true (by assumption) _).mono ?_) | (refine (s_l01In _ _ _ false (by assumption) _).mono ?_) | (refine (s_l01In _ _ _ _ rfl _).mono ?_)); rintro e w1 ⟨rfl, rfl⟩))
    go_ret
    exact ⟨by simp [bitmapOk, h], rfl⟩
  · have hb := between_iff.1 h
    have hp := pow_in (c := n) (by omega) hb.2
    have e1 : wrap64 (wrap64 (2 ^ n.toNat) - 1) = 2 ^ n.toNat - 1 := by rw [hp.1, hp.2.1]
    have H := Lib.hid e1; clear e1 hp
    (have hall := all_nil w; go_enter Try.func104, Try.ntmps104)
    go_wp2_with (first | (go_at_call 45; (first | (refine (s_l01In _ _ _ true (by assumption) _).mono ?_) | (refine (s_l01In _ _ _ false (by assumption) _).mono ?_) | (refine (s_l01In _ _ _ _ rfl _).mono ?_)); rintro e w1 ⟨rfl, rfl⟩))
    go_ret
    exact ⟨ret_bool (by simp only [bitmapOk, h, Bool.true_and]; first | rw [H.out] | rfl), rfl⟩

theorem i_SpanOk (p c b : Int) (r : Bool) (hr : spanOk p c b = r) (w : World) : Calls Try.prog 64 #[.agg #[.int .i64 p, .int .i64 c, .int .i64 b]] w fun e w' => e = .returned (.bool r) ∧ Below w.heap.size w w' := by
  subst hr
  cases h1 : between p 0 31 <;> cases h2 : between c 0 3
  all_goals (have hall := all_nil w; go_enter Try.func64, Try.ntmps64)
  all_goals go_wp2_with fail
  all_goals (with_reducible refine wp_region_grew2 (by kernel_rfl) (by kernel_rfl) ?_; intro w2 hb; (first | have hn := nw4 hb hall (by exact zo) | have hn := nw3 hb hall (by exact zo) | have hn := nw2 hb hall (by exact zo) | have hn := nw1 hb hall (by exact zo) | have hn := nw0 hb hall (by exact zo)); obtain ⟨hc, hf, hn, hc0⟩ := hn; replace hall := hn; clear hn; have hz := hb.size; (try simp only [World.size_alloc, World.size_setCell, World.size_drew] at hz); have hx := hall; (try simp only [allLt, and_true] at hx); obtain ⟨w1, rfl⟩ : ∃ x, x = w2 := ⟨_, rfl⟩; (repeat (go_big_quiet_step (first | (go_at_call 51; first | exact calls_same (i_between _ _ _ true (by assumption) _) | exact calls_same (i_between _ _ _ false (by assumption) _) | exact calls_same (i_between _ _ _ _ rfl _)) | (go_at_call 68; first | exact calls_same (i_classOk _ true (by assumption) _) | exact calls_same (i_classOk _ false (by assumption) _) | exact calls_same (i_classOk _ _ rfl _)) | (go_at_call 67; exact calls_same (i_SlotsOf _ _)) | (go_at_call 100; first | exact calls_same (i_BitmapOk _ _ true (by assumption) _) | exact calls_same (i_BitmapOk _ _ false (by assumption) _) | exact calls_same (i_BitmapOk _ _ _ rfl _))))); refine wpQuiet_nil ?_; intro w2 hw'; have hb := grew_below hw'; clear hw'; (first | have hn := nw4 hb hall (by exact zo) | have hn := nw3 hb hall (by exact zo) | have hn := nw2 hb hall (by exact zo) | have hn := nw1 hb hall (by exact zo) | have hn := nw0 hb hall (by exact zo)); obtain ⟨hc, hf, hn, hc0⟩ := hn; replace hall := hn; clear hn; have hz := hb.size; (try simp only [World.size_alloc, World.size_setCell, World.size_drew] at hz); have hx := hall; (try simp only [allLt, and_true] at hx); obtain ⟨w1, rfl⟩ : ∃ x, x = w2 := ⟨_, rfl⟩)
  all_goals go_wp2_with fail
  all_goals (go_ret; refine ⟨by simp_all [spanOk], ?_⟩; exact bel)
theorem s_SpanOk (p c b : Int) (r : Bool) (hr : spanOk p c b = r) (w : World) : Calls Try.prog 95 #[.agg #[.int .i64 p, .int .i64 c, .int .i64 b]] w fun e w' => e = .returned (.bool r) ∧ Below w.heap.size w w' := by
  subst hr
  cases h1 : between p 0 31
  all_goals (have hall := all_nil w; go_enter Try.func95, Try.ntmps95)
  all_goals go_wp2_with fail
  all_goals (with_reducible refine wp_region_grew2 (by kernel_rfl) (by kernel_rfl) ?_; intro w2 hb; (first | have hn := nw4 hb hall (by exact zo) | have hn := nw3 hb hall (by exact zo) | have hn := nw2 hb hall (by exact zo) | have hn := nw1 hb hall (by exact zo) | have hn := nw0 hb hall (by exact zo)); obtain ⟨hc, hf, hn, hc0⟩ := hn; replace hall := hn; clear hn; have hz := hb.size; (try simp only [World.size_alloc, World.size_setCell, World.size_drew] at hz); have hx := hall; (try simp only [allLt, and_true] at hx); obtain ⟨w1, rfl⟩ : ∃ x, x = w2 := ⟨_, rfl⟩; (repeat (go_big_quiet_step (first | (go_at_call 45; first | exact calls_same (s_l01In _ _ _ true (by assumption) _) | exact calls_same (s_l01In _ _ _ false (by assumption) _) | exact calls_same (s_l01In _ _ _ _ rfl _)) | (go_at_call 99; exact calls_same (s_SlotsOf _ _)) | (go_at_call 104; first | exact calls_same (s_BitmapOk _ _ true (by assumption) _) | exact calls_same (s_BitmapOk _ _ false (by assumption) _) | exact calls_same (s_BitmapOk _ _ _ rfl _))))); refine wpQuiet_nil ?_; intro w2 hw'; have hb := grew_below hw'; clear hw'; (first | have hn := nw4 hb hall (by exact zo) | have hn := nw3 hb hall (by exact zo) | have hn := nw2 hb hall (by exact zo) | have hn := nw1 hb hall (by exact zo) | have hn := nw0 hb hall (by exact zo)); obtain ⟨hc, hf, hn, hc0⟩ := hn; replace hall := hn; clear hn; have hz := hb.size; (try simp only [World.size_alloc, World.size_setCell, World.size_drew] at hz); have hx := hall; (try simp only [allLt, and_true] at hx); obtain ⟨w1, rfl⟩ : ∃ x, x = w2 := ⟨_, rfl⟩)
  all_goals go_wp2_with fail
  all_goals (go_ret; refine ⟨by simp_all [spanOk_alt], ?_⟩; exact bel)
theorem l_toSpan (a b c : Int) (w : World) : Calls Try.prog 15 #[.agg #[.int .i64 a, .int .i64 b, .int .i64 c]] w fun e w' => e = .returned (.agg #[.int .i64 a, .int .i64 b, .int .i64 c]) ∧ Below w.heap.size w w' := by
  (have hall := all_nil w; go_enter Try.func15, Try.ntmps15)
  go_wp2_with fail
  (refine bodyPost_ret (v := .agg #[.int .i64 a, .int .i64 b, .int .i64 c]) (by simp [results, Try.results15, go_sem]) rfl ⟨rfl, ?_⟩; exact bel)
theorem i_slotOk (b i : Int) (r : Bool) (hr : slotOk b i = r) (w : World) : Calls Try.prog 101 #[.int .i64 b, .int .i64 i] w fun e w' => e = .returned (.bool r) ∧ w = w' := by
  subst hr
  (have hall := all_nil w; go_enter Try.func101, Try.ntmps101)
  go_wp2_with (first | (go_at_call 51; (first | (refine (i_between _ _ _ true (by assumption) _).mono ?_) | (refine (i_between _ _ _ false (by assumption) _).mono ?_) | (refine (i_between _ _ _ _ rfl _).mono ?_)); rintro e w1 ⟨rfl, rfl⟩))
  all_goals (go_ret; refine ⟨?_, rfl⟩; (simp_all [slotOk]))
  all_goals omega
theorem s_l02Bit (b i : Int) (r : Bool) (hr : slotOk b i = r) (w : World) : Calls Try.prog 105 #[.int .i64 b, .int .i64 i] w fun e w' => e = .returned (.bool r) ∧ w = w' := by
  subst hr
  (have hall := all_nil w; go_enter Try.func105, Try.ntmps105)
  go_wp2_with (first | (go_at_call 45; (first | (refine (s_l01In _ _ _ true (by assumption) _).mono ?_) | (refine (s_l01In _ _ _ false (by assumption) _).mono ?_) | (refine (s_l01In _ _ _ _ rfl _).mono ?_)); rintro e w1 ⟨rfl, rfl⟩))
  all_goals (go_ret; refine ⟨?_, rfl⟩; (simp_all [slotOk]))
  all_goals omega
theorem slotOk_iff {b i : Int} : slotOk b i = true ↔ 0 ≤ b ∧ 0 ≤ i ∧ i ≤ 15 := by simp [slotOk, between_iff]
theorem i_HasSlot (b i : Int) (r : Bool) (hr : hasSlot b i = r) (w : World) : Calls Try.prog 65 #[.int .i64 b, .int .i64 i] w fun e w' => e = .returned (.bool r) ∧ w = w' := by
  subst hr
  cases h : slotOk b i
  · (have hall := all_nil w; go_enter Try.func65, Try.ntmps65)
    go_wp2_with (first | (go_at_call 101; (first | (refine (i_slotOk _ _ true (by assumption) _).mono ?_) | (refine (i_slotOk _ _ false (by assumption) _).mono ?_) | (refine (i_slotOk _ _ _ rfl _).mono ?_)); rintro e w1 ⟨rfl, rfl⟩))
    go_ret
    exact ⟨by simp [hasSlot, h], rfl⟩
  · have hb := slotOk_iff.1 h
    (have hall := all_nil w; go_enter Try.func65, Try.ntmps65)
    go_wp2_with (first | (go_at_call 101; (first | (refine (i_slotOk _ _ true (by assumption) _).mono ?_) | (refine (i_slotOk _ _ false (by assumption) _).mono ?_) | (refine (i_slotOk _ _ _ rfl _).mono ?_)); rintro e w1 ⟨rfl, rfl⟩))
    go_ret
    exact ⟨by simp [hasSlot, h], rfl⟩
theorem s_HasSlot (b i : Int) (r : Bool) (hr : hasSlot b i = r) (w : World) : Calls Try.prog 96 #[.int .i64 b, .int .i64 i] w fun e w' => e = .returned (.bool r) ∧ w = w' := by
  subst hr
  cases h : slotOk b i
  · (have hall := all_nil w; go_enter Try.func96, Try.ntmps96)
    go_wp2_with (first | (go_at_call 105; (first | (refine (s_l02Bit _ _ true (by assumption) _).mono ?_) | (refine (s_l02Bit _ _ false (by assumption) _).mono ?_) | (refine (s_l02Bit _ _ _ rfl _).mono ?_)); rintro e w1 ⟨rfl, rfl⟩))
    go_ret
    exact ⟨by simp [hasSlot, h], rfl⟩
  · have hb := slotOk_iff.1 h
    (have hall := all_nil w; go_enter Try.func96, Try.ntmps96)
    go_wp2_with (first | (go_at_call 105; (first | (refine (s_l02Bit _ _ true (by assumption) _).mono ?_) | (refine (s_l02Bit _ _ false (by assumption) _).mono ?_) | (refine (s_l02Bit _ _ _ rfl _).mono ?_)); rintro e w1 ⟨rfl, rfl⟩))
    go_ret
    exact ⟨by simp [hasSlot, h], rfl⟩

theorem i_WithoutSlot (b i : Int) (w : World) : Calls Try.prog 66 #[.int .i64 b, .int .i64 i] w fun e w' => e = .returned (.int .i64 (withoutSlot b i)) ∧ w = w' := by
  cases h : slotOk b i
  · (have hall := all_nil w; go_enter Try.func66, Try.ntmps66)
    go_wp2_with (first | (go_at_call 101; (first | (refine (i_slotOk _ _ true (by assumption) _).mono ?_) | (refine (i_slotOk _ _ false (by assumption) _).mono ?_) | (refine (i_slotOk _ _ _ rfl _).mono ?_)); rintro e w1 ⟨rfl, rfl⟩))
    go_ret
    exact ⟨by simp [withoutSlot, h], rfl⟩
  · have hb := slotOk_iff.1 h
    have hp := pow_in (c := i) hb.2.1 (by omega)
    have H := Lib.hid hp.1; clear hp
    (have hall := all_nil w; go_enter Try.func66, Try.ntmps66)
    go_wp2_with (first | (go_at_call 101; (first | (refine (i_slotOk _ _ true (by assumption) _).mono ?_) | (refine (i_slotOk _ _ false (by assumption) _).mono ?_) | (refine (i_slotOk _ _ _ rfl _).mono ?_)); rintro e w1 ⟨rfl, rfl⟩))
    go_ret
    exact ⟨ret_int (by simp only [withoutSlot, h, if_true]; rw [H.out]), rfl⟩
theorem s_WithoutSlot (b i : Int) (w : World) : Calls Try.prog 97 #[.int .i64 b, .int .i64 i] w fun e w' => e = .returned (.int .i64 (withoutSlot b i)) ∧ w = w' := by
  cases h : slotOk b i
  · (have hall := all_nil w; go_enter Try.func97, Try.ntmps97)
    go_wp2_with (first | (go_at_call 105; (first | (refine (s_l02Bit _ _ true (by assumption) _).mono ?_) | (refine (s_l02Bit _ _ false (by assumption) _).mono ?_) | (refine (s_l02Bit _ _ _ rfl _).mono ?_)); rintro e w1 ⟨rfl, rfl⟩))
    go_ret
    exact ⟨by simp [withoutSlot, h], rfl⟩
  · have hb := slotOk_iff.1 h
    have hp := pow_in (c := i) hb.2.1 (by omega)
    have H := Lib.hid hp.1; clear hp
    (have hall := all_nil w; go_enter Try.func97, Try.ntmps97)
    go_wp2_with (first | (go_at_call 105; (first | (refine (s_l02Bit _ _ true (by assumption) _).mono ?_) | (refine (s_l02Bit _ _ false (by assumption) _).mono ?_) | (refine (s_l02Bit _ _ _ rfl _).mono ?_)); rintro e w1 ⟨rfl, rfl⟩))
    go_ret
    exact ⟨ret_int (by simp only [withoutSlot, h, if_true]; rw [H.out]), rfl⟩

end Go.Proofs.Ytmblkllijjlkoaa
