/-
  Texts put together: Scal, Ints, IntLaw, Make, KDef, Fam, RowLib, RowFn, KMath, KLaw.
-/
import Derived.Test.YtobechjagckdfaaGLT1
import Derived.Deep.RegionHeld3
/-
  What the small functions on numbers, classes and bitmaps return: one contract a function.
-/
set_option linter.unusedVariables false
set_option linter.unusedSimpArgs false
namespace Go.Proofs.Ytobechjagckdfaa
open Go.RowKit

theorem i_between (n lo hi : Int) (r : Bool) (hr : between n lo hi = r) (w : World) :
    Calls Try.prog 26 #[.int .i64 n, .int .i64 lo, .int .i64 hi] w fun e w' => e = .returned (.bool r) ∧ w = w' := by
  subst hr
  (have hall := all_nil w; go_enter Try.func26, Try.ntmps26)
  go_wp2
  all_goals (go_ret; refine ⟨?_, rfl⟩; (simp_all [between]))
  omega
theorem s_l01In (n lo hi : Int) (r : Bool) (hr : between n lo hi = r) (w : World) :
    Calls Try.prog 28 #[.int .i64 n, .int .i64 lo, .int .i64 hi] w fun e w' => e = .returned (.bool r) ∧ w = w' := by
  subst hr
  (have hall := all_nil w; go_enter Try.func28, Try.ntmps28)
  go_wp2
  all_goals (go_ret; refine ⟨?_, rfl⟩; (simp_all [between]))
  omega
theorem i_classOk (c : Int) (r : Bool) (hr : between c 0 3 = r) (w : World) : Calls Try.prog 62 #[.int .i64 c] w fun e w' => e = .returned (.bool r) ∧ w = w' := by
  subst hr
  (have hall := all_nil w; go_enter Try.func62, Try.ntmps62)
  go_wp2_with (first | (go_at_call 26; (first | (refine (i_between _ _ _ true (by assumption) _).mono ?_) | (refine (i_between _ _ _ false (by assumption) _).mono ?_) | (refine (i_between _ _ _ _ rfl _).mono ?_)); rintro e w1 ⟨rfl, rfl⟩))
  all_goals (go_ret; refine ⟨?_, rfl⟩; (simp_all []))
theorem i_ClassSize (c : Int) (w : World) : Calls Try.prog 36 #[.int .i64 c] w fun e w' => e = .returned (.int .i64 (classSize c)) ∧ w = w' := by
  cases h : between c 0 3
  · (have hall := all_nil w; go_enter Try.func36, Try.ntmps36)
    go_wp2_with (first | (go_at_call 62; (first | (refine (i_classOk _ true (by assumption) _).mono ?_) | (refine (i_classOk _ false (by assumption) _).mono ?_) | (refine (i_classOk _ _ rfl _).mono ?_)); rintro e w1 ⟨rfl, rfl⟩))
    go_ret
    exact ⟨by simp [classSize_out h], rfl⟩
  · have hb := between_iff.1 h
    (have hall := all_nil w; go_enter Try.func36, Try.ntmps36)
    go_wp2_with (first | (go_at_call 62; (first | (refine (i_classOk _ true (by assumption) _).mono ?_) | (refine (i_classOk _ false (by assumption) _).mono ?_) | (refine (i_classOk _ _ rfl _).mono ?_)); rintro e w1 ⟨rfl, rfl⟩))
    go_ret
    exact ⟨ret_int (by rw [classSize_in h]; exact (pow_in hb.1 (by omega)).1), rfl⟩
theorem s_ClassSize (c : Int) (w : World) : Calls Try.prog 20 #[.int .i64 c] w fun e w' => e = .returned (.int .i64 (classSize c)) ∧ w = w' := by
  cases h : between c 0 3
  · (have hall := all_nil w; go_enter Try.func20, Try.ntmps20)
    go_wp2_with (first | (go_at_call 28; (first | (refine (s_l01In _ _ _ true (by assumption) _).mono ?_) | (refine (s_l01In _ _ _ false (by assumption) _).mono ?_) | (refine (s_l01In _ _ _ _ rfl _).mono ?_)); rintro e w1 ⟨rfl, rfl⟩))
    go_ret
    exact ⟨by simp [classSize_out h], rfl⟩
  · rcases class_cases h with rfl | rfl | rfl | rfl
    all_goals (have hall := all_nil w; go_enter Try.func20, Try.ntmps20)
    all_goals go_wp2_with (first | (go_at_call 28; (first | (refine (s_l01In _ _ _ true (by assumption) _).mono ?_) | (refine (s_l01In _ _ _ false (by assumption) _).mono ?_) | (refine (s_l01In _ _ _ _ rfl _).mono ?_)); rintro e w1 ⟨rfl, rfl⟩))
    all_goals go_ret
    all_goals exact ⟨rfl, rfl⟩
theorem i_SlotsOf (c : Int) (w : World) : Calls Try.prog 61 #[.int .i64 c] w fun e w' => e = .returned (.int .i64 (slotsOf c)) ∧ w = w' := by
  cases h : between c 0 3
  · (have hall := all_nil w; go_enter Try.func61, Try.ntmps61)
    go_wp2_with (first | (go_at_call 62; (first | (refine (i_classOk _ true (by assumption) _).mono ?_) | (refine (i_classOk _ false (by assumption) _).mono ?_) | (refine (i_classOk _ _ rfl _).mono ?_)); rintro e w1 ⟨rfl, rfl⟩) | (go_at_call 36; (refine (i_ClassSize _ _).mono ?_); rintro e w1 ⟨rfl, rfl⟩))
    go_ret
    exact ⟨by simp [slotsOf_out h], rfl⟩
  · have hc : (classSize c = 1 ∧ slotsOf c = 16) ∨ (classSize c = 2 ∧ slotsOf c = 8) ∨ (classSize c = 4 ∧ slotsOf c = 4) ∨ (classSize c = 8 ∧ slotsOf c = 2) := by
      rcases class_cases h with rfl | rfl | rfl | rfl <;> decide
    rcases hc with ⟨h1, h2⟩ | ⟨h1, h2⟩ | ⟨h1, h2⟩ | ⟨h1, h2⟩
    all_goals have H := Lib.hid h2; clear h2
    all_goals (have hall := all_nil w; go_enter Try.func61, Try.ntmps61)
    all_goals go_wp2_with (first | (go_at_call 62; (first | (refine (i_classOk _ true (by assumption) _).mono ?_) | (refine (i_classOk _ false (by assumption) _).mono ?_) | (refine (i_classOk _ _ rfl _).mono ?_)); rintro e w1 ⟨rfl, rfl⟩) | (go_at_call 36; (refine (i_ClassSize _ _).mono ?_); rintro e w1 ⟨rfl, rfl⟩))
    all_goals go_ret
    all_goals exact ⟨by rw [H.out]; rfl, rfl⟩
theorem s_SlotsOf (c : Int) (w : World) : Calls Try.prog 14 #[.int .i64 c] w fun e w' => e = .returned (.int .i64 (slotsOf c)) ∧ w = w' := by
  cases h : between c 0 3
  · (have hall := all_nil w; go_enter Try.func14, Try.ntmps14)
    go_wp2_with (first | (go_at_call 28; (first | (refine (s_l01In _ _ _ true (by assumption) _).mono ?_) | (refine (s_l01In _ _ _ false (by assumption) _).mono ?_) | (refine (s_l01In _ _ _ _ rfl _).mono ?_)); rintro e w1 ⟨rfl, rfl⟩))
    go_ret
    exact ⟨by simp [slotsOf_out h], rfl⟩
  · rcases class_cases h with rfl | rfl | rfl | rfl
    all_goals (have hall := all_nil w; go_enter Try.func14, Try.ntmps14)
    all_goals go_wp2_with (first | (go_at_call 28; (first | (refine (s_l01In _ _ _ true (by assumption) _).mono ?_) | (refine (s_l01In _ _ _ false (by assumption) _).mono ?_) | (refine (s_l01In _ _ _ _ rfl _).mono ?_)); rintro e w1 ⟨rfl, rfl⟩))
    all_goals go_ret
    all_goals exact ⟨rfl, rfl⟩
theorem i_BitmapOk (n b : Int) (r : Bool) (hr : bitmapOk n b = r) (w : World) : Calls Try.prog 77 #[.int .i64 n, .int .i64 b] w fun e w' => e = .returned (.bool r) ∧ w = w' := by
  subst hr
  cases h : between n 1 16
  · (have hall := all_nil w; go_enter Try.func77, Try.ntmps77)
    go_wp2_with (first | (go_at_call 26; (first | (refine (i_between _ _ _ true (by assumption) _).mono ?_) | (refine (i_between _ _ _ false (by assumption) _).mono ?_) | (refine (i_between _ _ _ _ rfl _).mono ?_)); rintro e w1 ⟨rfl, rfl⟩))
    go_ret
    exact ⟨by simp [bitmapOk, h], rfl⟩
  · have hb := between_iff.1 h
    have hp := pow_in (c := n) (by omega) hb.2
    have e1 : wrap64 (wrap64 (2 ^ n.toNat) - 1) = 2 ^ n.toNat - 1 := by rw [hp.1, hp.2.1]
    have H := Lib.hid e1; clear e1 hp
    (have hall := all_nil w; go_enter Try.func77, Try.ntmps77)
    go_wp2_with (first | (go_at_call 26; (first | (refine (i_between _ _ _ true (by assumption) _).mono ?_) | (refine (i_between _ _ _ false (by assumption) _).mono ?_) | (refine (i_between _ _ _ _ rfl _).mono ?_)); rintro e w1 ⟨rfl, rfl⟩))
    go_ret
    exact ⟨ret_bool (by simp only [bitmapOk, h, Bool.true_and]; first | rw [H.out] | rfl), rfl⟩
theorem s_BitmapOk (n b : Int) (r : Bool) (hr : bitmapOk n b = r) (w : World) : Calls Try.prog 83 #[.int .i64 n, .int .i64 b] w fun e w' => e = .returned (.bool r) ∧ w = w' := by
  subst hr
  cases h : between n 1 16
  · (have hall := all_nil w; go_enter Try.func83, Try.ntmps83)
    go_wp2_with (first | (go_at_call 28; (first | (refine (s_l01In _ _ _ true (by assumption) _).mono ?_) | (refine (s_l01In _ _ _ false (by assumption) _).mono ?_) | (refine (s_l01In _ _ _ _ rfl _).mono ?_)); rintro e w1 ⟨rfl, rfl⟩))
    go_ret
    exact ⟨by simp [bitmapOk, h], rfl⟩
  · have hb := between_iff.1 h
    have hp := pow_in (c := n) (by omega) hb.2
    have e1 : wrap64 (wrap64 (2 ^ n.toNat) - 1) = 2 ^ n.toNat - 1 := by rw [hp.1, hp.2.1]
    have H := Lib.hid e1; clear e1 hp
    (have hall := all_nil w; go_enter Try.func83, Try.ntmps83)
    go_wp2_with (first | (go_at_call 28; (first | (refine (s_l01In _ _ _ true (by assumption) _).mono ?_) | (refine (s_l01In _ _ _ false (by assumption) _).mono ?_) | (refine (s_l01In _ _ _ _ rfl _).mono ?_)); rintro e w1 ⟨rfl, rfl⟩))
    go_ret
    exact ⟨ret_bool (by simp only [bitmapOk, h, Bool.true_and]; first | rw [H.out] | rfl), rfl⟩

theorem i_SpanOk (p c b : Int) (r : Bool) (hr : spanOk p c b = r) (w : World) : Calls Try.prog 58 #[.agg #[.int .i64 p, .int .i64 c, .int .i64 b]] w fun e w' => e = .returned (.bool r) ∧ Below w.heap.size w w' := by
  subst hr
  cases h1 : between p 0 31 <;> cases h2 : between c 0 3
  all_goals (have hall := all_nil w; go_enter Try.func58, Try.ntmps58)
  all_goals go_wp2_with fail
  all_goals (with_reducible refine wp_region_grew2 (by kernel_rfl) (by kernel_rfl) ?_; intro w2 hb; (first | have hn := nw4 hb hall (by exact zo) | have hn := nw3 hb hall (by exact zo) | have hn := nw2 hb hall (by exact zo) | have hn := nw1 hb hall (by exact zo) | have hn := nw0 hb hall (by exact zo)); obtain ⟨hc, hf, hn, hc0⟩ := hn; replace hall := hn; clear hn; have hz := hb.size; (try simp only [World.size_alloc, World.size_setCell, World.size_drew] at hz); have hx := hall; (try simp only [allLt, and_true] at hx); obtain ⟨w1, rfl⟩ : ∃ x, x = w2 := ⟨_, rfl⟩; (repeat (go_big_quiet_step (first | (go_at_call 26; first | exact calls_same (i_between _ _ _ true (by assumption) _) | exact calls_same (i_between _ _ _ false (by assumption) _) | exact calls_same (i_between _ _ _ _ rfl _)) | (go_at_call 62; first | exact calls_same (i_classOk _ true (by assumption) _) | exact calls_same (i_classOk _ false (by assumption) _) | exact calls_same (i_classOk _ _ rfl _)) | (go_at_call 61; exact calls_same (i_SlotsOf _ _)) | (go_at_call 77; first | exact calls_same (i_BitmapOk _ _ true (by assumption) _) | exact calls_same (i_BitmapOk _ _ false (by assumption) _) | exact calls_same (i_BitmapOk _ _ _ rfl _))))); refine wpQuiet_nil ?_; intro w2 hw'; have hb := grew_below hw'; clear hw'; (first | have hn := nw4 hb hall (by exact zo) | have hn := nw3 hb hall (by exact zo) | have hn := nw2 hb hall (by exact zo) | have hn := nw1 hb hall (by exact zo) | have hn := nw0 hb hall (by exact zo)); obtain ⟨hc, hf, hn, hc0⟩ := hn; replace hall := hn; clear hn; have hz := hb.size; (try simp only [World.size_alloc, World.size_setCell, World.size_drew] at hz); have hx := hall; (try simp only [allLt, and_true] at hx); obtain ⟨w1, rfl⟩ : ∃ x, x = w2 := ⟨_, rfl⟩)
  all_goals go_wp2_with fail
  all_goals (go_ret; refine ⟨by simp_all [spanOk], ?_⟩; exact bel)
theorem s_SpanOk (p c b : Int) (r : Bool) (hr : spanOk p c b = r) (w : World) : Calls Try.prog 73 #[.agg #[.int .i64 p, .int .i64 c, .int .i64 b]] w fun e w' => e = .returned (.bool r) ∧ Below w.heap.size w w' := by
  subst hr
  cases h1 : between p 0 31
  all_goals (have hall := all_nil w; go_enter Try.func73, Try.ntmps73)
  all_goals go_wp2_with fail
  all_goals (with_reducible refine wp_region_grew2 (by kernel_rfl) (by kernel_rfl) ?_; intro w2 hb; (first | have hn := nw4 hb hall (by exact zo) | have hn := nw3 hb hall (by exact zo) | have hn := nw2 hb hall (by exact zo) | have hn := nw1 hb hall (by exact zo) | have hn := nw0 hb hall (by exact zo)); obtain ⟨hc, hf, hn, hc0⟩ := hn; replace hall := hn; clear hn; have hz := hb.size; (try simp only [World.size_alloc, World.size_setCell, World.size_drew] at hz); have hx := hall; (try simp only [allLt, and_true] at hx); obtain ⟨w1, rfl⟩ : ∃ x, x = w2 := ⟨_, rfl⟩; (repeat (go_big_quiet_step (first | (go_at_call 28; first | exact calls_same (s_l01In _ _ _ true (by assumption) _) | exact calls_same (s_l01In _ _ _ false (by assumption) _) | exact calls_same (s_l01In _ _ _ _ rfl _)) | (go_at_call 14; exact calls_same (s_SlotsOf _ _)) | (go_at_call 83; first | exact calls_same (s_BitmapOk _ _ true (by assumption) _) | exact calls_same (s_BitmapOk _ _ false (by assumption) _) | exact calls_same (s_BitmapOk _ _ _ rfl _))))); refine wpQuiet_nil ?_; intro w2 hw'; have hb := grew_below hw'; clear hw'; (first | have hn := nw4 hb hall (by exact zo) | have hn := nw3 hb hall (by exact zo) | have hn := nw2 hb hall (by exact zo) | have hn := nw1 hb hall (by exact zo) | have hn := nw0 hb hall (by exact zo)); obtain ⟨hc, hf, hn, hc0⟩ := hn; replace hall := hn; clear hn; have hz := hb.size; (try simp only [World.size_alloc, World.size_setCell, World.size_drew] at hz); have hx := hall; (try simp only [allLt, and_true] at hx); obtain ⟨w1, rfl⟩ : ∃ x, x = w2 := ⟨_, rfl⟩)
  all_goals go_wp2_with fail
  all_goals (go_ret; refine ⟨by simp_all [spanOk_alt], ?_⟩; exact bel)
theorem i_slotOk (b i : Int) (r : Bool) (hr : slotOk b i = r) (w : World) : Calls Try.prog 78 #[.int .i64 b, .int .i64 i] w fun e w' => e = .returned (.bool r) ∧ w = w' := by
  subst hr
  (have hall := all_nil w; go_enter Try.func78, Try.ntmps78)
  go_wp2_with (first | (go_at_call 26; (first | (refine (i_between _ _ _ true (by assumption) _).mono ?_) | (refine (i_between _ _ _ false (by assumption) _).mono ?_) | (refine (i_between _ _ _ _ rfl _).mono ?_)); rintro e w1 ⟨rfl, rfl⟩))
  all_goals (go_ret; refine ⟨?_, rfl⟩; (simp_all [slotOk]))
  all_goals omega
theorem s_l02Bit (b i : Int) (r : Bool) (hr : slotOk b i = r) (w : World) : Calls Try.prog 37 #[.int .i64 b, .int .i64 i] w fun e w' => e = .returned (.bool r) ∧ w = w' := by
  subst hr
  (have hall := all_nil w; go_enter Try.func37, Try.ntmps37)
  go_wp2_with (first | (go_at_call 28; (first | (refine (s_l01In _ _ _ true (by assumption) _).mono ?_) | (refine (s_l01In _ _ _ false (by assumption) _).mono ?_) | (refine (s_l01In _ _ _ _ rfl _).mono ?_)); rintro e w1 ⟨rfl, rfl⟩))
  all_goals (go_ret; refine ⟨?_, rfl⟩; (simp_all [slotOk]))
  all_goals omega
theorem slotOk_iff {b i : Int} : slotOk b i = true ↔ 0 ≤ b ∧ 0 ≤ i ∧ i ≤ 15 := by simp [slotOk, between_iff]
theorem i_HasSlot (b i : Int) (r : Bool) (hr : hasSlot b i = r) (w : World) : Calls Try.prog 59 #[.int .i64 b, .int .i64 i] w fun e w' => e = .returned (.bool r) ∧ w = w' := by
  subst hr
  cases h : slotOk b i
  · (have hall := all_nil w; go_enter Try.func59, Try.ntmps59)
    go_wp2_with (first | (go_at_call 78; (first | (refine (i_slotOk _ _ true (by assumption) _).mono ?_) | (refine (i_slotOk _ _ false (by assumption) _).mono ?_) | (refine (i_slotOk _ _ _ rfl _).mono ?_)); rintro e w1 ⟨rfl, rfl⟩))
    go_ret
    exact ⟨by simp [hasSlot, h], rfl⟩
  · have hb := slotOk_iff.1 h
    (have hall := all_nil w; go_enter Try.func59, Try.ntmps59)
    go_wp2_with (first | (go_at_call 78; (first | (refine (i_slotOk _ _ true (by assumption) _).mono ?_) | (refine (i_slotOk _ _ false (by assumption) _).mono ?_) | (refine (i_slotOk _ _ _ rfl _).mono ?_)); rintro e w1 ⟨rfl, rfl⟩))
    go_ret
    exact ⟨by simp [hasSlot, h], rfl⟩
theorem s_HasSlot (b i : Int) (r : Bool) (hr : hasSlot b i = r) (w : World) : Calls Try.prog 15 #[.int .i64 b, .int .i64 i] w fun e w' => e = .returned (.bool r) ∧ w = w' := by
  subst hr
  cases h : slotOk b i
  · (have hall := all_nil w; go_enter Try.func15, Try.ntmps15)
    go_wp2_with (first | (go_at_call 37; (first | (refine (s_l02Bit _ _ true (by assumption) _).mono ?_) | (refine (s_l02Bit _ _ false (by assumption) _).mono ?_) | (refine (s_l02Bit _ _ _ rfl _).mono ?_)); rintro e w1 ⟨rfl, rfl⟩))
    go_ret
    exact ⟨by simp [hasSlot, h], rfl⟩
  · have hb := slotOk_iff.1 h
    (have hall := all_nil w; go_enter Try.func15, Try.ntmps15)
    go_wp2_with (first | (go_at_call 37; (first | (refine (s_l02Bit _ _ true (by assumption) _).mono ?_) | (refine (s_l02Bit _ _ false (by assumption) _).mono ?_) | (refine (s_l02Bit _ _ _ rfl _).mono ?_)); rintro e w1 ⟨rfl, rfl⟩))
    go_ret
    exact ⟨by simp [hasSlot, h], rfl⟩

theorem i_WithoutSlot (b i : Int) (w : World) : Calls Try.prog 60 #[.int .i64 b, .int .i64 i] w fun e w' => e = .returned (.int .i64 (withoutSlot b i)) ∧ w = w' := by
  cases h : slotOk b i
  · (have hall := all_nil w; go_enter Try.func60, Try.ntmps60)
    go_wp2_with (first | (go_at_call 78; (first | (refine (i_slotOk _ _ true (by assumption) _).mono ?_) | (refine (i_slotOk _ _ false (by assumption) _).mono ?_) | (refine (i_slotOk _ _ _ rfl _).mono ?_)); rintro e w1 ⟨rfl, rfl⟩))
    go_ret
    exact ⟨by simp [withoutSlot, h], rfl⟩
  · have hb := slotOk_iff.1 h
    have hp := pow_in (c := i) hb.2.1 (by omega)
    have H := Lib.hid hp.1; clear hp
    (have hall := all_nil w; go_enter Try.func60, Try.ntmps60)
    go_wp2_with (first | (go_at_call 78; (first | (refine (i_slotOk _ _ true (by assumption) _).mono ?_) | (refine (i_slotOk _ _ false (by assumption) _).mono ?_) | (refine (i_slotOk _ _ _ rfl _).mono ?_)); rintro e w1 ⟨rfl, rfl⟩))
    go_ret
    exact ⟨ret_int (by simp only [withoutSlot, h, if_true]; rw [H.out]), rfl⟩

end Go.Proofs.Ytobechjagckdfaa
/-
  Slices of ints of the call's own.
-/
set_option linter.unusedVariables false
set_option linter.unusedSimpArgs false
namespace Go.Proofs.Ytobechjagckdfaa
open Go.RowKit
theorem elemInt : ElemT Try.prog 33 3 (.int .i64 0) 1 8 := ⟨Try.underlying33, info_parts (by kernel_rfl), rfl, by decide⟩
def fInt (x : Int) : List Value := [.int .i64 x]
theorem lenInt : LenK 1 fInt := fun _ => rfl
theorem oneInt : ∀ y : Int, ∀ u ∈ fInt y, u.oneCell' = true := fun y u hu => by simp [fInt] at hu; subst hu; rfl
abbrev OwnI (B : Nat) (w : World) (v : Value) (xs : List Int) : Prop := Own 3 1 fInt B w v xs
theorem intCell (w : World) (x : Int) : ∀ j u, (fInt x)[j]? = some u → (w.alloc (.cells #[.int .i64 x] 3)).cell? ⟨w.heap.size, j, none⟩ = some u := by
  intro j u hj
  match j, hj with
  | 0, hj => simp [fInt] at hj; subst hj; go_simp
  | j + 1, hj => simp [fInt] at hj

theorem OwnI.readI {B : Nat} {w : World} {v : Value} {xs : List Int} (h : OwnI B w v xs) : ∃ ao cap, v = .slice ao xs.length cap ∧ xs.length ≤ cap ∧ cap ≤ maxLen ∧
    ∀ i, i < xs.length → ∃ g, ao = some ⟨g, 0, none⟩ ∧ B ≤ g ∧ g < w.heap.size ∧ (∀ o, w.frozen? ⟨g, o, none⟩ = false) ∧ w.cell? ⟨g, i, none⟩ = some (.int .i64 (xs.getD i 0)) := by
  obtain ⟨ao, cap, rfl, hc, hm, hr⟩ := h.read lenInt
  refine ⟨ao, cap, rfl, hc, hm, fun i hi => ?_⟩
  obtain ⟨g, rfl, hB, hg, hf, hcell⟩ := hr i hi
  refine ⟨g, rfl, hB, hg, hf, ?_⟩
  have := hcell 0 (by omega)
  simp only [Nat.mul_one, Nat.add_zero, fInt, List.getElem?_cons_zero] at this
  rw [this, List.getD_eq_getElem?_getD, List.getElem?_eq_getElem hi, Option.getD_some]
/-- What a call that hands back a slice of ints of its own leaves. -/
def NewInts (w : World) (xs : List Int) (e : Ending) (w' : World) : Prop := ∃ v, e = .returned v ∧ OwnI w.heap.size w' v xs ∧ Below w.heap.size w w'
def freeTo (b : Int) : Nat → List Int
  | 0 => []
  | k + 1 => freeTo b k ++ if hasSlot b k then [] else [(k : Int)]
theorem freeTo_le (b : Int) (k : Nat) : (freeTo b k).length ≤ k := by
  induction k with
  | zero => exact Nat.le_refl _
  | succ k ih => simp only [freeTo, List.length_append]; split <;> simp <;> omega
def freeSlots (n b : Int) : List Int := if bitmapOk n b then freeTo b n.toNat else []
end Go.Proofs.Ytobechjagckdfaa
/-
  The three functions of the laws on slices of ints: equal, marked, held.
-/
set_option linter.unusedVariables false
set_option linter.unusedSimpArgs false
namespace Go.Proofs.Ytobechjagckdfaa
open Go.RowKit
theorem flat_set {α : Type} {k : Nat} {f : α → List Value} (hk : k = 1) (hf : LenK k f) (u : Value) (y : α) (hy : f y = [u]) : ∀ (xs : List α) (j : Nat), (xs.flatMap f).set j u = (xs.set j y).flatMap f
  | [], j => by simp
  | x :: xs, j => by
    subst hk
    have hx := hf x
    match hfx : f x, hx with
    | [c], _ =>
      cases j with
      | zero => simp [hfx, hy]
      | succ j => simp only [List.flatMap_cons, hfx, List.singleton_append, List.set_cons_succ, List.set_cons_succ]; rw [flat_set rfl hf u y hy xs j]
/-- A store into a slice of one-cell elements. -/
theorem Own.set1 {α : Type} {E : Nat} {f : α → List Value} (hf : LenK 1 f) {B : Nat} {w : World} {v : Value} {xs : List α} {g n cap : Nat} (h : Own E 1 f B w v xs) (hv : v = .slice (some ⟨g, 0, none⟩) n cap) (j : Nat) (u : Value) (y : α) (hy : f y = [u]) :
    Own E 1 f B (w.setCell ⟨g, j, none⟩ u) v (xs.set j y) ∧ w.grownBy (w.setCell ⟨g, j, none⟩ u) v.ownBlock := by
  have hn : n = xs.length := by
    obtain ⟨ao, cap', he, _⟩ := h.shape
    rw [hv] at he; simp at he; exact he.2.1
  subst hv
  subst hn
  unfold Own at h
  obtain ⟨h1, h2⟩ := World.ownsRow.stored h j u
  refine ⟨?_, h2⟩
  unfold Own
  rw [List.length_set, ← flat_set rfl hf u y hy]
  exact h1
def marksI (k : Int) (n : Nat) : List Int := (List.range n).map fun (i : Nat) => k + (i : Int)
theorem marksI_len (k : Int) (n : Nat) : (marksI k n).length = n := by simp [marksI]
theorem marksI_get (k : Int) (n i : Nat) (h : i < n) : (marksI k n).getD i 0 = k + i := by
  rw [List.getD_eq_getElem?_getD, List.getElem?_eq_getElem (by rw [marksI_len]; exact h)]; simp [marksI]
def mixI (k : Int) (xs : List Int) (j : Nat) : List Int := marksI k j ++ xs.drop j
theorem mixI_len {k : Int} {xs : List Int} {j : Nat} (h : j ≤ xs.length) : (mixI k xs j).length = xs.length := by simp [mixI, marksI_len]; omega
theorem mixI_set {k : Int} {xs : List Int} {j : Nat} (h : j < xs.length) : (mixI k xs j).set j (k + j) = mixI k xs (j + 1) := by
  unfold mixI
  rw [List.set_append_right _ _ (by rw [marksI_len]; exact Nat.le_refl _), marksI_len, Nat.sub_self, List.drop_eq_getElem_cons h, List.set_cons_zero]
  simp [marksI, List.range_succ]
theorem mixI_full (k : Int) (xs : List Int) : mixI k xs xs.length = marksI k xs.length := by simp [mixI]
end Go.Proofs.Ytobechjagckdfaa
/-
  A slice that the call makes, and stores of whole elements into it.
-/
set_option linter.unusedVariables false
set_option linter.unusedSimpArgs false
namespace Go.Proofs.Ytobechjagckdfaa
open Go.RowKit
/-- 'make([]T, n)': n zero elements. -/
theorem replicate_flat {α : Type} {f : α → List Value} {z : Value} {x : α} (hz : f x = z.cells.toList) (k : Nat) (hk : z.cells.size = k) (hpos : 0 < k) (n : Nat) : (madeCells z.cells (n * k)).toList = (List.replicate n x).flatMap f := by
  have hl : (f x).length = k := by rw [hz]; simpa using hk
  apply List.ext_getElem?
  intro j
  by_cases hj : j < n * k
  · have h1 : ((List.replicate n x).flatMap f)[j]? = (f x)[j % k]? := by
      have hd : j / k < n := (Nat.div_lt_iff_lt_mul hpos).2 hj
      have hm : j % k < k := Nat.mod_lt _ hpos
      have hjj : j = j / k * k + j % k := by rw [Nat.mul_comm]; exact (Nat.div_add_mod j k).symm
      have hlk : ∀ n, ((List.replicate n x).flatMap f).length = n * k := fun n => by simp [hl]
      have : ∀ (n i m : Nat), i < n → m < k → ((List.replicate n x).flatMap f)[i * k + m]? = (f x)[m]? := by
        intro n
        induction n with
        | zero => intro i m h; omega
        | succ n ih =>
          intro i m hi hm
          rw [List.replicate_succ, List.flatMap_cons]
          cases i with
          | zero => rw [List.getElem?_append_left (by rw [hl]; omega)]; simp
          | succ i => rw [List.getElem?_append_right (by rw [hl, Nat.add_mul]; omega), hl, show (i + 1) * k + m - k = i * k + m by rw [Nat.add_mul]; omega]; exact ih i m (by omega) hm
      have h2 := this n (j / k) (j % k) hd hm
      rwa [← hjj] at h2
    rw [h1, hz]
    have hm := Nat.mod_lt j hpos
    simp [madeCells, hj, hk]
    rw [Array.getElem?_eq_getElem (by omega), getElem!_pos]
  · simp [madeCells, hj, hl]
    try omega
section
variable {P : Program} {ops : Array Oper} {rest : List Oper} {o : Oper} {a : Act} {Q : Exit → Act → World → Prop} {w : World}
theorem make1 {T E : TypeId} {z : Value} {k bytes : Nat} (ht : ElemT P T E z k bytes) (hgd : o.guard = none) (l c : Operand) (hop : o.op = Op.makeSlice T l c) {α : Type} {f : α → List Value} {x : α} (hz : f x = z.cells.toList)
    (kl kc : IntKind) (n : Nat) (hl : a.eval l = .int kl n) (hc : a.eval c = .int kc n) (b2 : bytes * n ≤ 281474976710656) (b3 : n ≤ maxLen)
    (h : ∀ v' w', v' = .slice (some ⟨w.heap.size, 0, none⟩) n n → Own E k f w.heap.size w' v' (List.replicate n x) → Below w.heap.size w w' → wpList P ops Q rest (a.put o.dst v') w') : wpList P ops Q (o :: rest) a w := by
  obtain ⟨i, hi, hz', hk, hby⟩ := ht.info
  refine wpList_make_full (P := P) w hgd l c T hop w.heap.size E i z k ht.und hi hz' hk kl kc n n n hl hc rfl rfl (by rw [hby]; exact b2) b3 (Nat.le_refl _) fun w' h2 h3 => ?_
  refine h _ w' rfl ?_ ((Below.refl _ _).grown h3 (Nat.le_refl _) (by simp))
  unfold Own
  rw [List.length_replicate, ← replicate_flat hz k ht.zc ht.pos]
  exact h2
end
def setRun (w : World) (g o : Nat) : List Value → World
  | [] => w
  | v :: vs => setRun (w.setCell ⟨g, o, none⟩ v) g (o + 1) vs
def setAll (xs : List Value) (o : Nat) : List Value → List Value
  | [] => xs
  | v :: vs => setAll (xs.set o v) (o + 1) vs
theorem setAll_len : ∀ (us xs : List Value) (o : Nat), (setAll xs o us).length = xs.length
  | [], xs, o => rfl
  | u :: us, xs, o => by rw [setAll, setAll_len us]; simp
theorem setAll_get : ∀ (us xs : List Value) (o : Nat) (m : Nat), o + us.length ≤ xs.length → (setAll xs o us)[m]? = if o ≤ m ∧ m < o + us.length then us[m - o]? else xs[m]?
  | [], xs, o, m, h => by rw [setAll, if_neg (by rw [List.length_nil]; omega)]
  | u :: us, xs, o, m, h => by
    simp only [List.length_cons] at h
    rw [setAll, setAll_get us _ _ _ (by simp; omega)]
    by_cases h1 : m = o
    · subst h1
      rw [if_neg (by omega), if_pos (by rw [List.length_cons]; omega)]
      rw [List.getElem?_set_self (by omega)]; simp
    · by_cases h2 : o + 1 ≤ m ∧ m < o + 1 + us.length
      · rw [if_pos h2, if_pos (by rw [List.length_cons]; omega), show m - o = (m - (o + 1)) + 1 by omega]; simp
      · rw [if_neg h2, if_neg (by rw [List.length_cons]; omega), List.getElem?_set_ne (by omega)]
theorem rowStored {base e size g n cap : Nat} : ∀ (us : List Value) (w : World) (xs : List Value) (o : Nat), w.ownsRow base e size (.slice (some ⟨g, 0, none⟩) n cap) n xs → (setRun w g o us).ownsRow base e size (.slice (some ⟨g, 0, none⟩) n cap) n (setAll xs o us) ∧ w.grownBy (setRun w g o us) (some g)
  | [], w, xs, o, h => ⟨h, grown_refl w _⟩
  | u :: us, w, xs, o, h => by
    obtain ⟨h1, h2⟩ := World.ownsRow.stored h o u
    obtain ⟨h3, h4⟩ := rowStored us _ _ (o + 1) h1
    exact ⟨h3, grown_trans h2 h4⟩
/-- A store of a whole element. -/
theorem Own.setk {α : Type} {E k : Nat} {f : α → List Value} (hf : LenK k f) {B : Nat} {w : World} {v : Value} {xs : List α} {g n cap : Nat} (h : Own E k f B w v xs) (hv : v = .slice (some ⟨g, 0, none⟩) n cap) (i : Nat) (hi : i < xs.length) (y : α) :
    Own E k f B (setRun w g (i * k) (f y)) v (xs.set i y) ∧ w.grownBy (setRun w g (i * k) (f y)) v.ownBlock := by
  have hn : n = xs.length := by
    obtain ⟨ao, cap', he, _⟩ := h.shape
    rw [hv] at he; simp at he; exact he.2.1
  subst hv
  subst hn
  unfold Own at h
  obtain ⟨h1, h2⟩ := rowStored (f y) w _ (i * k) h
  refine ⟨?_, h2⟩
  unfold Own
  rw [List.length_set]
  have he : setAll (xs.flatMap f) (i * k) (f y) = (xs.set i y).flatMap f := by
    have hle : (i + 1) * k ≤ xs.length * k := Nat.mul_le_mul_right _ hi
    rw [Nat.add_mul] at hle
    apply List.ext_getElem?
    intro m
    rw [setAll_get _ _ _ _ (by rw [flat_len hf, hf]; omega), hf]
    by_cases hm : m < xs.length * k
    · have hk : 0 < k := by
        rcases Nat.eq_zero_or_pos k with h0 | h0
        · subst h0; omega
        · exact h0
      have hd : m / k < xs.length := (Nat.div_lt_iff_lt_mul hk).2 hm
      have hr : m % k < k := Nat.mod_lt _ hk
      have hmm : m = m / k * k + m % k := by rw [Nat.mul_comm]; exact (Nat.div_add_mod m k).symm
      generalize m / k = q at *
      generalize m % k = r at *
      subst hmm
      rw [flat_get hf (xs.set i y) q r (by simpa using hd) hr, flat_get hf xs q r hd hr]
      by_cases hq : q = i
      · subst hq
        rw [if_pos (by omega)]
        simp
      · have : ¬ (i * k ≤ q * k + r ∧ q * k + r < i * k + k) := by
          rcases Nat.lt_or_gt_of_ne hq with h' | h'
          · have := Nat.mul_le_mul_right k (show q + 1 ≤ i by omega)
            rw [Nat.add_mul] at this
            omega
          · have := Nat.mul_le_mul_right k (show i + 1 ≤ q by omega)
            rw [Nat.add_mul] at this
            omega
        rw [if_neg this]
        rw [List.getElem_set_ne (by omega)]
    · rw [if_neg (by omega), List.getElem?_eq_none (by rw [flat_len hf]; omega), List.getElem?_eq_none (by rw [flat_len hf]; simp; omega)]
  rw [← he]
  exact h1
theorem mix_set {α : Type} {n j : Nat} (xs : List α) (z : α) (hn : n = xs.length) (hj : j < xs.length) : (xs.take j ++ List.replicate (n - j) z).set j xs[j] = xs.take (j + 1) ++ List.replicate (n - (j + 1)) z := by
  have hl : (xs.take j).length = j := by simp; omega
  rw [List.set_append_right _ _ (by omega), hl, Nat.sub_self, show n - j = (n - (j + 1)) + 1 by omega, List.replicate_succ, List.set_cons_zero, List.take_succ_eq_append_getElem hj, List.append_assoc]
  rfl
end Go.Proofs.Ytobechjagckdfaa
/-
  Kernels as plain data, how they lie, and what it means that a call owns one.
-/
set_option linter.unusedVariables false
set_option linter.unusedSimpArgs false
namespace Go.Proofs.Ytobechjagckdfaa
open Go.RowKit
theorem IntsAt.open {w : World} {v : Value} {xs : List Int} (h : SlAt 1 fInt w v xs) : ∃ ao cap, v = .slice ao xs.length cap ∧ xs.length ≤ cap ∧ cap ≤ maxLen ∧
    ∀ i x, xs[i]? = some x → ∃ g o, ao = some ⟨g, o, none⟩ ∧ g < w.heap.size ∧ w.cell? ⟨g, o + i, none⟩ = some (.int .i64 x) := SlAt.open1 h fun _ => rfl
abbrev IntsAt (w : World) (v : Value) (xs : List Int) : Prop := SlAt 1 fInt w v xs
theorem OwnI.slotI {B : Nat} {w : World} {g n cap : Nat} {xs : List Int} (h : OwnI B w (.slice (some ⟨g, 0, none⟩) n cap) xs) {i : Nat} {x : Int} (hi : xs[i]? = some x) : B ≤ g ∧ g < w.heap.size ∧ w.cell? ⟨g, i, none⟩ = some (.int .i64 x) ∧ w.frozen? ⟨g, i, none⟩ = false := by
  obtain ⟨hB, hg, hz, hc⟩ := Own.slot h lenInt hi
  exact ⟨hB, hg, by simpa [fInt] using hc 0 (.int .i64 x), hz _⟩
/-! bools -/
def fBool (x : Bool) : List Value := [.bool x]
theorem elemBool : ElemT Try.prog 25 4 (.bool false) 1 1 := ⟨Try.underlying25, info_parts (by kernel_rfl), rfl, by decide⟩
theorem lenBool : LenK 1 fBool := fun _ => rfl
theorem oneBool : ∀ y : Bool, ∀ u ∈ fBool y, u.oneCell' = true := fun y u hu => by simp [fBool] at hu; subst hu; rfl
abbrev OwnB (B : Nat) (w : World) (v : Value) (xs : List Bool) : Prop := Own 4 1 fBool B w v xs
abbrev BoolsAt (w : World) (v : Value) (xs : List Bool) : Prop := SlAt 1 fBool w v xs
theorem zeroBool : fBool false = (Value.bool false).cells.toList := rfl
theorem BoolsAt.open {w : World} {v : Value} {xs : List Bool} (h : BoolsAt w v xs) : ∃ ao cap, v = .slice ao xs.length cap ∧ xs.length ≤ cap ∧ cap ≤ maxLen ∧
    ∀ i x, xs[i]? = some x → ∃ g o, ao = some ⟨g, o, none⟩ ∧ g < w.heap.size ∧ w.cell? ⟨g, o + i, none⟩ = some (.bool x) := SlAt.open1 h fun _ => rfl
theorem OwnB.slotB {B : Nat} {w : World} {g n cap : Nat} {xs : List Bool} (h : OwnB B w (.slice (some ⟨g, 0, none⟩) n cap) xs) {i : Nat} {x : Bool} (hi : xs[i]? = some x) : B ≤ g ∧ g < w.heap.size ∧ w.cell? ⟨g, i, none⟩ = some (.bool x) ∧ w.frozen? ⟨g, i, none⟩ = false := by
  obtain ⟨hB, hg, hz, hc⟩ := Own.slot h lenBool hi
  exact ⟨hB, hg, by simpa [fBool] using hc 0 (.bool x), hz _⟩
theorem elemRow : ElemT Try.prog 24 33 (.slice none 0 0) 1 24 := ⟨Try.underlying24, info_parts (by kernel_rfl), rfl, by decide⟩
abbrev OwnR (B : Nat) (w : World) (c : Value) (vs : List Value) (rows : List (List Int)) : Prop := OwnRows 33 3 fInt B w c vs rows
/-! entries -/
structure Ent where
  m : Int
  f : Int
deriving DecidableEq, Inhabited
def Ent.val (x : Ent) : Value := .agg #[.int .i64 x.m, .int .i64 x.f]
def fEnt (x : Ent) : List Value := [.int .i64 x.m, .int .i64 x.f]
theorem elemEnt : ElemT Try.prog 28 51 (.agg #[.int .i64 0, .int .i64 0]) 2 16 := ⟨Try.underlying28, info_parts (by kernel_rfl), rfl, by decide⟩
theorem lenEnt : LenK 2 fEnt := fun _ => rfl
theorem oneEnt : ∀ y : Ent, ∀ u ∈ fEnt y, u.oneCell' = true := fun y u hu => by simp [fEnt] at hu; rcases hu with rfl | rfl <;> rfl
abbrev OwnEnt (B : Nat) (w : World) (v : Value) (xs : List Ent) : Prop := Own 51 2 fEnt B w v xs
theorem zeroEnt : fEnt ⟨0, 0⟩ = (Value.agg #[.int .i64 0, .int .i64 0]).cells.toList := by first | rfl | kernel_rfl | simp [fEnt, Value.cells]
abbrev EntAt (w : World) (v : Value) (xs : List Ent) : Prop := SlAt 2 fEnt w v xs
theorem EntAt.open {w : World} {v : Value} {xs : List Ent} (h : EntAt w v xs) : ∃ ao cap, v = .slice ao xs.length cap ∧ xs.length ≤ cap ∧ cap ≤ maxLen ∧
    ∀ i x, xs[i]? = some x → ∃ g o, ao = some ⟨g, o, none⟩ ∧ g < w.heap.size ∧ w.cell? ⟨g, o + i * 2, none⟩ = some (.int .i64 x.m) ∧ w.cell? ⟨g, o + i * 2 + 1, none⟩ = some (.int .i64 x.f) := SlAt.open2 h fun _ => rfl
theorem OwnEnt.slot {B : Nat} {w : World} {g n cap : Nat} {xs : List Ent} (h : OwnEnt B w (.slice (some ⟨g, 0, none⟩) n cap) xs) {i : Nat} {x : Ent} (hi : xs[i]? = some x) : B ≤ g ∧ g < w.heap.size ∧ w.cell? ⟨g, i * 2, none⟩ = some (.int .i64 x.m) ∧ w.frozen? ⟨g, i * 2, none⟩ = false ∧ w.cell? ⟨g, i * 2 + 1, none⟩ = some (.int .i64 x.f) ∧ w.frozen? ⟨g, i * 2 + 1, none⟩ = false := by
  obtain ⟨hB, hg, hz, hc⟩ := Own.slot h lenEnt hi
  exact ⟨hB, hg, by simpa [fEnt] using hc 0 (.int .i64 x.m), hz _, by simpa [fEnt] using hc 1 (.int .i64 x.f), hz _⟩
def mkEnt (k : Int) : Ent := ⟨k, k + 1⟩

/-- frames -/
structure Frm where
  cells : List (List Int)
  used : List Bool
deriving Inhabited
structure Mac where
  f : Frm
  ents : List Ent
deriving Inhabited
structure Ker where
  m : Mac
  calls : Int
  refuse : List Int
deriving Inhabited
/-- the slices of one -/
structure FV where
  c : Value
  u : Value
  vs : List Value
structure MV where
  f : FV
  e : Value
structure KV where
  m : MV
  r : Value
def FV.val (x : FV) : Value := .agg #[x.c, x.u]
def MV.val (x : MV) : Value := .agg #[x.f.c, x.f.u, x.e]
def KV.val (x : KV) (calls : Int) : Value := .agg #[x.m.f.c, x.m.f.u, x.m.e, .int .i64 calls, x.r]
def FV.all (x : FV) : List Value := [x.u] ++ (x.c :: x.vs)
def MV.all (x : MV) : List Value := [x.e] ++ x.f.all
def KV.all (x : KV) : List Value := [x.r] ++ x.m.all
structure FAt (w : World) (x : FV) (F : Frm) : Prop where
  rows : RowsAt fInt w x.c x.vs F.cells
  used : BoolsAt w x.u F.used
structure MAt (w : World) (x : MV) (M : Mac) : Prop where
  f : FAt w x.f M.f
  ents : EntAt w x.e M.ents
structure KAt (w : World) (x : KV) (K : Ker) : Prop where
  m : MAt w x.m K.m
  ref : IntsAt w x.r K.refuse
structure FOwn (B : Nat) (w : World) (x : FV) (F : Frm) : Prop where
  rows : OwnR B w x.c x.vs F.cells
  used : OwnB B w x.u F.used
  nd : (blocks x.all).Nodup
structure MOwn (B : Nat) (w : World) (x : MV) (M : Mac) : Prop where
  f : FOwn B w x.f M.f
  ents : OwnEnt B w x.e M.ents
  nd : (blocks x.all).Nodup
structure KOwn (B : Nat) (w : World) (x : KV) (K : Ker) : Prop where
  m : MOwn B w x.m K.m
  ref : OwnI B w x.r K.refuse
  nd : (blocks x.all).Nodup
section
variable {w w' : World} {B B' : Nat} {S : List Nat}
theorem FAt.below {x : FV} {F : Frm} (h : FAt w x F) (hb : Below w.heap.size w w') : FAt w' x F := ⟨h.rows.below hb, h.used.below hb⟩
theorem MAt.below {x : MV} {M : Mac} (h : MAt w x M) (hb : Below w.heap.size w w') : MAt w' x M := ⟨h.f.below hb, h.ents.below hb⟩
theorem KAt.below {x : KV} {K : Ker} (h : KAt w x K) (hb : Below w.heap.size w w') : KAt w' x K := ⟨h.m.below hb, h.ref.below hb⟩
theorem FOwn.at {x : FV} {F : Frm} (h : FOwn B w x F) : FAt w x F := ⟨h.rows.at lenInt, h.used.at lenBool⟩
theorem MOwn.at {x : MV} {M : Mac} (h : MOwn B w x M) : MAt w x M := ⟨h.f.at, h.ents.at lenEnt⟩
theorem KOwn.at {x : KV} {K : Ker} (h : KOwn B w x K) : KAt w x K := ⟨h.m.at, h.ref.at lenInt⟩
theorem Own.lts {α : Type} {E k : Nat} {f : α → List Value} {v : Value} {xs : List α} (h : Own E k f B w v xs) : ∀ g ∈ blocks [v], B ≤ g ∧ g < w.heap.size := by
  intro g hg
  obtain ⟨u, hu, hb⟩ := mem_blocks.1 hg
  simp at hu; subst hu
  exact h.lt g hb
theorem lts_append {l m : List Value} {p : Nat → Prop} (hl : ∀ g ∈ blocks l, p g) (hm : ∀ g ∈ blocks m, p g) : ∀ g ∈ blocks (l ++ m), p g := by
  intro g hg
  rw [blocks_append, List.mem_append] at hg
  exact hg.elim (hl g) (hm g)
theorem FOwn.lts {x : FV} {F : Frm} (h : FOwn B w x F) : ∀ g ∈ blocks x.all, B ≤ g ∧ g < w.heap.size := lts_append (Own.lts h.used) h.rows.lt
theorem MOwn.lts {x : MV} {M : Mac} (h : MOwn B w x M) : ∀ g ∈ blocks x.all, B ≤ g ∧ g < w.heap.size := lts_append (Own.lts h.ents) h.f.lts
theorem KOwn.lts {x : KV} {K : Ker} (h : KOwn B w x K) : ∀ g ∈ blocks x.all, B ≤ g ∧ g < w.heap.size := lts_append (Own.lts h.ref) h.m.lts
theorem sub_left (l m : List Value) : ∀ g ∈ blocks l, g ∈ blocks (l ++ m) := fun g hg => by rw [blocks_append]; exact List.mem_append_left _ hg
theorem sub_right (l m : List Value) : ∀ g ∈ blocks m, g ∈ blocks (l ++ m) := fun g hg => by rw [blocks_append]; exact List.mem_append_right _ hg
theorem mem_one {v : Value} {g : Nat} (h : v.ownBlock = some g) : g ∈ blocks [v] := mem_blocks.2 ⟨v, by simp, h⟩
theorem FOwn.touch {x : FV} {F : Frm} (h : FOwn B w x F) (ht : Touch S w w') (hne : ∀ g ∈ blocks x.all, g ∉ S) : FOwn B w' x F :=
  ⟨h.rows.touch ht fun g hg => hne g (sub_right _ _ g hg), h.used.touch ht fun g hg => hne g (sub_left _ _ g (mem_one hg)), h.nd⟩
theorem MOwn.touch {x : MV} {M : Mac} (h : MOwn B w x M) (ht : Touch S w w') (hne : ∀ g ∈ blocks x.all, g ∉ S) : MOwn B w' x M :=
  ⟨h.f.touch ht fun g hg => hne g (sub_right _ _ g hg), h.ents.touch ht fun g hg => hne g (sub_left _ _ g (mem_one hg)), h.nd⟩
theorem KOwn.touch {x : KV} {K : Ker} (h : KOwn B w x K) (ht : Touch S w w') (hne : ∀ g ∈ blocks x.all, g ∉ S) : KOwn B w' x K :=
  ⟨h.m.touch ht fun g hg => hne g (sub_right _ _ g hg), h.ref.touch ht fun g hg => hne g (sub_left _ _ g (mem_one hg)), h.nd⟩
theorem FOwn.below {x : FV} {F : Frm} (h : FOwn B w x F) (hb : Below w.heap.size w w') : FOwn B w' x F := h.touch (touch_of_below hb []) (by simp)
theorem MOwn.below {x : MV} {M : Mac} (h : MOwn B w x M) (hb : Below w.heap.size w w') : MOwn B w' x M := h.touch (touch_of_below hb []) (by simp)
theorem KOwn.below {x : KV} {K : Ker} (h : KOwn B w x K) (hb : Below w.heap.size w w') : KOwn B w' x K := h.touch (touch_of_below hb []) (by simp)
theorem FOwn.offb {x : FV} {F : Frm} (h : FOwn B w x F) {b o : Nat} (hb : b < B) (u : Value) : FOwn B (w.setCell ⟨b, o, none⟩ u) x F :=
  h.touch (S := [b]) (grown_touch (r := some b) (grown_setCell (grown_refl w _) o u) (by simp)) fun g hg hm => by have := (h.lts g hg).1; simp at hm; omega
theorem MOwn.offb {x : MV} {M : Mac} (h : MOwn B w x M) {b o : Nat} (hb : b < B) (u : Value) : MOwn B (w.setCell ⟨b, o, none⟩ u) x M :=
  h.touch (S := [b]) (grown_touch (r := some b) (grown_setCell (grown_refl w _) o u) (by simp)) fun g hg hm => by have := (h.lts g hg).1; simp at hm; omega
theorem KOwn.offb {x : KV} {K : Ker} (h : KOwn B w x K) {b o : Nat} (hb : b < B) (u : Value) : KOwn B (w.setCell ⟨b, o, none⟩ u) x K :=
  h.touch (S := [b]) (grown_touch (r := some b) (grown_setCell (grown_refl w _) o u) (by simp)) fun g hg hm => by have := (h.lts g hg).1; simp at hm; omega
theorem FOwn.mono {x : FV} {F : Frm} (h : FOwn B w x F) (hB : B' ≤ B) : FOwn B' w x F := ⟨h.rows.mono hB, Own.mono h.used hB, h.nd⟩
theorem MOwn.mono {x : MV} {M : Mac} (h : MOwn B w x M) (hB : B' ≤ B) : MOwn B' w x M := ⟨h.f.mono hB, Own.mono h.ents hB, h.nd⟩
theorem KOwn.mono {x : KV} {K : Ker} (h : KOwn B w x K) (hB : B' ≤ B) : KOwn B' w x K := ⟨h.m.mono hB, Own.mono h.ref hB, h.nd⟩
theorem FOwn.shapes {x : FV} {F : Frm} (h : FOwn B w x F) : ∃ co cc uo uc vs, x = ⟨.slice co (List.length vs) cc, .slice uo F.used.length uc, vs⟩ := by
  obtain ⟨c, u, vs⟩ := x
  obtain ⟨co, cc, h1, _⟩ := Own.shape h.rows.out
  obtain ⟨uo, uc, h2, _⟩ := Own.shape h.used
  dsimp only at h1 h2
  subst h1 h2
  exact ⟨co, cc, uo, uc, vs, rfl⟩
theorem MOwn.shapes {x : MV} {M : Mac} (h : MOwn B w x M) : ∃ co cc uo uc vs eo ec, x = ⟨⟨.slice co (List.length vs) cc, .slice uo M.f.used.length uc, vs⟩, .slice eo M.ents.length ec⟩ := by
  obtain ⟨f, e⟩ := x
  obtain ⟨co, cc, uo, uc, vs, rfl⟩ := h.f.shapes
  obtain ⟨eo, ec, h1, _⟩ := Own.shape h.ents
  dsimp only at h1
  subst h1
  exact ⟨co, cc, uo, uc, vs, eo, ec, rfl⟩
theorem KOwn.shapes {x : KV} {K : Ker} (h : KOwn B w x K) : ∃ co cc uo uc vs eo ec ro rc, x = ⟨⟨⟨.slice co (List.length vs) cc, .slice uo K.m.f.used.length uc, vs⟩, .slice eo K.m.ents.length ec⟩, .slice ro K.refuse.length rc⟩ := by
  obtain ⟨m, r⟩ := x
  obtain ⟨co, cc, uo, uc, vs, eo, ec, rfl⟩ := h.m.shapes
  obtain ⟨ro, rc, h1, _⟩ := Own.shape h.ref
  dsimp only at h1
  subst h1
  exact ⟨co, cc, uo, uc, vs, eo, ec, ro, rc, rfl⟩
end
end Go.Proofs.Ytobechjagckdfaa
/-
  The laws' functions on slices of ints, bools, entries: their size, a copy of the call's own, equal, marked, held.
-/
set_option linter.unusedVariables false
set_option linter.unusedSimpArgs false
namespace Go.Proofs.Ytobechjagckdfaa
open Go.RowKit
theorem zeroInt : fInt 0 = (Value.int .i64 0).cells.toList := rfl



end Go.Proofs.Ytobechjagckdfaa
/-
  Slices of slices of the call's own: one of the slices is put in place of another, or appended. No Go text is named here.
-/
set_option linter.unusedVariables false
set_option linter.unusedSimpArgs false
namespace Go.Proofs.Ytobechjagckdfaa
open Go.RowKit
theorem blocks_set {l : List Value} {i : Nat} {v : Value} : ∀ g ∈ blocks (l.set i v), g ∈ blocks l ∨ v.ownBlock = some g := by
  intro g hg
  obtain ⟨u, hu, hb⟩ := mem_blocks.1 hg
  rcases List.mem_or_eq_of_mem_set hu with h | h
  · exact .inl (mem_blocks.2 ⟨u, h, hb⟩)
  · exact .inr (h ▸ hb)
theorem nodup_set {l : List Value} {i : Nat} {v : Value} (h : (blocks l).Nodup) (hv : ∀ g, v.ownBlock = some g → g ∉ blocks l) : (blocks (l.set i v)).Nodup := by
  induction l generalizing i with
  | nil => simpa using h
  | cons a l ih =>
    have h2 : (blocks ([a] ++ l)).Nodup := h
    have hsub : ∀ g, g ∈ blocks l → g ∈ blocks (a :: l) := fun g hg => blocks_sub (fun u hu => List.mem_cons_of_mem _ hu) g hg
    cases i with
    | zero =>
      rw [List.set_cons_zero]
      exact nodup_blocks (l := [v]) (nodup_one v) (nodup_right h2) fun g hg hm => by
        obtain ⟨u, hu, hb⟩ := mem_blocks.1 hg
        simp at hu; subst hu
        exact hv g hb (hsub g hm)
    | succ i =>
      rw [List.set_cons_succ]
      refine nodup_blocks (l := [a]) (nodup_one a) (ih (nodup_right h2) fun g hg hm => hv g hg (hsub g hm)) fun g hg hm => ?_
      rcases blocks_set g hm with h3 | h3
      · exact nodup_apart h2 g hg h3
      · exact hv g h3 (blocks_sub (l := [a]) (fun u hu => by simp at hu; subst hu; simp) g hg)
theorem nodup_snoc {l : List Value} {v : Value} (h : (blocks l).Nodup) (hv : ∀ g, v.ownBlock = some g → g ∉ blocks l) : (blocks (l ++ [v])).Nodup :=
  nodup_blocks h (nodup_one v) fun g hg hm => by
    obtain ⟨u, hu, hb⟩ := mem_blocks.1 hm
    simp at hu; subst hu
    exact hv g hb hg
theorem nodup_head {c c' : Value} {l : List Value} (h : (blocks (c :: l)).Nodup) (hc : ∀ g, c'.ownBlock = some g → g ∉ blocks l) : (blocks (c' :: l)).Nodup :=
  nodup_blocks (l := [c']) (nodup_one c') (nodup_right (l := [c]) h) fun g hg hm => by
    obtain ⟨u, hu, hb⟩ := mem_blocks.1 hg
    simp at hu; subst hu
    exact hc g hb hm
section
variable {α : Type} {ES E : Nat} {f : α → List Value} {B B' : Nat} {w w' : World} {c : Value} {vs : List Value} {rows : List (List α)}
theorem OwnRows.nilAll (n : Nat) (h : Own ES 1 fVal B w c (List.replicate n (.slice none 0 0))) : OwnRows ES E f B w c (List.replicate n (.slice none 0 0)) (List.replicate n ([] : List α)) :=
  ⟨h, by simp, fun i v r hv hr => by
    rw [List.getElem?_replicate] at hv hr
    split at hv
    · cases hv
      rename_i hi
      rw [if_pos hi] at hr
      cases hr
      exact Own.nil _ _ _ _ _
    · cases hv⟩
theorem blocks_nils (n : Nat) : blocks (List.replicate n (.slice none 0 0)) = [] := by
  induction n with
  | zero => rfl
  | succ n ih => rw [List.replicate_succ]; exact ih
/-- One of the slices is stored anew. -/
theorem OwnRows.setVal (h : OwnRows ES E f B w c vs rows) (hnd : (blocks (c :: vs)).Nodup) {g n cap i : Nat} (hc : c = .slice (some ⟨g, 0, none⟩) n cap) {v : Value} {r : List α} (hv : Own E 1 f B w v r) (hne : v.ownBlock ≠ some g) (hi : i < vs.length) :
    OwnRows ES E f B (w.setCell ⟨g, i, none⟩ v) c (vs.set i v) (rows.set i r) ∧ w.grownBy (w.setCell ⟨g, i, none⟩ v) c.ownBlock := by
  have S := Own.set1 lenVal h.out hc i v v rfl
  have hap := nodup_apart (l := [c]) hnd
  refine ⟨⟨S.1, by rw [List.length_set, List.length_set]; exact h.len, fun j u r' hu hr => ?_⟩, S.2⟩
  have hcg : c.ownBlock = some g := by rw [hc]; rfl
  rw [List.getElem?_set] at hu hr
  split at hu
  · rename_i e
    subst e
    try rw [if_pos hi] at hu
    cases hu
    rw [if_pos rfl] at hr
    try rw [if_pos (by rw [← h.len]; exact hi)] at hr
    cases hr
    exact hv.setCell _ _ hne
  · rename_i e
    rw [if_neg e] at hr
    refine (h.row j u r' hu hr).setCell _ _ fun e2 => ?_
    exact hap g (mem_blocks.2 ⟨c, by simp, hcg⟩) (mem_blocks.2 ⟨u, List.mem_of_getElem? hu, e2⟩)
/-- One more has been appended. -/
theorem OwnRows.snoc {c' v : Value} {r : List α} (h : OwnRows ES E f B w c vs rows) (hnd : (blocks (c :: vs)).Nodup) (ho : Own ES 1 fVal B w' c' (vs ++ [v])) (hgr : w.grownBy w' c.ownBlock) (hv : Own E 1 f B w' v r) : OwnRows ES E f B w' c' (vs ++ [v]) (rows ++ [r]) := by
  have hap := nodup_apart (l := [c]) hnd
  refine ⟨ho, by simp [h.len], fun j u r' hu hr => ?_⟩
  rcases Nat.lt_or_ge j vs.length with h1 | h1
  · rw [List.getElem?_append_left h1] at hu
    rw [List.getElem?_append_left (by rw [← h.len]; exact h1)] at hr
    exact (h.row j u r' hu hr).kept fun g hg => hgr.block g ((h.row j u r' hu hr).lt g hg).2 fun e => hap g (mem_blocks.2 ⟨c, by simp, e.symm⟩) (mem_blocks.2 ⟨u, List.mem_of_getElem? hu, hg⟩)
  · have hj : j = vs.length := by have := getx_lt hu; simp at this; omega
    subst hj
    rw [List.getElem?_append_right (Nat.le_refl _), Nat.sub_self] at hu
    rw [List.getElem?_append_right (by rw [h.len]; exact Nat.le_refl _), h.len, Nat.sub_self] at hr
    simp at hu hr
    subst hu hr
    exact hv
end
/-- A store into a block below what the call owns. -/
theorem Own.offb {α : Type} {E k B : Nat} {f : α → List Value} {w : World} {v : Value} {xs : List α} (h : Own E k f B w v xs) {b o : Nat} (hb : b < B) (u : Value) : Own E k f B (w.setCell ⟨b, o, none⟩ u) v xs :=
  h.setCell _ _ fun e => by have := (h.lt b e).1; omega
theorem OwnRows.offb {α : Type} {ES E B : Nat} {f : α → List Value} {w : World} {c : Value} {vs : List Value} {rows : List (List α)} (h : OwnRows ES E f B w c vs rows) {b o : Nat} (hb : b < B) (u : Value) : OwnRows ES E f B (w.setCell ⟨b, o, none⟩ u) c vs rows :=
  ⟨h.out.offb hb u, h.len, fun i v r hv hr => (h.row i v r hv hr).offb hb u⟩
theorem nodup_grow {c c' nv : Value} {us : List Value} {N : Nat} (h : (blocks (c :: us)).Nodup) (hn : ∀ g, nv.ownBlock = some g → g ∉ blocks (c :: us)) (hat : c'.ownBlock = c.ownBlock ∨ c'.ownBlock = some N) (hlt : ∀ g ∈ blocks (us ++ [nv]), g < N) : (blocks (c' :: (us ++ [nv]))).Nodup := by
  have h1 : (blocks (c :: (us ++ [nv]))).Nodup := nodup_snoc (l := c :: us) h hn
  refine nodup_head h1 fun g hg hm => ?_
  rcases hat with e | e
  · exact nodup_apart (l := [c]) h1 g (mem_blocks.2 ⟨c, by simp, e ▸ hg⟩) hm
  · have := hlt g hm
    rw [e] at hg
    cases hg
    omega
theorem Own.belowB {α : Type} {E k B B2 : Nat} {f : α → List Value} {w w' : World} {v : Value} {xs : List α} (h : Own E k f B w v xs) (hb : Below B2 w w') (hlt : ∀ g, v.ownBlock = some g → g < B2) : Own E k f B w' v xs :=
  h.kept fun g hg => hb.block g (hlt g hg)
theorem Own.grownNe {α : Type} {E k B : Nat} {f : α → List Value} {w w' : World} {v : Value} {xs : List α} {row : Option Nat} (h : Own E k f B w v xs) (hgr : w.grownBy w' row) (hne : ∀ g, v.ownBlock = some g → some g ≠ row) : Own E k f B w' v xs :=
  h.kept fun g hg => hgr.block g (h.lt g hg).2 (hne g hg)
/-! The numbers of cells, and the marks. -/
def lensTo (rows : List (List Int)) : Nat → Nat
  | 0 => 0
  | k + 1 => lensTo rows k + (rows.getD k []).length
def tot (rows : List (List Int)) : Nat := lensTo rows rows.length
theorem lensTo_mono (rows : List (List Int)) {j k : Nat} (h : j ≤ k) : lensTo rows j ≤ lensTo rows k := by
  induction k with
  | zero => obtain rfl : j = 0 := by omega
            exact Nat.le_refl _
  | succ k ih =>
    rcases Nat.lt_or_ge j (k + 1) with h1 | h1
    · have := ih (by omega); rw [lensTo]; omega
    · obtain rfl : j = k + 1 := by omega
      exact Nat.le_refl _
theorem lensTo_succ {rows : List (List Int)} {j : Nat} {r : List Int} (h : rows[j]? = some r) : lensTo rows (j + 1) = lensTo rows j + r.length := by rw [lensTo, getD_of h]
def markRows (k : Int) (rows : List (List Int)) : List (List Int) := (List.range rows.length).map fun i => marksI (k + lensTo rows i) (rows.getD i []).length
theorem markRows_len (k : Int) (rows : List (List Int)) : (markRows k rows).length = rows.length := by simp [markRows]
theorem markRows_get {k : Int} {rows : List (List Int)} {j : Nat} {r : List Int} (h : rows[j]? = some r) : (markRows k rows)[j]? = some (marksI (k + lensTo rows j) r.length) := by
  have hlt := getx_lt h
  rw [List.getElem?_eq_getElem (by rw [markRows_len]; exact hlt)]
  simp only [markRows, List.getElem_map, List.getElem_range, getD_of h]
def mixRows (k : Int) (rows : List (List Int)) (j : Nat) : List (List Int) := (markRows k rows).take j ++ rows.drop j
theorem mixRows_len {k : Int} {rows : List (List Int)} {j : Nat} (h : j ≤ rows.length) : (mixRows k rows j).length = rows.length := by simp [mixRows, markRows_len]; omega
theorem mixRows_get {k : Int} {rows : List (List Int)} {j : Nat} {r : List Int} (h : rows[j]? = some r) : (mixRows k rows j)[j]? = some r := by
  have hlt := getx_lt h
  unfold mixRows
  rw [List.getElem?_append_right (by rw [List.length_take]; exact Nat.min_le_left _ _), List.length_take, markRows_len, Nat.min_eq_left (by omega), Nat.sub_self, List.getElem?_drop, Nat.add_zero, h]
theorem mixRows_set {k : Int} {rows : List (List Int)} {j : Nat} {r : List Int} (h : rows[j]? = some r) : (mixRows k rows j).set j (marksI (k + lensTo rows j) r.length) = mixRows k rows (j + 1) := by
  have hlt := getx_lt h
  have hl : ((markRows k rows).take j).length = j := by rw [List.length_take, markRows_len]; omega
  unfold mixRows
  rw [List.set_append_right _ _ (by omega), hl, Nat.sub_self, List.drop_eq_getElem_cons hlt, List.set_cons_zero, List.take_add_one, markRows_get h]
  simp
theorem mixRows_full (k : Int) (rows : List (List Int)) : mixRows k rows rows.length = markRows k rows := by
  unfold mixRows; rw [List.drop_length, List.append_nil, List.take_of_length_le (by rw [markRows_len]; exact Nat.le_refl _)]
theorem mixRows_zero (k : Int) (rows : List (List Int)) : mixRows k rows 0 = rows := by simp [mixRows]
theorem setx {α : Type} {xs : List α} {j : Nat} {x : α} (z : α) (n : Nat) (hx : xs[j]? = some x) (hn : n = xs.length) : (xs.take j ++ List.replicate (n - j) z).set j x = xs.take (j + 1) ++ List.replicate (n - (j + 1)) z := by
  have hlt := getx_lt hx
  have e : xs[j] = x := by rw [List.getElem?_eq_getElem hlt] at hx; exact Option.some.inj hx
  rw [← e]; exact mix_set xs z hn hlt
end Go.Proofs.Ytobechjagckdfaa
/-
  The laws' functions on slices of slices of ints.
-/
set_option linter.unusedVariables false
set_option linter.unusedSimpArgs false
namespace Go.Proofs.Ytobechjagckdfaa
open Go.RowKit
theorem rowAt {f : Int → List Value} {w : World} {c : Value} {vs : List Value} {rows : List (List Int)} (h : RowsAt f w c vs rows) {j : Nat} (hj : j < rows.length) : ∃ g o ro rl rc r cap, c = .slice (some ⟨g, o, none⟩) rows.length cap ∧ g < w.heap.size ∧ rows[j]? = some r ∧ rl = r.length ∧ vs[j]? = some (.slice ro rl rc) ∧ w.cell? ⟨g, o + j, none⟩ = some (.slice ro rl rc) ∧ rl ≤ maxLen ∧ SlAt 1 f w (.slice ro rl rc) r := by
  obtain ⟨ao, cap, rfl, h1, h2, hr⟩ := SlAt.open1 (c0 := id) h.out (fun _ => rfl)
  obtain ⟨v, hv⟩ := getx (show j < vs.length by rw [h.len]; exact hj)
  obtain ⟨r, hr'⟩ := getx hj
  obtain ⟨g, o, rfl, hg, hc⟩ := hr j v hv
  have hrow := h.row j v r hv hr'
  obtain ⟨ro, rc, rfl, hl, hm⟩ := hrow.shape
  exact ⟨g, o, ro, r.length, rc, r, cap, by rw [h.len], hg, hr', rfl, hv, hc, by omega, hrow⟩
theorem RowsAt.shape {f : Int → List Value} {w : World} {c : Value} {vs : List Value} {rows : List (List Int)} (h : RowsAt f w c vs rows) : ∃ ao cap, c = .slice ao rows.length cap ∧ rows.length ≤ cap ∧ cap ≤ maxLen := by
  obtain ⟨ao, cap, rfl, h1, h2⟩ := h.out.shape
  exact ⟨ao, cap, by rw [h.len], by rw [← h.len]; exact h1, h2⟩
/-- What the laws' functions on sizes return. -/
def szRes (left : Int) (t : Nat) : Int := if left - t < 0 then -1 else left - t
theorem szRes_neg {left : Int} {t : Nat} (h : left - t < 0) : szRes left t = -1 := if_pos h
theorem szRes_pos {left : Int} {t : Nat} (h : ¬ left - t < 0) : szRes left t = left - t := if_neg h
/-- What a call that hands back a slice of slices of its own leaves. -/
def NewRows (w : World) (rows : List (List Int)) (e : Ending) (w' : World) : Prop := ∃ c us, e = .returned c ∧ OwnR w.heap.size w' c us rows ∧ (blocks (c :: us)).Nodup ∧ Below w.heap.size w w'
end Go.Proofs.Ytobechjagckdfaa
/-
  What the functions on frames, tables, machines and kernels compute: plain functions on lists.
-/
set_option linter.unusedVariables false
set_option linter.unusedSimpArgs false
namespace Go.Proofs.Ytobechjagckdfaa
def rowOk (r : List Int) (u : Bool) : Bool := (r.length == 16) && allTo (fun j => between (r.getD j 0) 0 999 && (r.getD j 0 == 0 || u)) 16
def framesOk (F : Frm) : Bool := between F.cells.length 1 32 && (F.used.length == F.cells.length) && allTo (fun i => rowOk (F.cells.getD i []) (F.used.getD i false)) F.cells.length
def entOk (e : Ent) (n : Int) : Bool := between e.m 0 2 && decide (0 ≤ e.f) && !(e.m == 0 && e.f != 0) && !(e.m != 0 && decide (n ≤ e.f))
def tableOk (es : List Ent) (n : Int) : Bool := allTo (fun i => entOk (es.getD i default) n) es.length && between es.length 1 32
def onTo (es : List Ent) (fr : Int) : Nat → List Int
  | 0 => []
  | k + 1 => onTo es fr k ++ if (es.getD k default).m != 0 && (es.getD k default).f == fr then [(k : Int)] else []
def pagesOn (es : List Ent) (fr : Int) : List Int := onTo es fr es.length
theorem onTo_le (es : List Ent) (fr : Int) (k : Nat) : (onTo es fr k).length ≤ k := by
  induction k with
  | zero => exact Nat.le_refl _
  | succ k ih => simp only [onTo, List.length_append]; split <;> simp <;> omega
def usedOk (M : Mac) (i : Nat) : Bool := M.f.used.getD i false == decide ((0 : Int) < (pagesOn M.ents i).length)
def machineOk (M : Mac) : Bool := framesOk M.f && tableOk M.ents M.f.used.length && allTo (usedOk M) M.f.used.length
def kernelOk (K : Ker) : Bool := allTo (fun i => decide (0 ≤ K.refuse.getD i 0)) K.refuse.length && between K.calls 0 100000 && decide ((K.refuse.length : Int) ≤ 40) && machineOk K.m
def canCall (K : Ker) : Bool := (K.calls != 100000) && kernelOk K
def pageEntry (es : List Ent) (p : Int) : Ent := if between p 0 (es.length - 1) then es.getD p.toNat default else ⟨0, 0⟩
end Go.Proofs.Ytobechjagckdfaa
/-
  The laws' functions on frames, tables, machines, kernels: size, copy, equal, marked, held.
-/
set_option linter.unusedVariables false
set_option linter.unusedSimpArgs false
namespace Go.Proofs.Ytobechjagckdfaa
open Go.RowKit
def szF (F : Frm) : Nat := F.cells.length + tot F.cells + F.used.length
def szM (M : Mac) : Nat := szF M.f + M.ents.length
def szK (K : Ker) : Nat := szM K.m + K.refuse.length




/-- What a call that hands back frames, a table, a machine, a kernel of its own leaves. -/
def NewF (w : World) (F : Frm) (e : Ending) (w' : World) : Prop := ∃ y : FV, e = .returned y.val ∧ FOwn w.heap.size w' y F ∧ Below w.heap.size w w'
def NewT (w : World) (es : List Ent) (e : Ending) (w' : World) : Prop := ∃ v : Value, e = .returned (.agg #[v]) ∧ OwnEnt w.heap.size w' v es ∧ Below w.heap.size w w'
def NewM (w : World) (M : Mac) (e : Ending) (w' : World) : Prop := ∃ y : MV, e = .returned y.val ∧ MOwn w.heap.size w' y M ∧ Below w.heap.size w w'
def NewK (w : World) (K : Ker) (e : Ending) (w' : World) : Prop := ∃ y : KV, e = .returned (y.val K.calls) ∧ KOwn w.heap.size w' y K ∧ Below w.heap.size w w'
end Go.Proofs.Ytobechjagckdfaa
