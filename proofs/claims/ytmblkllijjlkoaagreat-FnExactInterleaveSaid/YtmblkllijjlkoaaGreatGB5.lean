/-
  Texts put together: Scal, Ints.
-/
import Derived.Test.YtmblkllijjlkoaaGreatGB4
import Derived.Test.YtmblkllijjlkoaaGreatGB2
/-
  What the small functions on numbers, classes and bitmaps return: one contract a function.
-/
set_option linter.unusedVariables false
set_option linter.unusedSimpArgs false
namespace Go.Proofs.YtmblkllijjlkoaaGreat
open Go.RowKit

theorem i_between (n lo hi : Int) (r : Bool) (hr : between n lo hi = r) (w : World) :
    Calls Tryz.prog 55 #[.int .i64 n, .int .i64 lo, .int .i64 hi] w fun e w' => e = .returned (.bool r) ∧ w = w' := by
  subst hr
  (have hall := all_nil w; go_enter Tryz.func55, Tryz.ntmps55)
  go_wp2
  all_goals (go_ret; refine ⟨?_, rfl⟩; (simp_all [between]))
  omega
theorem s_l01In (n lo hi : Int) (r : Bool) (hr : between n lo hi = r) (w : World) :
    Calls Tryz.prog 49 #[.int .i64 n, .int .i64 lo, .int .i64 hi] w fun e w' => e = .returned (.bool r) ∧ w = w' := by
  subst hr
  (have hall := all_nil w; go_enter Tryz.func49, Tryz.ntmps49)
  go_wp2
  all_goals (go_ret; refine ⟨?_, rfl⟩; (simp_all [between]))
  omega
theorem i_classOk (c : Int) (r : Bool) (hr : between c 0 3 = r) (w : World) : Calls Tryz.prog 143 #[.int .i64 c] w fun e w' => e = .returned (.bool r) ∧ w = w' := by
  subst hr
  (have hall := all_nil w; go_enter Tryz.func143, Tryz.ntmps143)
  go_wp2_with ((go_at_call 55; ((refine (i_between _ _ _ _ rfl _).mono ?_)); rintro e w1 ⟨rfl, rfl⟩))
  all_goals (go_ret; refine ⟨?_, rfl⟩; (simp_all []))
theorem i_ClassSize (c : Int) (w : World) : Calls Tryz.prog 102 #[.int .i64 c] w fun e w' => e = .returned (.int .i64 (classSize c)) ∧ w = w' := by
  cases h : between c 0 3
  · (have hall := all_nil w; go_enter Tryz.func102, Tryz.ntmps102)
    go_wp2_with ((go_at_call 143; ((refine (i_classOk _ false (by assumption) _).mono ?_)); rintro e w1 ⟨rfl, rfl⟩))
    go_ret
    exact ⟨by simp [classSize_out h], rfl⟩
  · have hb := between_iff.1 h
    (have hall := all_nil w; go_enter Tryz.func102, Tryz.ntmps102)
    go_wp2_with ((go_at_call 143; ((refine (i_classOk _ true (by assumption) _).mono ?_)); rintro e w1 ⟨rfl, rfl⟩))
    go_ret
    exact ⟨ret_int (by rw [classSize_in h]; exact (pow_in hb.1 (by omega)).1), rfl⟩
theorem s_ClassSize (c : Int) (w : World) : Calls Tryz.prog 93 #[.int .i64 c] w fun e w' => e = .returned (.int .i64 (classSize c)) ∧ w = w' := by
  cases h : between c 0 3
  · (have hall := all_nil w; go_enter Tryz.func93, Tryz.ntmps93)
    go_wp2_with ((go_at_call 49; ((refine (s_l01In _ _ _ false (by assumption) _).mono ?_)); rintro e w1 ⟨rfl, rfl⟩))
    go_ret
    exact ⟨by simp [classSize_out h], rfl⟩
  · rcases class_cases h with rfl | rfl | rfl | rfl
    all_goals (have hall := all_nil w; go_enter Tryz.func93, Tryz.ntmps93)
    all_goals go_wp2_with ((go_at_call 49; ((refine (s_l01In _ _ _ true (by assumption) _).mono ?_)); rintro e w1 ⟨rfl, rfl⟩))
    all_goals go_ret
    all_goals exact ⟨rfl, rfl⟩
theorem i_SlotsOf (c : Int) (w : World) : Calls Tryz.prog 142 #[.int .i64 c] w fun e w' => e = .returned (.int .i64 (slotsOf c)) ∧ w = w' := by
  cases h : between c 0 3
  · (have hall := all_nil w; go_enter Tryz.func142, Tryz.ntmps142)
    go_wp2_with ((go_at_call 143; ((refine (i_classOk _ false (by assumption) _).mono ?_)); rintro e w1 ⟨rfl, rfl⟩))
    go_ret
    exact ⟨by simp [slotsOf_out h], rfl⟩
  · have hc : (classSize c = 1 ∧ slotsOf c = 16) ∨ (classSize c = 2 ∧ slotsOf c = 8) ∨ (classSize c = 4 ∧ slotsOf c = 4) ∨ (classSize c = 8 ∧ slotsOf c = 2) := by
      rcases class_cases h with rfl | rfl | rfl | rfl <;> decide
    rcases hc with ⟨h1, h2⟩ | ⟨h1, h2⟩ | ⟨h1, h2⟩ | ⟨h1, h2⟩
    all_goals have H := Lib.hid h2; clear h2
    all_goals (have hall := all_nil w; go_enter Tryz.func142, Tryz.ntmps142)
    all_goals go_wp2_with (first | (go_at_call 143; ((refine (i_classOk _ true (by assumption) _).mono ?_)); rintro e w1 ⟨rfl, rfl⟩) | (go_at_call 102; (refine (i_ClassSize _ _).mono ?_); rintro e w1 ⟨rfl, rfl⟩))
    all_goals go_ret
    all_goals exact ⟨by rw [H.out]; rfl, rfl⟩
theorem s_SlotsOf (c : Int) (w : World) : Calls Tryz.prog 132 #[.int .i64 c] w fun e w' => e = .returned (.int .i64 (slotsOf c)) ∧ w = w' := by
  cases h : between c 0 3
  · (have hall := all_nil w; go_enter Tryz.func132, Tryz.ntmps132)
    go_wp2_with ((go_at_call 49; ((refine (s_l01In _ _ _ false (by assumption) _).mono ?_)); rintro e w1 ⟨rfl, rfl⟩))
    go_ret
    exact ⟨by simp [slotsOf_out h], rfl⟩
  · rcases class_cases h with rfl | rfl | rfl | rfl
    all_goals (have hall := all_nil w; go_enter Tryz.func132, Tryz.ntmps132)
    all_goals go_wp2_with ((go_at_call 49; ((refine (s_l01In _ _ _ true (by assumption) _).mono ?_)); rintro e w1 ⟨rfl, rfl⟩))
    all_goals go_ret
    all_goals exact ⟨rfl, rfl⟩
theorem i_BitmapOk (n b : Int) (r : Bool) (hr : bitmapOk n b = r) (w : World) : Calls Tryz.prog 166 #[.int .i64 n, .int .i64 b] w fun e w' => e = .returned (.bool r) ∧ w = w' := by
  subst hr
  cases h : between n 1 16
  · (have hall := all_nil w; go_enter Tryz.func166, Tryz.ntmps166)
    go_wp2_with ((go_at_call 55; ((refine (i_between _ _ _ false (by assumption) _).mono ?_)); rintro e w1 ⟨rfl, rfl⟩))
    go_ret
    exact ⟨by simp [bitmapOk, h], rfl⟩
  · have hb := between_iff.1 h
    have hp := pow_in (c := n) (by omega) hb.2
    have e1 : wrap64 (wrap64 (2 ^ n.toNat) - 1) = 2 ^ n.toNat - 1 := by rw [hp.1, hp.2.1]
    have H := Lib.hid e1; clear e1 hp
    (have hall := all_nil w; go_enter Tryz.func166, Tryz.ntmps166)
    go_wp2_with ((go_at_call 55; (first | (refine (i_between _ _ _ true (by assumption) _).mono ?_) | (refine (i_between _ _ _ _ rfl _).mono ?_)); rintro e w1 ⟨rfl, rfl⟩))
    go_ret
    exact ⟨ret_bool (by simp only [bitmapOk, h, Bool.true_and]; first | rw [H.out] | rfl), rfl⟩
theorem s_BitmapOk (n b : Int) (r : Bool) (hr : bitmapOk n b = r) (w : World) : Calls Tryz.prog 163 #[.int .i64 n, .int .i64 b] w fun e w' => e = .returned (.bool r) ∧ w = w' := by
  subst hr
  cases h : between n 1 16
  · (have hall := all_nil w; go_enter Tryz.func163, Tryz.ntmps163)
    go_wp2_with ((go_at_call 49; ((refine (s_l01In _ _ _ false (by assumption) _).mono ?_)); rintro e w1 ⟨rfl, rfl⟩))
    go_ret
    exact ⟨by simp [bitmapOk, h], rfl⟩
  · have hb := between_iff.1 h
    have hp := pow_in (c := n) (by omega) hb.2
    have e1 : wrap64 (wrap64 (2 ^ n.toNat) - 1) = 2 ^ n.toNat - 1 := by rw [hp.1, hp.2.1]
    have H := Lib.hid e1; clear e1 hp
    (have hall := all_nil w; go_enter Tryz.func163, Tryz.ntmps163)
    go_wp2_with ((go_at_call 49; (first | (refine (s_l01In _ _ _ true (by assumption) _).mono ?_) | (refine (s_l01In _ _ _ _ rfl _).mono ?_)); rintro e w1 ⟨rfl, rfl⟩))
    go_ret
    exact ⟨ret_bool (by simp only [bitmapOk, h, Bool.true_and]; first | rw [H.out] | rfl), rfl⟩

theorem i_SpanOk (p c b : Int) (r : Bool) (hr : spanOk p c b = r) (w : World) : Calls Tryz.prog 138 #[.agg #[.int .i64 p, .int .i64 c, .int .i64 b]] w fun e w' => e = .returned (.bool r) ∧ Below w.heap.size w w' := by
  subst hr
  cases h1 : between p 0 31 <;> cases h2 : between c 0 3
  all_goals (have hall := all_nil w; go_enter Tryz.func138, Tryz.ntmps138)
  all_goals go_wp2_with fail
  all_goals (with_reducible refine wp_region_grew2 (by kernel_rfl) (by kernel_rfl) ?_; intro w2 hb; ((have hn := nw1 hb hall (by exact zo))); obtain ⟨hc, hf, hn, hc0⟩ := hn; replace hall := hn; clear hn; have hz := hb.size; (try simp only [World.size_alloc, World.size_setCell, World.size_drew] at hz); have hx := hall; (try simp only [allLt, and_true] at hx); obtain ⟨w1, rfl⟩ : ∃ x, x = w2 := ⟨_, rfl⟩; (repeat (go_big_quiet_step (first | (go_at_call 55; first | exact calls_same (i_between _ _ _ true (by assumption) _) | exact calls_same (i_between _ _ _ false (by assumption) _) | exact calls_same (i_between _ _ _ _ rfl _)) | (go_at_call 143; first | exact calls_same (i_classOk _ true (by assumption) _) | exact calls_same (i_classOk _ false (by assumption) _) | exact calls_same (i_classOk _ _ rfl _)) | (go_at_call 142; exact calls_same (i_SlotsOf _ _)) | (go_at_call 166; first | exact calls_same (i_BitmapOk _ _ true (by assumption) _) | exact calls_same (i_BitmapOk _ _ false (by assumption) _) | exact calls_same (i_BitmapOk _ _ _ rfl _))))); refine wpQuiet_nil ?_; intro w2 hw'; have hb := grew_below hw'; clear hw'; ((have hn := nw0 hb hall (by exact zo))); obtain ⟨hc, hf, hn, hc0⟩ := hn; replace hall := hn; clear hn; have hz := hb.size; (try simp only [World.size_alloc, World.size_setCell, World.size_drew] at hz); have hx := hall; (try simp only [allLt, and_true] at hx); obtain ⟨w1, rfl⟩ : ∃ x, x = w2 := ⟨_, rfl⟩)
  all_goals go_wp2_with fail
  all_goals (go_ret; refine ⟨by simp_all [spanOk], ?_⟩; exact bel)
theorem s_SpanOk (p c b : Int) (r : Bool) (hr : spanOk p c b = r) (w : World) : Calls Tryz.prog 129 #[.agg #[.int .i64 p, .int .i64 c, .int .i64 b]] w fun e w' => e = .returned (.bool r) ∧ Below w.heap.size w w' := by
  subst hr
  cases h1 : between p 0 31
  all_goals (have hall := all_nil w; go_enter Tryz.func129, Tryz.ntmps129)
  all_goals go_wp2_with fail
  all_goals (with_reducible refine wp_region_grew2 (by kernel_rfl) (by kernel_rfl) ?_; intro w2 hb; ((have hn := nw1 hb hall (by exact zo))); obtain ⟨hc, hf, hn, hc0⟩ := hn; replace hall := hn; clear hn; have hz := hb.size; (try simp only [World.size_alloc, World.size_setCell, World.size_drew] at hz); have hx := hall; (try simp only [allLt, and_true] at hx); obtain ⟨w1, rfl⟩ : ∃ x, x = w2 := ⟨_, rfl⟩; (repeat (go_big_quiet_step (first | (go_at_call 49; first | exact calls_same (s_l01In _ _ _ true (by assumption) _) | exact calls_same (s_l01In _ _ _ false (by assumption) _) | exact calls_same (s_l01In _ _ _ _ rfl _)) | (go_at_call 132; exact calls_same (s_SlotsOf _ _)) | (go_at_call 163; first | exact calls_same (s_BitmapOk _ _ true (by assumption) _) | exact calls_same (s_BitmapOk _ _ false (by assumption) _) | exact calls_same (s_BitmapOk _ _ _ rfl _))))); refine wpQuiet_nil ?_; intro w2 hw'; have hb := grew_below hw'; clear hw'; ((have hn := nw0 hb hall (by exact zo))); obtain ⟨hc, hf, hn, hc0⟩ := hn; replace hall := hn; clear hn; have hz := hb.size; (try simp only [World.size_alloc, World.size_setCell, World.size_drew] at hz); have hx := hall; (try simp only [allLt, and_true] at hx); obtain ⟨w1, rfl⟩ : ∃ x, x = w2 := ⟨_, rfl⟩)
  all_goals go_wp2_with fail
  all_goals (go_ret; refine ⟨by simp_all [spanOk_alt], ?_⟩; exact bel)
theorem l_toSpan (a b c : Int) (w : World) : Calls Tryz.prog 52 #[.agg #[.int .i64 a, .int .i64 b, .int .i64 c]] w fun e w' => e = .returned (.agg #[.int .i64 a, .int .i64 b, .int .i64 c]) ∧ Below w.heap.size w w' := by
  (have hall := all_nil w; go_enter Tryz.func52, Tryz.ntmps52)
  go_wp2_with fail
  (refine bodyPost_ret (v := .agg #[.int .i64 a, .int .i64 b, .int .i64 c]) (by simp [results, Tryz.results52, go_sem]) rfl ⟨rfl, ?_⟩; exact bel)
theorem i_slotOk (b i : Int) (r : Bool) (hr : slotOk b i = r) (w : World) : Calls Tryz.prog 167 #[.int .i64 b, .int .i64 i] w fun e w' => e = .returned (.bool r) ∧ w = w' := by
  subst hr
  (have hall := all_nil w; go_enter Tryz.func167, Tryz.ntmps167)
  go_wp2_with ((go_at_call 55; ((refine (i_between _ _ _ _ rfl _).mono ?_)); rintro e w1 ⟨rfl, rfl⟩))
  all_goals (go_ret; refine ⟨?_, rfl⟩; (simp_all [slotOk]))
  all_goals omega
theorem s_l02Bit (b i : Int) (r : Bool) (hr : slotOk b i = r) (w : World) : Calls Tryz.prog 164 #[.int .i64 b, .int .i64 i] w fun e w' => e = .returned (.bool r) ∧ w = w' := by
  subst hr
  (have hall := all_nil w; go_enter Tryz.func164, Tryz.ntmps164)
  go_wp2_with ((go_at_call 49; ((refine (s_l01In _ _ _ _ rfl _).mono ?_)); rintro e w1 ⟨rfl, rfl⟩))
  all_goals (go_ret; refine ⟨?_, rfl⟩; (simp_all [slotOk]))
  all_goals omega
theorem slotOk_iff {b i : Int} : slotOk b i = true ↔ 0 ≤ b ∧ 0 ≤ i ∧ i ≤ 15 := by simp [slotOk, between_iff]
theorem i_HasSlot (b i : Int) (r : Bool) (hr : hasSlot b i = r) (w : World) : Calls Tryz.prog 139 #[.int .i64 b, .int .i64 i] w fun e w' => e = .returned (.bool r) ∧ w = w' := by
  subst hr
  cases h : slotOk b i
  · (have hall := all_nil w; go_enter Tryz.func139, Tryz.ntmps139)
    go_wp2_with ((go_at_call 167; ((refine (i_slotOk _ _ false (by assumption) _).mono ?_)); rintro e w1 ⟨rfl, rfl⟩))
    go_ret
    exact ⟨by simp [hasSlot, h], rfl⟩
  · have hb := slotOk_iff.1 h
    (have hall := all_nil w; go_enter Tryz.func139, Tryz.ntmps139)
    go_wp2_with ((go_at_call 167; ((refine (i_slotOk _ _ true (by assumption) _).mono ?_)); rintro e w1 ⟨rfl, rfl⟩))
    go_ret
    exact ⟨by simp [hasSlot, h], rfl⟩
theorem s_HasSlot (b i : Int) (r : Bool) (hr : hasSlot b i = r) (w : World) : Calls Tryz.prog 130 #[.int .i64 b, .int .i64 i] w fun e w' => e = .returned (.bool r) ∧ w = w' := by
  subst hr
  cases h : slotOk b i
  · (have hall := all_nil w; go_enter Tryz.func130, Tryz.ntmps130)
    go_wp2_with ((go_at_call 164; ((refine (s_l02Bit _ _ false (by assumption) _).mono ?_)); rintro e w1 ⟨rfl, rfl⟩))
    go_ret
    exact ⟨by simp [hasSlot, h], rfl⟩
  · have hb := slotOk_iff.1 h
    (have hall := all_nil w; go_enter Tryz.func130, Tryz.ntmps130)
    go_wp2_with ((go_at_call 164; ((refine (s_l02Bit _ _ true (by assumption) _).mono ?_)); rintro e w1 ⟨rfl, rfl⟩))
    go_ret
    exact ⟨by simp [hasSlot, h], rfl⟩

theorem i_WithoutSlot (b i : Int) (w : World) : Calls Tryz.prog 140 #[.int .i64 b, .int .i64 i] w fun e w' => e = .returned (.int .i64 (withoutSlot b i)) ∧ w = w' := by
  cases h : slotOk b i
  · (have hall := all_nil w; go_enter Tryz.func140, Tryz.ntmps140)
    go_wp2_with ((go_at_call 167; ((refine (i_slotOk _ _ false (by assumption) _).mono ?_)); rintro e w1 ⟨rfl, rfl⟩))
    go_ret
    exact ⟨by simp [withoutSlot, h], rfl⟩
  · have hb := slotOk_iff.1 h
    have hp := pow_in (c := i) hb.2.1 (by omega)
    have H := Lib.hid hp.1; clear hp
    (have hall := all_nil w; go_enter Tryz.func140, Tryz.ntmps140)
    go_wp2_with ((go_at_call 167; ((refine (i_slotOk _ _ true (by assumption) _).mono ?_)); rintro e w1 ⟨rfl, rfl⟩))
    go_ret
    exact ⟨ret_int (by simp only [withoutSlot, h, if_true]; rw [H.out]), rfl⟩
theorem s_WithoutSlot (b i : Int) (w : World) : Calls Tryz.prog 131 #[.int .i64 b, .int .i64 i] w fun e w' => e = .returned (.int .i64 (withoutSlot b i)) ∧ w = w' := by
  cases h : slotOk b i
  · (have hall := all_nil w; go_enter Tryz.func131, Tryz.ntmps131)
    go_wp2_with ((go_at_call 164; ((refine (s_l02Bit _ _ false (by assumption) _).mono ?_)); rintro e w1 ⟨rfl, rfl⟩))
    go_ret
    exact ⟨by simp [withoutSlot, h], rfl⟩
  · have hb := slotOk_iff.1 h
    have hp := pow_in (c := i) hb.2.1 (by omega)
    have H := Lib.hid hp.1; clear hp
    (have hall := all_nil w; go_enter Tryz.func131, Tryz.ntmps131)
    go_wp2_with ((go_at_call 164; ((refine (s_l02Bit _ _ true (by assumption) _).mono ?_)); rintro e w1 ⟨rfl, rfl⟩))
    go_ret
    exact ⟨ret_int (by simp only [withoutSlot, h, if_true]; rw [H.out]), rfl⟩

end Go.Proofs.YtmblkllijjlkoaaGreat
/-
  Slices of ints of the call's own.
-/
set_option linter.unusedVariables false
set_option linter.unusedSimpArgs false
namespace Go.Proofs.YtmblkllijjlkoaaGreat
open Go.RowKit
theorem elemInt : ElemT Tryz.prog 31 3 (.int .i64 0) 1 8 := ⟨Tryz.underlying31, info_parts (by kernel_rfl), rfl, by decide⟩
def fInt (x : Int) : List Value := [.int .i64 x]
theorem lenInt : LenK 1 fInt := fun _ => rfl
theorem oneInt : ∀ y : Int, ∀ u ∈ fInt y, u.oneCell' = true := fun y u hu => by simp [fInt] at hu; subst hu; rfl
abbrev OwnI (B : Nat) (w : World) (v : Value) (xs : List Int) : Prop := Own 3 1 fInt B w v xs
theorem intCell (w : World) (x : Int) : ∀ j u, (fInt x)[j]? = some u → (w.alloc (.cells #[.int .i64 x] 3)).cell? ⟨w.heap.size, j, none⟩ = some u := by
  intro j u hj
  match j, hj with
  | 0, hj => simp [fInt] at hj; subst hj; go_simp
  | j + 1, hj => simp [fInt] at hj

theorem OwnI.readI {B : Nat} {w : World} {v : Value} {xs : List Int} (h : OwnI B w v xs) : ∃ ao cap, v = .slice ao xs.length cap ∧ xs.length ≤ cap ∧ cap ≤ maxLen ∧
    ∀ i, i < xs.length → ∃ g, ao = some ⟨g, 0, none⟩ ∧ B ≤ g ∧ g < w.heap.size ∧ (∀ o, w.frozen? ⟨g, o, none⟩ = false) ∧ w.cell? ⟨g, i, none⟩ = some (.int .i64 (xs.getD i 0)) := by
  obtain ⟨ao, cap, rfl, hc, hm, hr⟩ := h.read lenInt
  refine ⟨ao, cap, rfl, hc, hm, fun i hi => ?_⟩
  obtain ⟨g, rfl, hB, hg, hf, hcell⟩ := hr i hi
  refine ⟨g, rfl, hB, hg, hf, ?_⟩
  have := hcell 0 (by omega)
  simp only [Nat.mul_one, Nat.add_zero, fInt, List.getElem?_cons_zero] at this
  rw [this, List.getD_eq_getElem?_getD, List.getElem?_eq_getElem hi, Option.getD_some]
/-- What a call that hands back a slice of ints of its own leaves. -/
def NewInts (w : World) (xs : List Int) (e : Ending) (w' : World) : Prop := ∃ v, e = .returned v ∧ OwnI w.heap.size w' v xs ∧ Below w.heap.size w w'
def freeTo (b : Int) : Nat → List Int
  | 0 => []
  | k + 1 => freeTo b k ++ if hasSlot b k then [] else [(k : Int)]
theorem freeTo_le (b : Int) (k : Nat) : (freeTo b k).length ≤ k := by
  induction k with
  | zero => exact Nat.le_refl _
  | succ k ih => simp only [freeTo, List.length_append]; split <;> simp <;> omega
def freeSlots (n b : Int) : List Int := if bitmapOk n b then freeTo b n.toNat else []
end Go.Proofs.YtmblkllijjlkoaaGreat
