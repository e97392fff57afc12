/-
  Plans: equal, marked, held (for seats without kernels).
-/
import Derived.Test.YtkdafincnmkjnaaOwnL
import Derived.Test.YtkdafincnmkjnaaMem
import Derived.Test.YtkdafincnmkjnaaSpan2
set_option linter.unusedVariables false
set_option linter.unusedSimpArgs false
namespace Go.Proofs.Ytkdafincnmkjnaa
open Go.RowKit
theorem l_eqPlan (B B2 : Nat) (kp mv : Int) (x y : Value) (es : List Int) (w : World) (ha : OwnI B w x es) (hb : OwnI B2 w y es) : Calls Try.prog 48 #[.agg #[.int .i64 kp, .int .i64 mv, x], .agg #[.int .i64 kp, .int .i64 mv, y]] w fun e w' => e = .returned (.bool true) ∧ Below w.heap.size w w' := by
  have HA := Lib.hid ha; have HB := Lib.hid hb; clear ha hb
  (have hall := all_nil w; go_enter Try.func48, Try.ntmps48)
  go_wp2_with (first | (go_at_call 99; refine (l_eqIntS _ _ _ _ _ _ (Own.below HA.out (by exact bel)) (Own.below HB.out (by exact bel))).mono ?_; rintro e w2 ⟨rfl, hb⟩; (first | have hn := nw4 hb hall (by exact zo) | have hn := nw3 hb hall (by exact zo) | have hn := nw2 hb hall (by exact zo) | have hn := nw1 hb hall (by exact zo) | have hn := nw0 hb hall (by exact zo)); obtain ⟨hc, hf, hn, hc0⟩ := hn; replace hall := hn; clear hn; have hz := hb.size; (try simp only [World.size_alloc, World.size_setCell, World.size_drew] at hz); have hx := hall; (try simp only [allLt, and_true] at hx); obtain ⟨w1, rfl⟩ : ∃ x, x = w2 := ⟨_, rfl⟩) | (with_reducible refine wp_region_grew2 (by kernel_rfl) (by kernel_rfl) ?_; intro w2 hb; have hb0 := hb; (first | have hn := nw4 hb hall (by exact zo) | have hn := nw3 hb hall (by exact zo) | have hn := nw2 hb hall (by exact zo) | have hn := nw1 hb hall (by exact zo) | have hn := nw0 hb hall (by exact zo)); obtain ⟨hc, hf, hn, hc0⟩ := hn; replace hall := hn; clear hn; have hz := hb.size; (try simp only [World.size_alloc, World.size_setCell, World.size_drew] at hz); have hx := hall; (try simp only [allLt, and_true] at hx); obtain ⟨w1, rfl⟩ : ∃ x, x = w2 := ⟨_, rfl⟩; have A1 := Own.below HA.out (w' := w1) (by exact bel); have A2 := Own.below HB.out (w' := w1) (by exact bel); (repeat (go_big_quiet_step ((first | (go_at_call 99; exact calls_grew (l_eqIntS _ _ _ _ _ _ (Own.below A1 (Grew.below _)) (Own.below A2 (Grew.below _)))))))); refine wpQuiet_nil ?_; intro w2 hw'; have hb := grew_below hw'; clear hw'; (first | have hn := nw4 hb hall (by exact zo) | have hn := nw3 hb hall (by exact zo) | have hn := nw2 hb hall (by exact zo) | have hn := nw1 hb hall (by exact zo) | have hn := nw0 hb hall (by exact zo)); obtain ⟨hc, hf, hn, hc0⟩ := hn; replace hall := hn; clear hn; have hz := hb.size; (try simp only [World.size_alloc, World.size_setCell, World.size_drew] at hz); have hx := hall; (try simp only [allLt, and_true] at hx); obtain ⟨w1, rfl⟩ : ∃ x, x = w2 := ⟨_, rfl⟩; clear A1 A2) | (with_reducible refine wp_region_grew2 (by kernel_rfl) (by kernel_rfl) ?_; intro w2 hb; (first | have hn := nw4 hb hall (by exact zo) | have hn := nw3 hb hall (by exact zo) | have hn := nw2 hb hall (by exact zo) | have hn := nw1 hb hall (by exact zo) | have hn := nw0 hb hall (by exact zo)); obtain ⟨hc, hf, hn, hc0⟩ := hn; replace hall := hn; clear hn; have hz := hb.size; (try simp only [World.size_alloc, World.size_setCell, World.size_drew] at hz); have hx := hall; (try simp only [allLt, and_true] at hx); obtain ⟨w1, rfl⟩ : ∃ x, x = w2 := ⟨_, rfl⟩; (repeat (go_big_quiet_step (fail))); refine wpQuiet_nil ?_; intro w2 hw'; have hb := grew_below hw'; clear hw'; (first | have hn := nw4 hb hall (by exact zo) | have hn := nw3 hb hall (by exact zo) | have hn := nw2 hb hall (by exact zo) | have hn := nw1 hb hall (by exact zo) | have hn := nw0 hb hall (by exact zo)); obtain ⟨hc, hf, hn, hc0⟩ := hn; replace hall := hn; clear hn; have hz := hb.size; (try simp only [World.size_alloc, World.size_setCell, World.size_drew] at hz); have hx := hall; (try simp only [allLt, and_true] at hx); obtain ⟨w1, rfl⟩ : ∃ x, x = w2 := ⟨_, rfl⟩))
  skip
  go_ret
  exact ⟨rfl, by exact bel⟩

theorem l_markPlan (B : Nat) (kp mv : Int) (v : Value) (es : List Int) (k : Int) (hk : 0 ≤ k ∧ k + es.length ≤ 9223372036854775807) (w : World) (ha : OwnI B w v es) : Calls Try.prog 49 #[.agg #[.int .i64 kp, .int .i64 mv, v], .int .i64 k] w fun e w' => e = .returned (.int .i64 (k + es.length)) ∧ OwnI B w' v (marksI k es.length) ∧ Touch (blocks [v]) w w' := by
  have H1 := Lib.hid ha; have K1 := Lib.hid hk
  clear ha hk
  (have hall := all_nil w; go_enter Try.func49, Try.ntmps49)
  go_wp2_with fail
  refine (markInt' B _ _ _ K1.out _ (Own.below H1.out (by exact bel))).mono ?_; rintro e w2 ⟨rfl, ho, ht⟩
  have T1 := Lib.hid ht; have O1 := Lib.hid ho; clear ht ho
  go_wp2_with fail
  go_ret
  exact ⟨rfl, O1.out, (touch_of_below ((Below.refl _ _).alloc (Nat.le_refl _) _) _).trans T1.out⟩
theorem l_heldPlan (B : Nat) (kp mv : Int) (v : Value) (n : Nat) (k : Int) (hk : 0 ≤ k ∧ k + n ≤ 9223372036854775807) (w : World) (ha : OwnI B w v (marksI k n)) : Calls Try.prog 50 #[.agg #[.int .i64 kp, .int .i64 mv, v], .int .i64 k] w fun e w' => e = .returned (.int .i64 (k + n)) ∧ Below w.heap.size w w' := by
  have H1 := Lib.hid ha
  clear ha
  (have hall := all_nil w; go_enter Try.func50, Try.ntmps50)
  go_wp2_with (first | (go_at_call 101; refine (l_heldIntS _ _ _ _ hk _ (Own.below H1.out (by exact bel))).mono ?_; rintro e w2 ⟨rfl, hb⟩; (first | have hn := nw4 hb hall (by exact zo) | have hn := nw3 hb hall (by exact zo) | have hn := nw2 hb hall (by exact zo) | have hn := nw1 hb hall (by exact zo) | have hn := nw0 hb hall (by exact zo)); obtain ⟨hc, hf, hn, hc0⟩ := hn; replace hall := hn; clear hn; have hz := hb.size; (try simp only [World.size_alloc, World.size_setCell, World.size_drew] at hz); have hx := hall; (try simp only [allLt, and_true] at hx); obtain ⟨w1, rfl⟩ : ∃ x, x = w2 := ⟨_, rfl⟩) | (with_reducible refine wp_region_grew2 (by kernel_rfl) (by kernel_rfl) ?_; intro w2 hb; (first | have hn := nw4 hb hall (by exact zo) | have hn := nw3 hb hall (by exact zo) | have hn := nw2 hb hall (by exact zo) | have hn := nw1 hb hall (by exact zo) | have hn := nw0 hb hall (by exact zo)); obtain ⟨hc, hf, hn, hc0⟩ := hn; replace hall := hn; clear hn; have hz := hb.size; (try simp only [World.size_alloc, World.size_setCell, World.size_drew] at hz); have hx := hall; (try simp only [allLt, and_true] at hx); obtain ⟨w1, rfl⟩ : ∃ x, x = w2 := ⟨_, rfl⟩; (repeat (go_big_quiet_step (fail))); refine wpQuiet_nil ?_; intro w2 hw'; have hb := grew_below hw'; clear hw'; (first | have hn := nw4 hb hall (by exact zo) | have hn := nw3 hb hall (by exact zo) | have hn := nw2 hb hall (by exact zo) | have hn := nw1 hb hall (by exact zo) | have hn := nw0 hb hall (by exact zo)); obtain ⟨hc, hf, hn, hc0⟩ := hn; replace hall := hn; clear hn; have hz := hb.size; (try simp only [World.size_alloc, World.size_setCell, World.size_drew] at hz); have hx := hall; (try simp only [allLt, and_true] at hx); obtain ⟨w1, rfl⟩ : ∃ x, x = w2 := ⟨_, rfl⟩))
  go_ret
  exact ⟨rfl, by exact bel⟩
end Go.Proofs.Ytkdafincnmkjnaa
