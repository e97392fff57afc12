/-
  Plans and jobs: marked, held.
-/
import Derived.Test.YteebofhflbjimaaJob
import Derived.Test.YteebofhflbjimaaKMark
set_option linter.unusedVariables false
set_option linter.unusedSimpArgs false
namespace Go.Proofs.Yteebofhflbjimaa
open Go.RowKit
theorem l_markPlan (B : Nat) (kp mv : Int) (v : Value) (es : List Int) (k : Int) (hk : 0 ≤ k ∧ k + es.length ≤ 9223372036854775807) (w : World) (ha : OwnI B w v es) : Calls Try.prog 34 #[.agg #[.int .i64 kp, .int .i64 mv, v], .int .i64 k] w fun e w' => e = .returned (.int .i64 (k + es.length)) ∧ OwnI B w' v (marksI k es.length) ∧ Touch (blocks [v]) w w' := by
  have H1 := Lib.hid ha; have K1 := Lib.hid hk
  clear ha hk
  (have hall := all_nil w; go_enter Try.func34, Try.ntmps34)
  go_wp2_with fail
  refine (markInt' B _ _ _ K1.out _ (Own.below H1.out (by exact bel))).mono ?_; rintro e w2 ⟨rfl, ho, ht⟩
  have T1 := Lib.hid ht; have O1 := Lib.hid ho; clear ht ho
  go_wp2_with fail
  go_ret
  exact ⟨rfl, O1.out, (touch_of_below ((Below.refl _ _).alloc (Nat.le_refl _) _) _).trans T1.out⟩
theorem l_markJob (B : Nat) (kp mv : Int) (v : Value) (es : List Int) (ph nx : Int) (k : Int) (hk : 0 ≤ k ∧ k + es.length ≤ 9223372036854775807) (w : World) (ha : OwnI B w v es) : Calls Try.prog 38 #[.agg #[.int .i64 kp, .int .i64 mv, v, .int .i64 ph, .int .i64 nx], .int .i64 k] w fun e w' => e = .returned (.int .i64 (k + es.length)) ∧ OwnI B w' v (marksI k es.length) ∧ Touch (blocks [v]) w w' := by
  have H1 := Lib.hid ha; have K1 := Lib.hid hk
  clear ha hk
  (have hall := all_nil w; go_enter Try.func38, Try.ntmps38)
  go_wp2_with fail
  refine (l_markPlan B kp mv _ _ _ K1.out _ (Own.below H1.out (by exact bel))).mono ?_; rintro e w2 ⟨rfl, ho, ht⟩
  have T1 := Lib.hid ht; have O1 := Lib.hid ho; clear ht ho
  go_wp2_with fail
  go_ret
  exact ⟨rfl, O1.out, (touch_of_below ((Below.refl _ _).alloc (Nat.le_refl _) _) _).trans T1.out⟩
theorem l_heldPlan (B : Nat) (kp mv : Int) (v : Value) (n : Nat) (k : Int) (hk : 0 ≤ k ∧ k + n ≤ 9223372036854775807) (w : World) (ha : OwnI B w v (marksI k n)) : Calls Try.prog 65 #[.agg #[.int .i64 kp, .int .i64 mv, v], .int .i64 k] w fun e w' => e = .returned (.int .i64 (k + n)) ∧ Below w.heap.size w w' := by
  have H1 := Lib.hid ha
  clear ha
  (have hall := all_nil w; go_enter Try.func65, Try.ntmps65)
  go_wp2_with (first | (go_at_call 35; refine (l_heldIntS _ _ _ _ hk _ (Own.below H1.out (by exact bel))).mono ?_; rintro e w2 ⟨rfl, hb⟩; (first | have hn := nw4 hb hall (by exact zo) | have hn := nw3 hb hall (by exact zo) | have hn := nw2 hb hall (by exact zo) | have hn := nw1 hb hall (by exact zo) | have hn := nw0 hb hall (by exact zo)); obtain ⟨hc, hf, hn, hc0⟩ := hn; replace hall := hn; clear hn; have hz := hb.size; (try simp only [World.size_alloc, World.size_setCell, World.size_drew] at hz); have hx := hall; (try simp only [allLt, and_true] at hx); obtain ⟨w1, rfl⟩ : ∃ x, x = w2 := ⟨_, rfl⟩) | (with_reducible refine wp_region_grew2 (by kernel_rfl) (by kernel_rfl) ?_; intro w2 hb; (first | have hn := nw4 hb hall (by exact zo) | have hn := nw3 hb hall (by exact zo) | have hn := nw2 hb hall (by exact zo) | have hn := nw1 hb hall (by exact zo) | have hn := nw0 hb hall (by exact zo)); obtain ⟨hc, hf, hn, hc0⟩ := hn; replace hall := hn; clear hn; have hz := hb.size; (try simp only [World.size_alloc, World.size_setCell, World.size_drew] at hz); have hx := hall; (try simp only [allLt, and_true] at hx); obtain ⟨w1, rfl⟩ : ∃ x, x = w2 := ⟨_, rfl⟩; (repeat (go_big_quiet_step (fail))); refine wpQuiet_nil ?_; intro w2 hw'; have hb := grew_below hw'; clear hw'; (first | have hn := nw4 hb hall (by exact zo) | have hn := nw3 hb hall (by exact zo) | have hn := nw2 hb hall (by exact zo) | have hn := nw1 hb hall (by exact zo) | have hn := nw0 hb hall (by exact zo)); obtain ⟨hc, hf, hn, hc0⟩ := hn; replace hall := hn; clear hn; have hz := hb.size; (try simp only [World.size_alloc, World.size_setCell, World.size_drew] at hz); have hx := hall; (try simp only [allLt, and_true] at hx); obtain ⟨w1, rfl⟩ : ∃ x, x = w2 := ⟨_, rfl⟩))
  go_ret
  exact ⟨rfl, by exact bel⟩
theorem l_heldJob (B : Nat) (kp mv : Int) (v : Value) (n : Nat) (ph nx : Int) (k : Int) (hk : 0 ≤ k ∧ k + n ≤ 9223372036854775807) (w : World) (ha : OwnI B w v (marksI k n)) : Calls Try.prog 39 #[.agg #[.int .i64 kp, .int .i64 mv, v, .int .i64 ph, .int .i64 nx], .int .i64 k] w fun e w' => e = .returned (.int .i64 (k + n)) ∧ Below w.heap.size w w' := by
  have H1 := Lib.hid ha
  clear ha
  (have hall := all_nil w; go_enter Try.func39, Try.ntmps39)
  go_wp2_with (first | (go_at_call 65; refine (l_heldPlan _ kp mv _ _ _ hk _ (Own.below H1.out (by exact bel))).mono ?_; rintro e w2 ⟨rfl, hb⟩; (first | have hn := nw4 hb hall (by exact zo) | have hn := nw3 hb hall (by exact zo) | have hn := nw2 hb hall (by exact zo) | have hn := nw1 hb hall (by exact zo) | have hn := nw0 hb hall (by exact zo)); obtain ⟨hc, hf, hn, hc0⟩ := hn; replace hall := hn; clear hn; have hz := hb.size; (try simp only [World.size_alloc, World.size_setCell, World.size_drew] at hz); have hx := hall; (try simp only [allLt, and_true] at hx); obtain ⟨w1, rfl⟩ : ∃ x, x = w2 := ⟨_, rfl⟩) | (with_reducible refine wp_region_grew2 (by kernel_rfl) (by kernel_rfl) ?_; intro w2 hb; (first | have hn := nw4 hb hall (by exact zo) | have hn := nw3 hb hall (by exact zo) | have hn := nw2 hb hall (by exact zo) | have hn := nw1 hb hall (by exact zo) | have hn := nw0 hb hall (by exact zo)); obtain ⟨hc, hf, hn, hc0⟩ := hn; replace hall := hn; clear hn; have hz := hb.size; (try simp only [World.size_alloc, World.size_setCell, World.size_drew] at hz); have hx := hall; (try simp only [allLt, and_true] at hx); obtain ⟨w1, rfl⟩ : ∃ x, x = w2 := ⟨_, rfl⟩; (repeat (go_big_quiet_step (fail))); refine wpQuiet_nil ?_; intro w2 hw'; have hb := grew_below hw'; clear hw'; (first | have hn := nw4 hb hall (by exact zo) | have hn := nw3 hb hall (by exact zo) | have hn := nw2 hb hall (by exact zo) | have hn := nw1 hb hall (by exact zo) | have hn := nw0 hb hall (by exact zo)); obtain ⟨hc, hf, hn, hc0⟩ := hn; replace hall := hn; clear hn; have hz := hb.size; (try simp only [World.size_alloc, World.size_setCell, World.size_drew] at hz); have hx := hall; (try simp only [allLt, and_true] at hx); obtain ⟨w1, rfl⟩ : ∃ x, x = w2 := ⟨_, rfl⟩))
  go_ret
  exact ⟨rfl, by exact bel⟩
end Go.Proofs.Yteebofhflbjimaa
