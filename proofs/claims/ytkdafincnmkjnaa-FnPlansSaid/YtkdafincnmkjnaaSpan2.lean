/-
  What the functions on the slots of a span return.
-/
import Derived.Test.YtkdafincnmkjnaaIntLaw
set_option linter.unusedVariables false
set_option linter.unusedSimpArgs false
namespace Go.Proofs.Ytkdafincnmkjnaa
open Go.RowKit
theorem spanOk_parts' {p c b : Int} (h : spanOk p c b = true) : (0 ≤ p ∧ p ≤ 31) ∧ (0 ≤ c ∧ c ≤ 3) ∧ bitmapOk (slotsOf c) b = true := by
  simp only [spanOk, Bool.and_eq_true, between_iff] at h; exact ⟨h.1.1, h.1.2, h.2⟩
theorem NewInts.open {w w' : World} {xs : List Int} {e : Ending} (h : NewInts w xs e w') : ∃ ao cap, e = .returned (.slice ao xs.length cap) ∧ OwnI w.heap.size w' (.slice ao xs.length cap) xs ∧ Below w.heap.size w w' := by
  obtain ⟨v, rfl, hown, hb⟩ := h
  obtain ⟨ao, cap, rfl, _⟩ := hown.shape
  exact ⟨ao, cap, rfl, hown, hb⟩
def spanFull (p c b : Int) : Bool := spanOk p c b && ((freeSlots (slotsOf c) b).length : Int) == 0

theorem l_eqSpan (a b c : Int) (w : World) : Calls Try.prog 87 #[.agg #[.int .i64 a, .int .i64 b, .int .i64 c], .agg #[.int .i64 a, .int .i64 b, .int .i64 c]] w fun e w' => e = .returned (.bool true) ∧ Below w.heap.size w w' := by
  (have hall := all_nil w; go_enter Try.func87, Try.ntmps87)
  go_wp2_with (first | (with_reducible refine wp_region_grew2 (by kernel_rfl) (by kernel_rfl) ?_; intro w2 hb; (first | have hn := nw4 hb hall (by exact zo) | have hn := nw3 hb hall (by exact zo) | have hn := nw2 hb hall (by exact zo) | have hn := nw1 hb hall (by exact zo) | have hn := nw0 hb hall (by exact zo)); obtain ⟨hc, hf, hn, hc0⟩ := hn; replace hall := hn; clear hn; have hz := hb.size; (try simp only [World.size_alloc, World.size_setCell, World.size_drew] at hz); have hx := hall; (try simp only [allLt, and_true] at hx); obtain ⟨w1, rfl⟩ : ∃ x, x = w2 := ⟨_, rfl⟩; (repeat (go_big_quiet_step (fail))); refine wpQuiet_nil ?_; intro w2 hw'; have hb := grew_below hw'; clear hw'; (first | have hn := nw4 hb hall (by exact zo) | have hn := nw3 hb hall (by exact zo) | have hn := nw2 hb hall (by exact zo) | have hn := nw1 hb hall (by exact zo) | have hn := nw0 hb hall (by exact zo)); obtain ⟨hc, hf, hn, hc0⟩ := hn; replace hall := hn; clear hn; have hz := hb.size; (try simp only [World.size_alloc, World.size_setCell, World.size_drew] at hz); have hx := hall; (try simp only [allLt, and_true] at hx); obtain ⟨w1, rfl⟩ : ∃ x, x = w2 := ⟨_, rfl⟩))
  all_goals (go_ret; refine ⟨by simp_all [], ?_⟩; exact bel)
def giveBits (p c b slot : Int) : Int := if spanOk p c b && hasSlot b slot then withoutSlot b slot else b

end Go.Proofs.Ytkdafincnmkjnaa
