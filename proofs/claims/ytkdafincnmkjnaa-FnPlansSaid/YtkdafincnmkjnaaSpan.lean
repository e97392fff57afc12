/-
  What the functions on one span or two return.
-/
import Derived.Test.YtkdafincnmkjnaaScal
set_option linter.unusedVariables false
set_option linter.unusedSimpArgs false
namespace Go.Proofs.Ytkdafincnmkjnaa
open Go.RowKit

def meshable (p c b p' c' b' : Int) : Bool := spanOk p c b && (spanOk p' c' b' && (c == c' && (p != p' && bits .and .i64 b b' == 0)))
theorem i_Meshable (p c b p' c' b' : Int) (r : Bool) (hr : meshable p c b p' c' b' = r) (w : World) :
    Calls Try.prog 80 #[.agg #[.int .i64 p, .int .i64 c, .int .i64 b], .agg #[.int .i64 p', .int .i64 c', .int .i64 b']] w fun e w' => e = .returned (.bool r) ∧ Below w.heap.size w w' := by
  subst hr
  cases h1 : spanOk p c b <;> cases h2 : spanOk p' c' b' <;> cases h3 : (c == c') <;> cases h4 : (p != p')
  all_goals (have hall := all_nil w; go_enter Try.func80, Try.ntmps80)
  all_goals go_wp2_with (first | (go_at_call 81; (first | (refine (i_SpanOk _ _ _ true (by assumption) _).mono ?_) | (refine (i_SpanOk _ _ _ false (by assumption) _).mono ?_) | (refine (i_SpanOk _ _ _ _ rfl _).mono ?_)); rintro e w2 ⟨rfl, hb⟩; (first | have hn := nw4 hb hall (by exact zo) | have hn := nw3 hb hall (by exact zo) | have hn := nw2 hb hall (by exact zo) | have hn := nw1 hb hall (by exact zo) | have hn := nw0 hb hall (by exact zo)); obtain ⟨hc, hf, hn, hc0⟩ := hn; replace hall := hn; clear hn; have hz := hb.size; (try simp only [World.size_alloc, World.size_setCell, World.size_drew] at hz); have hx := hall; (try simp only [allLt, and_true] at hx); obtain ⟨w1, rfl⟩ : ∃ x, x = w2 := ⟨_, rfl⟩) | (with_reducible refine wp_region_grew2 (by kernel_rfl) (by kernel_rfl) ?_; intro w2 hb; (first | have hn := nw4 hb hall (by exact zo) | have hn := nw3 hb hall (by exact zo) | have hn := nw2 hb hall (by exact zo) | have hn := nw1 hb hall (by exact zo) | have hn := nw0 hb hall (by exact zo)); obtain ⟨hc, hf, hn, hc0⟩ := hn; replace hall := hn; clear hn; have hz := hb.size; (try simp only [World.size_alloc, World.size_setCell, World.size_drew] at hz); have hx := hall; (try simp only [allLt, and_true] at hx); obtain ⟨w1, rfl⟩ : ∃ x, x = w2 := ⟨_, rfl⟩; (repeat (go_big_quiet_step (first | (go_at_call 81; first | exact calls_grew (i_SpanOk _ _ _ true (by assumption) _) | exact calls_grew (i_SpanOk _ _ _ false (by assumption) _) | exact calls_grew (i_SpanOk _ _ _ _ rfl _))))); refine wpQuiet_nil ?_; intro w2 hw'; have hb := grew_below hw'; clear hw'; (first | have hn := nw4 hb hall (by exact zo) | have hn := nw3 hb hall (by exact zo) | have hn := nw2 hb hall (by exact zo) | have hn := nw1 hb hall (by exact zo) | have hn := nw0 hb hall (by exact zo)); obtain ⟨hc, hf, hn, hc0⟩ := hn; replace hall := hn; clear hn; have hz := hb.size; (try simp only [World.size_alloc, World.size_setCell, World.size_drew] at hz); have hx := hall; (try simp only [allLt, and_true] at hx); obtain ⟨w1, rfl⟩ : ∃ x, x = w2 := ⟨_, rfl⟩))
  all_goals (go_ret; refine ⟨by simp_all [meshable], ?_⟩; exact bel)
theorem s_Meshable (p c b p' c' b' : Int) (r : Bool) (hr : meshable p c b p' c' b' = r) (w : World) :
    Calls Try.prog 43 #[.agg #[.int .i64 p, .int .i64 c, .int .i64 b], .agg #[.int .i64 p', .int .i64 c', .int .i64 b']] w fun e w' => e = .returned (.bool r) ∧ Below w.heap.size w w' := by
  subst hr
  cases h1 : spanOk p c b <;> cases h2 : spanOk p' c' b' <;> cases h3 : (c == c') <;> cases h4 : (p != p')
  all_goals (have hall := all_nil w; go_enter Try.func43, Try.ntmps43)
  all_goals go_wp2_with (first | (go_at_call 79; (first | (refine (s_SpanOk _ _ _ true (by assumption) _).mono ?_) | (refine (s_SpanOk _ _ _ false (by assumption) _).mono ?_) | (refine (s_SpanOk _ _ _ _ rfl _).mono ?_)); rintro e w2 ⟨rfl, hb⟩; (first | have hn := nw4 hb hall (by exact zo) | have hn := nw3 hb hall (by exact zo) | have hn := nw2 hb hall (by exact zo) | have hn := nw1 hb hall (by exact zo) | have hn := nw0 hb hall (by exact zo)); obtain ⟨hc, hf, hn, hc0⟩ := hn; replace hall := hn; clear hn; have hz := hb.size; (try simp only [World.size_alloc, World.size_setCell, World.size_drew] at hz); have hx := hall; (try simp only [allLt, and_true] at hx); obtain ⟨w1, rfl⟩ : ∃ x, x = w2 := ⟨_, rfl⟩) | (with_reducible refine wp_region_grew2 (by kernel_rfl) (by kernel_rfl) ?_; intro w2 hb; (first | have hn := nw4 hb hall (by exact zo) | have hn := nw3 hb hall (by exact zo) | have hn := nw2 hb hall (by exact zo) | have hn := nw1 hb hall (by exact zo) | have hn := nw0 hb hall (by exact zo)); obtain ⟨hc, hf, hn, hc0⟩ := hn; replace hall := hn; clear hn; have hz := hb.size; (try simp only [World.size_alloc, World.size_setCell, World.size_drew] at hz); have hx := hall; (try simp only [allLt, and_true] at hx); obtain ⟨w1, rfl⟩ : ∃ x, x = w2 := ⟨_, rfl⟩; (repeat (go_big_quiet_step (first | (go_at_call 79; first | exact calls_grew (s_SpanOk _ _ _ true (by assumption) _) | exact calls_grew (s_SpanOk _ _ _ false (by assumption) _) | exact calls_grew (s_SpanOk _ _ _ _ rfl _))))); refine wpQuiet_nil ?_; intro w2 hw'; have hb := grew_below hw'; clear hw'; (first | have hn := nw4 hb hall (by exact zo) | have hn := nw3 hb hall (by exact zo) | have hn := nw2 hb hall (by exact zo) | have hn := nw1 hb hall (by exact zo) | have hn := nw0 hb hall (by exact zo)); obtain ⟨hc, hf, hn, hc0⟩ := hn; replace hall := hn; clear hn; have hz := hb.size; (try simp only [World.size_alloc, World.size_setCell, World.size_drew] at hz); have hx := hall; (try simp only [allLt, and_true] at hx); obtain ⟨w1, rfl⟩ : ∃ x, x = w2 := ⟨_, rfl⟩))
  all_goals (go_ret; refine ⟨by simp_all [meshable], ?_⟩; exact bel)
theorem spanOk_parts {p c b : Int} (h : spanOk p c b = true) : (0 ≤ p ∧ p ≤ 31) ∧ (0 ≤ c ∧ c ≤ 3) ∧ bitmapOk (slotsOf c) b = true := by
  simp only [spanOk, Bool.and_eq_true, between_iff] at h; exact ⟨h.1.1, h.1.2, h.2⟩
theorem div_in' {m i : Int} (h0 : 0 ≤ m) (hi : 1 ≤ i) (hi8 : i ≤ 8) (hm : m ≤ 9223372036854775807) : wrap64 (m / i) = m / i ∧ wrap64 (m % i) = m % i := by
  have h1 := Int.ediv_nonneg h0 (show 0 ≤ i by omega)
  have h2 := Int.ediv_le_self i h0
  have h3 := Int.emod_nonneg m (show i ≠ 0 by omega)
  have h4 := Int.emod_lt_of_pos m (show 0 < i by omega)
  exact ⟨IntWalk.wrap64_in _ ⟨by omega, by omega⟩, IntWalk.wrap64_in _ ⟨by omega, by omega⟩⟩
end Go.Proofs.Ytkdafincnmkjnaa
