/-
  A writer, where the seat has no slices of writers.
-/
import Derived.Test.YtmblkllijjlkoaaFamC
set_option linter.unusedVariables false
set_option linter.unusedSimpArgs false
namespace Go.Proofs.Ytmblkllijjlkoaa
open Go.RowKit
structure Wr where
  ad : Int
  va : Int
  dn : Bool
  wt : Int
deriving DecidableEq, Inhabited
def Wr.val (x : Wr) : Value := .agg #[.int .i64 x.ad, .int .i64 x.va, .bool x.dn, .int .i64 x.wt]
theorem l_toWriter (ad0 : Int) (va0 : Int) (dn0 : Bool) (wt0 : Int) (w : World) : Calls Try.prog 8 #[.agg #[.int .i64 ad0, .int .i64 va0, .bool dn0, .int .i64 wt0]] w fun e w' => e = .returned (.agg #[.int .i64 ad0, .int .i64 va0, .bool dn0, .int .i64 wt0]) ∧ Below w.heap.size w w' := by
  (have hall := all_nil w; go_enter Try.func8, Try.ntmps8)
  go_wp2_with (first | (with_reducible refine wp_region_grew2 (by kernel_rfl) (by kernel_rfl) ?_; intro w2 hb; (first | have hn := nw4 hb hall (by exact zo) | have hn := nw3 hb hall (by exact zo) | have hn := nw2 hb hall (by exact zo) | have hn := nw1 hb hall (by exact zo) | have hn := nw0 hb hall (by exact zo)); obtain ⟨hc, hf, hn, hc0⟩ := hn; replace hall := hn; clear hn; have hz := hb.size; (try simp only [World.size_alloc, World.size_setCell, World.size_drew] at hz); have hx := hall; (try simp only [allLt, and_true] at hx); obtain ⟨w1, rfl⟩ : ∃ x, x = w2 := ⟨_, rfl⟩; (repeat (go_big_quiet_step (fail))); refine wpQuiet_nil ?_; intro w2 hw'; have hb := grew_below hw'; clear hw'; (first | have hn := nw4 hb hall (by exact zo) | have hn := nw3 hb hall (by exact zo) | have hn := nw2 hb hall (by exact zo) | have hn := nw1 hb hall (by exact zo) | have hn := nw0 hb hall (by exact zo)); obtain ⟨hc, hf, hn, hc0⟩ := hn; replace hall := hn; clear hn; have hz := hb.size; (try simp only [World.size_alloc, World.size_setCell, World.size_drew] at hz); have hx := hall; (try simp only [allLt, and_true] at hx); obtain ⟨w1, rfl⟩ : ∃ x, x = w2 := ⟨_, rfl⟩))
  (refine bodyPost_ret (v := .agg #[.int .i64 ad0, .int .i64 va0, .bool dn0, .int .i64 wt0]) (by simp [results, Try.results8, go_sem]) rfl ⟨rfl, ?_⟩; exact bel)
theorem l_eqWriter (ad0 : Int) (va0 : Int) (dn0 : Bool) (wt0 : Int) (w : World) : Calls Try.prog 11 #[.agg #[.int .i64 ad0, .int .i64 va0, .bool dn0, .int .i64 wt0], .agg #[.int .i64 ad0, .int .i64 va0, .bool dn0, .int .i64 wt0]] w fun e w' => e = .returned (.bool true) ∧ Below w.heap.size w w' := by
  (have hall := all_nil w; go_enter Try.func11, Try.ntmps11)
  go_wp2_with (first | (with_reducible refine wp_region_grew2 (by kernel_rfl) (by kernel_rfl) ?_; intro w2 hb; (first | have hn := nw4 hb hall (by exact zo) | have hn := nw3 hb hall (by exact zo) | have hn := nw2 hb hall (by exact zo) | have hn := nw1 hb hall (by exact zo) | have hn := nw0 hb hall (by exact zo)); obtain ⟨hc, hf, hn, hc0⟩ := hn; replace hall := hn; clear hn; have hz := hb.size; (try simp only [World.size_alloc, World.size_setCell, World.size_drew] at hz); have hx := hall; (try simp only [allLt, and_true] at hx); obtain ⟨w1, rfl⟩ : ∃ x, x = w2 := ⟨_, rfl⟩; (repeat (go_big_quiet_step (fail))); refine wpQuiet_nil ?_; intro w2 hw'; have hb := grew_below hw'; clear hw'; (first | have hn := nw4 hb hall (by exact zo) | have hn := nw3 hb hall (by exact zo) | have hn := nw2 hb hall (by exact zo) | have hn := nw1 hb hall (by exact zo) | have hn := nw0 hb hall (by exact zo)); obtain ⟨hc, hf, hn, hc0⟩ := hn; replace hall := hn; clear hn; have hz := hb.size; (try simp only [World.size_alloc, World.size_setCell, World.size_drew] at hz); have hx := hall; (try simp only [allLt, and_true] at hx); obtain ⟨w1, rfl⟩ : ∃ x, x = w2 := ⟨_, rfl⟩))
  all_goals (go_ret; refine ⟨by simp_all [], ?_⟩; exact bel)

end Go.Proofs.Ytmblkllijjlkoaa
