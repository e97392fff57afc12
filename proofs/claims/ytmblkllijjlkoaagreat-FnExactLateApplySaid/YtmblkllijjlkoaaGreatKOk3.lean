/-
  The pages on a frame; the entry of a page.
-/
import Derived.Test.YtmblkllijjlkoaaGreatKOk2
import Derived.Test.YtmblkllijjlkoaaGreatSpan2
set_option linter.unusedVariables false
set_option linter.unusedSimpArgs false
namespace Go.Proofs.YtmblkllijjlkoaaGreat
open Go.RowKit
theorem onTo_succ {es : List Ent} (fr : Int) {k : Nat} {x : Ent} (h : es[k]? = some x) : onTo es fr (k + 1) = onTo es fr k ++ if x.m != 0 && x.f == fr then [(k : Int)] else [] := by rw [onTo, getD_of h]
theorem intCellG (w : World) (x : Int) (g : Nat) (hg : g = w.heap.size) : ∀ j u, (fInt x)[j]? = some u → (w.alloc (.cells #[.int .i64 x] 3)).cell? ⟨g, j, none⟩ = some u := by
  subst hg; exact intCell w x
theorem i_PagesOn (v : Value) (es : List Ent) (fr : Int) (hs : es.length ≤ 1048576) (w : World) (ha : EntAt w v es) : Calls Tryz.prog 158 #[.agg #[v], .int .i64 fr] w (NewInts w (pagesOn es fr)) := by
  obtain ⟨eo, ec, rfl, h1, h2, hrd⟩ := EntAt.open ha
  have hm : es.length ≤ 9223372036854775807 := by unfold maxLen at h2; omega
  have HE := Lib.hid hrd
  clear ha h1 h2 hrd
  (have hall := all_nil w; go_enter Tryz.func158, Tryz.ntmps158)
  go_wp2_with (first | (with_reducible refine wp_region_grew2 (by kernel_rfl) (by kernel_rfl) ?_; intro w2 hb; (first | have hn := nw4 hb hall (by exact zo) | have hn := nw3 hb hall (by exact zo) | have hn := nw2 hb hall (by exact zo) | have hn := nw1 hb hall (by exact zo) | have hn := nw0 hb hall (by exact zo)); obtain ⟨hc, hf, hn, hc0⟩ := hn; replace hall := hn; clear hn; have hz := hb.size; (try simp only [World.size_alloc, World.size_setCell, World.size_drew] at hz); have hx := hall; (try simp only [allLt, and_true] at hx); (try (have hO := HO.out; replace HO := Lib.hid (Own.below hO (w' := w2) (by exact bel)); clear hO)); obtain ⟨w1, rfl⟩ : ∃ x, x = w2 := ⟨_, rfl⟩; (repeat (go_big_quiet_step (fail))); refine wpQuiet_nil ?_; intro w2 hw'; have hb := grew_below hw'; clear hw'; (first | have hn := nw4 hb hall (by exact zo) | have hn := nw3 hb hall (by exact zo) | have hn := nw2 hb hall (by exact zo) | have hn := nw1 hb hall (by exact zo) | have hn := nw0 hb hall (by exact zo)); obtain ⟨hc, hf, hn, hc0⟩ := hn; replace hall := hn; clear hn; have hz := hb.size; (try simp only [World.size_alloc, World.size_setCell, World.size_drew] at hz); have hx := hall; (try simp only [allLt, and_true] at hx); (try (have hO := HO.out; replace HO := Lib.hid (Own.below hO (w' := w2) (by exact bel)); clear hO)); obtain ⟨w1, rfl⟩ : ∃ x, x = w2 := ⟨_, rfl⟩))
  go_loopw [5, 12] (fun o i wr => ∃ k : Nat, k ≤ es.length ∧ i = .int .i64 k ∧ OwnI (w.heap.size + 1) wr o (onTo es fr k) ∧ Below w.heap.size w wr ∧ wr.cell? ⟨w.heap.size, 0, none⟩ = some (.slice eo es.length ec) ∧ w.heap.size + 1 ≤ wr.heap.size) (fun _ i _ => es.length - (intOf i).toNat)
  case atStart => exact ⟨0, Nat.zero_le _, rfl, Own.empty' _ _ _ _ _ _ (by simp) (by simp), by exact bel, by go_simp, by simp only [World.size_alloc]; omega⟩
  case round =>
    obtain ⟨k, hk, rfl, hown, hbel, kbox, xbox⟩ := hrel
    have HO := Lib.hid hown; have HB := Lib.hid hbel; have hsz := hbel.size; clear hown
    by_cases hlt : k < es.length
    · have hlt' : (k : Int) < es.length := by omega
      obtain ⟨x, hx⟩ := getx hlt
      obtain ⟨g, o, rfl, hg, c0, c1⟩ := HE.out k x hx
      have HS := Lib.hid (onTo_succ fr hx)
      have hle := onTo_le es fr k
      replace c0 := (hbel.cell (p := ⟨g, o + k * 2, none⟩) hg).trans c0
      replace c1 := (hbel.cell (p := ⟨g, o + k * 2 + 1, none⟩) hg).trans c1
      clear hx hbel
      obtain ⟨xm, xf⟩ := x
      dsimp only at c0 c1
      (obtain ⟨w1, rfl⟩ : ∃ x, x = wr := ⟨_, rfl⟩; have hall : allLt [g, w.heap.size] w1.heap.size := ⟨by omega, by omega, trivial⟩; have hx := hall; (try simp only [allLt, and_true] at hx))
      have keep : ∀ W, (xm != 0 && xf == fr) = false → OwnI (w.heap.size + 1) W u5 (onTo es fr k) → OwnI (w.heap.size + 1) W u5 (onTo es fr (k + 1)) := fun W h ho => by rw [HS.out, h]; simpa using ho
      have KP := Lib.hid keep; clear keep
      rcases eqc xm 0 with ⟨b1, b2⟩ | ⟨b1, b2⟩
      · go_wp2_with (first | (with_reducible refine wp_region_grew2 (by kernel_rfl) (by kernel_rfl) ?_; intro w2 hb; (first | have hn := nw4 hb hall (by exact zo) | have hn := nw3 hb hall (by exact zo) | have hn := nw2 hb hall (by exact zo) | have hn := nw1 hb hall (by exact zo) | have hn := nw0 hb hall (by exact zo)); obtain ⟨hc, hf, hn, hc0⟩ := hn; replace hall := hn; clear hn; have hz := hb.size; (try simp only [World.size_alloc, World.size_setCell, World.size_drew] at hz); have hx := hall; (try simp only [allLt, and_true] at hx); (try (have hO := HO.out; replace HO := Lib.hid (Own.below hO (w' := w2) (by exact bel)); clear hO)); obtain ⟨w1, rfl⟩ : ∃ x, x = w2 := ⟨_, rfl⟩; (repeat (go_big_quiet_step (fail))); refine wpQuiet_nil ?_; intro w2 hw'; have hb := grew_below hw'; clear hw'; (first | have hn := nw4 hb hall (by exact zo) | have hn := nw3 hb hall (by exact zo) | have hn := nw2 hb hall (by exact zo) | have hn := nw1 hb hall (by exact zo) | have hn := nw0 hb hall (by exact zo)); obtain ⟨hc, hf, hn, hc0⟩ := hn; replace hall := hn; clear hn; have hz := hb.size; (try simp only [World.size_alloc, World.size_setCell, World.size_drew] at hz); have hx := hall; (try simp only [allLt, and_true] at hx); (try (have hO := HO.out; replace HO := Lib.hid (Own.below hO (w' := w2) (by exact bel)); clear hO)); obtain ⟨w1, rfl⟩ : ∃ x, x = w2 := ⟨_, rfl⟩))
        all_goals go_roundw
        case rel => exact ⟨k + 1, by omega, by go_num, KP.out _ (by simp [b2]) (HO.out.alloc _), by (have hB := HB.out; exact bel), by go_simp, by (try simp only [World.size_alloc]); omega⟩
        case measure => simp [intOf]; omega
      rcases eqc xf fr with ⟨b3, b4⟩ | ⟨b3, b4⟩
      · go_wp2_with (first | (at_builtin; (refine append1 elemInt rfl _ _ rfl lenInt oneInt rfl ((HO.out.alloc _).alloc _) (by simp only [World.size_alloc]; omega) rfl (k : Int) (intCellG _ _ _ (by simp)) (by unfold maxLen; omega) ?_); intro v2 w2 hown2 _ hb2))
        all_goals go_roundw
        case rel => exact ⟨k + 1, by omega, by go_num, by rw [HS.out, b2, b3]; exact hown2, by (have hB := HB.out; exact bel), (hb2.cell (p := ⟨w.heap.size, 0, none⟩) (Nat.lt_succ_self _)).trans (by go_simp), by have := hb2.size; simp only [World.size_alloc] at this; omega⟩
        case measure => simp [intOf]; omega
      · go_wp2_with (first | (with_reducible refine wp_region_grew2 (by kernel_rfl) (by kernel_rfl) ?_; intro w2 hb; (first | have hn := nw4 hb hall (by exact zo) | have hn := nw3 hb hall (by exact zo) | have hn := nw2 hb hall (by exact zo) | have hn := nw1 hb hall (by exact zo) | have hn := nw0 hb hall (by exact zo)); obtain ⟨hc, hf, hn, hc0⟩ := hn; replace hall := hn; clear hn; have hz := hb.size; (try simp only [World.size_alloc, World.size_setCell, World.size_drew] at hz); have hx := hall; (try simp only [allLt, and_true] at hx); (try (have hO := HO.out; replace HO := Lib.hid (Own.below hO (w' := w2) (by exact bel)); clear hO)); obtain ⟨w1, rfl⟩ : ∃ x, x = w2 := ⟨_, rfl⟩; (repeat (go_big_quiet_step (fail))); refine wpQuiet_nil ?_; intro w2 hw'; have hb := grew_below hw'; clear hw'; (first | have hn := nw4 hb hall (by exact zo) | have hn := nw3 hb hall (by exact zo) | have hn := nw2 hb hall (by exact zo) | have hn := nw1 hb hall (by exact zo) | have hn := nw0 hb hall (by exact zo)); obtain ⟨hc, hf, hn, hc0⟩ := hn; replace hall := hn; clear hn; have hz := hb.size; (try simp only [World.size_alloc, World.size_setCell, World.size_drew] at hz); have hx := hall; (try simp only [allLt, and_true] at hx); (try (have hO := HO.out; replace HO := Lib.hid (Own.below hO (w' := w2) (by exact bel)); clear hO)); obtain ⟨w1, rfl⟩ : ∃ x, x = w2 := ⟨_, rfl⟩))
        all_goals go_roundw
        case rel => exact ⟨k + 1, by omega, by go_num, KP.out _ (by simp [b3]) (HO.out.alloc _), by (have hB := HB.out; exact bel), by go_simp, by (try simp only [World.size_alloc]); omega⟩
        case measure => simp [intOf]; omega
    · have hlt' : ¬ (k : Int) < es.length := by omega
      obtain rfl : k = es.length := by omega
      clear hbel
      go_wp2_with (first | (with_reducible refine wp_region_grew2 (by kernel_rfl) (by kernel_rfl) ?_; intro w2 hb; (first | have hn := nw4 hb hall (by exact zo) | have hn := nw3 hb hall (by exact zo) | have hn := nw2 hb hall (by exact zo) | have hn := nw1 hb hall (by exact zo) | have hn := nw0 hb hall (by exact zo)); obtain ⟨hc, hf, hn, hc0⟩ := hn; replace hall := hn; clear hn; have hz := hb.size; (try simp only [World.size_alloc, World.size_setCell, World.size_drew] at hz); have hx := hall; (try simp only [allLt, and_true] at hx); (try (have hO := HO.out; replace HO := Lib.hid (Own.below hO (w' := w2) (by exact bel)); clear hO)); obtain ⟨w1, rfl⟩ : ∃ x, x = w2 := ⟨_, rfl⟩; (repeat (go_big_quiet_step (fail))); refine wpQuiet_nil ?_; intro w2 hw'; have hb := grew_below hw'; clear hw'; (first | have hn := nw4 hb hall (by exact zo) | have hn := nw3 hb hall (by exact zo) | have hn := nw2 hb hall (by exact zo) | have hn := nw1 hb hall (by exact zo) | have hn := nw0 hb hall (by exact zo)); obtain ⟨hc, hf, hn, hc0⟩ := hn; replace hall := hn; clear hn; have hz := hb.size; (try simp only [World.size_alloc, World.size_setCell, World.size_drew] at hz); have hx := hall; (try simp only [allLt, and_true] at hx); (try (have hO := HO.out; replace HO := Lib.hid (Own.below hO (w' := w2) (by exact bel)); clear hO)); obtain ⟨w1, rfl⟩ : ∃ x, x = w2 := ⟨_, rfl⟩))
      go_ret
      have hB := HB.out
      exact ⟨_, rfl, Own.mono HO.out (by omega), by exact bel⟩

theorem s_PagesOn (v : Value) (es : List Ent) (fr : Int) (hs : es.length ≤ 1048576) (w : World) (ha : EntAt w v es) : Calls Tryz.prog 161 #[.agg #[v], .int .i64 fr] w (NewInts w (pagesOn es fr)) := by
  obtain ⟨eo, ec, rfl, h1, h2, hrd⟩ := EntAt.open ha
  have hm : es.length ≤ 9223372036854775807 := by unfold maxLen at h2; omega
  have HE := Lib.hid hrd
  clear ha h1 h2 hrd
  (have hall := all_nil w; go_enter Tryz.func161, Tryz.ntmps161)
  go_wp2_with (first | (with_reducible refine wp_region_grew2 (by kernel_rfl) (by kernel_rfl) ?_; intro w2 hb; (first | have hn := nw4 hb hall (by exact zo) | have hn := nw3 hb hall (by exact zo) | have hn := nw2 hb hall (by exact zo) | have hn := nw1 hb hall (by exact zo) | have hn := nw0 hb hall (by exact zo)); obtain ⟨hc, hf, hn, hc0⟩ := hn; replace hall := hn; clear hn; have hz := hb.size; (try simp only [World.size_alloc, World.size_setCell, World.size_drew] at hz); have hx := hall; (try simp only [allLt, and_true] at hx); (try (have hO := HO.out; replace HO := Lib.hid (Own.below hO (w' := w2) (by exact bel)); clear hO)); obtain ⟨w1, rfl⟩ : ∃ x, x = w2 := ⟨_, rfl⟩; (repeat (go_big_quiet_step (fail))); refine wpQuiet_nil ?_; intro w2 hw'; have hb := grew_below hw'; clear hw'; (first | have hn := nw4 hb hall (by exact zo) | have hn := nw3 hb hall (by exact zo) | have hn := nw2 hb hall (by exact zo) | have hn := nw1 hb hall (by exact zo) | have hn := nw0 hb hall (by exact zo)); obtain ⟨hc, hf, hn, hc0⟩ := hn; replace hall := hn; clear hn; have hz := hb.size; (try simp only [World.size_alloc, World.size_setCell, World.size_drew] at hz); have hx := hall; (try simp only [allLt, and_true] at hx); (try (have hO := HO.out; replace HO := Lib.hid (Own.below hO (w' := w2) (by exact bel)); clear hO)); obtain ⟨w1, rfl⟩ : ∃ x, x = w2 := ⟨_, rfl⟩))
  go_loopw [5, 6] (fun o i wr => ∃ k : Nat, k ≤ es.length ∧ i = .int .i64 k ∧ OwnI (w.heap.size + 1) wr o (onTo es fr k) ∧ Below w.heap.size w wr ∧ wr.cell? ⟨w.heap.size, 0, none⟩ = some (.slice eo es.length ec) ∧ w.heap.size + 1 ≤ wr.heap.size) (fun _ i _ => es.length - (intOf i).toNat)
  case atStart => exact ⟨0, Nat.zero_le _, rfl, Own.empty' _ _ _ _ _ _ (by simp) (by simp), by exact bel, by go_simp, by simp only [World.size_alloc]; omega⟩
  case round =>
    obtain ⟨k, hk, rfl, hown, hbel, kbox, xbox⟩ := hrel
    have HO := Lib.hid hown; have HB := Lib.hid hbel; have hsz := hbel.size; clear hown
    by_cases hlt : k < es.length
    · have hlt' : (k : Int) < es.length := by omega
      obtain ⟨x, hx⟩ := getx hlt
      obtain ⟨g, o, rfl, hg, c0, c1⟩ := HE.out k x hx
      have HS := Lib.hid (onTo_succ fr hx)
      have hle := onTo_le es fr k
      replace c0 := (hbel.cell (p := ⟨g, o + k * 2, none⟩) hg).trans c0
      replace c1 := (hbel.cell (p := ⟨g, o + k * 2 + 1, none⟩) hg).trans c1
      clear hx hbel
      obtain ⟨xm, xf⟩ := x
      dsimp only at c0 c1
      (obtain ⟨w1, rfl⟩ : ∃ x, x = wr := ⟨_, rfl⟩; have hall : allLt [g, w.heap.size] w1.heap.size := ⟨by omega, by omega, trivial⟩; have hx := hall; (try simp only [allLt, and_true] at hx))
      have keep : ∀ W, (xm != 0 && xf == fr) = false → OwnI (w.heap.size + 1) W u5 (onTo es fr k) → OwnI (w.heap.size + 1) W u5 (onTo es fr (k + 1)) := fun W h ho => by rw [HS.out, h]; simpa using ho
      have KP := Lib.hid keep; clear keep
      rcases eqc xm 0 with ⟨b1, b2⟩ | ⟨b1, b2⟩
      · go_wp2_with (first | (with_reducible refine wp_region_grew2 (by kernel_rfl) (by kernel_rfl) ?_; intro w2 hb; (first | have hn := nw4 hb hall (by exact zo) | have hn := nw3 hb hall (by exact zo) | have hn := nw2 hb hall (by exact zo) | have hn := nw1 hb hall (by exact zo) | have hn := nw0 hb hall (by exact zo)); obtain ⟨hc, hf, hn, hc0⟩ := hn; replace hall := hn; clear hn; have hz := hb.size; (try simp only [World.size_alloc, World.size_setCell, World.size_drew] at hz); have hx := hall; (try simp only [allLt, and_true] at hx); (try (have hO := HO.out; replace HO := Lib.hid (Own.below hO (w' := w2) (by exact bel)); clear hO)); obtain ⟨w1, rfl⟩ : ∃ x, x = w2 := ⟨_, rfl⟩; (repeat (go_big_quiet_step (fail))); refine wpQuiet_nil ?_; intro w2 hw'; have hb := grew_below hw'; clear hw'; (first | have hn := nw4 hb hall (by exact zo) | have hn := nw3 hb hall (by exact zo) | have hn := nw2 hb hall (by exact zo) | have hn := nw1 hb hall (by exact zo) | have hn := nw0 hb hall (by exact zo)); obtain ⟨hc, hf, hn, hc0⟩ := hn; replace hall := hn; clear hn; have hz := hb.size; (try simp only [World.size_alloc, World.size_setCell, World.size_drew] at hz); have hx := hall; (try simp only [allLt, and_true] at hx); (try (have hO := HO.out; replace HO := Lib.hid (Own.below hO (w' := w2) (by exact bel)); clear hO)); obtain ⟨w1, rfl⟩ : ∃ x, x = w2 := ⟨_, rfl⟩))
        all_goals go_roundw
        case rel => exact ⟨k + 1, by omega, by go_num, KP.out _ (by simp [b2]) HO.out, by (have hB := HB.out; exact bel), by go_simp, by (try simp only [World.size_alloc]); omega⟩
        case measure => simp [intOf]; omega
      rcases eqc xf fr with ⟨b3, b4⟩ | ⟨b3, b4⟩
      · go_wp2_with (first | (at_builtin; (refine append1 elemInt rfl _ _ rfl lenInt oneInt rfl (HO.out.alloc _) (by simp only [World.size_alloc]; omega) rfl (k : Int) (intCellG _ _ _ (by simp)) (by unfold maxLen; omega) ?_); intro v2 w2 hown2 _ hb2))
        all_goals go_roundw
        case rel => exact ⟨k + 1, by omega, by go_num, by rw [HS.out, b2, b3]; exact hown2, by (have hB := HB.out; exact bel), (hb2.cell (p := ⟨w.heap.size, 0, none⟩) (Nat.lt_succ_self _)).trans (by go_simp), by have := hb2.size; simp only [World.size_alloc] at this; omega⟩
        case measure => simp [intOf]; omega
      · go_wp2_with (first | (with_reducible refine wp_region_grew2 (by kernel_rfl) (by kernel_rfl) ?_; intro w2 hb; (first | have hn := nw4 hb hall (by exact zo) | have hn := nw3 hb hall (by exact zo) | have hn := nw2 hb hall (by exact zo) | have hn := nw1 hb hall (by exact zo) | have hn := nw0 hb hall (by exact zo)); obtain ⟨hc, hf, hn, hc0⟩ := hn; replace hall := hn; clear hn; have hz := hb.size; (try simp only [World.size_alloc, World.size_setCell, World.size_drew] at hz); have hx := hall; (try simp only [allLt, and_true] at hx); (try (have hO := HO.out; replace HO := Lib.hid (Own.below hO (w' := w2) (by exact bel)); clear hO)); obtain ⟨w1, rfl⟩ : ∃ x, x = w2 := ⟨_, rfl⟩; (repeat (go_big_quiet_step (fail))); refine wpQuiet_nil ?_; intro w2 hw'; have hb := grew_below hw'; clear hw'; (first | have hn := nw4 hb hall (by exact zo) | have hn := nw3 hb hall (by exact zo) | have hn := nw2 hb hall (by exact zo) | have hn := nw1 hb hall (by exact zo) | have hn := nw0 hb hall (by exact zo)); obtain ⟨hc, hf, hn, hc0⟩ := hn; replace hall := hn; clear hn; have hz := hb.size; (try simp only [World.size_alloc, World.size_setCell, World.size_drew] at hz); have hx := hall; (try simp only [allLt, and_true] at hx); (try (have hO := HO.out; replace HO := Lib.hid (Own.below hO (w' := w2) (by exact bel)); clear hO)); obtain ⟨w1, rfl⟩ : ∃ x, x = w2 := ⟨_, rfl⟩))
        all_goals go_roundw
        case rel => exact ⟨k + 1, by omega, by go_num, KP.out _ (by simp [b3]) HO.out, by (have hB := HB.out; exact bel), by go_simp, by (try simp only [World.size_alloc]); omega⟩
        case measure => simp [intOf]; omega
    · have hlt' : ¬ (k : Int) < es.length := by omega
      obtain rfl : k = es.length := by omega
      clear hbel
      go_wp2_with (first | (with_reducible refine wp_region_grew2 (by kernel_rfl) (by kernel_rfl) ?_; intro w2 hb; (first | have hn := nw4 hb hall (by exact zo) | have hn := nw3 hb hall (by exact zo) | have hn := nw2 hb hall (by exact zo) | have hn := nw1 hb hall (by exact zo) | have hn := nw0 hb hall (by exact zo)); obtain ⟨hc, hf, hn, hc0⟩ := hn; replace hall := hn; clear hn; have hz := hb.size; (try simp only [World.size_alloc, World.size_setCell, World.size_drew] at hz); have hx := hall; (try simp only [allLt, and_true] at hx); (try (have hO := HO.out; replace HO := Lib.hid (Own.below hO (w' := w2) (by exact bel)); clear hO)); obtain ⟨w1, rfl⟩ : ∃ x, x = w2 := ⟨_, rfl⟩; (repeat (go_big_quiet_step (fail))); refine wpQuiet_nil ?_; intro w2 hw'; have hb := grew_below hw'; clear hw'; (first | have hn := nw4 hb hall (by exact zo) | have hn := nw3 hb hall (by exact zo) | have hn := nw2 hb hall (by exact zo) | have hn := nw1 hb hall (by exact zo) | have hn := nw0 hb hall (by exact zo)); obtain ⟨hc, hf, hn, hc0⟩ := hn; replace hall := hn; clear hn; have hz := hb.size; (try simp only [World.size_alloc, World.size_setCell, World.size_drew] at hz); have hx := hall; (try simp only [allLt, and_true] at hx); (try (have hO := HO.out; replace HO := Lib.hid (Own.below hO (w' := w2) (by exact bel)); clear hO)); obtain ⟨w1, rfl⟩ : ∃ x, x = w2 := ⟨_, rfl⟩))
      go_ret
      have hB := HB.out
      exact ⟨_, rfl, Own.mono HO.out (by omega), by exact bel⟩

end Go.Proofs.YtmblkllijjlkoaaGreat
