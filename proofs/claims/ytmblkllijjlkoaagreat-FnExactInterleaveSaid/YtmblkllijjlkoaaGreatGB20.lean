/-
  Texts put together: KCopy, Clone.
-/
import Derived.Test.YtmblkllijjlkoaaGreatGB13
import Derived.Test.YtmblkllijjlkoaaGreatGB17
import Derived.Test.YtmblkllijjlkoaaGreatGB19
import Derived.Test.YtmblkllijjlkoaaGreatGB16
import Derived.Lib.SliceRun
/-
  Copies of frames, tables, machines, kernels.
-/
set_option linter.unusedVariables false
set_option linter.unusedSimpArgs false
namespace Go.Proofs.YtmblkllijjlkoaaGreat
open Go.RowKit
theorem i_copyInts (v : Value) (xs : List Int) (hs : xs.length ≤ 1048576) (w : World) (ha : IntsAt w v xs) : Calls Tryz.prog 97 #[v] w (NewInts w xs) := by
  have HA := Lib.hid ha
  obtain ⟨ao, ca, rfl, _, _⟩ := ha.shape
  clear ha
  (have hall := all_nil w; go_enter Tryz.func97, Tryz.ntmps97)
  go_wp2_with (first | (at_builtin; refine wpList_appendAll elemInt rfl _ _ rfl lenInt oneInt rfl (Own.empty' _ _ _ (w.heap.size) _ _ (by simp) (by exact zt)) (by exact zt) rfl (HA.out.below (by exact bel)) (by simp only [List.length_nil, maxLen]; omega) ?_; intro v2 w2 hown2 hgr2 hat2 hb; (try simp only [List.nil_append] at hown2); obtain ⟨v2o, v2c, rfl, -, -⟩ := hown2.shape; skip))
  go_ret
  exact ⟨_, rfl, hown2, by exact bel⟩
theorem i_copyTable (v : Value) (es : List Ent) (hs : es.length ≤ 1048576) (w : World) (ha : EntAt w v es) : Calls Tryz.prog 137 #[.agg #[v]] w (NewT w es) := by
  have HA := Lib.hid ha
  obtain ⟨ao, ca, rfl, _, _⟩ := ha.shape
  clear ha
  (have hall := all_nil w; go_enter Tryz.func137, Tryz.ntmps137)
  go_wp2_with (first | (at_builtin; refine wpList_appendAll elemEnt rfl _ _ rfl lenEnt oneEnt rfl (Own.empty' _ _ _ (w.heap.size + 1 + 1) _ _ (by simp) (by exact zt)) (by exact zt) rfl (HA.out.below (by exact bel)) (by simp only [List.length_nil, maxLen]; omega) ?_; intro v2 w2 hown2 hgr2 hat2 hb; (try simp only [List.nil_append] at hown2); obtain ⟨v2o, v2c, rfl, -, -⟩ := hown2.shape; have OE := Lib.hid hown2; clear hown2 hgr2 hat2; have kwa_1_0 : w2.cell? ⟨w.heap.size + 1, 0, none⟩ = some (.slice none 0 0) := kc hb; have fwa_1_0 : w2.frozen? ⟨w.heap.size + 1, 0, none⟩ = false := fc hb; have xwa_1 : w.heap.size + 1 < w2.heap.size := xc hb; have hzwa := hb.size; (try simp only [World.size_alloc, World.size_setCell, World.size_drew] at hzwa); obtain ⟨wa, rfl⟩ : ∃ x, x = w2 := ⟨_, rfl⟩))
  refine bodyPost_ret (v := .agg #[.slice v2o es.length v2c]) (by simp [results, Tryz.results137, go_sem, kwa_1_0, fwa_1_0, xwa_1]) rfl ?_
  exact ⟨_, rfl, by (have hm := Own.mono (B' := w.heap.size + 1 + 1) (OE.out) (by exact zt); refine Own.mono (B := w.heap.size + 1 + 1) ?_ (by exact zt); (repeat (first | with_reducible exact hm | (with_reducible refine Own.offb ?_ (by omega) _) | (with_reducible refine Own.below ?_ ((Below.refl _ _).alloc (Nat.le_refl _) _)) | (with_reducible refine Own.below ?_ (Below.drew (Below.refl _ _))) | (refine Own.below ?_ (by with_reducible assumption))))), by exact bel⟩

theorem s_l06Copy (v : Value) (es : List Ent) (hs : es.length ≤ 1048576) (w : World) (ha : EntAt w v es) : Calls Tryz.prog 128 #[.agg #[v]] w (NewT w es) := by
  have HA := Lib.hid ha
  obtain ⟨ao, ca, rfl, _, _⟩ := ha.shape
  clear ha
  (have hall := all_nil w; go_enter Tryz.func128, Tryz.ntmps128)
  go_wp2_with (first | (at_builtin; refine wpList_appendAll elemEnt rfl _ _ rfl lenEnt oneEnt rfl (Own.empty' _ _ _ (w.heap.size + 1 + 1) _ _ (by simp) (by exact zt)) (by exact zt) rfl (HA.out.below (by exact bel)) (by simp only [List.length_nil, maxLen]; omega) ?_; intro v2 w2 hown2 hgr2 hat2 hb; (try simp only [List.nil_append] at hown2); obtain ⟨v2o, v2c, rfl, -, -⟩ := hown2.shape; have OE := Lib.hid hown2; clear hown2 hgr2 hat2; have kwa_1_0 : w2.cell? ⟨w.heap.size + 1, 0, none⟩ = some (.slice none 0 0) := kc hb; have fwa_1_0 : w2.frozen? ⟨w.heap.size + 1, 0, none⟩ = false := fc hb; have xwa_1 : w.heap.size + 1 < w2.heap.size := xc hb; have hzwa := hb.size; (try simp only [World.size_alloc, World.size_setCell, World.size_drew] at hzwa); obtain ⟨wa, rfl⟩ : ∃ x, x = w2 := ⟨_, rfl⟩))
  refine bodyPost_ret (v := .agg #[.slice v2o es.length v2c]) (by simp [results, Tryz.results128, go_sem, kwa_1_0, fwa_1_0, xwa_1]) rfl ?_
  exact ⟨_, rfl, by (have hm := Own.mono (B' := w.heap.size + 1 + 1) (OE.out) (by exact zt); refine Own.mono (B := w.heap.size + 1 + 1) ?_ (by exact zt); (repeat (first | with_reducible exact hm | (with_reducible refine Own.offb ?_ (by omega) _) | (with_reducible refine Own.below ?_ ((Below.refl _ _).alloc (Nat.le_refl _) _)) | (with_reducible refine Own.below ?_ (Below.drew (Below.refl _ _))) | (refine Own.below ?_ (by with_reducible assumption))))), by exact bel⟩

end Go.Proofs.YtmblkllijjlkoaaGreat
/-
  slices.Clone at []int; copies of plans and jobs.
-/
set_option linter.unusedVariables false
set_option linter.unusedSimpArgs false
namespace Go.Proofs.YtmblkllijjlkoaaGreat
open Go.RowKit
theorem l_Clone (v : Value) (xs : List Int) (hs : xs.length ≤ 1048576) (w : World) (ha : IntsAt w v xs) : Calls Tryz.prog 156 #[v] w (NewInts w xs) := by
  have HA := Lib.hid ha
  obtain ⟨ao, ca, rfl, _, _, hrd⟩ := IntsAt.open ha
  clear ha
  have qT : ∀ (w : World) (a : Option Addr) (n c n' c' : Nat), (binOp .eql 31 (.slice a n c) (.slice none n' c')).run Tryz.prog w = .ok (.bool a.isNone) w := fun w a n c n' c' => Lib.run_eql_slice_nil w _ _ a n c n' c' Tryz.underlying31
  rcases ao with _ | a
  · obtain rfl : xs = [] := by
      cases xs with
      | nil => rfl
      | cons x r => obtain ⟨g, o, h, _⟩ := hrd 0 x rfl; cases h
    clear hrd HA
    (have hall := all_nil w; go_enter Tryz.func156, Tryz.ntmps156)
    go_wp2_with fail
    go_ret
    exact ⟨_, rfl, Own.nil _ _ _ _ _, by exact bel⟩
  · clear hrd
    (have hall := all_nil w; go_enter Tryz.func156, Tryz.ntmps156)
    go_wp2_with (first | (at_builtin; refine wpList_appendAll elemInt rfl _ _ rfl lenInt oneInt rfl (Own.empty' _ _ _ (w.heap.size) _ _ (by simp) (by exact zt)) (by exact zt) rfl (HA.out.below (by exact bel)) (by simp only [List.length_nil, maxLen]; omega) ?_; intro v2 w2 hown2 hgr2 hat2 hb; (try simp only [List.nil_append] at hown2); obtain ⟨v2o, v2c, rfl, -, -⟩ := hown2.shape; skip))
    go_ret
    exact ⟨_, rfl, hown2, by exact bel⟩
theorem i_copyPlan (kp mv : Int) (v : Value) (cs : List Int) (hs : cs.length ≤ 1048576) (w : World) (ha : IntsAt w v cs) : Calls Tryz.prog 116 #[.agg #[.int .i64 kp, .int .i64 mv, v]] w (NewP w kp mv cs) := by
  have HA := Lib.hid ha
  obtain ⟨ao, ca, rfl, _, _⟩ := ha.shape
  clear ha
  (have hall := all_nil w; go_enter Tryz.func116, Tryz.ntmps116)
  go_wp2_with (first | (go_at_call 156; (refine (l_Clone _ cs hs _ (HA.out.below (by exact bel))).mono ?_; rintro e w2 ⟨e', rfl, heo, hb⟩; obtain ⟨eo, ec, rfl, -, -⟩ := heo.shape; have OE := Lib.hid heo; have HB1 := Lib.hid hb; obtain ⟨kwa_0_0, fwa_0_0, kwa_0_1, fwa_0_1, kwa_0_2, fwa_0_2⟩ := kf3 hb (w.heap.size) (.int .i64 kp) (.int .i64 mv) (.slice ao cs.length ca); obtain ⟨kwa_1_0, fwa_1_0, kwa_1_1, fwa_1_1, kwa_1_2, fwa_1_2⟩ := kf3 hb (w.heap.size + 1) (.int .i64 0) (.int .i64 0) (.slice none 0 0); have xwa_0 : w.heap.size < w2.heap.size := xc hb; have xwa_1 : w.heap.size + 1 < w2.heap.size := xc hb; have hzwa := hb.size; (try simp only [World.size_alloc, World.size_setCell, World.size_drew] at hzwa); clear heo; obtain ⟨wa, rfl⟩ : ∃ x, x = w2 := ⟨_, rfl⟩)) | (with_reducible refine wp_region_grew2 (by kernel_rfl) (by kernel_rfl) ?_; intro w2 hb; (first | have hn := nw4 hb hall (by exact zo) | have hn := nw3 hb hall (by exact zo) | have hn := nw2 hb hall (by exact zo) | have hn := nw1 hb hall (by exact zo) | have hn := nw0 hb hall (by exact zo)); obtain ⟨hc, hf, hn, hc0⟩ := hn; replace hall := hn; clear hn; have hz := hb.size; (try simp only [World.size_alloc, World.size_setCell, World.size_drew] at hz); have hx := hall; (try simp only [allLt, and_true] at hx); obtain ⟨w1, rfl⟩ : ∃ x, x = w2 := ⟨_, rfl⟩; (repeat (go_big_quiet_step (fail))); refine wpQuiet_nil ?_; intro w2 hw'; have hb := grew_below hw'; clear hw'; (first | have hn := nw4 hb hall (by exact zo) | have hn := nw3 hb hall (by exact zo) | have hn := nw2 hb hall (by exact zo) | have hn := nw1 hb hall (by exact zo) | have hn := nw0 hb hall (by exact zo)); obtain ⟨hc, hf, hn, hc0⟩ := hn; replace hall := hn; clear hn; have hz := hb.size; (try simp only [World.size_alloc, World.size_setCell, World.size_drew] at hz); have hx := hall; (try simp only [allLt, and_true] at hx); obtain ⟨w1, rfl⟩ : ∃ x, x = w2 := ⟨_, rfl⟩))
  refine bodyPost_ret (v := .agg #[.int .i64 kp, .int .i64 mv, .slice eo cs.length ec]) (by simp [results, Tryz.results116, go_sem, kwa_0_0, fwa_0_0, kwa_0_1, fwa_0_1, kwa_0_2, fwa_0_2, xwa_0, kwa_1_0, fwa_1_0, kwa_1_1, fwa_1_1, kwa_1_2, fwa_1_2, xwa_1]) rfl ?_
  have hB1 := HB1.out
  exact ⟨_, rfl, by (have hm := Own.mono (B' := w.heap.size + 1 + 1) (OE.out) (by exact zt); refine Own.mono (B := w.heap.size + 1 + 1) ?_ (by exact zt); (repeat (first | with_reducible exact hm | (with_reducible refine Own.offb ?_ (by omega) _) | (with_reducible refine Own.below ?_ ((Below.refl _ _).alloc (Nat.le_refl _) _)) | (with_reducible refine Own.below ?_ (Below.drew (Below.refl _ _))) | (refine Own.below ?_ (by with_reducible assumption))))), by exact bel⟩
theorem s_l14Copy (kp mv : Int) (v : Value) (cs : List Int) (ph nx : Int) (hs : cs.length ≤ 1048576) (w : World) (ha : IntsAt w v cs) : Calls Tryz.prog 64 #[.agg #[.int .i64 kp, .int .i64 mv, v, .int .i64 ph, .int .i64 nx]] w (NewJ w kp mv cs ph nx) := by
  have HA := Lib.hid ha
  obtain ⟨ao, ca, rfl, _, _⟩ := ha.shape
  clear ha
  (have hall := all_nil w; go_enter Tryz.func64, Tryz.ntmps64)
  go_wp2_with (first | (at_builtin; refine wpList_appendAll elemInt rfl _ _ rfl lenInt oneInt rfl (Own.empty' _ _ _ (w.heap.size + 1 + 1) _ _ (by simp) (by exact zt)) (by exact zt) rfl (HA.out.below (by exact bel)) (by simp only [List.length_nil, maxLen]; omega) ?_; intro v2 w2 hown2 hgr2 hat2 hb; (try simp only [List.nil_append] at hown2); obtain ⟨v2o, v2c, rfl, -, -⟩ := hown2.shape; have OE := Lib.hid hown2; have HB1 := Lib.hid hb; clear hown2 hgr2 hat2; obtain ⟨kwa_0_0, fwa_0_0, kwa_0_1, fwa_0_1, kwa_0_2, fwa_0_2, kwa_0_3, fwa_0_3, kwa_0_4, fwa_0_4⟩ := kf5 hb (w.heap.size) (.int .i64 kp) (.int .i64 mv) (.slice ao cs.length ca) (.int .i64 ph) (.int .i64 nx); obtain ⟨kwa_1_0, fwa_1_0, kwa_1_1, fwa_1_1, kwa_1_2, fwa_1_2, kwa_1_3, fwa_1_3, kwa_1_4, fwa_1_4⟩ := kf5 hb (w.heap.size + 1) (.int .i64 0) (.int .i64 0) (.slice none 0 0) (.int .i64 0) (.int .i64 0); have xwa_0 : w.heap.size < w2.heap.size := xc hb; have xwa_1 : w.heap.size + 1 < w2.heap.size := xc hb; have hzwa := hb.size; (try simp only [World.size_alloc, World.size_setCell, World.size_drew] at hzwa); obtain ⟨wa, rfl⟩ : ∃ x, x = w2 := ⟨_, rfl⟩))
  refine bodyPost_ret (v := .agg #[.int .i64 kp, .int .i64 mv, .slice v2o cs.length v2c, .int .i64 ph, .int .i64 nx]) (by simp [results, Tryz.results64, go_sem, kwa_0_0, fwa_0_0, kwa_0_1, fwa_0_1, kwa_0_2, fwa_0_2, kwa_0_3, fwa_0_3, kwa_0_4, fwa_0_4, xwa_0, kwa_1_0, fwa_1_0, kwa_1_1, fwa_1_1, kwa_1_2, fwa_1_2, kwa_1_3, fwa_1_3, kwa_1_4, fwa_1_4, xwa_1]) rfl ?_
  have hB1 := HB1.out
  exact ⟨_, rfl, by (have hm := Own.mono (B' := w.heap.size + 1 + 1) (OE.out) (by exact zt); refine Own.mono (B := w.heap.size + 1 + 1) ?_ (by exact zt); (repeat (first | with_reducible exact hm | (with_reducible refine Own.offb ?_ (by omega) _) | (with_reducible refine Own.below ?_ ((Below.refl _ _).alloc (Nat.le_refl _) _)) | (with_reducible refine Own.below ?_ (Below.drew (Below.refl _ _))) | (refine Own.below ?_ (by with_reducible assumption))))), by exact bel⟩
end Go.Proofs.YtmblkllijjlkoaaGreat
