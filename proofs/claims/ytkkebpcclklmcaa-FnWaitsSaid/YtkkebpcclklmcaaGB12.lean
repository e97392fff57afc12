/-
  Texts put together: KRead, KCopy, Clone.
-/
import Derived.Test.YtkkebpcclklmcaaGB11
import Derived.Test.YtkkebpcclklmcaaGB7
import Derived.Test.YtkkebpcclklmcaaGB9
import Derived.Lib.SliceRun
/-
  May a kernel be called? Is a page mapped?
-/
set_option linter.unusedVariables false
set_option linter.unusedSimpArgs false
namespace Go.Proofs.Ytkkebpcclklmcaa
open Go.RowKit
theorem field_ent0 (w : World) (a b : Int) : (Instr.field 52 (.agg #[.int .i64 a, .int .i64 b]) 0).run Try.prog w = .ok (.int .i64 a) w := by kernel_rfl
theorem field_ent1 (w : World) (a b : Int) : (Instr.field 52 (.agg #[.int .i64 a, .int .i64 b]) 1).run Try.prog w = .ok (.int .i64 b) w := by kernel_rfl
attribute [go_sem] field_ent0 field_ent1
def mappedB (es : List Ent) (p : Int) : Bool := (pageEntry es p).m != 0
theorem canCall_lt {K : Ker} (h : kernelOk K = true) : canCall K = decide (K.calls < 100000) := by
  have hc : 0 ≤ K.calls ∧ K.calls ≤ 100000 := by
    rw [kernelOk_eq] at h; simp only [Bool.and_eq_true, between_iff] at h; exact h.1.1.2
  unfold canCall
  rw [h, Bool.and_true]
  by_cases e : K.calls = 100000
  · simp [e]
  · have : K.calls < 100000 := by omega
    simp [e, this]
theorem canCall_not {K : Ker} (h : kernelOk K = false) : canCall K = false := by unfold canCall; rw [h, Bool.and_false]
theorem i_canCall (x : KV) (K : Ker) (r : Bool) (hr : canCall K = r) (w : World) (ha : KAt w x K) : Calls Try.prog 66 #[x.val K.calls] w fun e w' => e = .returned (.bool r) ∧ Below w.heap.size w w' := by
  subst hr
  have HK := Lib.hid ha
  clear ha
  simp only [KV.val]
  cases h1 : kernelOk K
  all_goals have H1 := Lib.hid h1
  all_goals rcases eqc K.calls 100000 with ⟨b1, b2⟩ | ⟨b1, b2⟩
  all_goals (have hall := all_nil w; go_enter Try.func66, Try.ntmps66)
  all_goals go_wp2_with (first | (go_at_call 16; (refine (i_KernelOk x K _ H1.out _ (HK.out.below (by exact bel))).mono ?_; rintro e w2 ⟨rfl, hb⟩; (first | have hn := nw4 hb hall (by exact zo) | have hn := nw3 hb hall (by exact zo) | have hn := nw2 hb hall (by exact zo) | have hn := nw1 hb hall (by exact zo) | have hn := nw0 hb hall (by exact zo)); obtain ⟨hc, hf, hn, hc0⟩ := hn; replace hall := hn; clear hn; have hz := hb.size; (try simp only [World.size_alloc, World.size_setCell, World.size_drew] at hz); have hx := hall; (try simp only [allLt, and_true] at hx); obtain ⟨w1, rfl⟩ : ∃ x, x = w2 := ⟨_, rfl⟩)) | (with_reducible refine wp_region_grew2 (by kernel_rfl) (by kernel_rfl) ?_; intro w2 hb; (first | have hn := nw4 hb hall (by exact zo) | have hn := nw3 hb hall (by exact zo) | have hn := nw2 hb hall (by exact zo) | have hn := nw1 hb hall (by exact zo) | have hn := nw0 hb hall (by exact zo)); obtain ⟨hc, hf, hn, hc0⟩ := hn; replace hall := hn; clear hn; have hz := hb.size; (try simp only [World.size_alloc, World.size_setCell, World.size_drew] at hz); have hx := hall; (try simp only [allLt, and_true] at hx); obtain ⟨w1, rfl⟩ : ∃ x, x = w2 := ⟨_, rfl⟩; (repeat (go_big_quiet_step (fail))); refine wpQuiet_nil ?_; intro w2 hw'; have hb := grew_below hw'; clear hw'; (first | have hn := nw4 hb hall (by exact zo) | have hn := nw3 hb hall (by exact zo) | have hn := nw2 hb hall (by exact zo) | have hn := nw1 hb hall (by exact zo) | have hn := nw0 hb hall (by exact zo)); obtain ⟨hc, hf, hn, hc0⟩ := hn; replace hall := hn; clear hn; have hz := hb.size; (try simp only [World.size_alloc, World.size_setCell, World.size_drew] at hz); have hx := hall; (try simp only [allLt, and_true] at hx); obtain ⟨w1, rfl⟩ : ∃ x, x = w2 := ⟨_, rfl⟩))
  all_goals go_ret
  all_goals exact ⟨by rw [canCall, b2, h1]; rfl, by exact bel⟩
theorem i_mapped (x : KV) (K : Ker) (p : Int) (r : Bool) (hr : mappedB K.m.ents p = r) (w : World) (ha : KAt w x K) : Calls Try.prog 67 #[x.val K.calls, .int .i64 p] w fun e w' => e = .returned (.bool r) ∧ Below w.heap.size w w' := by
  subst hr
  have PE := Lib.hid (fun W (hW : Below w.heap.size w W) => i_PageEntry x.m.e K.m.ents p W (ha.m.ents.below hW))
  clear ha
  simp only [KV.val]
  unfold mappedB
  generalize pageEntry K.m.ents p = pe at *
  obtain ⟨pm, pf⟩ := pe
  dsimp only at PE ⊢
  rcases eqc pm 0 with ⟨b1, b2⟩ | ⟨b1, b2⟩
  all_goals (have hall := all_nil w; go_enter Try.func67, Try.ntmps67)
  all_goals go_wp2_with (first | (go_at_call 50; (refine (PE.out _ (by exact bel)).mono ?_; rintro e w2 ⟨rfl, hb⟩; (first | have hn := nw4 hb hall (by exact zo) | have hn := nw3 hb hall (by exact zo) | have hn := nw2 hb hall (by exact zo) | have hn := nw1 hb hall (by exact zo) | have hn := nw0 hb hall (by exact zo)); obtain ⟨hc, hf, hn, hc0⟩ := hn; replace hall := hn; clear hn; have hz := hb.size; (try simp only [World.size_alloc, World.size_setCell, World.size_drew] at hz); have hx := hall; (try simp only [allLt, and_true] at hx); obtain ⟨w1, rfl⟩ : ∃ x, x = w2 := ⟨_, rfl⟩)) | (with_reducible refine wp_region_grew2 (by kernel_rfl) (by kernel_rfl) ?_; intro w2 hb; (first | have hn := nw4 hb hall (by exact zo) | have hn := nw3 hb hall (by exact zo) | have hn := nw2 hb hall (by exact zo) | have hn := nw1 hb hall (by exact zo) | have hn := nw0 hb hall (by exact zo)); obtain ⟨hc, hf, hn, hc0⟩ := hn; replace hall := hn; clear hn; have hz := hb.size; (try simp only [World.size_alloc, World.size_setCell, World.size_drew] at hz); have hx := hall; (try simp only [allLt, and_true] at hx); obtain ⟨w1, rfl⟩ : ∃ x, x = w2 := ⟨_, rfl⟩; (repeat (go_big_quiet_step (fail))); refine wpQuiet_nil ?_; intro w2 hw'; have hb := grew_below hw'; clear hw'; (first | have hn := nw4 hb hall (by exact zo) | have hn := nw3 hb hall (by exact zo) | have hn := nw2 hb hall (by exact zo) | have hn := nw1 hb hall (by exact zo) | have hn := nw0 hb hall (by exact zo)); obtain ⟨hc, hf, hn, hc0⟩ := hn; replace hall := hn; clear hn; have hz := hb.size; (try simp only [World.size_alloc, World.size_setCell, World.size_drew] at hz); have hx := hall; (try simp only [allLt, and_true] at hx); obtain ⟨w1, rfl⟩ : ∃ x, x = w2 := ⟨_, rfl⟩))
  all_goals go_ret
  all_goals exact ⟨by rw [b2]; rfl, by exact bel⟩
theorem s_l08Mode (g : Nat) (e : Value) (es : List Ent) (p : Int) (w : World) (hg : g < w.heap.size) (h2 : w.cell? ⟨g, 2, none⟩ = some e) (ha : EntAt w e es) : Calls Try.prog 84 #[.pointer (some ⟨g, 0, none⟩), .int .i64 p] w fun e w' => e = .returned (.int .i64 (pageEntry es p).m) ∧ Below w.heap.size w w' := by
  have PE := Lib.hid (fun W (hW : Below w.heap.size w W) => s_PageEntry e es p W (ha.below hW))
  clear ha
  generalize pageEntry es p = pe at *
  obtain ⟨pm, pf⟩ := pe
  dsimp only at PE ⊢
  (have hall := all_nil w; go_enter Try.func84, Try.ntmps84)
  go_wp2_with (first | (go_at_call 18; (refine (PE.out _ (by exact bel)).mono ?_; rintro e w2 ⟨rfl, hb⟩; (first | have hn := nw4 hb hall (by exact zo) | have hn := nw3 hb hall (by exact zo) | have hn := nw2 hb hall (by exact zo) | have hn := nw1 hb hall (by exact zo) | have hn := nw0 hb hall (by exact zo)); obtain ⟨hc, hf, hn, hc0⟩ := hn; replace hall := hn; clear hn; have hz := hb.size; (try simp only [World.size_alloc, World.size_setCell, World.size_drew] at hz); have hx := hall; (try simp only [allLt, and_true] at hx); obtain ⟨w1, rfl⟩ : ∃ x, x = w2 := ⟨_, rfl⟩)) | (with_reducible refine wp_region_grew2 (by kernel_rfl) (by kernel_rfl) ?_; intro w2 hb; (first | have hn := nw4 hb hall (by exact zo) | have hn := nw3 hb hall (by exact zo) | have hn := nw2 hb hall (by exact zo) | have hn := nw1 hb hall (by exact zo) | have hn := nw0 hb hall (by exact zo)); obtain ⟨hc, hf, hn, hc0⟩ := hn; replace hall := hn; clear hn; have hz := hb.size; (try simp only [World.size_alloc, World.size_setCell, World.size_drew] at hz); have hx := hall; (try simp only [allLt, and_true] at hx); obtain ⟨w1, rfl⟩ : ∃ x, x = w2 := ⟨_, rfl⟩; (repeat (go_big_quiet_step (fail))); refine wpQuiet_nil ?_; intro w2 hw'; have hb := grew_below hw'; clear hw'; (first | have hn := nw4 hb hall (by exact zo) | have hn := nw3 hb hall (by exact zo) | have hn := nw2 hb hall (by exact zo) | have hn := nw1 hb hall (by exact zo) | have hn := nw0 hb hall (by exact zo)); obtain ⟨hc, hf, hn, hc0⟩ := hn; replace hall := hn; clear hn; have hz := hb.size; (try simp only [World.size_alloc, World.size_setCell, World.size_drew] at hz); have hx := hall; (try simp only [allLt, and_true] at hx); obtain ⟨w1, rfl⟩ : ∃ x, x = w2 := ⟨_, rfl⟩))
  go_ret
  exact ⟨rfl, by exact bel⟩
end Go.Proofs.Ytkkebpcclklmcaa
/-
  Copies of frames, tables, machines, kernels.
-/
set_option linter.unusedVariables false
set_option linter.unusedSimpArgs false
namespace Go.Proofs.Ytkkebpcclklmcaa
open Go.RowKit
theorem i_copyInts (v : Value) (xs : List Int) (hs : xs.length ≤ 1048576) (w : World) (ha : IntsAt w v xs) : Calls Try.prog 51 #[v] w (NewInts w xs) := by
  have HA := Lib.hid ha
  obtain ⟨ao, ca, rfl, _, _⟩ := ha.shape
  clear ha
  (have hall := all_nil w; go_enter Try.func51, Try.ntmps51)
  go_wp2_with (first | (at_builtin; refine wpList_appendAll elemInt rfl _ _ rfl lenInt oneInt rfl (Own.empty' _ _ _ (w.heap.size) _ _ (by simp) (by exact zt)) (by exact zt) rfl (HA.out.below (by exact bel)) (by simp only [List.length_nil, maxLen]; omega) ?_; intro v2 w2 hown2 hgr2 hat2 hb; (try simp only [List.nil_append] at hown2); obtain ⟨v2o, v2c, rfl, -, -⟩ := hown2.shape; skip))
  go_ret
  exact ⟨_, rfl, hown2, by exact bel⟩
theorem i_copyTable (v : Value) (es : List Ent) (hs : es.length ≤ 1048576) (w : World) (ha : EntAt w v es) : Calls Try.prog 87 #[.agg #[v]] w (NewT w es) := by
  have HA := Lib.hid ha
  obtain ⟨ao, ca, rfl, _, _⟩ := ha.shape
  clear ha
  (have hall := all_nil w; go_enter Try.func87, Try.ntmps87)
  go_wp2_with (first | (at_builtin; refine wpList_appendAll elemEnt rfl _ _ rfl lenEnt oneEnt rfl (Own.empty' _ _ _ (w.heap.size + 1 + 1) _ _ (by simp) (by exact zt)) (by exact zt) rfl (HA.out.below (by exact bel)) (by simp only [List.length_nil, maxLen]; omega) ?_; intro v2 w2 hown2 hgr2 hat2 hb; (try simp only [List.nil_append] at hown2); obtain ⟨v2o, v2c, rfl, -, -⟩ := hown2.shape; have OE := Lib.hid hown2; clear hown2 hgr2 hat2; have kwa_1_0 : w2.cell? ⟨w.heap.size + 1, 0, none⟩ = some (.slice none 0 0) := kc hb; have fwa_1_0 : w2.frozen? ⟨w.heap.size + 1, 0, none⟩ = false := fc hb; have xwa_1 : w.heap.size + 1 < w2.heap.size := xc hb; have hzwa := hb.size; (try simp only [World.size_alloc, World.size_setCell, World.size_drew] at hzwa); obtain ⟨wa, rfl⟩ : ∃ x, x = w2 := ⟨_, rfl⟩))
  refine bodyPost_ret (v := .agg #[.slice v2o es.length v2c]) (by simp [results, Try.results87, go_sem, kwa_1_0, fwa_1_0, xwa_1]) rfl ?_
  exact ⟨_, rfl, by (have hm := Own.mono (B' := w.heap.size + 1 + 1) (OE.out) (by exact zt); refine Own.mono (B := w.heap.size + 1 + 1) ?_ (by exact zt); (repeat (first | with_reducible exact hm | (with_reducible refine Own.offb ?_ (by omega) _) | (with_reducible refine Own.below ?_ ((Below.refl _ _).alloc (Nat.le_refl _) _)) | (with_reducible refine Own.below ?_ (Below.drew (Below.refl _ _))) | (refine Own.below ?_ (by with_reducible assumption))))), by exact bel⟩

theorem s_l06Copy (v : Value) (es : List Ent) (hs : es.length ≤ 1048576) (w : World) (ha : EntAt w v es) : Calls Try.prog 93 #[.agg #[v]] w (NewT w es) := by
  have HA := Lib.hid ha
  obtain ⟨ao, ca, rfl, _, _⟩ := ha.shape
  clear ha
  (have hall := all_nil w; go_enter Try.func93, Try.ntmps93)
  go_wp2_with (first | (at_builtin; refine wpList_appendAll elemEnt rfl _ _ rfl lenEnt oneEnt rfl (Own.empty' _ _ _ (w.heap.size + 1 + 1) _ _ (by simp) (by exact zt)) (by exact zt) rfl (HA.out.below (by exact bel)) (by simp only [List.length_nil, maxLen]; omega) ?_; intro v2 w2 hown2 hgr2 hat2 hb; (try simp only [List.nil_append] at hown2); obtain ⟨v2o, v2c, rfl, -, -⟩ := hown2.shape; have OE := Lib.hid hown2; clear hown2 hgr2 hat2; have kwa_1_0 : w2.cell? ⟨w.heap.size + 1, 0, none⟩ = some (.slice none 0 0) := kc hb; have fwa_1_0 : w2.frozen? ⟨w.heap.size + 1, 0, none⟩ = false := fc hb; have xwa_1 : w.heap.size + 1 < w2.heap.size := xc hb; have hzwa := hb.size; (try simp only [World.size_alloc, World.size_setCell, World.size_drew] at hzwa); obtain ⟨wa, rfl⟩ : ∃ x, x = w2 := ⟨_, rfl⟩))
  refine bodyPost_ret (v := .agg #[.slice v2o es.length v2c]) (by simp [results, Try.results93, go_sem, kwa_1_0, fwa_1_0, xwa_1]) rfl ?_
  exact ⟨_, rfl, by (have hm := Own.mono (B' := w.heap.size + 1 + 1) (OE.out) (by exact zt); refine Own.mono (B := w.heap.size + 1 + 1) ?_ (by exact zt); (repeat (first | with_reducible exact hm | (with_reducible refine Own.offb ?_ (by omega) _) | (with_reducible refine Own.below ?_ ((Below.refl _ _).alloc (Nat.le_refl _) _)) | (with_reducible refine Own.below ?_ (Below.drew (Below.refl _ _))) | (refine Own.below ?_ (by with_reducible assumption))))), by exact bel⟩

end Go.Proofs.Ytkkebpcclklmcaa
/-
  slices.Clone at []int; copies of plans and jobs.
-/
set_option linter.unusedVariables false
set_option linter.unusedSimpArgs false
namespace Go.Proofs.Ytkkebpcclklmcaa
open Go.RowKit
theorem l_Clone (v : Value) (xs : List Int) (hs : xs.length ≤ 1048576) (w : World) (ha : IntsAt w v xs) : Calls Try.prog 77 #[v] w (NewInts w xs) := by
  have HA := Lib.hid ha
  obtain ⟨ao, ca, rfl, _, _, hrd⟩ := IntsAt.open ha
  clear ha
  have qT : ∀ (w : World) (a : Option Addr) (n c n' c' : Nat), (binOp .eql 33 (.slice a n c) (.slice none n' c')).run Try.prog w = .ok (.bool a.isNone) w := fun w a n c n' c' => Lib.run_eql_slice_nil w _ _ a n c n' c' Try.underlying33
  rcases ao with _ | a
  · obtain rfl : xs = [] := by
      cases xs with
      | nil => rfl
      | cons x r => obtain ⟨g, o, h, _⟩ := hrd 0 x rfl; cases h
    clear hrd HA
    (have hall := all_nil w; go_enter Try.func77, Try.ntmps77)
    go_wp2_with fail
    go_ret
    exact ⟨_, rfl, Own.nil _ _ _ _ _, by exact bel⟩
  · clear hrd
    (have hall := all_nil w; go_enter Try.func77, Try.ntmps77)
    go_wp2_with (first | (at_builtin; refine wpList_appendAll elemInt rfl _ _ rfl lenInt oneInt rfl (Own.empty' _ _ _ (w.heap.size) _ _ (by simp) (by exact zt)) (by exact zt) rfl (HA.out.below (by exact bel)) (by simp only [List.length_nil, maxLen]; omega) ?_; intro v2 w2 hown2 hgr2 hat2 hb; (try simp only [List.nil_append] at hown2); obtain ⟨v2o, v2c, rfl, -, -⟩ := hown2.shape; skip))
    go_ret
    exact ⟨_, rfl, hown2, by exact bel⟩
theorem i_copyPlan (kp mv : Int) (v : Value) (cs : List Int) (hs : cs.length ≤ 1048576) (w : World) (ha : IntsAt w v cs) : Calls Try.prog 46 #[.agg #[.int .i64 kp, .int .i64 mv, v]] w (NewP w kp mv cs) := by
  have HA := Lib.hid ha
  obtain ⟨ao, ca, rfl, _, _⟩ := ha.shape
  clear ha
  (have hall := all_nil w; go_enter Try.func46, Try.ntmps46)
  go_wp2_with (first | (go_at_call 77; (refine (l_Clone _ cs hs _ (HA.out.below (by exact bel))).mono ?_; rintro e w2 ⟨e', rfl, heo, hb⟩; obtain ⟨eo, ec, rfl, -, -⟩ := heo.shape; have OE := Lib.hid heo; have HB1 := Lib.hid hb; obtain ⟨kwa_0_0, fwa_0_0, kwa_0_1, fwa_0_1, kwa_0_2, fwa_0_2⟩ := kf3 hb (w.heap.size) (.int .i64 kp) (.int .i64 mv) (.slice ao cs.length ca); obtain ⟨kwa_1_0, fwa_1_0, kwa_1_1, fwa_1_1, kwa_1_2, fwa_1_2⟩ := kf3 hb (w.heap.size + 1) (.int .i64 0) (.int .i64 0) (.slice none 0 0); have xwa_0 : w.heap.size < w2.heap.size := xc hb; have xwa_1 : w.heap.size + 1 < w2.heap.size := xc hb; have hzwa := hb.size; (try simp only [World.size_alloc, World.size_setCell, World.size_drew] at hzwa); clear heo; obtain ⟨wa, rfl⟩ : ∃ x, x = w2 := ⟨_, rfl⟩)) | (with_reducible refine wp_region_grew2 (by kernel_rfl) (by kernel_rfl) ?_; intro w2 hb; (first | have hn := nw4 hb hall (by exact zo) | have hn := nw3 hb hall (by exact zo) | have hn := nw2 hb hall (by exact zo) | have hn := nw1 hb hall (by exact zo) | have hn := nw0 hb hall (by exact zo)); obtain ⟨hc, hf, hn, hc0⟩ := hn; replace hall := hn; clear hn; have hz := hb.size; (try simp only [World.size_alloc, World.size_setCell, World.size_drew] at hz); have hx := hall; (try simp only [allLt, and_true] at hx); obtain ⟨w1, rfl⟩ : ∃ x, x = w2 := ⟨_, rfl⟩; (repeat (go_big_quiet_step (fail))); refine wpQuiet_nil ?_; intro w2 hw'; have hb := grew_below hw'; clear hw'; (first | have hn := nw4 hb hall (by exact zo) | have hn := nw3 hb hall (by exact zo) | have hn := nw2 hb hall (by exact zo) | have hn := nw1 hb hall (by exact zo) | have hn := nw0 hb hall (by exact zo)); obtain ⟨hc, hf, hn, hc0⟩ := hn; replace hall := hn; clear hn; have hz := hb.size; (try simp only [World.size_alloc, World.size_setCell, World.size_drew] at hz); have hx := hall; (try simp only [allLt, and_true] at hx); obtain ⟨w1, rfl⟩ : ∃ x, x = w2 := ⟨_, rfl⟩))
  refine bodyPost_ret (v := .agg #[.int .i64 kp, .int .i64 mv, .slice eo cs.length ec]) (by simp [results, Try.results46, go_sem, kwa_0_0, fwa_0_0, kwa_0_1, fwa_0_1, kwa_0_2, fwa_0_2, xwa_0, kwa_1_0, fwa_1_0, kwa_1_1, fwa_1_1, kwa_1_2, fwa_1_2, xwa_1]) rfl ?_
  have hB1 := HB1.out
  exact ⟨_, rfl, by (have hm := Own.mono (B' := w.heap.size + 1 + 1) (OE.out) (by exact zt); refine Own.mono (B := w.heap.size + 1 + 1) ?_ (by exact zt); (repeat (first | with_reducible exact hm | (with_reducible refine Own.offb ?_ (by omega) _) | (with_reducible refine Own.below ?_ ((Below.refl _ _).alloc (Nat.le_refl _) _)) | (with_reducible refine Own.below ?_ (Below.drew (Below.refl _ _))) | (refine Own.below ?_ (by with_reducible assumption))))), by exact bel⟩
theorem s_l14Copy (kp mv : Int) (v : Value) (cs : List Int) (ph nx : Int) (hs : cs.length ≤ 1048576) (w : World) (ha : IntsAt w v cs) : Calls Try.prog 36 #[.agg #[.int .i64 kp, .int .i64 mv, v, .int .i64 ph, .int .i64 nx]] w (NewJ w kp mv cs ph nx) := by
  have HA := Lib.hid ha
  obtain ⟨ao, ca, rfl, _, _⟩ := ha.shape
  clear ha
  (have hall := all_nil w; go_enter Try.func36, Try.ntmps36)
  go_wp2_with (first | (at_builtin; refine wpList_appendAll elemInt rfl _ _ rfl lenInt oneInt rfl (Own.empty' _ _ _ (w.heap.size + 1 + 1) _ _ (by simp) (by exact zt)) (by exact zt) rfl (HA.out.below (by exact bel)) (by simp only [List.length_nil, maxLen]; omega) ?_; intro v2 w2 hown2 hgr2 hat2 hb; (try simp only [List.nil_append] at hown2); obtain ⟨v2o, v2c, rfl, -, -⟩ := hown2.shape; have OE := Lib.hid hown2; have HB1 := Lib.hid hb; clear hown2 hgr2 hat2; obtain ⟨kwa_0_0, fwa_0_0, kwa_0_1, fwa_0_1, kwa_0_2, fwa_0_2, kwa_0_3, fwa_0_3, kwa_0_4, fwa_0_4⟩ := kf5 hb (w.heap.size) (.int .i64 kp) (.int .i64 mv) (.slice ao cs.length ca) (.int .i64 ph) (.int .i64 nx); obtain ⟨kwa_1_0, fwa_1_0, kwa_1_1, fwa_1_1, kwa_1_2, fwa_1_2, kwa_1_3, fwa_1_3, kwa_1_4, fwa_1_4⟩ := kf5 hb (w.heap.size + 1) (.int .i64 0) (.int .i64 0) (.slice none 0 0) (.int .i64 0) (.int .i64 0); have xwa_0 : w.heap.size < w2.heap.size := xc hb; have xwa_1 : w.heap.size + 1 < w2.heap.size := xc hb; have hzwa := hb.size; (try simp only [World.size_alloc, World.size_setCell, World.size_drew] at hzwa); obtain ⟨wa, rfl⟩ : ∃ x, x = w2 := ⟨_, rfl⟩))
  refine bodyPost_ret (v := .agg #[.int .i64 kp, .int .i64 mv, .slice v2o cs.length v2c, .int .i64 ph, .int .i64 nx]) (by simp [results, Try.results36, go_sem, kwa_0_0, fwa_0_0, kwa_0_1, fwa_0_1, kwa_0_2, fwa_0_2, kwa_0_3, fwa_0_3, kwa_0_4, fwa_0_4, xwa_0, kwa_1_0, fwa_1_0, kwa_1_1, fwa_1_1, kwa_1_2, fwa_1_2, kwa_1_3, fwa_1_3, kwa_1_4, fwa_1_4, xwa_1]) rfl ?_
  have hB1 := HB1.out
  exact ⟨_, rfl, by (have hm := Own.mono (B' := w.heap.size + 1 + 1) (OE.out) (by exact zt); refine Own.mono (B := w.heap.size + 1 + 1) ?_ (by exact zt); (repeat (first | with_reducible exact hm | (with_reducible refine Own.offb ?_ (by omega) _) | (with_reducible refine Own.below ?_ ((Below.refl _ _).alloc (Nat.le_refl _) _)) | (with_reducible refine Own.below ?_ (Below.drew (Below.refl _ _))) | (refine Own.below ?_ (by with_reducible assumption))))), by exact bel⟩
end Go.Proofs.Ytkkebpcclklmcaa
