/-
  Texts put together: KStore, OkLaw.
-/
import Derived.Test.YtobechjagckdfaaGLT11
import Derived.Test.YtobechjagckdfaaGLT8
import Derived.Test.YtobechjagckdfaaGLT9
/-
  A cell of a machine is written at its address, both sides.
-/
set_option linter.unusedVariables false
set_option linter.unusedSimpArgs false
namespace Go.Proofs.Ytobechjagckdfaa
open Go.RowKit
def storeF (M : Mac) (a v : Int) : Int := if loadOkB M a then (if (entA M a).m == 1 then 2 else if between v 0 999 then 0 else 3) else 1
def storeM (M : Mac) (a v : Int) : Mac := if storeF M a v == 0 then ⟨⟨M.f.cells.set (pageEntry M.ents (a / 16)).f.toNat ((M.f.cells.getD (pageEntry M.ents (a / 16)).f.toNat []).set (a % 16).toNat v), M.f.used⟩, M.ents⟩ else M
def NewMF (w : World) (M : Mac) (f : Int) (e : Ending) (w' : World) : Prop := ∃ y : MV, e = .returned (.tuple #[y.val, .int .i64 f]) ∧ MOwn w.heap.size w' y M ∧ Below w.heap.size w w'
theorem storeF_no {M : Mac} {a v : Int} (h : loadOkB M a = false) : storeF M a v = 1 := by unfold storeF; rw [h]; rfl
theorem storeM_no {M : Mac} {a v f : Int} (h : storeF M a v = f) (hf : (f == 0) = false := by rfl) : storeM M a v = M := by unfold storeM; rw [h, hf]; rfl
theorem MOwn.setCell {B : Nat} {w : World} {x : MV} {M : Mac} {g n cap i : Nat} {v : Value} {r : List Int} (h : MOwn B w x M) (hi : x.f.vs[i]? = some v) (hr : M.f.cells[i]? = some r) (hv : v = .slice (some ⟨g, 0, none⟩) n cap) (j : Nat) (y : Int) :
    MOwn B (w.setCell ⟨g, j, none⟩ (.int .i64 y)) x ⟨⟨M.f.cells.set i (r.set j y), M.f.used⟩, M.ents⟩ := by
  have S := FOwn.setCell h.f hi hr hv j y
  have ap := nodup_apart (l := [x.e]) h.nd
  exact ⟨S.1, h.ents.touch S.2 fun b hb hm => ap b (mem_one hb) (mem_v hi b hm), h.nd⟩

set_option maxRecDepth 20000 in
set_option maxHeartbeats 1600000 in
theorem s_Store (x : MV) (M : Mac) (a v : Int) (hs : szM M ≤ 1048576) (ha9 : a ≤ 9223372036854775807) (w : World) (ha : MAt w x M) : Calls Try.prog 48 #[x.val, .int .i64 a, .int .i64 v] w (NewMF w (storeM M a v) (storeF M a v)) := by
  obtain ⟨⟨xz, xu, xvs⟩, xe⟩ := x
  have HA := Lib.hid ha
  have H1 := Lib.hid hs
  simp only [MV.val]
  clear ha hs
  cases hl : loadOkB M a
  · rw [storeM_no (storeF_no hl), storeF_no hl]
    obtain ⟨q, hq⟩ : ∃ q, q = entA M a := ⟨_, rfl⟩
    obtain ⟨qm, qf⟩ := q
    have HQ := Lib.hid hq.symm
    cases hM : machineOk M
    · have HM := Lib.hid hM
      by_cases h0 : a < 0
      · (have hall := all_nil w; go_enter Try.func48, Try.ntmps48)
        go_wp2_with (first | (go_at_call 74; (refine (s_l07Copy (⟨⟨xz, xu, xvs⟩, xe⟩ : MV) M H1.out _ (HA.out.below (by exact bel))).mono ?_; rintro e w2 ⟨y, rfl, hyo, hb⟩; (obtain ⟨yco, ycc, yuo, yuc, yvs, yeo, yec, rfl⟩ := MOwn.shapes hyo); have OK := Lib.hid hyo; have HB1 := Lib.hid hb; obtain ⟨kwa_0_0, kwa_0_1, kwa_0_2⟩ := kp3 hb (w.heap.size) (xz) (xu) (xe); obtain ⟨kwa_1_0, fwa_1_0, kwa_1_1, fwa_1_1, kwa_1_2, fwa_1_2⟩ := kf3 hb (w.heap.size + 1) (.slice none 0 0) (.slice none 0 0) (.slice none 0 0); have xwa_0 : w.heap.size < w2.heap.size := xc hb; have xwa_1 : w.heap.size + 1 < w2.heap.size := xc hb; have hzwa := hb.size; (try simp only [World.size_alloc, World.size_setCell, World.size_drew] at hzwa); clear hyo; simp only [MV.val]; obtain ⟨wa, rfl⟩ : ∃ x, x = w2 := ⟨_, rfl⟩)) | (go_at_call 40; (refine (s_l07Entry (⟨⟨xz, xu, xvs⟩, xe⟩ : MV) M a ha9 _ (HA.out.below (by exact bel))).mono ?_; rintro e w2 ⟨rfl, hb⟩; rw [HQ.out]; (try rw [if_neg h0]); (try rw [if_pos h0]); have HB2 := Lib.hid hb; obtain ⟨kwb_0_0, kwb_0_1, kwb_0_2⟩ := kp3 hb (w.heap.size) (xz) (xu) (xe); obtain ⟨kwb_1_0, fwb_1_0, kwb_1_1, fwb_1_1, kwb_1_2, fwb_1_2⟩ := kf3 hb (w.heap.size + 1) (.slice none 0 0) (.slice none 0 0) (.slice none 0 0); obtain ⟨kwb_O_0, fwb_O_0, kwb_O_1, fwb_O_1, kwb_O_2, fwb_O_2⟩ := kf3 hb (wa.heap.size) (.slice yco yvs.length ycc) (.slice yuo M.f.used.length yuc) (.slice yeo M.ents.length yec); have xwb_0 : w.heap.size < w2.heap.size := xc hb; have xwb_1 : w.heap.size + 1 < w2.heap.size := xc hb; have xwb_O : wa.heap.size < w2.heap.size := xc hb; have hzwb := hb.size; (try simp only [World.size_alloc, World.size_setCell, World.size_drew] at hzwb); obtain ⟨wb, rfl⟩ : ∃ x, x = w2 := ⟨_, rfl⟩)) | (go_at_call 41; (refine (s_MachineOk (⟨⟨xz, xu, xvs⟩, xe⟩ : MV) M _ HM.out _ (HA.out.below (by exact bel))).mono ?_; rintro e w2 ⟨rfl, hb⟩; have HB3 := Lib.hid hb; obtain ⟨kwd_0_0, kwd_0_1, kwd_0_2⟩ := kp3 hb (w.heap.size) (xz) (xu) (xe); obtain ⟨kwd_1_0, fwd_1_0, kwd_1_1, fwd_1_1, kwd_1_2, fwd_1_2⟩ := kf3 hb (w.heap.size + 1) (.slice none 0 0) (.slice none 0 0) (.slice none 0 0); obtain ⟨kwd_O_0, fwd_O_0, kwd_O_1, fwd_O_1, kwd_O_2, fwd_O_2⟩ := kf3 hb (wa.heap.size) (.slice yco yvs.length ycc) (.slice yuo M.f.used.length yuc) (.slice yeo M.ents.length yec); obtain ⟨kwd_E_0, kwd_E_1⟩ := kp2 hb (wb.heap.size) (.int .i64 qm) (.int .i64 qf); have xwd_0 : w.heap.size < w2.heap.size := xc hb; have xwd_1 : w.heap.size + 1 < w2.heap.size := xc hb; have xwd_O : wa.heap.size < w2.heap.size := xc hb; have xwd_E : wb.heap.size < w2.heap.size := xc hb; have hzwd := hb.size; (try simp only [World.size_alloc, World.size_setCell, World.size_drew] at hzwd); obtain ⟨wd, rfl⟩ : ∃ x, x = w2 := ⟨_, rfl⟩)) | (go_at_call 28; (first | (refine (s_l01In _ _ _ true (by assumption) _).mono ?_) | (refine (s_l01In _ _ _ false (by assumption) _).mono ?_) | (refine (s_l01In _ _ _ _ rfl _).mono ?_)); rintro e w2 ⟨rfl, rfl⟩) | (with_reducible refine wp_region_grew2 (by kernel_rfl) (by kernel_rfl) ?_; intro w2 hb; (first | have hn := nw4 hb hall (by exact zo) | have hn := nw3 hb hall (by exact zo) | have hn := nw2 hb hall (by exact zo) | have hn := nw1 hb hall (by exact zo) | have hn := nw0 hb hall (by exact zo)); obtain ⟨hc, hf, hn, hc0⟩ := hn; replace hall := hn; clear hn; have hz := hb.size; (try simp only [World.size_alloc, World.size_setCell, World.size_drew] at hz); have hx := hall; (try simp only [allLt, and_true] at hx); obtain ⟨w1, rfl⟩ : ∃ x, x = w2 := ⟨_, rfl⟩; (repeat (go_big_quiet_step (first | (go_at_call 28; first | exact calls_same (s_l01In _ _ _ true (by assumption) _) | exact calls_same (s_l01In _ _ _ false (by assumption) _) | exact calls_same (s_l01In _ _ _ _ rfl _))))); refine wpQuiet_nil ?_; intro w2 hw'; have hb := grew_below hw'; clear hw'; (first | have hn := nw4 hb hall (by exact zo) | have hn := nw3 hb hall (by exact zo) | have hn := nw2 hb hall (by exact zo) | have hn := nw1 hb hall (by exact zo) | have hn := nw0 hb hall (by exact zo)); obtain ⟨hc, hf, hn, hc0⟩ := hn; replace hall := hn; clear hn; have hz := hb.size; (try simp only [World.size_alloc, World.size_setCell, World.size_drew] at hz); have hx := hall; (try simp only [allLt, and_true] at hx); obtain ⟨w1, rfl⟩ : ∃ x, x = w2 := ⟨_, rfl⟩))
        have hB1 := HB1.out; have hB2 := HB2.out; have hB3 := HB3.out
        (refine bodyPost_ret (v := .tuple #[.agg #[.slice yco yvs.length ycc, .slice yuo M.f.used.length yuc, .slice yeo M.ents.length yec], .int .i64 1]) (by simp [results, Try.results48, go_sem, kwd_1_0, fwd_1_0, kwd_1_1, fwd_1_1, kwd_1_2, fwd_1_2, xwd_1, kwd_O_0, kwd_O_1, kwd_O_2]) rfl ?_; exact ⟨⟨⟨_, _, yvs⟩, _⟩, rfl, by (have hm := MOwn.mono (B' := w.heap.size + 1 + 1) (OK.out) (by exact zt); refine MOwn.mono (B := w.heap.size + 1 + 1) ?_ (by exact zt); (repeat (first | with_reducible exact hm | (with_reducible refine MOwn.offb ?_ (by omega) _) | (with_reducible refine MOwn.below ?_ ((Below.refl _ _).alloc (Nat.le_refl _) _)) | (with_reducible refine MOwn.below ?_ (Below.drew (Below.refl _ _))) | (refine MOwn.below ?_ (by with_reducible assumption))))), by exact bel⟩)
      · (have hall := all_nil w; go_enter Try.func48, Try.ntmps48)
        go_wp2_with (first | (go_at_call 74; (refine (s_l07Copy (⟨⟨xz, xu, xvs⟩, xe⟩ : MV) M H1.out _ (HA.out.below (by exact bel))).mono ?_; rintro e w2 ⟨y, rfl, hyo, hb⟩; (obtain ⟨yco, ycc, yuo, yuc, yvs, yeo, yec, rfl⟩ := MOwn.shapes hyo); have OK := Lib.hid hyo; have HB1 := Lib.hid hb; obtain ⟨kwa_0_0, kwa_0_1, kwa_0_2⟩ := kp3 hb (w.heap.size) (xz) (xu) (xe); obtain ⟨kwa_1_0, fwa_1_0, kwa_1_1, fwa_1_1, kwa_1_2, fwa_1_2⟩ := kf3 hb (w.heap.size + 1) (.slice none 0 0) (.slice none 0 0) (.slice none 0 0); have xwa_0 : w.heap.size < w2.heap.size := xc hb; have xwa_1 : w.heap.size + 1 < w2.heap.size := xc hb; have hzwa := hb.size; (try simp only [World.size_alloc, World.size_setCell, World.size_drew] at hzwa); clear hyo; simp only [MV.val]; obtain ⟨wa, rfl⟩ : ∃ x, x = w2 := ⟨_, rfl⟩)) | (go_at_call 40; (refine (s_l07Entry (⟨⟨xz, xu, xvs⟩, xe⟩ : MV) M a ha9 _ (HA.out.below (by exact bel))).mono ?_; rintro e w2 ⟨rfl, hb⟩; rw [HQ.out]; (try rw [if_neg h0]); (try rw [if_pos h0]); have HB2 := Lib.hid hb; obtain ⟨kwb_0_0, kwb_0_1, kwb_0_2⟩ := kp3 hb (w.heap.size) (xz) (xu) (xe); obtain ⟨kwb_1_0, fwb_1_0, kwb_1_1, fwb_1_1, kwb_1_2, fwb_1_2⟩ := kf3 hb (w.heap.size + 1) (.slice none 0 0) (.slice none 0 0) (.slice none 0 0); obtain ⟨kwb_O_0, fwb_O_0, kwb_O_1, fwb_O_1, kwb_O_2, fwb_O_2⟩ := kf3 hb (wa.heap.size) (.slice yco yvs.length ycc) (.slice yuo M.f.used.length yuc) (.slice yeo M.ents.length yec); have xwb_0 : w.heap.size < w2.heap.size := xc hb; have xwb_1 : w.heap.size + 1 < w2.heap.size := xc hb; have xwb_O : wa.heap.size < w2.heap.size := xc hb; have hzwb := hb.size; (try simp only [World.size_alloc, World.size_setCell, World.size_drew] at hzwb); obtain ⟨wb, rfl⟩ : ∃ x, x = w2 := ⟨_, rfl⟩)) | (go_at_call 41; (refine (s_MachineOk (⟨⟨xz, xu, xvs⟩, xe⟩ : MV) M _ HM.out _ (HA.out.below (by exact bel))).mono ?_; rintro e w2 ⟨rfl, hb⟩; have HB3 := Lib.hid hb; obtain ⟨kwd_0_0, kwd_0_1, kwd_0_2⟩ := kp3 hb (w.heap.size) (xz) (xu) (xe); obtain ⟨kwd_1_0, fwd_1_0, kwd_1_1, fwd_1_1, kwd_1_2, fwd_1_2⟩ := kf3 hb (w.heap.size + 1) (.slice none 0 0) (.slice none 0 0) (.slice none 0 0); obtain ⟨kwd_O_0, fwd_O_0, kwd_O_1, fwd_O_1, kwd_O_2, fwd_O_2⟩ := kf3 hb (wa.heap.size) (.slice yco yvs.length ycc) (.slice yuo M.f.used.length yuc) (.slice yeo M.ents.length yec); obtain ⟨kwd_E_0, kwd_E_1⟩ := kp2 hb (wb.heap.size) (.int .i64 qm) (.int .i64 qf); have xwd_0 : w.heap.size < w2.heap.size := xc hb; have xwd_1 : w.heap.size + 1 < w2.heap.size := xc hb; have xwd_O : wa.heap.size < w2.heap.size := xc hb; have xwd_E : wb.heap.size < w2.heap.size := xc hb; have hzwd := hb.size; (try simp only [World.size_alloc, World.size_setCell, World.size_drew] at hzwd); obtain ⟨wd, rfl⟩ : ∃ x, x = w2 := ⟨_, rfl⟩)) | (go_at_call 28; (first | (refine (s_l01In _ _ _ true (by assumption) _).mono ?_) | (refine (s_l01In _ _ _ false (by assumption) _).mono ?_) | (refine (s_l01In _ _ _ _ rfl _).mono ?_)); rintro e w2 ⟨rfl, rfl⟩) | (with_reducible refine wp_region_grew2 (by kernel_rfl) (by kernel_rfl) ?_; intro w2 hb; (first | have hn := nw4 hb hall (by exact zo) | have hn := nw3 hb hall (by exact zo) | have hn := nw2 hb hall (by exact zo) | have hn := nw1 hb hall (by exact zo) | have hn := nw0 hb hall (by exact zo)); obtain ⟨hc, hf, hn, hc0⟩ := hn; replace hall := hn; clear hn; have hz := hb.size; (try simp only [World.size_alloc, World.size_setCell, World.size_drew] at hz); have hx := hall; (try simp only [allLt, and_true] at hx); obtain ⟨w1, rfl⟩ : ∃ x, x = w2 := ⟨_, rfl⟩; (repeat (go_big_quiet_step (first | (go_at_call 28; first | exact calls_same (s_l01In _ _ _ true (by assumption) _) | exact calls_same (s_l01In _ _ _ false (by assumption) _) | exact calls_same (s_l01In _ _ _ _ rfl _))))); refine wpQuiet_nil ?_; intro w2 hw'; have hb := grew_below hw'; clear hw'; (first | have hn := nw4 hb hall (by exact zo) | have hn := nw3 hb hall (by exact zo) | have hn := nw2 hb hall (by exact zo) | have hn := nw1 hb hall (by exact zo) | have hn := nw0 hb hall (by exact zo)); obtain ⟨hc, hf, hn, hc0⟩ := hn; replace hall := hn; clear hn; have hz := hb.size; (try simp only [World.size_alloc, World.size_setCell, World.size_drew] at hz); have hx := hall; (try simp only [allLt, and_true] at hx); obtain ⟨w1, rfl⟩ : ∃ x, x = w2 := ⟨_, rfl⟩))
        have hB1 := HB1.out; have hB2 := HB2.out; have hB3 := HB3.out
        (refine bodyPost_ret (v := .tuple #[.agg #[.slice yco yvs.length ycc, .slice yuo M.f.used.length yuc, .slice yeo M.ents.length yec], .int .i64 1]) (by simp [results, Try.results48, go_sem, kwd_1_0, fwd_1_0, kwd_1_1, fwd_1_1, kwd_1_2, fwd_1_2, xwd_1, kwd_O_0, kwd_O_1, kwd_O_2]) rfl ?_; exact ⟨⟨⟨_, _, yvs⟩, _⟩, rfl, by (have hm := MOwn.mono (B' := w.heap.size + 1 + 1) (OK.out) (by exact zt); refine MOwn.mono (B := w.heap.size + 1 + 1) ?_ (by exact zt); (repeat (first | with_reducible exact hm | (with_reducible refine MOwn.offb ?_ (by omega) _) | (with_reducible refine MOwn.below ?_ ((Below.refl _ _).alloc (Nat.le_refl _) _)) | (with_reducible refine MOwn.below ?_ (Below.drew (Below.refl _ _))) | (refine MOwn.below ?_ (by with_reducible assumption))))), by exact bel⟩)
    · have HM := Lib.hid hM
      have hz := entA_zero hl hM
      rw [← hq] at hz
      dsimp only at hz
      subst hz
      by_cases h0 : a < 0
      · (have hall := all_nil w; go_enter Try.func48, Try.ntmps48)
        go_wp2_with (first | (go_at_call 74; (refine (s_l07Copy (⟨⟨xz, xu, xvs⟩, xe⟩ : MV) M H1.out _ (HA.out.below (by exact bel))).mono ?_; rintro e w2 ⟨y, rfl, hyo, hb⟩; (obtain ⟨yco, ycc, yuo, yuc, yvs, yeo, yec, rfl⟩ := MOwn.shapes hyo); have OK := Lib.hid hyo; have HB1 := Lib.hid hb; obtain ⟨kwa_0_0, kwa_0_1, kwa_0_2⟩ := kp3 hb (w.heap.size) (xz) (xu) (xe); obtain ⟨kwa_1_0, fwa_1_0, kwa_1_1, fwa_1_1, kwa_1_2, fwa_1_2⟩ := kf3 hb (w.heap.size + 1) (.slice none 0 0) (.slice none 0 0) (.slice none 0 0); have xwa_0 : w.heap.size < w2.heap.size := xc hb; have xwa_1 : w.heap.size + 1 < w2.heap.size := xc hb; have hzwa := hb.size; (try simp only [World.size_alloc, World.size_setCell, World.size_drew] at hzwa); clear hyo; simp only [MV.val]; obtain ⟨wa, rfl⟩ : ∃ x, x = w2 := ⟨_, rfl⟩)) | (go_at_call 40; (refine (s_l07Entry (⟨⟨xz, xu, xvs⟩, xe⟩ : MV) M a ha9 _ (HA.out.below (by exact bel))).mono ?_; rintro e w2 ⟨rfl, hb⟩; rw [HQ.out]; (try rw [if_neg h0]); (try rw [if_pos h0]); have HB2 := Lib.hid hb; obtain ⟨kwb_0_0, kwb_0_1, kwb_0_2⟩ := kp3 hb (w.heap.size) (xz) (xu) (xe); obtain ⟨kwb_1_0, fwb_1_0, kwb_1_1, fwb_1_1, kwb_1_2, fwb_1_2⟩ := kf3 hb (w.heap.size + 1) (.slice none 0 0) (.slice none 0 0) (.slice none 0 0); obtain ⟨kwb_O_0, fwb_O_0, kwb_O_1, fwb_O_1, kwb_O_2, fwb_O_2⟩ := kf3 hb (wa.heap.size) (.slice yco yvs.length ycc) (.slice yuo M.f.used.length yuc) (.slice yeo M.ents.length yec); have xwb_0 : w.heap.size < w2.heap.size := xc hb; have xwb_1 : w.heap.size + 1 < w2.heap.size := xc hb; have xwb_O : wa.heap.size < w2.heap.size := xc hb; have hzwb := hb.size; (try simp only [World.size_alloc, World.size_setCell, World.size_drew] at hzwb); obtain ⟨wb, rfl⟩ : ∃ x, x = w2 := ⟨_, rfl⟩)) | (go_at_call 41; (refine (s_MachineOk (⟨⟨xz, xu, xvs⟩, xe⟩ : MV) M _ HM.out _ (HA.out.below (by exact bel))).mono ?_; rintro e w2 ⟨rfl, hb⟩; have HB3 := Lib.hid hb; obtain ⟨kwd_0_0, kwd_0_1, kwd_0_2⟩ := kp3 hb (w.heap.size) (xz) (xu) (xe); obtain ⟨kwd_1_0, fwd_1_0, kwd_1_1, fwd_1_1, kwd_1_2, fwd_1_2⟩ := kf3 hb (w.heap.size + 1) (.slice none 0 0) (.slice none 0 0) (.slice none 0 0); obtain ⟨kwd_O_0, fwd_O_0, kwd_O_1, fwd_O_1, kwd_O_2, fwd_O_2⟩ := kf3 hb (wa.heap.size) (.slice yco yvs.length ycc) (.slice yuo M.f.used.length yuc) (.slice yeo M.ents.length yec); obtain ⟨kwd_E_0, kwd_E_1⟩ := kp2 hb (wb.heap.size) (.int .i64 0) (.int .i64 qf); have xwd_0 : w.heap.size < w2.heap.size := xc hb; have xwd_1 : w.heap.size + 1 < w2.heap.size := xc hb; have xwd_O : wa.heap.size < w2.heap.size := xc hb; have xwd_E : wb.heap.size < w2.heap.size := xc hb; have hzwd := hb.size; (try simp only [World.size_alloc, World.size_setCell, World.size_drew] at hzwd); obtain ⟨wd, rfl⟩ : ∃ x, x = w2 := ⟨_, rfl⟩)) | (go_at_call 28; (first | (refine (s_l01In _ _ _ true (by assumption) _).mono ?_) | (refine (s_l01In _ _ _ false (by assumption) _).mono ?_) | (refine (s_l01In _ _ _ _ rfl _).mono ?_)); rintro e w2 ⟨rfl, rfl⟩) | (with_reducible refine wp_region_grew2 (by kernel_rfl) (by kernel_rfl) ?_; intro w2 hb; (first | have hn := nw4 hb hall (by exact zo) | have hn := nw3 hb hall (by exact zo) | have hn := nw2 hb hall (by exact zo) | have hn := nw1 hb hall (by exact zo) | have hn := nw0 hb hall (by exact zo)); obtain ⟨hc, hf, hn, hc0⟩ := hn; replace hall := hn; clear hn; have hz := hb.size; (try simp only [World.size_alloc, World.size_setCell, World.size_drew] at hz); have hx := hall; (try simp only [allLt, and_true] at hx); obtain ⟨w1, rfl⟩ : ∃ x, x = w2 := ⟨_, rfl⟩; (repeat (go_big_quiet_step (first | (go_at_call 28; first | exact calls_same (s_l01In _ _ _ true (by assumption) _) | exact calls_same (s_l01In _ _ _ false (by assumption) _) | exact calls_same (s_l01In _ _ _ _ rfl _))))); refine wpQuiet_nil ?_; intro w2 hw'; have hb := grew_below hw'; clear hw'; (first | have hn := nw4 hb hall (by exact zo) | have hn := nw3 hb hall (by exact zo) | have hn := nw2 hb hall (by exact zo) | have hn := nw1 hb hall (by exact zo) | have hn := nw0 hb hall (by exact zo)); obtain ⟨hc, hf, hn, hc0⟩ := hn; replace hall := hn; clear hn; have hz := hb.size; (try simp only [World.size_alloc, World.size_setCell, World.size_drew] at hz); have hx := hall; (try simp only [allLt, and_true] at hx); obtain ⟨w1, rfl⟩ : ∃ x, x = w2 := ⟨_, rfl⟩))
        have hB1 := HB1.out; have hB2 := HB2.out; have hB3 := HB3.out
        (refine bodyPost_ret (v := .tuple #[.agg #[.slice yco yvs.length ycc, .slice yuo M.f.used.length yuc, .slice yeo M.ents.length yec], .int .i64 1]) (by simp [results, Try.results48, go_sem, kwd_1_0, fwd_1_0, kwd_1_1, fwd_1_1, kwd_1_2, fwd_1_2, xwd_1, kwd_O_0, kwd_O_1, kwd_O_2]) rfl ?_; exact ⟨⟨⟨_, _, yvs⟩, _⟩, rfl, by (have hm := MOwn.mono (B' := w.heap.size + 1 + 1) (OK.out) (by exact zt); refine MOwn.mono (B := w.heap.size + 1 + 1) ?_ (by exact zt); (repeat (first | with_reducible exact hm | (with_reducible refine MOwn.offb ?_ (by omega) _) | (with_reducible refine MOwn.below ?_ ((Below.refl _ _).alloc (Nat.le_refl _) _)) | (with_reducible refine MOwn.below ?_ (Below.drew (Below.refl _ _))) | (refine MOwn.below ?_ (by with_reducible assumption))))), by exact bel⟩)
      · (have hall := all_nil w; go_enter Try.func48, Try.ntmps48)
        go_wp2_with (first | (go_at_call 74; (refine (s_l07Copy (⟨⟨xz, xu, xvs⟩, xe⟩ : MV) M H1.out _ (HA.out.below (by exact bel))).mono ?_; rintro e w2 ⟨y, rfl, hyo, hb⟩; (obtain ⟨yco, ycc, yuo, yuc, yvs, yeo, yec, rfl⟩ := MOwn.shapes hyo); have OK := Lib.hid hyo; have HB1 := Lib.hid hb; obtain ⟨kwa_0_0, kwa_0_1, kwa_0_2⟩ := kp3 hb (w.heap.size) (xz) (xu) (xe); obtain ⟨kwa_1_0, fwa_1_0, kwa_1_1, fwa_1_1, kwa_1_2, fwa_1_2⟩ := kf3 hb (w.heap.size + 1) (.slice none 0 0) (.slice none 0 0) (.slice none 0 0); have xwa_0 : w.heap.size < w2.heap.size := xc hb; have xwa_1 : w.heap.size + 1 < w2.heap.size := xc hb; have hzwa := hb.size; (try simp only [World.size_alloc, World.size_setCell, World.size_drew] at hzwa); clear hyo; simp only [MV.val]; obtain ⟨wa, rfl⟩ : ∃ x, x = w2 := ⟨_, rfl⟩)) | (go_at_call 40; (refine (s_l07Entry (⟨⟨xz, xu, xvs⟩, xe⟩ : MV) M a ha9 _ (HA.out.below (by exact bel))).mono ?_; rintro e w2 ⟨rfl, hb⟩; rw [HQ.out]; (try rw [if_neg h0]); (try rw [if_pos h0]); have HB2 := Lib.hid hb; obtain ⟨kwb_0_0, kwb_0_1, kwb_0_2⟩ := kp3 hb (w.heap.size) (xz) (xu) (xe); obtain ⟨kwb_1_0, fwb_1_0, kwb_1_1, fwb_1_1, kwb_1_2, fwb_1_2⟩ := kf3 hb (w.heap.size + 1) (.slice none 0 0) (.slice none 0 0) (.slice none 0 0); obtain ⟨kwb_O_0, fwb_O_0, kwb_O_1, fwb_O_1, kwb_O_2, fwb_O_2⟩ := kf3 hb (wa.heap.size) (.slice yco yvs.length ycc) (.slice yuo M.f.used.length yuc) (.slice yeo M.ents.length yec); have xwb_0 : w.heap.size < w2.heap.size := xc hb; have xwb_1 : w.heap.size + 1 < w2.heap.size := xc hb; have xwb_O : wa.heap.size < w2.heap.size := xc hb; have hzwb := hb.size; (try simp only [World.size_alloc, World.size_setCell, World.size_drew] at hzwb); obtain ⟨wb, rfl⟩ : ∃ x, x = w2 := ⟨_, rfl⟩)) | (go_at_call 41; (refine (s_MachineOk (⟨⟨xz, xu, xvs⟩, xe⟩ : MV) M _ HM.out _ (HA.out.below (by exact bel))).mono ?_; rintro e w2 ⟨rfl, hb⟩; have HB3 := Lib.hid hb; obtain ⟨kwd_0_0, kwd_0_1, kwd_0_2⟩ := kp3 hb (w.heap.size) (xz) (xu) (xe); obtain ⟨kwd_1_0, fwd_1_0, kwd_1_1, fwd_1_1, kwd_1_2, fwd_1_2⟩ := kf3 hb (w.heap.size + 1) (.slice none 0 0) (.slice none 0 0) (.slice none 0 0); obtain ⟨kwd_O_0, fwd_O_0, kwd_O_1, fwd_O_1, kwd_O_2, fwd_O_2⟩ := kf3 hb (wa.heap.size) (.slice yco yvs.length ycc) (.slice yuo M.f.used.length yuc) (.slice yeo M.ents.length yec); obtain ⟨kwd_E_0, kwd_E_1⟩ := kp2 hb (wb.heap.size) (.int .i64 0) (.int .i64 qf); have xwd_0 : w.heap.size < w2.heap.size := xc hb; have xwd_1 : w.heap.size + 1 < w2.heap.size := xc hb; have xwd_O : wa.heap.size < w2.heap.size := xc hb; have xwd_E : wb.heap.size < w2.heap.size := xc hb; have hzwd := hb.size; (try simp only [World.size_alloc, World.size_setCell, World.size_drew] at hzwd); obtain ⟨wd, rfl⟩ : ∃ x, x = w2 := ⟨_, rfl⟩)) | (go_at_call 28; (first | (refine (s_l01In _ _ _ true (by assumption) _).mono ?_) | (refine (s_l01In _ _ _ false (by assumption) _).mono ?_) | (refine (s_l01In _ _ _ _ rfl _).mono ?_)); rintro e w2 ⟨rfl, rfl⟩) | (with_reducible refine wp_region_grew2 (by kernel_rfl) (by kernel_rfl) ?_; intro w2 hb; (first | have hn := nw4 hb hall (by exact zo) | have hn := nw3 hb hall (by exact zo) | have hn := nw2 hb hall (by exact zo) | have hn := nw1 hb hall (by exact zo) | have hn := nw0 hb hall (by exact zo)); obtain ⟨hc, hf, hn, hc0⟩ := hn; replace hall := hn; clear hn; have hz := hb.size; (try simp only [World.size_alloc, World.size_setCell, World.size_drew] at hz); have hx := hall; (try simp only [allLt, and_true] at hx); obtain ⟨w1, rfl⟩ : ∃ x, x = w2 := ⟨_, rfl⟩; (repeat (go_big_quiet_step (first | (go_at_call 28; first | exact calls_same (s_l01In _ _ _ true (by assumption) _) | exact calls_same (s_l01In _ _ _ false (by assumption) _) | exact calls_same (s_l01In _ _ _ _ rfl _))))); refine wpQuiet_nil ?_; intro w2 hw'; have hb := grew_below hw'; clear hw'; (first | have hn := nw4 hb hall (by exact zo) | have hn := nw3 hb hall (by exact zo) | have hn := nw2 hb hall (by exact zo) | have hn := nw1 hb hall (by exact zo) | have hn := nw0 hb hall (by exact zo)); obtain ⟨hc, hf, hn, hc0⟩ := hn; replace hall := hn; clear hn; have hz := hb.size; (try simp only [World.size_alloc, World.size_setCell, World.size_drew] at hz); have hx := hall; (try simp only [allLt, and_true] at hx); obtain ⟨w1, rfl⟩ : ∃ x, x = w2 := ⟨_, rfl⟩))
        have hB1 := HB1.out; have hB2 := HB2.out; have hB3 := HB3.out
        (refine bodyPost_ret (v := .tuple #[.agg #[.slice yco yvs.length ycc, .slice yuo M.f.used.length yuc, .slice yeo M.ents.length yec], .int .i64 1]) (by simp [results, Try.results48, go_sem, kwd_1_0, fwd_1_0, kwd_1_1, fwd_1_1, kwd_1_2, fwd_1_2, xwd_1, kwd_O_0, kwd_O_1, kwd_O_2]) rfl ?_; exact ⟨⟨⟨_, _, yvs⟩, _⟩, rfl, by (have hm := MOwn.mono (B' := w.heap.size + 1 + 1) (OK.out) (by exact zt); refine MOwn.mono (B := w.heap.size + 1 + 1) ?_ (by exact zt); (repeat (first | with_reducible exact hm | (with_reducible refine MOwn.offb ?_ (by omega) _) | (with_reducible refine MOwn.below ?_ ((Below.refl _ _).alloc (Nat.le_refl _) _)) | (with_reducible refine MOwn.below ?_ (Below.drew (Below.refl _ _))) | (refine MOwn.below ?_ (by with_reducible assumption))))), by exact bel⟩)
  · obtain ⟨em, fr, d, r, z, h0a, hd, hd16, hpe, hem, hr, hr16, hz, -, -, hM⟩ := load_in hl
    have h0 : ¬ a < 0 := by omega
    have HM := Lib.hid hM
    have HQ : Hid (entA M a = ⟨em, fr⟩) := by unfold Hid; rw [← hpe]; exact entA_in h0a
    have HF : Hid (storeF M a v = if em == 1 then 2 else if between v 0 999 then 0 else 3) := by unfold Hid storeF; rw [hl, if_pos rfl, entA_in h0a, hpe]
    have HS : Hid (storeF M a v = 0 → storeM M a v = ⟨⟨M.f.cells.set fr (r.set d v), M.f.used⟩, M.ents⟩) := by
      intro e; unfold storeM; rw [e, hpe, hd, Int.toNat_natCast, Int.toNat_natCast, getD_of hr]; rfl
    have HRR := Lib.hid hr; have HZ := Lib.hid hz
    have hem' : ¬ em = 0 := by simpa using hem
    clear hl hpe hM hr hz
    cases h1 : (em == 1)
    rotate_left
    · have hf : storeF M a v = 2 := by rw [HF.out, h1]; rfl
      rw [storeM_no hf, hf]
      clear hf
      (have hall := all_nil w; go_enter Try.func48, Try.ntmps48)
      go_wp2_with (first | (go_at_call 74; (refine (s_l07Copy (⟨⟨xz, xu, xvs⟩, xe⟩ : MV) M H1.out _ (HA.out.below (by exact bel))).mono ?_; rintro e w2 ⟨y, rfl, hyo, hb⟩; (obtain ⟨yco, ycc, yuo, yuc, yvs, yeo, yec, rfl⟩ := MOwn.shapes hyo); have OK := Lib.hid hyo; have HB1 := Lib.hid hb; obtain ⟨kwa_0_0, kwa_0_1, kwa_0_2⟩ := kp3 hb (w.heap.size) (xz) (xu) (xe); obtain ⟨kwa_1_0, fwa_1_0, kwa_1_1, fwa_1_1, kwa_1_2, fwa_1_2⟩ := kf3 hb (w.heap.size + 1) (.slice none 0 0) (.slice none 0 0) (.slice none 0 0); have xwa_0 : w.heap.size < w2.heap.size := xc hb; have xwa_1 : w.heap.size + 1 < w2.heap.size := xc hb; have hzwa := hb.size; (try simp only [World.size_alloc, World.size_setCell, World.size_drew] at hzwa); clear hyo; simp only [MV.val]; obtain ⟨wa, rfl⟩ : ∃ x, x = w2 := ⟨_, rfl⟩)) | (go_at_call 40; (refine (s_l07Entry (⟨⟨xz, xu, xvs⟩, xe⟩ : MV) M a ha9 _ (HA.out.below (by exact bel))).mono ?_; rintro e w2 ⟨rfl, hb⟩; rw [HQ.out]; (try rw [if_neg h0]); (try rw [if_pos h0]); have HB2 := Lib.hid hb; obtain ⟨kwb_0_0, kwb_0_1, kwb_0_2⟩ := kp3 hb (w.heap.size) (xz) (xu) (xe); obtain ⟨kwb_1_0, fwb_1_0, kwb_1_1, fwb_1_1, kwb_1_2, fwb_1_2⟩ := kf3 hb (w.heap.size + 1) (.slice none 0 0) (.slice none 0 0) (.slice none 0 0); obtain ⟨kwb_O_0, fwb_O_0, kwb_O_1, fwb_O_1, kwb_O_2, fwb_O_2⟩ := kf3 hb (wa.heap.size) (.slice yco yvs.length ycc) (.slice yuo M.f.used.length yuc) (.slice yeo M.ents.length yec); have xwb_0 : w.heap.size < w2.heap.size := xc hb; have xwb_1 : w.heap.size + 1 < w2.heap.size := xc hb; have xwb_O : wa.heap.size < w2.heap.size := xc hb; have hzwb := hb.size; (try simp only [World.size_alloc, World.size_setCell, World.size_drew] at hzwb); obtain ⟨wb, rfl⟩ : ∃ x, x = w2 := ⟨_, rfl⟩)) | (go_at_call 41; (refine (s_MachineOk (⟨⟨xz, xu, xvs⟩, xe⟩ : MV) M _ HM.out _ (HA.out.below (by exact bel))).mono ?_; rintro e w2 ⟨rfl, hb⟩; have HB3 := Lib.hid hb; obtain ⟨kwd_0_0, kwd_0_1, kwd_0_2⟩ := kp3 hb (w.heap.size) (xz) (xu) (xe); obtain ⟨kwd_1_0, fwd_1_0, kwd_1_1, fwd_1_1, kwd_1_2, fwd_1_2⟩ := kf3 hb (w.heap.size + 1) (.slice none 0 0) (.slice none 0 0) (.slice none 0 0); obtain ⟨kwd_O_0, fwd_O_0, kwd_O_1, fwd_O_1, kwd_O_2, fwd_O_2⟩ := kf3 hb (wa.heap.size) (.slice yco yvs.length ycc) (.slice yuo M.f.used.length yuc) (.slice yeo M.ents.length yec); obtain ⟨kwd_E_0, kwd_E_1⟩ := kp2 hb (wb.heap.size) (.int .i64 em) (.int .i64 fr); have xwd_0 : w.heap.size < w2.heap.size := xc hb; have xwd_1 : w.heap.size + 1 < w2.heap.size := xc hb; have xwd_O : wa.heap.size < w2.heap.size := xc hb; have xwd_E : wb.heap.size < w2.heap.size := xc hb; have hzwd := hb.size; (try simp only [World.size_alloc, World.size_setCell, World.size_drew] at hzwd); obtain ⟨wd, rfl⟩ : ∃ x, x = w2 := ⟨_, rfl⟩)) | (go_at_call 28; (first | (refine (s_l01In _ _ _ true (by assumption) _).mono ?_) | (refine (s_l01In _ _ _ false (by assumption) _).mono ?_) | (refine (s_l01In _ _ _ _ rfl _).mono ?_)); rintro e w2 ⟨rfl, rfl⟩) | (with_reducible refine wp_region_grew2 (by kernel_rfl) (by kernel_rfl) ?_; intro w2 hb; (first | have hn := nw4 hb hall (by exact zo) | have hn := nw3 hb hall (by exact zo) | have hn := nw2 hb hall (by exact zo) | have hn := nw1 hb hall (by exact zo) | have hn := nw0 hb hall (by exact zo)); obtain ⟨hc, hf, hn, hc0⟩ := hn; replace hall := hn; clear hn; have hz := hb.size; (try simp only [World.size_alloc, World.size_setCell, World.size_drew] at hz); have hx := hall; (try simp only [allLt, and_true] at hx); obtain ⟨w1, rfl⟩ : ∃ x, x = w2 := ⟨_, rfl⟩; (repeat (go_big_quiet_step (first | (go_at_call 28; first | exact calls_same (s_l01In _ _ _ true (by assumption) _) | exact calls_same (s_l01In _ _ _ false (by assumption) _) | exact calls_same (s_l01In _ _ _ _ rfl _))))); refine wpQuiet_nil ?_; intro w2 hw'; have hb := grew_below hw'; clear hw'; (first | have hn := nw4 hb hall (by exact zo) | have hn := nw3 hb hall (by exact zo) | have hn := nw2 hb hall (by exact zo) | have hn := nw1 hb hall (by exact zo) | have hn := nw0 hb hall (by exact zo)); obtain ⟨hc, hf, hn, hc0⟩ := hn; replace hall := hn; clear hn; have hz := hb.size; (try simp only [World.size_alloc, World.size_setCell, World.size_drew] at hz); have hx := hall; (try simp only [allLt, and_true] at hx); obtain ⟨w1, rfl⟩ : ∃ x, x = w2 := ⟨_, rfl⟩))
      have hB1 := HB1.out; have hB2 := HB2.out; have hB3 := HB3.out
      (refine bodyPost_ret (v := .tuple #[.agg #[.slice yco yvs.length ycc, .slice yuo M.f.used.length yuc, .slice yeo M.ents.length yec], .int .i64 2]) (by simp [results, Try.results48, go_sem, kwd_1_0, fwd_1_0, kwd_1_1, fwd_1_1, kwd_1_2, fwd_1_2, xwd_1, kwd_O_0, kwd_O_1, kwd_O_2]) rfl ?_; exact ⟨⟨⟨_, _, yvs⟩, _⟩, rfl, by (have hm := MOwn.mono (B' := w.heap.size + 1 + 1) (OK.out) (by exact zt); refine MOwn.mono (B := w.heap.size + 1 + 1) ?_ (by exact zt); (repeat (first | with_reducible exact hm | (with_reducible refine MOwn.offb ?_ (by omega) _) | (with_reducible refine MOwn.below ?_ ((Below.refl _ _).alloc (Nat.le_refl _) _)) | (with_reducible refine MOwn.below ?_ (Below.drew (Below.refl _ _))) | (refine MOwn.below ?_ (by with_reducible assumption))))), by exact bel⟩)
    cases h2 : between v 0 999
    · have hf : storeF M a v = 3 := by rw [HF.out, h1, h2]; rfl
      rw [storeM_no hf, hf]
      clear hf
      (have hall := all_nil w; go_enter Try.func48, Try.ntmps48)
      go_wp2_with (first | (go_at_call 74; (refine (s_l07Copy (⟨⟨xz, xu, xvs⟩, xe⟩ : MV) M H1.out _ (HA.out.below (by exact bel))).mono ?_; rintro e w2 ⟨y, rfl, hyo, hb⟩; (obtain ⟨yco, ycc, yuo, yuc, yvs, yeo, yec, rfl⟩ := MOwn.shapes hyo); have OK := Lib.hid hyo; have HB1 := Lib.hid hb; obtain ⟨kwa_0_0, kwa_0_1, kwa_0_2⟩ := kp3 hb (w.heap.size) (xz) (xu) (xe); obtain ⟨kwa_1_0, fwa_1_0, kwa_1_1, fwa_1_1, kwa_1_2, fwa_1_2⟩ := kf3 hb (w.heap.size + 1) (.slice none 0 0) (.slice none 0 0) (.slice none 0 0); have xwa_0 : w.heap.size < w2.heap.size := xc hb; have xwa_1 : w.heap.size + 1 < w2.heap.size := xc hb; have hzwa := hb.size; (try simp only [World.size_alloc, World.size_setCell, World.size_drew] at hzwa); clear hyo; simp only [MV.val]; obtain ⟨wa, rfl⟩ : ∃ x, x = w2 := ⟨_, rfl⟩)) | (go_at_call 40; (refine (s_l07Entry (⟨⟨xz, xu, xvs⟩, xe⟩ : MV) M a ha9 _ (HA.out.below (by exact bel))).mono ?_; rintro e w2 ⟨rfl, hb⟩; rw [HQ.out]; (try rw [if_neg h0]); (try rw [if_pos h0]); have HB2 := Lib.hid hb; obtain ⟨kwb_0_0, kwb_0_1, kwb_0_2⟩ := kp3 hb (w.heap.size) (xz) (xu) (xe); obtain ⟨kwb_1_0, fwb_1_0, kwb_1_1, fwb_1_1, kwb_1_2, fwb_1_2⟩ := kf3 hb (w.heap.size + 1) (.slice none 0 0) (.slice none 0 0) (.slice none 0 0); obtain ⟨kwb_O_0, fwb_O_0, kwb_O_1, fwb_O_1, kwb_O_2, fwb_O_2⟩ := kf3 hb (wa.heap.size) (.slice yco yvs.length ycc) (.slice yuo M.f.used.length yuc) (.slice yeo M.ents.length yec); have xwb_0 : w.heap.size < w2.heap.size := xc hb; have xwb_1 : w.heap.size + 1 < w2.heap.size := xc hb; have xwb_O : wa.heap.size < w2.heap.size := xc hb; have hzwb := hb.size; (try simp only [World.size_alloc, World.size_setCell, World.size_drew] at hzwb); obtain ⟨wb, rfl⟩ : ∃ x, x = w2 := ⟨_, rfl⟩)) | (go_at_call 41; (refine (s_MachineOk (⟨⟨xz, xu, xvs⟩, xe⟩ : MV) M _ HM.out _ (HA.out.below (by exact bel))).mono ?_; rintro e w2 ⟨rfl, hb⟩; have HB3 := Lib.hid hb; obtain ⟨kwd_0_0, kwd_0_1, kwd_0_2⟩ := kp3 hb (w.heap.size) (xz) (xu) (xe); obtain ⟨kwd_1_0, fwd_1_0, kwd_1_1, fwd_1_1, kwd_1_2, fwd_1_2⟩ := kf3 hb (w.heap.size + 1) (.slice none 0 0) (.slice none 0 0) (.slice none 0 0); obtain ⟨kwd_O_0, fwd_O_0, kwd_O_1, fwd_O_1, kwd_O_2, fwd_O_2⟩ := kf3 hb (wa.heap.size) (.slice yco yvs.length ycc) (.slice yuo M.f.used.length yuc) (.slice yeo M.ents.length yec); obtain ⟨kwd_E_0, kwd_E_1⟩ := kp2 hb (wb.heap.size) (.int .i64 em) (.int .i64 fr); have xwd_0 : w.heap.size < w2.heap.size := xc hb; have xwd_1 : w.heap.size + 1 < w2.heap.size := xc hb; have xwd_O : wa.heap.size < w2.heap.size := xc hb; have xwd_E : wb.heap.size < w2.heap.size := xc hb; have hzwd := hb.size; (try simp only [World.size_alloc, World.size_setCell, World.size_drew] at hzwd); obtain ⟨wd, rfl⟩ : ∃ x, x = w2 := ⟨_, rfl⟩)) | (go_at_call 28; (first | (refine (s_l01In _ _ _ true (by assumption) _).mono ?_) | (refine (s_l01In _ _ _ false (by assumption) _).mono ?_) | (refine (s_l01In _ _ _ _ rfl _).mono ?_)); rintro e w2 ⟨rfl, rfl⟩) | (with_reducible refine wp_region_grew2 (by kernel_rfl) (by kernel_rfl) ?_; intro w2 hb; (first | have hn := nw4 hb hall (by exact zo) | have hn := nw3 hb hall (by exact zo) | have hn := nw2 hb hall (by exact zo) | have hn := nw1 hb hall (by exact zo) | have hn := nw0 hb hall (by exact zo)); obtain ⟨hc, hf, hn, hc0⟩ := hn; replace hall := hn; clear hn; have hz := hb.size; (try simp only [World.size_alloc, World.size_setCell, World.size_drew] at hz); have hx := hall; (try simp only [allLt, and_true] at hx); obtain ⟨w1, rfl⟩ : ∃ x, x = w2 := ⟨_, rfl⟩; (repeat (go_big_quiet_step (first | (go_at_call 28; first | exact calls_same (s_l01In _ _ _ true (by assumption) _) | exact calls_same (s_l01In _ _ _ false (by assumption) _) | exact calls_same (s_l01In _ _ _ _ rfl _))))); refine wpQuiet_nil ?_; intro w2 hw'; have hb := grew_below hw'; clear hw'; (first | have hn := nw4 hb hall (by exact zo) | have hn := nw3 hb hall (by exact zo) | have hn := nw2 hb hall (by exact zo) | have hn := nw1 hb hall (by exact zo) | have hn := nw0 hb hall (by exact zo)); obtain ⟨hc, hf, hn, hc0⟩ := hn; replace hall := hn; clear hn; have hz := hb.size; (try simp only [World.size_alloc, World.size_setCell, World.size_drew] at hz); have hx := hall; (try simp only [allLt, and_true] at hx); obtain ⟨w1, rfl⟩ : ∃ x, x = w2 := ⟨_, rfl⟩))
      have hB1 := HB1.out; have hB2 := HB2.out; have hB3 := HB3.out
      (refine bodyPost_ret (v := .tuple #[.agg #[.slice yco yvs.length ycc, .slice yuo M.f.used.length yuc, .slice yeo M.ents.length yec], .int .i64 3]) (by simp [results, Try.results48, go_sem, kwd_1_0, fwd_1_0, kwd_1_1, fwd_1_1, kwd_1_2, fwd_1_2, xwd_1, kwd_O_0, kwd_O_1, kwd_O_2]) rfl ?_; exact ⟨⟨⟨_, _, yvs⟩, _⟩, rfl, by (have hm := MOwn.mono (B' := w.heap.size + 1 + 1) (OK.out) (by exact zt); refine MOwn.mono (B := w.heap.size + 1 + 1) ?_ (by exact zt); (repeat (first | with_reducible exact hm | (with_reducible refine MOwn.offb ?_ (by omega) _) | (with_reducible refine MOwn.below ?_ ((Below.refl _ _).alloc (Nat.le_refl _) _)) | (with_reducible refine MOwn.below ?_ (Below.drew (Below.refl _ _))) | (refine MOwn.below ?_ (by with_reducible assumption))))), by exact bel⟩)
    · have hf : storeF M a v = 0 := by rw [HF.out, h1, h2]; rfl
      rw [HS.out hf, hf]
      clear hf
      (have hall := all_nil w; go_enter Try.func48, Try.ntmps48)
      go_wp2_with (first | (go_at_call 74; (refine (s_l07Copy (⟨⟨xz, xu, xvs⟩, xe⟩ : MV) M H1.out _ (HA.out.below (by exact bel))).mono ?_; rintro e w2 ⟨y, rfl, hyo, hb⟩; (obtain ⟨yco, ycc, yuo, yuc, yvs, yeo, yec, rfl⟩ := MOwn.shapes hyo); (obtain ⟨gc, gcc, hgc, -, -⟩ := Own.addr hyo.f.rows.out (show 0 < yvs.length by have := hyo.f.rows.len; dsimp only at this; have := getx_lt HRR.out; omega)); (simp only [Value.slice.injEq] at hgc); (obtain ⟨rfl, -, rfl⟩ := hgc); (have hyl := hyo.f.rows.len); (dsimp only at hyl); (have hfrv : (fr : Int) < (yvs.length : Nat) := by have := getx_lt HRR.out; omega); (have HL0 := Lib.hid hyo.lts); clear hyl; have OK := Lib.hid hyo; have HB1 := Lib.hid hb; obtain ⟨kwa_0_0, kwa_0_1, kwa_0_2⟩ := kp3 hb (w.heap.size) (xz) (xu) (xe); obtain ⟨kwa_1_0, fwa_1_0, kwa_1_1, fwa_1_1, kwa_1_2, fwa_1_2⟩ := kf3 hb (w.heap.size + 1) (.slice none 0 0) (.slice none 0 0) (.slice none 0 0); have xwa_0 : w.heap.size < w2.heap.size := xc hb; have xwa_1 : w.heap.size + 1 < w2.heap.size := xc hb; have hzwa := hb.size; (try simp only [World.size_alloc, World.size_setCell, World.size_drew] at hzwa); clear hyo; simp only [MV.val]; obtain ⟨wa, rfl⟩ : ∃ x, x = w2 := ⟨_, rfl⟩)) | (go_at_call 40; (refine (s_l07Entry (⟨⟨xz, xu, xvs⟩, xe⟩ : MV) M a ha9 _ (HA.out.below (by exact bel))).mono ?_; rintro e w2 ⟨rfl, hb⟩; rw [HQ.out]; (try rw [if_neg h0]); (try rw [if_pos h0]); have HB2 := Lib.hid hb; (have K2 := OK.out.below (w' := w2) (by exact bel)); (obtain ⟨v0, hv0⟩ := getx (show fr < yvs.length by omega)); (obtain ⟨gv, vc, rfl, hgvB, -⟩ := Own.addr (K2.f.rows.row fr v0 r hv0 HRR.out) (by omega)); (rw [hr16] at hv0); (obtain ⟨-, xgc, -, eb'⟩ := Own.slot K2.f.rows.out lenVal hv0); (have ecB := eb' 0 _ rfl); (simp only [Nat.mul_one, Nat.add_zero] at ecB); (obtain ⟨-, xgv, eB, zB⟩ := OwnI.slotI (K2.f.rows.row fr _ _ hv0 HRR.out) HZ.out); (have HV0 := Lib.hid hv0); (have hgva := (HL0.out gv (mem_v (x := (⟨.slice (some ⟨gc, 0, none⟩) yvs.length ycc, .slice yuo M.f.used.length yuc, yvs⟩ : FV)) hv0 gv (mem_one rfl) |> fun h => sub_right [.slice yeo M.ents.length yec] _ gv h)).2); (simp only [World.size_alloc] at hgvB); (have hn1 : ¬ wa.heap.size = gv := by omega); (have hn2 : ¬ gv = wa.heap.size := by omega); (have hn3 : ¬ w.heap.size + 1 = gv := by omega); (have hn4 : ¬ gv = w.heap.size + 1 := by omega); clear hv0 eb' K2;  obtain ⟨kwb_0_0, kwb_0_1, kwb_0_2⟩ := kp3 hb (w.heap.size) (xz) (xu) (xe); obtain ⟨kwb_1_0, fwb_1_0, kwb_1_1, fwb_1_1, kwb_1_2, fwb_1_2⟩ := kf3 hb (w.heap.size + 1) (.slice none 0 0) (.slice none 0 0) (.slice none 0 0); obtain ⟨kwb_O_0, fwb_O_0, kwb_O_1, fwb_O_1, kwb_O_2, fwb_O_2⟩ := kf3 hb (wa.heap.size) (.slice (some ⟨gc, 0, none⟩) yvs.length ycc) (.slice yuo M.f.used.length yuc) (.slice yeo M.ents.length yec); have xwb_0 : w.heap.size < w2.heap.size := xc hb; have xwb_1 : w.heap.size + 1 < w2.heap.size := xc hb; have xwb_O : wa.heap.size < w2.heap.size := xc hb; have hzwb := hb.size; (try simp only [World.size_alloc, World.size_setCell, World.size_drew] at hzwb); obtain ⟨wb, rfl⟩ : ∃ x, x = w2 := ⟨_, rfl⟩)) | (go_at_call 41; (refine (s_MachineOk (⟨⟨xz, xu, xvs⟩, xe⟩ : MV) M _ HM.out _ (HA.out.below (by exact bel))).mono ?_; rintro e w2 ⟨rfl, hb⟩; have HB3 := Lib.hid hb; obtain ⟨kwd_0_0, kwd_0_1, kwd_0_2⟩ := kp3 hb (w.heap.size) (xz) (xu) (xe); obtain ⟨kwd_1_0, fwd_1_0, kwd_1_1, fwd_1_1, kwd_1_2, fwd_1_2⟩ := kf3 hb (w.heap.size + 1) (.slice none 0 0) (.slice none 0 0) (.slice none 0 0); obtain ⟨kwd_O_0, fwd_O_0, kwd_O_1, fwd_O_1, kwd_O_2, fwd_O_2⟩ := kf3 hb (wa.heap.size) (.slice (some ⟨gc, 0, none⟩) yvs.length ycc) (.slice yuo M.f.used.length yuc) (.slice yeo M.ents.length yec); obtain ⟨kwd_E_0, kwd_E_1⟩ := kp2 hb (wb.heap.size) (.int .i64 em) (.int .i64 fr); have kwd_R0 : w2.cell? ⟨gc, fr, none⟩ = some (.slice (some ⟨gv, 0, none⟩) 16 vc) := kc hb; have kwd_R1 : w2.cell? ⟨gv, d, none⟩ = some (.int .i64 z) := kc hb; have fwd_R1 : w2.frozen? ⟨gv, d, none⟩ = false := fc hb; have xwd_0 : w.heap.size < w2.heap.size := xc hb; have xwd_1 : w.heap.size + 1 < w2.heap.size := xc hb; have xwd_O : wa.heap.size < w2.heap.size := xc hb; have xwd_E : wb.heap.size < w2.heap.size := xc hb; have xwd_GC : gc < w2.heap.size := xc hb; have xwd_GV : gv < w2.heap.size := xc hb; have hzwd := hb.size; (try simp only [World.size_alloc, World.size_setCell, World.size_drew] at hzwd); obtain ⟨wd, rfl⟩ : ∃ x, x = w2 := ⟨_, rfl⟩)) | (go_at_call 28; (first | (refine (s_l01In _ _ _ true (by assumption) _).mono ?_) | (refine (s_l01In _ _ _ false (by assumption) _).mono ?_) | (refine (s_l01In _ _ _ _ rfl _).mono ?_)); rintro e w2 ⟨rfl, rfl⟩) | (with_reducible refine wp_region_grew2 (by kernel_rfl) (by kernel_rfl) ?_; intro w2 hb; (first | have hn := nw4 hb hall (by exact zo) | have hn := nw3 hb hall (by exact zo) | have hn := nw2 hb hall (by exact zo) | have hn := nw1 hb hall (by exact zo) | have hn := nw0 hb hall (by exact zo)); obtain ⟨hc, hf, hn, hc0⟩ := hn; replace hall := hn; clear hn; have hz := hb.size; (try simp only [World.size_alloc, World.size_setCell, World.size_drew] at hz); have hx := hall; (try simp only [allLt, and_true] at hx); obtain ⟨w1, rfl⟩ : ∃ x, x = w2 := ⟨_, rfl⟩; (repeat (go_big_quiet_step (first | (go_at_call 28; first | exact calls_same (s_l01In _ _ _ true (by assumption) _) | exact calls_same (s_l01In _ _ _ false (by assumption) _) | exact calls_same (s_l01In _ _ _ _ rfl _))))); refine wpQuiet_nil ?_; intro w2 hw'; have hb := grew_below hw'; clear hw'; (first | have hn := nw4 hb hall (by exact zo) | have hn := nw3 hb hall (by exact zo) | have hn := nw2 hb hall (by exact zo) | have hn := nw1 hb hall (by exact zo) | have hn := nw0 hb hall (by exact zo)); obtain ⟨hc, hf, hn, hc0⟩ := hn; replace hall := hn; clear hn; have hz := hb.size; (try simp only [World.size_alloc, World.size_setCell, World.size_drew] at hz); have hx := hall; (try simp only [allLt, and_true] at hx); obtain ⟨w1, rfl⟩ : ∃ x, x = w2 := ⟨_, rfl⟩))
      have hB1 := HB1.out; have hB2 := HB2.out; have hB3 := HB3.out
      (refine bodyPost_ret (v := .tuple #[.agg #[.slice (some ⟨gc, 0, none⟩) yvs.length ycc, .slice yuo M.f.used.length yuc, .slice yeo M.ents.length yec], .int .i64 0]) (by simp [results, Try.results48, go_sem, kwd_1_0, fwd_1_0, kwd_1_1, fwd_1_1, kwd_1_2, fwd_1_2, xwd_1, kwd_O_0, kwd_O_1, kwd_O_2]) rfl ?_; refine ⟨⟨⟨_, _, yvs⟩, _⟩, rfl, ?_, by exact bel⟩)
      have K3 := OK.out.below (w' := wd) (by exact bel)
      have OZ := Lib.hid (MOwn.setCell K3 HV0.out HRR.out rfl d v)
      (have hm := MOwn.mono (B' := w.heap.size + 1 + 1) (OZ.out) (by exact zt); refine MOwn.mono (B := w.heap.size + 1 + 1) ?_ (by exact zt); (repeat (first | with_reducible exact hm | (with_reducible refine MOwn.offb ?_ (by omega) _) | (with_reducible refine MOwn.below ?_ ((Below.refl _ _).alloc (Nat.le_refl _) _)) | (with_reducible refine MOwn.below ?_ (Below.drew (Below.refl _ _))) | (refine MOwn.below ?_ (by with_reducible assumption)))))

end Go.Proofs.Ytobechjagckdfaa
/-
  When a machine is in order: plain facts on kernelOk for kernels that are changed at one place.
-/
set_option linter.unusedVariables false
set_option linter.unusedSimpArgs false
namespace Go.Proofs.Ytobechjagckdfaa
theorem onTo_pos (es : List Ent) (fr : Int) : ∀ n, 0 < (onTo es fr n).length ↔ ∃ i, i < n ∧ (es.getD i default).m ≠ 0 ∧ (es.getD i default).f = fr
  | 0 => by simp [onTo]
  | n + 1 => by
    rw [onTo, List.length_append]
    have ih := onTo_pos es fr n
    constructor
    · intro h
      by_cases h1 : 0 < (onTo es fr n).length
      · obtain ⟨i, hi, h2⟩ := ih.1 h1
        exact ⟨i, by omega, h2⟩
      · split at h
        · rename_i hc
          simp only [Bool.and_eq_true, bne_iff_ne, ne_eq, beq_iff_eq] at hc
          exact ⟨n, by omega, hc⟩
        · simp at h; simp [h] at h1
    · rintro ⟨i, hi, h1, h2⟩
      by_cases e : i = n
      · subst e
        have : ((es.getD i default).m != 0 && (es.getD i default).f == fr) = true := by rw [Bool.and_eq_true, bne_iff_ne, beq_iff_eq]; exact ⟨h1, h2⟩
        rw [if_pos this]; simp
      · have := ih.2 ⟨i, by omega, h1, h2⟩
        omega
theorem pagesOn_pos (es : List Ent) (fr : Int) : 0 < (pagesOn es fr).length ↔ ∃ (i : Nat) (e : Ent), es[i]? = some e ∧ e.m ≠ 0 ∧ e.f = fr := by
  unfold pagesOn
  rw [onTo_pos]
  constructor
  · rintro ⟨i, hi, h1, h2⟩
    refine ⟨i, es[i], List.getElem?_eq_getElem hi, ?_, ?_⟩
    · rwa [getD_of (List.getElem?_eq_getElem hi)] at h1
    · rwa [getD_of (List.getElem?_eq_getElem hi)] at h2
  · rintro ⟨i, e, hi, h1, h2⟩
    exact ⟨i, getx_lt hi, by rwa [getD_of hi], by rwa [getD_of hi]⟩
theorem pagesOn_nil {es : List Ent} {fr : Int} (h : ∀ (i : Nat) (e : Ent), es[i]? = some e → e.m ≠ 0 → e.f ≠ fr) : pagesOn es fr = [] := by
  rcases Nat.eq_zero_or_pos (pagesOn es fr).length with h0 | h0
  · exact List.length_eq_zero_iff.1 h0
  · obtain ⟨i, e, h1, h2, h3⟩ := (pagesOn_pos es fr).1 h0
    exact absurd h3 (h i e h1 h2)
/-- A machine in order, by its parts. -/
structure MOk (M : Mac) : Prop where
  n1 : 1 ≤ M.f.cells.length ∧ M.f.cells.length ≤ 32
  u1 : M.f.used.length = M.f.cells.length
  row : ∀ (i : Nat) (r : List Int) (u : Bool), M.f.cells[i]? = some r → M.f.used[i]? = some u → r.length = 16 ∧ ∀ (j : Nat) (x : Int), r[j]? = some x → 0 ≤ x ∧ x ≤ 999 ∧ (u = false → x = 0)
  e1 : 1 ≤ M.ents.length ∧ M.ents.length ≤ 32
  ent : ∀ (i : Nat) (e : Ent), M.ents[i]? = some e → 0 ≤ e.m ∧ e.m ≤ 2 ∧ 0 ≤ e.f ∧ (e.m = 0 → e.f = 0) ∧ (e.m ≠ 0 → e.f < M.f.used.length)
  use : ∀ (i : Nat) (u : Bool), M.f.used[i]? = some u → (u = true ↔ ∃ (k : Nat) (e : Ent), M.ents[k]? = some e ∧ e.m ≠ 0 ∧ e.f = i)
theorem rowOk_iff (r : List Int) (u : Bool) : rowOk r u = true ↔ r.length = 16 ∧ ∀ (j : Nat) (x : Int), r[j]? = some x → 0 ≤ x ∧ x ≤ 999 ∧ (u = false → x = 0) := by
  unfold rowOk
  rw [Bool.and_eq_true, beq_iff_eq, allTo_iff]
  constructor
  · rintro ⟨h16, h⟩
    refine ⟨h16, fun j x hx => ?_⟩
    have := h j (by have := getx_lt hx; omega)
    rw [getD_of hx, Bool.and_eq_true, between_iff, Bool.or_eq_true, beq_iff_eq] at this
    refine ⟨this.1.1, this.1.2, fun hu => ?_⟩
    subst hu
    simpa using this.2
  · rintro ⟨h16, h⟩
    refine ⟨h16, fun j hj => ?_⟩
    obtain ⟨x, hx⟩ := getx (xs := r) (k := j) (by omega)
    have := h j x hx
    rw [getD_of hx, Bool.and_eq_true, between_iff, Bool.or_eq_true, beq_iff_eq]
    refine ⟨⟨this.1, this.2.1⟩, ?_⟩
    cases u
    · exact .inl (this.2.2 rfl)
    · exact .inr rfl
theorem framesOk_iff (F : Frm) : framesOk F = true ↔ (1 ≤ F.cells.length ∧ F.cells.length ≤ 32) ∧ F.used.length = F.cells.length ∧ ∀ (i : Nat) (r : List Int) (u : Bool), F.cells[i]? = some r → F.used[i]? = some u → r.length = 16 ∧ ∀ (j : Nat) (x : Int), r[j]? = some x → 0 ≤ x ∧ x ≤ 999 ∧ (u = false → x = 0) := by
  unfold framesOk
  rw [Bool.and_eq_true, Bool.and_eq_true, between_iff, beq_iff_eq, allTo_iff]
  constructor
  · rintro ⟨⟨h1, h2⟩, h3⟩
    refine ⟨by omega, h2, fun i r u hr hu => ?_⟩
    have := h3 i (getx_lt hr)
    rw [getD_of hr, getD_of hu] at this
    exact (rowOk_iff r u).1 this
  · rintro ⟨h1, h2, h3⟩
    refine ⟨⟨by omega, h2⟩, fun i hi => ?_⟩
    obtain ⟨r, hr⟩ := getx (xs := F.cells) hi
    obtain ⟨u, hu⟩ := getx (xs := F.used) (k := i) (by omega)
    rw [getD_of hr, getD_of hu]
    exact (rowOk_iff r u).2 (h3 i r u hr hu)
theorem entOk_iff (e : Ent) (n : Nat) : entOk e n = true ↔ 0 ≤ e.m ∧ e.m ≤ 2 ∧ 0 ≤ e.f ∧ (e.m = 0 → e.f = 0) ∧ (e.m ≠ 0 → e.f < n) := by
  unfold entOk
  simp only [Bool.and_eq_true, between_iff, decide_eq_true_eq, Bool.not_eq_true', Bool.and_eq_false_iff, beq_eq_false_iff_ne, bne_eq_false_iff_eq, decide_eq_false_iff_not, ne_eq]
  constructor
  · rintro ⟨⟨⟨h1, h2⟩, h3⟩, h4⟩
    refine ⟨h1.1, h1.2, h2, fun h => ?_, fun h => ?_⟩
    · rcases h3 with h3 | h3
      · exact absurd h h3
      · exact h3
    · rcases h4 with h4 | h4
      · exact absurd h4 h
      · omega
  · rintro ⟨h1, h2, h3, h4, h5⟩
    refine ⟨⟨⟨⟨h1, h2⟩, h3⟩, ?_⟩, ?_⟩
    · by_cases h : e.m = 0
      · exact .inr (h4 h)
      · exact .inl h
    · by_cases h : e.m = 0
      · exact .inl h
      · exact .inr (by have := h5 h; omega)
theorem tableOk_iff (es : List Ent) (n : Nat) : tableOk es n = true ↔ (1 ≤ es.length ∧ es.length ≤ 32) ∧ ∀ (i : Nat) (e : Ent), es[i]? = some e → 0 ≤ e.m ∧ e.m ≤ 2 ∧ 0 ≤ e.f ∧ (e.m = 0 → e.f = 0) ∧ (e.m ≠ 0 → e.f < n) := by
  unfold tableOk
  rw [Bool.and_eq_true, between_iff, allTo_iff]
  constructor
  · rintro ⟨h1, h2⟩
    refine ⟨by omega, fun i e hi => ?_⟩
    have := h1 i (getx_lt hi)
    rw [getD_of hi] at this
    exact (entOk_iff e n).1 this
  · rintro ⟨h1, h2⟩
    refine ⟨fun i hi => ?_, by omega⟩
    obtain ⟨e, he⟩ := getx hi
    rw [getD_of he]
    exact (entOk_iff e n).2 (h2 i e he)
theorem machineOk_iff (M : Mac) : machineOk M = true ↔ MOk M := by
  unfold machineOk
  rw [Bool.and_eq_true, Bool.and_eq_true, framesOk_iff, tableOk_iff, allTo_iff]
  constructor
  · rintro ⟨⟨⟨h1, h2, h3⟩, h4, h5⟩, h6⟩
    refine ⟨h1, h2, h3, h4, h5, fun i u hu => ?_⟩
    have := h6 i (getx_lt hu)
    unfold usedOk at this
    rw [getD_of hu, beq_iff_eq] at this
    rw [← pagesOn_pos, this, decide_eq_true_eq]
    omega
  · rintro ⟨h1, h2, h3, h4, h5, h6⟩
    refine ⟨⟨⟨h1, h2, h3⟩, h4, h5⟩, fun i hi => ?_⟩
    obtain ⟨u, hu⟩ := getx hi
    unfold usedOk
    rw [getD_of hu, beq_iff_eq]
    have h := h6 i u hu
    rw [← pagesOn_pos] at h
    cases u
    · symm
      rw [decide_eq_false_iff_not]
      intro h0
      exact absurd (h.2 (by omega)) (by simp)
    · symm
      rw [decide_eq_true_eq]
      have := h.1 rfl
      omega
theorem kernelOk_iff (K : Ker) : kernelOk K = true ↔ (∀ x ∈ K.refuse, 0 ≤ x) ∧ (0 ≤ K.calls ∧ K.calls ≤ 100000) ∧ K.refuse.length ≤ 40 ∧ MOk K.m := by
  unfold kernelOk
  rw [Bool.and_eq_true, Bool.and_eq_true, Bool.and_eq_true, allTo_iff, between_iff, decide_eq_true_eq, machineOk_iff]
  constructor
  · rintro ⟨⟨⟨h1, h2⟩, h3⟩, h4⟩
    refine ⟨fun x hx => ?_, h2, by omega, h4⟩
    obtain ⟨i, hi⟩ := List.getElem?_of_mem hx
    have := h1 i (getx_lt hi)
    rw [getD_of hi] at this
    simpa using this
  · rintro ⟨h1, h2, h3, h4⟩
    refine ⟨⟨⟨fun i hi => ?_, h2⟩, by omega⟩, h4⟩
    obtain ⟨x, hx⟩ := getx hi
    rw [getD_of hx]
    simpa using h1 x (List.mem_of_getElem? hx)
theorem canCall_iff (K : Ker) : canCall K = true ↔ kernelOk K = true ∧ K.calls ≠ 100000 := by
  unfold canCall
  rw [Bool.and_eq_true, bne_iff_ne, and_comm]
theorem pageEntry_at {es : List Ent} {k : Nat} {e : Ent} (h : es[k]? = some e) : pageEntry es k = e := by
  have hl := getx_lt h
  unfold pageEntry
  rw [if_pos (between_iff.2 ⟨by omega, by omega⟩), Int.toNat_natCast, getD_of h]
theorem pageEntry_m {es : List Ent} {p : Int} (h : (pageEntry es p).m ≠ 0) : ∃ k : Nat, p = k ∧ es[k]? = some (pageEntry es p) := by
  unfold pageEntry at h ⊢
  split at h
  · rename_i hb
    rw [if_pos hb]
    rw [between_iff] at hb
    obtain ⟨k, rfl⟩ := Int.eq_ofNat_of_zero_le hb.1
    obtain ⟨e, he⟩ := getx (xs := es) (k := k) (by omega)
    exact ⟨k, rfl, by rw [Int.toNat_natCast, getD_of he]; exact he⟩
  · exact absurd rfl h
end Go.Proofs.Ytobechjagckdfaa
