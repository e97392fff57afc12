/-
  Texts put together: KCopyK, Has, KCall.
-/
import Derived.Test.YtkkebpcclklmcaaGB13
import Derived.Deep.RegionHeld3
import Derived.Test.YtkkebpcclklmcaaGB7
/-
  Copies of machines and kernels.
-/
set_option linter.unusedVariables false
set_option linter.unusedSimpArgs false
namespace Go.Proofs.Ytkkebpcclklmcaa
open Go.RowKit
set_option maxRecDepth 20000 in
set_option maxHeartbeats 1600000 in
theorem i_copyMachine (x : MV) (M : Mac) (hs : szM M ≤ 1048576) (w : World) (ha : MAt w x M) : Calls Try.prog 65 #[x.val] w (NewM w M) := by
  obtain ⟨f, e⟩ := x
  have HF := Lib.hid ha.f; have HE := Lib.hid ha.ents
  dsimp only at HF HE
  simp only [MV.val]
  have hs1 : szF M.f ≤ 1048576 := by unfold szM at hs; omega
  have hs2 : M.ents.length ≤ 1048576 := by unfold szM at hs; omega
  have H1 := Lib.hid hs1; have H2 := Lib.hid hs2
  clear ha hs hs1 hs2
  (have hall := all_nil w; go_enter Try.func65, Try.ntmps65)
  go_wp2
  go_region_held3 (fun w' => w'.cell? ⟨w.heap.size, 0, none⟩ = some (f.c) ∧ w'.cell? ⟨w.heap.size, 1, none⟩ = some (f.u) ∧ w'.cell? ⟨w.heap.size, 2, none⟩ = some (e)) ((refine ⟨?_, ?_, ?_⟩ <;> (go_simp; done))) (first | (go_at_call 86; (refine (i_copyFrames f M.f H1.out _ (HF.out.below (by exact bel))).mono ?_; rintro e w2 ⟨y, rfl, hyo, hb⟩; (obtain ⟨yco, ycc, yuo, yuc, yvs, rfl⟩ := FOwn.shapes hyo); have OF := Lib.hid hyo; have HB1 := Lib.hid hb; obtain ⟨kwa_0_0, kwa_0_1, kwa_0_2⟩ := kp3 hb (w.heap.size) (f.c) (f.u) (e); obtain ⟨kwa_1_0, fwa_1_0, kwa_1_1, fwa_1_1, kwa_1_2, fwa_1_2⟩ := kf3 hb (w.heap.size + 1) (.slice none 0 0) (.slice none 0 0) (.slice none 0 0); have xwa_0 : w.heap.size < w2.heap.size := xc hb; have xwa_1 : w.heap.size + 1 < w2.heap.size := xc hb; have hzwa := hb.size; (try simp only [World.size_alloc, World.size_setCell, World.size_drew] at hzwa); clear hyo; simp only [FV.val]; obtain ⟨wa, rfl⟩ : ∃ x, x = w2 := ⟨_, rfl⟩)) | (go_at_call 87; (refine (i_copyTable _ M.ents H2.out _ (HE.out.below (by exact bel))).mono ?_; rintro e w2 ⟨e', rfl, heo, hb⟩; obtain ⟨eo, ec, rfl, -, -⟩ := heo.shape; have OE := Lib.hid heo; have HB2 := Lib.hid hb; obtain ⟨kwb_0_0, kwb_0_1, kwb_0_2⟩ := kp3 hb (w.heap.size) (f.c) (f.u) (e); obtain ⟨kwb_1_0, fwb_1_0, kwb_1_1, fwb_1_1, kwb_1_2, fwb_1_2⟩ := kf3 hb (w.heap.size + 1) (.slice none 0 0) (.slice none 0 0) (.slice none 0 0); have xwb_0 : w.heap.size < w2.heap.size := xc hb; have xwb_1 : w.heap.size + 1 < w2.heap.size := xc hb; have hzwb := hb.size; (try simp only [World.size_alloc, World.size_setCell, World.size_drew] at hzwb); clear heo; obtain ⟨wb, rfl⟩ : ∃ x, x = w2 := ⟨_, rfl⟩)))
  all_goals go_wp2
  skip
  refine bodyPost_ret (v := .agg #[.slice yco yvs.length ycc, .slice yuo M.f.used.length yuc, .slice eo M.ents.length ec]) (by simp [results, Try.results65, go_sem, kwb_1_0, fwb_1_0, kwb_1_1, fwb_1_1, kwb_1_2, fwb_1_2, xwb_1]) rfl ?_
  have hB1 := HB1.out; have hB2 := HB2.out
  refine ⟨⟨⟨_, _, yvs⟩, _⟩, rfl, ⟨by (have hm := FOwn.mono (B' := w.heap.size + 1 + 1) (OF.out) (by exact zt); refine FOwn.mono (B := w.heap.size + 1 + 1) ?_ (by exact zt); (repeat (first | with_reducible exact hm | (with_reducible refine FOwn.offb ?_ (by omega) _) | (refine FOwn.below ?_ (by with_reducible assumption))))), by (have hm := Own.mono (B' := w.heap.size + 1 + 1) (OE.out) (by exact zt); refine Own.mono (B := w.heap.size + 1 + 1) ?_ (by exact zt); (repeat (first | with_reducible exact hm | (with_reducible refine Own.offb ?_ (by omega) _)))), ?_⟩, by exact bel⟩
  exact nodup_blocks (l := [_]) (nodup_one _) OF.out.nd (fun g hg hm => by have h1 := (Own.lts OE.out) g hg; have h2 := (OF.out.lts) g hm; simp only [World.size_alloc, World.size_setCell, World.size_drew] at h1 h2; omega)

set_option maxRecDepth 20000 in
set_option maxHeartbeats 1600000 in
theorem s_l07Copy (x : MV) (M : Mac) (hs : szM M ≤ 1048576) (w : World) (ha : MAt w x M) : Calls Try.prog 85 #[x.val] w (NewM w M) := by
  obtain ⟨f, e⟩ := x
  have HF := Lib.hid ha.f; have HE := Lib.hid ha.ents
  dsimp only at HF HE
  simp only [MV.val]
  have hs1 : szF M.f ≤ 1048576 := by unfold szM at hs; omega
  have hs2 : M.ents.length ≤ 1048576 := by unfold szM at hs; omega
  have H1 := Lib.hid hs1; have H2 := Lib.hid hs2
  clear ha hs hs1 hs2
  (have hall := all_nil w; go_enter Try.func85, Try.ntmps85)
  go_wp2
  go_region_held3 (fun w' => w'.cell? ⟨w.heap.size, 0, none⟩ = some (f.c) ∧ w'.cell? ⟨w.heap.size, 1, none⟩ = some (f.u) ∧ w'.cell? ⟨w.heap.size, 2, none⟩ = some (e)) ((refine ⟨?_, ?_, ?_⟩ <;> (go_simp; done))) (first | (go_at_call 92; (refine (s_l05Copy f M.f H1.out _ (HF.out.below (by exact bel))).mono ?_; rintro e w2 ⟨y, rfl, hyo, hb⟩; (obtain ⟨yco, ycc, yuo, yuc, yvs, rfl⟩ := FOwn.shapes hyo); have OF := Lib.hid hyo; have HB1 := Lib.hid hb; obtain ⟨kwa_0_0, kwa_0_1, kwa_0_2⟩ := kp3 hb (w.heap.size) (f.c) (f.u) (e); obtain ⟨kwa_1_0, fwa_1_0, kwa_1_1, fwa_1_1, kwa_1_2, fwa_1_2⟩ := kf3 hb (w.heap.size + 1) (.slice none 0 0) (.slice none 0 0) (.slice none 0 0); have xwa_0 : w.heap.size < w2.heap.size := xc hb; have xwa_1 : w.heap.size + 1 < w2.heap.size := xc hb; have hzwa := hb.size; (try simp only [World.size_alloc, World.size_setCell, World.size_drew] at hzwa); clear hyo; simp only [FV.val]; obtain ⟨wa, rfl⟩ : ∃ x, x = w2 := ⟨_, rfl⟩)) | (go_at_call 93; (refine (s_l06Copy _ M.ents H2.out _ (HE.out.below (by exact bel))).mono ?_; rintro e w2 ⟨e', rfl, heo, hb⟩; obtain ⟨eo, ec, rfl, -, -⟩ := heo.shape; have OE := Lib.hid heo; have HB2 := Lib.hid hb; obtain ⟨kwb_0_0, kwb_0_1, kwb_0_2⟩ := kp3 hb (w.heap.size) (f.c) (f.u) (e); obtain ⟨kwb_1_0, fwb_1_0, kwb_1_1, fwb_1_1, kwb_1_2, fwb_1_2⟩ := kf3 hb (w.heap.size + 1) (.slice none 0 0) (.slice none 0 0) (.slice none 0 0); have xwb_0 : w.heap.size < w2.heap.size := xc hb; have xwb_1 : w.heap.size + 1 < w2.heap.size := xc hb; have hzwb := hb.size; (try simp only [World.size_alloc, World.size_setCell, World.size_drew] at hzwb); clear heo; obtain ⟨wb, rfl⟩ : ∃ x, x = w2 := ⟨_, rfl⟩)))
  all_goals go_wp2
  skip
  refine bodyPost_ret (v := .agg #[.slice yco yvs.length ycc, .slice yuo M.f.used.length yuc, .slice eo M.ents.length ec]) (by simp [results, Try.results85, go_sem, kwb_1_0, fwb_1_0, kwb_1_1, fwb_1_1, kwb_1_2, fwb_1_2, xwb_1]) rfl ?_
  have hB1 := HB1.out; have hB2 := HB2.out
  refine ⟨⟨⟨_, _, yvs⟩, _⟩, rfl, ⟨by (have hm := FOwn.mono (B' := w.heap.size + 1 + 1) (OF.out) (by exact zt); refine FOwn.mono (B := w.heap.size + 1 + 1) ?_ (by exact zt); (repeat (first | with_reducible exact hm | (with_reducible refine FOwn.offb ?_ (by omega) _) | (refine FOwn.below ?_ (by with_reducible assumption))))), by (have hm := Own.mono (B' := w.heap.size + 1 + 1) (OE.out) (by exact zt); refine Own.mono (B := w.heap.size + 1 + 1) ?_ (by exact zt); (repeat (first | with_reducible exact hm | (with_reducible refine Own.offb ?_ (by omega) _)))), ?_⟩, by exact bel⟩
  exact nodup_blocks (l := [_]) (nodup_one _) OF.out.nd (fun g hg hm => by have h1 := (Own.lts OE.out) g hg; have h2 := (OF.out.lts) g hm; simp only [World.size_alloc, World.size_setCell, World.size_drew] at h1 h2; omega)

set_option maxRecDepth 20000 in
set_option maxHeartbeats 1600000 in
theorem i_copyKernel (x : KV) (K : Ker) (hs : szK K ≤ 1048576) (w : World) (ha : KAt w x K) : Calls Try.prog 37 #[x.val K.calls] w (NewK w K) := by
  obtain ⟨m, r⟩ := x
  obtain ⟨rvo, rvc, hr, _, _⟩ := ha.ref.shape
  dsimp only at hr
  subst hr
  have HM := Lib.hid ha.m; have HR := Lib.hid ha.ref
  dsimp only at HM HR
  simp only [KV.val]
  have hs1 : szM K.m ≤ 1048576 := by unfold szK at hs; omega
  have hs2 : K.refuse.length ≤ 1048576 := by unfold szK at hs; omega
  have H1 := Lib.hid hs1; have H2 := Lib.hid hs2
  clear ha hs hs1
  (have hall := all_nil w; go_enter Try.func37, Try.ntmps37)
  go_wp2
  go_region_held3 (fun w' => w'.cell? ⟨w.heap.size, 0, none⟩ = some (m.f.c) ∧ w'.cell? ⟨w.heap.size, 1, none⟩ = some (m.f.u) ∧ w'.cell? ⟨w.heap.size, 2, none⟩ = some (m.e) ∧ w'.cell? ⟨w.heap.size, 3, none⟩ = some (.int .i64 K.calls) ∧ w'.cell? ⟨w.heap.size, 4, none⟩ = some (.slice rvo K.refuse.length rvc)) ((refine ⟨?_, ?_, ?_, ?_, ?_⟩ <;> (go_simp; done))) (first | (go_at_call 65; (refine (i_copyMachine m K.m H1.out _ (HM.out.below (by exact bel))).mono ?_; rintro e w2 ⟨y, rfl, hyo, hb⟩; (obtain ⟨yco, ycc, yuo, yuc, yvs, yeo, yec, rfl⟩ := MOwn.shapes hyo); have OM := Lib.hid hyo; have HB1 := Lib.hid hb; obtain ⟨kwa_0_0, kwa_0_1, kwa_0_2, kwa_0_3, kwa_0_4⟩ := kp5 hb (w.heap.size) (m.f.c) (m.f.u) (m.e) (.int .i64 K.calls) (.slice rvo K.refuse.length rvc); obtain ⟨kwa_1_0, fwa_1_0, kwa_1_1, fwa_1_1, kwa_1_2, fwa_1_2, kwa_1_3, fwa_1_3, kwa_1_4, fwa_1_4⟩ := kf5 hb (w.heap.size + 1) (.slice none 0 0) (.slice none 0 0) (.slice none 0 0) (.int .i64 0) (.slice none 0 0); have xwa_0 : w.heap.size < w2.heap.size := xc hb; have xwa_1 : w.heap.size + 1 < w2.heap.size := xc hb; have hzwa := hb.size; (try simp only [World.size_alloc, World.size_setCell, World.size_drew] at hzwa); clear hyo; simp only [MV.val]; obtain ⟨wa, rfl⟩ : ∃ x, x = w2 := ⟨_, rfl⟩)) | (go_at_call 51; (refine (i_copyInts _ K.refuse H2.out _ (HR.out.below (by exact bel))).mono ?_; rintro e w2 ⟨r', rfl, hro, hb⟩; obtain ⟨ro, rc, rfl, -, -⟩ := hro.shape; have OI := Lib.hid hro; have HB2 := Lib.hid hb; obtain ⟨kwb_0_0, kwb_0_1, kwb_0_2, kwb_0_3, kwb_0_4⟩ := kp5 hb (w.heap.size) (m.f.c) (m.f.u) (m.e) (.int .i64 K.calls) (.slice rvo K.refuse.length rvc); obtain ⟨kwb_1_0, fwb_1_0, kwb_1_1, fwb_1_1, kwb_1_2, fwb_1_2, kwb_1_3, fwb_1_3, kwb_1_4, fwb_1_4⟩ := kf5 hb (w.heap.size + 1) (.slice none 0 0) (.slice none 0 0) (.slice none 0 0) (.int .i64 0) (.slice none 0 0); have xwb_0 : w.heap.size < w2.heap.size := xc hb; have xwb_1 : w.heap.size + 1 < w2.heap.size := xc hb; have hzwb := hb.size; (try simp only [World.size_alloc, World.size_setCell, World.size_drew] at hzwb); clear hro; obtain ⟨wb, rfl⟩ : ∃ x, x = w2 := ⟨_, rfl⟩)))
  all_goals go_wp2
  skip
  refine bodyPost_ret (v := .agg #[.slice yco yvs.length ycc, .slice yuo K.m.f.used.length yuc, .slice yeo K.m.ents.length yec, .int .i64 K.calls, .slice ro K.refuse.length rc]) (by simp [results, Try.results37, go_sem, kwb_1_0, fwb_1_0, kwb_1_1, fwb_1_1, kwb_1_2, fwb_1_2, kwb_1_3, fwb_1_3, kwb_1_4, fwb_1_4, xwb_1]) rfl ?_
  have hB1 := HB1.out; have hB2 := HB2.out
  have OM2 : MOwn (w.heap.size + 1 + 1) wb _ K.m := (OM.out.below (by exact bel)).mono (by exact zt)
  refine ⟨⟨⟨⟨_, _, yvs⟩, _⟩, _⟩, rfl, ⟨by (have hm := MOwn.mono (B' := w.heap.size + 1 + 1) (OM2) (by exact zt); refine MOwn.mono (B := w.heap.size + 1 + 1) ?_ (by exact zt); (repeat (first | with_reducible exact hm | (with_reducible refine MOwn.offb ?_ (by omega) _)))), by (have hm := Own.mono (B' := w.heap.size + 1 + 1) (OI.out) (by exact zt); refine Own.mono (B := w.heap.size + 1 + 1) ?_ (by exact zt); (repeat (first | with_reducible exact hm | (with_reducible refine Own.offb ?_ (by omega) _)))), ?_⟩, by exact bel⟩
  exact nodup_blocks (l := [_]) (nodup_one _) OM.out.nd (fun g hg hm => by have h1 := (Own.lts OI.out) g hg; have h2 := (OM.out.lts) g hm; simp only [World.size_alloc, World.size_setCell, World.size_drew] at h1 h2; omega)

end Go.Proofs.Ytkkebpcclklmcaa
/-
  Does a slice of ints hold a number?
-/
set_option linter.unusedVariables false
set_option linter.unusedSimpArgs false
namespace Go.Proofs.Ytkkebpcclklmcaa
open Go.RowKit
theorem lecz (x y : Int) : (x ≤ y ∧ decide (x ≤ y) = true) ∨ (¬ x ≤ y ∧ decide (x ≤ y) = false) := by
  by_cases h : x ≤ y
  · exact .inl ⟨h, by simpa using h⟩
  · exact .inr ⟨h, by simpa using h⟩
def hasTo (xs : List Int) (x : Int) : Nat → Bool
  | 0 => false
  | k + 1 => hasTo xs x k || xs.getD k 0 == x
def hasI (xs : List Int) (x : Int) : Bool := hasTo xs x xs.length
theorem hasTo_succ {xs : List Int} {x y : Int} {k : Nat} (h : xs[k]? = some y) : hasTo xs x (k + 1) = (hasTo xs x k || y == x) := by rw [hasTo, getD_of h]
theorem hasTo_true {xs : List Int} {x : Int} {k n : Nat} (hk : k < n) (h : (xs.getD k 0 == x) = true) : hasTo xs x n = true := by
  induction n with
  | zero => omega
  | succ n ih =>
    rw [hasTo]
    rcases Nat.lt_or_ge k n with h1 | h1
    · rw [ih h1]; rfl
    · obtain rfl : k = n := by omega
      rw [h, Bool.or_true]
def IdxOf (b : Bool) (w : World) (e : Ending) (w' : World) : Prop := ∃ i : Int, e = .returned (.int .i64 i) ∧ decide (0 ≤ i) = b ∧ w = w'
theorem l_Index (va : Value) (xs : List Int) (x : Int) (w : World) (ha : IntsAt w va xs) : Calls Try.prog 95 #[va, .int .i64 x] w (IdxOf (hasI xs x) w) := by
  obtain ⟨ao, ca, rfl, _, hm, hra⟩ := IntsAt.open ha
  have hle : xs.length ≤ 9223372036854775807 := by unfold maxLen at hm; omega
  clear ha hm
  have HA := Lib.hid hra; clear hra
  (have hall := all_nil w; go_enter Try.func95, Try.ntmps95)
  go_wp2_with (fail)
  go_loop [8] (fun i => ∃ k : Nat, k ≤ xs.length ∧ i = .int .i64 k ∧ hasTo xs x k = false) (fun i => xs.length - (intOf i).toNat)
  case atStart => exact ⟨0, Nat.zero_le _, rfl, rfl⟩
  case round =>
    obtain ⟨k, hk, rfl, hn⟩ := hrel
    have HN := Lib.hid hn; clear hn
    by_cases hlt : k < xs.length
    · have hlt' : (k : Int) < xs.length := by omega
      obtain ⟨y, hy⟩ := getx hlt
      obtain ⟨g, o, rfl, hg, c0⟩ := HA.out k y hy
      have HS := Lib.hid (hasTo_succ (x := x) hy)
      have HY := Lib.hid (getD_of (d := 0) hy)
      clear hy
      rcases eqc y x with ⟨b1, b2⟩ | ⟨b1, b2⟩
      all_goals rcases eqc x y with ⟨b3, b4⟩ | ⟨b3, b4⟩
      · go_wp2_with (fail)
        all_goals go_ret
        all_goals exact ⟨k, rfl, by rw [show hasI xs x = true from hasTo_true hlt (by rw [HY.out]; exact b1)]; simp, rfl⟩
      · exfalso; simp at b1 b3; omega
      · exfalso; simp at b1 b3; omega
      · go_wp2_with (fail)
        all_goals go_round
        case rel => exact ⟨k + 1, by omega, by go_num, by rw [HS.out, HN.out, b1]; rfl⟩
        case measure => simp [intOf]; omega
    · have hlt' : ¬ (k : Int) < xs.length := by omega
      obtain rfl : k = xs.length := by omega
      go_wp2_with (fail)
      all_goals go_ret
      all_goals exact ⟨-1, rfl, by rw [show hasI xs x = false from HN.out]; rfl, rfl⟩
theorem l_Contains (va : Value) (xs : List Int) (x : Int) (r : Bool) (hr : hasI xs x = r) (w : World) (ha : IntsAt w va xs) : Calls Try.prog 94 #[va, .int .i64 x] w fun e w' => e = .returned (.bool r) ∧ w = w' := by
  subst hr
  have HA := Lib.hid ha; clear ha
  (have hall := all_nil w; go_enter Try.func94, Try.ntmps94)
  go_wp2_with fail
  refine (l_Index va xs x _ HA.out).mono ?_
  rintro e w2 ⟨i, rfl, hi, rfl⟩
  have HI := Lib.hid hi; clear hi
  rcases lecz 0 i with ⟨b1, b2⟩ | ⟨b1, b2⟩
  all_goals go_wp2
  all_goals go_ret
  all_goals exact ⟨by rw [← HI.out, b2]; rfl, rfl⟩
theorem s_l08Has (va : Value) (xs : List Int) (x : Int) (r : Bool) (hr : hasI xs x = r) (w : World) (ha : IntsAt w va xs) : Calls Try.prog 61 #[va, .int .i64 x] w fun e w' => e = .returned (.bool r) ∧ w = w' := by
  subst hr
  obtain ⟨ao, ca, rfl, _, hm, hra⟩ := IntsAt.open ha
  have hle : xs.length ≤ 9223372036854775807 := by unfold maxLen at hm; omega
  clear ha hm
  have HA := Lib.hid hra; clear hra
  (have hall := all_nil w; go_enter Try.func61, Try.ntmps61)
  go_wp2_with (fail)
  go_loop [5] (fun i => ∃ k : Nat, k ≤ xs.length ∧ i = .int .i64 k ∧ hasTo xs x k = false) (fun i => xs.length - (intOf i).toNat)
  case atStart => exact ⟨0, Nat.zero_le _, rfl, rfl⟩
  case round =>
    obtain ⟨k, hk, rfl, hn⟩ := hrel
    have HN := Lib.hid hn; clear hn
    by_cases hlt : k < xs.length
    · have hlt' : (k : Int) < xs.length := by omega
      obtain ⟨y, hy⟩ := getx hlt
      obtain ⟨g, o, rfl, hg, c0⟩ := HA.out k y hy
      have HS := Lib.hid (hasTo_succ (x := x) hy)
      have HY := Lib.hid (getD_of (d := 0) hy)
      clear hy
      rcases eqc y x with ⟨b1, b2⟩ | ⟨b1, b2⟩
      all_goals rcases eqc x y with ⟨b3, b4⟩ | ⟨b3, b4⟩
      · go_wp2_with (fail)
        all_goals go_ret
        all_goals exact ⟨ret_bool (a := true) (by rw [show hasI xs x = true from hasTo_true hlt (by rw [HY.out]; exact b1)]), rfl⟩
      · exfalso; simp at b1 b3; omega
      · exfalso; simp at b1 b3; omega
      · go_wp2_with (fail)
        all_goals go_round
        case rel => exact ⟨k + 1, by omega, by go_num, by rw [HS.out, HN.out, b1]; rfl⟩
        case measure => simp [intOf]; omega
    · have hlt' : ¬ (k : Int) < xs.length := by omega
      obtain rfl : k = xs.length := by omega
      go_wp2_with (fail)
      all_goals go_ret
      all_goals exact ⟨ret_bool (a := false) (by rw [show hasI xs x = false from HN.out]), rfl⟩
end Go.Proofs.Ytkkebpcclklmcaa
/-
  A counted call of a kernel: is it granted?
-/
set_option linter.unusedVariables false
set_option linter.unusedSimpArgs false
namespace Go.Proofs.Ytkkebpcclklmcaa
open Go.RowKit
def grantedB (K : Ker) : Bool := !hasI K.refuse K.calls
abbrev countedK (K : Ker) : Ker := ⟨K.m, K.calls + 1, K.refuse⟩
def NewKB (w : World) (K : Ker) (b : Bool) (e : Ending) (w' : World) : Prop := ∃ y : KV, e = .returned (.tuple #[y.val K.calls, .bool b]) ∧ KOwn w.heap.size w' y K ∧ Below w.heap.size w w'
theorem KOwn.counted {B : Nat} {w : World} {y : KV} {K : Ker} (h : KOwn B w y K) : KOwn B w y (countedK K) := ⟨h.m, h.ref, h.nd⟩
set_option maxRecDepth 20000 in
set_option maxHeartbeats 1600000 in
theorem i_counted (x : KV) (K : Ker) (hs : szK K ≤ 1048576) (hc : 0 ≤ K.calls ∧ K.calls ≤ 100000) (w : World) (ha : KAt w x K) : Calls Try.prog 88 #[x.val K.calls] w (NewKB w (countedK K) (grantedB K)) := by
  obtain ⟨m, r⟩ := x
  obtain ⟨rvo, rvc, hr, _, _⟩ := ha.ref.shape
  dsimp only at hr
  subst hr
  have HK := Lib.hid ha
  have H1 := Lib.hid hs
  simp only [KV.val]
  clear ha hs
  obtain ⟨b, hb⟩ : ∃ b, b = hasI K.refuse K.calls := ⟨_, rfl⟩
  have HG := Lib.hid hb.symm
  have HE : Hid (grantedB K = !b) := by unfold Hid grantedB; rw [hb]
  clear hb
  (have hall := all_nil w; go_enter Try.func88, Try.ntmps88)
  go_wp2_with (first | (go_at_call 37; (refine (i_copyKernel ⟨m, .slice rvo K.refuse.length rvc⟩ K H1.out _ (HK.out.below (by exact bel))).mono ?_; rintro e w2 ⟨y, rfl, hyo, hb⟩; (obtain ⟨yco, ycc, yuo, yuc, yvs, yeo, yec, yro, yrc, rfl⟩ := KOwn.shapes hyo); have OK := Lib.hid hyo; have HB1 := Lib.hid hb; obtain ⟨kwa_0_0, kwa_0_1, kwa_0_2, kwa_0_3, kwa_0_4⟩ := kp5 hb (w.heap.size) (m.f.c) (m.f.u) (m.e) (.int .i64 K.calls) (.slice rvo K.refuse.length rvc); obtain ⟨kwa_1_0, fwa_1_0, kwa_1_1, fwa_1_1, kwa_1_2, fwa_1_2, kwa_1_3, fwa_1_3, kwa_1_4, fwa_1_4⟩ := kf5 hb (w.heap.size + 1) (.slice none 0 0) (.slice none 0 0) (.slice none 0 0) (.int .i64 0) (.slice none 0 0); have xwa_0 : w.heap.size < w2.heap.size := xc hb; have xwa_1 : w.heap.size + 1 < w2.heap.size := xc hb; have hzwa := hb.size; (try simp only [World.size_alloc, World.size_setCell, World.size_drew] at hzwa); clear hyo; simp only [KV.val]; obtain ⟨wa, rfl⟩ : ∃ x, x = w2 := ⟨_, rfl⟩)) | (with_reducible refine wp_region_grew2 (by kernel_rfl) (by kernel_rfl) ?_; intro w2 hb; (first | have hn := nw4 hb hall (by exact zo) | have hn := nw3 hb hall (by exact zo) | have hn := nw2 hb hall (by exact zo) | have hn := nw1 hb hall (by exact zo) | have hn := nw0 hb hall (by exact zo)); obtain ⟨hc, hf, hn, hc0⟩ := hn; replace hall := hn; clear hn; have hz := hb.size; (try simp only [World.size_alloc, World.size_setCell, World.size_drew] at hz); have hx := hall; (try simp only [allLt, and_true] at hx); obtain ⟨w1, rfl⟩ : ∃ x, x = w2 := ⟨_, rfl⟩; (repeat (go_big_quiet_step (fail))); refine wpQuiet_nil ?_; intro w2 hw'; have hb := grew_below hw'; clear hw'; (first | have hn := nw4 hb hall (by exact zo) | have hn := nw3 hb hall (by exact zo) | have hn := nw2 hb hall (by exact zo) | have hn := nw1 hb hall (by exact zo) | have hn := nw0 hb hall (by exact zo)); obtain ⟨hc, hf, hn, hc0⟩ := hn; replace hall := hn; clear hn; have hz := hb.size; (try simp only [World.size_alloc, World.size_setCell, World.size_drew] at hz); have hx := hall; (try simp only [allLt, and_true] at hx); obtain ⟨w1, rfl⟩ : ∃ x, x = w2 := ⟨_, rfl⟩))
  go_region_held3 (fun w' => w'.cell? ⟨w.heap.size, 0, none⟩ = some (m.f.c) ∧ w'.cell? ⟨w.heap.size, 1, none⟩ = some (m.f.u) ∧ w'.cell? ⟨w.heap.size, 2, none⟩ = some (m.e) ∧ w'.cell? ⟨w.heap.size, 3, none⟩ = some (.int .i64 K.calls) ∧ w'.cell? ⟨w.heap.size, 4, none⟩ = some (.slice rvo K.refuse.length rvc) ∧ w'.cell? ⟨wa.heap.size, 0, none⟩ = some (.slice yco yvs.length ycc) ∧ w'.frozen? ⟨wa.heap.size, 0, none⟩ = false ∧ w'.cell? ⟨wa.heap.size, 1, none⟩ = some (.slice yuo K.m.f.used.length yuc) ∧ w'.frozen? ⟨wa.heap.size, 1, none⟩ = false ∧ w'.cell? ⟨wa.heap.size, 2, none⟩ = some (.slice yeo K.m.ents.length yec) ∧ w'.frozen? ⟨wa.heap.size, 2, none⟩ = false ∧ w'.cell? ⟨wa.heap.size, 3, none⟩ = some (.int .i64 (K.calls + 1)) ∧ w'.frozen? ⟨wa.heap.size, 3, none⟩ = false ∧ w'.cell? ⟨wa.heap.size, 4, none⟩ = some (.slice yro K.refuse.length yrc) ∧ w'.frozen? ⟨wa.heap.size, 4, none⟩ = false) (first | (refine ⟨?_, ?_, ?_, ?_, ?_, ?_, ?_, ?_, ?_, ?_, ?_, ?_, ?_, ?_, ?_⟩ <;> (go_simp; done)) | go_keep) (first | (go_at_call 94; refine (l_Contains _ K.refuse K.calls _ HG.out _ (HK.out.ref.below (by exact bel))).mono ?_; rintro e w2 ⟨rfl, rfl⟩))
  all_goals go_wp2
  skip
  all_goals (refine bodyPost_ret (v := .tuple #[.agg #[.slice yco yvs.length ycc, .slice yuo K.m.f.used.length yuc, .slice yeo K.m.ents.length yec, .int .i64 (K.calls + 1), .slice yro K.refuse.length yrc], .bool (!b)]) (by simp [results, Try.results88, go_sem, kwa_1_0, fwa_1_0, kwa_1_1, fwa_1_1, kwa_1_2, fwa_1_2, kwa_1_3, fwa_1_3, kwa_1_4, fwa_1_4, xwa_1]) rfl ?_)
  all_goals have hB1 := HB1.out
  all_goals refine ⟨⟨⟨⟨_, _, yvs⟩, _⟩, _⟩, by rw [HE.out]; rfl, by (have hm := KOwn.mono (B' := w.heap.size + 1 + 1) ((KOwn.counted OK.out)) (by exact zt); refine KOwn.mono (B := w.heap.size + 1 + 1) ?_ (by exact zt); (repeat (first | with_reducible exact hm | (with_reducible refine KOwn.offb ?_ (by omega) _) | (with_reducible refine KOwn.below ?_ ((Below.refl _ _).alloc (Nat.le_refl _) _)) | (with_reducible refine KOwn.below ?_ (Below.drew (Below.refl _ _))) | (refine KOwn.below ?_ (by with_reducible assumption))))), by exact bel⟩

end Go.Proofs.Ytkkebpcclklmcaa
