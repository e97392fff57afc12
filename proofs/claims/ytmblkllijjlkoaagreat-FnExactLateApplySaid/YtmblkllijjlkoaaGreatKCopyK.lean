/-
  Copies of machines and kernels.
-/
import Derived.Test.YtmblkllijjlkoaaGreatKCopyF
import Derived.Deep.RegionHeld3
set_option linter.unusedVariables false
set_option linter.unusedSimpArgs false
namespace Go.Proofs.YtmblkllijjlkoaaGreat
open Go.RowKit
set_option maxRecDepth 20000 in
set_option maxHeartbeats 1600000 in
theorem i_copyMachine (x : MV) (M : Mac) (hs : szM M ≤ 1048576) (w : World) (ha : MAt w x M) : Calls Tryz.prog 96 #[x.val] w (NewM w M) := by
  obtain ⟨f, e⟩ := x
  have HF := Lib.hid ha.f; have HE := Lib.hid ha.ents
  dsimp only at HF HE
  simp only [MV.val]
  have hs1 : szF M.f ≤ 1048576 := by unfold szM at hs; omega
  have hs2 : M.ents.length ≤ 1048576 := by unfold szM at hs; omega
  have H1 := Lib.hid hs1; have H2 := Lib.hid hs2
  clear ha hs hs1 hs2
  (have hall := all_nil w; go_enter Tryz.func96, Tryz.ntmps96)
  go_wp2
  go_region_held3 (fun w' => w'.cell? ⟨w.heap.size, 0, none⟩ = some (f.c) ∧ w'.cell? ⟨w.heap.size, 1, none⟩ = some (f.u) ∧ w'.cell? ⟨w.heap.size, 2, none⟩ = some (e)) (first | (refine ⟨?_, ?_, ?_⟩ <;> (go_simp; done)) | go_keep) (first | (go_at_call 136; (refine (i_copyFrames f M.f H1.out _ (HF.out.below (by exact bel))).mono ?_; rintro e w2 ⟨y, rfl, hyo, hb⟩; (obtain ⟨yco, ycc, yuo, yuc, yvs, rfl⟩ := FOwn.shapes hyo); have OF := Lib.hid hyo; have HB1 := Lib.hid hb; obtain ⟨kwa_0_0, kwa_0_1, kwa_0_2⟩ := kp3 hb (w.heap.size) (f.c) (f.u) (e); obtain ⟨kwa_1_0, fwa_1_0, kwa_1_1, fwa_1_1, kwa_1_2, fwa_1_2⟩ := kf3 hb (w.heap.size + 1) (.slice none 0 0) (.slice none 0 0) (.slice none 0 0); have xwa_0 : w.heap.size < w2.heap.size := xc hb; have xwa_1 : w.heap.size + 1 < w2.heap.size := xc hb; have hzwa := hb.size; (try simp only [World.size_alloc, World.size_setCell, World.size_drew] at hzwa); clear hyo; simp only [FV.val]; obtain ⟨wa, rfl⟩ : ∃ x, x = w2 := ⟨_, rfl⟩)) | (go_at_call 137; (refine (i_copyTable _ M.ents H2.out _ (HE.out.below (by exact bel))).mono ?_; rintro e w2 ⟨e', rfl, heo, hb⟩; obtain ⟨eo, ec, rfl, -, -⟩ := heo.shape; have OE := Lib.hid heo; have HB2 := Lib.hid hb; obtain ⟨kwb_0_0, kwb_0_1, kwb_0_2⟩ := kp3 hb (w.heap.size) (f.c) (f.u) (e); obtain ⟨kwb_1_0, fwb_1_0, kwb_1_1, fwb_1_1, kwb_1_2, fwb_1_2⟩ := kf3 hb (w.heap.size + 1) (.slice none 0 0) (.slice none 0 0) (.slice none 0 0); have xwb_0 : w.heap.size < w2.heap.size := xc hb; have xwb_1 : w.heap.size + 1 < w2.heap.size := xc hb; have hzwb := hb.size; (try simp only [World.size_alloc, World.size_setCell, World.size_drew] at hzwb); clear heo; obtain ⟨wb, rfl⟩ : ∃ x, x = w2 := ⟨_, rfl⟩)))
  all_goals go_wp2
  skip
  refine bodyPost_ret (v := .agg #[.slice yco yvs.length ycc, .slice yuo M.f.used.length yuc, .slice eo M.ents.length ec]) (by simp [results, Tryz.results96, go_sem, kwb_1_0, fwb_1_0, kwb_1_1, fwb_1_1, kwb_1_2, fwb_1_2, xwb_1]) rfl ?_
  have hB1 := HB1.out; have hB2 := HB2.out
  refine ⟨⟨⟨_, _, yvs⟩, _⟩, rfl, ⟨by (have hm := FOwn.mono (B' := w.heap.size + 1 + 1) (OF.out) (by exact zt); refine FOwn.mono (B := w.heap.size + 1 + 1) ?_ (by exact zt); (repeat (first | with_reducible exact hm | (with_reducible refine FOwn.offb ?_ (by omega) _) | (with_reducible refine FOwn.below ?_ ((Below.refl _ _).alloc (Nat.le_refl _) _)) | (with_reducible refine FOwn.below ?_ (Below.drew (Below.refl _ _))) | (refine FOwn.below ?_ (by with_reducible assumption))))), by (have hm := Own.mono (B' := w.heap.size + 1 + 1) (OE.out) (by exact zt); refine Own.mono (B := w.heap.size + 1 + 1) ?_ (by exact zt); (repeat (first | with_reducible exact hm | (with_reducible refine Own.offb ?_ (by omega) _) | (with_reducible refine Own.below ?_ ((Below.refl _ _).alloc (Nat.le_refl _) _)) | (with_reducible refine Own.below ?_ (Below.drew (Below.refl _ _))) | (refine Own.below ?_ (by with_reducible assumption))))), ?_⟩, by exact bel⟩
  exact nodup_blocks (l := [_]) (nodup_one _) OF.out.nd (fun g hg hm => by have h1 := (Own.lts OE.out) g hg; have h2 := (OF.out.lts) g hm; simp only [World.size_alloc, World.size_setCell, World.size_drew] at h1 h2; omega)

set_option maxRecDepth 20000 in
set_option maxHeartbeats 1600000 in
theorem s_l07Copy (x : MV) (M : Mac) (hs : szM M ≤ 1048576) (w : World) (ha : MAt w x M) : Calls Tryz.prog 89 #[x.val] w (NewM w M) := by
  obtain ⟨f, e⟩ := x
  have HF := Lib.hid ha.f; have HE := Lib.hid ha.ents
  dsimp only at HF HE
  simp only [MV.val]
  have hs1 : szF M.f ≤ 1048576 := by unfold szM at hs; omega
  have hs2 : M.ents.length ≤ 1048576 := by unfold szM at hs; omega
  have H1 := Lib.hid hs1; have H2 := Lib.hid hs2
  clear ha hs hs1 hs2
  (have hall := all_nil w; go_enter Tryz.func89, Tryz.ntmps89)
  go_wp2
  go_region_held3 (fun w' => w'.cell? ⟨w.heap.size, 0, none⟩ = some (f.c) ∧ w'.cell? ⟨w.heap.size, 1, none⟩ = some (f.u) ∧ w'.cell? ⟨w.heap.size, 2, none⟩ = some (e)) (first | (refine ⟨?_, ?_, ?_⟩ <;> (go_simp; done)) | go_keep) (first | (go_at_call 127; (refine (s_l05Copy f M.f H1.out _ (HF.out.below (by exact bel))).mono ?_; rintro e w2 ⟨y, rfl, hyo, hb⟩; (obtain ⟨yco, ycc, yuo, yuc, yvs, rfl⟩ := FOwn.shapes hyo); have OF := Lib.hid hyo; have HB1 := Lib.hid hb; obtain ⟨kwa_0_0, kwa_0_1, kwa_0_2⟩ := kp3 hb (w.heap.size) (f.c) (f.u) (e); obtain ⟨kwa_1_0, fwa_1_0, kwa_1_1, fwa_1_1, kwa_1_2, fwa_1_2⟩ := kf3 hb (w.heap.size + 1) (.slice none 0 0) (.slice none 0 0) (.slice none 0 0); have xwa_0 : w.heap.size < w2.heap.size := xc hb; have xwa_1 : w.heap.size + 1 < w2.heap.size := xc hb; have hzwa := hb.size; (try simp only [World.size_alloc, World.size_setCell, World.size_drew] at hzwa); clear hyo; simp only [FV.val]; obtain ⟨wa, rfl⟩ : ∃ x, x = w2 := ⟨_, rfl⟩)) | (go_at_call 128; (refine (s_l06Copy _ M.ents H2.out _ (HE.out.below (by exact bel))).mono ?_; rintro e w2 ⟨e', rfl, heo, hb⟩; obtain ⟨eo, ec, rfl, -, -⟩ := heo.shape; have OE := Lib.hid heo; have HB2 := Lib.hid hb; obtain ⟨kwb_0_0, kwb_0_1, kwb_0_2⟩ := kp3 hb (w.heap.size) (f.c) (f.u) (e); obtain ⟨kwb_1_0, fwb_1_0, kwb_1_1, fwb_1_1, kwb_1_2, fwb_1_2⟩ := kf3 hb (w.heap.size + 1) (.slice none 0 0) (.slice none 0 0) (.slice none 0 0); have xwb_0 : w.heap.size < w2.heap.size := xc hb; have xwb_1 : w.heap.size + 1 < w2.heap.size := xc hb; have hzwb := hb.size; (try simp only [World.size_alloc, World.size_setCell, World.size_drew] at hzwb); clear heo; obtain ⟨wb, rfl⟩ : ∃ x, x = w2 := ⟨_, rfl⟩)))
  all_goals go_wp2
  skip
  refine bodyPost_ret (v := .agg #[.slice yco yvs.length ycc, .slice yuo M.f.used.length yuc, .slice eo M.ents.length ec]) (by simp [results, Tryz.results89, go_sem, kwb_1_0, fwb_1_0, kwb_1_1, fwb_1_1, kwb_1_2, fwb_1_2, xwb_1]) rfl ?_
  have hB1 := HB1.out; have hB2 := HB2.out
  refine ⟨⟨⟨_, _, yvs⟩, _⟩, rfl, ⟨by (have hm := FOwn.mono (B' := w.heap.size + 1 + 1) (OF.out) (by exact zt); refine FOwn.mono (B := w.heap.size + 1 + 1) ?_ (by exact zt); (repeat (first | with_reducible exact hm | (with_reducible refine FOwn.offb ?_ (by omega) _) | (with_reducible refine FOwn.below ?_ ((Below.refl _ _).alloc (Nat.le_refl _) _)) | (with_reducible refine FOwn.below ?_ (Below.drew (Below.refl _ _))) | (refine FOwn.below ?_ (by with_reducible assumption))))), by (have hm := Own.mono (B' := w.heap.size + 1 + 1) (OE.out) (by exact zt); refine Own.mono (B := w.heap.size + 1 + 1) ?_ (by exact zt); (repeat (first | with_reducible exact hm | (with_reducible refine Own.offb ?_ (by omega) _) | (with_reducible refine Own.below ?_ ((Below.refl _ _).alloc (Nat.le_refl _) _)) | (with_reducible refine Own.below ?_ (Below.drew (Below.refl _ _))) | (refine Own.below ?_ (by with_reducible assumption))))), ?_⟩, by exact bel⟩
  exact nodup_blocks (l := [_]) (nodup_one _) OF.out.nd (fun g hg hm => by have h1 := (Own.lts OE.out) g hg; have h2 := (OF.out.lts) g hm; simp only [World.size_alloc, World.size_setCell, World.size_drew] at h1 h2; omega)

set_option maxRecDepth 20000 in
set_option maxHeartbeats 1600000 in
theorem i_copyKernel (x : KV) (K : Ker) (hs : szK K ≤ 1048576) (w : World) (ha : KAt w x K) : Calls Tryz.prog 54 #[x.val K.calls] w (NewK w K) := by
  obtain ⟨m, r⟩ := x
  obtain ⟨rvo, rvc, hr, _, _⟩ := ha.ref.shape
  dsimp only at hr
  subst hr
  have HM := Lib.hid ha.m; have HR := Lib.hid ha.ref
  dsimp only at HM HR
  simp only [KV.val]
  have hs1 : szM K.m ≤ 1048576 := by unfold szK at hs; omega
  have hs2 : K.refuse.length ≤ 1048576 := by unfold szK at hs; omega
  have H1 := Lib.hid hs1; have H2 := Lib.hid hs2
  clear ha hs hs1
  (have hall := all_nil w; go_enter Tryz.func54, Tryz.ntmps54)
  go_wp2
  go_region_held3 (fun w' => w'.cell? ⟨w.heap.size, 0, none⟩ = some (m.f.c) ∧ w'.cell? ⟨w.heap.size, 1, none⟩ = some (m.f.u) ∧ w'.cell? ⟨w.heap.size, 2, none⟩ = some (m.e) ∧ w'.cell? ⟨w.heap.size, 3, none⟩ = some (.int .i64 K.calls) ∧ w'.cell? ⟨w.heap.size, 4, none⟩ = some (.slice rvo K.refuse.length rvc)) (first | (refine ⟨?_, ?_, ?_, ?_, ?_⟩ <;> (go_simp; done)) | go_keep) (first | (go_at_call 96; (refine (i_copyMachine m K.m H1.out _ (HM.out.below (by exact bel))).mono ?_; rintro e w2 ⟨y, rfl, hyo, hb⟩; (obtain ⟨yco, ycc, yuo, yuc, yvs, yeo, yec, rfl⟩ := MOwn.shapes hyo); have OM := Lib.hid hyo; have HB1 := Lib.hid hb; obtain ⟨kwa_0_0, kwa_0_1, kwa_0_2, kwa_0_3, kwa_0_4⟩ := kp5 hb (w.heap.size) (m.f.c) (m.f.u) (m.e) (.int .i64 K.calls) (.slice rvo K.refuse.length rvc); obtain ⟨kwa_1_0, fwa_1_0, kwa_1_1, fwa_1_1, kwa_1_2, fwa_1_2, kwa_1_3, fwa_1_3, kwa_1_4, fwa_1_4⟩ := kf5 hb (w.heap.size + 1) (.slice none 0 0) (.slice none 0 0) (.slice none 0 0) (.int .i64 0) (.slice none 0 0); have xwa_0 : w.heap.size < w2.heap.size := xc hb; have xwa_1 : w.heap.size + 1 < w2.heap.size := xc hb; have hzwa := hb.size; (try simp only [World.size_alloc, World.size_setCell, World.size_drew] at hzwa); clear hyo; simp only [MV.val]; obtain ⟨wa, rfl⟩ : ∃ x, x = w2 := ⟨_, rfl⟩)) | (go_at_call 97; (refine (i_copyInts _ K.refuse H2.out _ (HR.out.below (by exact bel))).mono ?_; rintro e w2 ⟨r', rfl, hro, hb⟩; obtain ⟨ro, rc, rfl, -, -⟩ := hro.shape; have OI := Lib.hid hro; have HB2 := Lib.hid hb; obtain ⟨kwb_0_0, kwb_0_1, kwb_0_2, kwb_0_3, kwb_0_4⟩ := kp5 hb (w.heap.size) (m.f.c) (m.f.u) (m.e) (.int .i64 K.calls) (.slice rvo K.refuse.length rvc); obtain ⟨kwb_1_0, fwb_1_0, kwb_1_1, fwb_1_1, kwb_1_2, fwb_1_2, kwb_1_3, fwb_1_3, kwb_1_4, fwb_1_4⟩ := kf5 hb (w.heap.size + 1) (.slice none 0 0) (.slice none 0 0) (.slice none 0 0) (.int .i64 0) (.slice none 0 0); have xwb_0 : w.heap.size < w2.heap.size := xc hb; have xwb_1 : w.heap.size + 1 < w2.heap.size := xc hb; have hzwb := hb.size; (try simp only [World.size_alloc, World.size_setCell, World.size_drew] at hzwb); clear hro; obtain ⟨wb, rfl⟩ : ∃ x, x = w2 := ⟨_, rfl⟩)))
  all_goals go_wp2
  skip
  refine bodyPost_ret (v := .agg #[.slice yco yvs.length ycc, .slice yuo K.m.f.used.length yuc, .slice yeo K.m.ents.length yec, .int .i64 K.calls, .slice ro K.refuse.length rc]) (by simp [results, Tryz.results54, go_sem, kwb_1_0, fwb_1_0, kwb_1_1, fwb_1_1, kwb_1_2, fwb_1_2, kwb_1_3, fwb_1_3, kwb_1_4, fwb_1_4, xwb_1]) rfl ?_
  have hB1 := HB1.out; have hB2 := HB2.out
  have OM2 : MOwn (w.heap.size + 1 + 1) wb _ K.m := (OM.out.below (by exact bel)).mono (by exact zt)
  refine ⟨⟨⟨⟨_, _, yvs⟩, _⟩, _⟩, rfl, ⟨by (have hm := MOwn.mono (B' := w.heap.size + 1 + 1) (OM2) (by exact zt); refine MOwn.mono (B := w.heap.size + 1 + 1) ?_ (by exact zt); (repeat (first | with_reducible exact hm | (with_reducible refine MOwn.offb ?_ (by omega) _) | (with_reducible refine MOwn.below ?_ ((Below.refl _ _).alloc (Nat.le_refl _) _)) | (with_reducible refine MOwn.below ?_ (Below.drew (Below.refl _ _))) | (refine MOwn.below ?_ (by with_reducible assumption))))), by (have hm := Own.mono (B' := w.heap.size + 1 + 1) (OI.out) (by exact zt); refine Own.mono (B := w.heap.size + 1 + 1) ?_ (by exact zt); (repeat (first | with_reducible exact hm | (with_reducible refine Own.offb ?_ (by omega) _) | (with_reducible refine Own.below ?_ ((Below.refl _ _).alloc (Nat.le_refl _) _)) | (with_reducible refine Own.below ?_ (Below.drew (Below.refl _ _))) | (refine Own.below ?_ (by with_reducible assumption))))), ?_⟩, by exact bel⟩
  exact nodup_blocks (l := [_]) (nodup_one _) OM.out.nd (fun g hg hm => by have h1 := (Own.lts OI.out) g hg; have h2 := (OM.out.lts) g hm; simp only [World.size_alloc, World.size_setCell, World.size_drew] at h1 h2; omega)

end Go.Proofs.YtmblkllijjlkoaaGreat
