/-
  A counted call of a kernel: is it granted?
-/
import Derived.Test.YtmblkllijjlkoaaGreatKCopyK
import Derived.Test.YtmblkllijjlkoaaGreatHas
set_option linter.unusedVariables false
set_option linter.unusedSimpArgs false
namespace Go.Proofs.YtmblkllijjlkoaaGreat
open Go.RowKit
def grantedB (K : Ker) : Bool := !hasI K.refuse K.calls
abbrev countedK (K : Ker) : Ker := ⟨K.m, K.calls + 1, K.refuse⟩
def NewKB (w : World) (K : Ker) (b : Bool) (e : Ending) (w' : World) : Prop := ∃ y : KV, e = .returned (.tuple #[y.val K.calls, .bool b]) ∧ KOwn w.heap.size w' y K ∧ Below w.heap.size w w'
theorem KOwn.counted {B : Nat} {w : World} {y : KV} {K : Ker} (h : KOwn B w y K) : KOwn B w y (countedK K) := ⟨h.m, h.ref, h.nd⟩
set_option maxRecDepth 20000 in
set_option maxHeartbeats 1600000 in
theorem i_counted (x : KV) (K : Ker) (hs : szK K ≤ 1048576) (hc : 0 ≤ K.calls ∧ K.calls ≤ 100000) (w : World) (ha : KAt w x K) : Calls Tryz.prog 118 #[x.val K.calls] w (NewKB w (countedK K) (grantedB K)) := by
  obtain ⟨m, r⟩ := x
  obtain ⟨rvo, rvc, hr, _, _⟩ := ha.ref.shape
  dsimp only at hr
  subst hr
  have HK := Lib.hid ha
  have H1 := Lib.hid hs
  simp only [KV.val]
  clear ha hs
  obtain ⟨b, hb⟩ : ∃ b, b = hasI K.refuse K.calls := ⟨_, rfl⟩
  have HG := Lib.hid hb.symm
  have HE : Hid (grantedB K = !b) := by unfold Hid grantedB; rw [hb]
  clear hb
  (have hall := all_nil w; go_enter Tryz.func118, Tryz.ntmps118)
  go_wp2_with (first | (go_at_call 54; (refine (i_copyKernel ⟨m, .slice rvo K.refuse.length rvc⟩ K H1.out _ (HK.out.below (by exact bel))).mono ?_; rintro e w2 ⟨y, rfl, hyo, hb⟩; (obtain ⟨yco, ycc, yuo, yuc, yvs, yeo, yec, yro, yrc, rfl⟩ := KOwn.shapes hyo); have OK := Lib.hid hyo; have HB1 := Lib.hid hb; obtain ⟨kwa_0_0, kwa_0_1, kwa_0_2, kwa_0_3, kwa_0_4⟩ := kp5 hb (w.heap.size) (m.f.c) (m.f.u) (m.e) (.int .i64 K.calls) (.slice rvo K.refuse.length rvc); obtain ⟨kwa_1_0, fwa_1_0, kwa_1_1, fwa_1_1, kwa_1_2, fwa_1_2, kwa_1_3, fwa_1_3, kwa_1_4, fwa_1_4⟩ := kf5 hb (w.heap.size + 1) (.slice none 0 0) (.slice none 0 0) (.slice none 0 0) (.int .i64 0) (.slice none 0 0); have xwa_0 : w.heap.size < w2.heap.size := xc hb; have xwa_1 : w.heap.size + 1 < w2.heap.size := xc hb; have hzwa := hb.size; (try simp only [World.size_alloc, World.size_setCell, World.size_drew] at hzwa); clear hyo; simp only [KV.val]; obtain ⟨wa, rfl⟩ : ∃ x, x = w2 := ⟨_, rfl⟩)) | (with_reducible refine wp_region_grew2 (by kernel_rfl) (by kernel_rfl) ?_; intro w2 hb; (first | have hn := nw4 hb hall (by exact zo) | have hn := nw3 hb hall (by exact zo) | have hn := nw2 hb hall (by exact zo) | have hn := nw1 hb hall (by exact zo) | have hn := nw0 hb hall (by exact zo)); obtain ⟨hc, hf, hn, hc0⟩ := hn; replace hall := hn; clear hn; have hz := hb.size; (try simp only [World.size_alloc, World.size_setCell, World.size_drew] at hz); have hx := hall; (try simp only [allLt, and_true] at hx); obtain ⟨w1, rfl⟩ : ∃ x, x = w2 := ⟨_, rfl⟩; (repeat (go_big_quiet_step (fail))); refine wpQuiet_nil ?_; intro w2 hw'; have hb := grew_below hw'; clear hw'; (first | have hn := nw4 hb hall (by exact zo) | have hn := nw3 hb hall (by exact zo) | have hn := nw2 hb hall (by exact zo) | have hn := nw1 hb hall (by exact zo) | have hn := nw0 hb hall (by exact zo)); obtain ⟨hc, hf, hn, hc0⟩ := hn; replace hall := hn; clear hn; have hz := hb.size; (try simp only [World.size_alloc, World.size_setCell, World.size_drew] at hz); have hx := hall; (try simp only [allLt, and_true] at hx); obtain ⟨w1, rfl⟩ : ∃ x, x = w2 := ⟨_, rfl⟩))
  go_region_held3 (fun w' => w'.cell? ⟨w.heap.size, 0, none⟩ = some (m.f.c) ∧ w'.cell? ⟨w.heap.size, 1, none⟩ = some (m.f.u) ∧ w'.cell? ⟨w.heap.size, 2, none⟩ = some (m.e) ∧ w'.cell? ⟨w.heap.size, 3, none⟩ = some (.int .i64 K.calls) ∧ w'.cell? ⟨w.heap.size, 4, none⟩ = some (.slice rvo K.refuse.length rvc) ∧ w'.cell? ⟨wa.heap.size, 0, none⟩ = some (.slice yco yvs.length ycc) ∧ w'.frozen? ⟨wa.heap.size, 0, none⟩ = false ∧ w'.cell? ⟨wa.heap.size, 1, none⟩ = some (.slice yuo K.m.f.used.length yuc) ∧ w'.frozen? ⟨wa.heap.size, 1, none⟩ = false ∧ w'.cell? ⟨wa.heap.size, 2, none⟩ = some (.slice yeo K.m.ents.length yec) ∧ w'.frozen? ⟨wa.heap.size, 2, none⟩ = false ∧ w'.cell? ⟨wa.heap.size, 3, none⟩ = some (.int .i64 (K.calls + 1)) ∧ w'.frozen? ⟨wa.heap.size, 3, none⟩ = false ∧ w'.cell? ⟨wa.heap.size, 4, none⟩ = some (.slice yro K.refuse.length yrc) ∧ w'.frozen? ⟨wa.heap.size, 4, none⟩ = false) (first | (refine ⟨?_, ?_, ?_, ?_, ?_, ?_, ?_, ?_, ?_, ?_, ?_, ?_, ?_, ?_, ?_⟩ <;> (go_simp; done)) | go_keep) (first | (go_at_call 157; refine (l_Contains _ K.refuse K.calls _ HG.out _ (HK.out.ref.below (by exact bel))).mono ?_; rintro e w2 ⟨rfl, rfl⟩))
  all_goals go_wp2
  skip
  all_goals (refine bodyPost_ret (v := .tuple #[.agg #[.slice yco yvs.length ycc, .slice yuo K.m.f.used.length yuc, .slice yeo K.m.ents.length yec, .int .i64 (K.calls + 1), .slice yro K.refuse.length yrc], .bool (!b)]) (by simp [results, Tryz.results118, go_sem, kwa_1_0, fwa_1_0, kwa_1_1, fwa_1_1, kwa_1_2, fwa_1_2, kwa_1_3, fwa_1_3, kwa_1_4, fwa_1_4, xwa_1]) rfl ?_)
  all_goals have hB1 := HB1.out
  all_goals refine ⟨⟨⟨⟨_, _, yvs⟩, _⟩, _⟩, by rw [HE.out]; rfl, by (have hm := KOwn.mono (B' := w.heap.size + 1 + 1) ((KOwn.counted OK.out)) (by exact zt); refine KOwn.mono (B := w.heap.size + 1 + 1) ?_ (by exact zt); (repeat (first | with_reducible exact hm | (with_reducible refine KOwn.offb ?_ (by omega) _) | (with_reducible refine KOwn.below ?_ ((Below.refl _ _).alloc (Nat.le_refl _) _)) | (with_reducible refine KOwn.below ?_ (Below.drew (Below.refl _ _))) | (refine KOwn.below ?_ (by with_reducible assumption))))), by exact bel⟩

end Go.Proofs.YtmblkllijjlkoaaGreat
