/-
  Texts put together: LateI.
-/
import Derived.Test.YtobechjagckdfaaGLT18
import Derived.Test.YtobechjagckdfaaGLT10
import Derived.Deep.RegionHeld3
import Derived.Deep.DeepCutAuto
/-
  Frees that had to wait: the implementation.
-/
set_option linter.unusedVariables false
set_option linter.unusedSimpArgs false
namespace Go.Proofs.Ytobechjagckdfaa
open Go.RowKit
set_option maxRecDepth 20000 in
set_option maxHeartbeats 25600000 in
theorem i_LateApply (x : KV) (K : Ker) (u : Value) (ss : List Sp) (v : Value) (xs : List Lt) (hs : szK K ≤ 1048576) (hss : ss.length ≤ 1048576) (hx : xs.length ≤ 1048576) (w : World) (ha : KAt w x K) (hu : SpansAt w u ss) (hv : LtAt w v xs) : Calls Try.prog 8 #[x.val K.calls, u, v] w (NewLA w (laRun xs K ss)) := by
  obtain ⟨⟨⟨xz, xu, xvs⟩, xe⟩, xr⟩ := x
  obtain ⟨uao, uca, hue0, hl3, hl4⟩ := hu.sl.shape
  have HU := Lib.hid hu.sl
  subst hue0
  obtain ⟨vao, vca, rfl, hl5, hl6, hrd⟩ := LtAt.open hv
  have HK := Lib.hid ha
  have HR := Lib.hid hrd
  have H1 := Lib.hid hs
  have H4 := Lib.hid hss
  have hsm : ss.length ≤ 9223372036854775807 := by omega
  have hxm : xs.length ≤ 9223372036854775807 := by omega
  have HXL := Lib.hid hx
  simp only [KV.val]
  obtain ⟨TE, hTE⟩ : ∃ T, laRun xs K ss = T := ⟨_, rfl⟩
  rw [hTE]
  have HTE := Lib.hid hTE
  clear ha hs hu hl3 hl4 hl5 hl6 hv hrd hss hx hTE
  (have hall := all_nil w; go_enter Try.func8, Try.ntmps8)
  go_wp2_with (first | (go_at_call 25; (refine (i_copyKernel (⟨⟨⟨xz, xu, xvs⟩, xe⟩, xr⟩ : KV) K H1.out _ (HK.out.below (by exact bel))).mono ?_; rintro e w2 ⟨y, rfl, hyo, hb⟩; (obtain ⟨yco, ycc, yuo, yuc, yvs, yeo, yec, yro, yrc, rfl⟩ := KOwn.shapes hyo); have OK := Lib.hid hyo; have HB1 := Lib.hid hb; obtain ⟨kwa_0_0, kwa_0_1, kwa_0_2, kwa_0_3, kwa_0_4⟩ := kp5 hb (w.heap.size) (xz) (xu) (xe) (.int .i64 K.calls) (xr); obtain ⟨kwa_1_0, fwa_1_0, kwa_1_1, fwa_1_1, kwa_1_2, fwa_1_2, kwa_1_3, fwa_1_3, kwa_1_4, fwa_1_4⟩ := kf5 hb (w.heap.size + 1) (.slice none 0 0) (.slice none 0 0) (.slice none 0 0) (.int .i64 0) (.slice none 0 0); have xwa_0 : w.heap.size < w2.heap.size := xc hb; have xwa_1 : w.heap.size + 1 < w2.heap.size := xc hb; have hzwa := hb.size; (try simp only [World.size_alloc, World.size_setCell, World.size_drew] at hzwa); (have q2 : w.heap.size < w2.heap.size := by omega); clear hyo; simp only [KV.val]; obtain ⟨wa, rfl⟩ : ∃ x, x = w2 := ⟨_, rfl⟩)) | (at_builtin; refine wpList_appendAll elemSpan rfl _ _ rfl lenSpan oneSpan rfl (Own.empty' _ _ _ (wa.heap.size + 1) _ _ (by first | rfl | simp) (by exact zt)) (by exact zt) rfl (HU.out.below (by have hB1 := HB1.out; exact bel)) (by have h4 := H4.out; simp only [List.length_nil, maxLen]; omega) ?_; intro u w2 hown2 hgr2 hat2 hb; (try simp only [List.nil_append] at hown2); obtain ⟨uo, uc, rfl, -, -⟩ := hown2.shape; have OU := Lib.hid hown2; have HB2 := Lib.hid hb; clear hown2 hgr2 hat2; obtain ⟨kwb_1_0, fwb_1_0, kwb_1_1, fwb_1_1, kwb_1_2, fwb_1_2, kwb_1_3, fwb_1_3, kwb_1_4, fwb_1_4⟩ := kf5 hb (w.heap.size + 1) (.slice none 0 0) (.slice none 0 0) (.slice none 0 0) (.int .i64 0) (.slice none 0 0); obtain ⟨kwb_O_0, fwb_O_0, kwb_O_1, fwb_O_1, kwb_O_2, fwb_O_2, kwb_O_3, fwb_O_3, kwb_O_4, fwb_O_4⟩ := kf5 hb (wa.heap.size) (.slice yco yvs.length ycc) (.slice yuo K.m.f.used.length yuc) (.slice yeo K.m.ents.length yec) (.int .i64 (K.calls)) (.slice yro K.refuse.length yrc); have xwb_1 : w.heap.size + 1 < w2.heap.size := xc hb; have xwb_O : wa.heap.size < w2.heap.size := xc hb; have hzwb := hb.size; (try simp only [World.size_alloc, World.size_setCell, World.size_drew] at hzwb); (have q3 : w.heap.size < w2.heap.size := by omega); (have q4 : wa.heap.size ≤ w2.heap.size := by omega); obtain ⟨wb, rfl⟩ : ∃ x, x = w2 := ⟨_, rfl⟩) | (with_reducible refine wp_region_grew2 (by kernel_rfl) (by kernel_rfl) ?_; intro w2 hb; (first | have hn := nw4 hb hall (by exact zo) | have hn := nw3 hb hall (by exact zo) | have hn := nw2 hb hall (by exact zo) | have hn := nw1 hb hall (by exact zo) | have hn := nw0 hb hall (by exact zo)); obtain ⟨hc, hf, hn, hc0⟩ := hn; replace hall := hn; clear hn; have hz := hb.size; (try simp only [World.size_alloc, World.size_setCell, World.size_drew] at hz); have hx := hall; (try simp only [allLt, and_true] at hx); obtain ⟨w1, rfl⟩ : ∃ x, x = w2 := ⟨_, rfl⟩; (repeat (go_big_quiet_step (fail))); refine wpQuiet_nil ?_; intro w2 hw'; have hb := grew_below hw'; clear hw'; (first | have hn := nw4 hb hall (by exact zo) | have hn := nw3 hb hall (by exact zo) | have hn := nw2 hb hall (by exact zo) | have hn := nw1 hb hall (by exact zo) | have hn := nw0 hb hall (by exact zo)); obtain ⟨hc, hf, hn, hc0⟩ := hn; replace hall := hn; clear hn; have hz := hb.size; (try simp only [World.size_alloc, World.size_setCell, World.size_drew] at hz); have hx := hall; (try simp only [allLt, and_true] at hx); obtain ⟨w1, rfl⟩ : ∃ x, x = w2 := ⟨_, rfl⟩))
  have HBZ : Hid (Below w.heap.size w wb) := Lib.hid (by have hb1 := HB1.out; have hb2 := HB2.out; exact bel)
  go_loopw [11, 25] (fun l m wr => ∃ (n : Nat) (k : Ker) (sp : List Sp) (left : List Lt) (y : KV) (lo : Option Addr) (lc : Nat), l = (.slice lo left.length lc) ∧ m = .int .i64 (n : Int) ∧ n ≤ xs.length ∧ laTo xs n ⟨K, ss, []⟩ = ⟨k, sp, left⟩ ∧ szK k ≤ 1048576 ∧ sp.length = ss.length ∧ left.length ≤ n ∧ BoxAt wr (wa.heap.size) [y.m.f.c, y.m.f.u, y.m.e, .int .i64 k.calls, y.r] ∧ BoxAt wr (w.heap.size + 1) [.slice none 0 0, .slice none 0 0, .slice none 0 0, .int .i64 0, .slice none 0 0] ∧ KOwn (w.heap.size + 1 + 1) wr y k ∧ OwnSp (w.heap.size + 1 + 1) wr (.slice uo ss.length uc) sp ∧ OwnLt (w.heap.size + 1 + 1) wr (.slice lo left.length lc) left ∧ wa.heap.size ∉ blocks y.all ∧ wa.heap.size ∉ blocks [(.slice uo ss.length uc)] ∧ wa.heap.size ∉ blocks [(.slice lo left.length lc)] ∧ (∀ g ∈ blocks y.all, g ∉ blocks [(.slice uo ss.length uc)]) ∧ (∀ g ∈ blocks y.all, g ∉ blocks [(.slice lo left.length lc)]) ∧ (∀ g ∈ blocks [(.slice uo ss.length uc)], g ∉ blocks [(.slice lo left.length lc)]) ∧ Below w.heap.size w wr) (fun _ m _ => xs.length - (intOf m).toNat)
  case atStart =>
    refine ⟨0, K, ss, [], ⟨⟨⟨.slice yco yvs.length ycc, .slice yuo K.m.f.used.length yuc, yvs⟩, .slice yeo K.m.ents.length yec⟩, .slice yro K.refuse.length yrc⟩, _, _, rfl, rfl, Nat.zero_le _, rfl, H1.out, rfl, Nat.zero_le _, (BoxAt.snoc (BoxAt.snoc (BoxAt.snoc (BoxAt.snoc (BoxAt.snoc (BoxAt.nil (w := _) (g := wa.heap.size) (by first | assumption | exact zt | (go_simp; done))) (v := .slice yco yvs.length ycc) (i := 0) rfl (by first | assumption | exact zt | (go_simp; done)) (by first | assumption | exact zt | (go_simp; done))) (v := .slice yuo K.m.f.used.length yuc) (i := 1) rfl (by first | assumption | exact zt | (go_simp; done)) (by first | assumption | exact zt | (go_simp; done))) (v := .slice yeo K.m.ents.length yec) (i := 2) rfl (by first | assumption | exact zt | (go_simp; done)) (by first | assumption | exact zt | (go_simp; done))) (v := .int .i64 (K.calls)) (i := 3) rfl (by first | assumption | exact zt | (go_simp; done)) (by first | assumption | exact zt | (go_simp; done))) (v := .slice yro K.refuse.length yrc) (i := 4) rfl (by first | assumption | exact zt | (go_simp; done)) (by first | assumption | exact zt | (go_simp; done))), (BoxAt.snoc (BoxAt.snoc (BoxAt.snoc (BoxAt.snoc (BoxAt.snoc (BoxAt.nil (w := _) (g := w.heap.size + 1) (by first | assumption | exact zt | (go_simp; done))) (v := .slice none 0 0) (i := 0) rfl (by first | assumption | exact zt | (go_simp; done)) (by first | assumption | exact zt | (go_simp; done))) (v := .slice none 0 0) (i := 1) rfl (by first | assumption | exact zt | (go_simp; done)) (by first | assumption | exact zt | (go_simp; done))) (v := .slice none 0 0) (i := 2) rfl (by first | assumption | exact zt | (go_simp; done)) (by first | assumption | exact zt | (go_simp; done))) (v := .int .i64 0) (i := 3) rfl (by first | assumption | exact zt | (go_simp; done)) (by first | assumption | exact zt | (go_simp; done))) (v := .slice none 0 0) (i := 4) rfl (by first | assumption | exact zt | (go_simp; done)) (by first | assumption | exact zt | (go_simp; done))), (OK.out.below (by have hb2 := HB2.out; exact bel)).mono (by exact zt), (Own.below OU.out (by exact bel)).mono (by exact zt), Own.empty' _ _ _ _ _ _ rfl (by exact zt), ?_, ?_, ?_, ?_, ?_, ?_, by (have hBZ := HBZ.out; exact bel)⟩
    · intro hm; have h1 := (OK.out.lts _ hm).2; omega
    · intro hm; have h1 := (Own.lts OU.out _ hm).1; omega
    · intro hm; have h1 := one_blk hm; (simp [Value.ownBlock] at h1) <;> omega
    · intro g hg hm; have h1 := (Own.lts OU.out g hm).1; have h2 := (OK.out.lts g hg).2; omega
    · intro g hg hm; have h1 := one_blk hm; have h2 := (OK.out.lts g hg).2; (simp [Value.ownBlock] at h1) <;> omega
    · intro g hg hm; have h1 := one_blk hm; have h2 := (Own.lts OU.out g hg).2; (simp [Value.ownBlock] at h1) <;> omega
  case round =>
    clear OK OU HK HU H1 HB1 HB2 HBZ
    clear kwa_0_0 kwa_0_1 kwa_0_2 kwa_0_3 kwa_0_4 kwa_1_0 fwa_1_0 kwa_1_1 fwa_1_1 kwa_1_2 fwa_1_2 kwa_1_3 fwa_1_3 kwa_1_4 fwa_1_4 xwa_0 xwa_1
    clear kwb_1_0 fwb_1_0 kwb_1_1 fwb_1_1 kwb_1_2 fwb_1_2 kwb_1_3 fwb_1_3 kwb_1_4 fwb_1_4 kwb_O_0 fwb_O_0 kwb_O_1 fwb_O_1 kwb_O_2 fwb_O_2 kwb_O_3 fwb_O_3 kwb_O_4 fwb_O_4 xwb_O xwb_1
    obtain ⟨n, k, sp, left, z, lo, lc, rfl, rfl, hn, ht, hsz, hsl, hll, bK, b1, oK, oS, oL, hk1, hk2, hk3, ap1, ap2, ap3, hbw⟩ := hrel
    obtain ⟨zco, zcc, zuo, zuc, zvs, zeo, zec, zro, zrc, rfl⟩ := oK.shapes
    obtain ⟨we, rfl⟩ : ∃ x, x = wr := ⟨_, rfl⟩
    have hzw := hbw.size
    have BK := Lib.hid bK; have B1 := Lib.hid b1; have OZ := Lib.hid oK; have OW := Lib.hid oS; have OL := Lib.hid oL; have HK1 := Lib.hid hk1; have HK2 := Lib.hid hk2; have HK3 := Lib.hid hk3; have AP1 := Lib.hid ap1; have AP2 := Lib.hid ap2; have AP3 := Lib.hid ap3; have BWE := Lib.hid hbw; have HSZ := Lib.hid hsz; have HT := Lib.hid ht; have HSL := Lib.hid hsl; have HLL := Lib.hid hll
    clear bK b1 oK oS oL hk1 hk2 hk3 ap1 ap2 ap3 hbw hsz ht hll
    dsimp only at BK
    have kwe_1_0 := (B1.out.cells 0 _ rfl).1; have fwe_1_0 := (B1.out.cells 0 _ rfl).2; have kwe_1_1 := (B1.out.cells 1 _ rfl).1; have fwe_1_1 := (B1.out.cells 1 _ rfl).2; have kwe_1_2 := (B1.out.cells 2 _ rfl).1; have fwe_1_2 := (B1.out.cells 2 _ rfl).2; have kwe_1_3 := (B1.out.cells 3 _ rfl).1; have fwe_1_3 := (B1.out.cells 3 _ rfl).2; have kwe_1_4 := (B1.out.cells 4 _ rfl).1; have fwe_1_4 := (B1.out.cells 4 _ rfl).2; have kwe_O_0 := (BK.out.cells 0 _ rfl).1; have fwe_O_0 := (BK.out.cells 0 _ rfl).2; have kwe_O_1 := (BK.out.cells 1 _ rfl).1; have fwe_O_1 := (BK.out.cells 1 _ rfl).2; have kwe_O_2 := (BK.out.cells 2 _ rfl).1; have fwe_O_2 := (BK.out.cells 2 _ rfl).2; have kwe_O_3 := (BK.out.cells 3 _ rfl).1; have fwe_O_3 := (BK.out.cells 3 _ rfl).2; have kwe_O_4 := (BK.out.cells 4 _ rfl).1; have fwe_O_4 := (BK.out.cells 4 _ rfl).2
    have xwe_O := BK.out.lt; have xwe_1 := B1.out.lt
    by_cases hlt : n < xs.length
    rotate_left
    · have hltI : ¬ (n : Int) < xs.length := by omega
      obtain rfl : n = xs.length := by omega
      have e : TE = ⟨k, sp, left⟩ := HTE.out.symm.trans HT.out
      subst e
      go_wp2_with (first | (with_reducible refine wp_region_grew2 (by kernel_rfl) (by kernel_rfl) ?_; intro w2 hb; (first | have hn := nw4 hb hall (by exact zo) | have hn := nw3 hb hall (by exact zo) | have hn := nw2 hb hall (by exact zo) | have hn := nw1 hb hall (by exact zo) | have hn := nw0 hb hall (by exact zo)); obtain ⟨hc, hf, hn, hc0⟩ := hn; replace hall := hn; clear hn; have hz := hb.size; (try simp only [World.size_alloc, World.size_setCell, World.size_drew] at hz); have hx := hall; (try simp only [allLt, and_true] at hx); obtain ⟨w1, rfl⟩ : ∃ x, x = w2 := ⟨_, rfl⟩; (repeat (go_big_quiet_step (fail))); refine wpQuiet_nil ?_; intro w2 hw'; have hb := grew_below hw'; clear hw'; (first | have hn := nw4 hb hall (by exact zo) | have hn := nw3 hb hall (by exact zo) | have hn := nw2 hb hall (by exact zo) | have hn := nw1 hb hall (by exact zo) | have hn := nw0 hb hall (by exact zo)); obtain ⟨hc, hf, hn, hc0⟩ := hn; replace hall := hn; clear hn; have hz := hb.size; (try simp only [World.size_alloc, World.size_setCell, World.size_drew] at hz); have hx := hall; (try simp only [allLt, and_true] at hx); obtain ⟨w1, rfl⟩ : ∃ x, x = w2 := ⟨_, rfl⟩))
      skip
      refine bodyPost_ret (v := .tuple #[.agg #[.slice zco zvs.length zcc, .slice zuo k.m.f.used.length zuc, .slice zeo k.m.ents.length zec, .int .i64 (k.calls), .slice zro k.refuse.length zrc], (.slice uo ss.length uc), (.slice lo left.length lc)]) (by simp [results, Try.results8, go_sem, kwe_1_0, fwe_1_0, kwe_1_1, fwe_1_1, kwe_1_2, fwe_1_2, kwe_1_3, fwe_1_3, kwe_1_4, fwe_1_4, kwe_O_0, fwe_O_0, kwe_O_1, fwe_O_1, kwe_O_2, fwe_O_2, kwe_O_3, fwe_O_3, kwe_O_4, fwe_O_4]) rfl ?_
      refine ⟨⟨⟨⟨.slice zco zvs.length zcc, .slice zuo k.m.f.used.length zuc, zvs⟩, .slice zeo k.m.ents.length zec⟩, .slice zro k.refuse.length zrc⟩, (.slice uo ss.length uc), (.slice lo left.length lc), rfl, ?_⟩
      exact la_fin (S := [w.heap.size + 1]) (wl := we) OZ.out OW.out OL.out (by omega) (by repeat (first | (with_reducible refine touch_setC ?_ (by simp)) | (with_reducible refine touch_drewT ?_) | (with_reducible exact Touch.refl _ _))) (fun g hg hm => by have h1 := (OZ.out.lts g hg).1; simp only [List.mem_cons, List.not_mem_nil, or_false] at hm; omega) (fun g hg hm => by have h1 := (Own.lts OW.out g hg).1; simp only [List.mem_cons, List.not_mem_nil, or_false] at hm; omega) (fun g hg hm => by have h1 := (Own.lts OL.out g hg).1; simp only [List.mem_cons, List.not_mem_nil, or_false] at hm; omega) AP1.out AP2.out AP3.out BWE.out (fun g hm => by simp only [List.mem_cons, List.not_mem_nil, or_false] at hm; omega)
    have hltI : (n : Int) < xs.length := by omega
    have hn0 : (0 : Int) ≤ n := by omega
    obtain ⟨⟨ix, sl⟩, hx⟩ := getx hlt
    obtain ⟨gr, ro, rfl, hgr, c0, c1⟩ := HR.out n _ hx
    dsimp only at c0 c1
    replace c0 := (BWE.out.cell (p := ⟨gr, ro + n * 2, none⟩) hgr).trans c0
    replace c1 := (BWE.out.cell (p := ⟨gr, ro + n * 2 + 1, none⟩) hgr).trans c1
    have HGD := Lib.hid (show xs.getD n default = ⟨ix, sl⟩ from getD_of hx)
    have xgr : gr < we.heap.size := by omega
    clear hx
    cases hbt : between ix 0 (ss.length - 1)
    · have hst : laStep ⟨ix, sl⟩ ⟨k, sp, left⟩ = ⟨k, sp, left⟩ := laStep_out (by dsimp only; rw [hsl]; exact hbt)
      have HST := Lib.hid hst
      clear hst
      go_wp2_with (first | (go_at_call 26; (first | (refine (i_between _ _ _ true (by assumption) _).mono ?_) | (refine (i_between _ _ _ false (by assumption) _).mono ?_) | (refine (i_between _ _ _ _ rfl _).mono ?_)); rintro e w2 ⟨rfl, rfl⟩) | (with_reducible refine wp_region_grew2 (by kernel_rfl) (by kernel_rfl) ?_; intro w2 hb; (first | have hn := nw4 hb hall (by exact zo) | have hn := nw3 hb hall (by exact zo) | have hn := nw2 hb hall (by exact zo) | have hn := nw1 hb hall (by exact zo) | have hn := nw0 hb hall (by exact zo)); obtain ⟨hc, hf, hn, hc0⟩ := hn; replace hall := hn; clear hn; have hz := hb.size; (try simp only [World.size_alloc, World.size_setCell, World.size_drew] at hz); have hx := hall; (try simp only [allLt, and_true] at hx); obtain ⟨w1, rfl⟩ : ∃ x, x = w2 := ⟨_, rfl⟩; (repeat (go_big_quiet_step (first | (go_at_call 26; first | exact calls_same (i_between _ _ _ true (by assumption) _) | exact calls_same (i_between _ _ _ false (by assumption) _) | exact calls_same (i_between _ _ _ _ rfl _))))); refine wpQuiet_nil ?_; intro w2 hw'; have hb := grew_below hw'; clear hw'; (first | have hn := nw4 hb hall (by exact zo) | have hn := nw3 hb hall (by exact zo) | have hn := nw2 hb hall (by exact zo) | have hn := nw1 hb hall (by exact zo) | have hn := nw0 hb hall (by exact zo)); obtain ⟨hc, hf, hn, hc0⟩ := hn; replace hall := hn; clear hn; have hz := hb.size; (try simp only [World.size_alloc, World.size_setCell, World.size_drew] at hz); have hx := hall; (try simp only [allLt, and_true] at hx); obtain ⟨w1, rfl⟩ : ∃ x, x = w2 := ⟨_, rfl⟩))
      have HBF : Hid (Below we.heap.size we (we.alloc (.cells #[.int .i64 ix, .int .i64 sl] 43))) := Lib.hid (by exact bel)
      go_roundw
      case rel =>
        refine ⟨n + 1, k, sp, left, ⟨⟨⟨.slice zco zvs.length zcc, .slice zuo k.m.f.used.length zuc, zvs⟩, .slice zeo k.m.ents.length zec⟩, .slice zro k.refuse.length zrc⟩, lo, lc, rfl, by go_num, by omega, by rw [laTo, HT.out, HGD.out]; exact HST.out, HSZ.out, hsl, by have := HLL.out; omega, BK.out.below HBF.out, B1.out.below HBF.out, OZ.out.below HBF.out, Own.below OW.out HBF.out, Own.below OL.out HBF.out, HK1.out, HK2.out, HK3.out, AP1.out, AP2.out, AP3.out, BWE.out.trans (HBF.out.mono (by omega))⟩
      case measure => first | (simp [intOf]; done) | (simp [intOf]; omega)
    have hbi := between_iff.1 hbt
    obtain ⟨q, rfl⟩ := Int.eq_ofNat_of_zero_le hbi.1
    have hq : q < ss.length := by omega
    have hqI : (q : Int) < ss.length := by omega
    have hq0 : (0 : Int) ≤ q := by omega
    obtain ⟨⟨p, c, b⟩, hsx⟩ := getx (xs := sp) (k := q) (by omega)
    have hst := laStep_in (x := ⟨(q : Int), sl⟩) (t := ⟨k, sp, left⟩) (by dsimp only; rw [hsl]; exact hbt) (i := q) rfl hsx
    dsimp only at hst
    obtain ⟨gs, uc', hue, hgB, hgs⟩ := Own.addr OW.out (by omega)
    simp only [Value.slice.injEq] at hue
    obtain ⟨rfl, hue1, rfl⟩ := hue
    have g1 : ¬ gs = wa.heap.size := fun e => HK2.out (mem_one (e ▸ rfl))
    have g2 : ¬ wa.heap.size = gs := fun e => g1 e.symm
    have g3 : ¬ gs = w.heap.size + 1 := by omega
    have g4 : ¬ w.heap.size + 1 = gs := by omega
    obtain ⟨-, -, e0, d0, e1, d1, e2, d2⟩ := OwnSp.slotF OW.out hsx
    dsimp only at e0 e1 e2
    have cp := fun W (h1 : KAt W ⟨⟨⟨.slice zco zvs.length zcc, .slice zuo k.m.f.used.length zuc, zvs⟩, .slice zeo k.m.ents.length zec⟩, .slice zro k.refuse.length zrc⟩ k) => i_FreeSlot ⟨⟨⟨.slice zco zvs.length zcc, .slice zuo k.m.f.used.length zuc, zvs⟩, .slice zeo k.m.ents.length zec⟩, .slice zro k.refuse.length zrc⟩ k p c b sl HSZ.out W h1
    simp only [KV.val] at cp
    have hsz2 := szK_free k p c b sl
    generalize freeK k p c b sl = K2 at cp hst hsz2
    generalize freeB k p c b sl = b2 at cp hst
    generalize freeCode k p c b sl = code at cp hst
    have HST := Lib.hid hst
    have HS2 : Hid (szK K2 ≤ 1048576) := Lib.hid (by rw [hsz2]; exact HSZ.out)
    have CP := Lib.hid cp
    have hgs9 : gs < we.heap.size := hgs
    clear cp hst hsz2 hue1 hsx hbi
    go_upto_region 8 with (first | (go_at_call 26; (first | (refine (i_between _ _ _ true (by assumption) _).mono ?_) | (refine (i_between _ _ _ false (by assumption) _).mono ?_) | (refine (i_between _ _ _ _ rfl _).mono ?_)); rintro e w2 ⟨rfl, rfl⟩) | (with_reducible refine wp_region_grew2 (by kernel_rfl) (by kernel_rfl) ?_; intro w2 hb; (first | have hn := nw4 hb hall (by exact zo) | have hn := nw3 hb hall (by exact zo) | have hn := nw2 hb hall (by exact zo) | have hn := nw1 hb hall (by exact zo) | have hn := nw0 hb hall (by exact zo)); obtain ⟨hc, hf, hn, hc0⟩ := hn; replace hall := hn; clear hn; have hz := hb.size; (try simp only [World.size_alloc, World.size_setCell, World.size_drew] at hz); have hx := hall; (try simp only [allLt, and_true] at hx); obtain ⟨w1, rfl⟩ : ∃ x, x = w2 := ⟨_, rfl⟩; (repeat (go_big_quiet_step (first | (go_at_call 26; first | exact calls_same (i_between _ _ _ true (by assumption) _) | exact calls_same (i_between _ _ _ false (by assumption) _) | exact calls_same (i_between _ _ _ _ rfl _))))); refine wpQuiet_nil ?_; intro w2 hw'; have hb := grew_below hw'; clear hw'; (first | have hn := nw4 hb hall (by exact zo) | have hn := nw3 hb hall (by exact zo) | have hn := nw2 hb hall (by exact zo) | have hn := nw1 hb hall (by exact zo) | have hn := nw0 hb hall (by exact zo)); obtain ⟨hc, hf, hn, hc0⟩ := hn; replace hall := hn; clear hn; have hz := hb.size; (try simp only [World.size_alloc, World.size_setCell, World.size_drew] at hz); have hx := hall; (try simp only [allLt, and_true] at hx); obtain ⟨w1, rfl⟩ : ∃ x, x = w2 := ⟨_, rfl⟩))
    have BL : Hid (BoxAt ((we.alloc (.cells #[.int .i64 (q : Int), .int .i64 sl] 43)).drew) (we.heap.size) [.int .i64 (q : Int), .int .i64 sl]) := Lib.hid (BoxAt.snoc (BoxAt.snoc (BoxAt.nil (w := ((we.alloc (.cells #[.int .i64 (q : Int), .int .i64 sl] 43)).drew)) (g := we.heap.size) (by go_simp)) (v := .int .i64 (q : Int)) (i := 0) rfl (by go_simp) (by go_simp)) (v := .int .i64 sl) (i := 1) rfl (by go_simp) (by go_simp))
    have BK9 : Hid (BoxAt ((we.alloc (.cells #[.int .i64 (q : Int), .int .i64 sl] 43)).drew) (wa.heap.size) [.slice zco zvs.length zcc, .slice zuo k.m.f.used.length zuc, .slice zeo k.m.ents.length zec, .int .i64 (k.calls), .slice zro k.refuse.length zrc]) := Lib.hid (BK.out.below (by exact bel))
    have QC0 := Lib.hid (show ((we.alloc (.cells #[.int .i64 (q : Int), .int .i64 sl] 43)).drew).cell? ⟨gs, q * 3, none⟩ = some (.int .i64 p) from by go_simp); have QC1 := Lib.hid (show ((we.alloc (.cells #[.int .i64 (q : Int), .int .i64 sl] 43)).drew).cell? ⟨gs, q * 3 + 1, none⟩ = some (.int .i64 c) from by go_simp); have QC2 := Lib.hid (show ((we.alloc (.cells #[.int .i64 (q : Int), .int .i64 sl] 43)).drew).cell? ⟨gs, q * 3 + 2, none⟩ = some (.int .i64 b) from by go_simp)
    go_cut [14, 15, 16] (fun ss14 ss15 ss16 wx => ∃ xco xcc xuo xuc xvs xeo xec xro xrc gK gS, ss14 = .pointer (some ⟨gK, 0, none⟩) ∧ ss15 = .pointer (some ⟨gS, 0, none⟩) ∧ ss16 = .int .i64 code ∧ BoxAt wx gK [.slice xco xvs.length xcc, .slice xuo K2.m.f.used.length xuc, .slice xeo K2.m.ents.length xec, .int .i64 (K2.calls), .slice xro K2.refuse.length xrc] ∧ BoxAt wx gS [.int .i64 p, .int .i64 c, .int .i64 b2] ∧ KOwn (we.heap.size + 1) wx ⟨⟨⟨.slice xco xvs.length xcc, .slice xuo K2.m.f.used.length xuc, xvs⟩, .slice xeo K2.m.ents.length xec⟩, .slice xro K2.refuse.length xrc⟩ K2 ∧ gK ∉ blocks (KV.all ⟨⟨⟨.slice xco xvs.length xcc, .slice xuo K2.m.f.used.length xuc, xvs⟩, .slice xeo K2.m.ents.length xec⟩, .slice xro K2.refuse.length xrc⟩) ∧ gS ∉ blocks (KV.all ⟨⟨⟨.slice xco xvs.length xcc, .slice xuo K2.m.f.used.length xuc, xvs⟩, .slice xeo K2.m.ents.length xec⟩, .slice xro K2.refuse.length xrc⟩) ∧ gK ≠ gS ∧ we.heap.size + 1 ≤ gK ∧ we.heap.size + 1 ≤ gS ∧ Below ((we.alloc (.cells #[.int .i64 (q : Int), .int .i64 sl] 43)).drew).heap.size ((we.alloc (.cells #[.int .i64 (q : Int), .int .i64 sl] 43)).drew) wx)
    case first =>
          refine wp_gen (fun a0 ha0 => ?_)
          have hsz : a0.tmps.size = 65 := by rw [ha0]; rfl
          have hps : ((we.alloc (.cells #[.int .i64 (q : Int), .int .i64 sl] 43)).drew).heap.size = we.heap.size + 1 := by first | rfl | simp only [World.size_alloc, World.size_drew]
          have X9 : ∀ u, (frAll a0 [37, 38, 39, 40, 41, 42, 43, 44, 45, 36, 46, 47, 48, 14, 15, 16] u).tmps.getD 9 undef = .pointer (some ⟨wa.heap.size, 0, none⟩) := fun u => (frAll_other (by decide)).trans (by rw [ha0]; rfl)
          have X13 : ∀ u, (frAll a0 [37, 38, 39, 40, 41, 42, 43, 44, 45, 36, 46, 47, 48, 14, 15, 16] u).tmps.getD 13 undef = .pointer (some ⟨we.heap.size, 0, none⟩) := fun u => (frAll_other (by decide)).trans (by rw [ha0]; rfl)
          have X10 : ∀ u, (frAll a0 [37, 38, 39, 40, 41, 42, 43, 44, 45, 36, 46, 47, 48, 14, 15, 16] u).tmps.getD 10 undef = .slice (some ⟨gs, 0, none⟩) ss.length uc := fun u => (frAll_other (by decide)).trans (by rw [ha0]; rfl)
          have E37 : ∀ u, (frAll a0 [37, 38, 39, 40, 41, 42, 43, 44, 45, 36, 46, 47, 48, 14, 15, 16] u).tmps.getD 37 undef = u 37 := fun u => frAll_eval (by decide) (by rw [hsz]; decide)
          have P37 : ∀ u v, (frAll a0 [37, 38, 39, 40, 41, 42, 43, 44, 45, 36, 46, 47, 48, 14, 15, 16] u).put (some 37) v = frAll a0 [37, 38, 39, 40, 41, 42, 43, 44, 45, 36, 46, 47, 48, 14, 15, 16] (frUpd u 37 v) := fun u v => frAll_put v (by decide)
          have E38 : ∀ u, (frAll a0 [37, 38, 39, 40, 41, 42, 43, 44, 45, 36, 46, 47, 48, 14, 15, 16] u).tmps.getD 38 undef = u 38 := fun u => frAll_eval (by decide) (by rw [hsz]; decide)
          have P38 : ∀ u v, (frAll a0 [37, 38, 39, 40, 41, 42, 43, 44, 45, 36, 46, 47, 48, 14, 15, 16] u).put (some 38) v = frAll a0 [37, 38, 39, 40, 41, 42, 43, 44, 45, 36, 46, 47, 48, 14, 15, 16] (frUpd u 38 v) := fun u v => frAll_put v (by decide)
          have E39 : ∀ u, (frAll a0 [37, 38, 39, 40, 41, 42, 43, 44, 45, 36, 46, 47, 48, 14, 15, 16] u).tmps.getD 39 undef = u 39 := fun u => frAll_eval (by decide) (by rw [hsz]; decide)
          have P39 : ∀ u v, (frAll a0 [37, 38, 39, 40, 41, 42, 43, 44, 45, 36, 46, 47, 48, 14, 15, 16] u).put (some 39) v = frAll a0 [37, 38, 39, 40, 41, 42, 43, 44, 45, 36, 46, 47, 48, 14, 15, 16] (frUpd u 39 v) := fun u v => frAll_put v (by decide)
          have E40 : ∀ u, (frAll a0 [37, 38, 39, 40, 41, 42, 43, 44, 45, 36, 46, 47, 48, 14, 15, 16] u).tmps.getD 40 undef = u 40 := fun u => frAll_eval (by decide) (by rw [hsz]; decide)
          have P40 : ∀ u v, (frAll a0 [37, 38, 39, 40, 41, 42, 43, 44, 45, 36, 46, 47, 48, 14, 15, 16] u).put (some 40) v = frAll a0 [37, 38, 39, 40, 41, 42, 43, 44, 45, 36, 46, 47, 48, 14, 15, 16] (frUpd u 40 v) := fun u v => frAll_put v (by decide)
          have E41 : ∀ u, (frAll a0 [37, 38, 39, 40, 41, 42, 43, 44, 45, 36, 46, 47, 48, 14, 15, 16] u).tmps.getD 41 undef = u 41 := fun u => frAll_eval (by decide) (by rw [hsz]; decide)
          have P41 : ∀ u v, (frAll a0 [37, 38, 39, 40, 41, 42, 43, 44, 45, 36, 46, 47, 48, 14, 15, 16] u).put (some 41) v = frAll a0 [37, 38, 39, 40, 41, 42, 43, 44, 45, 36, 46, 47, 48, 14, 15, 16] (frUpd u 41 v) := fun u v => frAll_put v (by decide)
          have E42 : ∀ u, (frAll a0 [37, 38, 39, 40, 41, 42, 43, 44, 45, 36, 46, 47, 48, 14, 15, 16] u).tmps.getD 42 undef = u 42 := fun u => frAll_eval (by decide) (by rw [hsz]; decide)
          have P42 : ∀ u v, (frAll a0 [37, 38, 39, 40, 41, 42, 43, 44, 45, 36, 46, 47, 48, 14, 15, 16] u).put (some 42) v = frAll a0 [37, 38, 39, 40, 41, 42, 43, 44, 45, 36, 46, 47, 48, 14, 15, 16] (frUpd u 42 v) := fun u v => frAll_put v (by decide)
          have E43 : ∀ u, (frAll a0 [37, 38, 39, 40, 41, 42, 43, 44, 45, 36, 46, 47, 48, 14, 15, 16] u).tmps.getD 43 undef = u 43 := fun u => frAll_eval (by decide) (by rw [hsz]; decide)
          have P43 : ∀ u v, (frAll a0 [37, 38, 39, 40, 41, 42, 43, 44, 45, 36, 46, 47, 48, 14, 15, 16] u).put (some 43) v = frAll a0 [37, 38, 39, 40, 41, 42, 43, 44, 45, 36, 46, 47, 48, 14, 15, 16] (frUpd u 43 v) := fun u v => frAll_put v (by decide)
          have E44 : ∀ u, (frAll a0 [37, 38, 39, 40, 41, 42, 43, 44, 45, 36, 46, 47, 48, 14, 15, 16] u).tmps.getD 44 undef = u 44 := fun u => frAll_eval (by decide) (by rw [hsz]; decide)
          have P44 : ∀ u v, (frAll a0 [37, 38, 39, 40, 41, 42, 43, 44, 45, 36, 46, 47, 48, 14, 15, 16] u).put (some 44) v = frAll a0 [37, 38, 39, 40, 41, 42, 43, 44, 45, 36, 46, 47, 48, 14, 15, 16] (frUpd u 44 v) := fun u v => frAll_put v (by decide)
          have E45 : ∀ u, (frAll a0 [37, 38, 39, 40, 41, 42, 43, 44, 45, 36, 46, 47, 48, 14, 15, 16] u).tmps.getD 45 undef = u 45 := fun u => frAll_eval (by decide) (by rw [hsz]; decide)
          have P45 : ∀ u v, (frAll a0 [37, 38, 39, 40, 41, 42, 43, 44, 45, 36, 46, 47, 48, 14, 15, 16] u).put (some 45) v = frAll a0 [37, 38, 39, 40, 41, 42, 43, 44, 45, 36, 46, 47, 48, 14, 15, 16] (frUpd u 45 v) := fun u v => frAll_put v (by decide)
          have E36 : ∀ u, (frAll a0 [37, 38, 39, 40, 41, 42, 43, 44, 45, 36, 46, 47, 48, 14, 15, 16] u).tmps.getD 36 undef = u 36 := fun u => frAll_eval (by decide) (by rw [hsz]; decide)
          have P36 : ∀ u v, (frAll a0 [37, 38, 39, 40, 41, 42, 43, 44, 45, 36, 46, 47, 48, 14, 15, 16] u).put (some 36) v = frAll a0 [37, 38, 39, 40, 41, 42, 43, 44, 45, 36, 46, 47, 48, 14, 15, 16] (frUpd u 36 v) := fun u v => frAll_put v (by decide)
          have E46 : ∀ u, (frAll a0 [37, 38, 39, 40, 41, 42, 43, 44, 45, 36, 46, 47, 48, 14, 15, 16] u).tmps.getD 46 undef = u 46 := fun u => frAll_eval (by decide) (by rw [hsz]; decide)
          have P46 : ∀ u v, (frAll a0 [37, 38, 39, 40, 41, 42, 43, 44, 45, 36, 46, 47, 48, 14, 15, 16] u).put (some 46) v = frAll a0 [37, 38, 39, 40, 41, 42, 43, 44, 45, 36, 46, 47, 48, 14, 15, 16] (frUpd u 46 v) := fun u v => frAll_put v (by decide)
          have E47 : ∀ u, (frAll a0 [37, 38, 39, 40, 41, 42, 43, 44, 45, 36, 46, 47, 48, 14, 15, 16] u).tmps.getD 47 undef = u 47 := fun u => frAll_eval (by decide) (by rw [hsz]; decide)
          have P47 : ∀ u v, (frAll a0 [37, 38, 39, 40, 41, 42, 43, 44, 45, 36, 46, 47, 48, 14, 15, 16] u).put (some 47) v = frAll a0 [37, 38, 39, 40, 41, 42, 43, 44, 45, 36, 46, 47, 48, 14, 15, 16] (frUpd u 47 v) := fun u v => frAll_put v (by decide)
          have E48 : ∀ u, (frAll a0 [37, 38, 39, 40, 41, 42, 43, 44, 45, 36, 46, 47, 48, 14, 15, 16] u).tmps.getD 48 undef = u 48 := fun u => frAll_eval (by decide) (by rw [hsz]; decide)
          have P48 : ∀ u v, (frAll a0 [37, 38, 39, 40, 41, 42, 43, 44, 45, 36, 46, 47, 48, 14, 15, 16] u).put (some 48) v = frAll a0 [37, 38, 39, 40, 41, 42, 43, 44, 45, 36, 46, 47, 48, 14, 15, 16] (frUpd u 48 v) := fun u v => frAll_put v (by decide)
          have E14 : ∀ u, (frAll a0 [37, 38, 39, 40, 41, 42, 43, 44, 45, 36, 46, 47, 48, 14, 15, 16] u).tmps.getD 14 undef = u 14 := fun u => frAll_eval (by decide) (by rw [hsz]; decide)
          have P14 : ∀ u v, (frAll a0 [37, 38, 39, 40, 41, 42, 43, 44, 45, 36, 46, 47, 48, 14, 15, 16] u).put (some 14) v = frAll a0 [37, 38, 39, 40, 41, 42, 43, 44, 45, 36, 46, 47, 48, 14, 15, 16] (frUpd u 14 v) := fun u v => frAll_put v (by decide)
          have E15 : ∀ u, (frAll a0 [37, 38, 39, 40, 41, 42, 43, 44, 45, 36, 46, 47, 48, 14, 15, 16] u).tmps.getD 15 undef = u 15 := fun u => frAll_eval (by decide) (by rw [hsz]; decide)
          have P15 : ∀ u v, (frAll a0 [37, 38, 39, 40, 41, 42, 43, 44, 45, 36, 46, 47, 48, 14, 15, 16] u).put (some 15) v = frAll a0 [37, 38, 39, 40, 41, 42, 43, 44, 45, 36, 46, 47, 48, 14, 15, 16] (frUpd u 15 v) := fun u v => frAll_put v (by decide)
          have E16 : ∀ u, (frAll a0 [37, 38, 39, 40, 41, 42, 43, 44, 45, 36, 46, 47, 48, 14, 15, 16] u).tmps.getD 16 undef = u 16 := fun u => frAll_eval (by decide) (by rw [hsz]; decide)
          have P16 : ∀ u v, (frAll a0 [37, 38, 39, 40, 41, 42, 43, 44, 45, 36, 46, 47, 48, 14, 15, 16] u).put (some 16) v = frAll a0 [37, 38, 39, 40, 41, 42, 43, 44, 45, 36, 46, 47, 48, 14, 15, 16] (frUpd u 16 v) := fun u v => frAll_put v (by decide)
          replace ha0 := Lib.hid ha0
          refine wp_region_frame [37, 38, 39, 40, 41, 42, 43, 44, 45, 36, 46, 47, 48, 14, 15, 16] (fun D u wv => ∃ xco xcc xuo xuc xvs xeo xec xro xrc gK gS, Hid (Below ((we.alloc (.cells #[.int .i64 (q : Int), .int .i64 sl] 43)).drew).heap.size ((we.alloc (.cells #[.int .i64 (q : Int), .int .i64 sl] 43)).drew) wv) ∧ Hid (D 0 → u 37 = .agg #[.slice zco zvs.length zcc, .slice zuo k.m.f.used.length zuc, .slice zeo k.m.ents.length zec, .int .i64 (k.calls), .slice zro k.refuse.length zrc]) ∧ Hid (D 1 → u 38 = .slice (some ⟨gs, 0, none⟩) ss.length uc) ∧ Hid (D 2 → u 39 = .pointer (some ⟨we.heap.size, 0, none⟩)) ∧ Hid (D 3 → u 40 = .int .i64 (q : Int)) ∧ Hid (D 4 → u 41 = .pointer (some ⟨gs, q * 3, none⟩)) ∧ Hid (D 5 → u 42 = .agg #[.int .i64 p, .int .i64 c, .int .i64 b]) ∧ Hid (D 6 → u 43 = .pointer (some ⟨we.heap.size, 1, none⟩)) ∧ Hid (D 7 → u 44 = .int .i64 sl) ∧ Hid (D 8 → u 45 = .tuple #[.agg #[.slice xco xvs.length xcc, .slice xuo K2.m.f.used.length xuc, .slice xeo K2.m.ents.length xec, .int .i64 (K2.calls), .slice xro K2.refuse.length xrc], .agg #[.int .i64 p, .int .i64 c, .int .i64 b2], .int .i64 code]) ∧ Hid (D 9 → u 36 = .tuple #[.agg #[.slice xco xvs.length xcc, .slice xuo K2.m.f.used.length xuc, .slice xeo K2.m.ents.length xec, .int .i64 (K2.calls), .slice xro K2.refuse.length xrc], .agg #[.int .i64 p, .int .i64 c, .int .i64 b2], .int .i64 code]) ∧ Hid (D 10 → u 46 = .agg #[.slice xco xvs.length xcc, .slice xuo K2.m.f.used.length xuc, .slice xeo K2.m.ents.length xec, .int .i64 (K2.calls), .slice xro K2.refuse.length xrc]) ∧ Hid (D 11 → u 47 = .agg #[.int .i64 p, .int .i64 c, .int .i64 b2]) ∧ Hid (D 12 → u 48 = .int .i64 code) ∧ Hid (D 13 → u 14 = .pointer (some ⟨gK, 0, none⟩)) ∧ Hid (D 14 → u 15 = .pointer (some ⟨gS, 0, none⟩)) ∧ Hid (D 17 → u 16 = .int .i64 code) ∧ Hid (D 8 → KOwn (we.heap.size + 1) wv ⟨⟨⟨.slice xco xvs.length xcc, .slice xuo K2.m.f.used.length xuc, xvs⟩, .slice xeo K2.m.ents.length xec⟩, .slice xro K2.refuse.length xrc⟩ K2) ∧ Hid (D 13 → we.heap.size + 1 ≤ gK ∧ gK < wv.heap.size) ∧ Hid (D 13 → ¬ D 15 → BoxAt wv gK [.slice none 0 0, .slice none 0 0, .slice none 0 0, .int .i64 0, .slice none 0 0]) ∧ Hid (D 15 → BoxAt wv gK [.slice xco xvs.length xcc, .slice xuo K2.m.f.used.length xuc, .slice xeo K2.m.ents.length xec, .int .i64 (K2.calls), .slice xro K2.refuse.length xrc]) ∧ Hid (D 13 → D 8 → gK ∉ blocks (KV.all ⟨⟨⟨.slice xco xvs.length xcc, .slice xuo K2.m.f.used.length xuc, xvs⟩, .slice xeo K2.m.ents.length xec⟩, .slice xro K2.refuse.length xrc⟩)) ∧ Hid (D 14 → we.heap.size + 1 ≤ gS ∧ gS < wv.heap.size) ∧ Hid (D 14 → ¬ D 16 → BoxAt wv gS [.int .i64 0, .int .i64 0, .int .i64 0]) ∧ Hid (D 16 → BoxAt wv gS [.int .i64 p, .int .i64 c, .int .i64 b2]) ∧ Hid (D 14 → D 8 → gS ∉ blocks (KV.all ⟨⟨⟨.slice xco xvs.length xcc, .slice xuo K2.m.f.used.length xuc, xvs⟩, .slice xeo K2.m.ents.length xec⟩, .slice xro K2.refuse.length xrc⟩)) ∧ Hid (D 13 → D 14 → gK ≠ gS)) (by kernel_rfl) (by kernel_rfl) ?_ ?_ ?_
          · exact ⟨default, default, default, default, default, default, default, default, default, default, default, Lib.hid (by exact bel), Lib.hid (fun h => h.elim), Lib.hid (fun h => h.elim), Lib.hid (fun h => h.elim), Lib.hid (fun h => h.elim), Lib.hid (fun h => h.elim), Lib.hid (fun h => h.elim), Lib.hid (fun h => h.elim), Lib.hid (fun h => h.elim), Lib.hid (fun h => h.elim), Lib.hid (fun h => h.elim), Lib.hid (fun h => h.elim), Lib.hid (fun h => h.elim), Lib.hid (fun h => h.elim), Lib.hid (fun h => h.elim), Lib.hid (fun h => h.elim), Lib.hid (fun h => h.elim), Lib.hid (fun h => h.elim), Lib.hid (fun h => h.elim), Lib.hid (fun h => h.elim), Lib.hid (fun h => h.elim), Lib.hid (fun h => h.elim), Lib.hid (fun h => h.elim), Lib.hid (fun h => h.elim), Lib.hid (fun h => h.elim), Lib.hid (fun h => h.elim), Lib.hid (fun h => h.elim)⟩
          · rintro D u wv ⟨xco, xcc, xuo, xuc, xvs, xeo, xec, xro, xrc, gK, gS, HBW, U0, U1, U2, U3, U4, U5, U6, U7, U8, U9, U10, U11, U12, U13, U14, U17, OX, A2gK, A3gK, A4gK, A5gKX, A2gS, A3gS, A4gS, A5gSX, A6gKgS⟩ hcl i hi hn hw
            have hi9 : i < 18 := hi; clear hi
            replace hcl := Lib.hid hcl; replace hw := Lib.hid hw
            have hbw := HBW.out; have hlw := hbw.size; rw [hps] at hlw
            rcases (by omega : i = 0 ∨ i = 1 ∨ i = 2 ∨ i = 3 ∨ i = 4 ∨ i = 5 ∨ i = 6 ∨ i = 7 ∨ i = 8 ∨ i = 9 ∨ i = 10 ∨ i = 11 ∨ i = 12 ∨ i = 13 ∨ i = 14 ∨ i = 15 ∨ i = 16 ∨ i = 17) with rfl | rfl | rfl | rfl | rfl | rfl | rfl | rfl | rfl | rfl | rfl | rfl | rfl | rfl | rfl | rfl | rfl | rfl
            · skip
              refine wpOp_step (o := _) rfl (fun KK hKK => ?_)
              rw [if_pos (wanted_nil _ rfl)]
              have E9_ := X9 u
              have bx := BK9.out.below hbw
              have c0 := (bx.cells 0 _ rfl).1
              have c1 := (bx.cells 1 _ rfl).1
              have c2 := (bx.cells 2 _ rfl).1
              have c3 := (bx.cells 3 _ rfl).1
              have c4 := (bx.cells 4 _ rfl).1
              skip
              go_simp
              exact hKK _ _ ⟨_, P37 u _, xco, xcc, xuo, xuc, xvs, xeo, xec, xro, xrc, gK, gS, HBW, Lib.hid (fun h0 => frUpd_self), (u10 U1), (u10 U2), (u10 U3), (u10 U4), (u10 U5), (u10 U6), (u10 U7), (u10 U8), (u10 U9), (u10 U10), (u10 U11), (u10 U12), (u10 U13), (u10 U14), (u10 U17), (k10 OX), (k10 A2gK), (k11 A3gK), (k10 A4gK), (k20 A5gKX), (k10 A2gS), (k11 A3gS), (k10 A4gS), (k20 A5gSX), (k20 A6gKgS)⟩
            · skip
              refine wpOp_step (o := _) rfl (fun KK hKK => ?_)
              rw [if_pos (wanted_nil _ rfl)]
              have E10_ := X10 u
              skip
              go_simp
              exact hKK _ _ ⟨_, P38 u _, xco, xcc, xuo, xuc, xvs, xeo, xec, xro, xrc, gK, gS, HBW, (u10 U0), Lib.hid (fun h0 => frUpd_self), (u10 U2), (u10 U3), (u10 U4), (u10 U5), (u10 U6), (u10 U7), (u10 U8), (u10 U9), (u10 U10), (u10 U11), (u10 U12), (u10 U13), (u10 U14), (u10 U17), (k10 OX), (k10 A2gK), (k11 A3gK), (k10 A4gK), (k20 A5gKX), (k10 A2gS), (k11 A3gS), (k10 A4gS), (k20 A5gSX), (k20 A6gKgS)⟩
            · skip
              refine wpOp_step (o := _) rfl (fun KK hKK => ?_)
              rw [if_pos (wanted_nil _ rfl)]
              have E13_ := X13 u
              skip
              go_simp
              exact hKK _ _ ⟨_, P39 u _, xco, xcc, xuo, xuc, xvs, xeo, xec, xro, xrc, gK, gS, HBW, (u10 U0), (u10 U1), Lib.hid (fun h0 => frUpd_self), (u10 U3), (u10 U4), (u10 U5), (u10 U6), (u10 U7), (u10 U8), (u10 U9), (u10 U10), (u10 U11), (u10 U12), (u10 U13), (u10 U14), (u10 U17), (k10 OX), (k10 A2gK), (k11 A3gK), (k10 A4gK), (k20 A5gKX), (k10 A2gS), (k11 A3gS), (k10 A4gS), (k20 A5gSX), (k20 A6gKgS)⟩
            · skip
              refine wpOp_step (o := _) rfl (fun KK hKK => ?_)
              rw [if_pos (wanted_nil _ rfl)]
              have e39 := U2.out (hw.out 2 (by kernel_rfl)); have E39_ := (E39 u).trans e39
              have bx := BL.out.below hbw; have c0 := (bx.cells 0 _ rfl).1
              skip
              go_simp
              exact hKK _ _ ⟨_, P40 u _, xco, xcc, xuo, xuc, xvs, xeo, xec, xro, xrc, gK, gS, HBW, (u10 U0), (u10 U1), (u10 U2), Lib.hid (fun h0 => frUpd_self), (u10 U4), (u10 U5), (u10 U6), (u10 U7), (u10 U8), (u10 U9), (u10 U10), (u10 U11), (u10 U12), (u10 U13), (u10 U14), (u10 U17), (k10 OX), (k10 A2gK), (k11 A3gK), (k10 A4gK), (k20 A5gKX), (k10 A2gS), (k11 A3gS), (k10 A4gS), (k20 A5gSX), (k20 A6gKgS)⟩
            · skip
              refine wpOp_step (o := _) rfl (fun KK hKK => ?_)
              rw [if_pos (wanted_nil _ rfl)]
              have e38 := U1.out (hw.out 1 (by kernel_rfl)); have E38_ := (E38 u).trans e38
              have e40 := U3.out (hw.out 3 (by kernel_rfl)); have E40_ := (E40 u).trans e40
              skip
              go_simp
              exact hKK _ _ ⟨_, P41 u _, xco, xcc, xuo, xuc, xvs, xeo, xec, xro, xrc, gK, gS, HBW, (u10 U0), (u10 U1), (u10 U2), (u10 U3), Lib.hid (fun h0 => frUpd_self), (u10 U5), (u10 U6), (u10 U7), (u10 U8), (u10 U9), (u10 U10), (u10 U11), (u10 U12), (u10 U13), (u10 U14), (u10 U17), (k10 OX), (k10 A2gK), (k11 A3gK), (k10 A4gK), (k20 A5gKX), (k10 A2gS), (k11 A3gS), (k10 A4gS), (k20 A5gSX), (k20 A6gKgS)⟩
            · skip
              refine wpOp_step (o := _) rfl (fun KK hKK => ?_)
              rw [if_pos (wanted_nil _ rfl)]
              have e41 := U4.out (hw.out 4 (by kernel_rfl)); have E41_ := (E41 u).trans e41
              have c0 := (hbw.cell (p := ⟨gs, q * 3, none⟩) (show gs < _ by rw [hps]; omega)).trans QC0.out
              have c1 := (hbw.cell (p := ⟨gs, q * 3 + 1, none⟩) (show gs < _ by rw [hps]; omega)).trans QC1.out
              have c2 := (hbw.cell (p := ⟨gs, q * 3 + 2, none⟩) (show gs < _ by rw [hps]; omega)).trans QC2.out
              skip
              go_simp
              exact hKK _ _ ⟨_, P42 u _, xco, xcc, xuo, xuc, xvs, xeo, xec, xro, xrc, gK, gS, HBW, (u10 U0), (u10 U1), (u10 U2), (u10 U3), (u10 U4), Lib.hid (fun h0 => frUpd_self), (u10 U6), (u10 U7), (u10 U8), (u10 U9), (u10 U10), (u10 U11), (u10 U12), (u10 U13), (u10 U14), (u10 U17), (k10 OX), (k10 A2gK), (k11 A3gK), (k10 A4gK), (k20 A5gKX), (k10 A2gS), (k11 A3gS), (k10 A4gS), (k20 A5gSX), (k20 A6gKgS)⟩
            · skip
              refine wpOp_step (o := _) rfl (fun KK hKK => ?_)
              rw [if_pos (wanted_nil _ rfl)]
              have E13_ := X13 u
              skip
              go_simp
              exact hKK _ _ ⟨_, P43 u _, xco, xcc, xuo, xuc, xvs, xeo, xec, xro, xrc, gK, gS, HBW, (u10 U0), (u10 U1), (u10 U2), (u10 U3), (u10 U4), (u10 U5), Lib.hid (fun h0 => frUpd_self), (u10 U7), (u10 U8), (u10 U9), (u10 U10), (u10 U11), (u10 U12), (u10 U13), (u10 U14), (u10 U17), (k10 OX), (k10 A2gK), (k11 A3gK), (k10 A4gK), (k20 A5gKX), (k10 A2gS), (k11 A3gS), (k10 A4gS), (k20 A5gSX), (k20 A6gKgS)⟩
            · skip
              refine wpOp_step (o := _) rfl (fun KK hKK => ?_)
              rw [if_pos (wanted_nil _ rfl)]
              have e43 := U6.out (hw.out 6 (by kernel_rfl)); have E43_ := (E43 u).trans e43
              have bx := BL.out.below hbw; have c1 := (bx.cells 1 _ rfl).1
              skip
              go_simp
              exact hKK _ _ ⟨_, P44 u _, xco, xcc, xuo, xuc, xvs, xeo, xec, xro, xrc, gK, gS, HBW, (u10 U0), (u10 U1), (u10 U2), (u10 U3), (u10 U4), (u10 U5), (u10 U6), Lib.hid (fun h0 => frUpd_self), (u10 U8), (u10 U9), (u10 U10), (u10 U11), (u10 U12), (u10 U13), (u10 U14), (u10 U17), (k10 OX), (k10 A2gK), (k11 A3gK), (k10 A4gK), (k20 A5gKX), (k10 A2gS), (k11 A3gS), (k10 A4gS), (k20 A5gSX), (k20 A6gKgS)⟩
            · skip
              refine wpOp_step (o := _) rfl (fun KK hKK => ?_)
              rw [if_pos (wanted_nil _ rfl)]
              have e37 := U0.out (hw.out 0 (by kernel_rfl)); have E37_ := (E37 u).trans e37
              have e42 := U5.out (hw.out 5 (by kernel_rfl)); have E42_ := (E42 u).trans e42
              have e44 := U7.out (hw.out 7 (by kernel_rfl)); have E44_ := (E44 u).trans e44
              skip
              go_simp
              refine (CP.out _ (OZ.out.at.below (by have hw0 := hbw; exact bel))).mono ?_; rintro e w2 ⟨x, rfl, OX, hb⟩
              obtain ⟨xco, xcc, xuo, xuc, xvs, xeo, xec, xro, xrc, rfl⟩ := KOwn.shapes OX
              simp only [KV.val]
              have hbn := hb.size
              try dsimp only
              exact hKK _ _ ⟨_, P45 u _, xco, xcc, xuo, xuc, xvs, xeo, xec, xro, xrc, gK, gS, (Lib.hid (hbw.trans (hb.mono (by rw [hps]; omega)))), (u10 U0), (u10 U1), (u10 U2), (u10 U3), (u10 U4), (u10 U5), (u10 U6), (u10 U7), Lib.hid (fun h0 => frUpd_self), Lib.hid (fun h0 => absurd (hcl.out 9 8 (by kernel_rfl) (addD_of h0 (by decide))) hn), Lib.hid (fun h0 => absurd (hcl.out 9 8 (by kernel_rfl) (hcl.out 10 9 (by kernel_rfl) (addD_of h0 (by decide)))) hn), (u10 U11), (u10 U12), (u10 U13), (u10 U14), (u10 U17), Lib.hid (fun h0 => KOwn.mono OX (by omega)), (m10 (lt_grow hb.size) A2gK), (m11 (fun h => h.below hb) A3gK), Lib.hid (fun h0 => absurd (hcl.out 9 8 (by kernel_rfl) (hcl.out 10 9 (by kernel_rfl) (hcl.out 15 10 (by kernel_rfl) (addD_of h0 (by decide))))) hn), Lib.hid (fun h0 h1 => fun hm => Nat.lt_irrefl _ (Nat.lt_of_lt_of_le (A2gK.out (addD_of h0 (by decide))).2 (((OX).lts) _ hm).1)), (m10 (lt_grow hb.size) A2gS), (m11 (fun h => h.below hb) A3gS), (m10 (fun h => h.below hb) A4gS), Lib.hid (fun h0 h1 => fun hm => Nat.lt_irrefl _ (Nat.lt_of_lt_of_le (A2gS.out (addD_of h0 (by decide))).2 (((OX).lts) _ hm).1)), (k20 A6gKgS)⟩
            · skip
              refine wpOp_step (o := _) rfl (fun KK hKK => ?_)
              rw [if_pos (wanted_nil _ rfl)]
              have e45 := U8.out (hw.out 8 (by kernel_rfl)); have E45_ := (E45 u).trans e45
              skip
              go_simp
              exact hKK _ _ ⟨_, P36 u _, xco, xcc, xuo, xuc, xvs, xeo, xec, xro, xrc, gK, gS, HBW, (u10 U0), (u10 U1), (u10 U2), (u10 U3), (u10 U4), (u10 U5), (u10 U6), (u10 U7), (u10 U8), Lib.hid (fun h0 => frUpd_self), (u10 U10), (u10 U11), (u10 U12), (u10 U13), (u10 U14), (u10 U17), (k10 OX), (k10 A2gK), (k11 A3gK), (k10 A4gK), (k20 A5gKX), (k10 A2gS), (k11 A3gS), (k10 A4gS), (k20 A5gSX), (k20 A6gKgS)⟩
            · skip
              refine wpOp_step (o := _) rfl (fun KK hKK => ?_)
              rw [if_pos (wanted_nil _ rfl)]
              have e36 := U9.out (hw.out 9 (by kernel_rfl)); have E36_ := (E36 u).trans e36
              skip
              go_simp
              exact hKK _ _ ⟨_, P46 u _, xco, xcc, xuo, xuc, xvs, xeo, xec, xro, xrc, gK, gS, HBW, (u10 U0), (u10 U1), (u10 U2), (u10 U3), (u10 U4), (u10 U5), (u10 U6), (u10 U7), (u10 U8), (u10 U9), Lib.hid (fun h0 => frUpd_self), (u10 U11), (u10 U12), (u10 U13), (u10 U14), (u10 U17), (k10 OX), (k10 A2gK), (k11 A3gK), (k10 A4gK), (k20 A5gKX), (k10 A2gS), (k11 A3gS), (k10 A4gS), (k20 A5gSX), (k20 A6gKgS)⟩
            · skip
              refine wpOp_step (o := _) rfl (fun KK hKK => ?_)
              rw [if_pos (wanted_nil _ rfl)]
              have e36 := U9.out (hw.out 9 (by kernel_rfl)); have E36_ := (E36 u).trans e36
              skip
              go_simp
              exact hKK _ _ ⟨_, P47 u _, xco, xcc, xuo, xuc, xvs, xeo, xec, xro, xrc, gK, gS, HBW, (u10 U0), (u10 U1), (u10 U2), (u10 U3), (u10 U4), (u10 U5), (u10 U6), (u10 U7), (u10 U8), (u10 U9), (u10 U10), Lib.hid (fun h0 => frUpd_self), (u10 U12), (u10 U13), (u10 U14), (u10 U17), (k10 OX), (k10 A2gK), (k11 A3gK), (k10 A4gK), (k20 A5gKX), (k10 A2gS), (k11 A3gS), (k10 A4gS), (k20 A5gSX), (k20 A6gKgS)⟩
            · skip
              refine wpOp_step (o := _) rfl (fun KK hKK => ?_)
              rw [if_pos (wanted_nil _ rfl)]
              have e36 := U9.out (hw.out 9 (by kernel_rfl)); have E36_ := (E36 u).trans e36
              skip
              go_simp
              exact hKK _ _ ⟨_, P48 u _, xco, xcc, xuo, xuc, xvs, xeo, xec, xro, xrc, gK, gS, HBW, (u10 U0), (u10 U1), (u10 U2), (u10 U3), (u10 U4), (u10 U5), (u10 U6), (u10 U7), (u10 U8), (u10 U9), (u10 U10), (u10 U11), Lib.hid (fun h0 => frUpd_self), (u10 U13), (u10 U14), (u10 U17), (k10 OX), (k10 A2gK), (k11 A3gK), (k10 A4gK), (k20 A5gKX), (k10 A2gS), (k11 A3gS), (k10 A4gS), (k20 A5gSX), (k20 A6gKgS)⟩
            · skip
              refine wpOp_step (o := _) rfl (fun KK hKK => ?_)
              rw [if_pos (wanted_nil _ rfl)]
              skip
              go_simp
              have hb : Below wv.heap.size wv (wv.alloc (.cells #[.slice none 0 0, .slice none 0 0, .slice none 0 0, .int .i64 0, .slice none 0 0] 35)) := (Below.refl _ wv).alloc (Nat.le_refl _) (.cells #[.slice none 0 0, .slice none 0 0, .slice none 0 0, .int .i64 0, .slice none 0 0] 35)
              have hbn : wv.heap.size < (wv.alloc (.cells #[.slice none 0 0, .slice none 0 0, .slice none 0 0, .int .i64 0, .slice none 0 0] 35)).heap.size := by rw [World.size_alloc]; omega
              have BN : BoxAt (wv.alloc (.cells #[.slice none 0 0, .slice none 0 0, .slice none 0 0, .int .i64 0, .slice none 0 0] 35)) wv.heap.size [.slice none 0 0, .slice none 0 0, .slice none 0 0, .int .i64 0, .slice none 0 0] := (BoxAt.snoc (BoxAt.snoc (BoxAt.snoc (BoxAt.snoc (BoxAt.snoc (BoxAt.nil (w := (wv.alloc (.cells #[.slice none 0 0, .slice none 0 0, .slice none 0 0, .int .i64 0, .slice none 0 0] 35))) (g := wv.heap.size) (by go_simp)) (v := .slice none 0 0) (i := 0) rfl (by go_simp) (by go_simp)) (v := .slice none 0 0) (i := 1) rfl (by go_simp) (by go_simp)) (v := .slice none 0 0) (i := 2) rfl (by go_simp) (by go_simp)) (v := .int .i64 0) (i := 3) rfl (by go_simp) (by go_simp)) (v := .slice none 0 0) (i := 4) rfl (by go_simp) (by go_simp))
              exact hKK _ _ ⟨_, P14 u _, xco, xcc, xuo, xuc, xvs, xeo, xec, xro, xrc, wv.heap.size, gS, (Lib.hid (hbw.trans (hb.mono (by rw [hps]; omega)))), (u10 U0), (u10 U1), (u10 U2), (u10 U3), (u10 U4), (u10 U5), (u10 U6), (u10 U7), (u10 U8), (u10 U9), (u10 U10), (u10 U11), (u10 U12), Lib.hid (fun h0 => frUpd_self), (u10 U14), (u10 U17), (m10 (fun h => KOwn.below h hb) OX), Lib.hid (fun h0 => ⟨by omega, hbn⟩), Lib.hid (fun h0 m0 => BN), Lib.hid (fun h0 => absurd (hcl.out 15 13 (by kernel_rfl) (addD_of h0 (by decide))) hn), Lib.hid (fun h0 h1 => fun hm => Nat.lt_irrefl _ ((((OX.out (addD_of h1 (by decide)))).lts) _ hm).2), (m10 (lt_grow hb.size) A2gS), (m11 (fun h => h.below hb) A3gS), (m10 (fun h => h.below hb) A4gS), (k20 A5gSX), Lib.hid (fun h0 h1 => Nat.ne_of_gt (A2gS.out (addD_of h1 (by decide))).2)⟩
            · skip
              refine wpOp_step (o := _) rfl (fun KK hKK => ?_)
              rw [if_pos (wanted_nil _ rfl)]
              skip
              go_simp
              have hb : Below wv.heap.size wv (wv.alloc (.cells #[.int .i64 0, .int .i64 0, .int .i64 0] 49)) := (Below.refl _ wv).alloc (Nat.le_refl _) (.cells #[.int .i64 0, .int .i64 0, .int .i64 0] 49)
              have hbn : wv.heap.size < (wv.alloc (.cells #[.int .i64 0, .int .i64 0, .int .i64 0] 49)).heap.size := by rw [World.size_alloc]; omega
              have BN : BoxAt (wv.alloc (.cells #[.int .i64 0, .int .i64 0, .int .i64 0] 49)) wv.heap.size [.int .i64 0, .int .i64 0, .int .i64 0] := (BoxAt.snoc (BoxAt.snoc (BoxAt.snoc (BoxAt.nil (w := (wv.alloc (.cells #[.int .i64 0, .int .i64 0, .int .i64 0] 49))) (g := wv.heap.size) (by go_simp)) (v := .int .i64 0) (i := 0) rfl (by go_simp) (by go_simp)) (v := .int .i64 0) (i := 1) rfl (by go_simp) (by go_simp)) (v := .int .i64 0) (i := 2) rfl (by go_simp) (by go_simp))
              exact hKK _ _ ⟨_, P15 u _, xco, xcc, xuo, xuc, xvs, xeo, xec, xro, xrc, gK, wv.heap.size, (Lib.hid (hbw.trans (hb.mono (by rw [hps]; omega)))), (u10 U0), (u10 U1), (u10 U2), (u10 U3), (u10 U4), (u10 U5), (u10 U6), (u10 U7), (u10 U8), (u10 U9), (u10 U10), (u10 U11), (u10 U12), (u10 U13), Lib.hid (fun h0 => frUpd_self), (u10 U17), (m10 (fun h => KOwn.below h hb) OX), (m10 (lt_grow hb.size) A2gK), (m11 (fun h => h.below hb) A3gK), (m10 (fun h => h.below hb) A4gK), (k20 A5gKX), Lib.hid (fun h0 => ⟨by omega, hbn⟩), Lib.hid (fun h0 m0 => BN), Lib.hid (fun h0 => absurd (hcl.out 16 14 (by kernel_rfl) (addD_of h0 (by decide))) hn), Lib.hid (fun h0 h1 => fun hm => Nat.lt_irrefl _ ((((OX.out (addD_of h1 (by decide)))).lts) _ hm).2), Lib.hid (fun h0 h1 => Nat.ne_of_lt (A2gK.out (addD_of h0 (by decide))).2)⟩
            · skip
              refine wpOp_step (o := _) rfl (fun KK hKK => ?_)
              rw [if_pos (wanted_nil _ rfl)]
              have e14 := U13.out (hw.out 13 (by kernel_rfl)); have E14_ := (E14 u).trans e14
              have e46 := U10.out (hw.out 10 (by kernel_rfl)); have E46_ := (E46 u).trans e46
              have bx := A3gK.out (hw.out 13 (by kernel_rfl)) hn
              have c0 := (bx.cells 0 _ rfl).1; have f0 := (bx.cells 0 _ rfl).2
              have c1 := (bx.cells 1 _ rfl).1; have f1 := (bx.cells 1 _ rfl).2
              have c2 := (bx.cells 2 _ rfl).1; have f2 := (bx.cells 2 _ rfl).2
              have c3 := (bx.cells 3 _ rfl).1; have f3 := (bx.cells 3 _ rfl).2
              have c4 := (bx.cells 4 _ rfl).1; have f4 := (bx.cells 4 _ rfl).2
              have hgl := A2gK.out (hw.out 13 (by kernel_rfl))
              skip
              go_simp
              have ht : Touch [gK] wv (((((wv.setCell ⟨gK, 0, none⟩ (.slice xco xvs.length xcc)).setCell ⟨gK, 1, none⟩ (.slice xuo K2.m.f.used.length xuc)).setCell ⟨gK, 2, none⟩ (.slice xeo K2.m.ents.length xec)).setCell ⟨gK, 3, none⟩ (.int .i64 (K2.calls))).setCell ⟨gK, 4, none⟩ (.slice xro K2.refuse.length xrc)) := touch_bx (touch_bx (touch_bx (touch_bx (touch_bx (Touch.refl [gK] wv)))))
              have hb := ht.toBelow (B := we.heap.size + 1) (fun g hg => by have := List.mem_singleton.1 hg; omega) (by omega)
              have BN : BoxAt (((((wv.setCell ⟨gK, 0, none⟩ (.slice xco xvs.length xcc)).setCell ⟨gK, 1, none⟩ (.slice xuo K2.m.f.used.length xuc)).setCell ⟨gK, 2, none⟩ (.slice xeo K2.m.ents.length xec)).setCell ⟨gK, 3, none⟩ (.int .i64 (K2.calls))).setCell ⟨gK, 4, none⟩ (.slice xro K2.refuse.length xrc)) gK [.slice xco xvs.length xcc, .slice xuo K2.m.f.used.length xuc, .slice xeo K2.m.ents.length xec, .int .i64 (K2.calls), .slice xro K2.refuse.length xrc] := (BoxAt.snoc (BoxAt.snoc (BoxAt.snoc (BoxAt.snoc (BoxAt.snoc (BoxAt.nil (w := (((((wv.setCell ⟨gK, 0, none⟩ (.slice xco xvs.length xcc)).setCell ⟨gK, 1, none⟩ (.slice xuo K2.m.f.used.length xuc)).setCell ⟨gK, 2, none⟩ (.slice xeo K2.m.ents.length xec)).setCell ⟨gK, 3, none⟩ (.int .i64 (K2.calls))).setCell ⟨gK, 4, none⟩ (.slice xro K2.refuse.length xrc))) (g := gK) (by have := ht.size; omega)) (v := .slice xco xvs.length xcc) (i := 0) rfl (by go_simp) (by go_simp)) (v := .slice xuo K2.m.f.used.length xuc) (i := 1) rfl (by go_simp) (by go_simp)) (v := .slice xeo K2.m.ents.length xec) (i := 2) rfl (by go_simp) (by go_simp)) (v := .int .i64 (K2.calls)) (i := 3) rfl (by go_simp) (by go_simp)) (v := .slice xro K2.refuse.length xrc) (i := 4) rfl (by go_simp) (by go_simp))
              have HDM : D 8 := (hcl.out 9 8 (by kernel_rfl) (hcl.out 10 9 (by kernel_rfl) (hw.out 10 (by kernel_rfl))))
              exact hKK _ _ ⟨u, rfl, xco, xcc, xuo, xuc, xvs, xeo, xec, xro, xrc, gK, gS, (Lib.hid (hbw.trans (hb.mono (by rw [hps]; exact Nat.le_refl _)))), (k10 U0), (k10 U1), (k10 U2), (k10 U3), (k10 U4), (k10 U5), (k10 U6), (k10 U7), (k10 U8), (k10 U9), (k10 U10), (k10 U11), (k10 U12), (k10 U13), (k10 U14), (k10 U17), (md10 (fun d h => KOwn.touch h ht (fun g hg hm => by cases List.mem_singleton.1 hm; exact A5gKX.out (hw.out 13 (by kernel_rfl)) d hg)) OX), (m10 (lt_grow ht.size) A2gK), x11, Lib.hid (fun h0 => BN), (k20 A5gKX), (m10 (lt_grow ht.size) A2gS), Lib.hid (fun h0 m0 => (A3gS.out (addD_of h0 (by decide)) (fun x => m0 (addD_mem x))).touch ht (fun hm => (A6gKgS.out (hw.out 13 (by kernel_rfl)) (addD_of h0 (by decide))) (List.mem_singleton.1 hm).symm)), Lib.hid (fun h0 => (A4gS.out (addD_of h0 (by decide))).touch ht (fun hm => (A6gKgS.out (hw.out 13 (by kernel_rfl)) (hcl.out 16 14 (by kernel_rfl) (addD_of h0 (by decide)))) (List.mem_singleton.1 hm).symm)), (k20 A5gSX), (k20 A6gKgS)⟩
            · skip
              refine wpOp_step (o := _) rfl (fun KK hKK => ?_)
              rw [if_pos (wanted_nil _ rfl)]
              have e15 := U14.out (hw.out 14 (by kernel_rfl)); have E15_ := (E15 u).trans e15
              have e47 := U11.out (hw.out 11 (by kernel_rfl)); have E47_ := (E47 u).trans e47
              have bx := A3gS.out (hw.out 14 (by kernel_rfl)) hn
              have c0 := (bx.cells 0 _ rfl).1; have f0 := (bx.cells 0 _ rfl).2
              have c1 := (bx.cells 1 _ rfl).1; have f1 := (bx.cells 1 _ rfl).2
              have c2 := (bx.cells 2 _ rfl).1; have f2 := (bx.cells 2 _ rfl).2
              have hgl := A2gS.out (hw.out 14 (by kernel_rfl))
              skip
              go_simp
              have ht : Touch [gS] wv (((wv.setCell ⟨gS, 0, none⟩ (.int .i64 p)).setCell ⟨gS, 1, none⟩ (.int .i64 c)).setCell ⟨gS, 2, none⟩ (.int .i64 b2)) := touch_bx (touch_bx (touch_bx (Touch.refl [gS] wv)))
              have hb := ht.toBelow (B := we.heap.size + 1) (fun g hg => by have := List.mem_singleton.1 hg; omega) (by omega)
              have BN : BoxAt (((wv.setCell ⟨gS, 0, none⟩ (.int .i64 p)).setCell ⟨gS, 1, none⟩ (.int .i64 c)).setCell ⟨gS, 2, none⟩ (.int .i64 b2)) gS [.int .i64 p, .int .i64 c, .int .i64 b2] := (BoxAt.snoc (BoxAt.snoc (BoxAt.snoc (BoxAt.nil (w := (((wv.setCell ⟨gS, 0, none⟩ (.int .i64 p)).setCell ⟨gS, 1, none⟩ (.int .i64 c)).setCell ⟨gS, 2, none⟩ (.int .i64 b2))) (g := gS) (by have := ht.size; omega)) (v := .int .i64 p) (i := 0) rfl (by go_simp) (by go_simp)) (v := .int .i64 c) (i := 1) rfl (by go_simp) (by go_simp)) (v := .int .i64 b2) (i := 2) rfl (by go_simp) (by go_simp))
              have HDM : D 8 := (hcl.out 9 8 (by kernel_rfl) (hcl.out 11 9 (by kernel_rfl) (hw.out 11 (by kernel_rfl))))
              exact hKK _ _ ⟨u, rfl, xco, xcc, xuo, xuc, xvs, xeo, xec, xro, xrc, gK, gS, (Lib.hid (hbw.trans (hb.mono (by rw [hps]; exact Nat.le_refl _)))), (k10 U0), (k10 U1), (k10 U2), (k10 U3), (k10 U4), (k10 U5), (k10 U6), (k10 U7), (k10 U8), (k10 U9), (k10 U10), (k10 U11), (k10 U12), (k10 U13), (k10 U14), (k10 U17), (md10 (fun d h => KOwn.touch h ht (fun g hg hm => by cases List.mem_singleton.1 hm; exact A5gSX.out (hw.out 14 (by kernel_rfl)) d hg)) OX), (m10 (lt_grow ht.size) A2gK), Lib.hid (fun h0 m0 => (A3gK.out (addD_of h0 (by decide)) (fun x => m0 (addD_mem x))).touch ht (fun hm => (A6gKgS.out (addD_of h0 (by decide)) (hw.out 14 (by kernel_rfl))) (List.mem_singleton.1 hm))), Lib.hid (fun h0 => (A4gK.out (addD_of h0 (by decide))).touch ht (fun hm => (A6gKgS.out (hcl.out 15 13 (by kernel_rfl) (addD_of h0 (by decide))) (hw.out 14 (by kernel_rfl))) (List.mem_singleton.1 hm))), (k20 A5gKX), (m10 (lt_grow ht.size) A2gS), x11, Lib.hid (fun h0 => BN), (k20 A5gSX), (k20 A6gKgS)⟩
            · skip
              refine wpOp_step (o := _) rfl (fun KK hKK => ?_)
              rw [if_pos (wanted_nil _ rfl)]
              have e48 := U12.out (hw.out 12 (by kernel_rfl)); have E48_ := (E48 u).trans e48
              skip
              go_simp
              exact hKK _ _ ⟨_, P16 u _, xco, xcc, xuo, xuc, xvs, xeo, xec, xro, xrc, gK, gS, HBW, (u10 U0), (u10 U1), (u10 U2), (u10 U3), (u10 U4), (u10 U5), (u10 U6), (u10 U7), (u10 U8), (u10 U9), (u10 U10), (u10 U11), (u10 U12), (u10 U13), (u10 U14), Lib.hid (fun h0 => frUpd_self), (k10 OX), (k10 A2gK), (k11 A3gK), (k10 A4gK), (k20 A5gKX), (k10 A2gS), (k11 A3gS), (k10 A4gS), (k20 A5gSX), (k20 A6gKgS)⟩
          · rintro D u wv ⟨xco, xcc, xuo, xuc, xvs, xeo, xec, xro, xrc, gK, gS, HBW, U0, U1, U2, U3, U4, U5, U6, U7, U8, U9, U10, U11, U12, U13, U14, U17, OX, A2gK, A3gK, A4gK, A5gKX, A2gS, A3gS, A4gS, A5gSX, A6gKgS⟩ hall
            have d0 := hall 0 (by show 0 < 18; decide)
            have d1 := hall 1 (by show 1 < 18; decide)
            have d2 := hall 2 (by show 2 < 18; decide)
            have d3 := hall 3 (by show 3 < 18; decide)
            have d4 := hall 4 (by show 4 < 18; decide)
            have d5 := hall 5 (by show 5 < 18; decide)
            have d6 := hall 6 (by show 6 < 18; decide)
            have d7 := hall 7 (by show 7 < 18; decide)
            have d8 := hall 8 (by show 8 < 18; decide)
            have d9 := hall 9 (by show 9 < 18; decide)
            have d10 := hall 10 (by show 10 < 18; decide)
            have d11 := hall 11 (by show 11 < 18; decide)
            have d12 := hall 12 (by show 12 < 18; decide)
            have d13 := hall 13 (by show 13 < 18; decide)
            have d14 := hall 14 (by show 14 < 18; decide)
            have d15 := hall 15 (by show 15 < 18; decide)
            have d16 := hall 16 (by show 16 < 18; decide)
            have d17 := hall 17 (by show 17 < 18; decide)
            have ha1 := ha0.out; subst ha1
            simp only [frAll, frTo, List.setIfInBounds_toArray, List.set_cons_succ, List.set_cons_zero]
            go_wp2_with fail
            go_meet
            exact ⟨xco, xcc, xuo, xuc, xvs, xeo, xec, xro, xrc, gK, gS, (U13.out d13), (U14.out d14), (U17.out d17), (A4gK.out d15), (A4gS.out d16), (OX.out d8), (A5gKX.out d13 d8), (A5gSX.out d14 d8), (A6gKgS.out d13 d14), (A2gK.out d13).1, (A2gS.out d14).1, HBW.out⟩
    obtain ⟨xco, xcc, xuo, xuc, xvs, xeo, xec, xro, xrc, gK, gS, rfl, rfl, rfl, bK2, bS, oX, nk, ns, hne, hgK, hgS, hbel⟩ := hcut
    obtain ⟨wg, rfl⟩ : ∃ x, x = wc := ⟨_, rfl⟩
    have hzg := hbel.size
    simp only [World.size_alloc, World.size_drew] at hzg
    have HBG : Hid (Below we.heap.size we wg) := Lib.hid (by exact bel)
    have BL2 := Lib.hid (BL.out.below hbel); have BK2 := Lib.hid bK2; have BS2 := Lib.hid bS; have OX := Lib.hid oX
    have BK3 := Lib.hid (BK.out.below HBG.out)
    clear bK2 bS oX hbel BL BK9
    clear kwe_1_0 fwe_1_0 kwe_1_1 fwe_1_1 kwe_1_2 fwe_1_2 kwe_1_3 fwe_1_3 kwe_1_4 fwe_1_4 kwe_O_0 fwe_O_0 kwe_O_1 fwe_O_1 kwe_O_2 fwe_O_2 kwe_O_3 fwe_O_3 kwe_O_4 fwe_O_4
    have OW3 := Lib.hid (Own.below OW.out HBG.out)
    obtain ⟨-, -, a0, b0, a1, b1, a2, b2', -⟩ : gs = gs ∧ gs = gs ∧ wg.cell? ⟨gs, q * 3, none⟩ = some (.int .i64 p) ∧ wg.frozen? ⟨gs, q * 3, none⟩ = false ∧ wg.cell? ⟨gs, q * 3 + 1, none⟩ = some (.int .i64 c) ∧ wg.frozen? ⟨gs, q * 3 + 1, none⟩ = false ∧ wg.cell? ⟨gs, q * 3 + 2, none⟩ = some (.int .i64 b) ∧ wg.frozen? ⟨gs, q * 3 + 2, none⟩ = false ∧ True := ⟨rfl, rfl, (HBG.out.cell (p := ⟨gs, q * 3, none⟩) hgs9).trans e0, (HBG.out.frozen (p := ⟨gs, q * 3, none⟩) hgs9).trans d0, (HBG.out.cell (p := ⟨gs, q * 3 + 1, none⟩) hgs9).trans e1, (HBG.out.frozen (p := ⟨gs, q * 3 + 1, none⟩) hgs9).trans d1, (HBG.out.cell (p := ⟨gs, q * 3 + 2, none⟩) hgs9).trans e2, (HBG.out.frozen (p := ⟨gs, q * 3 + 2, none⟩) hgs9).trans d2, trivial⟩
    clear e0 d0 e1 d1 e2 d2 c0 c1
    have kwg_L_0 := (BL2.out.cells 0 _ rfl).1; have fwg_L_0 := (BL2.out.cells 0 _ rfl).2; have kwg_L_1 := (BL2.out.cells 1 _ rfl).1; have fwg_L_1 := (BL2.out.cells 1 _ rfl).2; have xwg_L := BL2.out.lt
    have kwg_M_0 := (BK2.out.cells 0 _ rfl).1; have fwg_M_0 := (BK2.out.cells 0 _ rfl).2; have kwg_M_1 := (BK2.out.cells 1 _ rfl).1; have fwg_M_1 := (BK2.out.cells 1 _ rfl).2; have kwg_M_2 := (BK2.out.cells 2 _ rfl).1; have fwg_M_2 := (BK2.out.cells 2 _ rfl).2; have kwg_M_3 := (BK2.out.cells 3 _ rfl).1; have fwg_M_3 := (BK2.out.cells 3 _ rfl).2; have kwg_M_4 := (BK2.out.cells 4 _ rfl).1; have fwg_M_4 := (BK2.out.cells 4 _ rfl).2; have xwg_M := BK2.out.lt
    have kwg_S_0 := (BS2.out.cells 0 _ rfl).1; have fwg_S_0 := (BS2.out.cells 0 _ rfl).2; have kwg_S_1 := (BS2.out.cells 1 _ rfl).1; have fwg_S_1 := (BS2.out.cells 1 _ rfl).2; have kwg_S_2 := (BS2.out.cells 2 _ rfl).1; have fwg_S_2 := (BS2.out.cells 2 _ rfl).2; have xwg_S := BS2.out.lt
    have kwg_O_0 := (BK3.out.cells 0 _ rfl).1; have fwg_O_0 := (BK3.out.cells 0 _ rfl).2; have kwg_O_1 := (BK3.out.cells 1 _ rfl).1; have fwg_O_1 := (BK3.out.cells 1 _ rfl).2; have kwg_O_2 := (BK3.out.cells 2 _ rfl).1; have fwg_O_2 := (BK3.out.cells 2 _ rfl).2; have kwg_O_3 := (BK3.out.cells 3 _ rfl).1; have fwg_O_3 := (BK3.out.cells 3 _ rfl).2; have kwg_O_4 := (BK3.out.cells 4 _ rfl).1; have fwg_O_4 := (BK3.out.cells 4 _ rfl).2; have xwg_O := BK3.out.lt
    have xgs : gs < wg.heap.size := by omega
    have g5 : ¬ gK = wa.heap.size := by omega
    have g6 : ¬ wa.heap.size = gK := by omega
    have g7 : ¬ gS = wa.heap.size := by omega
    have g8 : ¬ wa.heap.size = gS := by omega
    have g9 : ¬ gK = gs := by omega
    have g10 : ¬ gs = gK := by omega
    have g11 : ¬ gS = gs := by omega
    have g12 : ¬ gs = gS := by omega
    have g13 : ¬ we.heap.size = wa.heap.size := by omega
    have g14 : ¬ we.heap.size = gs := by omega
    have g15 : ¬ wa.heap.size = we.heap.size := by omega
    have g16 : ¬ gs = we.heap.size := by omega
    go_upto_region 9 with fail
    go_cut [54] (fun ss54 wx => BoxAt wx (wa.heap.size) [.slice xco xvs.length xcc, .slice xuo K2.m.f.used.length xuc, .slice xeo K2.m.ents.length xec, .int .i64 (K2.calls), .slice xro K2.refuse.length xrc] ∧ OwnSp (w.heap.size + 1 + 1) wx (.slice (some ⟨gs, 0, none⟩) ss.length uc) (sp.set q ⟨p, c, b2⟩) ∧ Touch [wa.heap.size, gs] wg wx)
    case first =>
      (go_region_held3 (fun w' => w'.cell? ⟨we.heap.size, 0, none⟩ = some (.int .i64 (q : Int)) ∧ w'.cell? ⟨gK, 0, none⟩ = some (.slice xco xvs.length xcc) ∧ w'.cell? ⟨gK, 1, none⟩ = some (.slice xuo K2.m.f.used.length xuc) ∧ w'.cell? ⟨gK, 2, none⟩ = some (.slice xeo K2.m.ents.length xec) ∧ w'.cell? ⟨gK, 3, none⟩ = some (.int .i64 (K2.calls)) ∧ w'.cell? ⟨gK, 4, none⟩ = some (.slice xro K2.refuse.length xrc) ∧ w'.cell? ⟨gS, 0, none⟩ = some (.int .i64 p) ∧ w'.cell? ⟨gS, 1, none⟩ = some (.int .i64 c) ∧ w'.cell? ⟨gS, 2, none⟩ = some (.int .i64 b2)) (first | (refine ⟨?_, ?_, ?_, ?_, ?_, ?_, ?_, ?_, ?_⟩ <;> (go_simp; done)) | go_keep) (first | fail); all_goals (go_wp2_with fail; go_meet; refine ⟨(BoxAt.snoc (BoxAt.snoc (BoxAt.snoc (BoxAt.snoc (BoxAt.snoc (BoxAt.nil (w := _) (g := wa.heap.size) (by exact zo)) (v := .slice xco xvs.length xcc) (i := 0) rfl (by go_simp) (by go_simp)) (v := .slice xuo K2.m.f.used.length xuc) (i := 1) rfl (by go_simp) (by go_simp)) (v := .slice xeo K2.m.ents.length xec) (i := 2) rfl (by go_simp) (by go_simp)) (v := .int .i64 (K2.calls)) (i := 3) rfl (by go_simp) (by go_simp)) (v := .slice xro K2.refuse.length xrc) (i := 4) rfl (by go_simp) (by go_simp)), ?_, (by repeat (first | (with_reducible refine touch_setC ?_ (by simp)) | (with_reducible refine touch_drewT ?_) | (with_reducible exact Touch.refl _ _)))⟩; (with_reducible refine Own.below ?_ (Below.drew (Below.refl _ _))); (first
        | ((with_reducible refine OwnSp.put (w := (((((wg.setCell ⟨wa.heap.size, 0, none⟩ (.slice xco xvs.length xcc)).setCell ⟨wa.heap.size, 1, none⟩ (.slice xuo K2.m.f.used.length xuc)).setCell ⟨wa.heap.size, 2, none⟩ (.slice xeo K2.m.ents.length xec)).setCell ⟨wa.heap.size, 3, none⟩ (.int .i64 (K2.calls))).setCell ⟨wa.heap.size, 4, none⟩ (.slice xro K2.refuse.length xrc))) ?_ ?_ p c b2); (focus (exact Own.touchs (S := [wa.heap.size]) OW3.out (by repeat (first | (with_reducible refine touch_setC ?_ (by simp)) | (with_reducible refine touch_drewT ?_) | (with_reducible exact Touch.refl _ _))) (fun g hg hm => by cases List.mem_singleton.1 hm; exact HK2.out hg))); (focus omega))
        | (refine Own.touchs (S := [wa.heap.size]) (w := (((wg.setCell ⟨gs, q * 3, none⟩ (.int .i64 p)).setCell ⟨gs, q * 3 + 1, none⟩ (.int .i64 c)).setCell ⟨gs, q * 3 + 2, none⟩ (.int .i64 b2))) ?_ ?_ ?_; (focus (exact OwnSp.put OW3.out (by omega) p c b2)); (focus (repeat (first | (with_reducible exact Touch.refl _ _) | (with_reducible refine touch_setC ?_ (List.mem_singleton.2 rfl))))); (focus (intro g hg hm; cases List.mem_singleton.1 hm; exact HK2.out hg))))))
    obtain ⟨bK4, oS4, ht4⟩ := hcut
    obtain ⟨wh, rfl⟩ : ∃ x, x = wc := ⟨_, rfl⟩
    have hzh := ht4.size
    have BK4 := Lib.hid bK4; have OS4 := Lib.hid oS4; have HT4 := Lib.hid ht4
    clear bK4 oS4
    have BL4 := Lib.hid (BL2.out.touch ht4 (fun hm => by rcases List.mem_cons.1 hm with e | hm; (focus exact g13 e); (focus exact g14 (List.mem_singleton.1 hm))))
    have B14 := Lib.hid ((B1.out.below HBG.out).touch ht4 (fun hm => by rcases List.mem_cons.1 hm with e | hm; (focus omega); (focus exact g4 (List.mem_singleton.1 hm))))
    have OX4 := Lib.hid ((OX.out.touch ht4 (fun g hg hm => by have h1 := (OX.out.lts g hg).1; rcases List.mem_cons.1 hm with e | hm; (focus omega); (focus (have := List.mem_singleton.1 hm; omega)))).mono (B' := w.heap.size + 1 + 1) (by omega))
    have OL3 := Lib.hid (Own.touchs (Own.below OL.out HBG.out) ht4 (fun g hg hm => by rcases List.mem_cons.1 hm with e | hm; (focus exact HK3.out (e ▸ hg)); (focus (cases List.mem_singleton.1 hm; exact AP3.out _ (mem_one rfl) hg))))
    have XL : Hid (∀ g ∈ blocks (KV.all ⟨⟨⟨.slice xco xvs.length xcc, .slice xuo K2.m.f.used.length xuc, xvs⟩, .slice xeo K2.m.ents.length xec⟩, .slice xro K2.refuse.length xrc⟩), we.heap.size + 1 ≤ g) := Lib.hid (fun g hg => (OX.out.lts g hg).1)
    have HBH : Hid (Below w.heap.size w wh) := Lib.hid ((BWE.out.trans (HBG.out.mono (by omega))).trans (ht4.toBelow (fun g hm => by rcases List.mem_cons.1 hm with e | hm; (focus omega); (focus (have := List.mem_singleton.1 hm; omega))) (by omega)))
    clear ht4
    clear kwg_L_0 fwg_L_0 kwg_L_1 fwg_L_1 kwg_M_0 fwg_M_0 kwg_M_1 fwg_M_1 kwg_M_2 fwg_M_2 kwg_M_3 fwg_M_3 kwg_M_4 fwg_M_4 kwg_S_0 fwg_S_0 kwg_S_1 fwg_S_1 kwg_S_2 fwg_S_2 kwg_O_0 fwg_O_0 kwg_O_1 fwg_O_1 kwg_O_2 fwg_O_2 kwg_O_3 fwg_O_3 kwg_O_4 fwg_O_4
    clear a0 b0 a1 b1 a2 b2'
    have kwh_L_0 := (BL4.out.cells 0 _ rfl).1; have fwh_L_0 := (BL4.out.cells 0 _ rfl).2; have kwh_L_1 := (BL4.out.cells 1 _ rfl).1; have fwh_L_1 := (BL4.out.cells 1 _ rfl).2; have xwh_L := BL4.out.lt
    by_cases hcd : code = 2
    rotate_left
    · have hcd2 : (code == 2) = false := by simpa using hcd
      go_wp2_with (first | (with_reducible refine wp_region_grew2 (by kernel_rfl) (by kernel_rfl) ?_; intro w2 hb; (first | have hn := nw4 hb hall (by exact zo) | have hn := nw3 hb hall (by exact zo) | have hn := nw2 hb hall (by exact zo) | have hn := nw1 hb hall (by exact zo) | have hn := nw0 hb hall (by exact zo)); obtain ⟨hc, hf, hn, hc0⟩ := hn; replace hall := hn; clear hn; have hz := hb.size; (try simp only [World.size_alloc, World.size_setCell, World.size_drew] at hz); have hx := hall; (try simp only [allLt, and_true] at hx); obtain ⟨w1, rfl⟩ : ∃ x, x = w2 := ⟨_, rfl⟩; (repeat (go_big_quiet_step (fail))); refine wpQuiet_nil ?_; intro w2 hw'; have hb := grew_below hw'; clear hw'; (first | have hn := nw4 hb hall (by exact zo) | have hn := nw3 hb hall (by exact zo) | have hn := nw2 hb hall (by exact zo) | have hn := nw1 hb hall (by exact zo) | have hn := nw0 hb hall (by exact zo)); obtain ⟨hc, hf, hn, hc0⟩ := hn; replace hall := hn; clear hn; have hz := hb.size; (try simp only [World.size_alloc, World.size_setCell, World.size_drew] at hz); have hx := hall; (try simp only [allLt, and_true] at hx); obtain ⟨w1, rfl⟩ : ∃ x, x = w2 := ⟨_, rfl⟩))
      go_roundw
      case rel =>
        refine ⟨n + 1, K2, sp.set q ⟨p, c, b2⟩, left, ⟨⟨⟨.slice xco xvs.length xcc, .slice xuo K2.m.f.used.length xuc, xvs⟩, .slice xeo K2.m.ents.length xec⟩, .slice xro K2.refuse.length xrc⟩, lo, lc, rfl, by go_num, by omega, by rw [laTo, HT.out, HGD.out]; refine HST.out.trans ?_; rw [if_neg hcd], HS2.out, by rw [List.length_set]; exact hsl, by have := HLL.out; omega, BK4.out, B14.out, OX4.out, OS4.out, OL3.out, ?_, HK2.out, HK3.out, ?_, ?_, AP3.out, HBH.out⟩
        · intro hm; have := XL.out _ hm; omega
        · intro g hg hm; have := XL.out g hg; have := (Own.lts OW.out g hm).2; omega
        · intro g hg hm; have := XL.out g hg; have := (Own.lts OL.out g hm).2; omega
      case measure => first | (simp [intOf]; done) | (simp [intOf]; omega)
    · subst hcd
      go_wp2_with (first | (at_builtin; refine wpList_append1 elemLt rfl _ _ rfl lenLt rfl (Own.alloc OL3.out _) (by exact zt) rfl (⟨q, sl⟩ : Lt) (oneLt _) (by intro j u hj; match j, hj with | 0, hj => (simp [fLt] at hj; subst hj; go_simp) | 1, hj => (simp [fLt] at hj; subst hj; go_simp) | j + 2, hj => simp [fLt] at hj) (by have := HLL.out; have := HXL.out; unfold maxLen; omega) ?_; intro v2 w2 hown2 hgr2 hat2 hb2; obtain ⟨lo2, lc2, rfl, -, -⟩ := hown2.shape; (have HNB := Lib.hid (new_blk hat2)); clear hat2; (try simp only [World.size_alloc] at HNB); have OR := Lib.hid hown2; (have HTA := Lib.hid (grown_touch1 hgr2)); have HB3 := Lib.hid hb2; clear hown2 hgr2 hb2; obtain ⟨wi, rfl⟩ : ∃ x, x = w2 := ⟨_, rfl⟩) | (with_reducible refine wp_region_grew2 (by kernel_rfl) (by kernel_rfl) ?_; intro w2 hb; (first | have hn := nw4 hb hall (by exact zo) | have hn := nw3 hb hall (by exact zo) | have hn := nw2 hb hall (by exact zo) | have hn := nw1 hb hall (by exact zo) | have hn := nw0 hb hall (by exact zo)); obtain ⟨hc, hf, hn, hc0⟩ := hn; replace hall := hn; clear hn; have hz := hb.size; (try simp only [World.size_alloc, World.size_setCell, World.size_drew] at hz); have hx := hall; (try simp only [allLt, and_true] at hx); obtain ⟨w1, rfl⟩ : ∃ x, x = w2 := ⟨_, rfl⟩; (repeat (go_big_quiet_step (fail))); refine wpQuiet_nil ?_; intro w2 hw'; have hb := grew_below hw'; clear hw'; (first | have hn := nw4 hb hall (by exact zo) | have hn := nw3 hb hall (by exact zo) | have hn := nw2 hb hall (by exact zo) | have hn := nw1 hb hall (by exact zo) | have hn := nw0 hb hall (by exact zo)); obtain ⟨hc, hf, hn, hc0⟩ := hn; replace hall := hn; clear hn; have hz := hb.size; (try simp only [World.size_alloc, World.size_setCell, World.size_drew] at hz); have hx := hall; (try simp only [allLt, and_true] at hx); obtain ⟨w1, rfl⟩ : ∃ x, x = w2 := ⟨_, rfl⟩))
      have HBI : Hid (Below wh.heap.size wh (wh.alloc (.cells #[.int .i64 (q : Int), .int .i64 sl] 43))) := Lib.hid (by exact bel)
      have HTI := Lib.hid ((touch_of_below HBI.out _).trans HTA.out)
      have hzi := HTI.out.size
      go_roundw
      case rel =>
        refine ⟨n + 1, K2, sp.set q ⟨p, c, b2⟩, left ++ [⟨q, sl⟩], ⟨⟨⟨.slice xco xvs.length xcc, .slice xuo K2.m.f.used.length xuc, xvs⟩, .slice xeo K2.m.ents.length xec⟩, .slice xro K2.refuse.length xrc⟩, lo2, lc2, (by rw [List.length_append]; rfl), by go_num, by omega, by rw [laTo, HT.out, HGD.out]; refine HST.out.trans ?_; rw [if_pos rfl], HS2.out, by rw [List.length_set]; exact hsl, by have := HLL.out; simp only [List.length_append, List.length_cons, List.length_nil]; omega, BK4.out.touch HTI.out HK3.out, B14.out.touch HTI.out ?_, OX4.out.touch HTI.out ?_, Own.touchs OS4.out HTI.out AP3.out, OR.out, ?_, HK2.out, ?_, ?_, ?_, ?_, HBH.out.trans (HTI.out.toBelow ?_ (by omega))⟩
        · intro hm; have := (Own.lts OL.out _ hm).1; omega
        · intro g hg hm; have := XL.out g hg; have := (Own.lts OL.out g hm).2; omega
        · intro hm; have := XL.out _ hm; omega
        · intro hm; rcases HNB.out _ hm with h | h; (focus exact HK3.out h); (focus omega)
        · intro g hg hm; have := XL.out g hg; have := (Own.lts OW.out g hm).2; omega
        · intro g hg hm; rcases HNB.out g hm with h | h; (focus (have := XL.out g hg; have := (Own.lts OL.out g h).2; omega)); (focus (have := (OX4.out.lts g hg).2; omega))
        · intro g hg hm; rcases HNB.out g hm with h | h; (focus exact AP3.out g hg h); (focus (have := (Own.lts OW.out g hg).2; omega))
        · intro g hm; have := (Own.lts OL.out g hm).1; omega
      case measure => first | (simp [intOf]; done) | (simp [intOf]; omega)

end Go.Proofs.Ytobechjagckdfaa
