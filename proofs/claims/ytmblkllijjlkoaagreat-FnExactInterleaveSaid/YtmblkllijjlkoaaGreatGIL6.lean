/-
  Texts put together: WrT, FinP.
-/
import Derived.Test.YtmblkllijjlkoaaGreatGIL5
import Derived.Test.YtmblkllijjlkoaaGreatGB39
import Derived.Test.YtmblkllijjlkoaaGreatGB17
/-
  One step of a writer behind a pointer, by the reference: nothing but the kernel's box is written. A copy of a list of writers.
-/
set_option linter.unusedVariables false
set_option linter.unusedSimpArgs false
namespace Go.Proofs.YtmblkllijjlkoaaGreat
open Go.RowKit
def WrDoneT (B g : Nat) (y : KV) (w : World) (K : Ker) (x : Wr) (e : Ending) (w' : World) : Prop := ∃ y' : KV, e = .returned x.val ∧ KIn B w' g y' K ∧ Below B w w' ∧ Touch [g] w w' ∧ ∀ b ∈ blocks y'.all, b ∈ blocks y.all ∨ w.heap.size ≤ b
theorem touch_setN {S : List Nat} {w w' : World} {g i : Nat} {v : Value} (h : Touch S w w') (hg : w.heap.size ≤ g) : Touch S w (w'.setCell ⟨g, i, none⟩ v) :=
  touch_skips h (touch_setC (Touch.refl [g] w') (by simp)) (fun b hb => .inr (by cases List.mem_singleton.1 hb; exact hg))
set_option maxRecDepth 20000 in
set_option maxHeartbeats 3200000 in
theorem s_l15StepT (B g : Nat) (y : KV) (K : Ker) (ad va : Int) (dn : Bool) (wt : Int) (hk : kernelOk K = true) (hs : szM K.m ≤ 1048576) (wad : -9223372036854775808 ≤ ad ∧ ad ≤ 9223372036854775807) (w : World) (h : KIn B w g y K) : Calls Tryz.prog 82 #[.pointer (some ⟨g, 0, none⟩), .agg #[.int .i64 ad, .int .i64 va, .bool dn, .int .i64 wt]] w (WrDoneT B g y w (wrK K ⟨ad, va, dn, wt⟩) (wrW K ⟨ad, va, dn, wt⟩)) := by
  have HI := Lib.hid h
  have H3 := Lib.hid hs
  obtain ⟨yco, ycc, yuo, yuc, yvs, yeo, yec, yro, yrc, rfl⟩ := h.own.shapes
  have HM := Lib.hid h.own.m.at
  dsimp only at HM
  obtain ⟨xg, c0, c1, c2, c3, c4, f0, f1, f2, f3, f4⟩ := h.box
  dsimp only at c0 c1 c2 c3 c4
  have hBg := h.hB
  have n0 : ¬ g = w.heap.size := by omega
  have n1 : ¬ g = w.heap.size + 1 := by omega
  have n2 : ¬ g = w.heap.size + 1 + 1 := by omega
  have n3 : ¬ w.heap.size = g := by omega
  have n4 : ¬ w.heap.size + 1 = g := by omega
  have n5 : ¬ w.heap.size + 1 + 1 = g := by omega
  have x1 : g < w.heap.size + 1 := by omega
  have x2 : g < w.heap.size + 1 + 1 := by omega
  have x3 : g < w.heap.size + 1 + 1 + 1 := by omega
  have hne : ∀ b, b = g ∨ w.heap.size ≤ b → (Value.slice yro K.refuse.length yrc).ownBlock ≠ some b := fun b hb e => by
    rcases hb with rfl | hb
    · exact h.ne (sub_left [.slice yro K.refuse.length yrc] _ b (mem_one e))
    · have := (h.own.ref.lt b e).2; omega
  have HNE := Lib.hid hne
  clear h hs hne
  cases dn
  rotate_left
  · have e : wrK K ⟨ad, va, true, wt⟩ = K ∧ wrW K ⟨ad, va, true, wt⟩ = ⟨ad, va, true, wt⟩ := ⟨rfl, rfl⟩
    rw [e.1, e.2]; clear e
    (have hall := all_nil w; go_enter Tryz.func82, Tryz.ntmps82)
    go_wp2_with (fail)
    refine bodyPost_ret (v := .agg #[.int .i64 ad, .int .i64 va, .bool true, .int .i64 wt]) (by simp [results, Tryz.results82, go_sem, *]) rfl ?_
    exact ⟨_, rfl, HI.out.below (by exact bel), (show Below w.heap.size w _ from by exact bel).mono (by omega), touch_of_below (show Below w.heap.size w _ from by exact bel) _, fun b hb => .inl hb⟩
  · obtain ⟨fc0, hfc⟩ : ∃ z, z = storeF K.m ad va := ⟨_, rfl⟩
    have HF := Lib.hid hfc.symm
    cases h2 : (fc0 == 2)
    · have e : wrK K ⟨ad, va, false, wt⟩ = ⟨storeM K.m ad va, K.calls, K.refuse⟩ ∧ wrW K ⟨ad, va, false, wt⟩ = ⟨ad, va, true, wt⟩ := by unfold wrK wrW; rw [hk, ← hfc, h2]; exact ⟨rfl, rfl⟩
      rw [e.1, e.2]; clear e hfc
      (have hall := all_nil w; go_enter Tryz.func82, Tryz.ntmps82)
      go_wp2_with (fail)
      go_region_held3 (fun w' => w'.cell? ⟨g, 0, none⟩ = some (.slice yco yvs.length ycc) ∧ w'.cell? ⟨g, 1, none⟩ = some (.slice yuo K.m.f.used.length yuc) ∧ w'.cell? ⟨g, 2, none⟩ = some (.slice yeo K.m.ents.length yec) ∧ w'.cell? ⟨w.heap.size, 0, none⟩ = some (.int .i64 ad) ∧ w'.cell? ⟨w.heap.size, 1, none⟩ = some (.int .i64 va)) ((refine ⟨?_, ?_, ?_, ?_, ?_⟩ <;> (go_simp; done))) ((go_at_call 123; go_loud (refine (s_Store (⟨⟨.slice yco yvs.length ycc, .slice yuo K.m.f.used.length yuc, yvs⟩, .slice yeo K.m.ents.length yec⟩ : MV) K.m ad va H3.out wad.2 _ (MAt.below HM.out (by exact bel))).mono ?_; rintro e w2 ⟨z, rfl, hzo, hb⟩; (try rw [HF.out]); (obtain ⟨zco, zcc, zuo, zuc, zvs, zeo, zec, rfl⟩ := MOwn.shapes hzo); have OZ := Lib.hid hzo; have HB3 := Lib.hid hb; (try (have kb0 : w2.cell? ⟨w.heap.size + 1 + 1, 0, none⟩ = some (.slice none 0 0) := ?_; rotate_left; (focus (refine kc hb ?_ ?_; (focus (exact zt)); (focus (go_simp; done)))); have fb0 : w2.frozen? ⟨w.heap.size + 1 + 1, 0, none⟩ = false := ?_; rotate_left; (focus (refine fc hb ?_ ?_; (focus (exact zt)); (focus (go_simp; done)))); have kb1 : w2.cell? ⟨w.heap.size + 1 + 1, 1, none⟩ = some (.slice none 0 0) := ?_; rotate_left; (focus (refine kc hb ?_ ?_; (focus (exact zt)); (focus (go_simp; done)))); have fb1 : w2.frozen? ⟨w.heap.size + 1 + 1, 1, none⟩ = false := ?_; rotate_left; (focus (refine fc hb ?_ ?_; (focus (exact zt)); (focus (go_simp; done)))); have kb2 : w2.cell? ⟨w.heap.size + 1 + 1, 2, none⟩ = some (.slice none 0 0) := ?_; rotate_left; (focus (refine kc hb ?_ ?_; (focus (exact zt)); (focus (go_simp; done)))); have fb2 : w2.frozen? ⟨w.heap.size + 1 + 1, 2, none⟩ = false := ?_; rotate_left; (focus (refine fc hb ?_ ?_; (focus (exact zt)); (focus (go_simp; done)))); have xb : w.heap.size + 1 + 1 < w2.heap.size := ?_; rotate_left; (focus (refine xc hb ?_; exact zt)))); obtain ⟨kwc_G_0, fwc_G_0, kwc_G_1, fwc_G_1, kwc_G_2, fwc_G_2, kwc_G_3, fwc_G_3, kwc_G_4, fwc_G_4⟩ := kf5 hb (g) (.slice yco yvs.length ycc) (.slice yuo K.m.f.used.length yuc) (.slice yeo K.m.ents.length yec) (.int .i64 (K.calls)) (.slice yro K.refuse.length yrc); obtain ⟨kwc_0_0, fwc_0_0, kwc_0_1, fwc_0_1, kwc_0_2, fwc_0_2, kwc_0_3, fwc_0_3⟩ := kf4 hb (w.heap.size) (.int .i64 ad) (.int .i64 va) (.bool false) (.int .i64 wt); obtain ⟨kwc_1_0, fwc_1_0, kwc_1_1, fwc_1_1, kwc_1_2, fwc_1_2, kwc_1_3, fwc_1_3⟩ := kf4 hb (w.heap.size + 1) (.int .i64 0) (.int .i64 0) (.bool false) (.int .i64 0); have xwc_G : g < w2.heap.size := xc hb; have xwc_0 : w.heap.size < w2.heap.size := xc hb; have xwc_1 : w.heap.size + 1 < w2.heap.size := xc hb; have hzwc := hb.size; (try simp only [World.size_alloc, World.size_setCell, World.size_drew] at hzwc); clear hzo; simp only [MV.val]; obtain ⟨wc, rfl⟩ : ∃ x, x = w2 := ⟨_, rfl⟩)))
      all_goals go_wp2_with fail
      all_goals (
        have hB3 := HB3.out
        refine bodyPost_ret (v := .agg #[.int .i64 ad, .int .i64 va, .bool true, .int .i64 wt]) (by simp [results, Tryz.results82, go_sem, *]) rfl ?_
        refine ⟨⟨⟨⟨.slice zco zvs.length zcc, .slice zuo (storeM K.m ad va).f.used.length zuc, zvs⟩, .slice zeo (storeM K.m ad va).ents.length zec⟩, .slice yro K.refuse.length yrc⟩, rfl, ⟨⟨by (simp only [World.size_setCell, World.size_alloc, World.size_drew]; omega), by go_simp, by go_simp, by go_simp, by go_simp, by go_simp, by go_simp, by go_simp, by go_simp, by go_simp, by go_simp⟩, ⟨?_, ?_, ?_⟩, hBg, ?_⟩, (show Below B w _ from by exact bel), (by repeat (first | (with_reducible refine touch_setC (g := g) ?_ (List.mem_cons_self ..)) | (with_reducible refine touch_setN ?_ ?_; rotate_left; (focus (exact zo))) | (with_reducible refine touch_allocT _ ?_) | (exact touch_of_below (by exact bel) [g]))), (fun b hb => by have hb2 : b ∈ blocks ([.slice yro K.refuse.length yrc] ++ MV.all ⟨⟨.slice zco zvs.length zcc, .slice zuo (storeM K.m ad va).f.used.length zuc, zvs⟩, .slice zeo (storeM K.m ad va).ents.length zec⟩) := hb; rw [blocks_append, List.mem_append] at hb2; rcases hb2 with h | h; (focus exact .inl (sub_left [.slice yro K.refuse.length yrc] _ b h)); (focus exact .inr (by have h1 := (MOwn.lts OZ.out b h).1; (try simp only [World.size_setCell, World.size_alloc, World.size_drew] at h1); omega)))⟩
        focus (
          first
          | (have hm := OZ.out.mono (B' := w.heap.size + 1 + 1 + 1) (by exact zo); refine MOwn.mono (B := w.heap.size + 1 + 1 + 1) ?_ (by omega); (repeat ((with_reducible refine MOwn.offb ?_ (by omega) _))); exact hm)
          | (have hm := OZ.out.mono (B' := w.heap.size + 1 + 1) (by exact zo); refine MOwn.mono (B := w.heap.size + 1 + 1) ?_ (by omega); (repeat (first | (with_reducible refine MOwn.offb ?_ (by omega) _) | (with_reducible refine MOwn.below ?_ ((Below.refl _ _).alloc (Nat.le_refl _) _)))); exact hm))
        focus (
          have hr := Own.below HI.out.own.ref (w' := wc) (by exact bel);
          (repeat (first | (with_reducible refine Own.setCell ?_ _ _ (HNE.out _ (by first | exact .inl rfl | exact .inr (by exact zo)))) | (with_reducible refine Own.below ?_ ((Below.refl _ _).alloc (Nat.le_refl _) _))));
          exact hr)
        focus (exact nodup_blocks (l := [_]) (nodup_one _) OZ.out.nd (fun g hg hm => by have h1 := (Own.lts HI.out.own.ref) g hg; have h2 := (OZ.out.lts) g hm; simp only [World.size_alloc, World.size_setCell, World.size_drew] at h1 h2; omega))
        focus (exact kv_ne HI.out.ne OZ.out (by exact zo)))
    · have e : wrK K ⟨ad, va, false, wt⟩ = K ∧ wrW K ⟨ad, va, false, wt⟩ = ⟨ad, va, false, wrap64 (wt + 1)⟩ := by unfold wrK wrW; rw [hk, ← hfc, h2]; exact ⟨rfl, rfl⟩
      rw [e.1, e.2]; clear e hfc
      (have hall := all_nil w; go_enter Tryz.func82, Tryz.ntmps82)
      go_wp2_with (fail)
      go_region_held3 (fun w' => w'.cell? ⟨g, 0, none⟩ = some (.slice yco yvs.length ycc) ∧ w'.cell? ⟨g, 1, none⟩ = some (.slice yuo K.m.f.used.length yuc) ∧ w'.cell? ⟨g, 2, none⟩ = some (.slice yeo K.m.ents.length yec) ∧ w'.cell? ⟨w.heap.size, 0, none⟩ = some (.int .i64 ad) ∧ w'.cell? ⟨w.heap.size, 1, none⟩ = some (.int .i64 va)) ((refine ⟨?_, ?_, ?_, ?_, ?_⟩ <;> (go_simp; done))) ((go_at_call 123; go_loud (refine (s_Store (⟨⟨.slice yco yvs.length ycc, .slice yuo K.m.f.used.length yuc, yvs⟩, .slice yeo K.m.ents.length yec⟩ : MV) K.m ad va H3.out wad.2 _ (MAt.below HM.out (by exact bel))).mono ?_; rintro e w2 ⟨z, rfl, hzo, hb⟩; (try rw [HF.out]); (obtain ⟨zco, zcc, zuo, zuc, zvs, zeo, zec, rfl⟩ := MOwn.shapes hzo); have OZ := Lib.hid hzo; have HB3 := Lib.hid hb; (try (have kb0 : w2.cell? ⟨w.heap.size + 1 + 1, 0, none⟩ = some (.slice none 0 0) := ?_; rotate_left; (focus (refine kc hb ?_ ?_; (focus (exact zt)); (focus (go_simp; done)))); have fb0 : w2.frozen? ⟨w.heap.size + 1 + 1, 0, none⟩ = false := ?_; rotate_left; (focus (refine fc hb ?_ ?_; (focus (exact zt)); (focus (go_simp; done)))); have kb1 : w2.cell? ⟨w.heap.size + 1 + 1, 1, none⟩ = some (.slice none 0 0) := ?_; rotate_left; (focus (refine kc hb ?_ ?_; (focus (exact zt)); (focus (go_simp; done)))); have fb1 : w2.frozen? ⟨w.heap.size + 1 + 1, 1, none⟩ = false := ?_; rotate_left; (focus (refine fc hb ?_ ?_; (focus (exact zt)); (focus (go_simp; done)))); have kb2 : w2.cell? ⟨w.heap.size + 1 + 1, 2, none⟩ = some (.slice none 0 0) := ?_; rotate_left; (focus (refine kc hb ?_ ?_; (focus (exact zt)); (focus (go_simp; done)))); have fb2 : w2.frozen? ⟨w.heap.size + 1 + 1, 2, none⟩ = false := ?_; rotate_left; (focus (refine fc hb ?_ ?_; (focus (exact zt)); (focus (go_simp; done)))); have xb : w.heap.size + 1 + 1 < w2.heap.size := ?_; rotate_left; (focus (refine xc hb ?_; exact zt)))); obtain ⟨kwc_G_0, fwc_G_0, kwc_G_1, fwc_G_1, kwc_G_2, fwc_G_2, kwc_G_3, fwc_G_3, kwc_G_4, fwc_G_4⟩ := kf5 hb (g) (.slice yco yvs.length ycc) (.slice yuo K.m.f.used.length yuc) (.slice yeo K.m.ents.length yec) (.int .i64 (K.calls)) (.slice yro K.refuse.length yrc); obtain ⟨kwc_0_0, fwc_0_0, kwc_0_1, fwc_0_1, kwc_0_2, fwc_0_2, kwc_0_3, fwc_0_3⟩ := kf4 hb (w.heap.size) (.int .i64 ad) (.int .i64 va) (.bool false) (.int .i64 wt); obtain ⟨kwc_1_0, fwc_1_0, kwc_1_1, fwc_1_1, kwc_1_2, fwc_1_2, kwc_1_3, fwc_1_3⟩ := kf4 hb (w.heap.size + 1) (.int .i64 0) (.int .i64 0) (.bool false) (.int .i64 0); have xwc_G : g < w2.heap.size := xc hb; have xwc_0 : w.heap.size < w2.heap.size := xc hb; have xwc_1 : w.heap.size + 1 < w2.heap.size := xc hb; have hzwc := hb.size; (try simp only [World.size_alloc, World.size_setCell, World.size_drew] at hzwc); clear hzo; simp only [MV.val]; obtain ⟨wc, rfl⟩ : ∃ x, x = w2 := ⟨_, rfl⟩)))
      all_goals go_wp2_with fail
      all_goals (
        have hB3 := HB3.out
        refine bodyPost_ret (v := .agg #[.int .i64 ad, .int .i64 va, .bool false, .int .i64 (wrap64 (wt + 1))]) (by simp [results, Tryz.results82, go_sem, *]) rfl ?_
        exact ⟨_, rfl, HI.out.below (by exact bel), (show Below w.heap.size w _ from by exact bel).mono (by omega), touch_of_below (show Below w.heap.size w _ from by exact bel) _, fun b hb => .inl hb⟩)

theorem i_copyWriters (v : Value) (xs : List Wr) (hs : xs.length ≤ 1048576) (w : World) (ha : WrAt w v xs) : Calls Tryz.prog 84 #[v] w fun e w' => ∃ u, e = .returned u ∧ OwnWr w.heap.size w' u xs ∧ Below w.heap.size w w' := by
  have HA := Lib.hid ha
  obtain ⟨ao, ca, rfl, _, _⟩ := ha.shape
  clear ha
  (have hall := all_nil w; go_enter Tryz.func84, Tryz.ntmps84)
  go_wp2_with ((at_builtin; refine wpList_appendAll elemWr rfl _ _ rfl lenWr oneWr rfl (Own.empty' _ _ _ (w.heap.size) _ _ (by simp) (by exact zt)) (by exact zt) rfl (HA.out.below (by exact bel)) (by simp only [List.length_nil, maxLen]; omega) ?_; intro v2 w2 hown2 hgr2 hat2 hb; (try simp only [List.nil_append] at hown2); obtain ⟨v2o, v2c, rfl, -, -⟩ := hown2.shape; skip))
  go_ret
  exact ⟨_, rfl, hown2, by exact bel⟩
end Go.Proofs.YtmblkllijjlkoaaGreat
/-
  What Finish and Interleave hand back: the words for it, and plain facts.
-/
set_option linter.unusedVariables false
set_option linter.unusedSimpArgs false
namespace Go.Proofs.YtmblkllijjlkoaaGreat
open Go.RowKit
def NewKJW (w : World) (t : IS) (kp mv : Int) (cs : List Int) (e : Ending) (w' : World) : Prop := ∃ (y : KV) (v u : Value), e = .returned (.tuple #[y.val t.s.k.calls, .agg #[.int .i64 kp, .int .i64 mv, v, .int .i64 t.s.ph, .int .i64 t.s.nx], u]) ∧ KOwn w.heap.size w' y t.s.k ∧ OwnI w.heap.size w' v cs ∧ OwnWr w.heap.size w' u t.ws ∧ (∀ g ∈ blocks y.all, g ∉ blocks [v]) ∧ (∀ g ∈ blocks y.all, g ∉ blocks [u]) ∧ (∀ g ∈ blocks [v], g ∉ blocks [u]) ∧ Below w.heap.size w w'
def AdOk (ws : List Wr) : Prop := ∀ (i : Nat) (x : Wr), ws[i]? = some x → -9223372036854775808 ≤ x.ad ∧ x.ad ≤ 9223372036854775807
theorem wrW_ad (K : Ker) (x : Wr) : (wrW K x).ad = x.ad := by
  unfold wrW
  split
  · rfl
  · split <;> rfl
theorem AdOk.set {ws : List Wr} (h : AdOk ws) {i : Nat} {x y : Wr} (hx : ws[i]? = some x) (hy : y.ad = x.ad) : AdOk (ws.set i y) := by
  intro j z hz
  rw [List.getElem?_set] at hz
  split at hz
  · rename_i e
    subst e
    split at hz
    · cases hz; rw [hy]; exact h i x hx
    · cases hz
  · exact h j z hz
theorem wStep_at {k : Ker} {ph nx : Int} {ws : List Wr} {n : Nat} {x : Wr} (hx : ws[n]? = some x) : wStep n ⟨⟨k, ph, nx⟩, ws⟩ = ⟨⟨wrK k x, ph, nx⟩, ws.set n (wrW k x)⟩ := by
  unfold wStep wAt
  dsimp only
  rw [getD_of hx]
theorem runTo200 (kp mv : Int) (cs : List Int) (s : JS) : runTo kp mv cs 200 s = runJ kp mv cs 200 s := by
  unfold runTo
  rw [if_pos (by decide)]; rfl
theorem kjw_fin {w wl w' : World} {B B1 B2 : Nat} {y : KV} {K : Ker} {v u : Value} {cs : List Int} {ws : List Wr} {S : List Nat} (hk : KOwn B wl y K) (hv : OwnI B1 wl v cs) (hu : OwnWr B2 wl u ws) (hB : w.heap.size ≤ B) (hB1 : w.heap.size ≤ B1) (hB2 : w.heap.size ≤ B2) (ht : Touch S wl w')
    (hS1 : ∀ g ∈ blocks y.all, g ∉ S) (hS2 : ∀ g ∈ blocks [v], g ∉ S) (hS3 : ∀ g ∈ blocks [u], g ∉ S) (hd : ∀ g ∈ blocks y.all, g ∉ blocks [v]) (hd2 : ∀ g ∈ blocks y.all, g ∉ blocks [u]) (hd3 : ∀ g ∈ blocks [v], g ∉ blocks [u]) (hbl : Below w.heap.size w wl) (hS : ∀ g ∈ S, w.heap.size ≤ g) :
    KOwn w.heap.size w' y K ∧ OwnI w.heap.size w' v cs ∧ OwnWr w.heap.size w' u ws ∧ (∀ g ∈ blocks y.all, g ∉ blocks [v]) ∧ (∀ g ∈ blocks y.all, g ∉ blocks [u]) ∧ (∀ g ∈ blocks [v], g ∉ blocks [u]) ∧ Below w.heap.size w w' :=
  ⟨(hk.touch ht hS1).mono hB, (Own.touchs hv ht hS2).mono hB1, (Own.touchs hu ht hS3).mono hB2, hd, hd2, hd3, hbl.trans (ht.toBelow hS hbl.size)⟩
/-- An element of a list of writers is written anew. -/
theorem OwnWr.put {B : Nat} {w : World} {g n cap : Nat} {ws : List Wr} (h : OwnWr B w (.slice (some ⟨g, 0, none⟩) n cap) ws) {i : Nat} (hi : i < ws.length) (ad va : Int) (dn : Bool) (wt : Int) :
    OwnWr B ((((w.setCell ⟨g, i * 4, none⟩ (.int .i64 ad)).setCell ⟨g, i * 4 + 1, none⟩ (.int .i64 va)).setCell ⟨g, i * 4 + 2, none⟩ (.bool dn)).setCell ⟨g, i * 4 + 3, none⟩ (.int .i64 wt)) (.slice (some ⟨g, 0, none⟩) n cap) (ws.set i ⟨ad, va, dn, wt⟩) :=
  (Own.setk lenWr h rfl i hi ⟨ad, va, dn, wt⟩).1
end Go.Proofs.YtmblkllijjlkoaaGreat
