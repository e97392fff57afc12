/-
  Texts put together: WriterS, Ilv.
-/
import Derived.Test.YtmblkllijjlkoaaGreatGIL4
import Derived.Test.YtmblkllijjlkoaaGreatGB24
import Derived.Test.YtmblkllijjlkoaaGreatGB32
/-
  One step of a writer behind a pointer, by the reference.
-/
set_option linter.unusedVariables false
set_option linter.unusedSimpArgs false
namespace Go.Proofs.YtmblkllijjlkoaaGreat
open Go.RowKit
def WrDone (B g : Nat) (w : World) (K : Ker) (x : Wr) (e : Ending) (w' : World) : Prop := ∃ y : KV, e = .returned x.val ∧ KIn B w' g y K ∧ Below B w w'
theorem kv_ne {g B : Nat} {w : World} {r : Value} {x x' : MV} {M : Mac} (h : g ∉ blocks (KV.all ⟨x', r⟩)) (hz : MOwn B w x M) (hg : g < B) : g ∉ blocks (KV.all ⟨x, r⟩) := by
  intro hm
  have hm' : g ∈ blocks ([r] ++ x.all) := hm
  rw [blocks_append] at hm'
  rcases List.mem_append.1 hm' with h1 | h1
  · exact h (sub_left [r] _ g h1)
  · have := (hz.lts g h1).1; omega
set_option maxRecDepth 20000 in
set_option maxHeartbeats 3200000 in
theorem s_l15Step (B g : Nat) (y : KV) (K : Ker) (ad va : Int) (dn : Bool) (wt : Int) (hk : kernelOk K = true) (hs : szM K.m ≤ 1048576) (wad : -9223372036854775808 ≤ ad ∧ ad ≤ 9223372036854775807) (w : World) (h : KIn B w g y K) : Calls Tryz.prog 82 #[.pointer (some ⟨g, 0, none⟩), .agg #[.int .i64 ad, .int .i64 va, .bool dn, .int .i64 wt]] w (WrDone B g w (wrK K ⟨ad, va, dn, wt⟩) (wrW K ⟨ad, va, dn, wt⟩)) := by
  have HI := Lib.hid h
  have H3 := Lib.hid hs
  obtain ⟨yco, ycc, yuo, yuc, yvs, yeo, yec, yro, yrc, rfl⟩ := h.own.shapes
  have HM := Lib.hid h.own.m.at
  dsimp only at HM
  obtain ⟨xg, c0, c1, c2, c3, c4, f0, f1, f2, f3, f4⟩ := h.box
  dsimp only at c0 c1 c2 c3 c4
  have hBg := h.hB
  have n0 : ¬ g = w.heap.size := by omega
  have n1 : ¬ g = w.heap.size + 1 := by omega
  have n2 : ¬ g = w.heap.size + 1 + 1 := by omega
  have n3 : ¬ w.heap.size = g := by omega
  have n4 : ¬ w.heap.size + 1 = g := by omega
  have n5 : ¬ w.heap.size + 1 + 1 = g := by omega
  have x1 : g < w.heap.size + 1 := by omega
  have x2 : g < w.heap.size + 1 + 1 := by omega
  have x3 : g < w.heap.size + 1 + 1 + 1 := by omega
  have hne : ∀ b, b = g ∨ w.heap.size ≤ b → (Value.slice yro K.refuse.length yrc).ownBlock ≠ some b := fun b hb e => by
    rcases hb with rfl | hb
    · exact h.ne (sub_left [.slice yro K.refuse.length yrc] _ b (mem_one e))
    · have := (h.own.ref.lt b e).2; omega
  have HNE := Lib.hid hne
  clear h hs hne
  cases dn
  rotate_left
  · have e : wrK K ⟨ad, va, true, wt⟩ = K ∧ wrW K ⟨ad, va, true, wt⟩ = ⟨ad, va, true, wt⟩ := ⟨rfl, rfl⟩
    rw [e.1, e.2]; clear e
    (have hall := all_nil w; go_enter Tryz.func82, Tryz.ntmps82)
    go_wp2_with (fail)
    refine bodyPost_ret (v := .agg #[.int .i64 ad, .int .i64 va, .bool true, .int .i64 wt]) (by simp [results, Tryz.results82, go_sem, *]) rfl ?_
    exact ⟨_, rfl, HI.out.below (by exact bel), by exact bel⟩
  · obtain ⟨fc0, hfc⟩ : ∃ z, z = storeF K.m ad va := ⟨_, rfl⟩
    have HF := Lib.hid hfc.symm
    cases h2 : (fc0 == 2)
    · have e : wrK K ⟨ad, va, false, wt⟩ = ⟨storeM K.m ad va, K.calls, K.refuse⟩ ∧ wrW K ⟨ad, va, false, wt⟩ = ⟨ad, va, true, wt⟩ := by unfold wrK wrW; rw [hk, ← hfc, h2]; exact ⟨rfl, rfl⟩
      rw [e.1, e.2]; clear e hfc
      (have hall := all_nil w; go_enter Tryz.func82, Tryz.ntmps82)
      go_wp2_with (fail)
      go_region_held3 (fun w' => w'.cell? ⟨g, 0, none⟩ = some (.slice yco yvs.length ycc) ∧ w'.cell? ⟨g, 1, none⟩ = some (.slice yuo K.m.f.used.length yuc) ∧ w'.cell? ⟨g, 2, none⟩ = some (.slice yeo K.m.ents.length yec) ∧ w'.cell? ⟨w.heap.size, 0, none⟩ = some (.int .i64 ad) ∧ w'.cell? ⟨w.heap.size, 1, none⟩ = some (.int .i64 va)) ((refine ⟨?_, ?_, ?_, ?_, ?_⟩ <;> (go_simp; done))) ((go_at_call 123; (refine (s_Store (⟨⟨.slice yco yvs.length ycc, .slice yuo K.m.f.used.length yuc, yvs⟩, .slice yeo K.m.ents.length yec⟩ : MV) K.m ad va H3.out wad.2 _ (MAt.below HM.out (by exact bel))).mono ?_; rintro e w2 ⟨z, rfl, hzo, hb⟩; (try rw [HF.out]); (obtain ⟨zco, zcc, zuo, zuc, zvs, zeo, zec, rfl⟩ := MOwn.shapes hzo); have OZ := Lib.hid hzo; have HB3 := Lib.hid hb; (try (have kb0 : w2.cell? ⟨w.heap.size + 1 + 1, 0, none⟩ = some (.slice none 0 0) := ?_; rotate_left; (focus (refine kc hb ?_ ?_; (focus (exact zt)); (focus (go_simp; done)))); have fb0 : w2.frozen? ⟨w.heap.size + 1 + 1, 0, none⟩ = false := ?_; rotate_left; (focus (refine fc hb ?_ ?_; (focus (exact zt)); (focus (go_simp; done)))); have kb1 : w2.cell? ⟨w.heap.size + 1 + 1, 1, none⟩ = some (.slice none 0 0) := ?_; rotate_left; (focus (refine kc hb ?_ ?_; (focus (exact zt)); (focus (go_simp; done)))); have fb1 : w2.frozen? ⟨w.heap.size + 1 + 1, 1, none⟩ = false := ?_; rotate_left; (focus (refine fc hb ?_ ?_; (focus (exact zt)); (focus (go_simp; done)))); have kb2 : w2.cell? ⟨w.heap.size + 1 + 1, 2, none⟩ = some (.slice none 0 0) := ?_; rotate_left; (focus (refine kc hb ?_ ?_; (focus (exact zt)); (focus (go_simp; done)))); have fb2 : w2.frozen? ⟨w.heap.size + 1 + 1, 2, none⟩ = false := ?_; rotate_left; (focus (refine fc hb ?_ ?_; (focus (exact zt)); (focus (go_simp; done)))); have xb : w.heap.size + 1 + 1 < w2.heap.size := ?_; rotate_left; (focus (refine xc hb ?_; exact zt)))); obtain ⟨kwc_G_0, fwc_G_0, kwc_G_1, fwc_G_1, kwc_G_2, fwc_G_2, kwc_G_3, fwc_G_3, kwc_G_4, fwc_G_4⟩ := kf5 hb (g) (.slice yco yvs.length ycc) (.slice yuo K.m.f.used.length yuc) (.slice yeo K.m.ents.length yec) (.int .i64 (K.calls)) (.slice yro K.refuse.length yrc); obtain ⟨kwc_0_0, fwc_0_0, kwc_0_1, fwc_0_1, kwc_0_2, fwc_0_2, kwc_0_3, fwc_0_3⟩ := kf4 hb (w.heap.size) (.int .i64 ad) (.int .i64 va) (.bool false) (.int .i64 wt); obtain ⟨kwc_1_0, fwc_1_0, kwc_1_1, fwc_1_1, kwc_1_2, fwc_1_2, kwc_1_3, fwc_1_3⟩ := kf4 hb (w.heap.size + 1) (.int .i64 0) (.int .i64 0) (.bool false) (.int .i64 0); have xwc_G : g < w2.heap.size := xc hb; have xwc_0 : w.heap.size < w2.heap.size := xc hb; have xwc_1 : w.heap.size + 1 < w2.heap.size := xc hb; have hzwc := hb.size; (try simp only [World.size_alloc, World.size_setCell, World.size_drew] at hzwc); clear hzo; simp only [MV.val]; obtain ⟨wc, rfl⟩ : ∃ x, x = w2 := ⟨_, rfl⟩)))
      all_goals go_wp2_with fail
      all_goals (
        have hB3 := HB3.out
        refine bodyPost_ret (v := .agg #[.int .i64 ad, .int .i64 va, .bool true, .int .i64 wt]) (by simp [results, Tryz.results82, go_sem, *]) rfl ?_
        refine ⟨⟨⟨⟨.slice zco zvs.length zcc, .slice zuo (storeM K.m ad va).f.used.length zuc, zvs⟩, .slice zeo (storeM K.m ad va).ents.length zec⟩, .slice yro K.refuse.length yrc⟩, rfl, ⟨⟨by (simp only [World.size_setCell, World.size_alloc, World.size_drew]; omega), by go_simp, by go_simp, by go_simp, by go_simp, by go_simp, by go_simp, by go_simp, by go_simp, by go_simp, by go_simp⟩, ⟨?_, ?_, ?_⟩, hBg, ?_⟩, (show Below B w _ from by exact bel)⟩
        focus (
          first
          | (have hm := OZ.out.mono (B' := w.heap.size + 1 + 1 + 1) (by exact zo); refine MOwn.mono (B := w.heap.size + 1 + 1 + 1) ?_ (by omega); (repeat ((with_reducible refine MOwn.offb ?_ (by omega) _))); exact hm)
          | (have hm := OZ.out.mono (B' := w.heap.size + 1 + 1) (by exact zo); refine MOwn.mono (B := w.heap.size + 1 + 1) ?_ (by omega); (repeat (first | (with_reducible refine MOwn.offb ?_ (by omega) _) | (with_reducible refine MOwn.below ?_ ((Below.refl _ _).alloc (Nat.le_refl _) _)))); exact hm))
        focus (
          have hr := Own.below HI.out.own.ref (w' := wc) (by exact bel);
          (repeat (first | (with_reducible refine Own.setCell ?_ _ _ (HNE.out _ (by first | exact .inl rfl | exact .inr (by exact zo)))) | (with_reducible refine Own.below ?_ ((Below.refl _ _).alloc (Nat.le_refl _) _))));
          exact hr)
        focus (exact nodup_blocks (l := [_]) (nodup_one _) OZ.out.nd (fun g hg hm => by have h1 := (Own.lts HI.out.own.ref) g hg; have h2 := (OZ.out.lts) g hm; simp only [World.size_alloc, World.size_setCell, World.size_drew] at h1 h2; omega))
        focus (exact kv_ne HI.out.ne OZ.out (by exact zo)))
    · have e : wrK K ⟨ad, va, false, wt⟩ = K ∧ wrW K ⟨ad, va, false, wt⟩ = ⟨ad, va, false, wrap64 (wt + 1)⟩ := by unfold wrK wrW; rw [hk, ← hfc, h2]; exact ⟨rfl, rfl⟩
      rw [e.1, e.2]; clear e hfc
      (have hall := all_nil w; go_enter Tryz.func82, Tryz.ntmps82)
      go_wp2_with (fail)
      go_region_held3 (fun w' => w'.cell? ⟨g, 0, none⟩ = some (.slice yco yvs.length ycc) ∧ w'.cell? ⟨g, 1, none⟩ = some (.slice yuo K.m.f.used.length yuc) ∧ w'.cell? ⟨g, 2, none⟩ = some (.slice yeo K.m.ents.length yec) ∧ w'.cell? ⟨w.heap.size, 0, none⟩ = some (.int .i64 ad) ∧ w'.cell? ⟨w.heap.size, 1, none⟩ = some (.int .i64 va)) ((refine ⟨?_, ?_, ?_, ?_, ?_⟩ <;> (go_simp; done))) ((go_at_call 123; (refine (s_Store (⟨⟨.slice yco yvs.length ycc, .slice yuo K.m.f.used.length yuc, yvs⟩, .slice yeo K.m.ents.length yec⟩ : MV) K.m ad va H3.out wad.2 _ (MAt.below HM.out (by exact bel))).mono ?_; rintro e w2 ⟨z, rfl, hzo, hb⟩; (try rw [HF.out]); (obtain ⟨zco, zcc, zuo, zuc, zvs, zeo, zec, rfl⟩ := MOwn.shapes hzo); have OZ := Lib.hid hzo; have HB3 := Lib.hid hb; (try (have kb0 : w2.cell? ⟨w.heap.size + 1 + 1, 0, none⟩ = some (.slice none 0 0) := ?_; rotate_left; (focus (refine kc hb ?_ ?_; (focus (exact zt)); (focus (go_simp; done)))); have fb0 : w2.frozen? ⟨w.heap.size + 1 + 1, 0, none⟩ = false := ?_; rotate_left; (focus (refine fc hb ?_ ?_; (focus (exact zt)); (focus (go_simp; done)))); have kb1 : w2.cell? ⟨w.heap.size + 1 + 1, 1, none⟩ = some (.slice none 0 0) := ?_; rotate_left; (focus (refine kc hb ?_ ?_; (focus (exact zt)); (focus (go_simp; done)))); have fb1 : w2.frozen? ⟨w.heap.size + 1 + 1, 1, none⟩ = false := ?_; rotate_left; (focus (refine fc hb ?_ ?_; (focus (exact zt)); (focus (go_simp; done)))); have kb2 : w2.cell? ⟨w.heap.size + 1 + 1, 2, none⟩ = some (.slice none 0 0) := ?_; rotate_left; (focus (refine kc hb ?_ ?_; (focus (exact zt)); (focus (go_simp; done)))); have fb2 : w2.frozen? ⟨w.heap.size + 1 + 1, 2, none⟩ = false := ?_; rotate_left; (focus (refine fc hb ?_ ?_; (focus (exact zt)); (focus (go_simp; done)))); have xb : w.heap.size + 1 + 1 < w2.heap.size := ?_; rotate_left; (focus (refine xc hb ?_; exact zt)))); obtain ⟨kwc_G_0, fwc_G_0, kwc_G_1, fwc_G_1, kwc_G_2, fwc_G_2, kwc_G_3, fwc_G_3, kwc_G_4, fwc_G_4⟩ := kf5 hb (g) (.slice yco yvs.length ycc) (.slice yuo K.m.f.used.length yuc) (.slice yeo K.m.ents.length yec) (.int .i64 (K.calls)) (.slice yro K.refuse.length yrc); obtain ⟨kwc_0_0, fwc_0_0, kwc_0_1, fwc_0_1, kwc_0_2, fwc_0_2, kwc_0_3, fwc_0_3⟩ := kf4 hb (w.heap.size) (.int .i64 ad) (.int .i64 va) (.bool false) (.int .i64 wt); obtain ⟨kwc_1_0, fwc_1_0, kwc_1_1, fwc_1_1, kwc_1_2, fwc_1_2, kwc_1_3, fwc_1_3⟩ := kf4 hb (w.heap.size + 1) (.int .i64 0) (.int .i64 0) (.bool false) (.int .i64 0); have xwc_G : g < w2.heap.size := xc hb; have xwc_0 : w.heap.size < w2.heap.size := xc hb; have xwc_1 : w.heap.size + 1 < w2.heap.size := xc hb; have hzwc := hb.size; (try simp only [World.size_alloc, World.size_setCell, World.size_drew] at hzwc); clear hzo; simp only [MV.val]; obtain ⟨wc, rfl⟩ : ∃ x, x = w2 := ⟨_, rfl⟩)))
      all_goals go_wp2_with fail
      all_goals (
        have hB3 := HB3.out
        refine bodyPost_ret (v := .agg #[.int .i64 ad, .int .i64 va, .bool false, .int .i64 (wrap64 (wt + 1))]) (by simp [results, Tryz.results82, go_sem, *]) rfl ?_
        exact ⟨_, rfl, HI.out.below (by exact bel), (show Below w.heap.size w _ from by exact bel).mono (by omega)⟩)

end Go.Proofs.YtmblkllijjlkoaaGreat
/-
  Jobs and writers in turn: what Interleave and Finish compute.
-/
set_option linter.unusedVariables false
set_option linter.unusedSimpArgs false
namespace Go.Proofs.YtmblkllijjlkoaaGreat
structure IS where
  s : JS
  ws : List Wr
def wAt (ws : List Wr) (i : Nat) : Wr := ws.getD i default
def wStep (i : Nat) (t : IS) : IS := ⟨⟨wrK t.s.k (wAt t.ws i), t.s.ph, t.s.nx⟩, t.ws.set i (wrW t.s.k (wAt t.ws i))⟩
def ilStep (kp mv : Int) (cs : List Int) (x : Int) (t : IS) : IS :=
  if x = -1 then ⟨jsStep kp mv cs t.s, t.ws⟩ else if between x 0 (t.ws.length - 1) = true then wStep x.toNat t else t
def ilTo (kp mv : Int) (cs order : List Int) : Nat → IS → IS
  | 0, t => t
  | n + 1, t => ilStep kp mv cs (order.getD n 0) (ilTo kp mv cs order n t)
def interl (kp mv : Int) (cs order : List Int) (t : IS) : IS := if order.length ≤ 200 then ilTo kp mv cs order order.length t else t
def finTo : Nat → IS → IS
  | 0, t => t
  | n + 1, t => wStep n (finTo n t)
def finishI (kp mv : Int) (cs : List Int) (t : IS) : IS := finTo t.ws.length ⟨runJ kp mv cs 200 t.s, t.ws⟩
theorem szK_store' (K : Ker) (a v : Int) : szK ⟨storeM K.m a v, K.calls, K.refuse⟩ = szK K := szK_store K a v
theorem szK_wr (K : Ker) (x : Wr) : szK (wrK K x) = szK K := by
  unfold wrK
  split
  · rfl
  split
  · rfl
  · exact szK_store ..
theorem wStep_len (i : Nat) (t : IS) : (wStep i t).ws.length = t.ws.length := by unfold wStep; simp
theorem ilStep_len (kp mv : Int) (cs : List Int) (x : Int) (t : IS) : (ilStep kp mv cs x t).ws.length = t.ws.length := by
  unfold ilStep
  split
  · rfl
  split
  · exact wStep_len ..
  · rfl
theorem ilTo_len (kp mv : Int) (cs order : List Int) : ∀ (n : Nat) (t : IS), (ilTo kp mv cs order n t).ws.length = t.ws.length
  | 0, _ => rfl
  | n + 1, t => by rw [ilTo, ilStep_len, ilTo_len kp mv cs order n t]
theorem finTo_len : ∀ (n : Nat) (t : IS), (finTo n t).ws.length = t.ws.length
  | 0, _ => rfl
  | n + 1, t => by rw [finTo, wStep_len, finTo_len n t]
theorem sz_wStep (i : Nat) (t : IS) : szK (wStep i t).s.k = szK t.s.k := szK_wr ..
theorem sz_ilStep (kp mv : Int) (cs : List Int) (x : Int) (t : IS) : szK (ilStep kp mv cs x t).s.k = szK t.s.k := by
  unfold ilStep
  split
  · exact szK_job ..
  split
  · exact sz_wStep ..
  · rfl
theorem sz_ilTo (kp mv : Int) (cs order : List Int) : ∀ (n : Nat) (t : IS), szK (ilTo kp mv cs order n t).s.k = szK t.s.k
  | 0, _ => rfl
  | n + 1, t => by rw [ilTo, sz_ilStep, sz_ilTo kp mv cs order n t]
theorem sz_finTo : ∀ (n : Nat) (t : IS), szK (finTo n t).s.k = szK t.s.k
  | 0, _ => rfl
  | n + 1, t => by rw [finTo, sz_wStep, sz_finTo n t]
end Go.Proofs.YtmblkllijjlkoaaGreat
