/- 'laws.FnExactJobRun' returns true, whatever the arguments: no condition. -/
import Derived.Test.YtmblkllijjlkoaaGreatGB34
import Derived.Test.YtmblkllijjlkoaaGreatGB42
import Derived.Test.YtmblkllijjlkoaaGreatGB31
import Derived.Test.YtmblkllijjlkoaaGreatGB16
import Derived.Test.YtmblkllijjlkoaaGreatGB15
import Derived.Test.YtmblkllijjlkoaaGreatGB43
import Derived.Deep.DeepCutAuto
set_option linter.unusedVariables false
set_option linter.unusedSimpArgs false
namespace Go.Proofs.YtmblkllijjlkoaaGreat
open Go.ChangeShapes Go.WideShapes Go.ChangeAt Go.RowKit
theorem cntK_le {K : Ker} (h : szK K ≤ 1048576) : cntK K ≤ 2097152 := by
  unfold szK szM szF at h
  unfold cntK cntM cntF
  omega
set_option maxRecDepth 100000 in
set_option maxHeartbeats 12800000 in
theorem w_FnExactJobRun (x : KV) (K : Ker) (kp mv : Int) (c : Value) (cs : List Int) (ph nx most : Int) (w : World) (ha0 : KAt w x K) (ha1 : IntsAt w c cs) : Calls Tryz.prog 5 #[x.val K.calls, .agg #[.int .i64 kp, .int .i64 mv, c, .int .i64 ph, .int .i64 nx], .int .i64 most] w fun e w' => e = .returned (.bool true) ∧ Below w.heap.size w w' := by
  simp only [KV.val]; skip
  have HAw0 := Lib.hid ha0; have HA0 := Lib.hid ha0
  have HAw1 := Lib.hid ha1; have HA1 := Lib.hid ha1
  have HT := Lib.hid (Below.refl w.heap.size w)
  clear ha0 ha1
  by_cases hS0 : szK K ≤ 1048576
  rotate_left
  · (have hall := all_nil w; go_enter Tryz.func5, Tryz.ntmps5)
    go_wp2_with (first | (go_at_call 8; (refine (l_szKernel x K _ (by omega) _ (HA0.out.below (by exact bel))).mono ?_; rintro e w2 ⟨rfl, hb⟩; rw [szRes_neg (by omega)])))
    go_ret
    exact ⟨rfl, by exact bel⟩
  by_cases hS1 : szK K + cs.length ≤ 1048576
  rotate_left
  · (have hall := all_nil w; go_enter Tryz.func5, Tryz.ntmps5)
    go_wp2_with (first | (go_at_call 8; (refine (l_szKernel x K _ (by omega) _ (HA0.out.below (by exact bel))).mono ?_; rintro e w2 ⟨rfl, hb⟩; rw [szRes_pos (by omega)]; (first | have hn := nw4 hb hall (by exact zo) | have hn := nw3 hb hall (by exact zo) | have hn := nw2 hb hall (by exact zo) | have hn := nw1 hb hall (by exact zo) | have hn := nw0 hb hall (by exact zo)); obtain ⟨hc, hf, hn, hc0⟩ := hn; replace hall := hn; clear hn; have hz := hb.size; (try simp only [World.size_alloc, World.size_setCell, World.size_drew] at hz); have hx := hall; (try simp only [allLt, and_true] at hx); obtain ⟨w1, rfl⟩ : ∃ x, x = w2 := ⟨_, rfl⟩)) | (go_at_call 25; (refine (l_szJob kp mv c cs ph nx _ (by omega) _ (HA1.out.below (by exact bel))).mono ?_; rintro e w2 ⟨rfl, hb⟩; rw [szRes_neg (by omega)])))
    go_ret
    exact ⟨rfl, by exact bel⟩
  have hcn : cntK (runTo kp mv cs most ⟨K, ph, nx⟩).k ≤ 4194304 := by
    have h := cntK_sz (K := (runTo kp mv cs most ⟨K, ph, nx⟩).k) (by rw [sz_runTo]; exact hS0)
    omega
  have hcK := cntK_le hS0
  have hcl : cs.length ≤ 1048576 := by omega
  have HI := Lib.hid (fun y u w (h : KAt w y K) (h2 : IntsAt w u cs) => i_JobRun y K kp mv u cs ph nx most hS0 hcl w h h2)
  have HS := Lib.hid (fun y u w (h : KAt w y K) (h2 : IntsAt w u cs) => s_JobRun y K kp mv u cs ph nx most hS0 hcl w h h2)
  generalize (runTo kp mv cs most ⟨K, ph, nx⟩) = R2 at *
  obtain ⟨K2, ph2, nx2⟩ := R2
  dsimp only at HI HS hcn
  (have hall := all_nil w; go_enter Tryz.func5, Tryz.ntmps5)
  go_wp2_with fail
  replace HA0 := Lib.hid (HA0.out.below ((Below.refl _ w).alloc (Nat.le_refl _) (.cells #[x.m.f.c, x.m.f.u, x.m.e, .int .i64 K.calls, x.r] 33)))
  replace HA1 := Lib.hid (HA1.out.below ((Below.refl _ w).alloc (Nat.le_refl _) (.cells #[x.m.f.c, x.m.f.u, x.m.e, .int .i64 K.calls, x.r] 33)))
  replace HT := Lib.hid (HT.out.trans (((Below.refl _ w).alloc (Nat.le_refl _) (.cells #[x.m.f.c, x.m.f.u, x.m.e, .int .i64 K.calls, x.r] 33)).mono HT.out.size))
  have BP0 : Hid (BoxAt (w.alloc (.cells #[x.m.f.c, x.m.f.u, x.m.e, .int .i64 K.calls, x.r] 33)) (w.heap.size) [x.m.f.c, x.m.f.u, x.m.e, .int .i64 K.calls, x.r]) := (BoxAt.snoc (BoxAt.snoc (BoxAt.snoc (BoxAt.snoc (BoxAt.snoc (BoxAt.nil (w := w.alloc (.cells #[x.m.f.c, x.m.f.u, x.m.e, .int .i64 K.calls, x.r] 33)) (g := w.heap.size) (by go_simp)) (v := x.m.f.c) (i := 0) rfl (by go_simp) (by go_simp)) (v := x.m.f.u) (i := 1) rfl (by go_simp) (by go_simp)) (v := x.m.e) (i := 2) rfl (by go_simp) (by go_simp)) (v := .int .i64 K.calls) (i := 3) rfl (by go_simp) (by go_simp)) (v := x.r) (i := 4) rfl (by go_simp) (by go_simp))
  replace BP0 := Lib.hid (BP0.out.below ((Below.refl _ (w.alloc (.cells #[x.m.f.c, x.m.f.u, x.m.e, .int .i64 K.calls, x.r] 33))).alloc (Nat.le_refl _) (.cells #[.int .i64 kp, .int .i64 mv, c, .int .i64 ph, .int .i64 nx] 64)))
  replace HA0 := Lib.hid (HA0.out.below ((Below.refl _ (w.alloc (.cells #[x.m.f.c, x.m.f.u, x.m.e, .int .i64 K.calls, x.r] 33))).alloc (Nat.le_refl _) (.cells #[.int .i64 kp, .int .i64 mv, c, .int .i64 ph, .int .i64 nx] 64)))
  replace HA1 := Lib.hid (HA1.out.below ((Below.refl _ (w.alloc (.cells #[x.m.f.c, x.m.f.u, x.m.e, .int .i64 K.calls, x.r] 33))).alloc (Nat.le_refl _) (.cells #[.int .i64 kp, .int .i64 mv, c, .int .i64 ph, .int .i64 nx] 64)))
  replace HT := Lib.hid (HT.out.trans (((Below.refl _ (w.alloc (.cells #[x.m.f.c, x.m.f.u, x.m.e, .int .i64 K.calls, x.r] 33))).alloc (Nat.le_refl _) (.cells #[.int .i64 kp, .int .i64 mv, c, .int .i64 ph, .int .i64 nx] 64)).mono HT.out.size))
  have BP1 : Hid (BoxAt ((w.alloc (.cells #[x.m.f.c, x.m.f.u, x.m.e, .int .i64 K.calls, x.r] 33)).alloc (.cells #[.int .i64 kp, .int .i64 mv, c, .int .i64 ph, .int .i64 nx] 64)) (w.heap.size + 1) [.int .i64 kp, .int .i64 mv, c, .int .i64 ph, .int .i64 nx]) := (BoxAt.snoc (BoxAt.snoc (BoxAt.snoc (BoxAt.snoc (BoxAt.snoc (BoxAt.nil (w := (w.alloc (.cells #[x.m.f.c, x.m.f.u, x.m.e, .int .i64 K.calls, x.r] 33)).alloc (.cells #[.int .i64 kp, .int .i64 mv, c, .int .i64 ph, .int .i64 nx] 64)) (g := w.heap.size + 1) (by go_simp)) (v := .int .i64 kp) (i := 0) rfl (by go_simp) (by go_simp)) (v := .int .i64 mv) (i := 1) rfl (by go_simp) (by go_simp)) (v := c) (i := 2) rfl (by go_simp) (by go_simp)) (v := .int .i64 ph) (i := 3) rfl (by go_simp) (by go_simp)) (v := .int .i64 nx) (i := 4) rfl (by go_simp) (by go_simp))
  have cP00 := (BP0.out.cells 0 _ rfl).1; have fP00 := (BP0.out.cells 0 _ rfl).2
  have cP01 := (BP0.out.cells 1 _ rfl).1; have fP01 := (BP0.out.cells 1 _ rfl).2
  have cP02 := (BP0.out.cells 2 _ rfl).1; have fP02 := (BP0.out.cells 2 _ rfl).2
  have cP03 := (BP0.out.cells 3 _ rfl).1; have fP03 := (BP0.out.cells 3 _ rfl).2
  have cP04 := (BP0.out.cells 4 _ rfl).1; have fP04 := (BP0.out.cells 4 _ rfl).2
  have xP0 := BP0.out.lt
  go_wp2_with fail
  refine (l_szKernel x K _ (by omega) _ HA0.out).mono ?_; rintro e w2 ⟨rfl, hb⟩
  rw [szRes_pos (by omega)]
  clear xP0 cP00 fP00 cP01 fP01 cP02 fP02 cP03 fP03 cP04 fP04
  replace BP0 := Lib.hid (BP0.out.below hb)
  replace BP1 := Lib.hid (BP1.out.below hb)
  replace HA0 := Lib.hid (HA0.out.below hb)
  replace HA1 := Lib.hid (HA1.out.below hb)
  replace HT := Lib.hid (HT.out.trans (hb.mono HT.out.size))
  have zwA := hb.size; (try simp only [World.size_alloc] at zwA); clear hb; obtain ⟨wA, rfl⟩ : ∃ x, x = w2 := ⟨_, rfl⟩
  have cP10 := (BP1.out.cells 0 _ rfl).1; have fP10 := (BP1.out.cells 0 _ rfl).2
  have cP11 := (BP1.out.cells 1 _ rfl).1; have fP11 := (BP1.out.cells 1 _ rfl).2
  have cP12 := (BP1.out.cells 2 _ rfl).1; have fP12 := (BP1.out.cells 2 _ rfl).2
  have cP13 := (BP1.out.cells 3 _ rfl).1; have fP13 := (BP1.out.cells 3 _ rfl).2
  have cP14 := (BP1.out.cells 4 _ rfl).1; have fP14 := (BP1.out.cells 4 _ rfl).2
  have xP1 := BP1.out.lt
  go_wp2_with fail
  refine (l_szJob kp mv c cs ph nx _ (by omega) _ HA1.out).mono ?_; rintro e w2 ⟨rfl, hb⟩
  rw [szRes_pos (by omega)]
  clear xP1 cP10 fP10 cP11 fP11 cP12 fP12 cP13 fP13 cP14 fP14
  replace BP0 := Lib.hid (BP0.out.below hb)
  replace BP1 := Lib.hid (BP1.out.below hb)
  replace HA0 := Lib.hid (HA0.out.below hb)
  replace HA1 := Lib.hid (HA1.out.below hb)
  replace HT := Lib.hid (HT.out.trans (hb.mono HT.out.size))
  have zwB := hb.size; (try simp only [World.size_alloc] at zwB); clear hb; obtain ⟨wB, rfl⟩ : ∃ x, x = w2 := ⟨_, rfl⟩
  have cP00 := (BP0.out.cells 0 _ rfl).1; have fP00 := (BP0.out.cells 0 _ rfl).2
  have cP01 := (BP0.out.cells 1 _ rfl).1; have fP01 := (BP0.out.cells 1 _ rfl).2
  have cP02 := (BP0.out.cells 2 _ rfl).1; have fP02 := (BP0.out.cells 2 _ rfl).2
  have cP03 := (BP0.out.cells 3 _ rfl).1; have fP03 := (BP0.out.cells 3 _ rfl).2
  have cP04 := (BP0.out.cells 4 _ rfl).1; have fP04 := (BP0.out.cells 4 _ rfl).2
  have xP0 := BP0.out.lt
  have cP10 := (BP1.out.cells 0 _ rfl).1; have fP10 := (BP1.out.cells 0 _ rfl).2
  have cP11 := (BP1.out.cells 1 _ rfl).1; have fP11 := (BP1.out.cells 1 _ rfl).2
  have cP12 := (BP1.out.cells 2 _ rfl).1; have fP12 := (BP1.out.cells 2 _ rfl).2
  have cP13 := (BP1.out.cells 3 _ rfl).1; have fP13 := (BP1.out.cells 3 _ rfl).2
  have cP14 := (BP1.out.cells 4 _ rfl).1; have fP14 := (BP1.out.cells 4 _ rfl).2
  have xP1 := BP1.out.lt
  go_wp2_with fail
  go_upto_region 8 with fail
  go_cut [8, 9] (fun ss8 ss9 wx => ∃ yW0co yW0cc yW0uo yW0uc yW0vs yW0eo yW0ec yW0ro yW0rc yW1o yW1c gW0 gW1, ss8 = .pointer (some ⟨gW0, 0, none⟩) ∧ ss9 = .pointer (some ⟨gW1, 0, none⟩) ∧ BoxAt wx gW0 [.slice yW0co yW0vs.length yW0cc, .slice yW0uo K2.m.f.used.length yW0uc, .slice yW0eo K2.m.ents.length yW0ec, .int .i64 (K2.calls), .slice yW0ro K2.refuse.length yW0rc] ∧ BoxAt wx gW1 [.int .i64 kp, .int .i64 mv, .slice yW1o cs.length yW1c, .int .i64 ph2, .int .i64 nx2] ∧ KOwn (wB.heap.size) wx (⟨⟨⟨.slice yW0co yW0vs.length yW0cc, .slice yW0uo K2.m.f.used.length yW0uc, yW0vs⟩, .slice yW0eo K2.m.ents.length yW0ec⟩, .slice yW0ro K2.refuse.length yW0rc⟩ : KV) K2 ∧ OwnI (wB.heap.size) wx (.slice yW1o cs.length yW1c) cs ∧ gW0 ∉ blocks (KV.all (⟨⟨⟨.slice yW0co yW0vs.length yW0cc, .slice yW0uo K2.m.f.used.length yW0uc, yW0vs⟩, .slice yW0eo K2.m.ents.length yW0ec⟩, .slice yW0ro K2.refuse.length yW0rc⟩ : KV)) ∧ gW0 ∉ blocks ([.slice yW1o cs.length yW1c]) ∧ gW1 ∉ blocks (KV.all (⟨⟨⟨.slice yW0co yW0vs.length yW0cc, .slice yW0uo K2.m.f.used.length yW0uc, yW0vs⟩, .slice yW0eo K2.m.ents.length yW0ec⟩, .slice yW0ro K2.refuse.length yW0rc⟩ : KV)) ∧ gW1 ∉ blocks ([.slice yW1o cs.length yW1c]) ∧ (∀ g ∈ blocks (KV.all (⟨⟨⟨.slice yW0co yW0vs.length yW0cc, .slice yW0uo K2.m.f.used.length yW0uc, yW0vs⟩, .slice yW0eo K2.m.ents.length yW0ec⟩, .slice yW0ro K2.refuse.length yW0rc⟩ : KV)), g ∉ blocks ([.slice yW1o cs.length yW1c])) ∧ wB.heap.size ≤ gW0 ∧ wB.heap.size ≤ gW1 ∧ Below (wB).heap.size (wB) wx)
  case first =>
      refine wp_gen (fun a0 ha0 => ?_)
      have hsz : a0.tmps.size = 140 := by rw [ha0]; rfl
      have hps : (wB).heap.size = wB.heap.size := by first | rfl | simp only [World.size_alloc, World.size_drew]
      have X3 : ∀ u, (frAll a0 [30, 31, 32, 33, 34, 35, 29, 36, 37, 8, 9] u).tmps.getD 3 undef = .pointer (some ⟨w.heap.size, 0, none⟩) := fun u => (frAll_other (by decide)).trans (by rw [ha0]; rfl)
      have X4 : ∀ u, (frAll a0 [30, 31, 32, 33, 34, 35, 29, 36, 37, 8, 9] u).tmps.getD 4 undef = .pointer (some ⟨w.heap.size + 1, 0, none⟩) := fun u => (frAll_other (by decide)).trans (by rw [ha0]; rfl)
      have X2 : ∀ u, (frAll a0 [30, 31, 32, 33, 34, 35, 29, 36, 37, 8, 9] u).tmps.getD 2 undef = .int .i64 most := fun u => (frAll_other (by decide)).trans (by rw [ha0]; rfl)
      have E30 : ∀ u, (frAll a0 [30, 31, 32, 33, 34, 35, 29, 36, 37, 8, 9] u).tmps.getD 30 undef = u 30 := fun u => frAll_eval (by decide) (by rw [hsz]; decide)
      have P30 : ∀ u v, (frAll a0 [30, 31, 32, 33, 34, 35, 29, 36, 37, 8, 9] u).put (some 30) v = frAll a0 [30, 31, 32, 33, 34, 35, 29, 36, 37, 8, 9] (frUpd u 30 v) := fun u v => frAll_put v (by decide)
      have E31 : ∀ u, (frAll a0 [30, 31, 32, 33, 34, 35, 29, 36, 37, 8, 9] u).tmps.getD 31 undef = u 31 := fun u => frAll_eval (by decide) (by rw [hsz]; decide)
      have P31 : ∀ u v, (frAll a0 [30, 31, 32, 33, 34, 35, 29, 36, 37, 8, 9] u).put (some 31) v = frAll a0 [30, 31, 32, 33, 34, 35, 29, 36, 37, 8, 9] (frUpd u 31 v) := fun u v => frAll_put v (by decide)
      have E32 : ∀ u, (frAll a0 [30, 31, 32, 33, 34, 35, 29, 36, 37, 8, 9] u).tmps.getD 32 undef = u 32 := fun u => frAll_eval (by decide) (by rw [hsz]; decide)
      have P32 : ∀ u v, (frAll a0 [30, 31, 32, 33, 34, 35, 29, 36, 37, 8, 9] u).put (some 32) v = frAll a0 [30, 31, 32, 33, 34, 35, 29, 36, 37, 8, 9] (frUpd u 32 v) := fun u v => frAll_put v (by decide)
      have E33 : ∀ u, (frAll a0 [30, 31, 32, 33, 34, 35, 29, 36, 37, 8, 9] u).tmps.getD 33 undef = u 33 := fun u => frAll_eval (by decide) (by rw [hsz]; decide)
      have P33 : ∀ u v, (frAll a0 [30, 31, 32, 33, 34, 35, 29, 36, 37, 8, 9] u).put (some 33) v = frAll a0 [30, 31, 32, 33, 34, 35, 29, 36, 37, 8, 9] (frUpd u 33 v) := fun u v => frAll_put v (by decide)
      have E34 : ∀ u, (frAll a0 [30, 31, 32, 33, 34, 35, 29, 36, 37, 8, 9] u).tmps.getD 34 undef = u 34 := fun u => frAll_eval (by decide) (by rw [hsz]; decide)
      have P34 : ∀ u v, (frAll a0 [30, 31, 32, 33, 34, 35, 29, 36, 37, 8, 9] u).put (some 34) v = frAll a0 [30, 31, 32, 33, 34, 35, 29, 36, 37, 8, 9] (frUpd u 34 v) := fun u v => frAll_put v (by decide)
      have E35 : ∀ u, (frAll a0 [30, 31, 32, 33, 34, 35, 29, 36, 37, 8, 9] u).tmps.getD 35 undef = u 35 := fun u => frAll_eval (by decide) (by rw [hsz]; decide)
      have P35 : ∀ u v, (frAll a0 [30, 31, 32, 33, 34, 35, 29, 36, 37, 8, 9] u).put (some 35) v = frAll a0 [30, 31, 32, 33, 34, 35, 29, 36, 37, 8, 9] (frUpd u 35 v) := fun u v => frAll_put v (by decide)
      have E29 : ∀ u, (frAll a0 [30, 31, 32, 33, 34, 35, 29, 36, 37, 8, 9] u).tmps.getD 29 undef = u 29 := fun u => frAll_eval (by decide) (by rw [hsz]; decide)
      have P29 : ∀ u v, (frAll a0 [30, 31, 32, 33, 34, 35, 29, 36, 37, 8, 9] u).put (some 29) v = frAll a0 [30, 31, 32, 33, 34, 35, 29, 36, 37, 8, 9] (frUpd u 29 v) := fun u v => frAll_put v (by decide)
      have E36 : ∀ u, (frAll a0 [30, 31, 32, 33, 34, 35, 29, 36, 37, 8, 9] u).tmps.getD 36 undef = u 36 := fun u => frAll_eval (by decide) (by rw [hsz]; decide)
      have P36 : ∀ u v, (frAll a0 [30, 31, 32, 33, 34, 35, 29, 36, 37, 8, 9] u).put (some 36) v = frAll a0 [30, 31, 32, 33, 34, 35, 29, 36, 37, 8, 9] (frUpd u 36 v) := fun u v => frAll_put v (by decide)
      have E37 : ∀ u, (frAll a0 [30, 31, 32, 33, 34, 35, 29, 36, 37, 8, 9] u).tmps.getD 37 undef = u 37 := fun u => frAll_eval (by decide) (by rw [hsz]; decide)
      have P37 : ∀ u v, (frAll a0 [30, 31, 32, 33, 34, 35, 29, 36, 37, 8, 9] u).put (some 37) v = frAll a0 [30, 31, 32, 33, 34, 35, 29, 36, 37, 8, 9] (frUpd u 37 v) := fun u v => frAll_put v (by decide)
      have E8 : ∀ u, (frAll a0 [30, 31, 32, 33, 34, 35, 29, 36, 37, 8, 9] u).tmps.getD 8 undef = u 8 := fun u => frAll_eval (by decide) (by rw [hsz]; decide)
      have P8 : ∀ u v, (frAll a0 [30, 31, 32, 33, 34, 35, 29, 36, 37, 8, 9] u).put (some 8) v = frAll a0 [30, 31, 32, 33, 34, 35, 29, 36, 37, 8, 9] (frUpd u 8 v) := fun u v => frAll_put v (by decide)
      have E9 : ∀ u, (frAll a0 [30, 31, 32, 33, 34, 35, 29, 36, 37, 8, 9] u).tmps.getD 9 undef = u 9 := fun u => frAll_eval (by decide) (by rw [hsz]; decide)
      have P9 : ∀ u v, (frAll a0 [30, 31, 32, 33, 34, 35, 29, 36, 37, 8, 9] u).put (some 9) v = frAll a0 [30, 31, 32, 33, 34, 35, 29, 36, 37, 8, 9] (frUpd u 9 v) := fun u v => frAll_put v (by decide)
      replace ha0 := Lib.hid ha0
      refine wp_region_frame [30, 31, 32, 33, 34, 35, 29, 36, 37, 8, 9] (fun D u wv => ∃ yC0co yC0cc yC0uo yC0uc yC0vs yC0eo yC0ec yC0ro yC0rc yC1o yC1c yW0co yW0cc yW0uo yW0uc yW0vs yW0eo yW0ec yW0ro yW0rc yW1o yW1c gW0 gW1, Hid (Below (wB).heap.size (wB) wv) ∧ Hid (D 0 → u 30 = .agg #[x.m.f.c, x.m.f.u, x.m.e, .int .i64 K.calls, x.r]) ∧ Hid (D 1 → u 31 = .agg #[.slice yC0co yC0vs.length yC0cc, .slice yC0uo K.m.f.used.length yC0uc, .slice yC0eo K.m.ents.length yC0ec, .int .i64 (K.calls), .slice yC0ro K.refuse.length yC0rc]) ∧ Hid (D 2 → u 32 = .agg #[.int .i64 kp, .int .i64 mv, c, .int .i64 ph, .int .i64 nx]) ∧ Hid (D 3 → u 33 = .agg #[.int .i64 kp, .int .i64 mv, .slice yC1o cs.length yC1c, .int .i64 ph, .int .i64 nx]) ∧ Hid (D 4 → u 34 = .int .i64 most) ∧ Hid (D 5 → u 35 = .tuple #[.agg #[.slice yW0co yW0vs.length yW0cc, .slice yW0uo K2.m.f.used.length yW0uc, .slice yW0eo K2.m.ents.length yW0ec, .int .i64 (K2.calls), .slice yW0ro K2.refuse.length yW0rc], .agg #[.int .i64 kp, .int .i64 mv, .slice yW1o cs.length yW1c, .int .i64 ph2, .int .i64 nx2]]) ∧ Hid (D 6 → u 29 = .tuple #[.agg #[.slice yW0co yW0vs.length yW0cc, .slice yW0uo K2.m.f.used.length yW0uc, .slice yW0eo K2.m.ents.length yW0ec, .int .i64 (K2.calls), .slice yW0ro K2.refuse.length yW0rc], .agg #[.int .i64 kp, .int .i64 mv, .slice yW1o cs.length yW1c, .int .i64 ph2, .int .i64 nx2]]) ∧ Hid (D 7 → u 36 = .agg #[.slice yW0co yW0vs.length yW0cc, .slice yW0uo K2.m.f.used.length yW0uc, .slice yW0eo K2.m.ents.length yW0ec, .int .i64 (K2.calls), .slice yW0ro K2.refuse.length yW0rc]) ∧ Hid (D 8 → u 37 = .agg #[.int .i64 kp, .int .i64 mv, .slice yW1o cs.length yW1c, .int .i64 ph2, .int .i64 nx2]) ∧ Hid (D 9 → u 8 = .pointer (some ⟨gW0, 0, none⟩)) ∧ Hid (D 10 → u 9 = .pointer (some ⟨gW1, 0, none⟩)) ∧ Hid (D 1 → ¬ D 5 → KOwn (wB.heap.size) wv (⟨⟨⟨.slice yC0co yC0vs.length yC0cc, .slice yC0uo K.m.f.used.length yC0uc, yC0vs⟩, .slice yC0eo K.m.ents.length yC0ec⟩, .slice yC0ro K.refuse.length yC0rc⟩ : KV) K) ∧ Hid (D 3 → ¬ D 5 → OwnI (wB.heap.size) wv (.slice yC1o cs.length yC1c) cs) ∧ Hid (D 5 → KOwn (wB.heap.size) wv (⟨⟨⟨.slice yW0co yW0vs.length yW0cc, .slice yW0uo K2.m.f.used.length yW0uc, yW0vs⟩, .slice yW0eo K2.m.ents.length yW0ec⟩, .slice yW0ro K2.refuse.length yW0rc⟩ : KV) K2) ∧ Hid (D 5 → OwnI (wB.heap.size) wv (.slice yW1o cs.length yW1c) cs) ∧ Hid (D 5 → (∀ g ∈ blocks (KV.all (⟨⟨⟨.slice yW0co yW0vs.length yW0cc, .slice yW0uo K2.m.f.used.length yW0uc, yW0vs⟩, .slice yW0eo K2.m.ents.length yW0ec⟩, .slice yW0ro K2.refuse.length yW0rc⟩ : KV)), g ∉ blocks ([.slice yW1o cs.length yW1c]))) ∧ Hid (D 9 → wB.heap.size ≤ gW0 ∧ gW0 < wv.heap.size) ∧ Hid (D 9 → ¬ D 11 → BoxAt wv gW0 [.slice none 0 0, .slice none 0 0, .slice none 0 0, .int .i64 0, .slice none 0 0]) ∧ Hid (D 11 → BoxAt wv gW0 [.slice yW0co yW0vs.length yW0cc, .slice yW0uo K2.m.f.used.length yW0uc, .slice yW0eo K2.m.ents.length yW0ec, .int .i64 (K2.calls), .slice yW0ro K2.refuse.length yW0rc]) ∧ Hid (D 9 → D 5 → gW0 ∉ blocks (KV.all (⟨⟨⟨.slice yW0co yW0vs.length yW0cc, .slice yW0uo K2.m.f.used.length yW0uc, yW0vs⟩, .slice yW0eo K2.m.ents.length yW0ec⟩, .slice yW0ro K2.refuse.length yW0rc⟩ : KV))) ∧ Hid (D 9 → D 5 → gW0 ∉ blocks ([.slice yW1o cs.length yW1c])) ∧ Hid (D 10 → wB.heap.size ≤ gW1 ∧ gW1 < wv.heap.size) ∧ Hid (D 10 → ¬ D 12 → BoxAt wv gW1 [.int .i64 0, .int .i64 0, .slice none 0 0, .int .i64 0, .int .i64 0]) ∧ Hid (D 12 → BoxAt wv gW1 [.int .i64 kp, .int .i64 mv, .slice yW1o cs.length yW1c, .int .i64 ph2, .int .i64 nx2]) ∧ Hid (D 10 → D 5 → gW1 ∉ blocks (KV.all (⟨⟨⟨.slice yW0co yW0vs.length yW0cc, .slice yW0uo K2.m.f.used.length yW0uc, yW0vs⟩, .slice yW0eo K2.m.ents.length yW0ec⟩, .slice yW0ro K2.refuse.length yW0rc⟩ : KV))) ∧ Hid (D 10 → D 5 → gW1 ∉ blocks ([.slice yW1o cs.length yW1c])) ∧ Hid (D 9 → D 10 → gW0 ≠ gW1)) (by kernel_rfl) (by kernel_rfl) ?_ ?_ ?_
      · exact ⟨default, default, default, default, default, default, default, default, default, default, default, default, default, default, default, default, default, default, default, default, default, default, default, default, Lib.hid (by exact bel), Lib.hid (fun h => h.elim), Lib.hid (fun h => h.elim), Lib.hid (fun h => h.elim), Lib.hid (fun h => h.elim), Lib.hid (fun h => h.elim), Lib.hid (fun h => h.elim), Lib.hid (fun h => h.elim), Lib.hid (fun h => h.elim), Lib.hid (fun h => h.elim), Lib.hid (fun h => h.elim), Lib.hid (fun h => h.elim), Lib.hid (fun h => h.elim), Lib.hid (fun h => h.elim), Lib.hid (fun h => h.elim), Lib.hid (fun h => h.elim), Lib.hid (fun h => h.elim), Lib.hid (fun h => h.elim), Lib.hid (fun h => h.elim), Lib.hid (fun h => h.elim), Lib.hid (fun h => h.elim), Lib.hid (fun h => h.elim), Lib.hid (fun h => h.elim), Lib.hid (fun h => h.elim), Lib.hid (fun h => h.elim), Lib.hid (fun h => h.elim), Lib.hid (fun h => h.elim), Lib.hid (fun h => h.elim)⟩
      · rintro D u wv ⟨yC0co, yC0cc, yC0uo, yC0uc, yC0vs, yC0eo, yC0ec, yC0ro, yC0rc, yC1o, yC1c, yW0co, yW0cc, yW0uo, yW0uc, yW0vs, yW0eo, yW0ec, yW0ro, yW0rc, yW1o, yW1c, gW0, gW1, HBW, U0, U1, U2, U3, U4, U5, U6, U7, U8, U9, U10, OC0, OC1, OW0, OW1, DW0_1, A2gW0, A3gW0, A4gW0, A5gW0W0, A5gW0W1, A2gW1, A3gW1, A4gW1, A5gW1W0, A5gW1W1, A6gW0gW1⟩ hcl i hi hn hw
        have hi9 : i < 13 := hi; clear hi
        replace hcl := Lib.hid hcl; replace hw := Lib.hid hw
        have hbw := HBW.out; have hlw := hbw.size; rw [hps] at hlw
        rcases (by omega : i = 0 ∨ i = 1 ∨ i = 2 ∨ i = 3 ∨ i = 4 ∨ i = 5 ∨ i = 6 ∨ i = 7 ∨ i = 8 ∨ i = 9 ∨ i = 10 ∨ i = 11 ∨ i = 12) with rfl | rfl | rfl | rfl | rfl | rfl | rfl | rfl | rfl | rfl | rfl | rfl | rfl
        · skip
          refine wpOp_step (o := _) rfl (fun KK hKK => ?_)
          rw [if_pos (wanted_nil _ rfl)]
          have E3_ := X3 u
          have bx := BP0.out.below hbw
          have c0 := (bx.cells 0 _ rfl).1
          have c1 := (bx.cells 1 _ rfl).1
          have c2 := (bx.cells 2 _ rfl).1
          have c3 := (bx.cells 3 _ rfl).1
          have c4 := (bx.cells 4 _ rfl).1
          skip
          go_simp
          exact hKK _ _ ⟨_, P30 u _, yC0co, yC0cc, yC0uo, yC0uc, yC0vs, yC0eo, yC0ec, yC0ro, yC0rc, yC1o, yC1c, yW0co, yW0cc, yW0uo, yW0uc, yW0vs, yW0eo, yW0ec, yW0ro, yW0rc, yW1o, yW1c, gW0, gW1, HBW, Lib.hid (fun h0 => frUpd_self), (u10 U1), (u10 U2), (u10 U3), (u10 U4), (u10 U5), (u10 U6), (u10 U7), (u10 U8), (u10 U9), (u10 U10), (k11 OC0), (k11 OC1), (k10 OW0), (k10 OW1), (k10 DW0_1), (k10 A2gW0), (k11 A3gW0), (k10 A4gW0), (k20 A5gW0W0), (k20 A5gW0W1), (k10 A2gW1), (k11 A3gW1), (k10 A4gW1), (k20 A5gW1W0), (k20 A5gW1W1), (k20 A6gW0gW1)⟩
        · skip
          refine wpOp_step (o := _) rfl (fun KK hKK => ?_)
          rw [if_pos (wanted_nil _ rfl)]
          have e30 := U0.out (hw.out 0 (by kernel_rfl)); have E30_ := (E30 u).trans e30
          skip
          go_simp
          refine (l_toKernel x K (by omega) _ (HA0.out.below hbw)).mono ?_; rintro e w2 ⟨yC0, rfl, OC0, hb⟩
          obtain ⟨yC0co, yC0cc, yC0uo, yC0uc, yC0vs, yC0eo, yC0ec, yC0ro, yC0rc, rfl⟩ := KOwn.shapes OC0
          simp only [KV.val]
          have hbn := hb.size
          try dsimp only
          exact hKK _ _ ⟨_, P31 u _, yC0co, yC0cc, yC0uo, yC0uc, yC0vs, yC0eo, yC0ec, yC0ro, yC0rc, yC1o, yC1c, yW0co, yW0cc, yW0uo, yW0uc, yW0vs, yW0eo, yW0ec, yW0ro, yW0rc, yW1o, yW1c, gW0, gW1, (Lib.hid (hbw.trans (hb.mono (by rw [hps]; omega)))), (u10 U0), Lib.hid (fun h0 => frUpd_self), (u10 U2), (u10 U3), (u10 U4), (u10 U5), (u10 U6), (u10 U7), (u10 U8), (u10 U9), (u10 U10), Lib.hid (fun h0 m0 => KOwn.mono OC0 (by omega)), (m11 (fun h => Own.below h hb) OC1), (m10 (fun h => h.below hb) OW0), (m10 (fun h => Own.below h hb) OW1), (k10 DW0_1), (m10 (lt_grow hb.size) A2gW0), (m11 (fun h => h.below hb) A3gW0), (m10 (fun h => h.below hb) A4gW0), (k20 A5gW0W0), (k20 A5gW0W1), (m10 (lt_grow hb.size) A2gW1), (m11 (fun h => h.below hb) A3gW1), (m10 (fun h => h.below hb) A4gW1), (k20 A5gW1W0), (k20 A5gW1W1), (k20 A6gW0gW1)⟩
        · skip
          refine wpOp_step (o := _) rfl (fun KK hKK => ?_)
          rw [if_pos (wanted_nil _ rfl)]
          have E4_ := X4 u
          have bx := BP1.out.below hbw
          have c0 := (bx.cells 0 _ rfl).1
          have c1 := (bx.cells 1 _ rfl).1
          have c2 := (bx.cells 2 _ rfl).1
          have c3 := (bx.cells 3 _ rfl).1
          have c4 := (bx.cells 4 _ rfl).1
          skip
          go_simp
          exact hKK _ _ ⟨_, P32 u _, yC0co, yC0cc, yC0uo, yC0uc, yC0vs, yC0eo, yC0ec, yC0ro, yC0rc, yC1o, yC1c, yW0co, yW0cc, yW0uo, yW0uc, yW0vs, yW0eo, yW0ec, yW0ro, yW0rc, yW1o, yW1c, gW0, gW1, HBW, (u10 U0), (u10 U1), Lib.hid (fun h0 => frUpd_self), (u10 U3), (u10 U4), (u10 U5), (u10 U6), (u10 U7), (u10 U8), (u10 U9), (u10 U10), (k11 OC0), (k11 OC1), (k10 OW0), (k10 OW1), (k10 DW0_1), (k10 A2gW0), (k11 A3gW0), (k10 A4gW0), (k20 A5gW0W0), (k20 A5gW0W1), (k10 A2gW1), (k11 A3gW1), (k10 A4gW1), (k20 A5gW1W0), (k20 A5gW1W1), (k20 A6gW0gW1)⟩
        · skip
          refine wpOp_step (o := _) rfl (fun KK hKK => ?_)
          rw [if_pos (wanted_nil _ rfl)]
          have e32 := U2.out (hw.out 2 (by kernel_rfl)); have E32_ := (E32 u).trans e32
          skip
          go_simp
          refine (l_toJob kp mv c cs ph nx (by omega) _ (HA1.out.below hbw)).mono ?_; rintro e w2 ⟨vC1, rfl, OC1, hb⟩
          obtain ⟨yC1o, yC1c, rfl, -, -⟩ := OC1.shape
          have hbn := hb.size
          try dsimp only
          exact hKK _ _ ⟨_, P33 u _, yC0co, yC0cc, yC0uo, yC0uc, yC0vs, yC0eo, yC0ec, yC0ro, yC0rc, yC1o, yC1c, yW0co, yW0cc, yW0uo, yW0uc, yW0vs, yW0eo, yW0ec, yW0ro, yW0rc, yW1o, yW1c, gW0, gW1, (Lib.hid (hbw.trans (hb.mono (by rw [hps]; omega)))), (u10 U0), (u10 U1), (u10 U2), Lib.hid (fun h0 => frUpd_self), (u10 U4), (u10 U5), (u10 U6), (u10 U7), (u10 U8), (u10 U9), (u10 U10), (m11 (fun h => h.below hb) OC0), Lib.hid (fun h0 m0 => Own.mono OC1 (by omega)), (m10 (fun h => h.below hb) OW0), (m10 (fun h => Own.below h hb) OW1), (k10 DW0_1), (m10 (lt_grow hb.size) A2gW0), (m11 (fun h => h.below hb) A3gW0), (m10 (fun h => h.below hb) A4gW0), (k20 A5gW0W0), (k20 A5gW0W1), (m10 (lt_grow hb.size) A2gW1), (m11 (fun h => h.below hb) A3gW1), (m10 (fun h => h.below hb) A4gW1), (k20 A5gW1W0), (k20 A5gW1W1), (k20 A6gW0gW1)⟩
        · skip
          refine wpOp_step (o := _) rfl (fun KK hKK => ?_)
          rw [if_pos (wanted_nil _ rfl)]
          have E2_ := X2 u
          skip
          go_simp
          exact hKK _ _ ⟨_, P34 u _, yC0co, yC0cc, yC0uo, yC0uc, yC0vs, yC0eo, yC0ec, yC0ro, yC0rc, yC1o, yC1c, yW0co, yW0cc, yW0uo, yW0uc, yW0vs, yW0eo, yW0ec, yW0ro, yW0rc, yW1o, yW1c, gW0, gW1, HBW, (u10 U0), (u10 U1), (u10 U2), (u10 U3), Lib.hid (fun h0 => frUpd_self), (u10 U5), (u10 U6), (u10 U7), (u10 U8), (u10 U9), (u10 U10), (k11 OC0), (k11 OC1), (k10 OW0), (k10 OW1), (k10 DW0_1), (k10 A2gW0), (k11 A3gW0), (k10 A4gW0), (k20 A5gW0W0), (k20 A5gW0W1), (k10 A2gW1), (k11 A3gW1), (k10 A4gW1), (k20 A5gW1W0), (k20 A5gW1W1), (k20 A6gW0gW1)⟩
        · skip
          refine wpOp_step (o := _) rfl (fun KK hKK => ?_)
          rw [if_pos (wanted_nil _ rfl)]
          have e31 := U1.out (hw.out 1 (by kernel_rfl)); have E31_ := (E31 u).trans e31
          have e33 := U3.out (hw.out 3 (by kernel_rfl)); have E33_ := (E33 u).trans e33
          have e34 := U4.out (hw.out 4 (by kernel_rfl)); have E34_ := (E34 u).trans e34
          skip
          go_simp
          refine (HS.out _ _ _ (KOwn.at (OC0.out (hw.out 1 (by kernel_rfl)) hn)) (Own.at (OC1.out (hw.out 3 (by kernel_rfl)) hn) lenInt)).mono ?_; rintro e w2 ⟨yW0, vW1, rfl, OW0, OW1, DW0_1, hb⟩
          obtain ⟨yW0co, yW0cc, yW0uo, yW0uc, yW0vs, yW0eo, yW0ec, yW0ro, yW0rc, rfl⟩ := KOwn.shapes OW0
          obtain ⟨yW1o, yW1c, rfl, -, -⟩ := OW1.shape
          simp only [KV.val]
          have hbn := hb.size
          try dsimp only
          exact hKK _ _ ⟨_, P35 u _, yC0co, yC0cc, yC0uo, yC0uc, yC0vs, yC0eo, yC0ec, yC0ro, yC0rc, yC1o, yC1c, yW0co, yW0cc, yW0uo, yW0uc, yW0vs, yW0eo, yW0ec, yW0ro, yW0rc, yW1o, yW1c, gW0, gW1, (Lib.hid (hbw.trans (hb.mono (by rw [hps]; omega)))), (u10 U0), (u10 U1), (u10 U2), (u10 U3), (u10 U4), Lib.hid (fun h0 => frUpd_self), Lib.hid (fun h0 => absurd (hcl.out 6 5 (by kernel_rfl) (addD_of h0 (by decide))) hn), Lib.hid (fun h0 => absurd (hcl.out 6 5 (by kernel_rfl) (hcl.out 7 6 (by kernel_rfl) (addD_of h0 (by decide)))) hn), Lib.hid (fun h0 => absurd (hcl.out 6 5 (by kernel_rfl) (hcl.out 8 6 (by kernel_rfl) (addD_of h0 (by decide)))) hn), (u10 U9), (u10 U10), x11, x11, Lib.hid (fun h0 => KOwn.mono OW0 (by omega)), Lib.hid (fun h0 => Own.mono OW1 (by omega)), Lib.hid (fun h0 => DW0_1), (m10 (lt_grow hb.size) A2gW0), (m11 (fun h => h.below hb) A3gW0), Lib.hid (fun h0 => absurd (hcl.out 6 5 (by kernel_rfl) (hcl.out 7 6 (by kernel_rfl) (hcl.out 11 7 (by kernel_rfl) (addD_of h0 (by decide))))) hn), Lib.hid (fun h0 h1 => fun hm => Nat.lt_irrefl _ (Nat.lt_of_lt_of_le (A2gW0.out (addD_of h0 (by decide))).2 (((OW0).lts) _ hm).1)), Lib.hid (fun h0 h1 => fun hm => Nat.lt_irrefl _ (Nat.lt_of_lt_of_le (A2gW0.out (addD_of h0 (by decide))).2 ((Own.lts (OW1)) _ hm).1)), (m10 (lt_grow hb.size) A2gW1), (m11 (fun h => h.below hb) A3gW1), Lib.hid (fun h0 => absurd (hcl.out 6 5 (by kernel_rfl) (hcl.out 8 6 (by kernel_rfl) (hcl.out 12 8 (by kernel_rfl) (addD_of h0 (by decide))))) hn), Lib.hid (fun h0 h1 => fun hm => Nat.lt_irrefl _ (Nat.lt_of_lt_of_le (A2gW1.out (addD_of h0 (by decide))).2 (((OW0).lts) _ hm).1)), Lib.hid (fun h0 h1 => fun hm => Nat.lt_irrefl _ (Nat.lt_of_lt_of_le (A2gW1.out (addD_of h0 (by decide))).2 ((Own.lts (OW1)) _ hm).1)), (k20 A6gW0gW1)⟩
        · skip
          refine wpOp_step (o := _) rfl (fun KK hKK => ?_)
          rw [if_pos (wanted_nil _ rfl)]
          have e35 := U5.out (hw.out 5 (by kernel_rfl)); have E35_ := (E35 u).trans e35
          skip
          go_simp
          exact hKK _ _ ⟨_, P29 u _, yC0co, yC0cc, yC0uo, yC0uc, yC0vs, yC0eo, yC0ec, yC0ro, yC0rc, yC1o, yC1c, yW0co, yW0cc, yW0uo, yW0uc, yW0vs, yW0eo, yW0ec, yW0ro, yW0rc, yW1o, yW1c, gW0, gW1, HBW, (u10 U0), (u10 U1), (u10 U2), (u10 U3), (u10 U4), (u10 U5), Lib.hid (fun h0 => frUpd_self), (u10 U7), (u10 U8), (u10 U9), (u10 U10), (k11 OC0), (k11 OC1), (k10 OW0), (k10 OW1), (k10 DW0_1), (k10 A2gW0), (k11 A3gW0), (k10 A4gW0), (k20 A5gW0W0), (k20 A5gW0W1), (k10 A2gW1), (k11 A3gW1), (k10 A4gW1), (k20 A5gW1W0), (k20 A5gW1W1), (k20 A6gW0gW1)⟩
        · skip
          refine wpOp_step (o := _) rfl (fun KK hKK => ?_)
          rw [if_pos (wanted_nil _ rfl)]
          have e29 := U6.out (hw.out 6 (by kernel_rfl)); have E29_ := (E29 u).trans e29
          skip
          go_simp
          exact hKK _ _ ⟨_, P36 u _, yC0co, yC0cc, yC0uo, yC0uc, yC0vs, yC0eo, yC0ec, yC0ro, yC0rc, yC1o, yC1c, yW0co, yW0cc, yW0uo, yW0uc, yW0vs, yW0eo, yW0ec, yW0ro, yW0rc, yW1o, yW1c, gW0, gW1, HBW, (u10 U0), (u10 U1), (u10 U2), (u10 U3), (u10 U4), (u10 U5), (u10 U6), Lib.hid (fun h0 => frUpd_self), (u10 U8), (u10 U9), (u10 U10), (k11 OC0), (k11 OC1), (k10 OW0), (k10 OW1), (k10 DW0_1), (k10 A2gW0), (k11 A3gW0), (k10 A4gW0), (k20 A5gW0W0), (k20 A5gW0W1), (k10 A2gW1), (k11 A3gW1), (k10 A4gW1), (k20 A5gW1W0), (k20 A5gW1W1), (k20 A6gW0gW1)⟩
        · skip
          refine wpOp_step (o := _) rfl (fun KK hKK => ?_)
          rw [if_pos (wanted_nil _ rfl)]
          have e29 := U6.out (hw.out 6 (by kernel_rfl)); have E29_ := (E29 u).trans e29
          skip
          go_simp
          exact hKK _ _ ⟨_, P37 u _, yC0co, yC0cc, yC0uo, yC0uc, yC0vs, yC0eo, yC0ec, yC0ro, yC0rc, yC1o, yC1c, yW0co, yW0cc, yW0uo, yW0uc, yW0vs, yW0eo, yW0ec, yW0ro, yW0rc, yW1o, yW1c, gW0, gW1, HBW, (u10 U0), (u10 U1), (u10 U2), (u10 U3), (u10 U4), (u10 U5), (u10 U6), (u10 U7), Lib.hid (fun h0 => frUpd_self), (u10 U9), (u10 U10), (k11 OC0), (k11 OC1), (k10 OW0), (k10 OW1), (k10 DW0_1), (k10 A2gW0), (k11 A3gW0), (k10 A4gW0), (k20 A5gW0W0), (k20 A5gW0W1), (k10 A2gW1), (k11 A3gW1), (k10 A4gW1), (k20 A5gW1W0), (k20 A5gW1W1), (k20 A6gW0gW1)⟩
        · skip
          refine wpOp_step (o := _) rfl (fun KK hKK => ?_)
          rw [if_pos (wanted_nil _ rfl)]
          skip
          go_simp
          have hb : Below wv.heap.size wv (wv.alloc (.cells #[.slice none 0 0, .slice none 0 0, .slice none 0 0, .int .i64 0, .slice none 0 0] 46)) := (Below.refl _ wv).alloc (Nat.le_refl _) (.cells #[.slice none 0 0, .slice none 0 0, .slice none 0 0, .int .i64 0, .slice none 0 0] 46)
          have hbn : wv.heap.size < (wv.alloc (.cells #[.slice none 0 0, .slice none 0 0, .slice none 0 0, .int .i64 0, .slice none 0 0] 46)).heap.size := by rw [World.size_alloc]; omega
          have BN : BoxAt (wv.alloc (.cells #[.slice none 0 0, .slice none 0 0, .slice none 0 0, .int .i64 0, .slice none 0 0] 46)) wv.heap.size [.slice none 0 0, .slice none 0 0, .slice none 0 0, .int .i64 0, .slice none 0 0] := (BoxAt.snoc (BoxAt.snoc (BoxAt.snoc (BoxAt.snoc (BoxAt.snoc (BoxAt.nil (w := (wv.alloc (.cells #[.slice none 0 0, .slice none 0 0, .slice none 0 0, .int .i64 0, .slice none 0 0] 46))) (g := wv.heap.size) (by go_simp)) (v := .slice none 0 0) (i := 0) rfl (by go_simp) (by go_simp)) (v := .slice none 0 0) (i := 1) rfl (by go_simp) (by go_simp)) (v := .slice none 0 0) (i := 2) rfl (by go_simp) (by go_simp)) (v := .int .i64 0) (i := 3) rfl (by go_simp) (by go_simp)) (v := .slice none 0 0) (i := 4) rfl (by go_simp) (by go_simp))
          exact hKK _ _ ⟨_, P8 u _, yC0co, yC0cc, yC0uo, yC0uc, yC0vs, yC0eo, yC0ec, yC0ro, yC0rc, yC1o, yC1c, yW0co, yW0cc, yW0uo, yW0uc, yW0vs, yW0eo, yW0ec, yW0ro, yW0rc, yW1o, yW1c, wv.heap.size, gW1, (Lib.hid (hbw.trans (hb.mono (by rw [hps]; omega)))), (u10 U0), (u10 U1), (u10 U2), (u10 U3), (u10 U4), (u10 U5), (u10 U6), (u10 U7), (u10 U8), Lib.hid (fun h0 => frUpd_self), (u10 U10), (m11 (fun h => h.below hb) OC0), (m11 (fun h => Own.below h hb) OC1), (m10 (fun h => h.below hb) OW0), (m10 (fun h => Own.below h hb) OW1), (k10 DW0_1), Lib.hid (fun h0 => ⟨by omega, hbn⟩), Lib.hid (fun h0 m0 => BN), Lib.hid (fun h0 => absurd (hcl.out 11 9 (by kernel_rfl) (addD_of h0 (by decide))) hn), Lib.hid (fun h0 h1 => fun hm => Nat.lt_irrefl _ ((((OW0.out (addD_of h1 (by decide)))).lts) _ hm).2), Lib.hid (fun h0 h1 => fun hm => Nat.lt_irrefl _ ((Own.lts ((OW1.out (addD_of h1 (by decide))))) _ hm).2), (m10 (lt_grow hb.size) A2gW1), (m11 (fun h => h.below hb) A3gW1), (m10 (fun h => h.below hb) A4gW1), (k20 A5gW1W0), (k20 A5gW1W1), Lib.hid (fun h0 h1 => Nat.ne_of_gt (A2gW1.out (addD_of h1 (by decide))).2)⟩
        · skip
          refine wpOp_step (o := _) rfl (fun KK hKK => ?_)
          rw [if_pos (wanted_nil _ rfl)]
          skip
          go_simp
          have hb : Below wv.heap.size wv (wv.alloc (.cells #[.int .i64 0, .int .i64 0, .slice none 0 0, .int .i64 0, .int .i64 0] 68)) := (Below.refl _ wv).alloc (Nat.le_refl _) (.cells #[.int .i64 0, .int .i64 0, .slice none 0 0, .int .i64 0, .int .i64 0] 68)
          have hbn : wv.heap.size < (wv.alloc (.cells #[.int .i64 0, .int .i64 0, .slice none 0 0, .int .i64 0, .int .i64 0] 68)).heap.size := by rw [World.size_alloc]; omega
          have BN : BoxAt (wv.alloc (.cells #[.int .i64 0, .int .i64 0, .slice none 0 0, .int .i64 0, .int .i64 0] 68)) wv.heap.size [.int .i64 0, .int .i64 0, .slice none 0 0, .int .i64 0, .int .i64 0] := (BoxAt.snoc (BoxAt.snoc (BoxAt.snoc (BoxAt.snoc (BoxAt.snoc (BoxAt.nil (w := (wv.alloc (.cells #[.int .i64 0, .int .i64 0, .slice none 0 0, .int .i64 0, .int .i64 0] 68))) (g := wv.heap.size) (by go_simp)) (v := .int .i64 0) (i := 0) rfl (by go_simp) (by go_simp)) (v := .int .i64 0) (i := 1) rfl (by go_simp) (by go_simp)) (v := .slice none 0 0) (i := 2) rfl (by go_simp) (by go_simp)) (v := .int .i64 0) (i := 3) rfl (by go_simp) (by go_simp)) (v := .int .i64 0) (i := 4) rfl (by go_simp) (by go_simp))
          exact hKK _ _ ⟨_, P9 u _, yC0co, yC0cc, yC0uo, yC0uc, yC0vs, yC0eo, yC0ec, yC0ro, yC0rc, yC1o, yC1c, yW0co, yW0cc, yW0uo, yW0uc, yW0vs, yW0eo, yW0ec, yW0ro, yW0rc, yW1o, yW1c, gW0, wv.heap.size, (Lib.hid (hbw.trans (hb.mono (by rw [hps]; omega)))), (u10 U0), (u10 U1), (u10 U2), (u10 U3), (u10 U4), (u10 U5), (u10 U6), (u10 U7), (u10 U8), (u10 U9), Lib.hid (fun h0 => frUpd_self), (m11 (fun h => h.below hb) OC0), (m11 (fun h => Own.below h hb) OC1), (m10 (fun h => h.below hb) OW0), (m10 (fun h => Own.below h hb) OW1), (k10 DW0_1), (m10 (lt_grow hb.size) A2gW0), (m11 (fun h => h.below hb) A3gW0), (m10 (fun h => h.below hb) A4gW0), (k20 A5gW0W0), (k20 A5gW0W1), Lib.hid (fun h0 => ⟨by omega, hbn⟩), Lib.hid (fun h0 m0 => BN), Lib.hid (fun h0 => absurd (hcl.out 12 10 (by kernel_rfl) (addD_of h0 (by decide))) hn), Lib.hid (fun h0 h1 => fun hm => Nat.lt_irrefl _ ((((OW0.out (addD_of h1 (by decide)))).lts) _ hm).2), Lib.hid (fun h0 h1 => fun hm => Nat.lt_irrefl _ ((Own.lts ((OW1.out (addD_of h1 (by decide))))) _ hm).2), Lib.hid (fun h0 h1 => Nat.ne_of_lt (A2gW0.out (addD_of h0 (by decide))).2)⟩
        · skip
          refine wpOp_step (o := _) rfl (fun KK hKK => ?_)
          rw [if_pos (wanted_nil _ rfl)]
          have e8 := U9.out (hw.out 9 (by kernel_rfl)); have E8_ := (E8 u).trans e8
          have e36 := U7.out (hw.out 7 (by kernel_rfl)); have E36_ := (E36 u).trans e36
          have bx := A3gW0.out (hw.out 9 (by kernel_rfl)) hn
          have c0 := (bx.cells 0 _ rfl).1; have f0 := (bx.cells 0 _ rfl).2
          have c1 := (bx.cells 1 _ rfl).1; have f1 := (bx.cells 1 _ rfl).2
          have c2 := (bx.cells 2 _ rfl).1; have f2 := (bx.cells 2 _ rfl).2
          have c3 := (bx.cells 3 _ rfl).1; have f3 := (bx.cells 3 _ rfl).2
          have c4 := (bx.cells 4 _ rfl).1; have f4 := (bx.cells 4 _ rfl).2
          have hgl := A2gW0.out (hw.out 9 (by kernel_rfl))
          skip
          go_simp
          have ht : Touch [gW0] wv (((((wv.setCell ⟨gW0, 0, none⟩ (.slice yW0co yW0vs.length yW0cc)).setCell ⟨gW0, 1, none⟩ (.slice yW0uo K2.m.f.used.length yW0uc)).setCell ⟨gW0, 2, none⟩ (.slice yW0eo K2.m.ents.length yW0ec)).setCell ⟨gW0, 3, none⟩ (.int .i64 (K2.calls))).setCell ⟨gW0, 4, none⟩ (.slice yW0ro K2.refuse.length yW0rc)) := touch_bx (touch_bx (touch_bx (touch_bx (touch_bx (Touch.refl [gW0] wv)))))
          have hb := ht.toBelow (B := wB.heap.size) (fun g hg => by have := List.mem_singleton.1 hg; omega) (by omega)
          have BN : BoxAt (((((wv.setCell ⟨gW0, 0, none⟩ (.slice yW0co yW0vs.length yW0cc)).setCell ⟨gW0, 1, none⟩ (.slice yW0uo K2.m.f.used.length yW0uc)).setCell ⟨gW0, 2, none⟩ (.slice yW0eo K2.m.ents.length yW0ec)).setCell ⟨gW0, 3, none⟩ (.int .i64 (K2.calls))).setCell ⟨gW0, 4, none⟩ (.slice yW0ro K2.refuse.length yW0rc)) gW0 [.slice yW0co yW0vs.length yW0cc, .slice yW0uo K2.m.f.used.length yW0uc, .slice yW0eo K2.m.ents.length yW0ec, .int .i64 (K2.calls), .slice yW0ro K2.refuse.length yW0rc] := (BoxAt.snoc (BoxAt.snoc (BoxAt.snoc (BoxAt.snoc (BoxAt.snoc (BoxAt.nil (w := (((((wv.setCell ⟨gW0, 0, none⟩ (.slice yW0co yW0vs.length yW0cc)).setCell ⟨gW0, 1, none⟩ (.slice yW0uo K2.m.f.used.length yW0uc)).setCell ⟨gW0, 2, none⟩ (.slice yW0eo K2.m.ents.length yW0ec)).setCell ⟨gW0, 3, none⟩ (.int .i64 (K2.calls))).setCell ⟨gW0, 4, none⟩ (.slice yW0ro K2.refuse.length yW0rc))) (g := gW0) (by have := ht.size; omega)) (v := .slice yW0co yW0vs.length yW0cc) (i := 0) rfl (by go_simp) (by go_simp)) (v := .slice yW0uo K2.m.f.used.length yW0uc) (i := 1) rfl (by go_simp) (by go_simp)) (v := .slice yW0eo K2.m.ents.length yW0ec) (i := 2) rfl (by go_simp) (by go_simp)) (v := .int .i64 (K2.calls)) (i := 3) rfl (by go_simp) (by go_simp)) (v := .slice yW0ro K2.refuse.length yW0rc) (i := 4) rfl (by go_simp) (by go_simp))
          have HDM : D 5 := (hcl.out 6 5 (by kernel_rfl) (hcl.out 7 6 (by kernel_rfl) (hw.out 7 (by kernel_rfl))))
          exact hKK _ _ ⟨u, rfl, yC0co, yC0cc, yC0uo, yC0uc, yC0vs, yC0eo, yC0ec, yC0ro, yC0rc, yC1o, yC1c, yW0co, yW0cc, yW0uo, yW0uc, yW0vs, yW0eo, yW0ec, yW0ro, yW0rc, yW1o, yW1c, gW0, gW1, (Lib.hid (hbw.trans (hb.mono (by rw [hps]; exact Nat.le_refl _)))), (k10 U0), (k10 U1), (k10 U2), (k10 U3), (k10 U4), (k10 U5), (k10 U6), (k10 U7), (k10 U8), (k10 U9), (k10 U10), Lib.hid (fun h0 m0 => absurd (addD_mem HDM) m0), Lib.hid (fun h0 m0 => absurd (addD_mem HDM) m0), (md10 (fun d h => h.touch ht (fun g hg hm => by cases List.mem_singleton.1 hm; exact A5gW0W0.out (hw.out 9 (by kernel_rfl)) d hg)) OW0), (md10 (fun d h => Own.touchs h ht (fun g hg hm => by cases List.mem_singleton.1 hm; exact A5gW0W1.out (hw.out 9 (by kernel_rfl)) d hg)) OW1), (k10 DW0_1), (m10 (lt_grow ht.size) A2gW0), x11, Lib.hid (fun h0 => BN), (k20 A5gW0W0), (k20 A5gW0W1), (m10 (lt_grow ht.size) A2gW1), Lib.hid (fun h0 m0 => (A3gW1.out (addD_of h0 (by decide)) (fun x => m0 (addD_mem x))).touch ht (fun hm => (A6gW0gW1.out (hw.out 9 (by kernel_rfl)) (addD_of h0 (by decide))) (List.mem_singleton.1 hm).symm)), Lib.hid (fun h0 => (A4gW1.out (addD_of h0 (by decide))).touch ht (fun hm => (A6gW0gW1.out (hw.out 9 (by kernel_rfl)) (hcl.out 12 10 (by kernel_rfl) (addD_of h0 (by decide)))) (List.mem_singleton.1 hm).symm)), (k20 A5gW1W0), (k20 A5gW1W1), (k20 A6gW0gW1)⟩
        · skip
          refine wpOp_step (o := _) rfl (fun KK hKK => ?_)
          rw [if_pos (wanted_nil _ rfl)]
          have e9 := U10.out (hw.out 10 (by kernel_rfl)); have E9_ := (E9 u).trans e9
          have e37 := U8.out (hw.out 8 (by kernel_rfl)); have E37_ := (E37 u).trans e37
          have bx := A3gW1.out (hw.out 10 (by kernel_rfl)) hn
          have c0 := (bx.cells 0 _ rfl).1; have f0 := (bx.cells 0 _ rfl).2
          have c1 := (bx.cells 1 _ rfl).1; have f1 := (bx.cells 1 _ rfl).2
          have c2 := (bx.cells 2 _ rfl).1; have f2 := (bx.cells 2 _ rfl).2
          have c3 := (bx.cells 3 _ rfl).1; have f3 := (bx.cells 3 _ rfl).2
          have c4 := (bx.cells 4 _ rfl).1; have f4 := (bx.cells 4 _ rfl).2
          have hgl := A2gW1.out (hw.out 10 (by kernel_rfl))
          skip
          go_simp
          have ht : Touch [gW1] wv (((((wv.setCell ⟨gW1, 0, none⟩ (.int .i64 kp)).setCell ⟨gW1, 1, none⟩ (.int .i64 mv)).setCell ⟨gW1, 2, none⟩ (.slice yW1o cs.length yW1c)).setCell ⟨gW1, 3, none⟩ (.int .i64 ph2)).setCell ⟨gW1, 4, none⟩ (.int .i64 nx2)) := touch_bx (touch_bx (touch_bx (touch_bx (touch_bx (Touch.refl [gW1] wv)))))
          have hb := ht.toBelow (B := wB.heap.size) (fun g hg => by have := List.mem_singleton.1 hg; omega) (by omega)
          have BN : BoxAt (((((wv.setCell ⟨gW1, 0, none⟩ (.int .i64 kp)).setCell ⟨gW1, 1, none⟩ (.int .i64 mv)).setCell ⟨gW1, 2, none⟩ (.slice yW1o cs.length yW1c)).setCell ⟨gW1, 3, none⟩ (.int .i64 ph2)).setCell ⟨gW1, 4, none⟩ (.int .i64 nx2)) gW1 [.int .i64 kp, .int .i64 mv, .slice yW1o cs.length yW1c, .int .i64 ph2, .int .i64 nx2] := (BoxAt.snoc (BoxAt.snoc (BoxAt.snoc (BoxAt.snoc (BoxAt.snoc (BoxAt.nil (w := (((((wv.setCell ⟨gW1, 0, none⟩ (.int .i64 kp)).setCell ⟨gW1, 1, none⟩ (.int .i64 mv)).setCell ⟨gW1, 2, none⟩ (.slice yW1o cs.length yW1c)).setCell ⟨gW1, 3, none⟩ (.int .i64 ph2)).setCell ⟨gW1, 4, none⟩ (.int .i64 nx2))) (g := gW1) (by have := ht.size; omega)) (v := .int .i64 kp) (i := 0) rfl (by go_simp) (by go_simp)) (v := .int .i64 mv) (i := 1) rfl (by go_simp) (by go_simp)) (v := .slice yW1o cs.length yW1c) (i := 2) rfl (by go_simp) (by go_simp)) (v := .int .i64 ph2) (i := 3) rfl (by go_simp) (by go_simp)) (v := .int .i64 nx2) (i := 4) rfl (by go_simp) (by go_simp))
          have HDM : D 5 := (hcl.out 6 5 (by kernel_rfl) (hcl.out 8 6 (by kernel_rfl) (hw.out 8 (by kernel_rfl))))
          exact hKK _ _ ⟨u, rfl, yC0co, yC0cc, yC0uo, yC0uc, yC0vs, yC0eo, yC0ec, yC0ro, yC0rc, yC1o, yC1c, yW0co, yW0cc, yW0uo, yW0uc, yW0vs, yW0eo, yW0ec, yW0ro, yW0rc, yW1o, yW1c, gW0, gW1, (Lib.hid (hbw.trans (hb.mono (by rw [hps]; exact Nat.le_refl _)))), (k10 U0), (k10 U1), (k10 U2), (k10 U3), (k10 U4), (k10 U5), (k10 U6), (k10 U7), (k10 U8), (k10 U9), (k10 U10), Lib.hid (fun h0 m0 => absurd (addD_mem HDM) m0), Lib.hid (fun h0 m0 => absurd (addD_mem HDM) m0), (md10 (fun d h => h.touch ht (fun g hg hm => by cases List.mem_singleton.1 hm; exact A5gW1W0.out (hw.out 10 (by kernel_rfl)) d hg)) OW0), (md10 (fun d h => Own.touchs h ht (fun g hg hm => by cases List.mem_singleton.1 hm; exact A5gW1W1.out (hw.out 10 (by kernel_rfl)) d hg)) OW1), (k10 DW0_1), (m10 (lt_grow ht.size) A2gW0), Lib.hid (fun h0 m0 => (A3gW0.out (addD_of h0 (by decide)) (fun x => m0 (addD_mem x))).touch ht (fun hm => (A6gW0gW1.out (addD_of h0 (by decide)) (hw.out 10 (by kernel_rfl))) (List.mem_singleton.1 hm))), Lib.hid (fun h0 => (A4gW0.out (addD_of h0 (by decide))).touch ht (fun hm => (A6gW0gW1.out (hcl.out 11 9 (by kernel_rfl) (addD_of h0 (by decide))) (hw.out 10 (by kernel_rfl))) (List.mem_singleton.1 hm))), (k20 A5gW0W0), (k20 A5gW0W1), (m10 (lt_grow ht.size) A2gW1), x11, Lib.hid (fun h0 => BN), (k20 A5gW1W0), (k20 A5gW1W1), (k20 A6gW0gW1)⟩
      · rintro D u wv ⟨yC0co, yC0cc, yC0uo, yC0uc, yC0vs, yC0eo, yC0ec, yC0ro, yC0rc, yC1o, yC1c, yW0co, yW0cc, yW0uo, yW0uc, yW0vs, yW0eo, yW0ec, yW0ro, yW0rc, yW1o, yW1c, gW0, gW1, HBW, U0, U1, U2, U3, U4, U5, U6, U7, U8, U9, U10, OC0, OC1, OW0, OW1, DW0_1, A2gW0, A3gW0, A4gW0, A5gW0W0, A5gW0W1, A2gW1, A3gW1, A4gW1, A5gW1W0, A5gW1W1, A6gW0gW1⟩ hall
        have d0 := hall 0 (by show 0 < 13; decide)
        have d1 := hall 1 (by show 1 < 13; decide)
        have d2 := hall 2 (by show 2 < 13; decide)
        have d3 := hall 3 (by show 3 < 13; decide)
        have d4 := hall 4 (by show 4 < 13; decide)
        have d5 := hall 5 (by show 5 < 13; decide)
        have d6 := hall 6 (by show 6 < 13; decide)
        have d7 := hall 7 (by show 7 < 13; decide)
        have d8 := hall 8 (by show 8 < 13; decide)
        have d9 := hall 9 (by show 9 < 13; decide)
        have d10 := hall 10 (by show 10 < 13; decide)
        have d11 := hall 11 (by show 11 < 13; decide)
        have d12 := hall 12 (by show 12 < 13; decide)
        have ha1 := ha0.out; subst ha1
        simp only [frAll, frTo, List.setIfInBounds_toArray, List.set_cons_succ, List.set_cons_zero]
        go_wp2_with fail
        go_meet
        exact ⟨yW0co, yW0cc, yW0uo, yW0uc, yW0vs, yW0eo, yW0ec, yW0ro, yW0rc, yW1o, yW1c, gW0, gW1, (U9.out d9), (U10.out d10), (A4gW0.out d11), (A4gW1.out d12), (OW0.out d5), (OW1.out d5), (A5gW0W0.out d9 d5), (A5gW0W1.out d9 d5), (A5gW1W0.out d10 d5), (A5gW1W1.out d10 d5), (DW0_1.out d5), (A2gW0.out d9).1, (A2gW1.out d10).1, HBW.out⟩
  obtain ⟨yW0co, yW0cc, yW0uo, yW0uc, yW0vs, yW0eo, yW0ec, yW0ro, yW0rc, yW1o, yW1c, gW0, gW1, rfl, rfl, BW0, BW1, OW0, OW1, NW0_W0, NW0_W1, NW1_W0, NW1_W1, DW0_1, hloW0, hloW1, hb⟩ := hcut
  obtain ⟨w2, rfl⟩ : ∃ x, x = wc := ⟨_, rfl⟩
  clear xP0 cP00 fP00 cP01 fP01 cP02 fP02 cP03 fP03 cP04 fP04
  clear xP1 cP10 fP10 cP11 fP11 cP12 fP12 cP13 fP13 cP14 fP14
  replace BP0 := Lib.hid (BP0.out.below hb)
  replace BP1 := Lib.hid (BP1.out.below hb)
  replace HA0 := Lib.hid (HA0.out.below hb)
  replace HA1 := Lib.hid (HA1.out.below hb)
  replace HT := Lib.hid (HT.out.trans (hb.mono HT.out.size))
  have zwC := hb.size; (try simp only [World.size_alloc] at zwC); clear hb; obtain ⟨wC, rfl⟩ : ∃ x, x = w2 := ⟨_, rfl⟩
  have hgtW0 := BW0.lt; replace BW0 := Lib.hid BW0
  have hgtW1 := BW1.lt; replace BW1 := Lib.hid BW1
  have LW0 := Lib.hid (OW0.lts); replace OW0 := Lib.hid OW0
  have LW1 := Lib.hid (Own.lts OW1); replace OW1 := Lib.hid OW1
  replace NW0_W0 := Lib.hid NW0_W0
  replace NW0_W1 := Lib.hid NW0_W1
  replace NW1_W0 := Lib.hid NW1_W0
  replace NW1_W1 := Lib.hid NW1_W1
  replace DW0_1 := Lib.hid DW0_1
  have cP00 := (BP0.out.cells 0 _ rfl).1; have fP00 := (BP0.out.cells 0 _ rfl).2
  have cP01 := (BP0.out.cells 1 _ rfl).1; have fP01 := (BP0.out.cells 1 _ rfl).2
  have cP02 := (BP0.out.cells 2 _ rfl).1; have fP02 := (BP0.out.cells 2 _ rfl).2
  have cP03 := (BP0.out.cells 3 _ rfl).1; have fP03 := (BP0.out.cells 3 _ rfl).2
  have cP04 := (BP0.out.cells 4 _ rfl).1; have fP04 := (BP0.out.cells 4 _ rfl).2
  have xP0 := BP0.out.lt
  go_wp2_with fail
  refine (l_toKernel x K (by omega) _ HA0.out).mono ?_; rintro e w2 ⟨yX0, rfl, OX0, hb⟩
  clear xP0 cP00 fP00 cP01 fP01 cP02 fP02 cP03 fP03 cP04 fP04
  obtain ⟨yX0co, yX0cc, yX0uo, yX0uc, yX0vs, yX0eo, yX0ec, yX0ro, yX0rc, rfl⟩ := KOwn.shapes OX0
  have LX0 := Lib.hid (OX0.lts); replace OX0 := Lib.hid OX0
  replace BP0 := Lib.hid (BP0.out.below hb)
  replace BP1 := Lib.hid (BP1.out.below hb)
  replace BW0 := Lib.hid (BW0.out.below hb)
  replace BW1 := Lib.hid (BW1.out.below hb)
  replace OW0 := Lib.hid (OW0.out.below hb)
  replace OW1 := Lib.hid (Own.below OW1.out hb)
  replace HA0 := Lib.hid (HA0.out.below hb)
  replace HA1 := Lib.hid (HA1.out.below hb)
  replace HT := Lib.hid (HT.out.trans (hb.mono HT.out.size))
  have zwD := hb.size; (try simp only [World.size_alloc] at zwD); clear hb; obtain ⟨wD, rfl⟩ : ∃ x, x = w2 := ⟨_, rfl⟩
  simp only [KV.val]
  replace BP0 := Lib.hid (BP0.out.below ((Below.refl _ wD).alloc (Nat.le_refl _) (.cells #[.slice yX0co yX0vs.length yX0cc, .slice yX0uo K.m.f.used.length yX0uc, .slice yX0eo K.m.ents.length yX0ec, .int .i64 (K.calls), .slice yX0ro K.refuse.length yX0rc] 46)))
  replace BP1 := Lib.hid (BP1.out.below ((Below.refl _ wD).alloc (Nat.le_refl _) (.cells #[.slice yX0co yX0vs.length yX0cc, .slice yX0uo K.m.f.used.length yX0uc, .slice yX0eo K.m.ents.length yX0ec, .int .i64 (K.calls), .slice yX0ro K.refuse.length yX0rc] 46)))
  replace BW0 := Lib.hid (BW0.out.below ((Below.refl _ wD).alloc (Nat.le_refl _) (.cells #[.slice yX0co yX0vs.length yX0cc, .slice yX0uo K.m.f.used.length yX0uc, .slice yX0eo K.m.ents.length yX0ec, .int .i64 (K.calls), .slice yX0ro K.refuse.length yX0rc] 46)))
  replace BW1 := Lib.hid (BW1.out.below ((Below.refl _ wD).alloc (Nat.le_refl _) (.cells #[.slice yX0co yX0vs.length yX0cc, .slice yX0uo K.m.f.used.length yX0uc, .slice yX0eo K.m.ents.length yX0ec, .int .i64 (K.calls), .slice yX0ro K.refuse.length yX0rc] 46)))
  replace OW0 := Lib.hid (OW0.out.below ((Below.refl _ wD).alloc (Nat.le_refl _) (.cells #[.slice yX0co yX0vs.length yX0cc, .slice yX0uo K.m.f.used.length yX0uc, .slice yX0eo K.m.ents.length yX0ec, .int .i64 (K.calls), .slice yX0ro K.refuse.length yX0rc] 46)))
  replace OW1 := Lib.hid (Own.below OW1.out ((Below.refl _ wD).alloc (Nat.le_refl _) (.cells #[.slice yX0co yX0vs.length yX0cc, .slice yX0uo K.m.f.used.length yX0uc, .slice yX0eo K.m.ents.length yX0ec, .int .i64 (K.calls), .slice yX0ro K.refuse.length yX0rc] 46)))
  replace OX0 := Lib.hid (OX0.out.below ((Below.refl _ wD).alloc (Nat.le_refl _) (.cells #[.slice yX0co yX0vs.length yX0cc, .slice yX0uo K.m.f.used.length yX0uc, .slice yX0eo K.m.ents.length yX0ec, .int .i64 (K.calls), .slice yX0ro K.refuse.length yX0rc] 46)))
  replace HA0 := Lib.hid (HA0.out.below ((Below.refl _ wD).alloc (Nat.le_refl _) (.cells #[.slice yX0co yX0vs.length yX0cc, .slice yX0uo K.m.f.used.length yX0uc, .slice yX0eo K.m.ents.length yX0ec, .int .i64 (K.calls), .slice yX0ro K.refuse.length yX0rc] 46)))
  replace HA1 := Lib.hid (HA1.out.below ((Below.refl _ wD).alloc (Nat.le_refl _) (.cells #[.slice yX0co yX0vs.length yX0cc, .slice yX0uo K.m.f.used.length yX0uc, .slice yX0eo K.m.ents.length yX0ec, .int .i64 (K.calls), .slice yX0ro K.refuse.length yX0rc] 46)))
  replace HT := Lib.hid (HT.out.trans (((Below.refl _ wD).alloc (Nat.le_refl _) (.cells #[.slice yX0co yX0vs.length yX0cc, .slice yX0uo K.m.f.used.length yX0uc, .slice yX0eo K.m.ents.length yX0ec, .int .i64 (K.calls), .slice yX0ro K.refuse.length yX0rc] 46)).mono HT.out.size))
  have BX0 : Hid (BoxAt (wD.alloc (.cells #[.slice yX0co yX0vs.length yX0cc, .slice yX0uo K.m.f.used.length yX0uc, .slice yX0eo K.m.ents.length yX0ec, .int .i64 (K.calls), .slice yX0ro K.refuse.length yX0rc] 46)) (wD.heap.size) [.slice yX0co yX0vs.length yX0cc, .slice yX0uo K.m.f.used.length yX0uc, .slice yX0eo K.m.ents.length yX0ec, .int .i64 (K.calls), .slice yX0ro K.refuse.length yX0rc]) := (BoxAt.snoc (BoxAt.snoc (BoxAt.snoc (BoxAt.snoc (BoxAt.snoc (BoxAt.nil (w := wD.alloc (.cells #[.slice yX0co yX0vs.length yX0cc, .slice yX0uo K.m.f.used.length yX0uc, .slice yX0eo K.m.ents.length yX0ec, .int .i64 (K.calls), .slice yX0ro K.refuse.length yX0rc] 46)) (g := wD.heap.size) (by go_simp)) (v := .slice yX0co yX0vs.length yX0cc) (i := 0) rfl (by go_simp) (by go_simp)) (v := .slice yX0uo K.m.f.used.length yX0uc) (i := 1) rfl (by go_simp) (by go_simp)) (v := .slice yX0eo K.m.ents.length yX0ec) (i := 2) rfl (by go_simp) (by go_simp)) (v := .int .i64 (K.calls)) (i := 3) rfl (by go_simp) (by go_simp)) (v := .slice yX0ro K.refuse.length yX0rc) (i := 4) rfl (by go_simp) (by go_simp))
  have cP10 := (BP1.out.cells 0 _ rfl).1; have fP10 := (BP1.out.cells 0 _ rfl).2
  have cP11 := (BP1.out.cells 1 _ rfl).1; have fP11 := (BP1.out.cells 1 _ rfl).2
  have cP12 := (BP1.out.cells 2 _ rfl).1; have fP12 := (BP1.out.cells 2 _ rfl).2
  have cP13 := (BP1.out.cells 3 _ rfl).1; have fP13 := (BP1.out.cells 3 _ rfl).2
  have cP14 := (BP1.out.cells 4 _ rfl).1; have fP14 := (BP1.out.cells 4 _ rfl).2
  have xP1 := BP1.out.lt
  go_wp2_with fail
  refine (l_toJob kp mv c cs ph nx (by omega) _ HA1.out).mono ?_; rintro e w2 ⟨vX1, rfl, OX1, hb⟩
  clear xP1 cP10 fP10 cP11 fP11 cP12 fP12 cP13 fP13 cP14 fP14
  obtain ⟨yX1o, yX1c, rfl, -, -⟩ := OX1.shape
  have LX1 := Lib.hid (Own.lts OX1); replace OX1 := Lib.hid OX1
  replace BP0 := Lib.hid (BP0.out.below hb)
  replace BP1 := Lib.hid (BP1.out.below hb)
  replace BW0 := Lib.hid (BW0.out.below hb)
  replace BW1 := Lib.hid (BW1.out.below hb)
  replace BX0 := Lib.hid (BX0.out.below hb)
  replace OW0 := Lib.hid (OW0.out.below hb)
  replace OW1 := Lib.hid (Own.below OW1.out hb)
  replace OX0 := Lib.hid (OX0.out.below hb)
  replace HA0 := Lib.hid (HA0.out.below hb)
  replace HA1 := Lib.hid (HA1.out.below hb)
  replace HT := Lib.hid (HT.out.trans (hb.mono HT.out.size))
  have zwE := hb.size; (try simp only [World.size_alloc] at zwE); clear hb; obtain ⟨wE, rfl⟩ : ∃ x, x = w2 := ⟨_, rfl⟩
  skip
  replace BP0 := Lib.hid (BP0.out.below ((Below.refl _ wE).alloc (Nat.le_refl _) (.cells #[.int .i64 kp, .int .i64 mv, .slice yX1o cs.length yX1c, .int .i64 ph, .int .i64 nx] 68)))
  replace BP1 := Lib.hid (BP1.out.below ((Below.refl _ wE).alloc (Nat.le_refl _) (.cells #[.int .i64 kp, .int .i64 mv, .slice yX1o cs.length yX1c, .int .i64 ph, .int .i64 nx] 68)))
  replace BW0 := Lib.hid (BW0.out.below ((Below.refl _ wE).alloc (Nat.le_refl _) (.cells #[.int .i64 kp, .int .i64 mv, .slice yX1o cs.length yX1c, .int .i64 ph, .int .i64 nx] 68)))
  replace BW1 := Lib.hid (BW1.out.below ((Below.refl _ wE).alloc (Nat.le_refl _) (.cells #[.int .i64 kp, .int .i64 mv, .slice yX1o cs.length yX1c, .int .i64 ph, .int .i64 nx] 68)))
  replace BX0 := Lib.hid (BX0.out.below ((Below.refl _ wE).alloc (Nat.le_refl _) (.cells #[.int .i64 kp, .int .i64 mv, .slice yX1o cs.length yX1c, .int .i64 ph, .int .i64 nx] 68)))
  replace OW0 := Lib.hid (OW0.out.below ((Below.refl _ wE).alloc (Nat.le_refl _) (.cells #[.int .i64 kp, .int .i64 mv, .slice yX1o cs.length yX1c, .int .i64 ph, .int .i64 nx] 68)))
  replace OW1 := Lib.hid (Own.below OW1.out ((Below.refl _ wE).alloc (Nat.le_refl _) (.cells #[.int .i64 kp, .int .i64 mv, .slice yX1o cs.length yX1c, .int .i64 ph, .int .i64 nx] 68)))
  replace OX0 := Lib.hid (OX0.out.below ((Below.refl _ wE).alloc (Nat.le_refl _) (.cells #[.int .i64 kp, .int .i64 mv, .slice yX1o cs.length yX1c, .int .i64 ph, .int .i64 nx] 68)))
  replace OX1 := Lib.hid (Own.below OX1.out ((Below.refl _ wE).alloc (Nat.le_refl _) (.cells #[.int .i64 kp, .int .i64 mv, .slice yX1o cs.length yX1c, .int .i64 ph, .int .i64 nx] 68)))
  replace HA0 := Lib.hid (HA0.out.below ((Below.refl _ wE).alloc (Nat.le_refl _) (.cells #[.int .i64 kp, .int .i64 mv, .slice yX1o cs.length yX1c, .int .i64 ph, .int .i64 nx] 68)))
  replace HA1 := Lib.hid (HA1.out.below ((Below.refl _ wE).alloc (Nat.le_refl _) (.cells #[.int .i64 kp, .int .i64 mv, .slice yX1o cs.length yX1c, .int .i64 ph, .int .i64 nx] 68)))
  replace HT := Lib.hid (HT.out.trans (((Below.refl _ wE).alloc (Nat.le_refl _) (.cells #[.int .i64 kp, .int .i64 mv, .slice yX1o cs.length yX1c, .int .i64 ph, .int .i64 nx] 68)).mono HT.out.size))
  have BX1 : Hid (BoxAt (wE.alloc (.cells #[.int .i64 kp, .int .i64 mv, .slice yX1o cs.length yX1c, .int .i64 ph, .int .i64 nx] 68)) (wE.heap.size) [.int .i64 kp, .int .i64 mv, .slice yX1o cs.length yX1c, .int .i64 ph, .int .i64 nx]) := (BoxAt.snoc (BoxAt.snoc (BoxAt.snoc (BoxAt.snoc (BoxAt.snoc (BoxAt.nil (w := wE.alloc (.cells #[.int .i64 kp, .int .i64 mv, .slice yX1o cs.length yX1c, .int .i64 ph, .int .i64 nx] 68)) (g := wE.heap.size) (by go_simp)) (v := .int .i64 kp) (i := 0) rfl (by go_simp) (by go_simp)) (v := .int .i64 mv) (i := 1) rfl (by go_simp) (by go_simp)) (v := .slice yX1o cs.length yX1c) (i := 2) rfl (by go_simp) (by go_simp)) (v := .int .i64 ph) (i := 3) rfl (by go_simp) (by go_simp)) (v := .int .i64 nx) (i := 4) rfl (by go_simp) (by go_simp))
  have cX00 := (BX0.out.cells 0 _ rfl).1; have fX00 := (BX0.out.cells 0 _ rfl).2
  have cX01 := (BX0.out.cells 1 _ rfl).1; have fX01 := (BX0.out.cells 1 _ rfl).2
  have cX02 := (BX0.out.cells 2 _ rfl).1; have fX02 := (BX0.out.cells 2 _ rfl).2
  have cX03 := (BX0.out.cells 3 _ rfl).1; have fX03 := (BX0.out.cells 3 _ rfl).2
  have cX04 := (BX0.out.cells 4 _ rfl).1; have fX04 := (BX0.out.cells 4 _ rfl).2
  have xX0 := BX0.out.lt
  have cX10 := (BX1.out.cells 0 _ rfl).1; have fX10 := (BX1.out.cells 0 _ rfl).2
  have cX11 := (BX1.out.cells 1 _ rfl).1; have fX11 := (BX1.out.cells 1 _ rfl).2
  have cX12 := (BX1.out.cells 2 _ rfl).1; have fX12 := (BX1.out.cells 2 _ rfl).2
  have cX13 := (BX1.out.cells 3 _ rfl).1; have fX13 := (BX1.out.cells 3 _ rfl).2
  have cX14 := (BX1.out.cells 4 _ rfl).1; have fX14 := (BX1.out.cells 4 _ rfl).2
  have xX1 := BX1.out.lt
  go_wp2_with fail
  refine (HI.out _ _ _ (KOwn.at OX0.out) (Own.at OX1.out lenInt)).mono ?_; rintro e w2 ⟨yG0, vG1, rfl, OG0, OG1, DG0_1, hb⟩
  clear xX0 cX00 fX00 cX01 fX01 cX02 fX02 cX03 fX03 cX04 fX04
  clear xX1 cX10 fX10 cX11 fX11 cX12 fX12 cX13 fX13 cX14 fX14
  obtain ⟨yG0co, yG0cc, yG0uo, yG0uc, yG0vs, yG0eo, yG0ec, yG0ro, yG0rc, rfl⟩ := KOwn.shapes OG0
  have LG0 := Lib.hid (OG0.lts); replace OG0 := Lib.hid OG0
  obtain ⟨yG1o, yG1c, rfl, -, -⟩ := OG1.shape
  have LG1 := Lib.hid (Own.lts OG1); replace OG1 := Lib.hid OG1
  replace DG0_1 := Lib.hid DG0_1
  replace BP0 := Lib.hid (BP0.out.below hb)
  replace BP1 := Lib.hid (BP1.out.below hb)
  replace BW0 := Lib.hid (BW0.out.below hb)
  replace BW1 := Lib.hid (BW1.out.below hb)
  replace BX0 := Lib.hid (BX0.out.below hb)
  replace BX1 := Lib.hid (BX1.out.below hb)
  replace OW0 := Lib.hid (OW0.out.below hb)
  replace OW1 := Lib.hid (Own.below OW1.out hb)
  replace OX0 := Lib.hid (OX0.out.below hb)
  replace OX1 := Lib.hid (Own.below OX1.out hb)
  replace HA0 := Lib.hid (HA0.out.below hb)
  replace HA1 := Lib.hid (HA1.out.below hb)
  replace HT := Lib.hid (HT.out.trans (hb.mono HT.out.size))
  have zwF := hb.size; (try simp only [World.size_alloc] at zwF); clear hb; obtain ⟨wF, rfl⟩ : ∃ x, x = w2 := ⟨_, rfl⟩
  simp only [KV.val]
  replace BP0 := Lib.hid (BP0.out.below ((Below.refl _ wF).alloc (Nat.le_refl _) (.cells #[.slice yG0co yG0vs.length yG0cc, .slice yG0uo K2.m.f.used.length yG0uc, .slice yG0eo K2.m.ents.length yG0ec, .int .i64 (K2.calls), .slice yG0ro K2.refuse.length yG0rc] 46)))
  replace BP1 := Lib.hid (BP1.out.below ((Below.refl _ wF).alloc (Nat.le_refl _) (.cells #[.slice yG0co yG0vs.length yG0cc, .slice yG0uo K2.m.f.used.length yG0uc, .slice yG0eo K2.m.ents.length yG0ec, .int .i64 (K2.calls), .slice yG0ro K2.refuse.length yG0rc] 46)))
  replace BW0 := Lib.hid (BW0.out.below ((Below.refl _ wF).alloc (Nat.le_refl _) (.cells #[.slice yG0co yG0vs.length yG0cc, .slice yG0uo K2.m.f.used.length yG0uc, .slice yG0eo K2.m.ents.length yG0ec, .int .i64 (K2.calls), .slice yG0ro K2.refuse.length yG0rc] 46)))
  replace BW1 := Lib.hid (BW1.out.below ((Below.refl _ wF).alloc (Nat.le_refl _) (.cells #[.slice yG0co yG0vs.length yG0cc, .slice yG0uo K2.m.f.used.length yG0uc, .slice yG0eo K2.m.ents.length yG0ec, .int .i64 (K2.calls), .slice yG0ro K2.refuse.length yG0rc] 46)))
  replace BX0 := Lib.hid (BX0.out.below ((Below.refl _ wF).alloc (Nat.le_refl _) (.cells #[.slice yG0co yG0vs.length yG0cc, .slice yG0uo K2.m.f.used.length yG0uc, .slice yG0eo K2.m.ents.length yG0ec, .int .i64 (K2.calls), .slice yG0ro K2.refuse.length yG0rc] 46)))
  replace BX1 := Lib.hid (BX1.out.below ((Below.refl _ wF).alloc (Nat.le_refl _) (.cells #[.slice yG0co yG0vs.length yG0cc, .slice yG0uo K2.m.f.used.length yG0uc, .slice yG0eo K2.m.ents.length yG0ec, .int .i64 (K2.calls), .slice yG0ro K2.refuse.length yG0rc] 46)))
  replace OW0 := Lib.hid (OW0.out.below ((Below.refl _ wF).alloc (Nat.le_refl _) (.cells #[.slice yG0co yG0vs.length yG0cc, .slice yG0uo K2.m.f.used.length yG0uc, .slice yG0eo K2.m.ents.length yG0ec, .int .i64 (K2.calls), .slice yG0ro K2.refuse.length yG0rc] 46)))
  replace OW1 := Lib.hid (Own.below OW1.out ((Below.refl _ wF).alloc (Nat.le_refl _) (.cells #[.slice yG0co yG0vs.length yG0cc, .slice yG0uo K2.m.f.used.length yG0uc, .slice yG0eo K2.m.ents.length yG0ec, .int .i64 (K2.calls), .slice yG0ro K2.refuse.length yG0rc] 46)))
  replace OX0 := Lib.hid (OX0.out.below ((Below.refl _ wF).alloc (Nat.le_refl _) (.cells #[.slice yG0co yG0vs.length yG0cc, .slice yG0uo K2.m.f.used.length yG0uc, .slice yG0eo K2.m.ents.length yG0ec, .int .i64 (K2.calls), .slice yG0ro K2.refuse.length yG0rc] 46)))
  replace OX1 := Lib.hid (Own.below OX1.out ((Below.refl _ wF).alloc (Nat.le_refl _) (.cells #[.slice yG0co yG0vs.length yG0cc, .slice yG0uo K2.m.f.used.length yG0uc, .slice yG0eo K2.m.ents.length yG0ec, .int .i64 (K2.calls), .slice yG0ro K2.refuse.length yG0rc] 46)))
  replace OG0 := Lib.hid (OG0.out.below ((Below.refl _ wF).alloc (Nat.le_refl _) (.cells #[.slice yG0co yG0vs.length yG0cc, .slice yG0uo K2.m.f.used.length yG0uc, .slice yG0eo K2.m.ents.length yG0ec, .int .i64 (K2.calls), .slice yG0ro K2.refuse.length yG0rc] 46)))
  replace OG1 := Lib.hid (Own.below OG1.out ((Below.refl _ wF).alloc (Nat.le_refl _) (.cells #[.slice yG0co yG0vs.length yG0cc, .slice yG0uo K2.m.f.used.length yG0uc, .slice yG0eo K2.m.ents.length yG0ec, .int .i64 (K2.calls), .slice yG0ro K2.refuse.length yG0rc] 46)))
  replace HA0 := Lib.hid (HA0.out.below ((Below.refl _ wF).alloc (Nat.le_refl _) (.cells #[.slice yG0co yG0vs.length yG0cc, .slice yG0uo K2.m.f.used.length yG0uc, .slice yG0eo K2.m.ents.length yG0ec, .int .i64 (K2.calls), .slice yG0ro K2.refuse.length yG0rc] 46)))
  replace HA1 := Lib.hid (HA1.out.below ((Below.refl _ wF).alloc (Nat.le_refl _) (.cells #[.slice yG0co yG0vs.length yG0cc, .slice yG0uo K2.m.f.used.length yG0uc, .slice yG0eo K2.m.ents.length yG0ec, .int .i64 (K2.calls), .slice yG0ro K2.refuse.length yG0rc] 46)))
  replace HT := Lib.hid (HT.out.trans (((Below.refl _ wF).alloc (Nat.le_refl _) (.cells #[.slice yG0co yG0vs.length yG0cc, .slice yG0uo K2.m.f.used.length yG0uc, .slice yG0eo K2.m.ents.length yG0ec, .int .i64 (K2.calls), .slice yG0ro K2.refuse.length yG0rc] 46)).mono HT.out.size))
  have BG0 : Hid (BoxAt (wF.alloc (.cells #[.slice yG0co yG0vs.length yG0cc, .slice yG0uo K2.m.f.used.length yG0uc, .slice yG0eo K2.m.ents.length yG0ec, .int .i64 (K2.calls), .slice yG0ro K2.refuse.length yG0rc] 46)) (wF.heap.size) [.slice yG0co yG0vs.length yG0cc, .slice yG0uo K2.m.f.used.length yG0uc, .slice yG0eo K2.m.ents.length yG0ec, .int .i64 (K2.calls), .slice yG0ro K2.refuse.length yG0rc]) := (BoxAt.snoc (BoxAt.snoc (BoxAt.snoc (BoxAt.snoc (BoxAt.snoc (BoxAt.nil (w := wF.alloc (.cells #[.slice yG0co yG0vs.length yG0cc, .slice yG0uo K2.m.f.used.length yG0uc, .slice yG0eo K2.m.ents.length yG0ec, .int .i64 (K2.calls), .slice yG0ro K2.refuse.length yG0rc] 46)) (g := wF.heap.size) (by go_simp)) (v := .slice yG0co yG0vs.length yG0cc) (i := 0) rfl (by go_simp) (by go_simp)) (v := .slice yG0uo K2.m.f.used.length yG0uc) (i := 1) rfl (by go_simp) (by go_simp)) (v := .slice yG0eo K2.m.ents.length yG0ec) (i := 2) rfl (by go_simp) (by go_simp)) (v := .int .i64 (K2.calls)) (i := 3) rfl (by go_simp) (by go_simp)) (v := .slice yG0ro K2.refuse.length yG0rc) (i := 4) rfl (by go_simp) (by go_simp))
  replace BP0 := Lib.hid (BP0.out.below ((Below.refl _ (wF.alloc (.cells #[.slice yG0co yG0vs.length yG0cc, .slice yG0uo K2.m.f.used.length yG0uc, .slice yG0eo K2.m.ents.length yG0ec, .int .i64 (K2.calls), .slice yG0ro K2.refuse.length yG0rc] 46))).alloc (Nat.le_refl _) (.cells #[.int .i64 kp, .int .i64 mv, .slice yG1o cs.length yG1c, .int .i64 ph2, .int .i64 nx2] 68)))
  replace BP1 := Lib.hid (BP1.out.below ((Below.refl _ (wF.alloc (.cells #[.slice yG0co yG0vs.length yG0cc, .slice yG0uo K2.m.f.used.length yG0uc, .slice yG0eo K2.m.ents.length yG0ec, .int .i64 (K2.calls), .slice yG0ro K2.refuse.length yG0rc] 46))).alloc (Nat.le_refl _) (.cells #[.int .i64 kp, .int .i64 mv, .slice yG1o cs.length yG1c, .int .i64 ph2, .int .i64 nx2] 68)))
  replace BW0 := Lib.hid (BW0.out.below ((Below.refl _ (wF.alloc (.cells #[.slice yG0co yG0vs.length yG0cc, .slice yG0uo K2.m.f.used.length yG0uc, .slice yG0eo K2.m.ents.length yG0ec, .int .i64 (K2.calls), .slice yG0ro K2.refuse.length yG0rc] 46))).alloc (Nat.le_refl _) (.cells #[.int .i64 kp, .int .i64 mv, .slice yG1o cs.length yG1c, .int .i64 ph2, .int .i64 nx2] 68)))
  replace BW1 := Lib.hid (BW1.out.below ((Below.refl _ (wF.alloc (.cells #[.slice yG0co yG0vs.length yG0cc, .slice yG0uo K2.m.f.used.length yG0uc, .slice yG0eo K2.m.ents.length yG0ec, .int .i64 (K2.calls), .slice yG0ro K2.refuse.length yG0rc] 46))).alloc (Nat.le_refl _) (.cells #[.int .i64 kp, .int .i64 mv, .slice yG1o cs.length yG1c, .int .i64 ph2, .int .i64 nx2] 68)))
  replace BX0 := Lib.hid (BX0.out.below ((Below.refl _ (wF.alloc (.cells #[.slice yG0co yG0vs.length yG0cc, .slice yG0uo K2.m.f.used.length yG0uc, .slice yG0eo K2.m.ents.length yG0ec, .int .i64 (K2.calls), .slice yG0ro K2.refuse.length yG0rc] 46))).alloc (Nat.le_refl _) (.cells #[.int .i64 kp, .int .i64 mv, .slice yG1o cs.length yG1c, .int .i64 ph2, .int .i64 nx2] 68)))
  replace BX1 := Lib.hid (BX1.out.below ((Below.refl _ (wF.alloc (.cells #[.slice yG0co yG0vs.length yG0cc, .slice yG0uo K2.m.f.used.length yG0uc, .slice yG0eo K2.m.ents.length yG0ec, .int .i64 (K2.calls), .slice yG0ro K2.refuse.length yG0rc] 46))).alloc (Nat.le_refl _) (.cells #[.int .i64 kp, .int .i64 mv, .slice yG1o cs.length yG1c, .int .i64 ph2, .int .i64 nx2] 68)))
  replace BG0 := Lib.hid (BG0.out.below ((Below.refl _ (wF.alloc (.cells #[.slice yG0co yG0vs.length yG0cc, .slice yG0uo K2.m.f.used.length yG0uc, .slice yG0eo K2.m.ents.length yG0ec, .int .i64 (K2.calls), .slice yG0ro K2.refuse.length yG0rc] 46))).alloc (Nat.le_refl _) (.cells #[.int .i64 kp, .int .i64 mv, .slice yG1o cs.length yG1c, .int .i64 ph2, .int .i64 nx2] 68)))
  replace OW0 := Lib.hid (OW0.out.below ((Below.refl _ (wF.alloc (.cells #[.slice yG0co yG0vs.length yG0cc, .slice yG0uo K2.m.f.used.length yG0uc, .slice yG0eo K2.m.ents.length yG0ec, .int .i64 (K2.calls), .slice yG0ro K2.refuse.length yG0rc] 46))).alloc (Nat.le_refl _) (.cells #[.int .i64 kp, .int .i64 mv, .slice yG1o cs.length yG1c, .int .i64 ph2, .int .i64 nx2] 68)))
  replace OW1 := Lib.hid (Own.below OW1.out ((Below.refl _ (wF.alloc (.cells #[.slice yG0co yG0vs.length yG0cc, .slice yG0uo K2.m.f.used.length yG0uc, .slice yG0eo K2.m.ents.length yG0ec, .int .i64 (K2.calls), .slice yG0ro K2.refuse.length yG0rc] 46))).alloc (Nat.le_refl _) (.cells #[.int .i64 kp, .int .i64 mv, .slice yG1o cs.length yG1c, .int .i64 ph2, .int .i64 nx2] 68)))
  replace OX0 := Lib.hid (OX0.out.below ((Below.refl _ (wF.alloc (.cells #[.slice yG0co yG0vs.length yG0cc, .slice yG0uo K2.m.f.used.length yG0uc, .slice yG0eo K2.m.ents.length yG0ec, .int .i64 (K2.calls), .slice yG0ro K2.refuse.length yG0rc] 46))).alloc (Nat.le_refl _) (.cells #[.int .i64 kp, .int .i64 mv, .slice yG1o cs.length yG1c, .int .i64 ph2, .int .i64 nx2] 68)))
  replace OX1 := Lib.hid (Own.below OX1.out ((Below.refl _ (wF.alloc (.cells #[.slice yG0co yG0vs.length yG0cc, .slice yG0uo K2.m.f.used.length yG0uc, .slice yG0eo K2.m.ents.length yG0ec, .int .i64 (K2.calls), .slice yG0ro K2.refuse.length yG0rc] 46))).alloc (Nat.le_refl _) (.cells #[.int .i64 kp, .int .i64 mv, .slice yG1o cs.length yG1c, .int .i64 ph2, .int .i64 nx2] 68)))
  replace OG0 := Lib.hid (OG0.out.below ((Below.refl _ (wF.alloc (.cells #[.slice yG0co yG0vs.length yG0cc, .slice yG0uo K2.m.f.used.length yG0uc, .slice yG0eo K2.m.ents.length yG0ec, .int .i64 (K2.calls), .slice yG0ro K2.refuse.length yG0rc] 46))).alloc (Nat.le_refl _) (.cells #[.int .i64 kp, .int .i64 mv, .slice yG1o cs.length yG1c, .int .i64 ph2, .int .i64 nx2] 68)))
  replace OG1 := Lib.hid (Own.below OG1.out ((Below.refl _ (wF.alloc (.cells #[.slice yG0co yG0vs.length yG0cc, .slice yG0uo K2.m.f.used.length yG0uc, .slice yG0eo K2.m.ents.length yG0ec, .int .i64 (K2.calls), .slice yG0ro K2.refuse.length yG0rc] 46))).alloc (Nat.le_refl _) (.cells #[.int .i64 kp, .int .i64 mv, .slice yG1o cs.length yG1c, .int .i64 ph2, .int .i64 nx2] 68)))
  replace HA0 := Lib.hid (HA0.out.below ((Below.refl _ (wF.alloc (.cells #[.slice yG0co yG0vs.length yG0cc, .slice yG0uo K2.m.f.used.length yG0uc, .slice yG0eo K2.m.ents.length yG0ec, .int .i64 (K2.calls), .slice yG0ro K2.refuse.length yG0rc] 46))).alloc (Nat.le_refl _) (.cells #[.int .i64 kp, .int .i64 mv, .slice yG1o cs.length yG1c, .int .i64 ph2, .int .i64 nx2] 68)))
  replace HA1 := Lib.hid (HA1.out.below ((Below.refl _ (wF.alloc (.cells #[.slice yG0co yG0vs.length yG0cc, .slice yG0uo K2.m.f.used.length yG0uc, .slice yG0eo K2.m.ents.length yG0ec, .int .i64 (K2.calls), .slice yG0ro K2.refuse.length yG0rc] 46))).alloc (Nat.le_refl _) (.cells #[.int .i64 kp, .int .i64 mv, .slice yG1o cs.length yG1c, .int .i64 ph2, .int .i64 nx2] 68)))
  replace HT := Lib.hid (HT.out.trans (((Below.refl _ (wF.alloc (.cells #[.slice yG0co yG0vs.length yG0cc, .slice yG0uo K2.m.f.used.length yG0uc, .slice yG0eo K2.m.ents.length yG0ec, .int .i64 (K2.calls), .slice yG0ro K2.refuse.length yG0rc] 46))).alloc (Nat.le_refl _) (.cells #[.int .i64 kp, .int .i64 mv, .slice yG1o cs.length yG1c, .int .i64 ph2, .int .i64 nx2] 68)).mono HT.out.size))
  have BG1 : Hid (BoxAt ((wF.alloc (.cells #[.slice yG0co yG0vs.length yG0cc, .slice yG0uo K2.m.f.used.length yG0uc, .slice yG0eo K2.m.ents.length yG0ec, .int .i64 (K2.calls), .slice yG0ro K2.refuse.length yG0rc] 46)).alloc (.cells #[.int .i64 kp, .int .i64 mv, .slice yG1o cs.length yG1c, .int .i64 ph2, .int .i64 nx2] 68)) (wF.heap.size + 1) [.int .i64 kp, .int .i64 mv, .slice yG1o cs.length yG1c, .int .i64 ph2, .int .i64 nx2]) := (BoxAt.snoc (BoxAt.snoc (BoxAt.snoc (BoxAt.snoc (BoxAt.snoc (BoxAt.nil (w := (wF.alloc (.cells #[.slice yG0co yG0vs.length yG0cc, .slice yG0uo K2.m.f.used.length yG0uc, .slice yG0eo K2.m.ents.length yG0ec, .int .i64 (K2.calls), .slice yG0ro K2.refuse.length yG0rc] 46)).alloc (.cells #[.int .i64 kp, .int .i64 mv, .slice yG1o cs.length yG1c, .int .i64 ph2, .int .i64 nx2] 68)) (g := wF.heap.size + 1) (by go_simp)) (v := .int .i64 kp) (i := 0) rfl (by go_simp) (by go_simp)) (v := .int .i64 mv) (i := 1) rfl (by go_simp) (by go_simp)) (v := .slice yG1o cs.length yG1c) (i := 2) rfl (by go_simp) (by go_simp)) (v := .int .i64 ph2) (i := 3) rfl (by go_simp) (by go_simp)) (v := .int .i64 nx2) (i := 4) rfl (by go_simp) (by go_simp))
  have cG00 := (BG0.out.cells 0 _ rfl).1; have fG00 := (BG0.out.cells 0 _ rfl).2
  have cG01 := (BG0.out.cells 1 _ rfl).1; have fG01 := (BG0.out.cells 1 _ rfl).2
  have cG02 := (BG0.out.cells 2 _ rfl).1; have fG02 := (BG0.out.cells 2 _ rfl).2
  have cG03 := (BG0.out.cells 3 _ rfl).1; have fG03 := (BG0.out.cells 3 _ rfl).2
  have cG04 := (BG0.out.cells 4 _ rfl).1; have fG04 := (BG0.out.cells 4 _ rfl).2
  have xG0 := BG0.out.lt
  have cW00 := (BW0.out.cells 0 _ rfl).1; have fW00 := (BW0.out.cells 0 _ rfl).2
  have cW01 := (BW0.out.cells 1 _ rfl).1; have fW01 := (BW0.out.cells 1 _ rfl).2
  have cW02 := (BW0.out.cells 2 _ rfl).1; have fW02 := (BW0.out.cells 2 _ rfl).2
  have cW03 := (BW0.out.cells 3 _ rfl).1; have fW03 := (BW0.out.cells 3 _ rfl).2
  have cW04 := (BW0.out.cells 4 _ rfl).1; have fW04 := (BW0.out.cells 4 _ rfl).2
  have xW0 := BW0.out.lt
  go_wp2_with fail
  refine (l_eqKernel _ _ (⟨⟨⟨.slice yG0co yG0vs.length yG0cc, .slice yG0uo K2.m.f.used.length yG0uc, yG0vs⟩, .slice yG0eo K2.m.ents.length yG0ec⟩, .slice yG0ro K2.refuse.length yG0rc⟩ : KV) (⟨⟨⟨.slice yW0co yW0vs.length yW0cc, .slice yW0uo K2.m.f.used.length yW0uc, yW0vs⟩, .slice yW0eo K2.m.ents.length yW0ec⟩, .slice yW0ro K2.refuse.length yW0rc⟩ : KV) _ _ OG0.out OW0.out).mono ?_; rintro e w2 ⟨rfl, hb⟩
  clear xG0 cG00 fG00 cG01 fG01 cG02 fG02 cG03 fG03 cG04 fG04
  clear xW0 cW00 fW00 cW01 fW01 cW02 fW02 cW03 fW03 cW04 fW04
  replace BP0 := Lib.hid (BP0.out.below hb)
  replace BP1 := Lib.hid (BP1.out.below hb)
  replace BW0 := Lib.hid (BW0.out.below hb)
  replace BW1 := Lib.hid (BW1.out.below hb)
  replace BX0 := Lib.hid (BX0.out.below hb)
  replace BX1 := Lib.hid (BX1.out.below hb)
  replace BG0 := Lib.hid (BG0.out.below hb)
  replace BG1 := Lib.hid (BG1.out.below hb)
  replace OW0 := Lib.hid (OW0.out.below hb)
  replace OW1 := Lib.hid (Own.below OW1.out hb)
  replace OX0 := Lib.hid (OX0.out.below hb)
  replace OX1 := Lib.hid (Own.below OX1.out hb)
  replace OG0 := Lib.hid (OG0.out.below hb)
  replace OG1 := Lib.hid (Own.below OG1.out hb)
  replace HA0 := Lib.hid (HA0.out.below hb)
  replace HA1 := Lib.hid (HA1.out.below hb)
  replace HT := Lib.hid (HT.out.trans (hb.mono HT.out.size))
  have zwG := hb.size; (try simp only [World.size_alloc] at zwG); clear hb; obtain ⟨wG, rfl⟩ : ∃ x, x = w2 := ⟨_, rfl⟩
  have cG10 := (BG1.out.cells 0 _ rfl).1; have fG10 := (BG1.out.cells 0 _ rfl).2
  have cG11 := (BG1.out.cells 1 _ rfl).1; have fG11 := (BG1.out.cells 1 _ rfl).2
  have cG12 := (BG1.out.cells 2 _ rfl).1; have fG12 := (BG1.out.cells 2 _ rfl).2
  have cG13 := (BG1.out.cells 3 _ rfl).1; have fG13 := (BG1.out.cells 3 _ rfl).2
  have cG14 := (BG1.out.cells 4 _ rfl).1; have fG14 := (BG1.out.cells 4 _ rfl).2
  have xG1 := BG1.out.lt
  have cW10 := (BW1.out.cells 0 _ rfl).1; have fW10 := (BW1.out.cells 0 _ rfl).2
  have cW11 := (BW1.out.cells 1 _ rfl).1; have fW11 := (BW1.out.cells 1 _ rfl).2
  have cW12 := (BW1.out.cells 2 _ rfl).1; have fW12 := (BW1.out.cells 2 _ rfl).2
  have cW13 := (BW1.out.cells 3 _ rfl).1; have fW13 := (BW1.out.cells 3 _ rfl).2
  have cW14 := (BW1.out.cells 4 _ rfl).1; have fW14 := (BW1.out.cells 4 _ rfl).2
  have xW1 := BW1.out.lt
  go_wp2_with fail
  refine (l_eqJob _ _ kp mv _ _ cs ph2 nx2 _ OG1.out OW1.out).mono ?_; rintro e w2 ⟨rfl, hb⟩
  clear xG1 cG10 fG10 cG11 fG11 cG12 fG12 cG13 fG13 cG14 fG14
  clear xW1 cW10 fW10 cW11 fW11 cW12 fW12 cW13 fW13 cW14 fW14
  replace BP0 := Lib.hid (BP0.out.below hb)
  replace BP1 := Lib.hid (BP1.out.below hb)
  replace BW0 := Lib.hid (BW0.out.below hb)
  replace BW1 := Lib.hid (BW1.out.below hb)
  replace BX0 := Lib.hid (BX0.out.below hb)
  replace BX1 := Lib.hid (BX1.out.below hb)
  replace BG0 := Lib.hid (BG0.out.below hb)
  replace BG1 := Lib.hid (BG1.out.below hb)
  replace OW0 := Lib.hid (OW0.out.below hb)
  replace OW1 := Lib.hid (Own.below OW1.out hb)
  replace OX0 := Lib.hid (OX0.out.below hb)
  replace OX1 := Lib.hid (Own.below OX1.out hb)
  replace OG0 := Lib.hid (OG0.out.below hb)
  replace OG1 := Lib.hid (Own.below OG1.out hb)
  replace HA0 := Lib.hid (HA0.out.below hb)
  replace HA1 := Lib.hid (HA1.out.below hb)
  replace HT := Lib.hid (HT.out.trans (hb.mono HT.out.size))
  have zwH := hb.size; (try simp only [World.size_alloc] at zwH); clear hb; obtain ⟨wH, rfl⟩ : ∃ x, x = w2 := ⟨_, rfl⟩
  have cX00 := (BX0.out.cells 0 _ rfl).1; have fX00 := (BX0.out.cells 0 _ rfl).2
  have cX01 := (BX0.out.cells 1 _ rfl).1; have fX01 := (BX0.out.cells 1 _ rfl).2
  have cX02 := (BX0.out.cells 2 _ rfl).1; have fX02 := (BX0.out.cells 2 _ rfl).2
  have cX03 := (BX0.out.cells 3 _ rfl).1; have fX03 := (BX0.out.cells 3 _ rfl).2
  have cX04 := (BX0.out.cells 4 _ rfl).1; have fX04 := (BX0.out.cells 4 _ rfl).2
  have xX0 := BX0.out.lt
  have cP00 := (BP0.out.cells 0 _ rfl).1; have fP00 := (BP0.out.cells 0 _ rfl).2
  have cP01 := (BP0.out.cells 1 _ rfl).1; have fP01 := (BP0.out.cells 1 _ rfl).2
  have cP02 := (BP0.out.cells 2 _ rfl).1; have fP02 := (BP0.out.cells 2 _ rfl).2
  have cP03 := (BP0.out.cells 3 _ rfl).1; have fP03 := (BP0.out.cells 3 _ rfl).2
  have cP04 := (BP0.out.cells 4 _ rfl).1; have fP04 := (BP0.out.cells 4 _ rfl).2
  have xP0 := BP0.out.lt
  go_wp2_with fail
  go_region_held3 (fun w' => w'.cell? ⟨wD.heap.size, 0, none⟩ = some (.slice yX0co yX0vs.length yX0cc) ∧ w'.cell? ⟨wD.heap.size, 1, none⟩ = some (.slice yX0uo K.m.f.used.length yX0uc) ∧ w'.cell? ⟨wD.heap.size, 2, none⟩ = some (.slice yX0eo K.m.ents.length yX0ec) ∧ w'.cell? ⟨wD.heap.size, 3, none⟩ = some (.int .i64 (K.calls)) ∧ w'.cell? ⟨wD.heap.size, 4, none⟩ = some (.slice yX0ro K.refuse.length yX0rc) ∧ w'.cell? ⟨w.heap.size, 0, none⟩ = some (x.m.f.c) ∧ w'.cell? ⟨w.heap.size, 1, none⟩ = some (x.m.f.u) ∧ w'.cell? ⟨w.heap.size, 2, none⟩ = some (x.m.e) ∧ w'.cell? ⟨w.heap.size, 3, none⟩ = some (.int .i64 K.calls) ∧ w'.cell? ⟨w.heap.size, 4, none⟩ = some (x.r)) (first | (refine ⟨?_, ?_, ?_, ?_, ?_, ?_, ?_, ?_, ?_, ?_⟩ <;> (go_simp; done)) | go_keep) (first | (go_at_call 12; (refine (l_toKernel x K (by omega) _ (HA0.out.below (by exact bel))).mono ?_; rintro e w2 ⟨yE, rfl, OE, hb⟩; (obtain ⟨yEco, yEcc, yEuo, yEuc, yEvs, yEeo, yEec, yEro, yErc, rfl⟩ := KOwn.shapes OE); have HQ1 := Lib.hid hb; obtain ⟨kwq1_X0_0, kwq1_X0_1, kwq1_X0_2, kwq1_X0_3, kwq1_X0_4⟩ := kp5 hb (wD.heap.size) (.slice yX0co yX0vs.length yX0cc) (.slice yX0uo K.m.f.used.length yX0uc) (.slice yX0eo K.m.ents.length yX0ec) (.int .i64 (K.calls)) (.slice yX0ro K.refuse.length yX0rc); obtain ⟨kwq1_P0_0, kwq1_P0_1, kwq1_P0_2, kwq1_P0_3, kwq1_P0_4⟩ := kp5 hb (w.heap.size) (x.m.f.c) (x.m.f.u) (x.m.e) (.int .i64 K.calls) (x.r); have xwq1_X0 : wD.heap.size < w2.heap.size := xc hb; have xwq1_P0 : w.heap.size < w2.heap.size := xc hb; have hzwq1 := hb.size; (try simp only [World.size_alloc, World.size_setCell, World.size_drew] at hzwq1); obtain ⟨wq1, rfl⟩ : ∃ x, x = w2 := ⟨_, rfl⟩; simp only [KV.val])) | (go_at_call 16; (refine (l_eqKernel _ _ (⟨⟨⟨.slice yX0co yX0vs.length yX0cc, .slice yX0uo K.m.f.used.length yX0uc, yX0vs⟩, .slice yX0eo K.m.ents.length yX0ec⟩, .slice yX0ro K.refuse.length yX0rc⟩ : KV) (⟨⟨⟨.slice yEco yEvs.length yEcc, .slice yEuo K.m.f.used.length yEuc, yEvs⟩, .slice yEeo K.m.ents.length yEec⟩, .slice yEro K.refuse.length yErc⟩ : KV) _ _ (OX0.out.below (by exact bel)) (OE.below (by exact bel))).mono ?_; rintro e w2 ⟨rfl, hb⟩; have HQ2 := Lib.hid hb; obtain ⟨kwq2_X0_0, kwq2_X0_1, kwq2_X0_2, kwq2_X0_3, kwq2_X0_4⟩ := kp5 hb (wD.heap.size) (.slice yX0co yX0vs.length yX0cc) (.slice yX0uo K.m.f.used.length yX0uc) (.slice yX0eo K.m.ents.length yX0ec) (.int .i64 (K.calls)) (.slice yX0ro K.refuse.length yX0rc); obtain ⟨kwq2_P0_0, kwq2_P0_1, kwq2_P0_2, kwq2_P0_3, kwq2_P0_4⟩ := kp5 hb (w.heap.size) (x.m.f.c) (x.m.f.u) (x.m.e) (.int .i64 K.calls) (x.r); have xwq2_X0 : wD.heap.size < w2.heap.size := xc hb; have xwq2_P0 : w.heap.size < w2.heap.size := xc hb; have hzwq2 := hb.size; (try simp only [World.size_alloc, World.size_setCell, World.size_drew] at hzwq2); obtain ⟨wq2, rfl⟩ : ∃ x, x = w2 := ⟨_, rfl⟩)))
  have hb : Below (wH).heap.size (wH) wq2 := by (have hq1 := HQ1.out; have hq2 := HQ2.out; exact bel)
  clear xX0 cX00 fX00 cX01 fX01 cX02 fX02 cX03 fX03 cX04 fX04
  clear xP0 cP00 fP00 cP01 fP01 cP02 fP02 cP03 fP03 cP04 fP04
  clear kwq1_X0_0 kwq1_X0_1 kwq1_X0_2 kwq1_X0_3 kwq1_X0_4 kwq1_P0_0 kwq1_P0_1 kwq1_P0_2 kwq1_P0_3 kwq1_P0_4 hzwq1
  clear kwq2_X0_0 kwq2_X0_1 kwq2_X0_2 kwq2_X0_3 kwq2_X0_4 kwq2_P0_0 kwq2_P0_1 kwq2_P0_2 kwq2_P0_3 kwq2_P0_4 hzwq2
  obtain ⟨w2, rfl⟩ : ∃ x, x = wq2 := ⟨_, rfl⟩
  clear HQ1 HQ2 OE
  replace BP0 := Lib.hid (BP0.out.below hb)
  replace BP1 := Lib.hid (BP1.out.below hb)
  replace BW0 := Lib.hid (BW0.out.below hb)
  replace BW1 := Lib.hid (BW1.out.below hb)
  replace BX0 := Lib.hid (BX0.out.below hb)
  replace BX1 := Lib.hid (BX1.out.below hb)
  replace BG0 := Lib.hid (BG0.out.below hb)
  replace BG1 := Lib.hid (BG1.out.below hb)
  replace OW0 := Lib.hid (OW0.out.below hb)
  replace OW1 := Lib.hid (Own.below OW1.out hb)
  replace OX0 := Lib.hid (OX0.out.below hb)
  replace OX1 := Lib.hid (Own.below OX1.out hb)
  replace OG0 := Lib.hid (OG0.out.below hb)
  replace OG1 := Lib.hid (Own.below OG1.out hb)
  replace HA0 := Lib.hid (HA0.out.below hb)
  replace HA1 := Lib.hid (HA1.out.below hb)
  replace HT := Lib.hid (HT.out.trans (hb.mono HT.out.size))
  have zwI := hb.size; (try simp only [World.size_alloc] at zwI); clear hb; obtain ⟨wI, rfl⟩ : ∃ x, x = w2 := ⟨_, rfl⟩
  have cX10 := (BX1.out.cells 0 _ rfl).1; have fX10 := (BX1.out.cells 0 _ rfl).2
  have cX11 := (BX1.out.cells 1 _ rfl).1; have fX11 := (BX1.out.cells 1 _ rfl).2
  have cX12 := (BX1.out.cells 2 _ rfl).1; have fX12 := (BX1.out.cells 2 _ rfl).2
  have cX13 := (BX1.out.cells 3 _ rfl).1; have fX13 := (BX1.out.cells 3 _ rfl).2
  have cX14 := (BX1.out.cells 4 _ rfl).1; have fX14 := (BX1.out.cells 4 _ rfl).2
  have xX1 := BX1.out.lt
  have cP10 := (BP1.out.cells 0 _ rfl).1; have fP10 := (BP1.out.cells 0 _ rfl).2
  have cP11 := (BP1.out.cells 1 _ rfl).1; have fP11 := (BP1.out.cells 1 _ rfl).2
  have cP12 := (BP1.out.cells 2 _ rfl).1; have fP12 := (BP1.out.cells 2 _ rfl).2
  have cP13 := (BP1.out.cells 3 _ rfl).1; have fP13 := (BP1.out.cells 3 _ rfl).2
  have cP14 := (BP1.out.cells 4 _ rfl).1; have fP14 := (BP1.out.cells 4 _ rfl).2
  have xP1 := BP1.out.lt
  go_wp2_with fail
  go_region_held3 (fun w' => w'.cell? ⟨wE.heap.size, 0, none⟩ = some (.int .i64 kp) ∧ w'.cell? ⟨wE.heap.size, 1, none⟩ = some (.int .i64 mv) ∧ w'.cell? ⟨wE.heap.size, 2, none⟩ = some (.slice yX1o cs.length yX1c) ∧ w'.cell? ⟨wE.heap.size, 3, none⟩ = some (.int .i64 ph) ∧ w'.cell? ⟨wE.heap.size, 4, none⟩ = some (.int .i64 nx) ∧ w'.cell? ⟨w.heap.size + 1, 0, none⟩ = some (.int .i64 kp) ∧ w'.cell? ⟨w.heap.size + 1, 1, none⟩ = some (.int .i64 mv) ∧ w'.cell? ⟨w.heap.size + 1, 2, none⟩ = some (c) ∧ w'.cell? ⟨w.heap.size + 1, 3, none⟩ = some (.int .i64 ph) ∧ w'.cell? ⟨w.heap.size + 1, 4, none⟩ = some (.int .i64 nx)) (first | (refine ⟨?_, ?_, ?_, ?_, ?_, ?_, ?_, ?_, ?_, ?_⟩ <;> (go_simp; done)) | go_keep) (first | (go_at_call 27; (refine (l_toJob kp mv c cs ph nx (by omega) _ (HA1.out.below (by exact bel))).mono ?_; rintro e w2 ⟨vE, rfl, OE, hb⟩; (obtain ⟨yEo, yEc, rfl, -, -⟩ := OE.shape); have HQ1 := Lib.hid hb; obtain ⟨kwq1_X1_0, kwq1_X1_1, kwq1_X1_2, kwq1_X1_3, kwq1_X1_4⟩ := kp5 hb (wE.heap.size) (.int .i64 kp) (.int .i64 mv) (.slice yX1o cs.length yX1c) (.int .i64 ph) (.int .i64 nx); obtain ⟨kwq1_P1_0, kwq1_P1_1, kwq1_P1_2, kwq1_P1_3, kwq1_P1_4⟩ := kp5 hb (w.heap.size + 1) (.int .i64 kp) (.int .i64 mv) (c) (.int .i64 ph) (.int .i64 nx); have xwq1_X1 : wE.heap.size < w2.heap.size := xc hb; have xwq1_P1 : w.heap.size + 1 < w2.heap.size := xc hb; have hzwq1 := hb.size; (try simp only [World.size_alloc, World.size_setCell, World.size_drew] at hzwq1); obtain ⟨wq1, rfl⟩ : ∃ x, x = w2 := ⟨_, rfl⟩; skip)) | (go_at_call 29; (refine (l_eqJob _ _ kp mv _ _ cs ph nx _ (Own.below OX1.out (by exact bel)) (Own.below OE (by exact bel))).mono ?_; rintro e w2 ⟨rfl, hb⟩; have HQ2 := Lib.hid hb; obtain ⟨kwq2_X1_0, kwq2_X1_1, kwq2_X1_2, kwq2_X1_3, kwq2_X1_4⟩ := kp5 hb (wE.heap.size) (.int .i64 kp) (.int .i64 mv) (.slice yX1o cs.length yX1c) (.int .i64 ph) (.int .i64 nx); obtain ⟨kwq2_P1_0, kwq2_P1_1, kwq2_P1_2, kwq2_P1_3, kwq2_P1_4⟩ := kp5 hb (w.heap.size + 1) (.int .i64 kp) (.int .i64 mv) (c) (.int .i64 ph) (.int .i64 nx); have xwq2_X1 : wE.heap.size < w2.heap.size := xc hb; have xwq2_P1 : w.heap.size + 1 < w2.heap.size := xc hb; have hzwq2 := hb.size; (try simp only [World.size_alloc, World.size_setCell, World.size_drew] at hzwq2); obtain ⟨wq2, rfl⟩ : ∃ x, x = w2 := ⟨_, rfl⟩)))
  have hb : Below (wI).heap.size (wI) wq2 := by (have hq1 := HQ1.out; have hq2 := HQ2.out; exact bel)
  clear xX1 cX10 fX10 cX11 fX11 cX12 fX12 cX13 fX13 cX14 fX14
  clear xP1 cP10 fP10 cP11 fP11 cP12 fP12 cP13 fP13 cP14 fP14
  clear kwq1_X1_0 kwq1_X1_1 kwq1_X1_2 kwq1_X1_3 kwq1_X1_4 kwq1_P1_0 kwq1_P1_1 kwq1_P1_2 kwq1_P1_3 kwq1_P1_4 hzwq1
  clear kwq2_X1_0 kwq2_X1_1 kwq2_X1_2 kwq2_X1_3 kwq2_X1_4 kwq2_P1_0 kwq2_P1_1 kwq2_P1_2 kwq2_P1_3 kwq2_P1_4 hzwq2
  obtain ⟨w2, rfl⟩ : ∃ x, x = wq2 := ⟨_, rfl⟩
  clear HQ1 HQ2 OE
  replace BP0 := Lib.hid (BP0.out.below hb)
  replace BP1 := Lib.hid (BP1.out.below hb)
  replace BW0 := Lib.hid (BW0.out.below hb)
  replace BW1 := Lib.hid (BW1.out.below hb)
  replace BX0 := Lib.hid (BX0.out.below hb)
  replace BX1 := Lib.hid (BX1.out.below hb)
  replace BG0 := Lib.hid (BG0.out.below hb)
  replace BG1 := Lib.hid (BG1.out.below hb)
  replace OW0 := Lib.hid (OW0.out.below hb)
  replace OW1 := Lib.hid (Own.below OW1.out hb)
  replace OX0 := Lib.hid (OX0.out.below hb)
  replace OX1 := Lib.hid (Own.below OX1.out hb)
  replace OG0 := Lib.hid (OG0.out.below hb)
  replace OG1 := Lib.hid (Own.below OG1.out hb)
  replace HA0 := Lib.hid (HA0.out.below hb)
  replace HA1 := Lib.hid (HA1.out.below hb)
  replace HT := Lib.hid (HT.out.trans (hb.mono HT.out.size))
  have zwJ := hb.size; (try simp only [World.size_alloc] at zwJ); clear hb; obtain ⟨wJ, rfl⟩ : ∃ x, x = w2 := ⟨_, rfl⟩
  have cX00 := (BX0.out.cells 0 _ rfl).1; have fX00 := (BX0.out.cells 0 _ rfl).2
  have cX01 := (BX0.out.cells 1 _ rfl).1; have fX01 := (BX0.out.cells 1 _ rfl).2
  have cX02 := (BX0.out.cells 2 _ rfl).1; have fX02 := (BX0.out.cells 2 _ rfl).2
  have cX03 := (BX0.out.cells 3 _ rfl).1; have fX03 := (BX0.out.cells 3 _ rfl).2
  have cX04 := (BX0.out.cells 4 _ rfl).1; have fX04 := (BX0.out.cells 4 _ rfl).2
  have xX0 := BX0.out.lt
  go_wp2_with fail
  refine (l_markKernel _ (⟨⟨⟨.slice yX0co yX0vs.length yX0cc, .slice yX0uo K.m.f.used.length yX0uc, yX0vs⟩, .slice yX0eo K.m.ents.length yX0ec⟩, .slice yX0ro K.refuse.length yX0rc⟩ : KV) K 1 (by omega) _ OX0.out).mono ?_; rintro e w2 ⟨rfl, OM, ht⟩
  clear xX0 cX00 fX00 cX01 fX01 cX02 fX02 cX03 fX03 cX04 fX04
  replace BP0 := Lib.hid (BP0.out.touch ht (fun hm => by first | exact NP0_X0.out hm | (have := LX0.out _ hm; (try simp only [World.size_alloc] at this); omega)))
  replace BP1 := Lib.hid (BP1.out.touch ht (fun hm => by first | exact NP1_X0.out hm | (have := LX0.out _ hm; (try simp only [World.size_alloc] at this); omega)))
  replace BW0 := Lib.hid (BW0.out.touch ht (fun hm => by first | exact NW0_X0.out hm | (have := LX0.out _ hm; (try simp only [World.size_alloc] at this); omega)))
  replace BW1 := Lib.hid (BW1.out.touch ht (fun hm => by first | exact NW1_X0.out hm | (have := LX0.out _ hm; (try simp only [World.size_alloc] at this); omega)))
  replace BX0 := Lib.hid (BX0.out.touch ht (fun hm => by first | exact NX0_X0.out hm | (have := LX0.out _ hm; (try simp only [World.size_alloc] at this); omega)))
  replace BX1 := Lib.hid (BX1.out.touch ht (fun hm => by first | exact NX1_X0.out hm | (have := LX0.out _ hm; (try simp only [World.size_alloc] at this); omega)))
  replace BG0 := Lib.hid (BG0.out.touch ht (fun hm => by first | exact NG0_X0.out hm | (have := LX0.out _ hm; (try simp only [World.size_alloc] at this); omega)))
  replace BG1 := Lib.hid (BG1.out.touch ht (fun hm => by first | exact NG1_X0.out hm | (have := LX0.out _ hm; (try simp only [World.size_alloc] at this); omega)))
  replace OW0 := Lib.hid (OW0.out.touch ht (fun g hg hm => by (have h1 := LW0.out g hg; have h2 := LX0.out _ hm; (try simp only [World.size_alloc] at h1 h2); omega)))
  replace OW1 := Lib.hid (Own.touchs OW1.out ht (fun g hg hm => by (have h1 := LW1.out g hg; have h2 := LX0.out _ hm; (try simp only [World.size_alloc] at h1 h2); omega)))
  replace OX1 := Lib.hid (Own.touchs OX1.out ht (fun g hg hm => by (have h1 := LX1.out g hg; have h2 := LX0.out _ hm; (try simp only [World.size_alloc] at h1 h2); omega)))
  replace OG0 := Lib.hid (OG0.out.touch ht (fun g hg hm => by (have h1 := LG0.out g hg; have h2 := LX0.out _ hm; (try simp only [World.size_alloc] at h1 h2); omega)))
  replace OG1 := Lib.hid (Own.touchs OG1.out ht (fun g hg hm => by (have h1 := LG1.out g hg; have h2 := LX0.out _ hm; (try simp only [World.size_alloc] at h1 h2); omega)))
  have hb := ht.toBelow (B := w.heap.size) (fun g hg => by have h2 := LX0.out _ hg; (try simp only [World.size_alloc] at h2); omega) (by omega)
  replace HA0 := Lib.hid (KAt.below HAw0.out (HT.out.trans hb))
  replace HA1 := Lib.hid (SlAt.below HAw1.out (HT.out.trans hb))
  replace HT := Lib.hid (HT.out.trans hb)
  have zwK := ht.size; clear ht hb; obtain ⟨wK, rfl⟩ : ∃ x, x = w2 := ⟨_, rfl⟩
  clear OX0
  clear OM
  clear BX0
  have cX10 := (BX1.out.cells 0 _ rfl).1; have fX10 := (BX1.out.cells 0 _ rfl).2
  have cX11 := (BX1.out.cells 1 _ rfl).1; have fX11 := (BX1.out.cells 1 _ rfl).2
  have cX12 := (BX1.out.cells 2 _ rfl).1; have fX12 := (BX1.out.cells 2 _ rfl).2
  have cX13 := (BX1.out.cells 3 _ rfl).1; have fX13 := (BX1.out.cells 3 _ rfl).2
  have cX14 := (BX1.out.cells 4 _ rfl).1; have fX14 := (BX1.out.cells 4 _ rfl).2
  have xX1 := BX1.out.lt
  go_wp2_with fail
  refine (l_markJob _ kp mv _ cs ph nx _ (by omega) _ OX1.out).mono ?_; rintro e w2 ⟨rfl, OM, ht⟩
  clear xX1 cX10 fX10 cX11 fX11 cX12 fX12 cX13 fX13 cX14 fX14
  replace BP0 := Lib.hid (BP0.out.touch ht (fun hm => by first | exact NP0_X1.out hm | (have := LX1.out _ hm; (try simp only [World.size_alloc] at this); omega)))
  replace BP1 := Lib.hid (BP1.out.touch ht (fun hm => by first | exact NP1_X1.out hm | (have := LX1.out _ hm; (try simp only [World.size_alloc] at this); omega)))
  replace BW0 := Lib.hid (BW0.out.touch ht (fun hm => by first | exact NW0_X1.out hm | (have := LX1.out _ hm; (try simp only [World.size_alloc] at this); omega)))
  replace BW1 := Lib.hid (BW1.out.touch ht (fun hm => by first | exact NW1_X1.out hm | (have := LX1.out _ hm; (try simp only [World.size_alloc] at this); omega)))
  replace BX1 := Lib.hid (BX1.out.touch ht (fun hm => by first | exact NX1_X1.out hm | (have := LX1.out _ hm; (try simp only [World.size_alloc] at this); omega)))
  replace BG0 := Lib.hid (BG0.out.touch ht (fun hm => by first | exact NG0_X1.out hm | (have := LX1.out _ hm; (try simp only [World.size_alloc] at this); omega)))
  replace BG1 := Lib.hid (BG1.out.touch ht (fun hm => by first | exact NG1_X1.out hm | (have := LX1.out _ hm; (try simp only [World.size_alloc] at this); omega)))
  replace OW0 := Lib.hid (OW0.out.touch ht (fun g hg hm => by (have h1 := LW0.out g hg; have h2 := LX1.out _ hm; (try simp only [World.size_alloc] at h1 h2); omega)))
  replace OW1 := Lib.hid (Own.touchs OW1.out ht (fun g hg hm => by (have h1 := LW1.out g hg; have h2 := LX1.out _ hm; (try simp only [World.size_alloc] at h1 h2); omega)))
  replace OG0 := Lib.hid (OG0.out.touch ht (fun g hg hm => by (have h1 := LG0.out g hg; have h2 := LX1.out _ hm; (try simp only [World.size_alloc] at h1 h2); omega)))
  replace OG1 := Lib.hid (Own.touchs OG1.out ht (fun g hg hm => by (have h1 := LG1.out g hg; have h2 := LX1.out _ hm; (try simp only [World.size_alloc] at h1 h2); omega)))
  have hb := ht.toBelow (B := w.heap.size) (fun g hg => by have h2 := LX1.out _ hg; (try simp only [World.size_alloc] at h2); omega) (by omega)
  replace HA0 := Lib.hid (KAt.below HAw0.out (HT.out.trans hb))
  replace HA1 := Lib.hid (SlAt.below HAw1.out (HT.out.trans hb))
  replace HT := Lib.hid (HT.out.trans hb)
  have zwL := ht.size; clear ht hb; obtain ⟨wL, rfl⟩ : ∃ x, x = w2 := ⟨_, rfl⟩
  clear OX1
  clear OM
  clear BX1
  have cG00 := (BG0.out.cells 0 _ rfl).1; have fG00 := (BG0.out.cells 0 _ rfl).2
  have cG01 := (BG0.out.cells 1 _ rfl).1; have fG01 := (BG0.out.cells 1 _ rfl).2
  have cG02 := (BG0.out.cells 2 _ rfl).1; have fG02 := (BG0.out.cells 2 _ rfl).2
  have cG03 := (BG0.out.cells 3 _ rfl).1; have fG03 := (BG0.out.cells 3 _ rfl).2
  have cG04 := (BG0.out.cells 4 _ rfl).1; have fG04 := (BG0.out.cells 4 _ rfl).2
  have xG0 := BG0.out.lt
  have cW00 := (BW0.out.cells 0 _ rfl).1; have fW00 := (BW0.out.cells 0 _ rfl).2
  have cW01 := (BW0.out.cells 1 _ rfl).1; have fW01 := (BW0.out.cells 1 _ rfl).2
  have cW02 := (BW0.out.cells 2 _ rfl).1; have fW02 := (BW0.out.cells 2 _ rfl).2
  have cW03 := (BW0.out.cells 3 _ rfl).1; have fW03 := (BW0.out.cells 3 _ rfl).2
  have cW04 := (BW0.out.cells 4 _ rfl).1; have fW04 := (BW0.out.cells 4 _ rfl).2
  have xW0 := BW0.out.lt
  go_wp2_with fail
  refine (l_eqKernel _ _ (⟨⟨⟨.slice yG0co yG0vs.length yG0cc, .slice yG0uo K2.m.f.used.length yG0uc, yG0vs⟩, .slice yG0eo K2.m.ents.length yG0ec⟩, .slice yG0ro K2.refuse.length yG0rc⟩ : KV) (⟨⟨⟨.slice yW0co yW0vs.length yW0cc, .slice yW0uo K2.m.f.used.length yW0uc, yW0vs⟩, .slice yW0eo K2.m.ents.length yW0ec⟩, .slice yW0ro K2.refuse.length yW0rc⟩ : KV) _ _ OG0.out OW0.out).mono ?_; rintro e w2 ⟨rfl, hb⟩
  clear xG0 cG00 fG00 cG01 fG01 cG02 fG02 cG03 fG03 cG04 fG04
  clear xW0 cW00 fW00 cW01 fW01 cW02 fW02 cW03 fW03 cW04 fW04
  replace BP0 := Lib.hid (BP0.out.below hb)
  replace BP1 := Lib.hid (BP1.out.below hb)
  replace BW0 := Lib.hid (BW0.out.below hb)
  replace BW1 := Lib.hid (BW1.out.below hb)
  replace BG0 := Lib.hid (BG0.out.below hb)
  replace BG1 := Lib.hid (BG1.out.below hb)
  replace OW0 := Lib.hid (OW0.out.below hb)
  replace OW1 := Lib.hid (Own.below OW1.out hb)
  replace OG0 := Lib.hid (OG0.out.below hb)
  replace OG1 := Lib.hid (Own.below OG1.out hb)
  replace HA0 := Lib.hid (HA0.out.below hb)
  replace HA1 := Lib.hid (HA1.out.below hb)
  replace HT := Lib.hid (HT.out.trans (hb.mono HT.out.size))
  have zwM := hb.size; (try simp only [World.size_alloc] at zwM); clear hb; obtain ⟨wM, rfl⟩ : ∃ x, x = w2 := ⟨_, rfl⟩
  have cG10 := (BG1.out.cells 0 _ rfl).1; have fG10 := (BG1.out.cells 0 _ rfl).2
  have cG11 := (BG1.out.cells 1 _ rfl).1; have fG11 := (BG1.out.cells 1 _ rfl).2
  have cG12 := (BG1.out.cells 2 _ rfl).1; have fG12 := (BG1.out.cells 2 _ rfl).2
  have cG13 := (BG1.out.cells 3 _ rfl).1; have fG13 := (BG1.out.cells 3 _ rfl).2
  have cG14 := (BG1.out.cells 4 _ rfl).1; have fG14 := (BG1.out.cells 4 _ rfl).2
  have xG1 := BG1.out.lt
  have cW10 := (BW1.out.cells 0 _ rfl).1; have fW10 := (BW1.out.cells 0 _ rfl).2
  have cW11 := (BW1.out.cells 1 _ rfl).1; have fW11 := (BW1.out.cells 1 _ rfl).2
  have cW12 := (BW1.out.cells 2 _ rfl).1; have fW12 := (BW1.out.cells 2 _ rfl).2
  have cW13 := (BW1.out.cells 3 _ rfl).1; have fW13 := (BW1.out.cells 3 _ rfl).2
  have cW14 := (BW1.out.cells 4 _ rfl).1; have fW14 := (BW1.out.cells 4 _ rfl).2
  have xW1 := BW1.out.lt
  go_wp2_with fail
  refine (l_eqJob _ _ kp mv _ _ cs ph2 nx2 _ OG1.out OW1.out).mono ?_; rintro e w2 ⟨rfl, hb⟩
  clear xG1 cG10 fG10 cG11 fG11 cG12 fG12 cG13 fG13 cG14 fG14
  clear xW1 cW10 fW10 cW11 fW11 cW12 fW12 cW13 fW13 cW14 fW14
  replace BP0 := Lib.hid (BP0.out.below hb)
  replace BP1 := Lib.hid (BP1.out.below hb)
  replace BW0 := Lib.hid (BW0.out.below hb)
  replace BW1 := Lib.hid (BW1.out.below hb)
  replace BG0 := Lib.hid (BG0.out.below hb)
  replace BG1 := Lib.hid (BG1.out.below hb)
  replace OW0 := Lib.hid (OW0.out.below hb)
  replace OW1 := Lib.hid (Own.below OW1.out hb)
  replace OG0 := Lib.hid (OG0.out.below hb)
  replace OG1 := Lib.hid (Own.below OG1.out hb)
  replace HA0 := Lib.hid (HA0.out.below hb)
  replace HA1 := Lib.hid (HA1.out.below hb)
  replace HT := Lib.hid (HT.out.trans (hb.mono HT.out.size))
  have zwN := hb.size; (try simp only [World.size_alloc] at zwN); clear hb; obtain ⟨wN, rfl⟩ : ∃ x, x = w2 := ⟨_, rfl⟩
  have cG00 := (BG0.out.cells 0 _ rfl).1; have fG00 := (BG0.out.cells 0 _ rfl).2
  have cG01 := (BG0.out.cells 1 _ rfl).1; have fG01 := (BG0.out.cells 1 _ rfl).2
  have cG02 := (BG0.out.cells 2 _ rfl).1; have fG02 := (BG0.out.cells 2 _ rfl).2
  have cG03 := (BG0.out.cells 3 _ rfl).1; have fG03 := (BG0.out.cells 3 _ rfl).2
  have cG04 := (BG0.out.cells 4 _ rfl).1; have fG04 := (BG0.out.cells 4 _ rfl).2
  have xG0 := BG0.out.lt
  go_wp2_with fail
  refine (l_markKernel _ (⟨⟨⟨.slice yG0co yG0vs.length yG0cc, .slice yG0uo K2.m.f.used.length yG0uc, yG0vs⟩, .slice yG0eo K2.m.ents.length yG0ec⟩, .slice yG0ro K2.refuse.length yG0rc⟩ : KV) K2 1 (by omega) _ OG0.out).mono ?_; rintro e w2 ⟨rfl, OM, ht⟩
  clear xG0 cG00 fG00 cG01 fG01 cG02 fG02 cG03 fG03 cG04 fG04
  replace BP0 := Lib.hid (BP0.out.touch ht (fun hm => by first | exact NP0_G0.out hm | (have := LG0.out _ hm; (try simp only [World.size_alloc] at this); omega)))
  replace BP1 := Lib.hid (BP1.out.touch ht (fun hm => by first | exact NP1_G0.out hm | (have := LG0.out _ hm; (try simp only [World.size_alloc] at this); omega)))
  replace BW0 := Lib.hid (BW0.out.touch ht (fun hm => by first | exact NW0_G0.out hm | (have := LG0.out _ hm; (try simp only [World.size_alloc] at this); omega)))
  replace BW1 := Lib.hid (BW1.out.touch ht (fun hm => by first | exact NW1_G0.out hm | (have := LG0.out _ hm; (try simp only [World.size_alloc] at this); omega)))
  replace BG0 := Lib.hid (BG0.out.touch ht (fun hm => by first | exact NG0_G0.out hm | (have := LG0.out _ hm; (try simp only [World.size_alloc] at this); omega)))
  replace BG1 := Lib.hid (BG1.out.touch ht (fun hm => by first | exact NG1_G0.out hm | (have := LG0.out _ hm; (try simp only [World.size_alloc] at this); omega)))
  replace OW0 := Lib.hid (OW0.out.touch ht (fun g hg hm => by (have h1 := LW0.out g hg; have h2 := LG0.out _ hm; (try simp only [World.size_alloc] at h1 h2); omega)))
  replace OW1 := Lib.hid (Own.touchs OW1.out ht (fun g hg hm => by (have h1 := LW1.out g hg; have h2 := LG0.out _ hm; (try simp only [World.size_alloc] at h1 h2); omega)))
  replace OG1 := Lib.hid (Own.touchs OG1.out ht (fun g hg hm => by first | exact DG0_1.out g hg hm | exact DG0_1.out g hm hg | (have h1 := LG1.out g hg; have h2 := LG0.out _ hm; (try simp only [World.size_alloc] at h1 h2); omega)))
  have hb := ht.toBelow (B := w.heap.size) (fun g hg => by have h2 := LG0.out _ hg; (try simp only [World.size_alloc] at h2); omega) (by omega)
  replace HA0 := Lib.hid (KAt.below HAw0.out (HT.out.trans hb))
  replace HA1 := Lib.hid (SlAt.below HAw1.out (HT.out.trans hb))
  replace HT := Lib.hid (HT.out.trans hb)
  have zwO := ht.size; clear ht hb; obtain ⟨wO, rfl⟩ : ∃ x, x = w2 := ⟨_, rfl⟩
  clear OG0
  have OG0 := Lib.hid OM; clear OM
  have cG10 := (BG1.out.cells 0 _ rfl).1; have fG10 := (BG1.out.cells 0 _ rfl).2
  have cG11 := (BG1.out.cells 1 _ rfl).1; have fG11 := (BG1.out.cells 1 _ rfl).2
  have cG12 := (BG1.out.cells 2 _ rfl).1; have fG12 := (BG1.out.cells 2 _ rfl).2
  have cG13 := (BG1.out.cells 3 _ rfl).1; have fG13 := (BG1.out.cells 3 _ rfl).2
  have cG14 := (BG1.out.cells 4 _ rfl).1; have fG14 := (BG1.out.cells 4 _ rfl).2
  have xG1 := BG1.out.lt
  go_wp2_with fail
  refine (l_markJob _ kp mv _ cs ph2 nx2 _ (by omega) _ OG1.out).mono ?_; rintro e w2 ⟨rfl, OM, ht⟩
  clear xG1 cG10 fG10 cG11 fG11 cG12 fG12 cG13 fG13 cG14 fG14
  replace BP0 := Lib.hid (BP0.out.touch ht (fun hm => by first | exact NP0_G1.out hm | (have := LG1.out _ hm; (try simp only [World.size_alloc] at this); omega)))
  replace BP1 := Lib.hid (BP1.out.touch ht (fun hm => by first | exact NP1_G1.out hm | (have := LG1.out _ hm; (try simp only [World.size_alloc] at this); omega)))
  replace BW0 := Lib.hid (BW0.out.touch ht (fun hm => by first | exact NW0_G1.out hm | (have := LG1.out _ hm; (try simp only [World.size_alloc] at this); omega)))
  replace BW1 := Lib.hid (BW1.out.touch ht (fun hm => by first | exact NW1_G1.out hm | (have := LG1.out _ hm; (try simp only [World.size_alloc] at this); omega)))
  replace BG0 := Lib.hid (BG0.out.touch ht (fun hm => by first | exact NG0_G1.out hm | (have := LG1.out _ hm; (try simp only [World.size_alloc] at this); omega)))
  replace BG1 := Lib.hid (BG1.out.touch ht (fun hm => by first | exact NG1_G1.out hm | (have := LG1.out _ hm; (try simp only [World.size_alloc] at this); omega)))
  replace OW0 := Lib.hid (OW0.out.touch ht (fun g hg hm => by (have h1 := LW0.out g hg; have h2 := LG1.out _ hm; (try simp only [World.size_alloc] at h1 h2); omega)))
  replace OW1 := Lib.hid (Own.touchs OW1.out ht (fun g hg hm => by (have h1 := LW1.out g hg; have h2 := LG1.out _ hm; (try simp only [World.size_alloc] at h1 h2); omega)))
  replace OG0 := Lib.hid (OG0.out.touch ht (fun g hg hm => by first | exact DG0_1.out g hg hm | exact DG0_1.out g hm hg | (have h1 := LG0.out g hg; have h2 := LG1.out _ hm; (try simp only [World.size_alloc] at h1 h2); omega)))
  have hb := ht.toBelow (B := w.heap.size) (fun g hg => by have h2 := LG1.out _ hg; (try simp only [World.size_alloc] at h2); omega) (by omega)
  replace HA0 := Lib.hid (KAt.below HAw0.out (HT.out.trans hb))
  replace HA1 := Lib.hid (SlAt.below HAw1.out (HT.out.trans hb))
  replace HT := Lib.hid (HT.out.trans hb)
  have zwP := ht.size; clear ht hb; obtain ⟨wP, rfl⟩ : ∃ x, x = w2 := ⟨_, rfl⟩
  clear OG1
  have OG1 := Lib.hid OM; clear OM
  have cG00 := (BG0.out.cells 0 _ rfl).1; have fG00 := (BG0.out.cells 0 _ rfl).2
  have cG01 := (BG0.out.cells 1 _ rfl).1; have fG01 := (BG0.out.cells 1 _ rfl).2
  have cG02 := (BG0.out.cells 2 _ rfl).1; have fG02 := (BG0.out.cells 2 _ rfl).2
  have cG03 := (BG0.out.cells 3 _ rfl).1; have fG03 := (BG0.out.cells 3 _ rfl).2
  have cG04 := (BG0.out.cells 4 _ rfl).1; have fG04 := (BG0.out.cells 4 _ rfl).2
  have xG0 := BG0.out.lt
  go_wp2_with fail
  refine (l_heldKernel _ (⟨⟨⟨.slice yG0co yG0vs.length yG0cc, .slice yG0uo K2.m.f.used.length yG0uc, yG0vs⟩, .slice yG0eo K2.m.ents.length yG0ec⟩, .slice yG0ro K2.refuse.length yG0rc⟩ : KV) K2 1 (by omega) _ OG0.out).mono ?_; rintro e w2 ⟨rfl, hb⟩
  clear xG0 cG00 fG00 cG01 fG01 cG02 fG02 cG03 fG03 cG04 fG04
  replace BP0 := Lib.hid (BP0.out.below hb)
  replace BP1 := Lib.hid (BP1.out.below hb)
  replace BW0 := Lib.hid (BW0.out.below hb)
  replace BW1 := Lib.hid (BW1.out.below hb)
  replace BG0 := Lib.hid (BG0.out.below hb)
  replace BG1 := Lib.hid (BG1.out.below hb)
  replace OW0 := Lib.hid (OW0.out.below hb)
  replace OW1 := Lib.hid (Own.below OW1.out hb)
  replace OG0 := Lib.hid (OG0.out.below hb)
  replace OG1 := Lib.hid (Own.below OG1.out hb)
  replace HA0 := Lib.hid (HA0.out.below hb)
  replace HA1 := Lib.hid (HA1.out.below hb)
  replace HT := Lib.hid (HT.out.trans (hb.mono HT.out.size))
  have zwQ := hb.size; (try simp only [World.size_alloc] at zwQ); clear hb; obtain ⟨wQ, rfl⟩ : ∃ x, x = w2 := ⟨_, rfl⟩
  have cG10 := (BG1.out.cells 0 _ rfl).1; have fG10 := (BG1.out.cells 0 _ rfl).2
  have cG11 := (BG1.out.cells 1 _ rfl).1; have fG11 := (BG1.out.cells 1 _ rfl).2
  have cG12 := (BG1.out.cells 2 _ rfl).1; have fG12 := (BG1.out.cells 2 _ rfl).2
  have cG13 := (BG1.out.cells 3 _ rfl).1; have fG13 := (BG1.out.cells 3 _ rfl).2
  have cG14 := (BG1.out.cells 4 _ rfl).1; have fG14 := (BG1.out.cells 4 _ rfl).2
  have xG1 := BG1.out.lt
  go_wp2_with fail
  refine (l_heldJob _ kp mv _ cs.length ph2 nx2 _ (by omega) _ OG1.out).mono ?_; rintro e w2 ⟨rfl, hb⟩
  clear xG1 cG10 fG10 cG11 fG11 cG12 fG12 cG13 fG13 cG14 fG14
  replace BP0 := Lib.hid (BP0.out.below hb)
  replace BP1 := Lib.hid (BP1.out.below hb)
  replace BW0 := Lib.hid (BW0.out.below hb)
  replace BW1 := Lib.hid (BW1.out.below hb)
  replace BG0 := Lib.hid (BG0.out.below hb)
  replace BG1 := Lib.hid (BG1.out.below hb)
  replace OW0 := Lib.hid (OW0.out.below hb)
  replace OW1 := Lib.hid (Own.below OW1.out hb)
  replace OG0 := Lib.hid (OG0.out.below hb)
  replace OG1 := Lib.hid (Own.below OG1.out hb)
  replace HA0 := Lib.hid (HA0.out.below hb)
  replace HA1 := Lib.hid (HA1.out.below hb)
  replace HT := Lib.hid (HT.out.trans (hb.mono HT.out.size))
  have zwR := hb.size; (try simp only [World.size_alloc] at zwR); clear hb; obtain ⟨wR, rfl⟩ : ∃ x, x = w2 := ⟨_, rfl⟩
  have cP00 := (BP0.out.cells 0 _ rfl).1; have fP00 := (BP0.out.cells 0 _ rfl).2
  have cP01 := (BP0.out.cells 1 _ rfl).1; have fP01 := (BP0.out.cells 1 _ rfl).2
  have cP02 := (BP0.out.cells 2 _ rfl).1; have fP02 := (BP0.out.cells 2 _ rfl).2
  have cP03 := (BP0.out.cells 3 _ rfl).1; have fP03 := (BP0.out.cells 3 _ rfl).2
  have cP04 := (BP0.out.cells 4 _ rfl).1; have fP04 := (BP0.out.cells 4 _ rfl).2
  have xP0 := BP0.out.lt
  have cP10 := (BP1.out.cells 0 _ rfl).1; have fP10 := (BP1.out.cells 0 _ rfl).2
  have cP11 := (BP1.out.cells 1 _ rfl).1; have fP11 := (BP1.out.cells 1 _ rfl).2
  have cP12 := (BP1.out.cells 2 _ rfl).1; have fP12 := (BP1.out.cells 2 _ rfl).2
  have cP13 := (BP1.out.cells 3 _ rfl).1; have fP13 := (BP1.out.cells 3 _ rfl).2
  have cP14 := (BP1.out.cells 4 _ rfl).1; have fP14 := (BP1.out.cells 4 _ rfl).2
  have xP1 := BP1.out.lt
  go_wp2_with fail
  go_upto_region 35 with fail
  go_cut [17, 18] (fun ss17 ss18 wx => ∃ yH0co yH0cc yH0uo yH0uc yH0vs yH0eo yH0ec yH0ro yH0rc yH1o yH1c gH0 gH1, ss17 = .pointer (some ⟨gH0, 0, none⟩) ∧ ss18 = .pointer (some ⟨gH1, 0, none⟩) ∧ BoxAt wx gH0 [.slice yH0co yH0vs.length yH0cc, .slice yH0uo K2.m.f.used.length yH0uc, .slice yH0eo K2.m.ents.length yH0ec, .int .i64 (K2.calls), .slice yH0ro K2.refuse.length yH0rc] ∧ BoxAt wx gH1 [.int .i64 kp, .int .i64 mv, .slice yH1o cs.length yH1c, .int .i64 ph2, .int .i64 nx2] ∧ KOwn (wR.heap.size) wx (⟨⟨⟨.slice yH0co yH0vs.length yH0cc, .slice yH0uo K2.m.f.used.length yH0uc, yH0vs⟩, .slice yH0eo K2.m.ents.length yH0ec⟩, .slice yH0ro K2.refuse.length yH0rc⟩ : KV) K2 ∧ OwnI (wR.heap.size) wx (.slice yH1o cs.length yH1c) cs ∧ gH0 ∉ blocks (KV.all (⟨⟨⟨.slice yH0co yH0vs.length yH0cc, .slice yH0uo K2.m.f.used.length yH0uc, yH0vs⟩, .slice yH0eo K2.m.ents.length yH0ec⟩, .slice yH0ro K2.refuse.length yH0rc⟩ : KV)) ∧ gH0 ∉ blocks ([.slice yH1o cs.length yH1c]) ∧ gH1 ∉ blocks (KV.all (⟨⟨⟨.slice yH0co yH0vs.length yH0cc, .slice yH0uo K2.m.f.used.length yH0uc, yH0vs⟩, .slice yH0eo K2.m.ents.length yH0ec⟩, .slice yH0ro K2.refuse.length yH0rc⟩ : KV)) ∧ gH1 ∉ blocks ([.slice yH1o cs.length yH1c]) ∧ (∀ g ∈ blocks (KV.all (⟨⟨⟨.slice yH0co yH0vs.length yH0cc, .slice yH0uo K2.m.f.used.length yH0uc, yH0vs⟩, .slice yH0eo K2.m.ents.length yH0ec⟩, .slice yH0ro K2.refuse.length yH0rc⟩ : KV)), g ∉ blocks ([.slice yH1o cs.length yH1c])) ∧ wR.heap.size ≤ gH0 ∧ wR.heap.size ≤ gH1 ∧ Below (wR).heap.size (wR) wx)
  case first =>
      refine wp_gen (fun a0 ha0 => ?_)
      have hsz : a0.tmps.size = 140 := by rw [ha0]; rfl
      have hps : (wR).heap.size = wR.heap.size := by first | rfl | simp only [World.size_alloc, World.size_drew]
      have X3 : ∀ u, (frAll a0 [109, 110, 111, 112, 113, 114, 108, 115, 116, 17, 18] u).tmps.getD 3 undef = .pointer (some ⟨w.heap.size, 0, none⟩) := fun u => (frAll_other (by decide)).trans (by rw [ha0]; rfl)
      have X4 : ∀ u, (frAll a0 [109, 110, 111, 112, 113, 114, 108, 115, 116, 17, 18] u).tmps.getD 4 undef = .pointer (some ⟨w.heap.size + 1, 0, none⟩) := fun u => (frAll_other (by decide)).trans (by rw [ha0]; rfl)
      have X2 : ∀ u, (frAll a0 [109, 110, 111, 112, 113, 114, 108, 115, 116, 17, 18] u).tmps.getD 2 undef = .int .i64 most := fun u => (frAll_other (by decide)).trans (by rw [ha0]; rfl)
      have E109 : ∀ u, (frAll a0 [109, 110, 111, 112, 113, 114, 108, 115, 116, 17, 18] u).tmps.getD 109 undef = u 109 := fun u => frAll_eval (by decide) (by rw [hsz]; decide)
      have P109 : ∀ u v, (frAll a0 [109, 110, 111, 112, 113, 114, 108, 115, 116, 17, 18] u).put (some 109) v = frAll a0 [109, 110, 111, 112, 113, 114, 108, 115, 116, 17, 18] (frUpd u 109 v) := fun u v => frAll_put v (by decide)
      have E110 : ∀ u, (frAll a0 [109, 110, 111, 112, 113, 114, 108, 115, 116, 17, 18] u).tmps.getD 110 undef = u 110 := fun u => frAll_eval (by decide) (by rw [hsz]; decide)
      have P110 : ∀ u v, (frAll a0 [109, 110, 111, 112, 113, 114, 108, 115, 116, 17, 18] u).put (some 110) v = frAll a0 [109, 110, 111, 112, 113, 114, 108, 115, 116, 17, 18] (frUpd u 110 v) := fun u v => frAll_put v (by decide)
      have E111 : ∀ u, (frAll a0 [109, 110, 111, 112, 113, 114, 108, 115, 116, 17, 18] u).tmps.getD 111 undef = u 111 := fun u => frAll_eval (by decide) (by rw [hsz]; decide)
      have P111 : ∀ u v, (frAll a0 [109, 110, 111, 112, 113, 114, 108, 115, 116, 17, 18] u).put (some 111) v = frAll a0 [109, 110, 111, 112, 113, 114, 108, 115, 116, 17, 18] (frUpd u 111 v) := fun u v => frAll_put v (by decide)
      have E112 : ∀ u, (frAll a0 [109, 110, 111, 112, 113, 114, 108, 115, 116, 17, 18] u).tmps.getD 112 undef = u 112 := fun u => frAll_eval (by decide) (by rw [hsz]; decide)
      have P112 : ∀ u v, (frAll a0 [109, 110, 111, 112, 113, 114, 108, 115, 116, 17, 18] u).put (some 112) v = frAll a0 [109, 110, 111, 112, 113, 114, 108, 115, 116, 17, 18] (frUpd u 112 v) := fun u v => frAll_put v (by decide)
      have E113 : ∀ u, (frAll a0 [109, 110, 111, 112, 113, 114, 108, 115, 116, 17, 18] u).tmps.getD 113 undef = u 113 := fun u => frAll_eval (by decide) (by rw [hsz]; decide)
      have P113 : ∀ u v, (frAll a0 [109, 110, 111, 112, 113, 114, 108, 115, 116, 17, 18] u).put (some 113) v = frAll a0 [109, 110, 111, 112, 113, 114, 108, 115, 116, 17, 18] (frUpd u 113 v) := fun u v => frAll_put v (by decide)
      have E114 : ∀ u, (frAll a0 [109, 110, 111, 112, 113, 114, 108, 115, 116, 17, 18] u).tmps.getD 114 undef = u 114 := fun u => frAll_eval (by decide) (by rw [hsz]; decide)
      have P114 : ∀ u v, (frAll a0 [109, 110, 111, 112, 113, 114, 108, 115, 116, 17, 18] u).put (some 114) v = frAll a0 [109, 110, 111, 112, 113, 114, 108, 115, 116, 17, 18] (frUpd u 114 v) := fun u v => frAll_put v (by decide)
      have E108 : ∀ u, (frAll a0 [109, 110, 111, 112, 113, 114, 108, 115, 116, 17, 18] u).tmps.getD 108 undef = u 108 := fun u => frAll_eval (by decide) (by rw [hsz]; decide)
      have P108 : ∀ u v, (frAll a0 [109, 110, 111, 112, 113, 114, 108, 115, 116, 17, 18] u).put (some 108) v = frAll a0 [109, 110, 111, 112, 113, 114, 108, 115, 116, 17, 18] (frUpd u 108 v) := fun u v => frAll_put v (by decide)
      have E115 : ∀ u, (frAll a0 [109, 110, 111, 112, 113, 114, 108, 115, 116, 17, 18] u).tmps.getD 115 undef = u 115 := fun u => frAll_eval (by decide) (by rw [hsz]; decide)
      have P115 : ∀ u v, (frAll a0 [109, 110, 111, 112, 113, 114, 108, 115, 116, 17, 18] u).put (some 115) v = frAll a0 [109, 110, 111, 112, 113, 114, 108, 115, 116, 17, 18] (frUpd u 115 v) := fun u v => frAll_put v (by decide)
      have E116 : ∀ u, (frAll a0 [109, 110, 111, 112, 113, 114, 108, 115, 116, 17, 18] u).tmps.getD 116 undef = u 116 := fun u => frAll_eval (by decide) (by rw [hsz]; decide)
      have P116 : ∀ u v, (frAll a0 [109, 110, 111, 112, 113, 114, 108, 115, 116, 17, 18] u).put (some 116) v = frAll a0 [109, 110, 111, 112, 113, 114, 108, 115, 116, 17, 18] (frUpd u 116 v) := fun u v => frAll_put v (by decide)
      have E17 : ∀ u, (frAll a0 [109, 110, 111, 112, 113, 114, 108, 115, 116, 17, 18] u).tmps.getD 17 undef = u 17 := fun u => frAll_eval (by decide) (by rw [hsz]; decide)
      have P17 : ∀ u v, (frAll a0 [109, 110, 111, 112, 113, 114, 108, 115, 116, 17, 18] u).put (some 17) v = frAll a0 [109, 110, 111, 112, 113, 114, 108, 115, 116, 17, 18] (frUpd u 17 v) := fun u v => frAll_put v (by decide)
      have E18 : ∀ u, (frAll a0 [109, 110, 111, 112, 113, 114, 108, 115, 116, 17, 18] u).tmps.getD 18 undef = u 18 := fun u => frAll_eval (by decide) (by rw [hsz]; decide)
      have P18 : ∀ u v, (frAll a0 [109, 110, 111, 112, 113, 114, 108, 115, 116, 17, 18] u).put (some 18) v = frAll a0 [109, 110, 111, 112, 113, 114, 108, 115, 116, 17, 18] (frUpd u 18 v) := fun u v => frAll_put v (by decide)
      replace ha0 := Lib.hid ha0
      refine wp_region_frame [109, 110, 111, 112, 113, 114, 108, 115, 116, 17, 18] (fun D u wv => ∃ yC0co yC0cc yC0uo yC0uc yC0vs yC0eo yC0ec yC0ro yC0rc yC1o yC1c yH0co yH0cc yH0uo yH0uc yH0vs yH0eo yH0ec yH0ro yH0rc yH1o yH1c gH0 gH1, Hid (Below (wR).heap.size (wR) wv) ∧ Hid (D 0 → u 109 = .agg #[x.m.f.c, x.m.f.u, x.m.e, .int .i64 K.calls, x.r]) ∧ Hid (D 1 → u 110 = .agg #[.slice yC0co yC0vs.length yC0cc, .slice yC0uo K.m.f.used.length yC0uc, .slice yC0eo K.m.ents.length yC0ec, .int .i64 (K.calls), .slice yC0ro K.refuse.length yC0rc]) ∧ Hid (D 2 → u 111 = .agg #[.int .i64 kp, .int .i64 mv, c, .int .i64 ph, .int .i64 nx]) ∧ Hid (D 3 → u 112 = .agg #[.int .i64 kp, .int .i64 mv, .slice yC1o cs.length yC1c, .int .i64 ph, .int .i64 nx]) ∧ Hid (D 4 → u 113 = .int .i64 most) ∧ Hid (D 5 → u 114 = .tuple #[.agg #[.slice yH0co yH0vs.length yH0cc, .slice yH0uo K2.m.f.used.length yH0uc, .slice yH0eo K2.m.ents.length yH0ec, .int .i64 (K2.calls), .slice yH0ro K2.refuse.length yH0rc], .agg #[.int .i64 kp, .int .i64 mv, .slice yH1o cs.length yH1c, .int .i64 ph2, .int .i64 nx2]]) ∧ Hid (D 6 → u 108 = .tuple #[.agg #[.slice yH0co yH0vs.length yH0cc, .slice yH0uo K2.m.f.used.length yH0uc, .slice yH0eo K2.m.ents.length yH0ec, .int .i64 (K2.calls), .slice yH0ro K2.refuse.length yH0rc], .agg #[.int .i64 kp, .int .i64 mv, .slice yH1o cs.length yH1c, .int .i64 ph2, .int .i64 nx2]]) ∧ Hid (D 7 → u 115 = .agg #[.slice yH0co yH0vs.length yH0cc, .slice yH0uo K2.m.f.used.length yH0uc, .slice yH0eo K2.m.ents.length yH0ec, .int .i64 (K2.calls), .slice yH0ro K2.refuse.length yH0rc]) ∧ Hid (D 8 → u 116 = .agg #[.int .i64 kp, .int .i64 mv, .slice yH1o cs.length yH1c, .int .i64 ph2, .int .i64 nx2]) ∧ Hid (D 9 → u 17 = .pointer (some ⟨gH0, 0, none⟩)) ∧ Hid (D 10 → u 18 = .pointer (some ⟨gH1, 0, none⟩)) ∧ Hid (D 1 → ¬ D 5 → KOwn (wR.heap.size) wv (⟨⟨⟨.slice yC0co yC0vs.length yC0cc, .slice yC0uo K.m.f.used.length yC0uc, yC0vs⟩, .slice yC0eo K.m.ents.length yC0ec⟩, .slice yC0ro K.refuse.length yC0rc⟩ : KV) K) ∧ Hid (D 3 → ¬ D 5 → OwnI (wR.heap.size) wv (.slice yC1o cs.length yC1c) cs) ∧ Hid (D 5 → KOwn (wR.heap.size) wv (⟨⟨⟨.slice yH0co yH0vs.length yH0cc, .slice yH0uo K2.m.f.used.length yH0uc, yH0vs⟩, .slice yH0eo K2.m.ents.length yH0ec⟩, .slice yH0ro K2.refuse.length yH0rc⟩ : KV) K2) ∧ Hid (D 5 → OwnI (wR.heap.size) wv (.slice yH1o cs.length yH1c) cs) ∧ Hid (D 5 → (∀ g ∈ blocks (KV.all (⟨⟨⟨.slice yH0co yH0vs.length yH0cc, .slice yH0uo K2.m.f.used.length yH0uc, yH0vs⟩, .slice yH0eo K2.m.ents.length yH0ec⟩, .slice yH0ro K2.refuse.length yH0rc⟩ : KV)), g ∉ blocks ([.slice yH1o cs.length yH1c]))) ∧ Hid (D 9 → wR.heap.size ≤ gH0 ∧ gH0 < wv.heap.size) ∧ Hid (D 9 → ¬ D 11 → BoxAt wv gH0 [.slice none 0 0, .slice none 0 0, .slice none 0 0, .int .i64 0, .slice none 0 0]) ∧ Hid (D 11 → BoxAt wv gH0 [.slice yH0co yH0vs.length yH0cc, .slice yH0uo K2.m.f.used.length yH0uc, .slice yH0eo K2.m.ents.length yH0ec, .int .i64 (K2.calls), .slice yH0ro K2.refuse.length yH0rc]) ∧ Hid (D 9 → D 5 → gH0 ∉ blocks (KV.all (⟨⟨⟨.slice yH0co yH0vs.length yH0cc, .slice yH0uo K2.m.f.used.length yH0uc, yH0vs⟩, .slice yH0eo K2.m.ents.length yH0ec⟩, .slice yH0ro K2.refuse.length yH0rc⟩ : KV))) ∧ Hid (D 9 → D 5 → gH0 ∉ blocks ([.slice yH1o cs.length yH1c])) ∧ Hid (D 10 → wR.heap.size ≤ gH1 ∧ gH1 < wv.heap.size) ∧ Hid (D 10 → ¬ D 12 → BoxAt wv gH1 [.int .i64 0, .int .i64 0, .slice none 0 0, .int .i64 0, .int .i64 0]) ∧ Hid (D 12 → BoxAt wv gH1 [.int .i64 kp, .int .i64 mv, .slice yH1o cs.length yH1c, .int .i64 ph2, .int .i64 nx2]) ∧ Hid (D 10 → D 5 → gH1 ∉ blocks (KV.all (⟨⟨⟨.slice yH0co yH0vs.length yH0cc, .slice yH0uo K2.m.f.used.length yH0uc, yH0vs⟩, .slice yH0eo K2.m.ents.length yH0ec⟩, .slice yH0ro K2.refuse.length yH0rc⟩ : KV))) ∧ Hid (D 10 → D 5 → gH1 ∉ blocks ([.slice yH1o cs.length yH1c])) ∧ Hid (D 9 → D 10 → gH0 ≠ gH1)) (by kernel_rfl) (by kernel_rfl) ?_ ?_ ?_
      · exact ⟨default, default, default, default, default, default, default, default, default, default, default, default, default, default, default, default, default, default, default, default, default, default, default, default, Lib.hid (by exact bel), Lib.hid (fun h => h.elim), Lib.hid (fun h => h.elim), Lib.hid (fun h => h.elim), Lib.hid (fun h => h.elim), Lib.hid (fun h => h.elim), Lib.hid (fun h => h.elim), Lib.hid (fun h => h.elim), Lib.hid (fun h => h.elim), Lib.hid (fun h => h.elim), Lib.hid (fun h => h.elim), Lib.hid (fun h => h.elim), Lib.hid (fun h => h.elim), Lib.hid (fun h => h.elim), Lib.hid (fun h => h.elim), Lib.hid (fun h => h.elim), Lib.hid (fun h => h.elim), Lib.hid (fun h => h.elim), Lib.hid (fun h => h.elim), Lib.hid (fun h => h.elim), Lib.hid (fun h => h.elim), Lib.hid (fun h => h.elim), Lib.hid (fun h => h.elim), Lib.hid (fun h => h.elim), Lib.hid (fun h => h.elim), Lib.hid (fun h => h.elim), Lib.hid (fun h => h.elim), Lib.hid (fun h => h.elim)⟩
      · rintro D u wv ⟨yC0co, yC0cc, yC0uo, yC0uc, yC0vs, yC0eo, yC0ec, yC0ro, yC0rc, yC1o, yC1c, yH0co, yH0cc, yH0uo, yH0uc, yH0vs, yH0eo, yH0ec, yH0ro, yH0rc, yH1o, yH1c, gH0, gH1, HBW, U0, U1, U2, U3, U4, U5, U6, U7, U8, U9, U10, OC0, OC1, OH0, OH1, DH0_1, A2gH0, A3gH0, A4gH0, A5gH0H0, A5gH0H1, A2gH1, A3gH1, A4gH1, A5gH1H0, A5gH1H1, A6gH0gH1⟩ hcl i hi hn hw
        have hi9 : i < 13 := hi; clear hi
        replace hcl := Lib.hid hcl; replace hw := Lib.hid hw
        have hbw := HBW.out; have hlw := hbw.size; rw [hps] at hlw
        rcases (by omega : i = 0 ∨ i = 1 ∨ i = 2 ∨ i = 3 ∨ i = 4 ∨ i = 5 ∨ i = 6 ∨ i = 7 ∨ i = 8 ∨ i = 9 ∨ i = 10 ∨ i = 11 ∨ i = 12) with rfl | rfl | rfl | rfl | rfl | rfl | rfl | rfl | rfl | rfl | rfl | rfl | rfl
        · skip
          refine wpOp_step (o := _) rfl (fun KK hKK => ?_)
          rw [if_pos (wanted_nil _ rfl)]
          have E3_ := X3 u
          have bx := BP0.out.below hbw
          have c0 := (bx.cells 0 _ rfl).1
          have c1 := (bx.cells 1 _ rfl).1
          have c2 := (bx.cells 2 _ rfl).1
          have c3 := (bx.cells 3 _ rfl).1
          have c4 := (bx.cells 4 _ rfl).1
          skip
          go_simp
          exact hKK _ _ ⟨_, P109 u _, yC0co, yC0cc, yC0uo, yC0uc, yC0vs, yC0eo, yC0ec, yC0ro, yC0rc, yC1o, yC1c, yH0co, yH0cc, yH0uo, yH0uc, yH0vs, yH0eo, yH0ec, yH0ro, yH0rc, yH1o, yH1c, gH0, gH1, HBW, Lib.hid (fun h0 => frUpd_self), (u10 U1), (u10 U2), (u10 U3), (u10 U4), (u10 U5), (u10 U6), (u10 U7), (u10 U8), (u10 U9), (u10 U10), (k11 OC0), (k11 OC1), (k10 OH0), (k10 OH1), (k10 DH0_1), (k10 A2gH0), (k11 A3gH0), (k10 A4gH0), (k20 A5gH0H0), (k20 A5gH0H1), (k10 A2gH1), (k11 A3gH1), (k10 A4gH1), (k20 A5gH1H0), (k20 A5gH1H1), (k20 A6gH0gH1)⟩
        · skip
          refine wpOp_step (o := _) rfl (fun KK hKK => ?_)
          rw [if_pos (wanted_nil _ rfl)]
          have e109 := U0.out (hw.out 0 (by kernel_rfl)); have E109_ := (E109 u).trans e109
          skip
          go_simp
          refine (l_toKernel x K (by omega) _ (HA0.out.below hbw)).mono ?_; rintro e w2 ⟨yC0, rfl, OC0, hb⟩
          obtain ⟨yC0co, yC0cc, yC0uo, yC0uc, yC0vs, yC0eo, yC0ec, yC0ro, yC0rc, rfl⟩ := KOwn.shapes OC0
          simp only [KV.val]
          have hbn := hb.size
          try dsimp only
          exact hKK _ _ ⟨_, P110 u _, yC0co, yC0cc, yC0uo, yC0uc, yC0vs, yC0eo, yC0ec, yC0ro, yC0rc, yC1o, yC1c, yH0co, yH0cc, yH0uo, yH0uc, yH0vs, yH0eo, yH0ec, yH0ro, yH0rc, yH1o, yH1c, gH0, gH1, (Lib.hid (hbw.trans (hb.mono (by rw [hps]; omega)))), (u10 U0), Lib.hid (fun h0 => frUpd_self), (u10 U2), (u10 U3), (u10 U4), (u10 U5), (u10 U6), (u10 U7), (u10 U8), (u10 U9), (u10 U10), Lib.hid (fun h0 m0 => KOwn.mono OC0 (by omega)), (m11 (fun h => Own.below h hb) OC1), (m10 (fun h => h.below hb) OH0), (m10 (fun h => Own.below h hb) OH1), (k10 DH0_1), (m10 (lt_grow hb.size) A2gH0), (m11 (fun h => h.below hb) A3gH0), (m10 (fun h => h.below hb) A4gH0), (k20 A5gH0H0), (k20 A5gH0H1), (m10 (lt_grow hb.size) A2gH1), (m11 (fun h => h.below hb) A3gH1), (m10 (fun h => h.below hb) A4gH1), (k20 A5gH1H0), (k20 A5gH1H1), (k20 A6gH0gH1)⟩
        · skip
          refine wpOp_step (o := _) rfl (fun KK hKK => ?_)
          rw [if_pos (wanted_nil _ rfl)]
          have E4_ := X4 u
          have bx := BP1.out.below hbw
          have c0 := (bx.cells 0 _ rfl).1
          have c1 := (bx.cells 1 _ rfl).1
          have c2 := (bx.cells 2 _ rfl).1
          have c3 := (bx.cells 3 _ rfl).1
          have c4 := (bx.cells 4 _ rfl).1
          skip
          go_simp
          exact hKK _ _ ⟨_, P111 u _, yC0co, yC0cc, yC0uo, yC0uc, yC0vs, yC0eo, yC0ec, yC0ro, yC0rc, yC1o, yC1c, yH0co, yH0cc, yH0uo, yH0uc, yH0vs, yH0eo, yH0ec, yH0ro, yH0rc, yH1o, yH1c, gH0, gH1, HBW, (u10 U0), (u10 U1), Lib.hid (fun h0 => frUpd_self), (u10 U3), (u10 U4), (u10 U5), (u10 U6), (u10 U7), (u10 U8), (u10 U9), (u10 U10), (k11 OC0), (k11 OC1), (k10 OH0), (k10 OH1), (k10 DH0_1), (k10 A2gH0), (k11 A3gH0), (k10 A4gH0), (k20 A5gH0H0), (k20 A5gH0H1), (k10 A2gH1), (k11 A3gH1), (k10 A4gH1), (k20 A5gH1H0), (k20 A5gH1H1), (k20 A6gH0gH1)⟩
        · skip
          refine wpOp_step (o := _) rfl (fun KK hKK => ?_)
          rw [if_pos (wanted_nil _ rfl)]
          have e111 := U2.out (hw.out 2 (by kernel_rfl)); have E111_ := (E111 u).trans e111
          skip
          go_simp
          refine (l_toJob kp mv c cs ph nx (by omega) _ (HA1.out.below hbw)).mono ?_; rintro e w2 ⟨vC1, rfl, OC1, hb⟩
          obtain ⟨yC1o, yC1c, rfl, -, -⟩ := OC1.shape
          have hbn := hb.size
          try dsimp only
          exact hKK _ _ ⟨_, P112 u _, yC0co, yC0cc, yC0uo, yC0uc, yC0vs, yC0eo, yC0ec, yC0ro, yC0rc, yC1o, yC1c, yH0co, yH0cc, yH0uo, yH0uc, yH0vs, yH0eo, yH0ec, yH0ro, yH0rc, yH1o, yH1c, gH0, gH1, (Lib.hid (hbw.trans (hb.mono (by rw [hps]; omega)))), (u10 U0), (u10 U1), (u10 U2), Lib.hid (fun h0 => frUpd_self), (u10 U4), (u10 U5), (u10 U6), (u10 U7), (u10 U8), (u10 U9), (u10 U10), (m11 (fun h => h.below hb) OC0), Lib.hid (fun h0 m0 => Own.mono OC1 (by omega)), (m10 (fun h => h.below hb) OH0), (m10 (fun h => Own.below h hb) OH1), (k10 DH0_1), (m10 (lt_grow hb.size) A2gH0), (m11 (fun h => h.below hb) A3gH0), (m10 (fun h => h.below hb) A4gH0), (k20 A5gH0H0), (k20 A5gH0H1), (m10 (lt_grow hb.size) A2gH1), (m11 (fun h => h.below hb) A3gH1), (m10 (fun h => h.below hb) A4gH1), (k20 A5gH1H0), (k20 A5gH1H1), (k20 A6gH0gH1)⟩
        · skip
          refine wpOp_step (o := _) rfl (fun KK hKK => ?_)
          rw [if_pos (wanted_nil _ rfl)]
          have E2_ := X2 u
          skip
          go_simp
          exact hKK _ _ ⟨_, P113 u _, yC0co, yC0cc, yC0uo, yC0uc, yC0vs, yC0eo, yC0ec, yC0ro, yC0rc, yC1o, yC1c, yH0co, yH0cc, yH0uo, yH0uc, yH0vs, yH0eo, yH0ec, yH0ro, yH0rc, yH1o, yH1c, gH0, gH1, HBW, (u10 U0), (u10 U1), (u10 U2), (u10 U3), Lib.hid (fun h0 => frUpd_self), (u10 U5), (u10 U6), (u10 U7), (u10 U8), (u10 U9), (u10 U10), (k11 OC0), (k11 OC1), (k10 OH0), (k10 OH1), (k10 DH0_1), (k10 A2gH0), (k11 A3gH0), (k10 A4gH0), (k20 A5gH0H0), (k20 A5gH0H1), (k10 A2gH1), (k11 A3gH1), (k10 A4gH1), (k20 A5gH1H0), (k20 A5gH1H1), (k20 A6gH0gH1)⟩
        · skip
          refine wpOp_step (o := _) rfl (fun KK hKK => ?_)
          rw [if_pos (wanted_nil _ rfl)]
          have e110 := U1.out (hw.out 1 (by kernel_rfl)); have E110_ := (E110 u).trans e110
          have e112 := U3.out (hw.out 3 (by kernel_rfl)); have E112_ := (E112 u).trans e112
          have e113 := U4.out (hw.out 4 (by kernel_rfl)); have E113_ := (E113 u).trans e113
          skip
          go_simp
          refine (HI.out _ _ _ (KOwn.at (OC0.out (hw.out 1 (by kernel_rfl)) hn)) (Own.at (OC1.out (hw.out 3 (by kernel_rfl)) hn) lenInt)).mono ?_; rintro e w2 ⟨yH0, vH1, rfl, OH0, OH1, DH0_1, hb⟩
          obtain ⟨yH0co, yH0cc, yH0uo, yH0uc, yH0vs, yH0eo, yH0ec, yH0ro, yH0rc, rfl⟩ := KOwn.shapes OH0
          obtain ⟨yH1o, yH1c, rfl, -, -⟩ := OH1.shape
          simp only [KV.val]
          have hbn := hb.size
          try dsimp only
          exact hKK _ _ ⟨_, P114 u _, yC0co, yC0cc, yC0uo, yC0uc, yC0vs, yC0eo, yC0ec, yC0ro, yC0rc, yC1o, yC1c, yH0co, yH0cc, yH0uo, yH0uc, yH0vs, yH0eo, yH0ec, yH0ro, yH0rc, yH1o, yH1c, gH0, gH1, (Lib.hid (hbw.trans (hb.mono (by rw [hps]; omega)))), (u10 U0), (u10 U1), (u10 U2), (u10 U3), (u10 U4), Lib.hid (fun h0 => frUpd_self), Lib.hid (fun h0 => absurd (hcl.out 6 5 (by kernel_rfl) (addD_of h0 (by decide))) hn), Lib.hid (fun h0 => absurd (hcl.out 6 5 (by kernel_rfl) (hcl.out 7 6 (by kernel_rfl) (addD_of h0 (by decide)))) hn), Lib.hid (fun h0 => absurd (hcl.out 6 5 (by kernel_rfl) (hcl.out 8 6 (by kernel_rfl) (addD_of h0 (by decide)))) hn), (u10 U9), (u10 U10), x11, x11, Lib.hid (fun h0 => KOwn.mono OH0 (by omega)), Lib.hid (fun h0 => Own.mono OH1 (by omega)), Lib.hid (fun h0 => DH0_1), (m10 (lt_grow hb.size) A2gH0), (m11 (fun h => h.below hb) A3gH0), Lib.hid (fun h0 => absurd (hcl.out 6 5 (by kernel_rfl) (hcl.out 7 6 (by kernel_rfl) (hcl.out 11 7 (by kernel_rfl) (addD_of h0 (by decide))))) hn), Lib.hid (fun h0 h1 => fun hm => Nat.lt_irrefl _ (Nat.lt_of_lt_of_le (A2gH0.out (addD_of h0 (by decide))).2 (((OH0).lts) _ hm).1)), Lib.hid (fun h0 h1 => fun hm => Nat.lt_irrefl _ (Nat.lt_of_lt_of_le (A2gH0.out (addD_of h0 (by decide))).2 ((Own.lts (OH1)) _ hm).1)), (m10 (lt_grow hb.size) A2gH1), (m11 (fun h => h.below hb) A3gH1), Lib.hid (fun h0 => absurd (hcl.out 6 5 (by kernel_rfl) (hcl.out 8 6 (by kernel_rfl) (hcl.out 12 8 (by kernel_rfl) (addD_of h0 (by decide))))) hn), Lib.hid (fun h0 h1 => fun hm => Nat.lt_irrefl _ (Nat.lt_of_lt_of_le (A2gH1.out (addD_of h0 (by decide))).2 (((OH0).lts) _ hm).1)), Lib.hid (fun h0 h1 => fun hm => Nat.lt_irrefl _ (Nat.lt_of_lt_of_le (A2gH1.out (addD_of h0 (by decide))).2 ((Own.lts (OH1)) _ hm).1)), (k20 A6gH0gH1)⟩
        · skip
          refine wpOp_step (o := _) rfl (fun KK hKK => ?_)
          rw [if_pos (wanted_nil _ rfl)]
          have e114 := U5.out (hw.out 5 (by kernel_rfl)); have E114_ := (E114 u).trans e114
          skip
          go_simp
          exact hKK _ _ ⟨_, P108 u _, yC0co, yC0cc, yC0uo, yC0uc, yC0vs, yC0eo, yC0ec, yC0ro, yC0rc, yC1o, yC1c, yH0co, yH0cc, yH0uo, yH0uc, yH0vs, yH0eo, yH0ec, yH0ro, yH0rc, yH1o, yH1c, gH0, gH1, HBW, (u10 U0), (u10 U1), (u10 U2), (u10 U3), (u10 U4), (u10 U5), Lib.hid (fun h0 => frUpd_self), (u10 U7), (u10 U8), (u10 U9), (u10 U10), (k11 OC0), (k11 OC1), (k10 OH0), (k10 OH1), (k10 DH0_1), (k10 A2gH0), (k11 A3gH0), (k10 A4gH0), (k20 A5gH0H0), (k20 A5gH0H1), (k10 A2gH1), (k11 A3gH1), (k10 A4gH1), (k20 A5gH1H0), (k20 A5gH1H1), (k20 A6gH0gH1)⟩
        · skip
          refine wpOp_step (o := _) rfl (fun KK hKK => ?_)
          rw [if_pos (wanted_nil _ rfl)]
          have e108 := U6.out (hw.out 6 (by kernel_rfl)); have E108_ := (E108 u).trans e108
          skip
          go_simp
          exact hKK _ _ ⟨_, P115 u _, yC0co, yC0cc, yC0uo, yC0uc, yC0vs, yC0eo, yC0ec, yC0ro, yC0rc, yC1o, yC1c, yH0co, yH0cc, yH0uo, yH0uc, yH0vs, yH0eo, yH0ec, yH0ro, yH0rc, yH1o, yH1c, gH0, gH1, HBW, (u10 U0), (u10 U1), (u10 U2), (u10 U3), (u10 U4), (u10 U5), (u10 U6), Lib.hid (fun h0 => frUpd_self), (u10 U8), (u10 U9), (u10 U10), (k11 OC0), (k11 OC1), (k10 OH0), (k10 OH1), (k10 DH0_1), (k10 A2gH0), (k11 A3gH0), (k10 A4gH0), (k20 A5gH0H0), (k20 A5gH0H1), (k10 A2gH1), (k11 A3gH1), (k10 A4gH1), (k20 A5gH1H0), (k20 A5gH1H1), (k20 A6gH0gH1)⟩
        · skip
          refine wpOp_step (o := _) rfl (fun KK hKK => ?_)
          rw [if_pos (wanted_nil _ rfl)]
          have e108 := U6.out (hw.out 6 (by kernel_rfl)); have E108_ := (E108 u).trans e108
          skip
          go_simp
          exact hKK _ _ ⟨_, P116 u _, yC0co, yC0cc, yC0uo, yC0uc, yC0vs, yC0eo, yC0ec, yC0ro, yC0rc, yC1o, yC1c, yH0co, yH0cc, yH0uo, yH0uc, yH0vs, yH0eo, yH0ec, yH0ro, yH0rc, yH1o, yH1c, gH0, gH1, HBW, (u10 U0), (u10 U1), (u10 U2), (u10 U3), (u10 U4), (u10 U5), (u10 U6), (u10 U7), Lib.hid (fun h0 => frUpd_self), (u10 U9), (u10 U10), (k11 OC0), (k11 OC1), (k10 OH0), (k10 OH1), (k10 DH0_1), (k10 A2gH0), (k11 A3gH0), (k10 A4gH0), (k20 A5gH0H0), (k20 A5gH0H1), (k10 A2gH1), (k11 A3gH1), (k10 A4gH1), (k20 A5gH1H0), (k20 A5gH1H1), (k20 A6gH0gH1)⟩
        · skip
          refine wpOp_step (o := _) rfl (fun KK hKK => ?_)
          rw [if_pos (wanted_nil _ rfl)]
          skip
          go_simp
          have hb : Below wv.heap.size wv (wv.alloc (.cells #[.slice none 0 0, .slice none 0 0, .slice none 0 0, .int .i64 0, .slice none 0 0] 46)) := (Below.refl _ wv).alloc (Nat.le_refl _) (.cells #[.slice none 0 0, .slice none 0 0, .slice none 0 0, .int .i64 0, .slice none 0 0] 46)
          have hbn : wv.heap.size < (wv.alloc (.cells #[.slice none 0 0, .slice none 0 0, .slice none 0 0, .int .i64 0, .slice none 0 0] 46)).heap.size := by rw [World.size_alloc]; omega
          have BN : BoxAt (wv.alloc (.cells #[.slice none 0 0, .slice none 0 0, .slice none 0 0, .int .i64 0, .slice none 0 0] 46)) wv.heap.size [.slice none 0 0, .slice none 0 0, .slice none 0 0, .int .i64 0, .slice none 0 0] := (BoxAt.snoc (BoxAt.snoc (BoxAt.snoc (BoxAt.snoc (BoxAt.snoc (BoxAt.nil (w := (wv.alloc (.cells #[.slice none 0 0, .slice none 0 0, .slice none 0 0, .int .i64 0, .slice none 0 0] 46))) (g := wv.heap.size) (by go_simp)) (v := .slice none 0 0) (i := 0) rfl (by go_simp) (by go_simp)) (v := .slice none 0 0) (i := 1) rfl (by go_simp) (by go_simp)) (v := .slice none 0 0) (i := 2) rfl (by go_simp) (by go_simp)) (v := .int .i64 0) (i := 3) rfl (by go_simp) (by go_simp)) (v := .slice none 0 0) (i := 4) rfl (by go_simp) (by go_simp))
          exact hKK _ _ ⟨_, P17 u _, yC0co, yC0cc, yC0uo, yC0uc, yC0vs, yC0eo, yC0ec, yC0ro, yC0rc, yC1o, yC1c, yH0co, yH0cc, yH0uo, yH0uc, yH0vs, yH0eo, yH0ec, yH0ro, yH0rc, yH1o, yH1c, wv.heap.size, gH1, (Lib.hid (hbw.trans (hb.mono (by rw [hps]; omega)))), (u10 U0), (u10 U1), (u10 U2), (u10 U3), (u10 U4), (u10 U5), (u10 U6), (u10 U7), (u10 U8), Lib.hid (fun h0 => frUpd_self), (u10 U10), (m11 (fun h => h.below hb) OC0), (m11 (fun h => Own.below h hb) OC1), (m10 (fun h => h.below hb) OH0), (m10 (fun h => Own.below h hb) OH1), (k10 DH0_1), Lib.hid (fun h0 => ⟨by omega, hbn⟩), Lib.hid (fun h0 m0 => BN), Lib.hid (fun h0 => absurd (hcl.out 11 9 (by kernel_rfl) (addD_of h0 (by decide))) hn), Lib.hid (fun h0 h1 => fun hm => Nat.lt_irrefl _ ((((OH0.out (addD_of h1 (by decide)))).lts) _ hm).2), Lib.hid (fun h0 h1 => fun hm => Nat.lt_irrefl _ ((Own.lts ((OH1.out (addD_of h1 (by decide))))) _ hm).2), (m10 (lt_grow hb.size) A2gH1), (m11 (fun h => h.below hb) A3gH1), (m10 (fun h => h.below hb) A4gH1), (k20 A5gH1H0), (k20 A5gH1H1), Lib.hid (fun h0 h1 => Nat.ne_of_gt (A2gH1.out (addD_of h1 (by decide))).2)⟩
        · skip
          refine wpOp_step (o := _) rfl (fun KK hKK => ?_)
          rw [if_pos (wanted_nil _ rfl)]
          skip
          go_simp
          have hb : Below wv.heap.size wv (wv.alloc (.cells #[.int .i64 0, .int .i64 0, .slice none 0 0, .int .i64 0, .int .i64 0] 68)) := (Below.refl _ wv).alloc (Nat.le_refl _) (.cells #[.int .i64 0, .int .i64 0, .slice none 0 0, .int .i64 0, .int .i64 0] 68)
          have hbn : wv.heap.size < (wv.alloc (.cells #[.int .i64 0, .int .i64 0, .slice none 0 0, .int .i64 0, .int .i64 0] 68)).heap.size := by rw [World.size_alloc]; omega
          have BN : BoxAt (wv.alloc (.cells #[.int .i64 0, .int .i64 0, .slice none 0 0, .int .i64 0, .int .i64 0] 68)) wv.heap.size [.int .i64 0, .int .i64 0, .slice none 0 0, .int .i64 0, .int .i64 0] := (BoxAt.snoc (BoxAt.snoc (BoxAt.snoc (BoxAt.snoc (BoxAt.snoc (BoxAt.nil (w := (wv.alloc (.cells #[.int .i64 0, .int .i64 0, .slice none 0 0, .int .i64 0, .int .i64 0] 68))) (g := wv.heap.size) (by go_simp)) (v := .int .i64 0) (i := 0) rfl (by go_simp) (by go_simp)) (v := .int .i64 0) (i := 1) rfl (by go_simp) (by go_simp)) (v := .slice none 0 0) (i := 2) rfl (by go_simp) (by go_simp)) (v := .int .i64 0) (i := 3) rfl (by go_simp) (by go_simp)) (v := .int .i64 0) (i := 4) rfl (by go_simp) (by go_simp))
          exact hKK _ _ ⟨_, P18 u _, yC0co, yC0cc, yC0uo, yC0uc, yC0vs, yC0eo, yC0ec, yC0ro, yC0rc, yC1o, yC1c, yH0co, yH0cc, yH0uo, yH0uc, yH0vs, yH0eo, yH0ec, yH0ro, yH0rc, yH1o, yH1c, gH0, wv.heap.size, (Lib.hid (hbw.trans (hb.mono (by rw [hps]; omega)))), (u10 U0), (u10 U1), (u10 U2), (u10 U3), (u10 U4), (u10 U5), (u10 U6), (u10 U7), (u10 U8), (u10 U9), Lib.hid (fun h0 => frUpd_self), (m11 (fun h => h.below hb) OC0), (m11 (fun h => Own.below h hb) OC1), (m10 (fun h => h.below hb) OH0), (m10 (fun h => Own.below h hb) OH1), (k10 DH0_1), (m10 (lt_grow hb.size) A2gH0), (m11 (fun h => h.below hb) A3gH0), (m10 (fun h => h.below hb) A4gH0), (k20 A5gH0H0), (k20 A5gH0H1), Lib.hid (fun h0 => ⟨by omega, hbn⟩), Lib.hid (fun h0 m0 => BN), Lib.hid (fun h0 => absurd (hcl.out 12 10 (by kernel_rfl) (addD_of h0 (by decide))) hn), Lib.hid (fun h0 h1 => fun hm => Nat.lt_irrefl _ ((((OH0.out (addD_of h1 (by decide)))).lts) _ hm).2), Lib.hid (fun h0 h1 => fun hm => Nat.lt_irrefl _ ((Own.lts ((OH1.out (addD_of h1 (by decide))))) _ hm).2), Lib.hid (fun h0 h1 => Nat.ne_of_lt (A2gH0.out (addD_of h0 (by decide))).2)⟩
        · skip
          refine wpOp_step (o := _) rfl (fun KK hKK => ?_)
          rw [if_pos (wanted_nil _ rfl)]
          have e17 := U9.out (hw.out 9 (by kernel_rfl)); have E17_ := (E17 u).trans e17
          have e115 := U7.out (hw.out 7 (by kernel_rfl)); have E115_ := (E115 u).trans e115
          have bx := A3gH0.out (hw.out 9 (by kernel_rfl)) hn
          have c0 := (bx.cells 0 _ rfl).1; have f0 := (bx.cells 0 _ rfl).2
          have c1 := (bx.cells 1 _ rfl).1; have f1 := (bx.cells 1 _ rfl).2
          have c2 := (bx.cells 2 _ rfl).1; have f2 := (bx.cells 2 _ rfl).2
          have c3 := (bx.cells 3 _ rfl).1; have f3 := (bx.cells 3 _ rfl).2
          have c4 := (bx.cells 4 _ rfl).1; have f4 := (bx.cells 4 _ rfl).2
          have hgl := A2gH0.out (hw.out 9 (by kernel_rfl))
          skip
          go_simp
          have ht : Touch [gH0] wv (((((wv.setCell ⟨gH0, 0, none⟩ (.slice yH0co yH0vs.length yH0cc)).setCell ⟨gH0, 1, none⟩ (.slice yH0uo K2.m.f.used.length yH0uc)).setCell ⟨gH0, 2, none⟩ (.slice yH0eo K2.m.ents.length yH0ec)).setCell ⟨gH0, 3, none⟩ (.int .i64 (K2.calls))).setCell ⟨gH0, 4, none⟩ (.slice yH0ro K2.refuse.length yH0rc)) := touch_bx (touch_bx (touch_bx (touch_bx (touch_bx (Touch.refl [gH0] wv)))))
          have hb := ht.toBelow (B := wR.heap.size) (fun g hg => by have := List.mem_singleton.1 hg; omega) (by omega)
          have BN : BoxAt (((((wv.setCell ⟨gH0, 0, none⟩ (.slice yH0co yH0vs.length yH0cc)).setCell ⟨gH0, 1, none⟩ (.slice yH0uo K2.m.f.used.length yH0uc)).setCell ⟨gH0, 2, none⟩ (.slice yH0eo K2.m.ents.length yH0ec)).setCell ⟨gH0, 3, none⟩ (.int .i64 (K2.calls))).setCell ⟨gH0, 4, none⟩ (.slice yH0ro K2.refuse.length yH0rc)) gH0 [.slice yH0co yH0vs.length yH0cc, .slice yH0uo K2.m.f.used.length yH0uc, .slice yH0eo K2.m.ents.length yH0ec, .int .i64 (K2.calls), .slice yH0ro K2.refuse.length yH0rc] := (BoxAt.snoc (BoxAt.snoc (BoxAt.snoc (BoxAt.snoc (BoxAt.snoc (BoxAt.nil (w := (((((wv.setCell ⟨gH0, 0, none⟩ (.slice yH0co yH0vs.length yH0cc)).setCell ⟨gH0, 1, none⟩ (.slice yH0uo K2.m.f.used.length yH0uc)).setCell ⟨gH0, 2, none⟩ (.slice yH0eo K2.m.ents.length yH0ec)).setCell ⟨gH0, 3, none⟩ (.int .i64 (K2.calls))).setCell ⟨gH0, 4, none⟩ (.slice yH0ro K2.refuse.length yH0rc))) (g := gH0) (by have := ht.size; omega)) (v := .slice yH0co yH0vs.length yH0cc) (i := 0) rfl (by go_simp) (by go_simp)) (v := .slice yH0uo K2.m.f.used.length yH0uc) (i := 1) rfl (by go_simp) (by go_simp)) (v := .slice yH0eo K2.m.ents.length yH0ec) (i := 2) rfl (by go_simp) (by go_simp)) (v := .int .i64 (K2.calls)) (i := 3) rfl (by go_simp) (by go_simp)) (v := .slice yH0ro K2.refuse.length yH0rc) (i := 4) rfl (by go_simp) (by go_simp))
          have HDM : D 5 := (hcl.out 6 5 (by kernel_rfl) (hcl.out 7 6 (by kernel_rfl) (hw.out 7 (by kernel_rfl))))
          exact hKK _ _ ⟨u, rfl, yC0co, yC0cc, yC0uo, yC0uc, yC0vs, yC0eo, yC0ec, yC0ro, yC0rc, yC1o, yC1c, yH0co, yH0cc, yH0uo, yH0uc, yH0vs, yH0eo, yH0ec, yH0ro, yH0rc, yH1o, yH1c, gH0, gH1, (Lib.hid (hbw.trans (hb.mono (by rw [hps]; exact Nat.le_refl _)))), (k10 U0), (k10 U1), (k10 U2), (k10 U3), (k10 U4), (k10 U5), (k10 U6), (k10 U7), (k10 U8), (k10 U9), (k10 U10), Lib.hid (fun h0 m0 => absurd (addD_mem HDM) m0), Lib.hid (fun h0 m0 => absurd (addD_mem HDM) m0), (md10 (fun d h => h.touch ht (fun g hg hm => by cases List.mem_singleton.1 hm; exact A5gH0H0.out (hw.out 9 (by kernel_rfl)) d hg)) OH0), (md10 (fun d h => Own.touchs h ht (fun g hg hm => by cases List.mem_singleton.1 hm; exact A5gH0H1.out (hw.out 9 (by kernel_rfl)) d hg)) OH1), (k10 DH0_1), (m10 (lt_grow ht.size) A2gH0), x11, Lib.hid (fun h0 => BN), (k20 A5gH0H0), (k20 A5gH0H1), (m10 (lt_grow ht.size) A2gH1), Lib.hid (fun h0 m0 => (A3gH1.out (addD_of h0 (by decide)) (fun x => m0 (addD_mem x))).touch ht (fun hm => (A6gH0gH1.out (hw.out 9 (by kernel_rfl)) (addD_of h0 (by decide))) (List.mem_singleton.1 hm).symm)), Lib.hid (fun h0 => (A4gH1.out (addD_of h0 (by decide))).touch ht (fun hm => (A6gH0gH1.out (hw.out 9 (by kernel_rfl)) (hcl.out 12 10 (by kernel_rfl) (addD_of h0 (by decide)))) (List.mem_singleton.1 hm).symm)), (k20 A5gH1H0), (k20 A5gH1H1), (k20 A6gH0gH1)⟩
        · skip
          refine wpOp_step (o := _) rfl (fun KK hKK => ?_)
          rw [if_pos (wanted_nil _ rfl)]
          have e18 := U10.out (hw.out 10 (by kernel_rfl)); have E18_ := (E18 u).trans e18
          have e116 := U8.out (hw.out 8 (by kernel_rfl)); have E116_ := (E116 u).trans e116
          have bx := A3gH1.out (hw.out 10 (by kernel_rfl)) hn
          have c0 := (bx.cells 0 _ rfl).1; have f0 := (bx.cells 0 _ rfl).2
          have c1 := (bx.cells 1 _ rfl).1; have f1 := (bx.cells 1 _ rfl).2
          have c2 := (bx.cells 2 _ rfl).1; have f2 := (bx.cells 2 _ rfl).2
          have c3 := (bx.cells 3 _ rfl).1; have f3 := (bx.cells 3 _ rfl).2
          have c4 := (bx.cells 4 _ rfl).1; have f4 := (bx.cells 4 _ rfl).2
          have hgl := A2gH1.out (hw.out 10 (by kernel_rfl))
          skip
          go_simp
          have ht : Touch [gH1] wv (((((wv.setCell ⟨gH1, 0, none⟩ (.int .i64 kp)).setCell ⟨gH1, 1, none⟩ (.int .i64 mv)).setCell ⟨gH1, 2, none⟩ (.slice yH1o cs.length yH1c)).setCell ⟨gH1, 3, none⟩ (.int .i64 ph2)).setCell ⟨gH1, 4, none⟩ (.int .i64 nx2)) := touch_bx (touch_bx (touch_bx (touch_bx (touch_bx (Touch.refl [gH1] wv)))))
          have hb := ht.toBelow (B := wR.heap.size) (fun g hg => by have := List.mem_singleton.1 hg; omega) (by omega)
          have BN : BoxAt (((((wv.setCell ⟨gH1, 0, none⟩ (.int .i64 kp)).setCell ⟨gH1, 1, none⟩ (.int .i64 mv)).setCell ⟨gH1, 2, none⟩ (.slice yH1o cs.length yH1c)).setCell ⟨gH1, 3, none⟩ (.int .i64 ph2)).setCell ⟨gH1, 4, none⟩ (.int .i64 nx2)) gH1 [.int .i64 kp, .int .i64 mv, .slice yH1o cs.length yH1c, .int .i64 ph2, .int .i64 nx2] := (BoxAt.snoc (BoxAt.snoc (BoxAt.snoc (BoxAt.snoc (BoxAt.snoc (BoxAt.nil (w := (((((wv.setCell ⟨gH1, 0, none⟩ (.int .i64 kp)).setCell ⟨gH1, 1, none⟩ (.int .i64 mv)).setCell ⟨gH1, 2, none⟩ (.slice yH1o cs.length yH1c)).setCell ⟨gH1, 3, none⟩ (.int .i64 ph2)).setCell ⟨gH1, 4, none⟩ (.int .i64 nx2))) (g := gH1) (by have := ht.size; omega)) (v := .int .i64 kp) (i := 0) rfl (by go_simp) (by go_simp)) (v := .int .i64 mv) (i := 1) rfl (by go_simp) (by go_simp)) (v := .slice yH1o cs.length yH1c) (i := 2) rfl (by go_simp) (by go_simp)) (v := .int .i64 ph2) (i := 3) rfl (by go_simp) (by go_simp)) (v := .int .i64 nx2) (i := 4) rfl (by go_simp) (by go_simp))
          have HDM : D 5 := (hcl.out 6 5 (by kernel_rfl) (hcl.out 8 6 (by kernel_rfl) (hw.out 8 (by kernel_rfl))))
          exact hKK _ _ ⟨u, rfl, yC0co, yC0cc, yC0uo, yC0uc, yC0vs, yC0eo, yC0ec, yC0ro, yC0rc, yC1o, yC1c, yH0co, yH0cc, yH0uo, yH0uc, yH0vs, yH0eo, yH0ec, yH0ro, yH0rc, yH1o, yH1c, gH0, gH1, (Lib.hid (hbw.trans (hb.mono (by rw [hps]; exact Nat.le_refl _)))), (k10 U0), (k10 U1), (k10 U2), (k10 U3), (k10 U4), (k10 U5), (k10 U6), (k10 U7), (k10 U8), (k10 U9), (k10 U10), Lib.hid (fun h0 m0 => absurd (addD_mem HDM) m0), Lib.hid (fun h0 m0 => absurd (addD_mem HDM) m0), (md10 (fun d h => h.touch ht (fun g hg hm => by cases List.mem_singleton.1 hm; exact A5gH1H0.out (hw.out 10 (by kernel_rfl)) d hg)) OH0), (md10 (fun d h => Own.touchs h ht (fun g hg hm => by cases List.mem_singleton.1 hm; exact A5gH1H1.out (hw.out 10 (by kernel_rfl)) d hg)) OH1), (k10 DH0_1), (m10 (lt_grow ht.size) A2gH0), Lib.hid (fun h0 m0 => (A3gH0.out (addD_of h0 (by decide)) (fun x => m0 (addD_mem x))).touch ht (fun hm => (A6gH0gH1.out (addD_of h0 (by decide)) (hw.out 10 (by kernel_rfl))) (List.mem_singleton.1 hm))), Lib.hid (fun h0 => (A4gH0.out (addD_of h0 (by decide))).touch ht (fun hm => (A6gH0gH1.out (hcl.out 11 9 (by kernel_rfl) (addD_of h0 (by decide))) (hw.out 10 (by kernel_rfl))) (List.mem_singleton.1 hm))), (k20 A5gH0H0), (k20 A5gH0H1), (m10 (lt_grow ht.size) A2gH1), x11, Lib.hid (fun h0 => BN), (k20 A5gH1H0), (k20 A5gH1H1), (k20 A6gH0gH1)⟩
      · rintro D u wv ⟨yC0co, yC0cc, yC0uo, yC0uc, yC0vs, yC0eo, yC0ec, yC0ro, yC0rc, yC1o, yC1c, yH0co, yH0cc, yH0uo, yH0uc, yH0vs, yH0eo, yH0ec, yH0ro, yH0rc, yH1o, yH1c, gH0, gH1, HBW, U0, U1, U2, U3, U4, U5, U6, U7, U8, U9, U10, OC0, OC1, OH0, OH1, DH0_1, A2gH0, A3gH0, A4gH0, A5gH0H0, A5gH0H1, A2gH1, A3gH1, A4gH1, A5gH1H0, A5gH1H1, A6gH0gH1⟩ hall
        have d0 := hall 0 (by show 0 < 13; decide)
        have d1 := hall 1 (by show 1 < 13; decide)
        have d2 := hall 2 (by show 2 < 13; decide)
        have d3 := hall 3 (by show 3 < 13; decide)
        have d4 := hall 4 (by show 4 < 13; decide)
        have d5 := hall 5 (by show 5 < 13; decide)
        have d6 := hall 6 (by show 6 < 13; decide)
        have d7 := hall 7 (by show 7 < 13; decide)
        have d8 := hall 8 (by show 8 < 13; decide)
        have d9 := hall 9 (by show 9 < 13; decide)
        have d10 := hall 10 (by show 10 < 13; decide)
        have d11 := hall 11 (by show 11 < 13; decide)
        have d12 := hall 12 (by show 12 < 13; decide)
        have ha1 := ha0.out; subst ha1
        simp only [frAll, frTo, List.setIfInBounds_toArray, List.set_cons_succ, List.set_cons_zero]
        go_wp2_with fail
        go_meet
        exact ⟨yH0co, yH0cc, yH0uo, yH0uc, yH0vs, yH0eo, yH0ec, yH0ro, yH0rc, yH1o, yH1c, gH0, gH1, (U9.out d9), (U10.out d10), (A4gH0.out d11), (A4gH1.out d12), (OH0.out d5), (OH1.out d5), (A5gH0H0.out d9 d5), (A5gH0H1.out d9 d5), (A5gH1H0.out d10 d5), (A5gH1H1.out d10 d5), (DH0_1.out d5), (A2gH0.out d9).1, (A2gH1.out d10).1, HBW.out⟩
  obtain ⟨yH0co, yH0cc, yH0uo, yH0uc, yH0vs, yH0eo, yH0ec, yH0ro, yH0rc, yH1o, yH1c, gH0, gH1, rfl, rfl, BH0, BH1, OH0, OH1, NH0_H0, NH0_H1, NH1_H0, NH1_H1, DH0_1, hloH0, hloH1, hb⟩ := hcut
  obtain ⟨w2, rfl⟩ : ∃ x, x = wc := ⟨_, rfl⟩
  clear xP0 cP00 fP00 cP01 fP01 cP02 fP02 cP03 fP03 cP04 fP04
  clear xP1 cP10 fP10 cP11 fP11 cP12 fP12 cP13 fP13 cP14 fP14
  replace BP0 := Lib.hid (BP0.out.below hb)
  replace BP1 := Lib.hid (BP1.out.below hb)
  replace BW0 := Lib.hid (BW0.out.below hb)
  replace BW1 := Lib.hid (BW1.out.below hb)
  replace BG0 := Lib.hid (BG0.out.below hb)
  replace BG1 := Lib.hid (BG1.out.below hb)
  replace OW0 := Lib.hid (OW0.out.below hb)
  replace OW1 := Lib.hid (Own.below OW1.out hb)
  replace OG0 := Lib.hid (OG0.out.below hb)
  replace OG1 := Lib.hid (Own.below OG1.out hb)
  replace HA0 := Lib.hid (HA0.out.below hb)
  replace HA1 := Lib.hid (HA1.out.below hb)
  replace HT := Lib.hid (HT.out.trans (hb.mono HT.out.size))
  have zwS := hb.size; (try simp only [World.size_alloc] at zwS); clear hb; obtain ⟨wS, rfl⟩ : ∃ x, x = w2 := ⟨_, rfl⟩
  have hgtH0 := BH0.lt; replace BH0 := Lib.hid BH0
  have hgtH1 := BH1.lt; replace BH1 := Lib.hid BH1
  have LH0 := Lib.hid (OH0.lts); replace OH0 := Lib.hid OH0
  have LH1 := Lib.hid (Own.lts OH1); replace OH1 := Lib.hid OH1
  replace NH0_H0 := Lib.hid NH0_H0
  replace NH0_H1 := Lib.hid NH0_H1
  replace NH1_H0 := Lib.hid NH1_H0
  replace NH1_H1 := Lib.hid NH1_H1
  replace DH0_1 := Lib.hid DH0_1
  have cH00 := (BH0.out.cells 0 _ rfl).1; have fH00 := (BH0.out.cells 0 _ rfl).2
  have cH01 := (BH0.out.cells 1 _ rfl).1; have fH01 := (BH0.out.cells 1 _ rfl).2
  have cH02 := (BH0.out.cells 2 _ rfl).1; have fH02 := (BH0.out.cells 2 _ rfl).2
  have cH03 := (BH0.out.cells 3 _ rfl).1; have fH03 := (BH0.out.cells 3 _ rfl).2
  have cH04 := (BH0.out.cells 4 _ rfl).1; have fH04 := (BH0.out.cells 4 _ rfl).2
  have xH0 := BH0.out.lt
  have cW00 := (BW0.out.cells 0 _ rfl).1; have fW00 := (BW0.out.cells 0 _ rfl).2
  have cW01 := (BW0.out.cells 1 _ rfl).1; have fW01 := (BW0.out.cells 1 _ rfl).2
  have cW02 := (BW0.out.cells 2 _ rfl).1; have fW02 := (BW0.out.cells 2 _ rfl).2
  have cW03 := (BW0.out.cells 3 _ rfl).1; have fW03 := (BW0.out.cells 3 _ rfl).2
  have cW04 := (BW0.out.cells 4 _ rfl).1; have fW04 := (BW0.out.cells 4 _ rfl).2
  have xW0 := BW0.out.lt
  go_wp2_with fail
  refine (l_eqKernel _ _ (⟨⟨⟨.slice yH0co yH0vs.length yH0cc, .slice yH0uo K2.m.f.used.length yH0uc, yH0vs⟩, .slice yH0eo K2.m.ents.length yH0ec⟩, .slice yH0ro K2.refuse.length yH0rc⟩ : KV) (⟨⟨⟨.slice yW0co yW0vs.length yW0cc, .slice yW0uo K2.m.f.used.length yW0uc, yW0vs⟩, .slice yW0eo K2.m.ents.length yW0ec⟩, .slice yW0ro K2.refuse.length yW0rc⟩ : KV) _ _ OH0.out OW0.out).mono ?_; rintro e w2 ⟨rfl, hb⟩
  clear xH0 cH00 fH00 cH01 fH01 cH02 fH02 cH03 fH03 cH04 fH04
  clear xW0 cW00 fW00 cW01 fW01 cW02 fW02 cW03 fW03 cW04 fW04
  replace BP0 := Lib.hid (BP0.out.below hb)
  replace BP1 := Lib.hid (BP1.out.below hb)
  replace BW0 := Lib.hid (BW0.out.below hb)
  replace BW1 := Lib.hid (BW1.out.below hb)
  replace BG0 := Lib.hid (BG0.out.below hb)
  replace BG1 := Lib.hid (BG1.out.below hb)
  replace BH0 := Lib.hid (BH0.out.below hb)
  replace BH1 := Lib.hid (BH1.out.below hb)
  replace OW0 := Lib.hid (OW0.out.below hb)
  replace OW1 := Lib.hid (Own.below OW1.out hb)
  replace OG0 := Lib.hid (OG0.out.below hb)
  replace OG1 := Lib.hid (Own.below OG1.out hb)
  replace OH0 := Lib.hid (OH0.out.below hb)
  replace OH1 := Lib.hid (Own.below OH1.out hb)
  replace HA0 := Lib.hid (HA0.out.below hb)
  replace HA1 := Lib.hid (HA1.out.below hb)
  replace HT := Lib.hid (HT.out.trans (hb.mono HT.out.size))
  have zwT := hb.size; (try simp only [World.size_alloc] at zwT); clear hb; obtain ⟨wT, rfl⟩ : ∃ x, x = w2 := ⟨_, rfl⟩
  have cH10 := (BH1.out.cells 0 _ rfl).1; have fH10 := (BH1.out.cells 0 _ rfl).2
  have cH11 := (BH1.out.cells 1 _ rfl).1; have fH11 := (BH1.out.cells 1 _ rfl).2
  have cH12 := (BH1.out.cells 2 _ rfl).1; have fH12 := (BH1.out.cells 2 _ rfl).2
  have cH13 := (BH1.out.cells 3 _ rfl).1; have fH13 := (BH1.out.cells 3 _ rfl).2
  have cH14 := (BH1.out.cells 4 _ rfl).1; have fH14 := (BH1.out.cells 4 _ rfl).2
  have xH1 := BH1.out.lt
  have cW10 := (BW1.out.cells 0 _ rfl).1; have fW10 := (BW1.out.cells 0 _ rfl).2
  have cW11 := (BW1.out.cells 1 _ rfl).1; have fW11 := (BW1.out.cells 1 _ rfl).2
  have cW12 := (BW1.out.cells 2 _ rfl).1; have fW12 := (BW1.out.cells 2 _ rfl).2
  have cW13 := (BW1.out.cells 3 _ rfl).1; have fW13 := (BW1.out.cells 3 _ rfl).2
  have cW14 := (BW1.out.cells 4 _ rfl).1; have fW14 := (BW1.out.cells 4 _ rfl).2
  have xW1 := BW1.out.lt
  go_wp2_with fail
  refine (l_eqJob _ _ kp mv _ _ cs ph2 nx2 _ OH1.out OW1.out).mono ?_; rintro e w2 ⟨rfl, hb⟩
  clear xH1 cH10 fH10 cH11 fH11 cH12 fH12 cH13 fH13 cH14 fH14
  clear xW1 cW10 fW10 cW11 fW11 cW12 fW12 cW13 fW13 cW14 fW14
  replace BP0 := Lib.hid (BP0.out.below hb)
  replace BP1 := Lib.hid (BP1.out.below hb)
  replace BW0 := Lib.hid (BW0.out.below hb)
  replace BW1 := Lib.hid (BW1.out.below hb)
  replace BG0 := Lib.hid (BG0.out.below hb)
  replace BG1 := Lib.hid (BG1.out.below hb)
  replace BH0 := Lib.hid (BH0.out.below hb)
  replace BH1 := Lib.hid (BH1.out.below hb)
  replace OW0 := Lib.hid (OW0.out.below hb)
  replace OW1 := Lib.hid (Own.below OW1.out hb)
  replace OG0 := Lib.hid (OG0.out.below hb)
  replace OG1 := Lib.hid (Own.below OG1.out hb)
  replace OH0 := Lib.hid (OH0.out.below hb)
  replace OH1 := Lib.hid (Own.below OH1.out hb)
  replace HA0 := Lib.hid (HA0.out.below hb)
  replace HA1 := Lib.hid (HA1.out.below hb)
  replace HT := Lib.hid (HT.out.trans (hb.mono HT.out.size))
  have zwU := hb.size; (try simp only [World.size_alloc] at zwU); clear hb; obtain ⟨wU, rfl⟩ : ∃ x, x = w2 := ⟨_, rfl⟩
  have cG00 := (BG0.out.cells 0 _ rfl).1; have fG00 := (BG0.out.cells 0 _ rfl).2
  have cG01 := (BG0.out.cells 1 _ rfl).1; have fG01 := (BG0.out.cells 1 _ rfl).2
  have cG02 := (BG0.out.cells 2 _ rfl).1; have fG02 := (BG0.out.cells 2 _ rfl).2
  have cG03 := (BG0.out.cells 3 _ rfl).1; have fG03 := (BG0.out.cells 3 _ rfl).2
  have cG04 := (BG0.out.cells 4 _ rfl).1; have fG04 := (BG0.out.cells 4 _ rfl).2
  have xG0 := BG0.out.lt
  go_wp2_with fail
  refine (l_heldKernel _ (⟨⟨⟨.slice yG0co yG0vs.length yG0cc, .slice yG0uo K2.m.f.used.length yG0uc, yG0vs⟩, .slice yG0eo K2.m.ents.length yG0ec⟩, .slice yG0ro K2.refuse.length yG0rc⟩ : KV) K2 1 (by omega) _ OG0.out).mono ?_; rintro e w2 ⟨rfl, hb⟩
  clear xG0 cG00 fG00 cG01 fG01 cG02 fG02 cG03 fG03 cG04 fG04
  replace BP0 := Lib.hid (BP0.out.below hb)
  replace BP1 := Lib.hid (BP1.out.below hb)
  replace BW0 := Lib.hid (BW0.out.below hb)
  replace BW1 := Lib.hid (BW1.out.below hb)
  replace BG0 := Lib.hid (BG0.out.below hb)
  replace BG1 := Lib.hid (BG1.out.below hb)
  replace BH0 := Lib.hid (BH0.out.below hb)
  replace BH1 := Lib.hid (BH1.out.below hb)
  replace OW0 := Lib.hid (OW0.out.below hb)
  replace OW1 := Lib.hid (Own.below OW1.out hb)
  replace OG0 := Lib.hid (OG0.out.below hb)
  replace OG1 := Lib.hid (Own.below OG1.out hb)
  replace OH0 := Lib.hid (OH0.out.below hb)
  replace OH1 := Lib.hid (Own.below OH1.out hb)
  replace HA0 := Lib.hid (HA0.out.below hb)
  replace HA1 := Lib.hid (HA1.out.below hb)
  replace HT := Lib.hid (HT.out.trans (hb.mono HT.out.size))
  have zwV := hb.size; (try simp only [World.size_alloc] at zwV); clear hb; obtain ⟨wV, rfl⟩ : ∃ x, x = w2 := ⟨_, rfl⟩
  have cG10 := (BG1.out.cells 0 _ rfl).1; have fG10 := (BG1.out.cells 0 _ rfl).2
  have cG11 := (BG1.out.cells 1 _ rfl).1; have fG11 := (BG1.out.cells 1 _ rfl).2
  have cG12 := (BG1.out.cells 2 _ rfl).1; have fG12 := (BG1.out.cells 2 _ rfl).2
  have cG13 := (BG1.out.cells 3 _ rfl).1; have fG13 := (BG1.out.cells 3 _ rfl).2
  have cG14 := (BG1.out.cells 4 _ rfl).1; have fG14 := (BG1.out.cells 4 _ rfl).2
  have xG1 := BG1.out.lt
  go_wp2_with fail
  refine (l_heldJob _ kp mv _ cs.length ph2 nx2 _ (by omega) _ OG1.out).mono ?_; rintro e w2 ⟨rfl, hb⟩
  clear xG1 cG10 fG10 cG11 fG11 cG12 fG12 cG13 fG13 cG14 fG14
  replace BP0 := Lib.hid (BP0.out.below hb)
  replace BP1 := Lib.hid (BP1.out.below hb)
  replace BW0 := Lib.hid (BW0.out.below hb)
  replace BW1 := Lib.hid (BW1.out.below hb)
  replace BG0 := Lib.hid (BG0.out.below hb)
  replace BG1 := Lib.hid (BG1.out.below hb)
  replace BH0 := Lib.hid (BH0.out.below hb)
  replace BH1 := Lib.hid (BH1.out.below hb)
  replace OW0 := Lib.hid (OW0.out.below hb)
  replace OW1 := Lib.hid (Own.below OW1.out hb)
  replace OG0 := Lib.hid (OG0.out.below hb)
  replace OG1 := Lib.hid (Own.below OG1.out hb)
  replace OH0 := Lib.hid (OH0.out.below hb)
  replace OH1 := Lib.hid (Own.below OH1.out hb)
  replace HA0 := Lib.hid (HA0.out.below hb)
  replace HA1 := Lib.hid (HA1.out.below hb)
  replace HT := Lib.hid (HT.out.trans (hb.mono HT.out.size))
  have zwW := hb.size; (try simp only [World.size_alloc] at zwW); clear hb; obtain ⟨wW, rfl⟩ : ∃ x, x = w2 := ⟨_, rfl⟩
  go_wp2_with fail
  go_ret
  exact ⟨rfl, HT.out⟩

namespace fnExactJobRun
set_option maxRecDepth 100000 in
theorem contract (H : Type) (enc : TypeId × Value → H) (W : World) (base : Nat) (args : Array Value) (ds gs : List (DataW H)) (before : List MemPlace)
    (hval : ∀ (j : Nat) t v, Tryz.f5.params[j]? = some t → args[j]? = some v → Value.okWide Tryz.prog W .any base t v)
    (hW : DataW.Whole enc Tryz.prog Tryz.f5.params.toList Rows.fnExactJobRunSpec.vars false W args.toList ds gs before) :
    Calls Tryz.prog 5 args W fun e W' => ∃ v, e = .returned v ∧ Rows.fnExactJobRunSpec.post enc Tryz.prog Tryz.f5 false true false false W args v W' := by
  have hW' := hW
  obtain ⟨p, q, hA0, hV, rfl, hfz, hnd⟩ := hW
  have hA : DataW.TrodAll enc Tryz.prog W 0 (fun _ => true) true Tryz.f5.params.toList args.toList ds p := hA0
  rw [Tryz.params5] at hA hval
  obtain ⟨v0, vs0, d0, ds0, p0, q0, hargs, rfl, rfl, h0, r0⟩ := trodAll_cons hA
  obtain ⟨v1, vs1, d1, ds1, p1, q1, rfl, rfl, rfl, h1, r1⟩ := trodAll_cons r0
  obtain ⟨v2, vs2, d2, ds2, p2, q2, rfl, rfl, rfl, h2, r2⟩ := trodAll_cons r1
  obtain ⟨rfl, rfl, rfl⟩ := trodAll_nil r2
  obtain rfl : args = #[v0, v1, v2] := by cases args; simp_all
  obtain ⟨rfl, rfl⟩ := trodVars_none hV
  obtain ⟨x, K, rfl, hxK, wK⟩ := kernel_open (hval 0 33 v0 rfl rfl) h0
  obtain ⟨kp, mv, c, cs, ph, nx, rfl, hcs, wkp, wmv, wph, wnx⟩ := job_open (hval 1 64 v1 rfl rfl) h1
  obtain ⟨most, rfl, rfl, rfl, wmost⟩ := open_int Tryz.underlying3 (hval 2 3 v2 rfl rfl) h2
  clear hA0
  refine (w_FnExactJobRun x K kp mv c cs ph nx most W hxK hcs).mono fun e W' ⟨he, hg⟩ => ?_
  subst he
  exact ⟨_, rfl, law_post (tb := 4) laidOut (by kernel_rfl) rfl rfl Tryz.underlying4 hW' rfl rfl rfl hg⟩
set_option maxRecDepth 100000 in
theorem lifted (os : Os) (started : os.Started) (H : Type) (enc : TypeId × Value → H) :
    ReturnsInHanded {} Tryz.checked os 5 .any (Rows.fnExactJobRunSpec.pre6 enc Tryz.prog Tryz.f5 Rows.fnExactJobRunRow.domain false) (Rows.fnExactJobRunSpec.post enc Tryz.prog Tryz.f5 false true false false) := by
  refine returnsInHanded_of_change (C := Tryz.checked) own started (by kernel_rfl) Tryz.func5
    (ChangeSpec.witness6 (enc := enc) (C := Tryz.checked) false ⟨#[], #[.agg #[.slice none 0 0, .slice none 0 0, .slice none 0 0, .int .i64 0, .slice none 0 0], .agg #[.int .i64 0, .int .i64 0, .slice none 0 0, .int .i64 0, .int .i64 0], .int .i64 0], []⟩ 8 (by kernel_rfl) (by kernel_rfl) (by kernel_rfl) (by kernel_rfl)) ?_
  intro W base args ds gs before hval hW _ _
  exact contract H enc W base args ds gs before hval hW
/-- The statement. -/
theorem proved : Rows.FnExactJobRunSaid :=
  OpenClaim.holds_of_wide 5 Tryz.f5 rfl rfl rfl rfl rfl rfl rfl ⟨rfl, rfl, rfl, rfl, rfl⟩ rfl rfl rfl rfl rfl (by kernel_rfl) Tryz.func5 (by kernel_rfl)
    (of_decide_eq_true (by kernel_rfl)) (by unfold Func.isWrapper; first | (rw [if_pos (by decide +kernel)]; kernel_rfl) | (rw [if_neg (by decide +kernel)]; exact ⟨rfl, rfl⟩))
    (fun os started H enc _ => lifted os started H enc)
end fnExactJobRun

end Go.Proofs.YtmblkllijjlkoaaGreat
