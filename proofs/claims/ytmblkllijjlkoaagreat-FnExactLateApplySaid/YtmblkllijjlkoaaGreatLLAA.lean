/- 'laws.FnExactLateApply' returns true, whatever the arguments: no condition. -/
import Derived.Test.YtmblkllijjlkoaaGreatGLAA
import Derived.Test.YtmblkllijjlkoaaGreatInvR
import Derived.Test.YtmblkllijjlkoaaGreatKMark
import Derived.Test.YtmblkllijjlkoaaGreatKEq
import Derived.Test.YtmblkllijjlkoaaGreatOpenK
import Derived.Deep.DeepCutAuto
set_option linter.unusedVariables false
set_option linter.unusedSimpArgs false
namespace Go.Proofs.YtmblkllijjlkoaaGreat
open Go.ChangeShapes Go.WideShapes Go.ChangeAt Go.RowKit
theorem cntK_le {K : Ker} (h : szK K ≤ 1048576) : cntK K ≤ 2097152 := by
  unfold szK szM szF at h
  unfold cntK cntM cntF
  omega
set_option maxRecDepth 100000 in
set_option maxHeartbeats 12800000 in
theorem w_FnExactLateApply (x : KV) (K : Ker) (vu : Value) (ss : List Sp) (vx : Value) (xs : List Lt) (w : World) (ha0 : KAt w x K) (ha1 : SpansAt w vu ss) (ha2 : LtAt w vx xs) : Calls Tryz.prog 3 #[x.val K.calls, vu, vx] w fun e w' => e = .returned (.bool true) ∧ Below w.heap.size w w' := by
  simp only [KV.val]; skip
  have HAw0 := Lib.hid ha0; have HA0 := Lib.hid ha0
  have HAw1 := Lib.hid ha1; have HA1 := Lib.hid ha1
  have HAw2 := Lib.hid ha2; have HA2 := Lib.hid ha2
  obtain ⟨ao1, ca1, hv1, hl1, hm1⟩ := ha1.shape
  have hlm1 := Nat.le_trans hl1 hm1; clear hl1 hm1; subst hv1
  have hl91 : ss.length ≤ 9223372036854775807 := by unfold maxLen at hlm1; omega
  obtain ⟨ao2, ca2, hv2, hl2, hm2⟩ := ha2.shape
  have hlm2 := Nat.le_trans hl2 hm2; clear hl2 hm2; subst hv2
  have hl92 : xs.length ≤ 9223372036854775807 := by unfold maxLen at hlm2; omega
  have HT := Lib.hid (Below.refl w.heap.size w)
  clear ha0 ha1 ha2
  by_cases hS0 : szK K ≤ 1048576
  rotate_left
  · (have hall := all_nil w; go_enter Tryz.func3, Tryz.ntmps3)
    go_wp2_with (first | (go_at_call 8; (refine (l_szKernel x K _ (by omega) _ (HA0.out.below (by exact bel))).mono ?_; rintro e w2 ⟨rfl, hb⟩; rw [szRes_neg (by omega)])))
    go_ret
    exact ⟨rfl, by exact bel⟩
  by_cases hS1 : szK K + ss.length ≤ 1048576
  rotate_left
  · (have hall := all_nil w; go_enter Tryz.func3, Tryz.ntmps3)
    go_wp2_with (first | (go_at_call 8; (refine (l_szKernel x K _ (by omega) _ (HA0.out.below (by exact bel))).mono ?_; rintro e w2 ⟨rfl, hb⟩; rw [szRes_pos (by omega)]; (first | have hn := nw4 hb hall (by exact zo) | have hn := nw3 hb hall (by exact zo) | have hn := nw2 hb hall (by exact zo) | have hn := nw1 hb hall (by exact zo) | have hn := nw0 hb hall (by exact zo)); obtain ⟨hc, hf, hn, hc0⟩ := hn; replace hall := hn; clear hn; have hz := hb.size; (try simp only [World.size_alloc, World.size_setCell, World.size_drew] at hz); have hx := hall; (try simp only [allLt, and_true] at hx); obtain ⟨w1, rfl⟩ : ∃ x, x = w2 := ⟨_, rfl⟩)) | (go_at_call 9; (refine (szSpanS' _ _ _ (by omega) _ (by omega) _).mono ?_; rintro e w2 ⟨rfl, hb⟩; rw [szRes_neg (by omega)])))
    go_ret
    exact ⟨rfl, by exact bel⟩
  by_cases hS2 : szK K + ss.length + xs.length ≤ 1048576
  rotate_left
  · (have hall := all_nil w; go_enter Tryz.func3, Tryz.ntmps3)
    go_wp2_with (first | (go_at_call 8; (refine (l_szKernel x K _ (by omega) _ (HA0.out.below (by exact bel))).mono ?_; rintro e w2 ⟨rfl, hb⟩; rw [szRes_pos (by omega)]; (first | have hn := nw4 hb hall (by exact zo) | have hn := nw3 hb hall (by exact zo) | have hn := nw2 hb hall (by exact zo) | have hn := nw1 hb hall (by exact zo) | have hn := nw0 hb hall (by exact zo)); obtain ⟨hc, hf, hn, hc0⟩ := hn; replace hall := hn; clear hn; have hz := hb.size; (try simp only [World.size_alloc, World.size_setCell, World.size_drew] at hz); have hx := hall; (try simp only [allLt, and_true] at hx); obtain ⟨w1, rfl⟩ : ∃ x, x = w2 := ⟨_, rfl⟩)) | (go_at_call 9; (refine (szSpanS' _ _ _ (by omega) _ (by omega) _).mono ?_; rintro e w2 ⟨rfl, hb⟩; rw [szRes_pos (by omega)]; (first | have hn := nw4 hb hall (by exact zo) | have hn := nw3 hb hall (by exact zo) | have hn := nw2 hb hall (by exact zo) | have hn := nw1 hb hall (by exact zo) | have hn := nw0 hb hall (by exact zo)); obtain ⟨hc, hf, hn, hc0⟩ := hn; replace hall := hn; clear hn; have hz := hb.size; (try simp only [World.size_alloc, World.size_setCell, World.size_drew] at hz); have hx := hall; (try simp only [allLt, and_true] at hx); obtain ⟨w1, rfl⟩ : ∃ x, x = w2 := ⟨_, rfl⟩)) | (go_at_call 10; (refine (szLateS' _ _ _ (by omega) _ (by omega) _).mono ?_; rintro e w2 ⟨rfl, hb⟩; rw [szRes_neg (by omega)])))
    go_ret
    exact ⟨rfl, by exact bel⟩
  have hcn := cntK_le (K := (laRun xs K ss).k) (by unfold laRun; rw [sz_laTo]; exact hS0)
  have hcK := cntK_le hS0
  have hsl : ss.length ≤ 1048576 := by omega
  have hxl : xs.length ≤ 1048576 := by omega
  have hrs : (laRun xs K ss).sp.length ≤ 1048576 := by unfold laRun; rw [laTo_len]; exact hsl
  have hrl : (laRun xs K ss).left.length ≤ 1048576 := by
    have h := laTo_left xs xs.length ⟨K, ss, []⟩
    unfold laRun
    simp only [List.length_nil] at h
    omega
  have HI := Lib.hid (fun y u z w (h : KAt w y K) (h2 : SpansAt w u ss) (h3 : LtAt w z xs) => i_LateApply y K u ss z xs hS0 hsl hxl w h h2 h3)
  have HS := Lib.hid (fun y u z w (h : KAt w y K) (h2 : SpansAt w u ss) (h3 : LtAt w z xs) => s_LateApply y K u ss z xs hS0 hsl hxl w h h2 h3)
  generalize (laRun xs K ss) = R2 at *
  obtain ⟨K2, sp, left⟩ := R2
  dsimp only at HI HS hcn hrs hrl
  (have hall := all_nil w; go_enter Tryz.func3, Tryz.ntmps3)
  go_wp2_with fail
  replace HA0 := Lib.hid (HA0.out.below ((Below.refl _ w).alloc (Nat.le_refl _) (.cells #[x.m.f.c, x.m.f.u, x.m.e, .int .i64 K.calls, x.r] 33)))
  replace HA1 := Lib.hid (HA1.out.below ((Below.refl _ w).alloc (Nat.le_refl _) (.cells #[x.m.f.c, x.m.f.u, x.m.e, .int .i64 K.calls, x.r] 33)))
  replace HA2 := Lib.hid (HA2.out.below ((Below.refl _ w).alloc (Nat.le_refl _) (.cells #[x.m.f.c, x.m.f.u, x.m.e, .int .i64 K.calls, x.r] 33)))
  replace HT := Lib.hid (HT.out.trans (((Below.refl _ w).alloc (Nat.le_refl _) (.cells #[x.m.f.c, x.m.f.u, x.m.e, .int .i64 K.calls, x.r] 33)).mono HT.out.size))
  have BP0 : Hid (BoxAt (w.alloc (.cells #[x.m.f.c, x.m.f.u, x.m.e, .int .i64 K.calls, x.r] 33)) (w.heap.size) [x.m.f.c, x.m.f.u, x.m.e, .int .i64 K.calls, x.r]) := (BoxAt.snoc (BoxAt.snoc (BoxAt.snoc (BoxAt.snoc (BoxAt.snoc (BoxAt.nil (w := w.alloc (.cells #[x.m.f.c, x.m.f.u, x.m.e, .int .i64 K.calls, x.r] 33)) (g := w.heap.size) (by go_simp)) (v := x.m.f.c) (i := 0) rfl (by go_simp) (by go_simp)) (v := x.m.f.u) (i := 1) rfl (by go_simp) (by go_simp)) (v := x.m.e) (i := 2) rfl (by go_simp) (by go_simp)) (v := .int .i64 K.calls) (i := 3) rfl (by go_simp) (by go_simp)) (v := x.r) (i := 4) rfl (by go_simp) (by go_simp))
  have cP00 := (BP0.out.cells 0 _ rfl).1; have fP00 := (BP0.out.cells 0 _ rfl).2
  have cP01 := (BP0.out.cells 1 _ rfl).1; have fP01 := (BP0.out.cells 1 _ rfl).2
  have cP02 := (BP0.out.cells 2 _ rfl).1; have fP02 := (BP0.out.cells 2 _ rfl).2
  have cP03 := (BP0.out.cells 3 _ rfl).1; have fP03 := (BP0.out.cells 3 _ rfl).2
  have cP04 := (BP0.out.cells 4 _ rfl).1; have fP04 := (BP0.out.cells 4 _ rfl).2
  have xP0 := BP0.out.lt
  go_wp2_with fail
  refine (l_szKernel x K _ (by omega) _ HA0.out).mono ?_; rintro e w2 ⟨rfl, hb⟩
  rw [szRes_pos (by omega)]
  clear xP0 cP00 fP00 cP01 fP01 cP02 fP02 cP03 fP03 cP04 fP04
  replace BP0 := Lib.hid (BP0.out.below hb)
  replace HA0 := Lib.hid (HA0.out.below hb)
  replace HA1 := Lib.hid (HA1.out.below hb)
  replace HA2 := Lib.hid (HA2.out.below hb)
  replace HT := Lib.hid (HT.out.trans (hb.mono HT.out.size))
  have zwA := hb.size; (try simp only [World.size_alloc] at zwA); clear hb; obtain ⟨wA, rfl⟩ : ∃ x, x = w2 := ⟨_, rfl⟩
  go_wp2_with fail
  refine (szSpanS' _ _ _ (by omega) _ (by omega) _).mono ?_; rintro e w2 ⟨rfl, hb⟩
  rw [szRes_pos (by omega)]
  replace BP0 := Lib.hid (BP0.out.below hb)
  replace HA0 := Lib.hid (HA0.out.below hb)
  replace HA1 := Lib.hid (HA1.out.below hb)
  replace HA2 := Lib.hid (HA2.out.below hb)
  replace HT := Lib.hid (HT.out.trans (hb.mono HT.out.size))
  have zwB := hb.size; (try simp only [World.size_alloc] at zwB); clear hb; obtain ⟨wB, rfl⟩ : ∃ x, x = w2 := ⟨_, rfl⟩
  go_wp2_with fail
  refine (szLateS' _ _ _ (by omega) _ (by omega) _).mono ?_; rintro e w2 ⟨rfl, hb⟩
  rw [szRes_pos (by omega)]
  replace BP0 := Lib.hid (BP0.out.below hb)
  replace HA0 := Lib.hid (HA0.out.below hb)
  replace HA1 := Lib.hid (HA1.out.below hb)
  replace HA2 := Lib.hid (HA2.out.below hb)
  replace HT := Lib.hid (HT.out.trans (hb.mono HT.out.size))
  have zwC := hb.size; (try simp only [World.size_alloc] at zwC); clear hb; obtain ⟨wC, rfl⟩ : ∃ x, x = w2 := ⟨_, rfl⟩
  have cP00 := (BP0.out.cells 0 _ rfl).1; have fP00 := (BP0.out.cells 0 _ rfl).2
  have cP01 := (BP0.out.cells 1 _ rfl).1; have fP01 := (BP0.out.cells 1 _ rfl).2
  have cP02 := (BP0.out.cells 2 _ rfl).1; have fP02 := (BP0.out.cells 2 _ rfl).2
  have cP03 := (BP0.out.cells 3 _ rfl).1; have fP03 := (BP0.out.cells 3 _ rfl).2
  have cP04 := (BP0.out.cells 4 _ rfl).1; have fP04 := (BP0.out.cells 4 _ rfl).2
  have xP0 := BP0.out.lt
  go_wp2_with fail
  refine (l_toKernel x K (by omega) _ HA0.out).mono ?_; rintro e w2 ⟨yC0, rfl, OC0, hb⟩
  clear xP0 cP00 fP00 cP01 fP01 cP02 fP02 cP03 fP03 cP04 fP04
  obtain ⟨yC0co, yC0cc, yC0uo, yC0uc, yC0vs, yC0eo, yC0ec, yC0ro, yC0rc, rfl⟩ := KOwn.shapes OC0
  have LC0 := Lib.hid (OC0.lts); replace OC0 := Lib.hid OC0
  replace BP0 := Lib.hid (BP0.out.below hb)
  replace HA0 := Lib.hid (HA0.out.below hb)
  replace HA1 := Lib.hid (HA1.out.below hb)
  replace HA2 := Lib.hid (HA2.out.below hb)
  replace HT := Lib.hid (HT.out.trans (hb.mono HT.out.size))
  have zwD := hb.size; (try simp only [World.size_alloc] at zwD); clear hb; obtain ⟨wD, rfl⟩ : ∃ x, x = w2 := ⟨_, rfl⟩
  simp only [KV.val]
  go_wp2_with fail
  refine (l_toSpanS _ ss (by omega) _ HA1.out).mono ?_; rintro e w2 ⟨vC1, rfl, OC1, hb⟩
  obtain ⟨yC1o, yC1c, rfl, -, -⟩ := OC1.shape
  have LC1 := Lib.hid (Own.lts OC1); replace OC1 := Lib.hid OC1
  replace BP0 := Lib.hid (BP0.out.below hb)
  replace OC0 := Lib.hid (OC0.out.below hb)
  replace HA0 := Lib.hid (HA0.out.below hb)
  replace HA1 := Lib.hid (HA1.out.below hb)
  replace HA2 := Lib.hid (HA2.out.below hb)
  replace HT := Lib.hid (HT.out.trans (hb.mono HT.out.size))
  have zwE := hb.size; (try simp only [World.size_alloc] at zwE); clear hb; obtain ⟨wE, rfl⟩ : ∃ x, x = w2 := ⟨_, rfl⟩
  skip
  go_wp2_with fail
  refine (l_toLateS _ xs (by omega) _ HA2.out).mono ?_; rintro e w2 ⟨vC2, rfl, OC2, hb⟩
  obtain ⟨yC2o, yC2c, rfl, -, -⟩ := OC2.shape
  have LC2 := Lib.hid (Own.lts OC2); replace OC2 := Lib.hid OC2
  replace BP0 := Lib.hid (BP0.out.below hb)
  replace OC0 := Lib.hid (OC0.out.below hb)
  replace OC1 := Lib.hid (Own.below OC1.out hb)
  replace HA0 := Lib.hid (HA0.out.below hb)
  replace HA1 := Lib.hid (HA1.out.below hb)
  replace HA2 := Lib.hid (HA2.out.below hb)
  replace HT := Lib.hid (HT.out.trans (hb.mono HT.out.size))
  have zwF := hb.size; (try simp only [World.size_alloc] at zwF); clear hb; obtain ⟨wF, rfl⟩ : ∃ x, x = w2 := ⟨_, rfl⟩
  skip
  go_wp2_with fail
  refine (HS.out _ _ _ _ (KOwn.at OC0.out) (OwnSp.at OC1.out) (Own.at OC2.out lenLt)).mono ?_; rintro e w2 ⟨yW0, vW1, vW2, rfl, OW0, OW1, OW2, DW0_1, DW0_2, DW1_2, hb⟩
  obtain ⟨yW0co, yW0cc, yW0uo, yW0uc, yW0vs, yW0eo, yW0ec, yW0ro, yW0rc, rfl⟩ := KOwn.shapes OW0
  have LW0 := Lib.hid (OW0.lts); replace OW0 := Lib.hid OW0
  obtain ⟨yW1o, yW1c, rfl, -, -⟩ := OW1.shape
  have LW1 := Lib.hid (Own.lts OW1); replace OW1 := Lib.hid OW1
  obtain ⟨yW2o, yW2c, rfl, -, -⟩ := OW2.shape
  have LW2 := Lib.hid (Own.lts OW2); replace OW2 := Lib.hid OW2
  replace DW0_1 := Lib.hid DW0_1
  replace DW0_2 := Lib.hid DW0_2
  replace DW1_2 := Lib.hid DW1_2
  clear OC0 LC0
  clear OC1 LC1
  clear OC2 LC2
  replace BP0 := Lib.hid (BP0.out.below hb)
  replace HA0 := Lib.hid (HA0.out.below hb)
  replace HA1 := Lib.hid (HA1.out.below hb)
  replace HA2 := Lib.hid (HA2.out.below hb)
  replace HT := Lib.hid (HT.out.trans (hb.mono HT.out.size))
  have zwG := hb.size; (try simp only [World.size_alloc] at zwG); clear hb; obtain ⟨wG, rfl⟩ : ∃ x, x = w2 := ⟨_, rfl⟩
  simp only [KV.val]
  replace BP0 := Lib.hid (BP0.out.below ((Below.refl _ wG).alloc (Nat.le_refl _) (.cells #[.slice yW0co yW0vs.length yW0cc, .slice yW0uo K2.m.f.used.length yW0uc, .slice yW0eo K2.m.ents.length yW0ec, .int .i64 (K2.calls), .slice yW0ro K2.refuse.length yW0rc] 46)))
  replace OW0 := Lib.hid (OW0.out.below ((Below.refl _ wG).alloc (Nat.le_refl _) (.cells #[.slice yW0co yW0vs.length yW0cc, .slice yW0uo K2.m.f.used.length yW0uc, .slice yW0eo K2.m.ents.length yW0ec, .int .i64 (K2.calls), .slice yW0ro K2.refuse.length yW0rc] 46)))
  replace OW1 := Lib.hid (Own.below OW1.out ((Below.refl _ wG).alloc (Nat.le_refl _) (.cells #[.slice yW0co yW0vs.length yW0cc, .slice yW0uo K2.m.f.used.length yW0uc, .slice yW0eo K2.m.ents.length yW0ec, .int .i64 (K2.calls), .slice yW0ro K2.refuse.length yW0rc] 46)))
  replace OW2 := Lib.hid (Own.below OW2.out ((Below.refl _ wG).alloc (Nat.le_refl _) (.cells #[.slice yW0co yW0vs.length yW0cc, .slice yW0uo K2.m.f.used.length yW0uc, .slice yW0eo K2.m.ents.length yW0ec, .int .i64 (K2.calls), .slice yW0ro K2.refuse.length yW0rc] 46)))
  replace HA0 := Lib.hid (HA0.out.below ((Below.refl _ wG).alloc (Nat.le_refl _) (.cells #[.slice yW0co yW0vs.length yW0cc, .slice yW0uo K2.m.f.used.length yW0uc, .slice yW0eo K2.m.ents.length yW0ec, .int .i64 (K2.calls), .slice yW0ro K2.refuse.length yW0rc] 46)))
  replace HA1 := Lib.hid (HA1.out.below ((Below.refl _ wG).alloc (Nat.le_refl _) (.cells #[.slice yW0co yW0vs.length yW0cc, .slice yW0uo K2.m.f.used.length yW0uc, .slice yW0eo K2.m.ents.length yW0ec, .int .i64 (K2.calls), .slice yW0ro K2.refuse.length yW0rc] 46)))
  replace HA2 := Lib.hid (HA2.out.below ((Below.refl _ wG).alloc (Nat.le_refl _) (.cells #[.slice yW0co yW0vs.length yW0cc, .slice yW0uo K2.m.f.used.length yW0uc, .slice yW0eo K2.m.ents.length yW0ec, .int .i64 (K2.calls), .slice yW0ro K2.refuse.length yW0rc] 46)))
  replace HT := Lib.hid (HT.out.trans (((Below.refl _ wG).alloc (Nat.le_refl _) (.cells #[.slice yW0co yW0vs.length yW0cc, .slice yW0uo K2.m.f.used.length yW0uc, .slice yW0eo K2.m.ents.length yW0ec, .int .i64 (K2.calls), .slice yW0ro K2.refuse.length yW0rc] 46)).mono HT.out.size))
  have BW0 : Hid (BoxAt (wG.alloc (.cells #[.slice yW0co yW0vs.length yW0cc, .slice yW0uo K2.m.f.used.length yW0uc, .slice yW0eo K2.m.ents.length yW0ec, .int .i64 (K2.calls), .slice yW0ro K2.refuse.length yW0rc] 46)) (wG.heap.size) [.slice yW0co yW0vs.length yW0cc, .slice yW0uo K2.m.f.used.length yW0uc, .slice yW0eo K2.m.ents.length yW0ec, .int .i64 (K2.calls), .slice yW0ro K2.refuse.length yW0rc]) := (BoxAt.snoc (BoxAt.snoc (BoxAt.snoc (BoxAt.snoc (BoxAt.snoc (BoxAt.nil (w := wG.alloc (.cells #[.slice yW0co yW0vs.length yW0cc, .slice yW0uo K2.m.f.used.length yW0uc, .slice yW0eo K2.m.ents.length yW0ec, .int .i64 (K2.calls), .slice yW0ro K2.refuse.length yW0rc] 46)) (g := wG.heap.size) (by go_simp)) (v := .slice yW0co yW0vs.length yW0cc) (i := 0) rfl (by go_simp) (by go_simp)) (v := .slice yW0uo K2.m.f.used.length yW0uc) (i := 1) rfl (by go_simp) (by go_simp)) (v := .slice yW0eo K2.m.ents.length yW0ec) (i := 2) rfl (by go_simp) (by go_simp)) (v := .int .i64 (K2.calls)) (i := 3) rfl (by go_simp) (by go_simp)) (v := .slice yW0ro K2.refuse.length yW0rc) (i := 4) rfl (by go_simp) (by go_simp))
  have cP00 := (BP0.out.cells 0 _ rfl).1; have fP00 := (BP0.out.cells 0 _ rfl).2
  have cP01 := (BP0.out.cells 1 _ rfl).1; have fP01 := (BP0.out.cells 1 _ rfl).2
  have cP02 := (BP0.out.cells 2 _ rfl).1; have fP02 := (BP0.out.cells 2 _ rfl).2
  have cP03 := (BP0.out.cells 3 _ rfl).1; have fP03 := (BP0.out.cells 3 _ rfl).2
  have cP04 := (BP0.out.cells 4 _ rfl).1; have fP04 := (BP0.out.cells 4 _ rfl).2
  have xP0 := BP0.out.lt
  go_wp2_with fail
  refine (l_toKernel x K (by omega) _ HA0.out).mono ?_; rintro e w2 ⟨yX0, rfl, OX0, hb⟩
  clear xP0 cP00 fP00 cP01 fP01 cP02 fP02 cP03 fP03 cP04 fP04
  obtain ⟨yX0co, yX0cc, yX0uo, yX0uc, yX0vs, yX0eo, yX0ec, yX0ro, yX0rc, rfl⟩ := KOwn.shapes OX0
  have LX0 := Lib.hid (OX0.lts); replace OX0 := Lib.hid OX0
  replace BP0 := Lib.hid (BP0.out.below hb)
  replace BW0 := Lib.hid (BW0.out.below hb)
  replace OW0 := Lib.hid (OW0.out.below hb)
  replace OW1 := Lib.hid (Own.below OW1.out hb)
  replace OW2 := Lib.hid (Own.below OW2.out hb)
  replace HA0 := Lib.hid (HA0.out.below hb)
  replace HA1 := Lib.hid (HA1.out.below hb)
  replace HA2 := Lib.hid (HA2.out.below hb)
  replace HT := Lib.hid (HT.out.trans (hb.mono HT.out.size))
  have zwH := hb.size; (try simp only [World.size_alloc] at zwH); clear hb; obtain ⟨wH, rfl⟩ : ∃ x, x = w2 := ⟨_, rfl⟩
  simp only [KV.val]
  replace BP0 := Lib.hid (BP0.out.below ((Below.refl _ wH).alloc (Nat.le_refl _) (.cells #[.slice yX0co yX0vs.length yX0cc, .slice yX0uo K.m.f.used.length yX0uc, .slice yX0eo K.m.ents.length yX0ec, .int .i64 (K.calls), .slice yX0ro K.refuse.length yX0rc] 46)))
  replace BW0 := Lib.hid (BW0.out.below ((Below.refl _ wH).alloc (Nat.le_refl _) (.cells #[.slice yX0co yX0vs.length yX0cc, .slice yX0uo K.m.f.used.length yX0uc, .slice yX0eo K.m.ents.length yX0ec, .int .i64 (K.calls), .slice yX0ro K.refuse.length yX0rc] 46)))
  replace OW0 := Lib.hid (OW0.out.below ((Below.refl _ wH).alloc (Nat.le_refl _) (.cells #[.slice yX0co yX0vs.length yX0cc, .slice yX0uo K.m.f.used.length yX0uc, .slice yX0eo K.m.ents.length yX0ec, .int .i64 (K.calls), .slice yX0ro K.refuse.length yX0rc] 46)))
  replace OW1 := Lib.hid (Own.below OW1.out ((Below.refl _ wH).alloc (Nat.le_refl _) (.cells #[.slice yX0co yX0vs.length yX0cc, .slice yX0uo K.m.f.used.length yX0uc, .slice yX0eo K.m.ents.length yX0ec, .int .i64 (K.calls), .slice yX0ro K.refuse.length yX0rc] 46)))
  replace OW2 := Lib.hid (Own.below OW2.out ((Below.refl _ wH).alloc (Nat.le_refl _) (.cells #[.slice yX0co yX0vs.length yX0cc, .slice yX0uo K.m.f.used.length yX0uc, .slice yX0eo K.m.ents.length yX0ec, .int .i64 (K.calls), .slice yX0ro K.refuse.length yX0rc] 46)))
  replace OX0 := Lib.hid (OX0.out.below ((Below.refl _ wH).alloc (Nat.le_refl _) (.cells #[.slice yX0co yX0vs.length yX0cc, .slice yX0uo K.m.f.used.length yX0uc, .slice yX0eo K.m.ents.length yX0ec, .int .i64 (K.calls), .slice yX0ro K.refuse.length yX0rc] 46)))
  replace HA0 := Lib.hid (HA0.out.below ((Below.refl _ wH).alloc (Nat.le_refl _) (.cells #[.slice yX0co yX0vs.length yX0cc, .slice yX0uo K.m.f.used.length yX0uc, .slice yX0eo K.m.ents.length yX0ec, .int .i64 (K.calls), .slice yX0ro K.refuse.length yX0rc] 46)))
  replace HA1 := Lib.hid (HA1.out.below ((Below.refl _ wH).alloc (Nat.le_refl _) (.cells #[.slice yX0co yX0vs.length yX0cc, .slice yX0uo K.m.f.used.length yX0uc, .slice yX0eo K.m.ents.length yX0ec, .int .i64 (K.calls), .slice yX0ro K.refuse.length yX0rc] 46)))
  replace HA2 := Lib.hid (HA2.out.below ((Below.refl _ wH).alloc (Nat.le_refl _) (.cells #[.slice yX0co yX0vs.length yX0cc, .slice yX0uo K.m.f.used.length yX0uc, .slice yX0eo K.m.ents.length yX0ec, .int .i64 (K.calls), .slice yX0ro K.refuse.length yX0rc] 46)))
  replace HT := Lib.hid (HT.out.trans (((Below.refl _ wH).alloc (Nat.le_refl _) (.cells #[.slice yX0co yX0vs.length yX0cc, .slice yX0uo K.m.f.used.length yX0uc, .slice yX0eo K.m.ents.length yX0ec, .int .i64 (K.calls), .slice yX0ro K.refuse.length yX0rc] 46)).mono HT.out.size))
  have BX0 : Hid (BoxAt (wH.alloc (.cells #[.slice yX0co yX0vs.length yX0cc, .slice yX0uo K.m.f.used.length yX0uc, .slice yX0eo K.m.ents.length yX0ec, .int .i64 (K.calls), .slice yX0ro K.refuse.length yX0rc] 46)) (wH.heap.size) [.slice yX0co yX0vs.length yX0cc, .slice yX0uo K.m.f.used.length yX0uc, .slice yX0eo K.m.ents.length yX0ec, .int .i64 (K.calls), .slice yX0ro K.refuse.length yX0rc]) := (BoxAt.snoc (BoxAt.snoc (BoxAt.snoc (BoxAt.snoc (BoxAt.snoc (BoxAt.nil (w := wH.alloc (.cells #[.slice yX0co yX0vs.length yX0cc, .slice yX0uo K.m.f.used.length yX0uc, .slice yX0eo K.m.ents.length yX0ec, .int .i64 (K.calls), .slice yX0ro K.refuse.length yX0rc] 46)) (g := wH.heap.size) (by go_simp)) (v := .slice yX0co yX0vs.length yX0cc) (i := 0) rfl (by go_simp) (by go_simp)) (v := .slice yX0uo K.m.f.used.length yX0uc) (i := 1) rfl (by go_simp) (by go_simp)) (v := .slice yX0eo K.m.ents.length yX0ec) (i := 2) rfl (by go_simp) (by go_simp)) (v := .int .i64 (K.calls)) (i := 3) rfl (by go_simp) (by go_simp)) (v := .slice yX0ro K.refuse.length yX0rc) (i := 4) rfl (by go_simp) (by go_simp))
  go_wp2_with fail
  refine (l_toSpanS _ ss (by omega) _ HA1.out).mono ?_; rintro e w2 ⟨vX1, rfl, OX1, hb⟩
  obtain ⟨yX1o, yX1c, rfl, -, -⟩ := OX1.shape
  have LX1 := Lib.hid (Own.lts OX1); replace OX1 := Lib.hid OX1
  replace BP0 := Lib.hid (BP0.out.below hb)
  replace BW0 := Lib.hid (BW0.out.below hb)
  replace BX0 := Lib.hid (BX0.out.below hb)
  replace OW0 := Lib.hid (OW0.out.below hb)
  replace OW1 := Lib.hid (Own.below OW1.out hb)
  replace OW2 := Lib.hid (Own.below OW2.out hb)
  replace OX0 := Lib.hid (OX0.out.below hb)
  replace HA0 := Lib.hid (HA0.out.below hb)
  replace HA1 := Lib.hid (HA1.out.below hb)
  replace HA2 := Lib.hid (HA2.out.below hb)
  replace HT := Lib.hid (HT.out.trans (hb.mono HT.out.size))
  have zwI := hb.size; (try simp only [World.size_alloc] at zwI); clear hb; obtain ⟨wI, rfl⟩ : ∃ x, x = w2 := ⟨_, rfl⟩
  skip
  go_wp2_with fail
  refine (l_toLateS _ xs (by omega) _ HA2.out).mono ?_; rintro e w2 ⟨vX2, rfl, OX2, hb⟩
  obtain ⟨yX2o, yX2c, rfl, -, -⟩ := OX2.shape
  have LX2 := Lib.hid (Own.lts OX2); replace OX2 := Lib.hid OX2
  replace BP0 := Lib.hid (BP0.out.below hb)
  replace BW0 := Lib.hid (BW0.out.below hb)
  replace BX0 := Lib.hid (BX0.out.below hb)
  replace OW0 := Lib.hid (OW0.out.below hb)
  replace OW1 := Lib.hid (Own.below OW1.out hb)
  replace OW2 := Lib.hid (Own.below OW2.out hb)
  replace OX0 := Lib.hid (OX0.out.below hb)
  replace OX1 := Lib.hid (Own.below OX1.out hb)
  replace HA0 := Lib.hid (HA0.out.below hb)
  replace HA1 := Lib.hid (HA1.out.below hb)
  replace HA2 := Lib.hid (HA2.out.below hb)
  replace HT := Lib.hid (HT.out.trans (hb.mono HT.out.size))
  have zwJ := hb.size; (try simp only [World.size_alloc] at zwJ); clear hb; obtain ⟨wJ, rfl⟩ : ∃ x, x = w2 := ⟨_, rfl⟩
  skip
  have cX00 := (BX0.out.cells 0 _ rfl).1; have fX00 := (BX0.out.cells 0 _ rfl).2
  have cX01 := (BX0.out.cells 1 _ rfl).1; have fX01 := (BX0.out.cells 1 _ rfl).2
  have cX02 := (BX0.out.cells 2 _ rfl).1; have fX02 := (BX0.out.cells 2 _ rfl).2
  have cX03 := (BX0.out.cells 3 _ rfl).1; have fX03 := (BX0.out.cells 3 _ rfl).2
  have cX04 := (BX0.out.cells 4 _ rfl).1; have fX04 := (BX0.out.cells 4 _ rfl).2
  have xX0 := BX0.out.lt
  go_wp2_with fail
  refine (HI.out _ _ _ _ (KOwn.at OX0.out) (OwnSp.at OX1.out) (Own.at OX2.out lenLt)).mono ?_; rintro e w2 ⟨yG0, vG1, vG2, rfl, OG0, OG1, OG2, DG0_1, DG0_2, DG1_2, hb⟩
  clear xX0 cX00 fX00 cX01 fX01 cX02 fX02 cX03 fX03 cX04 fX04
  obtain ⟨yG0co, yG0cc, yG0uo, yG0uc, yG0vs, yG0eo, yG0ec, yG0ro, yG0rc, rfl⟩ := KOwn.shapes OG0
  have LG0 := Lib.hid (OG0.lts); replace OG0 := Lib.hid OG0
  obtain ⟨yG1o, yG1c, rfl, -, -⟩ := OG1.shape
  have LG1 := Lib.hid (Own.lts OG1); replace OG1 := Lib.hid OG1
  obtain ⟨yG2o, yG2c, rfl, -, -⟩ := OG2.shape
  have LG2 := Lib.hid (Own.lts OG2); replace OG2 := Lib.hid OG2
  replace DG0_1 := Lib.hid DG0_1
  replace DG0_2 := Lib.hid DG0_2
  replace DG1_2 := Lib.hid DG1_2
  replace BP0 := Lib.hid (BP0.out.below hb)
  replace BW0 := Lib.hid (BW0.out.below hb)
  replace BX0 := Lib.hid (BX0.out.below hb)
  replace OW0 := Lib.hid (OW0.out.below hb)
  replace OW1 := Lib.hid (Own.below OW1.out hb)
  replace OW2 := Lib.hid (Own.below OW2.out hb)
  replace OX0 := Lib.hid (OX0.out.below hb)
  replace OX1 := Lib.hid (Own.below OX1.out hb)
  replace OX2 := Lib.hid (Own.below OX2.out hb)
  replace HA0 := Lib.hid (HA0.out.below hb)
  replace HA1 := Lib.hid (HA1.out.below hb)
  replace HA2 := Lib.hid (HA2.out.below hb)
  replace HT := Lib.hid (HT.out.trans (hb.mono HT.out.size))
  have zwK := hb.size; (try simp only [World.size_alloc] at zwK); clear hb; obtain ⟨wK, rfl⟩ : ∃ x, x = w2 := ⟨_, rfl⟩
  simp only [KV.val]
  replace BP0 := Lib.hid (BP0.out.below ((Below.refl _ wK).alloc (Nat.le_refl _) (.cells #[.slice yG0co yG0vs.length yG0cc, .slice yG0uo K2.m.f.used.length yG0uc, .slice yG0eo K2.m.ents.length yG0ec, .int .i64 (K2.calls), .slice yG0ro K2.refuse.length yG0rc] 46)))
  replace BW0 := Lib.hid (BW0.out.below ((Below.refl _ wK).alloc (Nat.le_refl _) (.cells #[.slice yG0co yG0vs.length yG0cc, .slice yG0uo K2.m.f.used.length yG0uc, .slice yG0eo K2.m.ents.length yG0ec, .int .i64 (K2.calls), .slice yG0ro K2.refuse.length yG0rc] 46)))
  replace BX0 := Lib.hid (BX0.out.below ((Below.refl _ wK).alloc (Nat.le_refl _) (.cells #[.slice yG0co yG0vs.length yG0cc, .slice yG0uo K2.m.f.used.length yG0uc, .slice yG0eo K2.m.ents.length yG0ec, .int .i64 (K2.calls), .slice yG0ro K2.refuse.length yG0rc] 46)))
  replace OW0 := Lib.hid (OW0.out.below ((Below.refl _ wK).alloc (Nat.le_refl _) (.cells #[.slice yG0co yG0vs.length yG0cc, .slice yG0uo K2.m.f.used.length yG0uc, .slice yG0eo K2.m.ents.length yG0ec, .int .i64 (K2.calls), .slice yG0ro K2.refuse.length yG0rc] 46)))
  replace OW1 := Lib.hid (Own.below OW1.out ((Below.refl _ wK).alloc (Nat.le_refl _) (.cells #[.slice yG0co yG0vs.length yG0cc, .slice yG0uo K2.m.f.used.length yG0uc, .slice yG0eo K2.m.ents.length yG0ec, .int .i64 (K2.calls), .slice yG0ro K2.refuse.length yG0rc] 46)))
  replace OW2 := Lib.hid (Own.below OW2.out ((Below.refl _ wK).alloc (Nat.le_refl _) (.cells #[.slice yG0co yG0vs.length yG0cc, .slice yG0uo K2.m.f.used.length yG0uc, .slice yG0eo K2.m.ents.length yG0ec, .int .i64 (K2.calls), .slice yG0ro K2.refuse.length yG0rc] 46)))
  replace OX0 := Lib.hid (OX0.out.below ((Below.refl _ wK).alloc (Nat.le_refl _) (.cells #[.slice yG0co yG0vs.length yG0cc, .slice yG0uo K2.m.f.used.length yG0uc, .slice yG0eo K2.m.ents.length yG0ec, .int .i64 (K2.calls), .slice yG0ro K2.refuse.length yG0rc] 46)))
  replace OX1 := Lib.hid (Own.below OX1.out ((Below.refl _ wK).alloc (Nat.le_refl _) (.cells #[.slice yG0co yG0vs.length yG0cc, .slice yG0uo K2.m.f.used.length yG0uc, .slice yG0eo K2.m.ents.length yG0ec, .int .i64 (K2.calls), .slice yG0ro K2.refuse.length yG0rc] 46)))
  replace OX2 := Lib.hid (Own.below OX2.out ((Below.refl _ wK).alloc (Nat.le_refl _) (.cells #[.slice yG0co yG0vs.length yG0cc, .slice yG0uo K2.m.f.used.length yG0uc, .slice yG0eo K2.m.ents.length yG0ec, .int .i64 (K2.calls), .slice yG0ro K2.refuse.length yG0rc] 46)))
  replace OG0 := Lib.hid (OG0.out.below ((Below.refl _ wK).alloc (Nat.le_refl _) (.cells #[.slice yG0co yG0vs.length yG0cc, .slice yG0uo K2.m.f.used.length yG0uc, .slice yG0eo K2.m.ents.length yG0ec, .int .i64 (K2.calls), .slice yG0ro K2.refuse.length yG0rc] 46)))
  replace OG1 := Lib.hid (Own.below OG1.out ((Below.refl _ wK).alloc (Nat.le_refl _) (.cells #[.slice yG0co yG0vs.length yG0cc, .slice yG0uo K2.m.f.used.length yG0uc, .slice yG0eo K2.m.ents.length yG0ec, .int .i64 (K2.calls), .slice yG0ro K2.refuse.length yG0rc] 46)))
  replace OG2 := Lib.hid (Own.below OG2.out ((Below.refl _ wK).alloc (Nat.le_refl _) (.cells #[.slice yG0co yG0vs.length yG0cc, .slice yG0uo K2.m.f.used.length yG0uc, .slice yG0eo K2.m.ents.length yG0ec, .int .i64 (K2.calls), .slice yG0ro K2.refuse.length yG0rc] 46)))
  replace HA0 := Lib.hid (HA0.out.below ((Below.refl _ wK).alloc (Nat.le_refl _) (.cells #[.slice yG0co yG0vs.length yG0cc, .slice yG0uo K2.m.f.used.length yG0uc, .slice yG0eo K2.m.ents.length yG0ec, .int .i64 (K2.calls), .slice yG0ro K2.refuse.length yG0rc] 46)))
  replace HA1 := Lib.hid (HA1.out.below ((Below.refl _ wK).alloc (Nat.le_refl _) (.cells #[.slice yG0co yG0vs.length yG0cc, .slice yG0uo K2.m.f.used.length yG0uc, .slice yG0eo K2.m.ents.length yG0ec, .int .i64 (K2.calls), .slice yG0ro K2.refuse.length yG0rc] 46)))
  replace HA2 := Lib.hid (HA2.out.below ((Below.refl _ wK).alloc (Nat.le_refl _) (.cells #[.slice yG0co yG0vs.length yG0cc, .slice yG0uo K2.m.f.used.length yG0uc, .slice yG0eo K2.m.ents.length yG0ec, .int .i64 (K2.calls), .slice yG0ro K2.refuse.length yG0rc] 46)))
  replace HT := Lib.hid (HT.out.trans (((Below.refl _ wK).alloc (Nat.le_refl _) (.cells #[.slice yG0co yG0vs.length yG0cc, .slice yG0uo K2.m.f.used.length yG0uc, .slice yG0eo K2.m.ents.length yG0ec, .int .i64 (K2.calls), .slice yG0ro K2.refuse.length yG0rc] 46)).mono HT.out.size))
  have BG0 : Hid (BoxAt (wK.alloc (.cells #[.slice yG0co yG0vs.length yG0cc, .slice yG0uo K2.m.f.used.length yG0uc, .slice yG0eo K2.m.ents.length yG0ec, .int .i64 (K2.calls), .slice yG0ro K2.refuse.length yG0rc] 46)) (wK.heap.size) [.slice yG0co yG0vs.length yG0cc, .slice yG0uo K2.m.f.used.length yG0uc, .slice yG0eo K2.m.ents.length yG0ec, .int .i64 (K2.calls), .slice yG0ro K2.refuse.length yG0rc]) := (BoxAt.snoc (BoxAt.snoc (BoxAt.snoc (BoxAt.snoc (BoxAt.snoc (BoxAt.nil (w := wK.alloc (.cells #[.slice yG0co yG0vs.length yG0cc, .slice yG0uo K2.m.f.used.length yG0uc, .slice yG0eo K2.m.ents.length yG0ec, .int .i64 (K2.calls), .slice yG0ro K2.refuse.length yG0rc] 46)) (g := wK.heap.size) (by go_simp)) (v := .slice yG0co yG0vs.length yG0cc) (i := 0) rfl (by go_simp) (by go_simp)) (v := .slice yG0uo K2.m.f.used.length yG0uc) (i := 1) rfl (by go_simp) (by go_simp)) (v := .slice yG0eo K2.m.ents.length yG0ec) (i := 2) rfl (by go_simp) (by go_simp)) (v := .int .i64 (K2.calls)) (i := 3) rfl (by go_simp) (by go_simp)) (v := .slice yG0ro K2.refuse.length yG0rc) (i := 4) rfl (by go_simp) (by go_simp))
  have cG00 := (BG0.out.cells 0 _ rfl).1; have fG00 := (BG0.out.cells 0 _ rfl).2
  have cG01 := (BG0.out.cells 1 _ rfl).1; have fG01 := (BG0.out.cells 1 _ rfl).2
  have cG02 := (BG0.out.cells 2 _ rfl).1; have fG02 := (BG0.out.cells 2 _ rfl).2
  have cG03 := (BG0.out.cells 3 _ rfl).1; have fG03 := (BG0.out.cells 3 _ rfl).2
  have cG04 := (BG0.out.cells 4 _ rfl).1; have fG04 := (BG0.out.cells 4 _ rfl).2
  have xG0 := BG0.out.lt
  have cW00 := (BW0.out.cells 0 _ rfl).1; have fW00 := (BW0.out.cells 0 _ rfl).2
  have cW01 := (BW0.out.cells 1 _ rfl).1; have fW01 := (BW0.out.cells 1 _ rfl).2
  have cW02 := (BW0.out.cells 2 _ rfl).1; have fW02 := (BW0.out.cells 2 _ rfl).2
  have cW03 := (BW0.out.cells 3 _ rfl).1; have fW03 := (BW0.out.cells 3 _ rfl).2
  have cW04 := (BW0.out.cells 4 _ rfl).1; have fW04 := (BW0.out.cells 4 _ rfl).2
  have xW0 := BW0.out.lt
  go_wp2_with fail
  refine (l_eqKernel _ _ (⟨⟨⟨.slice yG0co yG0vs.length yG0cc, .slice yG0uo K2.m.f.used.length yG0uc, yG0vs⟩, .slice yG0eo K2.m.ents.length yG0ec⟩, .slice yG0ro K2.refuse.length yG0rc⟩ : KV) (⟨⟨⟨.slice yW0co yW0vs.length yW0cc, .slice yW0uo K2.m.f.used.length yW0uc, yW0vs⟩, .slice yW0eo K2.m.ents.length yW0ec⟩, .slice yW0ro K2.refuse.length yW0rc⟩ : KV) _ _ OG0.out OW0.out).mono ?_; rintro e w2 ⟨rfl, hb⟩
  clear xG0 cG00 fG00 cG01 fG01 cG02 fG02 cG03 fG03 cG04 fG04
  clear xW0 cW00 fW00 cW01 fW01 cW02 fW02 cW03 fW03 cW04 fW04
  replace BP0 := Lib.hid (BP0.out.below hb)
  replace BW0 := Lib.hid (BW0.out.below hb)
  replace BX0 := Lib.hid (BX0.out.below hb)
  replace BG0 := Lib.hid (BG0.out.below hb)
  replace OW0 := Lib.hid (OW0.out.below hb)
  replace OW1 := Lib.hid (Own.below OW1.out hb)
  replace OW2 := Lib.hid (Own.below OW2.out hb)
  replace OX0 := Lib.hid (OX0.out.below hb)
  replace OX1 := Lib.hid (Own.below OX1.out hb)
  replace OX2 := Lib.hid (Own.below OX2.out hb)
  replace OG0 := Lib.hid (OG0.out.below hb)
  replace OG1 := Lib.hid (Own.below OG1.out hb)
  replace OG2 := Lib.hid (Own.below OG2.out hb)
  replace HA0 := Lib.hid (HA0.out.below hb)
  replace HA1 := Lib.hid (HA1.out.below hb)
  replace HA2 := Lib.hid (HA2.out.below hb)
  replace HT := Lib.hid (HT.out.trans (hb.mono HT.out.size))
  have zwL := hb.size; (try simp only [World.size_alloc] at zwL); clear hb; obtain ⟨wL, rfl⟩ : ∃ x, x = w2 := ⟨_, rfl⟩
  go_wp2_with fail
  refine (l_eqSpanS _ _ sp _ (OwnSp.at OG1.out) (OwnSp.at OW1.out)).mono ?_; rintro e w2 ⟨rfl, hb⟩
  replace BP0 := Lib.hid (BP0.out.below hb)
  replace BW0 := Lib.hid (BW0.out.below hb)
  replace BX0 := Lib.hid (BX0.out.below hb)
  replace BG0 := Lib.hid (BG0.out.below hb)
  replace OW0 := Lib.hid (OW0.out.below hb)
  replace OW1 := Lib.hid (Own.below OW1.out hb)
  replace OW2 := Lib.hid (Own.below OW2.out hb)
  replace OX0 := Lib.hid (OX0.out.below hb)
  replace OX1 := Lib.hid (Own.below OX1.out hb)
  replace OX2 := Lib.hid (Own.below OX2.out hb)
  replace OG0 := Lib.hid (OG0.out.below hb)
  replace OG1 := Lib.hid (Own.below OG1.out hb)
  replace OG2 := Lib.hid (Own.below OG2.out hb)
  replace HA0 := Lib.hid (HA0.out.below hb)
  replace HA1 := Lib.hid (HA1.out.below hb)
  replace HA2 := Lib.hid (HA2.out.below hb)
  replace HT := Lib.hid (HT.out.trans (hb.mono HT.out.size))
  have zwM := hb.size; (try simp only [World.size_alloc] at zwM); clear hb; obtain ⟨wM, rfl⟩ : ∃ x, x = w2 := ⟨_, rfl⟩
  go_wp2_with fail
  refine (l_eqLateS _ _ left _ (Own.at OG2.out lenLt) (Own.at OW2.out lenLt)).mono ?_; rintro e w2 ⟨rfl, hb⟩
  replace BP0 := Lib.hid (BP0.out.below hb)
  replace BW0 := Lib.hid (BW0.out.below hb)
  replace BX0 := Lib.hid (BX0.out.below hb)
  replace BG0 := Lib.hid (BG0.out.below hb)
  replace OW0 := Lib.hid (OW0.out.below hb)
  replace OW1 := Lib.hid (Own.below OW1.out hb)
  replace OW2 := Lib.hid (Own.below OW2.out hb)
  replace OX0 := Lib.hid (OX0.out.below hb)
  replace OX1 := Lib.hid (Own.below OX1.out hb)
  replace OX2 := Lib.hid (Own.below OX2.out hb)
  replace OG0 := Lib.hid (OG0.out.below hb)
  replace OG1 := Lib.hid (Own.below OG1.out hb)
  replace OG2 := Lib.hid (Own.below OG2.out hb)
  replace HA0 := Lib.hid (HA0.out.below hb)
  replace HA1 := Lib.hid (HA1.out.below hb)
  replace HA2 := Lib.hid (HA2.out.below hb)
  replace HT := Lib.hid (HT.out.trans (hb.mono HT.out.size))
  have zwN := hb.size; (try simp only [World.size_alloc] at zwN); clear hb; obtain ⟨wN, rfl⟩ : ∃ x, x = w2 := ⟨_, rfl⟩
  have cX00 := (BX0.out.cells 0 _ rfl).1; have fX00 := (BX0.out.cells 0 _ rfl).2
  have cX01 := (BX0.out.cells 1 _ rfl).1; have fX01 := (BX0.out.cells 1 _ rfl).2
  have cX02 := (BX0.out.cells 2 _ rfl).1; have fX02 := (BX0.out.cells 2 _ rfl).2
  have cX03 := (BX0.out.cells 3 _ rfl).1; have fX03 := (BX0.out.cells 3 _ rfl).2
  have cX04 := (BX0.out.cells 4 _ rfl).1; have fX04 := (BX0.out.cells 4 _ rfl).2
  have xX0 := BX0.out.lt
  have cP00 := (BP0.out.cells 0 _ rfl).1; have fP00 := (BP0.out.cells 0 _ rfl).2
  have cP01 := (BP0.out.cells 1 _ rfl).1; have fP01 := (BP0.out.cells 1 _ rfl).2
  have cP02 := (BP0.out.cells 2 _ rfl).1; have fP02 := (BP0.out.cells 2 _ rfl).2
  have cP03 := (BP0.out.cells 3 _ rfl).1; have fP03 := (BP0.out.cells 3 _ rfl).2
  have cP04 := (BP0.out.cells 4 _ rfl).1; have fP04 := (BP0.out.cells 4 _ rfl).2
  have xP0 := BP0.out.lt
  go_wp2_with fail
  go_region_held3 (fun w' => w'.cell? ⟨wH.heap.size, 0, none⟩ = some (.slice yX0co yX0vs.length yX0cc) ∧ w'.cell? ⟨wH.heap.size, 1, none⟩ = some (.slice yX0uo K.m.f.used.length yX0uc) ∧ w'.cell? ⟨wH.heap.size, 2, none⟩ = some (.slice yX0eo K.m.ents.length yX0ec) ∧ w'.cell? ⟨wH.heap.size, 3, none⟩ = some (.int .i64 (K.calls)) ∧ w'.cell? ⟨wH.heap.size, 4, none⟩ = some (.slice yX0ro K.refuse.length yX0rc) ∧ w'.cell? ⟨w.heap.size, 0, none⟩ = some (x.m.f.c) ∧ w'.cell? ⟨w.heap.size, 1, none⟩ = some (x.m.f.u) ∧ w'.cell? ⟨w.heap.size, 2, none⟩ = some (x.m.e) ∧ w'.cell? ⟨w.heap.size, 3, none⟩ = some (.int .i64 K.calls) ∧ w'.cell? ⟨w.heap.size, 4, none⟩ = some (x.r)) (first | (refine ⟨?_, ?_, ?_, ?_, ?_, ?_, ?_, ?_, ?_, ?_⟩ <;> (go_simp; done)) | go_keep) (first | (go_at_call 12; (refine (l_toKernel x K (by omega) _ (HA0.out.below (by exact bel))).mono ?_; rintro e w2 ⟨yE, rfl, OE, hb⟩; (obtain ⟨yEco, yEcc, yEuo, yEuc, yEvs, yEeo, yEec, yEro, yErc, rfl⟩ := KOwn.shapes OE); have HQ1 := Lib.hid hb; obtain ⟨kwq1_X0_0, kwq1_X0_1, kwq1_X0_2, kwq1_X0_3, kwq1_X0_4⟩ := kp5 hb (wH.heap.size) (.slice yX0co yX0vs.length yX0cc) (.slice yX0uo K.m.f.used.length yX0uc) (.slice yX0eo K.m.ents.length yX0ec) (.int .i64 (K.calls)) (.slice yX0ro K.refuse.length yX0rc); obtain ⟨kwq1_P0_0, kwq1_P0_1, kwq1_P0_2, kwq1_P0_3, kwq1_P0_4⟩ := kp5 hb (w.heap.size) (x.m.f.c) (x.m.f.u) (x.m.e) (.int .i64 K.calls) (x.r); have xwq1_X0 : wH.heap.size < w2.heap.size := xc hb; have xwq1_P0 : w.heap.size < w2.heap.size := xc hb; have hzwq1 := hb.size; (try simp only [World.size_alloc, World.size_setCell, World.size_drew] at hzwq1); obtain ⟨wq1, rfl⟩ : ∃ x, x = w2 := ⟨_, rfl⟩; simp only [KV.val])) | (go_at_call 16; (refine (l_eqKernel _ _ (⟨⟨⟨.slice yX0co yX0vs.length yX0cc, .slice yX0uo K.m.f.used.length yX0uc, yX0vs⟩, .slice yX0eo K.m.ents.length yX0ec⟩, .slice yX0ro K.refuse.length yX0rc⟩ : KV) (⟨⟨⟨.slice yEco yEvs.length yEcc, .slice yEuo K.m.f.used.length yEuc, yEvs⟩, .slice yEeo K.m.ents.length yEec⟩, .slice yEro K.refuse.length yErc⟩ : KV) _ _ (OX0.out.below (by exact bel)) (OE.below (by exact bel))).mono ?_; rintro e w2 ⟨rfl, hb⟩; have HQ2 := Lib.hid hb; obtain ⟨kwq2_X0_0, kwq2_X0_1, kwq2_X0_2, kwq2_X0_3, kwq2_X0_4⟩ := kp5 hb (wH.heap.size) (.slice yX0co yX0vs.length yX0cc) (.slice yX0uo K.m.f.used.length yX0uc) (.slice yX0eo K.m.ents.length yX0ec) (.int .i64 (K.calls)) (.slice yX0ro K.refuse.length yX0rc); obtain ⟨kwq2_P0_0, kwq2_P0_1, kwq2_P0_2, kwq2_P0_3, kwq2_P0_4⟩ := kp5 hb (w.heap.size) (x.m.f.c) (x.m.f.u) (x.m.e) (.int .i64 K.calls) (x.r); have xwq2_X0 : wH.heap.size < w2.heap.size := xc hb; have xwq2_P0 : w.heap.size < w2.heap.size := xc hb; have hzwq2 := hb.size; (try simp only [World.size_alloc, World.size_setCell, World.size_drew] at hzwq2); obtain ⟨wq2, rfl⟩ : ∃ x, x = w2 := ⟨_, rfl⟩)))
  have hb : Below (wN).heap.size (wN) wq2 := by (have hq1 := HQ1.out; have hq2 := HQ2.out; exact bel)
  clear xX0 cX00 fX00 cX01 fX01 cX02 fX02 cX03 fX03 cX04 fX04
  clear xP0 cP00 fP00 cP01 fP01 cP02 fP02 cP03 fP03 cP04 fP04
  clear kwq1_X0_0 kwq1_X0_1 kwq1_X0_2 kwq1_X0_3 kwq1_X0_4 kwq1_P0_0 kwq1_P0_1 kwq1_P0_2 kwq1_P0_3 kwq1_P0_4 hzwq1
  clear kwq2_X0_0 kwq2_X0_1 kwq2_X0_2 kwq2_X0_3 kwq2_X0_4 kwq2_P0_0 kwq2_P0_1 kwq2_P0_2 kwq2_P0_3 kwq2_P0_4 hzwq2
  obtain ⟨w2, rfl⟩ : ∃ x, x = wq2 := ⟨_, rfl⟩
  clear HQ1 HQ2 OE
  replace BP0 := Lib.hid (BP0.out.below hb)
  replace BW0 := Lib.hid (BW0.out.below hb)
  replace BX0 := Lib.hid (BX0.out.below hb)
  replace BG0 := Lib.hid (BG0.out.below hb)
  replace OW0 := Lib.hid (OW0.out.below hb)
  replace OW1 := Lib.hid (Own.below OW1.out hb)
  replace OW2 := Lib.hid (Own.below OW2.out hb)
  replace OX0 := Lib.hid (OX0.out.below hb)
  replace OX1 := Lib.hid (Own.below OX1.out hb)
  replace OX2 := Lib.hid (Own.below OX2.out hb)
  replace OG0 := Lib.hid (OG0.out.below hb)
  replace OG1 := Lib.hid (Own.below OG1.out hb)
  replace OG2 := Lib.hid (Own.below OG2.out hb)
  replace HA0 := Lib.hid (HA0.out.below hb)
  replace HA1 := Lib.hid (HA1.out.below hb)
  replace HA2 := Lib.hid (HA2.out.below hb)
  replace HT := Lib.hid (HT.out.trans (hb.mono HT.out.size))
  have zwO := hb.size; (try simp only [World.size_alloc] at zwO); clear hb; obtain ⟨wO, rfl⟩ : ∃ x, x = w2 := ⟨_, rfl⟩
  go_wp2_with fail
  refine (l_toSpanS _ ss (by omega) _ HA1.out).mono ?_; rintro e w2 ⟨vE, rfl, OE, hb⟩
  obtain ⟨yEo, yEc, rfl, -, -⟩ := OE.shape
  replace OE := Lib.hid OE
  replace BP0 := Lib.hid (BP0.out.below hb)
  replace BW0 := Lib.hid (BW0.out.below hb)
  replace BX0 := Lib.hid (BX0.out.below hb)
  replace BG0 := Lib.hid (BG0.out.below hb)
  replace OW0 := Lib.hid (OW0.out.below hb)
  replace OW1 := Lib.hid (Own.below OW1.out hb)
  replace OW2 := Lib.hid (Own.below OW2.out hb)
  replace OX0 := Lib.hid (OX0.out.below hb)
  replace OX1 := Lib.hid (Own.below OX1.out hb)
  replace OX2 := Lib.hid (Own.below OX2.out hb)
  replace OG0 := Lib.hid (OG0.out.below hb)
  replace OG1 := Lib.hid (Own.below OG1.out hb)
  replace OG2 := Lib.hid (Own.below OG2.out hb)
  replace HA0 := Lib.hid (HA0.out.below hb)
  replace HA1 := Lib.hid (HA1.out.below hb)
  replace HA2 := Lib.hid (HA2.out.below hb)
  replace HT := Lib.hid (HT.out.trans (hb.mono HT.out.size))
  have zwP := hb.size; (try simp only [World.size_alloc] at zwP); clear hb; obtain ⟨wP, rfl⟩ : ∃ x, x = w2 := ⟨_, rfl⟩
  go_wp2_with fail
  refine (l_eqSpanS _ _ ss _ (OwnSp.at OX1.out) (OwnSp.at OE.out)).mono ?_; rintro e w2 ⟨rfl, hb⟩
  clear OE
  replace BP0 := Lib.hid (BP0.out.below hb)
  replace BW0 := Lib.hid (BW0.out.below hb)
  replace BX0 := Lib.hid (BX0.out.below hb)
  replace BG0 := Lib.hid (BG0.out.below hb)
  replace OW0 := Lib.hid (OW0.out.below hb)
  replace OW1 := Lib.hid (Own.below OW1.out hb)
  replace OW2 := Lib.hid (Own.below OW2.out hb)
  replace OX0 := Lib.hid (OX0.out.below hb)
  replace OX1 := Lib.hid (Own.below OX1.out hb)
  replace OX2 := Lib.hid (Own.below OX2.out hb)
  replace OG0 := Lib.hid (OG0.out.below hb)
  replace OG1 := Lib.hid (Own.below OG1.out hb)
  replace OG2 := Lib.hid (Own.below OG2.out hb)
  replace HA0 := Lib.hid (HA0.out.below hb)
  replace HA1 := Lib.hid (HA1.out.below hb)
  replace HA2 := Lib.hid (HA2.out.below hb)
  replace HT := Lib.hid (HT.out.trans (hb.mono HT.out.size))
  have zwQ := hb.size; (try simp only [World.size_alloc] at zwQ); clear hb; obtain ⟨wQ, rfl⟩ : ∃ x, x = w2 := ⟨_, rfl⟩
  go_wp2_with fail
  refine (l_toLateS _ xs (by omega) _ HA2.out).mono ?_; rintro e w2 ⟨vE, rfl, OE, hb⟩
  obtain ⟨yEo, yEc, rfl, -, -⟩ := OE.shape
  replace OE := Lib.hid OE
  replace BP0 := Lib.hid (BP0.out.below hb)
  replace BW0 := Lib.hid (BW0.out.below hb)
  replace BX0 := Lib.hid (BX0.out.below hb)
  replace BG0 := Lib.hid (BG0.out.below hb)
  replace OW0 := Lib.hid (OW0.out.below hb)
  replace OW1 := Lib.hid (Own.below OW1.out hb)
  replace OW2 := Lib.hid (Own.below OW2.out hb)
  replace OX0 := Lib.hid (OX0.out.below hb)
  replace OX1 := Lib.hid (Own.below OX1.out hb)
  replace OX2 := Lib.hid (Own.below OX2.out hb)
  replace OG0 := Lib.hid (OG0.out.below hb)
  replace OG1 := Lib.hid (Own.below OG1.out hb)
  replace OG2 := Lib.hid (Own.below OG2.out hb)
  replace HA0 := Lib.hid (HA0.out.below hb)
  replace HA1 := Lib.hid (HA1.out.below hb)
  replace HA2 := Lib.hid (HA2.out.below hb)
  replace HT := Lib.hid (HT.out.trans (hb.mono HT.out.size))
  have zwR := hb.size; (try simp only [World.size_alloc] at zwR); clear hb; obtain ⟨wR, rfl⟩ : ∃ x, x = w2 := ⟨_, rfl⟩
  go_wp2_with fail
  refine (l_eqLateS _ _ xs _ (Own.at OX2.out lenLt) (Own.at OE.out lenLt)).mono ?_; rintro e w2 ⟨rfl, hb⟩
  clear OE
  replace BP0 := Lib.hid (BP0.out.below hb)
  replace BW0 := Lib.hid (BW0.out.below hb)
  replace BX0 := Lib.hid (BX0.out.below hb)
  replace BG0 := Lib.hid (BG0.out.below hb)
  replace OW0 := Lib.hid (OW0.out.below hb)
  replace OW1 := Lib.hid (Own.below OW1.out hb)
  replace OW2 := Lib.hid (Own.below OW2.out hb)
  replace OX0 := Lib.hid (OX0.out.below hb)
  replace OX1 := Lib.hid (Own.below OX1.out hb)
  replace OX2 := Lib.hid (Own.below OX2.out hb)
  replace OG0 := Lib.hid (OG0.out.below hb)
  replace OG1 := Lib.hid (Own.below OG1.out hb)
  replace OG2 := Lib.hid (Own.below OG2.out hb)
  replace HA0 := Lib.hid (HA0.out.below hb)
  replace HA1 := Lib.hid (HA1.out.below hb)
  replace HA2 := Lib.hid (HA2.out.below hb)
  replace HT := Lib.hid (HT.out.trans (hb.mono HT.out.size))
  have zwS := hb.size; (try simp only [World.size_alloc] at zwS); clear hb; obtain ⟨wS, rfl⟩ : ∃ x, x = w2 := ⟨_, rfl⟩
  have cX00 := (BX0.out.cells 0 _ rfl).1; have fX00 := (BX0.out.cells 0 _ rfl).2
  have cX01 := (BX0.out.cells 1 _ rfl).1; have fX01 := (BX0.out.cells 1 _ rfl).2
  have cX02 := (BX0.out.cells 2 _ rfl).1; have fX02 := (BX0.out.cells 2 _ rfl).2
  have cX03 := (BX0.out.cells 3 _ rfl).1; have fX03 := (BX0.out.cells 3 _ rfl).2
  have cX04 := (BX0.out.cells 4 _ rfl).1; have fX04 := (BX0.out.cells 4 _ rfl).2
  have xX0 := BX0.out.lt
  go_wp2_with fail
  refine (l_markKernel _ (⟨⟨⟨.slice yX0co yX0vs.length yX0cc, .slice yX0uo K.m.f.used.length yX0uc, yX0vs⟩, .slice yX0eo K.m.ents.length yX0ec⟩, .slice yX0ro K.refuse.length yX0rc⟩ : KV) K 1 (by omega) _ OX0.out).mono ?_; rintro e w2 ⟨rfl, OM, ht⟩
  clear xX0 cX00 fX00 cX01 fX01 cX02 fX02 cX03 fX03 cX04 fX04
  replace BP0 := Lib.hid (BP0.out.touch ht (fun hm => by first | exact NP0_X0.out hm | (have := LX0.out _ hm; (try simp only [World.size_alloc] at this); omega)))
  replace BW0 := Lib.hid (BW0.out.touch ht (fun hm => by first | exact NW0_X0.out hm | (have := LX0.out _ hm; (try simp only [World.size_alloc] at this); omega)))
  replace BX0 := Lib.hid (BX0.out.touch ht (fun hm => by first | exact NX0_X0.out hm | (have := LX0.out _ hm; (try simp only [World.size_alloc] at this); omega)))
  replace BG0 := Lib.hid (BG0.out.touch ht (fun hm => by first | exact NG0_X0.out hm | (have := LX0.out _ hm; (try simp only [World.size_alloc] at this); omega)))
  replace OW0 := Lib.hid (OW0.out.touch ht (fun g hg hm => by (have h1 := LW0.out g hg; have h2 := LX0.out _ hm; (try simp only [World.size_alloc] at h1 h2); omega)))
  replace OW1 := Lib.hid (Own.touchs OW1.out ht (fun g hg hm => by (have h1 := LW1.out g hg; have h2 := LX0.out _ hm; (try simp only [World.size_alloc] at h1 h2); omega)))
  replace OW2 := Lib.hid (Own.touchs OW2.out ht (fun g hg hm => by (have h1 := LW2.out g hg; have h2 := LX0.out _ hm; (try simp only [World.size_alloc] at h1 h2); omega)))
  replace OX1 := Lib.hid (Own.touchs OX1.out ht (fun g hg hm => by (have h1 := LX1.out g hg; have h2 := LX0.out _ hm; (try simp only [World.size_alloc] at h1 h2); omega)))
  replace OX2 := Lib.hid (Own.touchs OX2.out ht (fun g hg hm => by (have h1 := LX2.out g hg; have h2 := LX0.out _ hm; (try simp only [World.size_alloc] at h1 h2); omega)))
  replace OG0 := Lib.hid (OG0.out.touch ht (fun g hg hm => by (have h1 := LG0.out g hg; have h2 := LX0.out _ hm; (try simp only [World.size_alloc] at h1 h2); omega)))
  replace OG1 := Lib.hid (Own.touchs OG1.out ht (fun g hg hm => by (have h1 := LG1.out g hg; have h2 := LX0.out _ hm; (try simp only [World.size_alloc] at h1 h2); omega)))
  replace OG2 := Lib.hid (Own.touchs OG2.out ht (fun g hg hm => by (have h1 := LG2.out g hg; have h2 := LX0.out _ hm; (try simp only [World.size_alloc] at h1 h2); omega)))
  have hb := ht.toBelow (B := w.heap.size) (fun g hg => by have h2 := LX0.out _ hg; (try simp only [World.size_alloc] at h2); omega) (by omega)
  replace HA0 := Lib.hid (KAt.below HAw0.out (HT.out.trans hb))
  replace HA1 := Lib.hid (SpansAt.below HAw1.out (HT.out.trans hb))
  replace HA2 := Lib.hid (SlAt.below HAw2.out (HT.out.trans hb))
  replace HT := Lib.hid (HT.out.trans hb)
  have zwT := ht.size; clear ht hb; obtain ⟨wT, rfl⟩ : ∃ x, x = w2 := ⟨_, rfl⟩
  clear OX0
  clear OM
  clear BX0
  go_wp2_with fail
  refine (l_markSpanS _ _ ss _ (by omega) _ OX1.out).mono ?_; rintro e w2 ⟨rfl, OM, hgr⟩
  have ht := grown_touch (S := blocks [_]) hgr fun g hg => mem_one hg; clear hgr
  replace BP0 := Lib.hid (BP0.out.touch ht (fun hm => by first | exact NP0_X1.out hm | (have := LX1.out _ hm; (try simp only [World.size_alloc] at this); omega)))
  replace BW0 := Lib.hid (BW0.out.touch ht (fun hm => by first | exact NW0_X1.out hm | (have := LX1.out _ hm; (try simp only [World.size_alloc] at this); omega)))
  replace BG0 := Lib.hid (BG0.out.touch ht (fun hm => by first | exact NG0_X1.out hm | (have := LX1.out _ hm; (try simp only [World.size_alloc] at this); omega)))
  replace OW0 := Lib.hid (OW0.out.touch ht (fun g hg hm => by (have h1 := LW0.out g hg; have h2 := LX1.out _ hm; (try simp only [World.size_alloc] at h1 h2); omega)))
  replace OW1 := Lib.hid (Own.touchs OW1.out ht (fun g hg hm => by (have h1 := LW1.out g hg; have h2 := LX1.out _ hm; (try simp only [World.size_alloc] at h1 h2); omega)))
  replace OW2 := Lib.hid (Own.touchs OW2.out ht (fun g hg hm => by (have h1 := LW2.out g hg; have h2 := LX1.out _ hm; (try simp only [World.size_alloc] at h1 h2); omega)))
  replace OX2 := Lib.hid (Own.touchs OX2.out ht (fun g hg hm => by (have h1 := LX2.out g hg; have h2 := LX1.out _ hm; (try simp only [World.size_alloc] at h1 h2); omega)))
  replace OG0 := Lib.hid (OG0.out.touch ht (fun g hg hm => by (have h1 := LG0.out g hg; have h2 := LX1.out _ hm; (try simp only [World.size_alloc] at h1 h2); omega)))
  replace OG1 := Lib.hid (Own.touchs OG1.out ht (fun g hg hm => by (have h1 := LG1.out g hg; have h2 := LX1.out _ hm; (try simp only [World.size_alloc] at h1 h2); omega)))
  replace OG2 := Lib.hid (Own.touchs OG2.out ht (fun g hg hm => by (have h1 := LG2.out g hg; have h2 := LX1.out _ hm; (try simp only [World.size_alloc] at h1 h2); omega)))
  have hb := ht.toBelow (B := w.heap.size) (fun g hg => by have h2 := LX1.out _ hg; (try simp only [World.size_alloc] at h2); omega) (by omega)
  replace HA0 := Lib.hid (KAt.below HAw0.out (HT.out.trans hb))
  replace HA1 := Lib.hid (SpansAt.below HAw1.out (HT.out.trans hb))
  replace HA2 := Lib.hid (SlAt.below HAw2.out (HT.out.trans hb))
  replace HT := Lib.hid (HT.out.trans hb)
  have zwU := ht.size; clear ht hb; obtain ⟨wU, rfl⟩ : ∃ x, x = w2 := ⟨_, rfl⟩
  clear OX1
  clear OM
  go_wp2_with fail
  refine (l_markLateS _ _ xs _ (by omega) _ OX2.out).mono ?_; rintro e w2 ⟨rfl, OM, hgr⟩
  have ht := grown_touch (S := blocks [_]) hgr fun g hg => mem_one hg; clear hgr
  replace BP0 := Lib.hid (BP0.out.touch ht (fun hm => by first | exact NP0_X2.out hm | (have := LX2.out _ hm; (try simp only [World.size_alloc] at this); omega)))
  replace BW0 := Lib.hid (BW0.out.touch ht (fun hm => by first | exact NW0_X2.out hm | (have := LX2.out _ hm; (try simp only [World.size_alloc] at this); omega)))
  replace BG0 := Lib.hid (BG0.out.touch ht (fun hm => by first | exact NG0_X2.out hm | (have := LX2.out _ hm; (try simp only [World.size_alloc] at this); omega)))
  replace OW0 := Lib.hid (OW0.out.touch ht (fun g hg hm => by (have h1 := LW0.out g hg; have h2 := LX2.out _ hm; (try simp only [World.size_alloc] at h1 h2); omega)))
  replace OW1 := Lib.hid (Own.touchs OW1.out ht (fun g hg hm => by (have h1 := LW1.out g hg; have h2 := LX2.out _ hm; (try simp only [World.size_alloc] at h1 h2); omega)))
  replace OW2 := Lib.hid (Own.touchs OW2.out ht (fun g hg hm => by (have h1 := LW2.out g hg; have h2 := LX2.out _ hm; (try simp only [World.size_alloc] at h1 h2); omega)))
  replace OG0 := Lib.hid (OG0.out.touch ht (fun g hg hm => by (have h1 := LG0.out g hg; have h2 := LX2.out _ hm; (try simp only [World.size_alloc] at h1 h2); omega)))
  replace OG1 := Lib.hid (Own.touchs OG1.out ht (fun g hg hm => by (have h1 := LG1.out g hg; have h2 := LX2.out _ hm; (try simp only [World.size_alloc] at h1 h2); omega)))
  replace OG2 := Lib.hid (Own.touchs OG2.out ht (fun g hg hm => by (have h1 := LG2.out g hg; have h2 := LX2.out _ hm; (try simp only [World.size_alloc] at h1 h2); omega)))
  have hb := ht.toBelow (B := w.heap.size) (fun g hg => by have h2 := LX2.out _ hg; (try simp only [World.size_alloc] at h2); omega) (by omega)
  replace HA0 := Lib.hid (KAt.below HAw0.out (HT.out.trans hb))
  replace HA1 := Lib.hid (SpansAt.below HAw1.out (HT.out.trans hb))
  replace HA2 := Lib.hid (SlAt.below HAw2.out (HT.out.trans hb))
  replace HT := Lib.hid (HT.out.trans hb)
  have zwV := ht.size; clear ht hb; obtain ⟨wV, rfl⟩ : ∃ x, x = w2 := ⟨_, rfl⟩
  clear OX2
  clear OM
  have cG00 := (BG0.out.cells 0 _ rfl).1; have fG00 := (BG0.out.cells 0 _ rfl).2
  have cG01 := (BG0.out.cells 1 _ rfl).1; have fG01 := (BG0.out.cells 1 _ rfl).2
  have cG02 := (BG0.out.cells 2 _ rfl).1; have fG02 := (BG0.out.cells 2 _ rfl).2
  have cG03 := (BG0.out.cells 3 _ rfl).1; have fG03 := (BG0.out.cells 3 _ rfl).2
  have cG04 := (BG0.out.cells 4 _ rfl).1; have fG04 := (BG0.out.cells 4 _ rfl).2
  have xG0 := BG0.out.lt
  have cW00 := (BW0.out.cells 0 _ rfl).1; have fW00 := (BW0.out.cells 0 _ rfl).2
  have cW01 := (BW0.out.cells 1 _ rfl).1; have fW01 := (BW0.out.cells 1 _ rfl).2
  have cW02 := (BW0.out.cells 2 _ rfl).1; have fW02 := (BW0.out.cells 2 _ rfl).2
  have cW03 := (BW0.out.cells 3 _ rfl).1; have fW03 := (BW0.out.cells 3 _ rfl).2
  have cW04 := (BW0.out.cells 4 _ rfl).1; have fW04 := (BW0.out.cells 4 _ rfl).2
  have xW0 := BW0.out.lt
  go_wp2_with fail
  refine (l_eqKernel _ _ (⟨⟨⟨.slice yG0co yG0vs.length yG0cc, .slice yG0uo K2.m.f.used.length yG0uc, yG0vs⟩, .slice yG0eo K2.m.ents.length yG0ec⟩, .slice yG0ro K2.refuse.length yG0rc⟩ : KV) (⟨⟨⟨.slice yW0co yW0vs.length yW0cc, .slice yW0uo K2.m.f.used.length yW0uc, yW0vs⟩, .slice yW0eo K2.m.ents.length yW0ec⟩, .slice yW0ro K2.refuse.length yW0rc⟩ : KV) _ _ OG0.out OW0.out).mono ?_; rintro e w2 ⟨rfl, hb⟩
  clear xG0 cG00 fG00 cG01 fG01 cG02 fG02 cG03 fG03 cG04 fG04
  clear xW0 cW00 fW00 cW01 fW01 cW02 fW02 cW03 fW03 cW04 fW04
  replace BP0 := Lib.hid (BP0.out.below hb)
  replace BW0 := Lib.hid (BW0.out.below hb)
  replace BG0 := Lib.hid (BG0.out.below hb)
  replace OW0 := Lib.hid (OW0.out.below hb)
  replace OW1 := Lib.hid (Own.below OW1.out hb)
  replace OW2 := Lib.hid (Own.below OW2.out hb)
  replace OG0 := Lib.hid (OG0.out.below hb)
  replace OG1 := Lib.hid (Own.below OG1.out hb)
  replace OG2 := Lib.hid (Own.below OG2.out hb)
  replace HA0 := Lib.hid (HA0.out.below hb)
  replace HA1 := Lib.hid (HA1.out.below hb)
  replace HA2 := Lib.hid (HA2.out.below hb)
  replace HT := Lib.hid (HT.out.trans (hb.mono HT.out.size))
  have zwW := hb.size; (try simp only [World.size_alloc] at zwW); clear hb; obtain ⟨wW, rfl⟩ : ∃ x, x = w2 := ⟨_, rfl⟩
  go_wp2_with fail
  refine (l_eqSpanS _ _ sp _ (OwnSp.at OG1.out) (OwnSp.at OW1.out)).mono ?_; rintro e w2 ⟨rfl, hb⟩
  replace BP0 := Lib.hid (BP0.out.below hb)
  replace BW0 := Lib.hid (BW0.out.below hb)
  replace BG0 := Lib.hid (BG0.out.below hb)
  replace OW0 := Lib.hid (OW0.out.below hb)
  replace OW1 := Lib.hid (Own.below OW1.out hb)
  replace OW2 := Lib.hid (Own.below OW2.out hb)
  replace OG0 := Lib.hid (OG0.out.below hb)
  replace OG1 := Lib.hid (Own.below OG1.out hb)
  replace OG2 := Lib.hid (Own.below OG2.out hb)
  replace HA0 := Lib.hid (HA0.out.below hb)
  replace HA1 := Lib.hid (HA1.out.below hb)
  replace HA2 := Lib.hid (HA2.out.below hb)
  replace HT := Lib.hid (HT.out.trans (hb.mono HT.out.size))
  have zwX := hb.size; (try simp only [World.size_alloc] at zwX); clear hb; obtain ⟨wX, rfl⟩ : ∃ x, x = w2 := ⟨_, rfl⟩
  go_wp2_with fail
  refine (l_eqLateS _ _ left _ (Own.at OG2.out lenLt) (Own.at OW2.out lenLt)).mono ?_; rintro e w2 ⟨rfl, hb⟩
  replace BP0 := Lib.hid (BP0.out.below hb)
  replace BW0 := Lib.hid (BW0.out.below hb)
  replace BG0 := Lib.hid (BG0.out.below hb)
  replace OW0 := Lib.hid (OW0.out.below hb)
  replace OW1 := Lib.hid (Own.below OW1.out hb)
  replace OW2 := Lib.hid (Own.below OW2.out hb)
  replace OG0 := Lib.hid (OG0.out.below hb)
  replace OG1 := Lib.hid (Own.below OG1.out hb)
  replace OG2 := Lib.hid (Own.below OG2.out hb)
  replace HA0 := Lib.hid (HA0.out.below hb)
  replace HA1 := Lib.hid (HA1.out.below hb)
  replace HA2 := Lib.hid (HA2.out.below hb)
  replace HT := Lib.hid (HT.out.trans (hb.mono HT.out.size))
  have zwY := hb.size; (try simp only [World.size_alloc] at zwY); clear hb; obtain ⟨wY, rfl⟩ : ∃ x, x = w2 := ⟨_, rfl⟩
  have cG00 := (BG0.out.cells 0 _ rfl).1; have fG00 := (BG0.out.cells 0 _ rfl).2
  have cG01 := (BG0.out.cells 1 _ rfl).1; have fG01 := (BG0.out.cells 1 _ rfl).2
  have cG02 := (BG0.out.cells 2 _ rfl).1; have fG02 := (BG0.out.cells 2 _ rfl).2
  have cG03 := (BG0.out.cells 3 _ rfl).1; have fG03 := (BG0.out.cells 3 _ rfl).2
  have cG04 := (BG0.out.cells 4 _ rfl).1; have fG04 := (BG0.out.cells 4 _ rfl).2
  have xG0 := BG0.out.lt
  go_wp2_with fail
  refine (l_markKernel _ (⟨⟨⟨.slice yG0co yG0vs.length yG0cc, .slice yG0uo K2.m.f.used.length yG0uc, yG0vs⟩, .slice yG0eo K2.m.ents.length yG0ec⟩, .slice yG0ro K2.refuse.length yG0rc⟩ : KV) K2 1 (by omega) _ OG0.out).mono ?_; rintro e w2 ⟨rfl, OM, ht⟩
  clear xG0 cG00 fG00 cG01 fG01 cG02 fG02 cG03 fG03 cG04 fG04
  replace BP0 := Lib.hid (BP0.out.touch ht (fun hm => by first | exact NP0_G0.out hm | (have := LG0.out _ hm; (try simp only [World.size_alloc] at this); omega)))
  replace BW0 := Lib.hid (BW0.out.touch ht (fun hm => by first | exact NW0_G0.out hm | (have := LG0.out _ hm; (try simp only [World.size_alloc] at this); omega)))
  replace BG0 := Lib.hid (BG0.out.touch ht (fun hm => by first | exact NG0_G0.out hm | (have := LG0.out _ hm; (try simp only [World.size_alloc] at this); omega)))
  replace OW0 := Lib.hid (OW0.out.touch ht (fun g hg hm => by (have h1 := LW0.out g hg; have h2 := LG0.out _ hm; (try simp only [World.size_alloc] at h1 h2); omega)))
  replace OW1 := Lib.hid (Own.touchs OW1.out ht (fun g hg hm => by (have h1 := LW1.out g hg; have h2 := LG0.out _ hm; (try simp only [World.size_alloc] at h1 h2); omega)))
  replace OW2 := Lib.hid (Own.touchs OW2.out ht (fun g hg hm => by (have h1 := LW2.out g hg; have h2 := LG0.out _ hm; (try simp only [World.size_alloc] at h1 h2); omega)))
  replace OG1 := Lib.hid (Own.touchs OG1.out ht (fun g hg hm => by first | exact DG0_1.out g hg hm | exact DG0_1.out g hm hg | (have h1 := LG1.out g hg; have h2 := LG0.out _ hm; (try simp only [World.size_alloc] at h1 h2); omega)))
  replace OG2 := Lib.hid (Own.touchs OG2.out ht (fun g hg hm => by first | exact DG0_2.out g hg hm | exact DG0_2.out g hm hg | (have h1 := LG2.out g hg; have h2 := LG0.out _ hm; (try simp only [World.size_alloc] at h1 h2); omega)))
  have hb := ht.toBelow (B := w.heap.size) (fun g hg => by have h2 := LG0.out _ hg; (try simp only [World.size_alloc] at h2); omega) (by omega)
  replace HA0 := Lib.hid (KAt.below HAw0.out (HT.out.trans hb))
  replace HA1 := Lib.hid (SpansAt.below HAw1.out (HT.out.trans hb))
  replace HA2 := Lib.hid (SlAt.below HAw2.out (HT.out.trans hb))
  replace HT := Lib.hid (HT.out.trans hb)
  have zwZ := ht.size; clear ht hb; obtain ⟨wZ, rfl⟩ : ∃ x, x = w2 := ⟨_, rfl⟩
  clear OG0
  have OG0 := Lib.hid OM; clear OM
  go_wp2_with fail
  refine (l_markSpanS _ _ sp _ (by omega) _ OG1.out).mono ?_; rintro e w2 ⟨rfl, OM, hgr⟩
  have ht := grown_touch (S := blocks [_]) hgr fun g hg => mem_one hg; clear hgr
  replace BP0 := Lib.hid (BP0.out.touch ht (fun hm => by first | exact NP0_G1.out hm | (have := LG1.out _ hm; (try simp only [World.size_alloc] at this); omega)))
  replace BW0 := Lib.hid (BW0.out.touch ht (fun hm => by first | exact NW0_G1.out hm | (have := LG1.out _ hm; (try simp only [World.size_alloc] at this); omega)))
  replace BG0 := Lib.hid (BG0.out.touch ht (fun hm => by first | exact NG0_G1.out hm | (have := LG1.out _ hm; (try simp only [World.size_alloc] at this); omega)))
  replace OW0 := Lib.hid (OW0.out.touch ht (fun g hg hm => by (have h1 := LW0.out g hg; have h2 := LG1.out _ hm; (try simp only [World.size_alloc] at h1 h2); omega)))
  replace OW1 := Lib.hid (Own.touchs OW1.out ht (fun g hg hm => by (have h1 := LW1.out g hg; have h2 := LG1.out _ hm; (try simp only [World.size_alloc] at h1 h2); omega)))
  replace OW2 := Lib.hid (Own.touchs OW2.out ht (fun g hg hm => by (have h1 := LW2.out g hg; have h2 := LG1.out _ hm; (try simp only [World.size_alloc] at h1 h2); omega)))
  replace OG0 := Lib.hid (OG0.out.touch ht (fun g hg hm => by first | exact DG0_1.out g hg hm | exact DG0_1.out g hm hg | (have h1 := LG0.out g hg; have h2 := LG1.out _ hm; (try simp only [World.size_alloc] at h1 h2); omega)))
  replace OG2 := Lib.hid (Own.touchs OG2.out ht (fun g hg hm => by first | exact DG1_2.out g hg hm | exact DG1_2.out g hm hg | (have h1 := LG2.out g hg; have h2 := LG1.out _ hm; (try simp only [World.size_alloc] at h1 h2); omega)))
  have hb := ht.toBelow (B := w.heap.size) (fun g hg => by have h2 := LG1.out _ hg; (try simp only [World.size_alloc] at h2); omega) (by omega)
  replace HA0 := Lib.hid (KAt.below HAw0.out (HT.out.trans hb))
  replace HA1 := Lib.hid (SpansAt.below HAw1.out (HT.out.trans hb))
  replace HA2 := Lib.hid (SlAt.below HAw2.out (HT.out.trans hb))
  replace HT := Lib.hid (HT.out.trans hb)
  have zwzA := ht.size; clear ht hb; obtain ⟨wzA, rfl⟩ : ∃ x, x = w2 := ⟨_, rfl⟩
  clear OG1
  have OG1 := Lib.hid OM; clear OM
  go_wp2_with fail
  refine (l_markLateS _ _ left _ (by omega) _ OG2.out).mono ?_; rintro e w2 ⟨rfl, OM, hgr⟩
  have ht := grown_touch (S := blocks [_]) hgr fun g hg => mem_one hg; clear hgr
  replace BP0 := Lib.hid (BP0.out.touch ht (fun hm => by first | exact NP0_G2.out hm | (have := LG2.out _ hm; (try simp only [World.size_alloc] at this); omega)))
  replace BW0 := Lib.hid (BW0.out.touch ht (fun hm => by first | exact NW0_G2.out hm | (have := LG2.out _ hm; (try simp only [World.size_alloc] at this); omega)))
  replace BG0 := Lib.hid (BG0.out.touch ht (fun hm => by first | exact NG0_G2.out hm | (have := LG2.out _ hm; (try simp only [World.size_alloc] at this); omega)))
  replace OW0 := Lib.hid (OW0.out.touch ht (fun g hg hm => by (have h1 := LW0.out g hg; have h2 := LG2.out _ hm; (try simp only [World.size_alloc] at h1 h2); omega)))
  replace OW1 := Lib.hid (Own.touchs OW1.out ht (fun g hg hm => by (have h1 := LW1.out g hg; have h2 := LG2.out _ hm; (try simp only [World.size_alloc] at h1 h2); omega)))
  replace OW2 := Lib.hid (Own.touchs OW2.out ht (fun g hg hm => by (have h1 := LW2.out g hg; have h2 := LG2.out _ hm; (try simp only [World.size_alloc] at h1 h2); omega)))
  replace OG0 := Lib.hid (OG0.out.touch ht (fun g hg hm => by first | exact DG0_2.out g hg hm | exact DG0_2.out g hm hg | (have h1 := LG0.out g hg; have h2 := LG2.out _ hm; (try simp only [World.size_alloc] at h1 h2); omega)))
  replace OG1 := Lib.hid (Own.touchs OG1.out ht (fun g hg hm => by first | exact DG1_2.out g hg hm | exact DG1_2.out g hm hg | (have h1 := LG1.out g hg; have h2 := LG2.out _ hm; (try simp only [World.size_alloc] at h1 h2); omega)))
  have hb := ht.toBelow (B := w.heap.size) (fun g hg => by have h2 := LG2.out _ hg; (try simp only [World.size_alloc] at h2); omega) (by omega)
  replace HA0 := Lib.hid (KAt.below HAw0.out (HT.out.trans hb))
  replace HA1 := Lib.hid (SpansAt.below HAw1.out (HT.out.trans hb))
  replace HA2 := Lib.hid (SlAt.below HAw2.out (HT.out.trans hb))
  replace HT := Lib.hid (HT.out.trans hb)
  have zwzB := ht.size; clear ht hb; obtain ⟨wzB, rfl⟩ : ∃ x, x = w2 := ⟨_, rfl⟩
  clear OG2
  have OG2 := Lib.hid OM; clear OM
  have cG00 := (BG0.out.cells 0 _ rfl).1; have fG00 := (BG0.out.cells 0 _ rfl).2
  have cG01 := (BG0.out.cells 1 _ rfl).1; have fG01 := (BG0.out.cells 1 _ rfl).2
  have cG02 := (BG0.out.cells 2 _ rfl).1; have fG02 := (BG0.out.cells 2 _ rfl).2
  have cG03 := (BG0.out.cells 3 _ rfl).1; have fG03 := (BG0.out.cells 3 _ rfl).2
  have cG04 := (BG0.out.cells 4 _ rfl).1; have fG04 := (BG0.out.cells 4 _ rfl).2
  have xG0 := BG0.out.lt
  go_wp2_with fail
  refine (l_heldKernel _ (⟨⟨⟨.slice yG0co yG0vs.length yG0cc, .slice yG0uo K2.m.f.used.length yG0uc, yG0vs⟩, .slice yG0eo K2.m.ents.length yG0ec⟩, .slice yG0ro K2.refuse.length yG0rc⟩ : KV) K2 1 (by omega) _ OG0.out).mono ?_; rintro e w2 ⟨rfl, hb⟩
  clear xG0 cG00 fG00 cG01 fG01 cG02 fG02 cG03 fG03 cG04 fG04
  replace BP0 := Lib.hid (BP0.out.below hb)
  replace BW0 := Lib.hid (BW0.out.below hb)
  replace BG0 := Lib.hid (BG0.out.below hb)
  replace OW0 := Lib.hid (OW0.out.below hb)
  replace OW1 := Lib.hid (Own.below OW1.out hb)
  replace OW2 := Lib.hid (Own.below OW2.out hb)
  replace OG0 := Lib.hid (OG0.out.below hb)
  replace OG1 := Lib.hid (Own.below OG1.out hb)
  replace OG2 := Lib.hid (Own.below OG2.out hb)
  replace HA0 := Lib.hid (HA0.out.below hb)
  replace HA1 := Lib.hid (HA1.out.below hb)
  replace HA2 := Lib.hid (HA2.out.below hb)
  replace HT := Lib.hid (HT.out.trans (hb.mono HT.out.size))
  have zwzC := hb.size; (try simp only [World.size_alloc] at zwzC); clear hb; obtain ⟨wzC, rfl⟩ : ∃ x, x = w2 := ⟨_, rfl⟩
  go_wp2_with fail
  refine (l_heldSpanS _ sp.length _ (by omega) _ (Own.at OG1.out lenSpan)).mono ?_; rintro e w2 ⟨rfl, hb⟩
  replace BP0 := Lib.hid (BP0.out.below hb)
  replace BW0 := Lib.hid (BW0.out.below hb)
  replace BG0 := Lib.hid (BG0.out.below hb)
  replace OW0 := Lib.hid (OW0.out.below hb)
  replace OW1 := Lib.hid (Own.below OW1.out hb)
  replace OW2 := Lib.hid (Own.below OW2.out hb)
  replace OG0 := Lib.hid (OG0.out.below hb)
  replace OG1 := Lib.hid (Own.below OG1.out hb)
  replace OG2 := Lib.hid (Own.below OG2.out hb)
  replace HA0 := Lib.hid (HA0.out.below hb)
  replace HA1 := Lib.hid (HA1.out.below hb)
  replace HA2 := Lib.hid (HA2.out.below hb)
  replace HT := Lib.hid (HT.out.trans (hb.mono HT.out.size))
  have zwzD := hb.size; (try simp only [World.size_alloc] at zwzD); clear hb; obtain ⟨wzD, rfl⟩ : ∃ x, x = w2 := ⟨_, rfl⟩
  go_wp2_with fail
  refine (l_heldLateS _ left.length _ (by omega) _ (Own.at OG2.out lenLt)).mono ?_; rintro e w2 ⟨rfl, hb⟩
  replace BP0 := Lib.hid (BP0.out.below hb)
  replace BW0 := Lib.hid (BW0.out.below hb)
  replace BG0 := Lib.hid (BG0.out.below hb)
  replace OW0 := Lib.hid (OW0.out.below hb)
  replace OW1 := Lib.hid (Own.below OW1.out hb)
  replace OW2 := Lib.hid (Own.below OW2.out hb)
  replace OG0 := Lib.hid (OG0.out.below hb)
  replace OG1 := Lib.hid (Own.below OG1.out hb)
  replace OG2 := Lib.hid (Own.below OG2.out hb)
  replace HA0 := Lib.hid (HA0.out.below hb)
  replace HA1 := Lib.hid (HA1.out.below hb)
  replace HA2 := Lib.hid (HA2.out.below hb)
  replace HT := Lib.hid (HT.out.trans (hb.mono HT.out.size))
  have zwzE := hb.size; (try simp only [World.size_alloc] at zwzE); clear hb; obtain ⟨wzE, rfl⟩ : ∃ x, x = w2 := ⟨_, rfl⟩
  have cP00 := (BP0.out.cells 0 _ rfl).1; have fP00 := (BP0.out.cells 0 _ rfl).2
  have cP01 := (BP0.out.cells 1 _ rfl).1; have fP01 := (BP0.out.cells 1 _ rfl).2
  have cP02 := (BP0.out.cells 2 _ rfl).1; have fP02 := (BP0.out.cells 2 _ rfl).2
  have cP03 := (BP0.out.cells 3 _ rfl).1; have fP03 := (BP0.out.cells 3 _ rfl).2
  have cP04 := (BP0.out.cells 4 _ rfl).1; have fP04 := (BP0.out.cells 4 _ rfl).2
  have xP0 := BP0.out.lt
  go_wp2_with fail
  refine (l_toKernel x K (by omega) _ HA0.out).mono ?_; rintro e w2 ⟨yC0, rfl, OC0, hb⟩
  clear xP0 cP00 fP00 cP01 fP01 cP02 fP02 cP03 fP03 cP04 fP04
  obtain ⟨yC0co, yC0cc, yC0uo, yC0uc, yC0vs, yC0eo, yC0ec, yC0ro, yC0rc, rfl⟩ := KOwn.shapes OC0
  have LC0 := Lib.hid (OC0.lts); replace OC0 := Lib.hid OC0
  replace BP0 := Lib.hid (BP0.out.below hb)
  replace BW0 := Lib.hid (BW0.out.below hb)
  replace BG0 := Lib.hid (BG0.out.below hb)
  replace OW0 := Lib.hid (OW0.out.below hb)
  replace OW1 := Lib.hid (Own.below OW1.out hb)
  replace OW2 := Lib.hid (Own.below OW2.out hb)
  replace OG0 := Lib.hid (OG0.out.below hb)
  replace OG1 := Lib.hid (Own.below OG1.out hb)
  replace OG2 := Lib.hid (Own.below OG2.out hb)
  replace HA0 := Lib.hid (HA0.out.below hb)
  replace HA1 := Lib.hid (HA1.out.below hb)
  replace HA2 := Lib.hid (HA2.out.below hb)
  replace HT := Lib.hid (HT.out.trans (hb.mono HT.out.size))
  have zwzF := hb.size; (try simp only [World.size_alloc] at zwzF); clear hb; obtain ⟨wzF, rfl⟩ : ∃ x, x = w2 := ⟨_, rfl⟩
  simp only [KV.val]
  go_wp2_with fail
  refine (l_toSpanS _ ss (by omega) _ HA1.out).mono ?_; rintro e w2 ⟨vC1, rfl, OC1, hb⟩
  obtain ⟨yC1o, yC1c, rfl, -, -⟩ := OC1.shape
  have LC1 := Lib.hid (Own.lts OC1); replace OC1 := Lib.hid OC1
  replace BP0 := Lib.hid (BP0.out.below hb)
  replace BW0 := Lib.hid (BW0.out.below hb)
  replace BG0 := Lib.hid (BG0.out.below hb)
  replace OW0 := Lib.hid (OW0.out.below hb)
  replace OW1 := Lib.hid (Own.below OW1.out hb)
  replace OW2 := Lib.hid (Own.below OW2.out hb)
  replace OG0 := Lib.hid (OG0.out.below hb)
  replace OG1 := Lib.hid (Own.below OG1.out hb)
  replace OG2 := Lib.hid (Own.below OG2.out hb)
  replace OC0 := Lib.hid (OC0.out.below hb)
  replace HA0 := Lib.hid (HA0.out.below hb)
  replace HA1 := Lib.hid (HA1.out.below hb)
  replace HA2 := Lib.hid (HA2.out.below hb)
  replace HT := Lib.hid (HT.out.trans (hb.mono HT.out.size))
  have zwzG := hb.size; (try simp only [World.size_alloc] at zwzG); clear hb; obtain ⟨wzG, rfl⟩ : ∃ x, x = w2 := ⟨_, rfl⟩
  skip
  go_wp2_with fail
  refine (l_toLateS _ xs (by omega) _ HA2.out).mono ?_; rintro e w2 ⟨vC2, rfl, OC2, hb⟩
  obtain ⟨yC2o, yC2c, rfl, -, -⟩ := OC2.shape
  have LC2 := Lib.hid (Own.lts OC2); replace OC2 := Lib.hid OC2
  replace BP0 := Lib.hid (BP0.out.below hb)
  replace BW0 := Lib.hid (BW0.out.below hb)
  replace BG0 := Lib.hid (BG0.out.below hb)
  replace OW0 := Lib.hid (OW0.out.below hb)
  replace OW1 := Lib.hid (Own.below OW1.out hb)
  replace OW2 := Lib.hid (Own.below OW2.out hb)
  replace OG0 := Lib.hid (OG0.out.below hb)
  replace OG1 := Lib.hid (Own.below OG1.out hb)
  replace OG2 := Lib.hid (Own.below OG2.out hb)
  replace OC0 := Lib.hid (OC0.out.below hb)
  replace OC1 := Lib.hid (Own.below OC1.out hb)
  replace HA0 := Lib.hid (HA0.out.below hb)
  replace HA1 := Lib.hid (HA1.out.below hb)
  replace HA2 := Lib.hid (HA2.out.below hb)
  replace HT := Lib.hid (HT.out.trans (hb.mono HT.out.size))
  have zwzH := hb.size; (try simp only [World.size_alloc] at zwzH); clear hb; obtain ⟨wzH, rfl⟩ : ∃ x, x = w2 := ⟨_, rfl⟩
  skip
  go_wp2_with fail
  refine (HI.out _ _ _ _ (KOwn.at OC0.out) (OwnSp.at OC1.out) (Own.at OC2.out lenLt)).mono ?_; rintro e w2 ⟨yH0, vH1, vH2, rfl, OH0, OH1, OH2, DH0_1, DH0_2, DH1_2, hb⟩
  obtain ⟨yH0co, yH0cc, yH0uo, yH0uc, yH0vs, yH0eo, yH0ec, yH0ro, yH0rc, rfl⟩ := KOwn.shapes OH0
  have LH0 := Lib.hid (OH0.lts); replace OH0 := Lib.hid OH0
  obtain ⟨yH1o, yH1c, rfl, -, -⟩ := OH1.shape
  have LH1 := Lib.hid (Own.lts OH1); replace OH1 := Lib.hid OH1
  obtain ⟨yH2o, yH2c, rfl, -, -⟩ := OH2.shape
  have LH2 := Lib.hid (Own.lts OH2); replace OH2 := Lib.hid OH2
  replace DH0_1 := Lib.hid DH0_1
  replace DH0_2 := Lib.hid DH0_2
  replace DH1_2 := Lib.hid DH1_2
  clear OC0 LC0
  clear OC1 LC1
  clear OC2 LC2
  replace BP0 := Lib.hid (BP0.out.below hb)
  replace BW0 := Lib.hid (BW0.out.below hb)
  replace BG0 := Lib.hid (BG0.out.below hb)
  replace OW0 := Lib.hid (OW0.out.below hb)
  replace OW1 := Lib.hid (Own.below OW1.out hb)
  replace OW2 := Lib.hid (Own.below OW2.out hb)
  replace OG0 := Lib.hid (OG0.out.below hb)
  replace OG1 := Lib.hid (Own.below OG1.out hb)
  replace OG2 := Lib.hid (Own.below OG2.out hb)
  replace HA0 := Lib.hid (HA0.out.below hb)
  replace HA1 := Lib.hid (HA1.out.below hb)
  replace HA2 := Lib.hid (HA2.out.below hb)
  replace HT := Lib.hid (HT.out.trans (hb.mono HT.out.size))
  have zwzI := hb.size; (try simp only [World.size_alloc] at zwzI); clear hb; obtain ⟨wzI, rfl⟩ : ∃ x, x = w2 := ⟨_, rfl⟩
  simp only [KV.val]
  replace BP0 := Lib.hid (BP0.out.below ((Below.refl _ wzI).alloc (Nat.le_refl _) (.cells #[.slice yH0co yH0vs.length yH0cc, .slice yH0uo K2.m.f.used.length yH0uc, .slice yH0eo K2.m.ents.length yH0ec, .int .i64 (K2.calls), .slice yH0ro K2.refuse.length yH0rc] 46)))
  replace BW0 := Lib.hid (BW0.out.below ((Below.refl _ wzI).alloc (Nat.le_refl _) (.cells #[.slice yH0co yH0vs.length yH0cc, .slice yH0uo K2.m.f.used.length yH0uc, .slice yH0eo K2.m.ents.length yH0ec, .int .i64 (K2.calls), .slice yH0ro K2.refuse.length yH0rc] 46)))
  replace BG0 := Lib.hid (BG0.out.below ((Below.refl _ wzI).alloc (Nat.le_refl _) (.cells #[.slice yH0co yH0vs.length yH0cc, .slice yH0uo K2.m.f.used.length yH0uc, .slice yH0eo K2.m.ents.length yH0ec, .int .i64 (K2.calls), .slice yH0ro K2.refuse.length yH0rc] 46)))
  replace OW0 := Lib.hid (OW0.out.below ((Below.refl _ wzI).alloc (Nat.le_refl _) (.cells #[.slice yH0co yH0vs.length yH0cc, .slice yH0uo K2.m.f.used.length yH0uc, .slice yH0eo K2.m.ents.length yH0ec, .int .i64 (K2.calls), .slice yH0ro K2.refuse.length yH0rc] 46)))
  replace OW1 := Lib.hid (Own.below OW1.out ((Below.refl _ wzI).alloc (Nat.le_refl _) (.cells #[.slice yH0co yH0vs.length yH0cc, .slice yH0uo K2.m.f.used.length yH0uc, .slice yH0eo K2.m.ents.length yH0ec, .int .i64 (K2.calls), .slice yH0ro K2.refuse.length yH0rc] 46)))
  replace OW2 := Lib.hid (Own.below OW2.out ((Below.refl _ wzI).alloc (Nat.le_refl _) (.cells #[.slice yH0co yH0vs.length yH0cc, .slice yH0uo K2.m.f.used.length yH0uc, .slice yH0eo K2.m.ents.length yH0ec, .int .i64 (K2.calls), .slice yH0ro K2.refuse.length yH0rc] 46)))
  replace OG0 := Lib.hid (OG0.out.below ((Below.refl _ wzI).alloc (Nat.le_refl _) (.cells #[.slice yH0co yH0vs.length yH0cc, .slice yH0uo K2.m.f.used.length yH0uc, .slice yH0eo K2.m.ents.length yH0ec, .int .i64 (K2.calls), .slice yH0ro K2.refuse.length yH0rc] 46)))
  replace OG1 := Lib.hid (Own.below OG1.out ((Below.refl _ wzI).alloc (Nat.le_refl _) (.cells #[.slice yH0co yH0vs.length yH0cc, .slice yH0uo K2.m.f.used.length yH0uc, .slice yH0eo K2.m.ents.length yH0ec, .int .i64 (K2.calls), .slice yH0ro K2.refuse.length yH0rc] 46)))
  replace OG2 := Lib.hid (Own.below OG2.out ((Below.refl _ wzI).alloc (Nat.le_refl _) (.cells #[.slice yH0co yH0vs.length yH0cc, .slice yH0uo K2.m.f.used.length yH0uc, .slice yH0eo K2.m.ents.length yH0ec, .int .i64 (K2.calls), .slice yH0ro K2.refuse.length yH0rc] 46)))
  replace OH0 := Lib.hid (OH0.out.below ((Below.refl _ wzI).alloc (Nat.le_refl _) (.cells #[.slice yH0co yH0vs.length yH0cc, .slice yH0uo K2.m.f.used.length yH0uc, .slice yH0eo K2.m.ents.length yH0ec, .int .i64 (K2.calls), .slice yH0ro K2.refuse.length yH0rc] 46)))
  replace OH1 := Lib.hid (Own.below OH1.out ((Below.refl _ wzI).alloc (Nat.le_refl _) (.cells #[.slice yH0co yH0vs.length yH0cc, .slice yH0uo K2.m.f.used.length yH0uc, .slice yH0eo K2.m.ents.length yH0ec, .int .i64 (K2.calls), .slice yH0ro K2.refuse.length yH0rc] 46)))
  replace OH2 := Lib.hid (Own.below OH2.out ((Below.refl _ wzI).alloc (Nat.le_refl _) (.cells #[.slice yH0co yH0vs.length yH0cc, .slice yH0uo K2.m.f.used.length yH0uc, .slice yH0eo K2.m.ents.length yH0ec, .int .i64 (K2.calls), .slice yH0ro K2.refuse.length yH0rc] 46)))
  replace HA0 := Lib.hid (HA0.out.below ((Below.refl _ wzI).alloc (Nat.le_refl _) (.cells #[.slice yH0co yH0vs.length yH0cc, .slice yH0uo K2.m.f.used.length yH0uc, .slice yH0eo K2.m.ents.length yH0ec, .int .i64 (K2.calls), .slice yH0ro K2.refuse.length yH0rc] 46)))
  replace HA1 := Lib.hid (HA1.out.below ((Below.refl _ wzI).alloc (Nat.le_refl _) (.cells #[.slice yH0co yH0vs.length yH0cc, .slice yH0uo K2.m.f.used.length yH0uc, .slice yH0eo K2.m.ents.length yH0ec, .int .i64 (K2.calls), .slice yH0ro K2.refuse.length yH0rc] 46)))
  replace HA2 := Lib.hid (HA2.out.below ((Below.refl _ wzI).alloc (Nat.le_refl _) (.cells #[.slice yH0co yH0vs.length yH0cc, .slice yH0uo K2.m.f.used.length yH0uc, .slice yH0eo K2.m.ents.length yH0ec, .int .i64 (K2.calls), .slice yH0ro K2.refuse.length yH0rc] 46)))
  replace HT := Lib.hid (HT.out.trans (((Below.refl _ wzI).alloc (Nat.le_refl _) (.cells #[.slice yH0co yH0vs.length yH0cc, .slice yH0uo K2.m.f.used.length yH0uc, .slice yH0eo K2.m.ents.length yH0ec, .int .i64 (K2.calls), .slice yH0ro K2.refuse.length yH0rc] 46)).mono HT.out.size))
  have BH0 : Hid (BoxAt (wzI.alloc (.cells #[.slice yH0co yH0vs.length yH0cc, .slice yH0uo K2.m.f.used.length yH0uc, .slice yH0eo K2.m.ents.length yH0ec, .int .i64 (K2.calls), .slice yH0ro K2.refuse.length yH0rc] 46)) (wzI.heap.size) [.slice yH0co yH0vs.length yH0cc, .slice yH0uo K2.m.f.used.length yH0uc, .slice yH0eo K2.m.ents.length yH0ec, .int .i64 (K2.calls), .slice yH0ro K2.refuse.length yH0rc]) := (BoxAt.snoc (BoxAt.snoc (BoxAt.snoc (BoxAt.snoc (BoxAt.snoc (BoxAt.nil (w := wzI.alloc (.cells #[.slice yH0co yH0vs.length yH0cc, .slice yH0uo K2.m.f.used.length yH0uc, .slice yH0eo K2.m.ents.length yH0ec, .int .i64 (K2.calls), .slice yH0ro K2.refuse.length yH0rc] 46)) (g := wzI.heap.size) (by go_simp)) (v := .slice yH0co yH0vs.length yH0cc) (i := 0) rfl (by go_simp) (by go_simp)) (v := .slice yH0uo K2.m.f.used.length yH0uc) (i := 1) rfl (by go_simp) (by go_simp)) (v := .slice yH0eo K2.m.ents.length yH0ec) (i := 2) rfl (by go_simp) (by go_simp)) (v := .int .i64 (K2.calls)) (i := 3) rfl (by go_simp) (by go_simp)) (v := .slice yH0ro K2.refuse.length yH0rc) (i := 4) rfl (by go_simp) (by go_simp))
  have cH00 := (BH0.out.cells 0 _ rfl).1; have fH00 := (BH0.out.cells 0 _ rfl).2
  have cH01 := (BH0.out.cells 1 _ rfl).1; have fH01 := (BH0.out.cells 1 _ rfl).2
  have cH02 := (BH0.out.cells 2 _ rfl).1; have fH02 := (BH0.out.cells 2 _ rfl).2
  have cH03 := (BH0.out.cells 3 _ rfl).1; have fH03 := (BH0.out.cells 3 _ rfl).2
  have cH04 := (BH0.out.cells 4 _ rfl).1; have fH04 := (BH0.out.cells 4 _ rfl).2
  have xH0 := BH0.out.lt
  have cW00 := (BW0.out.cells 0 _ rfl).1; have fW00 := (BW0.out.cells 0 _ rfl).2
  have cW01 := (BW0.out.cells 1 _ rfl).1; have fW01 := (BW0.out.cells 1 _ rfl).2
  have cW02 := (BW0.out.cells 2 _ rfl).1; have fW02 := (BW0.out.cells 2 _ rfl).2
  have cW03 := (BW0.out.cells 3 _ rfl).1; have fW03 := (BW0.out.cells 3 _ rfl).2
  have cW04 := (BW0.out.cells 4 _ rfl).1; have fW04 := (BW0.out.cells 4 _ rfl).2
  have xW0 := BW0.out.lt
  go_wp2_with fail
  refine (l_eqKernel _ _ (⟨⟨⟨.slice yH0co yH0vs.length yH0cc, .slice yH0uo K2.m.f.used.length yH0uc, yH0vs⟩, .slice yH0eo K2.m.ents.length yH0ec⟩, .slice yH0ro K2.refuse.length yH0rc⟩ : KV) (⟨⟨⟨.slice yW0co yW0vs.length yW0cc, .slice yW0uo K2.m.f.used.length yW0uc, yW0vs⟩, .slice yW0eo K2.m.ents.length yW0ec⟩, .slice yW0ro K2.refuse.length yW0rc⟩ : KV) _ _ OH0.out OW0.out).mono ?_; rintro e w2 ⟨rfl, hb⟩
  clear xH0 cH00 fH00 cH01 fH01 cH02 fH02 cH03 fH03 cH04 fH04
  clear xW0 cW00 fW00 cW01 fW01 cW02 fW02 cW03 fW03 cW04 fW04
  replace BP0 := Lib.hid (BP0.out.below hb)
  replace BW0 := Lib.hid (BW0.out.below hb)
  replace BG0 := Lib.hid (BG0.out.below hb)
  replace BH0 := Lib.hid (BH0.out.below hb)
  replace OW0 := Lib.hid (OW0.out.below hb)
  replace OW1 := Lib.hid (Own.below OW1.out hb)
  replace OW2 := Lib.hid (Own.below OW2.out hb)
  replace OG0 := Lib.hid (OG0.out.below hb)
  replace OG1 := Lib.hid (Own.below OG1.out hb)
  replace OG2 := Lib.hid (Own.below OG2.out hb)
  replace OH0 := Lib.hid (OH0.out.below hb)
  replace OH1 := Lib.hid (Own.below OH1.out hb)
  replace OH2 := Lib.hid (Own.below OH2.out hb)
  replace HA0 := Lib.hid (HA0.out.below hb)
  replace HA1 := Lib.hid (HA1.out.below hb)
  replace HA2 := Lib.hid (HA2.out.below hb)
  replace HT := Lib.hid (HT.out.trans (hb.mono HT.out.size))
  have zwzJ := hb.size; (try simp only [World.size_alloc] at zwzJ); clear hb; obtain ⟨wzJ, rfl⟩ : ∃ x, x = w2 := ⟨_, rfl⟩
  go_wp2_with fail
  refine (l_eqSpanS _ _ sp _ (OwnSp.at OH1.out) (OwnSp.at OW1.out)).mono ?_; rintro e w2 ⟨rfl, hb⟩
  replace BP0 := Lib.hid (BP0.out.below hb)
  replace BW0 := Lib.hid (BW0.out.below hb)
  replace BG0 := Lib.hid (BG0.out.below hb)
  replace BH0 := Lib.hid (BH0.out.below hb)
  replace OW0 := Lib.hid (OW0.out.below hb)
  replace OW1 := Lib.hid (Own.below OW1.out hb)
  replace OW2 := Lib.hid (Own.below OW2.out hb)
  replace OG0 := Lib.hid (OG0.out.below hb)
  replace OG1 := Lib.hid (Own.below OG1.out hb)
  replace OG2 := Lib.hid (Own.below OG2.out hb)
  replace OH0 := Lib.hid (OH0.out.below hb)
  replace OH1 := Lib.hid (Own.below OH1.out hb)
  replace OH2 := Lib.hid (Own.below OH2.out hb)
  replace HA0 := Lib.hid (HA0.out.below hb)
  replace HA1 := Lib.hid (HA1.out.below hb)
  replace HA2 := Lib.hid (HA2.out.below hb)
  replace HT := Lib.hid (HT.out.trans (hb.mono HT.out.size))
  have zwzK := hb.size; (try simp only [World.size_alloc] at zwzK); clear hb; obtain ⟨wzK, rfl⟩ : ∃ x, x = w2 := ⟨_, rfl⟩
  go_wp2_with fail
  refine (l_eqLateS _ _ left _ (Own.at OH2.out lenLt) (Own.at OW2.out lenLt)).mono ?_; rintro e w2 ⟨rfl, hb⟩
  replace BP0 := Lib.hid (BP0.out.below hb)
  replace BW0 := Lib.hid (BW0.out.below hb)
  replace BG0 := Lib.hid (BG0.out.below hb)
  replace BH0 := Lib.hid (BH0.out.below hb)
  replace OW0 := Lib.hid (OW0.out.below hb)
  replace OW1 := Lib.hid (Own.below OW1.out hb)
  replace OW2 := Lib.hid (Own.below OW2.out hb)
  replace OG0 := Lib.hid (OG0.out.below hb)
  replace OG1 := Lib.hid (Own.below OG1.out hb)
  replace OG2 := Lib.hid (Own.below OG2.out hb)
  replace OH0 := Lib.hid (OH0.out.below hb)
  replace OH1 := Lib.hid (Own.below OH1.out hb)
  replace OH2 := Lib.hid (Own.below OH2.out hb)
  replace HA0 := Lib.hid (HA0.out.below hb)
  replace HA1 := Lib.hid (HA1.out.below hb)
  replace HA2 := Lib.hid (HA2.out.below hb)
  replace HT := Lib.hid (HT.out.trans (hb.mono HT.out.size))
  have zwzL := hb.size; (try simp only [World.size_alloc] at zwzL); clear hb; obtain ⟨wzL, rfl⟩ : ∃ x, x = w2 := ⟨_, rfl⟩
  have cG00 := (BG0.out.cells 0 _ rfl).1; have fG00 := (BG0.out.cells 0 _ rfl).2
  have cG01 := (BG0.out.cells 1 _ rfl).1; have fG01 := (BG0.out.cells 1 _ rfl).2
  have cG02 := (BG0.out.cells 2 _ rfl).1; have fG02 := (BG0.out.cells 2 _ rfl).2
  have cG03 := (BG0.out.cells 3 _ rfl).1; have fG03 := (BG0.out.cells 3 _ rfl).2
  have cG04 := (BG0.out.cells 4 _ rfl).1; have fG04 := (BG0.out.cells 4 _ rfl).2
  have xG0 := BG0.out.lt
  go_wp2_with fail
  refine (l_heldKernel _ (⟨⟨⟨.slice yG0co yG0vs.length yG0cc, .slice yG0uo K2.m.f.used.length yG0uc, yG0vs⟩, .slice yG0eo K2.m.ents.length yG0ec⟩, .slice yG0ro K2.refuse.length yG0rc⟩ : KV) K2 1 (by omega) _ OG0.out).mono ?_; rintro e w2 ⟨rfl, hb⟩
  clear xG0 cG00 fG00 cG01 fG01 cG02 fG02 cG03 fG03 cG04 fG04
  replace BP0 := Lib.hid (BP0.out.below hb)
  replace BW0 := Lib.hid (BW0.out.below hb)
  replace BG0 := Lib.hid (BG0.out.below hb)
  replace BH0 := Lib.hid (BH0.out.below hb)
  replace OW0 := Lib.hid (OW0.out.below hb)
  replace OW1 := Lib.hid (Own.below OW1.out hb)
  replace OW2 := Lib.hid (Own.below OW2.out hb)
  replace OG0 := Lib.hid (OG0.out.below hb)
  replace OG1 := Lib.hid (Own.below OG1.out hb)
  replace OG2 := Lib.hid (Own.below OG2.out hb)
  replace OH0 := Lib.hid (OH0.out.below hb)
  replace OH1 := Lib.hid (Own.below OH1.out hb)
  replace OH2 := Lib.hid (Own.below OH2.out hb)
  replace HA0 := Lib.hid (HA0.out.below hb)
  replace HA1 := Lib.hid (HA1.out.below hb)
  replace HA2 := Lib.hid (HA2.out.below hb)
  replace HT := Lib.hid (HT.out.trans (hb.mono HT.out.size))
  have zwzM := hb.size; (try simp only [World.size_alloc] at zwzM); clear hb; obtain ⟨wzM, rfl⟩ : ∃ x, x = w2 := ⟨_, rfl⟩
  go_wp2_with fail
  refine (l_heldSpanS _ sp.length _ (by omega) _ (Own.at OG1.out lenSpan)).mono ?_; rintro e w2 ⟨rfl, hb⟩
  replace BP0 := Lib.hid (BP0.out.below hb)
  replace BW0 := Lib.hid (BW0.out.below hb)
  replace BG0 := Lib.hid (BG0.out.below hb)
  replace BH0 := Lib.hid (BH0.out.below hb)
  replace OW0 := Lib.hid (OW0.out.below hb)
  replace OW1 := Lib.hid (Own.below OW1.out hb)
  replace OW2 := Lib.hid (Own.below OW2.out hb)
  replace OG0 := Lib.hid (OG0.out.below hb)
  replace OG1 := Lib.hid (Own.below OG1.out hb)
  replace OG2 := Lib.hid (Own.below OG2.out hb)
  replace OH0 := Lib.hid (OH0.out.below hb)
  replace OH1 := Lib.hid (Own.below OH1.out hb)
  replace OH2 := Lib.hid (Own.below OH2.out hb)
  replace HA0 := Lib.hid (HA0.out.below hb)
  replace HA1 := Lib.hid (HA1.out.below hb)
  replace HA2 := Lib.hid (HA2.out.below hb)
  replace HT := Lib.hid (HT.out.trans (hb.mono HT.out.size))
  have zwzN := hb.size; (try simp only [World.size_alloc] at zwzN); clear hb; obtain ⟨wzN, rfl⟩ : ∃ x, x = w2 := ⟨_, rfl⟩
  go_wp2_with fail
  refine (l_heldLateS _ left.length _ (by omega) _ (Own.at OG2.out lenLt)).mono ?_; rintro e w2 ⟨rfl, hb⟩
  replace BP0 := Lib.hid (BP0.out.below hb)
  replace BW0 := Lib.hid (BW0.out.below hb)
  replace BG0 := Lib.hid (BG0.out.below hb)
  replace BH0 := Lib.hid (BH0.out.below hb)
  replace OW0 := Lib.hid (OW0.out.below hb)
  replace OW1 := Lib.hid (Own.below OW1.out hb)
  replace OW2 := Lib.hid (Own.below OW2.out hb)
  replace OG0 := Lib.hid (OG0.out.below hb)
  replace OG1 := Lib.hid (Own.below OG1.out hb)
  replace OG2 := Lib.hid (Own.below OG2.out hb)
  replace OH0 := Lib.hid (OH0.out.below hb)
  replace OH1 := Lib.hid (Own.below OH1.out hb)
  replace OH2 := Lib.hid (Own.below OH2.out hb)
  replace HA0 := Lib.hid (HA0.out.below hb)
  replace HA1 := Lib.hid (HA1.out.below hb)
  replace HA2 := Lib.hid (HA2.out.below hb)
  replace HT := Lib.hid (HT.out.trans (hb.mono HT.out.size))
  have zwzO := hb.size; (try simp only [World.size_alloc] at zwzO); clear hb; obtain ⟨wzO, rfl⟩ : ∃ x, x = w2 := ⟨_, rfl⟩
  go_wp2_with fail
  go_ret
  exact ⟨rfl, HT.out⟩

namespace fnExactLateApply
set_option maxRecDepth 100000 in
theorem contract (H : Type) (enc : TypeId × Value → H) (W : World) (base : Nat) (args : Array Value) (ds gs : List (DataW H)) (before : List MemPlace)
    (hval : ∀ (j : Nat) t v, Tryz.f3.params[j]? = some t → args[j]? = some v → Value.okWide Tryz.prog W .any base t v)
    (hW : DataW.Whole enc Tryz.prog Tryz.f3.params.toList Rows.fnExactLateApplySpec.vars false W args.toList ds gs before) :
    Calls Tryz.prog 3 args W fun e W' => ∃ v, e = .returned v ∧ Rows.fnExactLateApplySpec.post enc Tryz.prog Tryz.f3 false true false false W args v W' := by
  have hW' := hW
  obtain ⟨p, q, hA0, hV, rfl, hfz, hnd⟩ := hW
  have hA : DataW.TrodAll enc Tryz.prog W 0 (fun _ => true) true Tryz.f3.params.toList args.toList ds p := hA0
  rw [Tryz.params3] at hA hval
  obtain ⟨v0, vs0, d0, ds0, p0, q0, hargs, rfl, rfl, h0, r0⟩ := trodAll_cons hA
  obtain ⟨v1, vs1, d1, ds1, p1, q1, rfl, rfl, rfl, h1, r1⟩ := trodAll_cons r0
  obtain ⟨v2, vs2, d2, ds2, p2, q2, rfl, rfl, rfl, h2, r2⟩ := trodAll_cons r1
  obtain ⟨rfl, rfl, rfl⟩ := trodAll_nil r2
  obtain rfl : args = #[v0, v1, v2] := by cases args; simp_all
  obtain ⟨rfl, rfl⟩ := trodVars_none hV
  obtain ⟨x, K, rfl, hxK, wK⟩ := kernel_open (hval 0 33 v0 rfl rfl) h0
  obtain ⟨ss, hss⟩ := spans_open Tryz.underlying34 Tryz.underlying103 (by kernel_rfl) (by kernel_rfl) Tryz.underlying3 rfl rfl rfl (hval 1 34 v1 rfl rfl) h1
  obtain ⟨xs, hxs⟩ := argLt Tryz.underlying35 Tryz.underlying105 (by kernel_rfl) (by kernel_rfl) Tryz.underlying3 rfl rfl (hval 2 35 v2 rfl rfl) h2
  clear hA0
  refine (w_FnExactLateApply x K v1 ss v2 xs W hxK hss hxs).mono fun e W' ⟨he, hg⟩ => ?_
  subst he
  exact ⟨_, rfl, law_post (tb := 4) laidOut (by kernel_rfl) rfl rfl Tryz.underlying4 hW' rfl rfl rfl hg⟩
set_option maxRecDepth 100000 in
theorem lifted (os : Os) (started : os.Started) (H : Type) (enc : TypeId × Value → H) :
    ReturnsInHanded {} Tryz.checked os 3 .any (Rows.fnExactLateApplySpec.pre6 enc Tryz.prog Tryz.f3 Rows.fnExactLateApplyRow.domain false) (Rows.fnExactLateApplySpec.post enc Tryz.prog Tryz.f3 false true false false) := by
  refine returnsInHanded_of_change (C := Tryz.checked) own started (by kernel_rfl) Tryz.func3
    (ChangeSpec.witness6 (enc := enc) (C := Tryz.checked) false ⟨#[], #[.agg #[.slice none 0 0, .slice none 0 0, .slice none 0 0, .int .i64 0, .slice none 0 0], .slice none 0 0, .slice none 0 0], []⟩ 8 (by kernel_rfl) (by kernel_rfl) (by kernel_rfl) (by kernel_rfl)) ?_
  intro W base args ds gs before hval hW _ _
  exact contract H enc W base args ds gs before hval hW
/-- The statement. -/
theorem proved : Rows.FnExactLateApplySaid :=
  OpenClaim.holds_of_wide 3 Tryz.f3 rfl rfl rfl rfl rfl rfl rfl ⟨rfl, rfl, rfl, rfl, rfl⟩ rfl rfl rfl rfl rfl (by kernel_rfl) Tryz.func3 (by kernel_rfl)
    (of_decide_eq_true (by kernel_rfl)) (by unfold Func.isWrapper; first | (rw [if_pos (by decide +kernel)]; kernel_rfl) | (rw [if_neg (by decide +kernel)]; exact ⟨rfl, rfl⟩))
    (fun os started H enc _ => lifted os started H enc)
end fnExactLateApply

end Go.Proofs.YtmblkllijjlkoaaGreat
