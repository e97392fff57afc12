/- 'laws.FnExactSlotClear' returns true, whatever the arguments: no condition. -/
import Derived.Test.YteebofhflbjimaaKLoad
import Derived.Test.YteebofhflbjimaaKMark
import Derived.Test.YteebofhflbjimaaOpenK
import Derived.Test.YteebofhflbjimaaBox
set_option linter.unusedVariables false
set_option linter.unusedSimpArgs false
namespace Go.Proofs.Yteebofhflbjimaa
open Go.ChangeShapes Go.WideShapes Go.ChangeAt Go.RowKit
set_option maxRecDepth 100000 in
set_option maxHeartbeats 12800000 in
theorem w_FnExactSlotClear (x : KV) (K : Ker) (sp sk sb slot : Int) (w : World) (ha0 : KAt w x K) : Calls Try.prog 9 #[x.val K.calls, .agg #[.int .i64 sp, .int .i64 sk, .int .i64 sb], .int .i64 slot] w fun e w' => e = .returned (.bool true) ∧ Below w.heap.size w w' := by
  simp only [KV.val]; skip
  have HAw0 := Lib.hid ha0; have HA0 := Lib.hid ha0
  have HT := Lib.hid (Below.refl w.heap.size w)
  clear ha0
  by_cases hS0 : szK K ≤ 1048576
  rotate_left
  · (have hall := all_nil w; go_enter Try.func9, Try.ntmps9)
    go_wp2_with (first | (go_at_call 40; (refine (l_szKernel x K _ (by omega) _ (HA0.out.below (by exact bel))).mono ?_; rintro e w2 ⟨rfl, hb⟩; rw [szRes_neg (by omega)])))
    go_ret
    exact ⟨rfl, by exact bel⟩
  have HI := Lib.hid (fun y w (h : KAt w y K) => i_SlotClear y K sp sk sb slot w h)
  have HS := Lib.hid (fun y w (h : KAt w y K) => s_SlotClear y K sp sk sb slot w h)
  generalize (slotClear K sp sk sb slot) = b2 at *
  (have hall := all_nil w; go_enter Try.func9, Try.ntmps9)
  go_wp2_with fail
  replace HA0 := Lib.hid (HA0.out.below ((Below.refl _ w).alloc (Nat.le_refl _) (.cells #[x.m.f.c, x.m.f.u, x.m.e, .int .i64 K.calls, x.r] 60)))
  replace HT := Lib.hid (HT.out.trans (((Below.refl _ w).alloc (Nat.le_refl _) (.cells #[x.m.f.c, x.m.f.u, x.m.e, .int .i64 K.calls, x.r] 60)).mono HT.out.size))
  have BP0 : Hid (BoxAt (w.alloc (.cells #[x.m.f.c, x.m.f.u, x.m.e, .int .i64 K.calls, x.r] 60)) (w.heap.size) [x.m.f.c, x.m.f.u, x.m.e, .int .i64 K.calls, x.r]) := (BoxAt.snoc (BoxAt.snoc (BoxAt.snoc (BoxAt.snoc (BoxAt.snoc (BoxAt.nil (w := w.alloc (.cells #[x.m.f.c, x.m.f.u, x.m.e, .int .i64 K.calls, x.r] 60)) (g := w.heap.size) (by go_simp)) (v := x.m.f.c) (i := 0) rfl (by go_simp) (by go_simp)) (v := x.m.f.u) (i := 1) rfl (by go_simp) (by go_simp)) (v := x.m.e) (i := 2) rfl (by go_simp) (by go_simp)) (v := .int .i64 K.calls) (i := 3) rfl (by go_simp) (by go_simp)) (v := x.r) (i := 4) rfl (by go_simp) (by go_simp))
  replace BP0 := Lib.hid (BP0.out.below ((Below.refl _ (w.alloc (.cells #[x.m.f.c, x.m.f.u, x.m.e, .int .i64 K.calls, x.r] 60))).alloc (Nat.le_refl _) (.cells #[.int .i64 sp, .int .i64 sk, .int .i64 sb] 62)))
  replace HA0 := Lib.hid (HA0.out.below ((Below.refl _ (w.alloc (.cells #[x.m.f.c, x.m.f.u, x.m.e, .int .i64 K.calls, x.r] 60))).alloc (Nat.le_refl _) (.cells #[.int .i64 sp, .int .i64 sk, .int .i64 sb] 62)))
  replace HT := Lib.hid (HT.out.trans (((Below.refl _ (w.alloc (.cells #[x.m.f.c, x.m.f.u, x.m.e, .int .i64 K.calls, x.r] 60))).alloc (Nat.le_refl _) (.cells #[.int .i64 sp, .int .i64 sk, .int .i64 sb] 62)).mono HT.out.size))
  have BP1 : Hid (BoxAt ((w.alloc (.cells #[x.m.f.c, x.m.f.u, x.m.e, .int .i64 K.calls, x.r] 60)).alloc (.cells #[.int .i64 sp, .int .i64 sk, .int .i64 sb] 62)) (w.heap.size + 1) [.int .i64 sp, .int .i64 sk, .int .i64 sb]) := (BoxAt.snoc (BoxAt.snoc (BoxAt.snoc (BoxAt.nil (w := (w.alloc (.cells #[x.m.f.c, x.m.f.u, x.m.e, .int .i64 K.calls, x.r] 60)).alloc (.cells #[.int .i64 sp, .int .i64 sk, .int .i64 sb] 62)) (g := w.heap.size + 1) (by go_simp)) (v := .int .i64 sp) (i := 0) rfl (by go_simp) (by go_simp)) (v := .int .i64 sk) (i := 1) rfl (by go_simp) (by go_simp)) (v := .int .i64 sb) (i := 2) rfl (by go_simp) (by go_simp))
  have cP00 := (BP0.out.cells 0 _ rfl).1; have fP00 := (BP0.out.cells 0 _ rfl).2
  have cP01 := (BP0.out.cells 1 _ rfl).1; have fP01 := (BP0.out.cells 1 _ rfl).2
  have cP02 := (BP0.out.cells 2 _ rfl).1; have fP02 := (BP0.out.cells 2 _ rfl).2
  have cP03 := (BP0.out.cells 3 _ rfl).1; have fP03 := (BP0.out.cells 3 _ rfl).2
  have cP04 := (BP0.out.cells 4 _ rfl).1; have fP04 := (BP0.out.cells 4 _ rfl).2
  have xP0 := BP0.out.lt
  go_wp2_with fail
  refine (l_szKernel x K _ (by omega) _ HA0.out).mono ?_; rintro e w2 ⟨rfl, hb⟩
  rw [szRes_pos (by omega)]
  clear xP0 cP00 fP00 cP01 fP01 cP02 fP02 cP03 fP03 cP04 fP04
  replace BP0 := Lib.hid (BP0.out.below hb)
  replace BP1 := Lib.hid (BP1.out.below hb)
  replace HA0 := Lib.hid (HA0.out.below hb)
  replace HT := Lib.hid (HT.out.trans (hb.mono HT.out.size))
  have zwA := hb.size; (try simp only [World.size_alloc] at zwA); clear hb; obtain ⟨wA, rfl⟩ : ∃ x, x = w2 := ⟨_, rfl⟩
  have cP00 := (BP0.out.cells 0 _ rfl).1; have fP00 := (BP0.out.cells 0 _ rfl).2
  have cP01 := (BP0.out.cells 1 _ rfl).1; have fP01 := (BP0.out.cells 1 _ rfl).2
  have cP02 := (BP0.out.cells 2 _ rfl).1; have fP02 := (BP0.out.cells 2 _ rfl).2
  have cP03 := (BP0.out.cells 3 _ rfl).1; have fP03 := (BP0.out.cells 3 _ rfl).2
  have cP04 := (BP0.out.cells 4 _ rfl).1; have fP04 := (BP0.out.cells 4 _ rfl).2
  have xP0 := BP0.out.lt
  have cP10 := (BP1.out.cells 0 _ rfl).1; have fP10 := (BP1.out.cells 0 _ rfl).2
  have cP11 := (BP1.out.cells 1 _ rfl).1; have fP11 := (BP1.out.cells 1 _ rfl).2
  have cP12 := (BP1.out.cells 2 _ rfl).1; have fP12 := (BP1.out.cells 2 _ rfl).2
  have xP1 := BP1.out.lt
  go_wp2_with fail
  go_region_held3 (fun w' => w'.cell? ⟨w.heap.size, 0, none⟩ = some (x.m.f.c) ∧ w'.cell? ⟨w.heap.size, 1, none⟩ = some (x.m.f.u) ∧ w'.cell? ⟨w.heap.size, 2, none⟩ = some (x.m.e) ∧ w'.cell? ⟨w.heap.size, 3, none⟩ = some (.int .i64 K.calls) ∧ w'.cell? ⟨w.heap.size, 4, none⟩ = some (x.r) ∧ w'.cell? ⟨w.heap.size + 1, 0, none⟩ = some (.int .i64 sp) ∧ w'.cell? ⟨w.heap.size + 1, 1, none⟩ = some (.int .i64 sk) ∧ w'.cell? ⟨w.heap.size + 1, 2, none⟩ = some (.int .i64 sb)) (first | (refine ⟨?_, ?_, ?_, ?_, ?_, ?_, ?_, ?_⟩ <;> (go_simp; done)) | go_keep) (first | (go_at_call 42; ((refine (l_toKernel x K (by omega) _ (HA0.out.below (by exact bel))).mono ?_); rintro e w2 ⟨yC0, rfl, OC0, hb⟩; (obtain ⟨yC0co, yC0cc, yC0uo, yC0uc, yC0vs, yC0eo, yC0ec, yC0ro, yC0rc, rfl⟩ := KOwn.shapes OC0); have LC0 := Lib.hid (OC0.lts); (have OC0 := Lib.hid OC0); have HQwq0 := Lib.hid hb; have kwq0_P0_0 : w2.cell? ⟨w.heap.size, 0, none⟩ = some (x.m.f.c) := kc hb; have kwq0_P0_1 : w2.cell? ⟨w.heap.size, 1, none⟩ = some (x.m.f.u) := kc hb; have kwq0_P0_2 : w2.cell? ⟨w.heap.size, 2, none⟩ = some (x.m.e) := kc hb; have kwq0_P0_3 : w2.cell? ⟨w.heap.size, 3, none⟩ = some (.int .i64 K.calls) := kc hb; have kwq0_P0_4 : w2.cell? ⟨w.heap.size, 4, none⟩ = some (x.r) := kc hb; have kwq0_P1_0 : w2.cell? ⟨w.heap.size + 1, 0, none⟩ = some (.int .i64 sp) := kc hb; have kwq0_P1_1 : w2.cell? ⟨w.heap.size + 1, 1, none⟩ = some (.int .i64 sk) := kc hb; have kwq0_P1_2 : w2.cell? ⟨w.heap.size + 1, 2, none⟩ = some (.int .i64 sb) := kc hb; have xwq0_P0 : w.heap.size < w2.heap.size := xc hb; have xwq0_P1 : w.heap.size + 1 < w2.heap.size := xc hb; have hzwq0 := hb.size; (try simp only [World.size_alloc, World.size_setCell, World.size_drew] at hzwq0); obtain ⟨wq0, rfl⟩ : ∃ x, x = w2 := ⟨_, rfl⟩; simp only [KV.val])) | (go_at_call 43; (refine (l_toSpan sp sk sb _).mono ?_; rintro e w2 ⟨rfl, hb⟩; have HQwq1 := Lib.hid hb; have kwq1_P0_0 : w2.cell? ⟨w.heap.size, 0, none⟩ = some (x.m.f.c) := kc hb; have kwq1_P0_1 : w2.cell? ⟨w.heap.size, 1, none⟩ = some (x.m.f.u) := kc hb; have kwq1_P0_2 : w2.cell? ⟨w.heap.size, 2, none⟩ = some (x.m.e) := kc hb; have kwq1_P0_3 : w2.cell? ⟨w.heap.size, 3, none⟩ = some (.int .i64 K.calls) := kc hb; have kwq1_P0_4 : w2.cell? ⟨w.heap.size, 4, none⟩ = some (x.r) := kc hb; have kwq1_P1_0 : w2.cell? ⟨w.heap.size + 1, 0, none⟩ = some (.int .i64 sp) := kc hb; have kwq1_P1_1 : w2.cell? ⟨w.heap.size + 1, 1, none⟩ = some (.int .i64 sk) := kc hb; have kwq1_P1_2 : w2.cell? ⟨w.heap.size + 1, 2, none⟩ = some (.int .i64 sb) := kc hb; have xwq1_P0 : w.heap.size < w2.heap.size := xc hb; have xwq1_P1 : w.heap.size + 1 < w2.heap.size := xc hb; have hzwq1 := hb.size; (try simp only [World.size_alloc, World.size_setCell, World.size_drew] at hzwq1); obtain ⟨wq1, rfl⟩ : ∃ x, x = w2 := ⟨_, rfl⟩)) | (go_at_call 41; ((refine (HS.out _ _ (KOwn.at (OC0.out.below (by exact bel)))).mono ?_; rintro e w2 ⟨rfl, hb⟩; skip; have HQwq2 := Lib.hid hb; have kwq2_P0_0 : w2.cell? ⟨w.heap.size, 0, none⟩ = some (x.m.f.c) := kc hb; have kwq2_P0_1 : w2.cell? ⟨w.heap.size, 1, none⟩ = some (x.m.f.u) := kc hb; have kwq2_P0_2 : w2.cell? ⟨w.heap.size, 2, none⟩ = some (x.m.e) := kc hb; have kwq2_P0_3 : w2.cell? ⟨w.heap.size, 3, none⟩ = some (.int .i64 K.calls) := kc hb; have kwq2_P0_4 : w2.cell? ⟨w.heap.size, 4, none⟩ = some (x.r) := kc hb; have kwq2_P1_0 : w2.cell? ⟨w.heap.size + 1, 0, none⟩ = some (.int .i64 sp) := kc hb; have kwq2_P1_1 : w2.cell? ⟨w.heap.size + 1, 1, none⟩ = some (.int .i64 sk) := kc hb; have kwq2_P1_2 : w2.cell? ⟨w.heap.size + 1, 2, none⟩ = some (.int .i64 sb) := kc hb; have xwq2_P0 : w.heap.size < w2.heap.size := xc hb; have xwq2_P1 : w.heap.size + 1 < w2.heap.size := xc hb; have hzwq2 := hb.size; (try simp only [World.size_alloc, World.size_setCell, World.size_drew] at hzwq2); obtain ⟨wq2, rfl⟩ : ∃ x, x = w2 := ⟨_, rfl⟩; skip))))
  skip
  have hb : Below (wA).heap.size (wA) wq2 := by (have hqwq0 := HQwq0.out; have hqwq1 := HQwq1.out; have hqwq2 := HQwq2.out; exact bel)
  clear xP0 cP00 fP00 cP01 fP01 cP02 fP02 cP03 fP03 cP04 fP04
  clear xP1 cP10 fP10 cP11 fP11 cP12 fP12
  clear kwq0_P0_0 kwq0_P0_1 kwq0_P0_2 kwq0_P0_3 kwq0_P0_4 kwq0_P1_0 kwq0_P1_1 kwq0_P1_2 HQwq0 hzwq0
  clear kwq1_P0_0 kwq1_P0_1 kwq1_P0_2 kwq1_P0_3 kwq1_P0_4 kwq1_P1_0 kwq1_P1_1 kwq1_P1_2 HQwq1 hzwq1
  clear kwq2_P0_0 kwq2_P0_1 kwq2_P0_2 kwq2_P0_3 kwq2_P0_4 kwq2_P1_0 kwq2_P1_1 kwq2_P1_2 HQwq2 hzwq2
  obtain ⟨w2, rfl⟩ : ∃ x, x = wq2 := ⟨_, rfl⟩
  clear OC0 LC0
  replace BP0 := Lib.hid (BP0.out.below hb)
  replace BP1 := Lib.hid (BP1.out.below hb)
  replace HA0 := Lib.hid (HA0.out.below hb)
  replace HT := Lib.hid (HT.out.trans (hb.mono HT.out.size))
  have zwB := hb.size; (try simp only [World.size_alloc] at zwB); clear hb; obtain ⟨wB, rfl⟩ : ∃ x, x = w2 := ⟨_, rfl⟩
  have cP00 := (BP0.out.cells 0 _ rfl).1; have fP00 := (BP0.out.cells 0 _ rfl).2
  have cP01 := (BP0.out.cells 1 _ rfl).1; have fP01 := (BP0.out.cells 1 _ rfl).2
  have cP02 := (BP0.out.cells 2 _ rfl).1; have fP02 := (BP0.out.cells 2 _ rfl).2
  have cP03 := (BP0.out.cells 3 _ rfl).1; have fP03 := (BP0.out.cells 3 _ rfl).2
  have cP04 := (BP0.out.cells 4 _ rfl).1; have fP04 := (BP0.out.cells 4 _ rfl).2
  have xP0 := BP0.out.lt
  go_wp2_with fail
  refine (l_toKernel x K (by omega) _ HA0.out).mono ?_; rintro e w2 ⟨yX0, rfl, OX0, hb⟩
  clear xP0 cP00 fP00 cP01 fP01 cP02 fP02 cP03 fP03 cP04 fP04
  obtain ⟨yX0co, yX0cc, yX0uo, yX0uc, yX0vs, yX0eo, yX0ec, yX0ro, yX0rc, rfl⟩ := KOwn.shapes OX0
  have LX0 := Lib.hid (OX0.lts); replace OX0 := Lib.hid OX0
  replace BP0 := Lib.hid (BP0.out.below hb)
  replace BP1 := Lib.hid (BP1.out.below hb)
  replace HA0 := Lib.hid (HA0.out.below hb)
  replace HT := Lib.hid (HT.out.trans (hb.mono HT.out.size))
  have zwC := hb.size; (try simp only [World.size_alloc] at zwC); clear hb; obtain ⟨wC, rfl⟩ : ∃ x, x = w2 := ⟨_, rfl⟩
  simp only [KV.val]
  replace BP0 := Lib.hid (BP0.out.below ((Below.refl _ wC).alloc (Nat.le_refl _) (.cells #[.slice yX0co yX0vs.length yX0cc, .slice yX0uo K.m.f.used.length yX0uc, .slice yX0eo K.m.ents.length yX0ec, .int .i64 (K.calls), .slice yX0ro K.refuse.length yX0rc] 72)))
  replace BP1 := Lib.hid (BP1.out.below ((Below.refl _ wC).alloc (Nat.le_refl _) (.cells #[.slice yX0co yX0vs.length yX0cc, .slice yX0uo K.m.f.used.length yX0uc, .slice yX0eo K.m.ents.length yX0ec, .int .i64 (K.calls), .slice yX0ro K.refuse.length yX0rc] 72)))
  replace OX0 := Lib.hid (OX0.out.below ((Below.refl _ wC).alloc (Nat.le_refl _) (.cells #[.slice yX0co yX0vs.length yX0cc, .slice yX0uo K.m.f.used.length yX0uc, .slice yX0eo K.m.ents.length yX0ec, .int .i64 (K.calls), .slice yX0ro K.refuse.length yX0rc] 72)))
  replace HA0 := Lib.hid (HA0.out.below ((Below.refl _ wC).alloc (Nat.le_refl _) (.cells #[.slice yX0co yX0vs.length yX0cc, .slice yX0uo K.m.f.used.length yX0uc, .slice yX0eo K.m.ents.length yX0ec, .int .i64 (K.calls), .slice yX0ro K.refuse.length yX0rc] 72)))
  replace HT := Lib.hid (HT.out.trans (((Below.refl _ wC).alloc (Nat.le_refl _) (.cells #[.slice yX0co yX0vs.length yX0cc, .slice yX0uo K.m.f.used.length yX0uc, .slice yX0eo K.m.ents.length yX0ec, .int .i64 (K.calls), .slice yX0ro K.refuse.length yX0rc] 72)).mono HT.out.size))
  have BX0 : Hid (BoxAt (wC.alloc (.cells #[.slice yX0co yX0vs.length yX0cc, .slice yX0uo K.m.f.used.length yX0uc, .slice yX0eo K.m.ents.length yX0ec, .int .i64 (K.calls), .slice yX0ro K.refuse.length yX0rc] 72)) (wC.heap.size) [.slice yX0co yX0vs.length yX0cc, .slice yX0uo K.m.f.used.length yX0uc, .slice yX0eo K.m.ents.length yX0ec, .int .i64 (K.calls), .slice yX0ro K.refuse.length yX0rc]) := (BoxAt.snoc (BoxAt.snoc (BoxAt.snoc (BoxAt.snoc (BoxAt.snoc (BoxAt.nil (w := wC.alloc (.cells #[.slice yX0co yX0vs.length yX0cc, .slice yX0uo K.m.f.used.length yX0uc, .slice yX0eo K.m.ents.length yX0ec, .int .i64 (K.calls), .slice yX0ro K.refuse.length yX0rc] 72)) (g := wC.heap.size) (by go_simp)) (v := .slice yX0co yX0vs.length yX0cc) (i := 0) rfl (by go_simp) (by go_simp)) (v := .slice yX0uo K.m.f.used.length yX0uc) (i := 1) rfl (by go_simp) (by go_simp)) (v := .slice yX0eo K.m.ents.length yX0ec) (i := 2) rfl (by go_simp) (by go_simp)) (v := .int .i64 (K.calls)) (i := 3) rfl (by go_simp) (by go_simp)) (v := .slice yX0ro K.refuse.length yX0rc) (i := 4) rfl (by go_simp) (by go_simp))
  have cP10 := (BP1.out.cells 0 _ rfl).1; have fP10 := (BP1.out.cells 0 _ rfl).2
  have cP11 := (BP1.out.cells 1 _ rfl).1; have fP11 := (BP1.out.cells 1 _ rfl).2
  have cP12 := (BP1.out.cells 2 _ rfl).1; have fP12 := (BP1.out.cells 2 _ rfl).2
  have xP1 := BP1.out.lt
  have cX00 := (BX0.out.cells 0 _ rfl).1; have fX00 := (BX0.out.cells 0 _ rfl).2
  have cX01 := (BX0.out.cells 1 _ rfl).1; have fX01 := (BX0.out.cells 1 _ rfl).2
  have cX02 := (BX0.out.cells 2 _ rfl).1; have fX02 := (BX0.out.cells 2 _ rfl).2
  have cX03 := (BX0.out.cells 3 _ rfl).1; have fX03 := (BX0.out.cells 3 _ rfl).2
  have cX04 := (BX0.out.cells 4 _ rfl).1; have fX04 := (BX0.out.cells 4 _ rfl).2
  have xX0 := BX0.out.lt
  go_wp2_with fail
  go_region_held3 (fun w' => w'.cell? ⟨w.heap.size + 1, 0, none⟩ = some (.int .i64 sp) ∧ w'.cell? ⟨w.heap.size + 1, 1, none⟩ = some (.int .i64 sk) ∧ w'.cell? ⟨w.heap.size + 1, 2, none⟩ = some (.int .i64 sb) ∧ w'.cell? ⟨wC.heap.size, 0, none⟩ = some (.slice yX0co yX0vs.length yX0cc) ∧ w'.cell? ⟨wC.heap.size, 1, none⟩ = some (.slice yX0uo K.m.f.used.length yX0uc) ∧ w'.cell? ⟨wC.heap.size, 2, none⟩ = some (.slice yX0eo K.m.ents.length yX0ec) ∧ w'.cell? ⟨wC.heap.size, 3, none⟩ = some (.int .i64 (K.calls)) ∧ w'.cell? ⟨wC.heap.size, 4, none⟩ = some (.slice yX0ro K.refuse.length yX0rc)) (first | (refine ⟨?_, ?_, ?_, ?_, ?_, ?_, ?_, ?_⟩ <;> (go_simp; done)) | go_keep) (first | (go_at_call 43; (refine (l_toSpan sp sk sb _).mono ?_; rintro e w2 ⟨rfl, hb⟩; have HQwq0 := Lib.hid hb; have kwq0_P1_0 : w2.cell? ⟨w.heap.size + 1, 0, none⟩ = some (.int .i64 sp) := kc hb; have kwq0_P1_1 : w2.cell? ⟨w.heap.size + 1, 1, none⟩ = some (.int .i64 sk) := kc hb; have kwq0_P1_2 : w2.cell? ⟨w.heap.size + 1, 2, none⟩ = some (.int .i64 sb) := kc hb; have kwq0_X0_0 : w2.cell? ⟨wC.heap.size, 0, none⟩ = some (.slice yX0co yX0vs.length yX0cc) := kc hb; have kwq0_X0_1 : w2.cell? ⟨wC.heap.size, 1, none⟩ = some (.slice yX0uo K.m.f.used.length yX0uc) := kc hb; have kwq0_X0_2 : w2.cell? ⟨wC.heap.size, 2, none⟩ = some (.slice yX0eo K.m.ents.length yX0ec) := kc hb; have kwq0_X0_3 : w2.cell? ⟨wC.heap.size, 3, none⟩ = some (.int .i64 (K.calls)) := kc hb; have kwq0_X0_4 : w2.cell? ⟨wC.heap.size, 4, none⟩ = some (.slice yX0ro K.refuse.length yX0rc) := kc hb; have xwq0_P1 : w.heap.size + 1 < w2.heap.size := xc hb; have xwq0_X0 : wC.heap.size < w2.heap.size := xc hb; have hzwq0 := hb.size; (try simp only [World.size_alloc, World.size_setCell, World.size_drew] at hzwq0); obtain ⟨wq0, rfl⟩ : ∃ x, x = w2 := ⟨_, rfl⟩)) | (go_at_call 44; ((refine (HI.out _ _ (KOwn.at (OX0.out.below (by exact bel)))).mono ?_; rintro e w2 ⟨rfl, hb⟩; skip; have HQwq1 := Lib.hid hb; have kwq1_P1_0 : w2.cell? ⟨w.heap.size + 1, 0, none⟩ = some (.int .i64 sp) := kc hb; have kwq1_P1_1 : w2.cell? ⟨w.heap.size + 1, 1, none⟩ = some (.int .i64 sk) := kc hb; have kwq1_P1_2 : w2.cell? ⟨w.heap.size + 1, 2, none⟩ = some (.int .i64 sb) := kc hb; have kwq1_X0_0 : w2.cell? ⟨wC.heap.size, 0, none⟩ = some (.slice yX0co yX0vs.length yX0cc) := kc hb; have kwq1_X0_1 : w2.cell? ⟨wC.heap.size, 1, none⟩ = some (.slice yX0uo K.m.f.used.length yX0uc) := kc hb; have kwq1_X0_2 : w2.cell? ⟨wC.heap.size, 2, none⟩ = some (.slice yX0eo K.m.ents.length yX0ec) := kc hb; have kwq1_X0_3 : w2.cell? ⟨wC.heap.size, 3, none⟩ = some (.int .i64 (K.calls)) := kc hb; have kwq1_X0_4 : w2.cell? ⟨wC.heap.size, 4, none⟩ = some (.slice yX0ro K.refuse.length yX0rc) := kc hb; have xwq1_P1 : w.heap.size + 1 < w2.heap.size := xc hb; have xwq1_X0 : wC.heap.size < w2.heap.size := xc hb; have hzwq1 := hb.size; (try simp only [World.size_alloc, World.size_setCell, World.size_drew] at hzwq1); obtain ⟨wq1, rfl⟩ : ∃ x, x = w2 := ⟨_, rfl⟩; skip))))
  skip
  have hb : Below ((wC.alloc (.cells #[.slice yX0co yX0vs.length yX0cc, .slice yX0uo K.m.f.used.length yX0uc, .slice yX0eo K.m.ents.length yX0ec, .int .i64 (K.calls), .slice yX0ro K.refuse.length yX0rc] 72))).heap.size ((wC.alloc (.cells #[.slice yX0co yX0vs.length yX0cc, .slice yX0uo K.m.f.used.length yX0uc, .slice yX0eo K.m.ents.length yX0ec, .int .i64 (K.calls), .slice yX0ro K.refuse.length yX0rc] 72))) wq1 := by (have hqwq0 := HQwq0.out; have hqwq1 := HQwq1.out; exact bel)
  clear xP1 cP10 fP10 cP11 fP11 cP12 fP12
  clear xX0 cX00 fX00 cX01 fX01 cX02 fX02 cX03 fX03 cX04 fX04
  clear kwq0_P1_0 kwq0_P1_1 kwq0_P1_2 kwq0_X0_0 kwq0_X0_1 kwq0_X0_2 kwq0_X0_3 kwq0_X0_4 HQwq0 hzwq0
  clear kwq1_P1_0 kwq1_P1_1 kwq1_P1_2 kwq1_X0_0 kwq1_X0_1 kwq1_X0_2 kwq1_X0_3 kwq1_X0_4 HQwq1 hzwq1
  obtain ⟨w2, rfl⟩ : ∃ x, x = wq1 := ⟨_, rfl⟩
  replace BP0 := Lib.hid (BP0.out.below hb)
  replace BP1 := Lib.hid (BP1.out.below hb)
  replace BX0 := Lib.hid (BX0.out.below hb)
  replace OX0 := Lib.hid (OX0.out.below hb)
  replace HA0 := Lib.hid (HA0.out.below hb)
  replace HT := Lib.hid (HT.out.trans (hb.mono HT.out.size))
  have zwD := hb.size; (try simp only [World.size_alloc] at zwD); clear hb; obtain ⟨wD, rfl⟩ : ∃ x, x = w2 := ⟨_, rfl⟩
  have cX00 := (BX0.out.cells 0 _ rfl).1; have fX00 := (BX0.out.cells 0 _ rfl).2
  have cX01 := (BX0.out.cells 1 _ rfl).1; have fX01 := (BX0.out.cells 1 _ rfl).2
  have cX02 := (BX0.out.cells 2 _ rfl).1; have fX02 := (BX0.out.cells 2 _ rfl).2
  have cX03 := (BX0.out.cells 3 _ rfl).1; have fX03 := (BX0.out.cells 3 _ rfl).2
  have cX04 := (BX0.out.cells 4 _ rfl).1; have fX04 := (BX0.out.cells 4 _ rfl).2
  have xX0 := BX0.out.lt
  have cP00 := (BP0.out.cells 0 _ rfl).1; have fP00 := (BP0.out.cells 0 _ rfl).2
  have cP01 := (BP0.out.cells 1 _ rfl).1; have fP01 := (BP0.out.cells 1 _ rfl).2
  have cP02 := (BP0.out.cells 2 _ rfl).1; have fP02 := (BP0.out.cells 2 _ rfl).2
  have cP03 := (BP0.out.cells 3 _ rfl).1; have fP03 := (BP0.out.cells 3 _ rfl).2
  have cP04 := (BP0.out.cells 4 _ rfl).1; have fP04 := (BP0.out.cells 4 _ rfl).2
  have xP0 := BP0.out.lt
  go_wp2_with fail
  go_region_held3 (fun w' => w'.cell? ⟨wC.heap.size, 0, none⟩ = some (.slice yX0co yX0vs.length yX0cc) ∧ w'.cell? ⟨wC.heap.size, 1, none⟩ = some (.slice yX0uo K.m.f.used.length yX0uc) ∧ w'.cell? ⟨wC.heap.size, 2, none⟩ = some (.slice yX0eo K.m.ents.length yX0ec) ∧ w'.cell? ⟨wC.heap.size, 3, none⟩ = some (.int .i64 (K.calls)) ∧ w'.cell? ⟨wC.heap.size, 4, none⟩ = some (.slice yX0ro K.refuse.length yX0rc) ∧ w'.cell? ⟨w.heap.size, 0, none⟩ = some (x.m.f.c) ∧ w'.cell? ⟨w.heap.size, 1, none⟩ = some (x.m.f.u) ∧ w'.cell? ⟨w.heap.size, 2, none⟩ = some (x.m.e) ∧ w'.cell? ⟨w.heap.size, 3, none⟩ = some (.int .i64 K.calls) ∧ w'.cell? ⟨w.heap.size, 4, none⟩ = some (x.r)) (first | (refine ⟨?_, ?_, ?_, ?_, ?_, ?_, ?_, ?_, ?_, ?_⟩ <;> (go_simp; done)) | go_keep) (first | (go_at_call 42; (refine (l_toKernel x K (by omega) _ (HA0.out.below (by exact bel))).mono ?_; rintro e w2 ⟨yE, rfl, OE, hb⟩; (obtain ⟨yEco, yEcc, yEuo, yEuc, yEvs, yEeo, yEec, yEro, yErc, rfl⟩ := KOwn.shapes OE); have HQ1 := Lib.hid hb; have kwq1_X0_0 : w2.cell? ⟨wC.heap.size, 0, none⟩ = some (.slice yX0co yX0vs.length yX0cc) := kc hb; have kwq1_X0_1 : w2.cell? ⟨wC.heap.size, 1, none⟩ = some (.slice yX0uo K.m.f.used.length yX0uc) := kc hb; have kwq1_X0_2 : w2.cell? ⟨wC.heap.size, 2, none⟩ = some (.slice yX0eo K.m.ents.length yX0ec) := kc hb; have kwq1_X0_3 : w2.cell? ⟨wC.heap.size, 3, none⟩ = some (.int .i64 (K.calls)) := kc hb; have kwq1_X0_4 : w2.cell? ⟨wC.heap.size, 4, none⟩ = some (.slice yX0ro K.refuse.length yX0rc) := kc hb; have kwq1_P0_0 : w2.cell? ⟨w.heap.size, 0, none⟩ = some (x.m.f.c) := kc hb; have kwq1_P0_1 : w2.cell? ⟨w.heap.size, 1, none⟩ = some (x.m.f.u) := kc hb; have kwq1_P0_2 : w2.cell? ⟨w.heap.size, 2, none⟩ = some (x.m.e) := kc hb; have kwq1_P0_3 : w2.cell? ⟨w.heap.size, 3, none⟩ = some (.int .i64 K.calls) := kc hb; have kwq1_P0_4 : w2.cell? ⟨w.heap.size, 4, none⟩ = some (x.r) := kc hb; have xwq1_X0 : wC.heap.size < w2.heap.size := xc hb; have xwq1_P0 : w.heap.size < w2.heap.size := xc hb; have hzwq1 := hb.size; (try simp only [World.size_alloc, World.size_setCell, World.size_drew] at hzwq1); obtain ⟨wq1, rfl⟩ : ∃ x, x = w2 := ⟨_, rfl⟩; simp only [KV.val])) | (go_at_call 45; (refine (l_eqKernel _ _ (⟨⟨⟨.slice yX0co yX0vs.length yX0cc, .slice yX0uo K.m.f.used.length yX0uc, yX0vs⟩, .slice yX0eo K.m.ents.length yX0ec⟩, .slice yX0ro K.refuse.length yX0rc⟩ : KV) (⟨⟨⟨.slice yEco yEvs.length yEcc, .slice yEuo K.m.f.used.length yEuc, yEvs⟩, .slice yEeo K.m.ents.length yEec⟩, .slice yEro K.refuse.length yErc⟩ : KV) _ _ (OX0.out.below (by exact bel)) (OE.below (by exact bel))).mono ?_; rintro e w2 ⟨rfl, hb⟩; have HQ2 := Lib.hid hb; have kwq2_X0_0 : w2.cell? ⟨wC.heap.size, 0, none⟩ = some (.slice yX0co yX0vs.length yX0cc) := kc hb; have kwq2_X0_1 : w2.cell? ⟨wC.heap.size, 1, none⟩ = some (.slice yX0uo K.m.f.used.length yX0uc) := kc hb; have kwq2_X0_2 : w2.cell? ⟨wC.heap.size, 2, none⟩ = some (.slice yX0eo K.m.ents.length yX0ec) := kc hb; have kwq2_X0_3 : w2.cell? ⟨wC.heap.size, 3, none⟩ = some (.int .i64 (K.calls)) := kc hb; have kwq2_X0_4 : w2.cell? ⟨wC.heap.size, 4, none⟩ = some (.slice yX0ro K.refuse.length yX0rc) := kc hb; have kwq2_P0_0 : w2.cell? ⟨w.heap.size, 0, none⟩ = some (x.m.f.c) := kc hb; have kwq2_P0_1 : w2.cell? ⟨w.heap.size, 1, none⟩ = some (x.m.f.u) := kc hb; have kwq2_P0_2 : w2.cell? ⟨w.heap.size, 2, none⟩ = some (x.m.e) := kc hb; have kwq2_P0_3 : w2.cell? ⟨w.heap.size, 3, none⟩ = some (.int .i64 K.calls) := kc hb; have kwq2_P0_4 : w2.cell? ⟨w.heap.size, 4, none⟩ = some (x.r) := kc hb; have xwq2_X0 : wC.heap.size < w2.heap.size := xc hb; have xwq2_P0 : w.heap.size < w2.heap.size := xc hb; have hzwq2 := hb.size; (try simp only [World.size_alloc, World.size_setCell, World.size_drew] at hzwq2); obtain ⟨wq2, rfl⟩ : ∃ x, x = w2 := ⟨_, rfl⟩)))
  have hb : Below (wD).heap.size (wD) wq2 := by (have hq1 := HQ1.out; have hq2 := HQ2.out; exact bel)
  clear xX0 cX00 fX00 cX01 fX01 cX02 fX02 cX03 fX03 cX04 fX04
  clear xP0 cP00 fP00 cP01 fP01 cP02 fP02 cP03 fP03 cP04 fP04
  clear kwq1_X0_0 kwq1_X0_1 kwq1_X0_2 kwq1_X0_3 kwq1_X0_4 kwq1_P0_0 kwq1_P0_1 kwq1_P0_2 kwq1_P0_3 kwq1_P0_4 hzwq1
  clear kwq2_X0_0 kwq2_X0_1 kwq2_X0_2 kwq2_X0_3 kwq2_X0_4 kwq2_P0_0 kwq2_P0_1 kwq2_P0_2 kwq2_P0_3 kwq2_P0_4 hzwq2
  obtain ⟨w2, rfl⟩ : ∃ x, x = wq2 := ⟨_, rfl⟩
  clear HQ1 HQ2 OE
  replace BP0 := Lib.hid (BP0.out.below hb)
  replace BP1 := Lib.hid (BP1.out.below hb)
  replace BX0 := Lib.hid (BX0.out.below hb)
  replace OX0 := Lib.hid (OX0.out.below hb)
  replace HA0 := Lib.hid (HA0.out.below hb)
  replace HT := Lib.hid (HT.out.trans (hb.mono HT.out.size))
  have zwE := hb.size; (try simp only [World.size_alloc] at zwE); clear hb; obtain ⟨wE, rfl⟩ : ∃ x, x = w2 := ⟨_, rfl⟩
  go_wp2_with fail
  go_ret
  exact ⟨rfl, HT.out⟩

namespace fnExactSlotClear
set_option maxRecDepth 100000 in
theorem contract (H : Type) (enc : TypeId × Value → H) (W : World) (base : Nat) (args : Array Value) (ds gs : List (DataW H)) (before : List MemPlace)
    (hval : ∀ (j : Nat) t v, Try.f9.params[j]? = some t → args[j]? = some v → Value.okWide Try.prog W .any base t v)
    (hW : DataW.Whole enc Try.prog Try.f9.params.toList Rows.fnExactSlotClearSpec.vars false W args.toList ds gs before) :
    Calls Try.prog 9 args W fun e W' => ∃ v, e = .returned v ∧ Rows.fnExactSlotClearSpec.post enc Try.prog Try.f9 false true false false W args v W' := by
  have hW' := hW
  obtain ⟨p, q, hA0, hV, rfl, hfz, hnd⟩ := hW
  have hA : DataW.TrodAll enc Try.prog W 0 (fun _ => true) true Try.f9.params.toList args.toList ds p := hA0
  rw [Try.params9] at hA hval
  obtain ⟨v0, vs0, d0, ds0, p0, q0, hargs, rfl, rfl, h0, r0⟩ := trodAll_cons hA
  obtain ⟨v1, vs1, d1, ds1, p1, q1, rfl, rfl, rfl, h1, r1⟩ := trodAll_cons r0
  obtain ⟨v2, vs2, d2, ds2, p2, q2, rfl, rfl, rfl, h2, r2⟩ := trodAll_cons r1
  obtain ⟨rfl, rfl, rfl⟩ := trodAll_nil r2
  obtain rfl : args = #[v0, v1, v2] := by cases args; simp_all
  obtain ⟨rfl, rfl⟩ := trodVars_none hV
  obtain ⟨x, K, rfl, hxK, wK⟩ := kernel_open (hval 0 60 v0 rfl rfl) h0
  obtain ⟨c1_0, c1_1, c1_2, y1_0, y1_1, y1_2, m1, rfl, rfl, rfl, g1_0, g1_1, g1_2⟩ := Joins.open_agg3 Try.underlying62 (by kernel_rfl) (by kernel_rfl) (hval 1 62 v1 rfl rfl) h1
  obtain ⟨sp, e1_0, rfl, wsp⟩ := DataW.trod_int Try.underlying3 g1_0
  obtain ⟨sk, e1_1, rfl, wsk⟩ := DataW.trod_int Try.underlying3 g1_1
  obtain ⟨sb, e1_2, rfl, wsb⟩ := DataW.trod_int Try.underlying3 g1_2
  simp at e1_0 e1_1 e1_2
  subst e1_0 e1_1 e1_2
  obtain ⟨slot, rfl, rfl, rfl, wslot⟩ := open_int Try.underlying3 (hval 2 3 v2 rfl rfl) h2
  clear hA0
  refine (w_FnExactSlotClear x K sp sk sb slot W hxK).mono fun e W' ⟨he, hg⟩ => ?_
  subst he
  exact ⟨_, rfl, law_post (tb := 4) laidOut (by kernel_rfl) rfl rfl Try.underlying4 hW' rfl rfl rfl hg⟩
set_option maxRecDepth 100000 in
theorem lifted (os : Os) (started : os.Started) (H : Type) (enc : TypeId × Value → H) :
    ReturnsInHanded {} Try.checked os 9 .any (Rows.fnExactSlotClearSpec.pre6 enc Try.prog Try.f9 Rows.fnExactSlotClearRow.domain false) (Rows.fnExactSlotClearSpec.post enc Try.prog Try.f9 false true false false) := by
  refine returnsInHanded_of_change (C := Try.checked) own started (by kernel_rfl) Try.func9
    (ChangeSpec.witness6 (enc := enc) (C := Try.checked) false ⟨#[], #[.agg #[.slice none 0 0, .slice none 0 0, .slice none 0 0, .int .i64 0, .slice none 0 0], .agg #[.int .i64 0, .int .i64 0, .int .i64 0], .int .i64 0], []⟩ 8 (by kernel_rfl) (by kernel_rfl) (by kernel_rfl) (by kernel_rfl)) ?_
  intro W base args ds gs before hval hW _ _
  exact contract H enc W base args ds gs before hval hW
/-- The statement. -/
theorem proved : Rows.FnExactSlotClearSaid :=
  OpenClaim.holds_of_wide 9 Try.f9 rfl rfl rfl rfl rfl rfl rfl ⟨rfl, rfl, rfl, rfl, rfl⟩ rfl rfl rfl rfl rfl (by kernel_rfl) Try.func9 (by kernel_rfl)
    (of_decide_eq_true (by kernel_rfl)) (by unfold Func.isWrapper; first | (rw [if_pos (by decide +kernel)]; kernel_rfl) | (rw [if_neg (by decide +kernel)]; exact ⟨rfl, rfl⟩))
    (fun os started H enc _ => lifted os started H enc)
end fnExactSlotClear

end Go.Proofs.Yteebofhflbjimaa
