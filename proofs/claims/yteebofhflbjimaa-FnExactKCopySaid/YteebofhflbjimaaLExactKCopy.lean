/- 'laws.FnExactKCopy' returns true, whatever the arguments: no condition. -/
import Derived.Test.YteebofhflbjimaaKCellsS
import Derived.Test.YteebofhflbjimaaKMark
import Derived.Test.YteebofhflbjimaaOpenK
import Derived.Test.YteebofhflbjimaaOpenI
import Derived.Test.YteebofhflbjimaaBox
set_option linter.unusedVariables false
set_option linter.unusedSimpArgs false
namespace Go.Proofs.Yteebofhflbjimaa
open Go.ChangeShapes Go.WideShapes Go.ChangeAt Go.RowKit
theorem cntK_le {K : Ker} (h : szK K ≤ 1048576) : cntK K ≤ 2097152 := by
  unfold szK szM szF at h
  unfold cntK cntM cntF
  omega
theorem cnt_copy {K : Ker} (h : szK K ≤ 1048576) (a b : Int) (cs : List Int) : cntK (kCopyK K a b cs) ≤ 4194304 := by
  have h0 := cntK_le h
  unfold kCopyK copyS
  split
  · split
    · have hc : canCall K = true := by assumption
      have hb : copyB K a b cs = true := by assumption
      unfold copyB at hb
      simp only [Bool.and_eq_true] at hb
      obtain ⟨kb, eb, fb, rfl, -, hpb, -, hfb, -⟩ := mapped_frame hc hb.1.2
      have h1 := cntK_set K fb (copyRow (K.m.f.cells.getD (pageEntry K.m.ents a).f.toNat []) (K.m.f.cells.getD fb []) cs) K.m.f.used K.m.ents K.calls rfl rfl
      rw [copyRow_len, row16 hc hfb] at h1
      rw [hpb]
      simp only [withF, copyF, Int.toNat_natCast]
      omega
    · omega
  · omega
set_option maxRecDepth 100000 in
set_option maxHeartbeats 12800000 in
theorem w_FnExactKCopy (x : KV) (K : Ker) (a b : Int) (v : Value) (cs : List Int) (w : World) (ha0 : KAt w x K) (ha3 : IntsAt w v cs) : Calls Try.prog 11 #[x.val K.calls, .int .i64 a, .int .i64 b, v] w fun e w' => e = .returned (.bool true) ∧ Below w.heap.size w w' := by
  simp only [KV.val]; skip
  have HAw0 := Lib.hid ha0; have HA0 := Lib.hid ha0
  have HAw3 := Lib.hid ha3; have HA3 := Lib.hid ha3
  obtain ⟨ao3, ca3, hv3, hl3, hm3⟩ := ha3.shape
  have hlm3 := Nat.le_trans hl3 hm3; clear hl3 hm3; subst hv3
  have hl93 : cs.length ≤ 9223372036854775807 := by unfold maxLen at hlm3; omega
  have HT := Lib.hid (Below.refl w.heap.size w)
  clear ha0 ha3
  by_cases hI3 : cs.length ≤ 1048576
  rotate_left
  · (have hall := all_nil w; go_enter Try.func11, Try.ntmps11)
    go_wp2_with fail
    go_ret
    exact ⟨rfl, by exact bel⟩
  have hJ3 : decide ((1048576 : Int) < (cs.length : Nat)) = false := by simp; omega
  by_cases hS0 : szK K ≤ 1048576
  rotate_left
  · (have hall := all_nil w; go_enter Try.func11, Try.ntmps11)
    go_wp2_with (first | (go_at_call 40; (refine (l_szKernel x K _ (by omega) _ (HA0.out.below (by exact bel))).mono ?_; rintro e w2 ⟨rfl, hb⟩; rw [szRes_neg (by omega)])))
    go_ret
    exact ⟨rfl, by exact bel⟩
  have hcn := cnt_copy hS0 a b cs
  have hcK := cntK_le hS0
  have HI := Lib.hid (fun y u w (h : KAt w y K) (h2 : IntsAt w u cs) => i_KCopy y K a b u cs hS0 w h h2)
  have HS := Lib.hid (fun y u w (h : KAt w y K) (h2 : IntsAt w u cs) => s_KCopy y K a b u cs hS0 w h h2)
  generalize (kCopyK K a b cs) = K2 at *
  generalize (canCall K && copyB K a b cs) = b2 at *
  (have hall := all_nil w; go_enter Try.func11, Try.ntmps11)
  go_wp2_with fail
  replace HA0 := Lib.hid (HA0.out.below ((Below.refl _ w).alloc (Nat.le_refl _) (.cells #[x.m.f.c, x.m.f.u, x.m.e, .int .i64 K.calls, x.r] 60)))
  replace HA3 := Lib.hid (HA3.out.below ((Below.refl _ w).alloc (Nat.le_refl _) (.cells #[x.m.f.c, x.m.f.u, x.m.e, .int .i64 K.calls, x.r] 60)))
  replace HT := Lib.hid (HT.out.trans (((Below.refl _ w).alloc (Nat.le_refl _) (.cells #[x.m.f.c, x.m.f.u, x.m.e, .int .i64 K.calls, x.r] 60)).mono HT.out.size))
  have BP0 : Hid (BoxAt (w.alloc (.cells #[x.m.f.c, x.m.f.u, x.m.e, .int .i64 K.calls, x.r] 60)) (w.heap.size) [x.m.f.c, x.m.f.u, x.m.e, .int .i64 K.calls, x.r]) := (BoxAt.snoc (BoxAt.snoc (BoxAt.snoc (BoxAt.snoc (BoxAt.snoc (BoxAt.nil (w := w.alloc (.cells #[x.m.f.c, x.m.f.u, x.m.e, .int .i64 K.calls, x.r] 60)) (g := w.heap.size) (by go_simp)) (v := x.m.f.c) (i := 0) rfl (by go_simp) (by go_simp)) (v := x.m.f.u) (i := 1) rfl (by go_simp) (by go_simp)) (v := x.m.e) (i := 2) rfl (by go_simp) (by go_simp)) (v := .int .i64 K.calls) (i := 3) rfl (by go_simp) (by go_simp)) (v := x.r) (i := 4) rfl (by go_simp) (by go_simp))
  have cP00 := (BP0.out.cells 0 _ rfl).1; have fP00 := (BP0.out.cells 0 _ rfl).2
  have cP01 := (BP0.out.cells 1 _ rfl).1; have fP01 := (BP0.out.cells 1 _ rfl).2
  have cP02 := (BP0.out.cells 2 _ rfl).1; have fP02 := (BP0.out.cells 2 _ rfl).2
  have cP03 := (BP0.out.cells 3 _ rfl).1; have fP03 := (BP0.out.cells 3 _ rfl).2
  have cP04 := (BP0.out.cells 4 _ rfl).1; have fP04 := (BP0.out.cells 4 _ rfl).2
  have xP0 := BP0.out.lt
  go_wp2_with fail
  refine (l_szKernel x K _ (by omega) _ HA0.out).mono ?_; rintro e w2 ⟨rfl, hb⟩
  rw [szRes_pos (by omega)]
  clear xP0 cP00 fP00 cP01 fP01 cP02 fP02 cP03 fP03 cP04 fP04
  replace BP0 := Lib.hid (BP0.out.below hb)
  replace HA0 := Lib.hid (HA0.out.below hb)
  replace HA3 := Lib.hid (HA3.out.below hb)
  replace HT := Lib.hid (HT.out.trans (hb.mono HT.out.size))
  have zwA := hb.size; (try simp only [World.size_alloc] at zwA); clear hb; obtain ⟨wA, rfl⟩ : ∃ x, x = w2 := ⟨_, rfl⟩
  have cP00 := (BP0.out.cells 0 _ rfl).1; have fP00 := (BP0.out.cells 0 _ rfl).2
  have cP01 := (BP0.out.cells 1 _ rfl).1; have fP01 := (BP0.out.cells 1 _ rfl).2
  have cP02 := (BP0.out.cells 2 _ rfl).1; have fP02 := (BP0.out.cells 2 _ rfl).2
  have cP03 := (BP0.out.cells 3 _ rfl).1; have fP03 := (BP0.out.cells 3 _ rfl).2
  have cP04 := (BP0.out.cells 4 _ rfl).1; have fP04 := (BP0.out.cells 4 _ rfl).2
  have xP0 := BP0.out.lt
  go_wp2_with fail
  refine (l_toKernel x K (by omega) _ HA0.out).mono ?_; rintro e w2 ⟨yC0, rfl, OC0, hb⟩
  clear xP0 cP00 fP00 cP01 fP01 cP02 fP02 cP03 fP03 cP04 fP04
  obtain ⟨yC0co, yC0cc, yC0uo, yC0uc, yC0vs, yC0eo, yC0ec, yC0ro, yC0rc, rfl⟩ := KOwn.shapes OC0
  have LC0 := Lib.hid (OC0.lts); replace OC0 := Lib.hid OC0
  replace BP0 := Lib.hid (BP0.out.below hb)
  replace HA0 := Lib.hid (HA0.out.below hb)
  replace HA3 := Lib.hid (HA3.out.below hb)
  replace HT := Lib.hid (HT.out.trans (hb.mono HT.out.size))
  have zwB := hb.size; (try simp only [World.size_alloc] at zwB); clear hb; obtain ⟨wB, rfl⟩ : ∃ x, x = w2 := ⟨_, rfl⟩
  simp only [KV.val]
  go_wp2_with fail
  refine (l_toIntS _ cs (by omega) _ HA3.out).mono ?_; rintro e w2 ⟨vC3, rfl, OC3, hb⟩
  obtain ⟨yC3o, yC3c, rfl, -, -⟩ := OC3.shape
  have LC3 := Lib.hid (Own.lts OC3); replace OC3 := Lib.hid OC3
  replace BP0 := Lib.hid (BP0.out.below hb)
  replace OC0 := Lib.hid (OC0.out.below hb)
  replace HA0 := Lib.hid (HA0.out.below hb)
  replace HA3 := Lib.hid (HA3.out.below hb)
  replace HT := Lib.hid (HT.out.trans (hb.mono HT.out.size))
  have zwC := hb.size; (try simp only [World.size_alloc] at zwC); clear hb; obtain ⟨wC, rfl⟩ : ∃ x, x = w2 := ⟨_, rfl⟩
  skip
  go_wp2_with fail
  refine (HS.out _ _ _ (KOwn.at OC0.out) (Own.at OC3.out lenInt)).mono ?_; rintro e w2 ⟨yW0, rfl, OW0, hb⟩
  obtain ⟨yW0co, yW0cc, yW0uo, yW0uc, yW0vs, yW0eo, yW0ec, yW0ro, yW0rc, rfl⟩ := KOwn.shapes OW0
  have LW0 := Lib.hid (OW0.lts); replace OW0 := Lib.hid OW0
  clear OC0 LC0
  clear OC3 LC3
  replace BP0 := Lib.hid (BP0.out.below hb)
  replace HA0 := Lib.hid (HA0.out.below hb)
  replace HA3 := Lib.hid (HA3.out.below hb)
  replace HT := Lib.hid (HT.out.trans (hb.mono HT.out.size))
  have zwD := hb.size; (try simp only [World.size_alloc] at zwD); clear hb; obtain ⟨wD, rfl⟩ : ∃ x, x = w2 := ⟨_, rfl⟩
  simp only [KV.val]
  replace BP0 := Lib.hid (BP0.out.below ((Below.refl _ wD).alloc (Nat.le_refl _) (.cells #[.slice yW0co yW0vs.length yW0cc, .slice yW0uo K2.m.f.used.length yW0uc, .slice yW0eo K2.m.ents.length yW0ec, .int .i64 (K2.calls), .slice yW0ro K2.refuse.length yW0rc] 72)))
  replace OW0 := Lib.hid (OW0.out.below ((Below.refl _ wD).alloc (Nat.le_refl _) (.cells #[.slice yW0co yW0vs.length yW0cc, .slice yW0uo K2.m.f.used.length yW0uc, .slice yW0eo K2.m.ents.length yW0ec, .int .i64 (K2.calls), .slice yW0ro K2.refuse.length yW0rc] 72)))
  replace HA0 := Lib.hid (HA0.out.below ((Below.refl _ wD).alloc (Nat.le_refl _) (.cells #[.slice yW0co yW0vs.length yW0cc, .slice yW0uo K2.m.f.used.length yW0uc, .slice yW0eo K2.m.ents.length yW0ec, .int .i64 (K2.calls), .slice yW0ro K2.refuse.length yW0rc] 72)))
  replace HA3 := Lib.hid (HA3.out.below ((Below.refl _ wD).alloc (Nat.le_refl _) (.cells #[.slice yW0co yW0vs.length yW0cc, .slice yW0uo K2.m.f.used.length yW0uc, .slice yW0eo K2.m.ents.length yW0ec, .int .i64 (K2.calls), .slice yW0ro K2.refuse.length yW0rc] 72)))
  replace HT := Lib.hid (HT.out.trans (((Below.refl _ wD).alloc (Nat.le_refl _) (.cells #[.slice yW0co yW0vs.length yW0cc, .slice yW0uo K2.m.f.used.length yW0uc, .slice yW0eo K2.m.ents.length yW0ec, .int .i64 (K2.calls), .slice yW0ro K2.refuse.length yW0rc] 72)).mono HT.out.size))
  have BW0 : Hid (BoxAt (wD.alloc (.cells #[.slice yW0co yW0vs.length yW0cc, .slice yW0uo K2.m.f.used.length yW0uc, .slice yW0eo K2.m.ents.length yW0ec, .int .i64 (K2.calls), .slice yW0ro K2.refuse.length yW0rc] 72)) (wD.heap.size) [.slice yW0co yW0vs.length yW0cc, .slice yW0uo K2.m.f.used.length yW0uc, .slice yW0eo K2.m.ents.length yW0ec, .int .i64 (K2.calls), .slice yW0ro K2.refuse.length yW0rc]) := (BoxAt.snoc (BoxAt.snoc (BoxAt.snoc (BoxAt.snoc (BoxAt.snoc (BoxAt.nil (w := wD.alloc (.cells #[.slice yW0co yW0vs.length yW0cc, .slice yW0uo K2.m.f.used.length yW0uc, .slice yW0eo K2.m.ents.length yW0ec, .int .i64 (K2.calls), .slice yW0ro K2.refuse.length yW0rc] 72)) (g := wD.heap.size) (by go_simp)) (v := .slice yW0co yW0vs.length yW0cc) (i := 0) rfl (by go_simp) (by go_simp)) (v := .slice yW0uo K2.m.f.used.length yW0uc) (i := 1) rfl (by go_simp) (by go_simp)) (v := .slice yW0eo K2.m.ents.length yW0ec) (i := 2) rfl (by go_simp) (by go_simp)) (v := .int .i64 (K2.calls)) (i := 3) rfl (by go_simp) (by go_simp)) (v := .slice yW0ro K2.refuse.length yW0rc) (i := 4) rfl (by go_simp) (by go_simp))
  have cP00 := (BP0.out.cells 0 _ rfl).1; have fP00 := (BP0.out.cells 0 _ rfl).2
  have cP01 := (BP0.out.cells 1 _ rfl).1; have fP01 := (BP0.out.cells 1 _ rfl).2
  have cP02 := (BP0.out.cells 2 _ rfl).1; have fP02 := (BP0.out.cells 2 _ rfl).2
  have cP03 := (BP0.out.cells 3 _ rfl).1; have fP03 := (BP0.out.cells 3 _ rfl).2
  have cP04 := (BP0.out.cells 4 _ rfl).1; have fP04 := (BP0.out.cells 4 _ rfl).2
  have xP0 := BP0.out.lt
  go_wp2_with fail
  refine (l_toKernel x K (by omega) _ HA0.out).mono ?_; rintro e w2 ⟨yX0, rfl, OX0, hb⟩
  clear xP0 cP00 fP00 cP01 fP01 cP02 fP02 cP03 fP03 cP04 fP04
  obtain ⟨yX0co, yX0cc, yX0uo, yX0uc, yX0vs, yX0eo, yX0ec, yX0ro, yX0rc, rfl⟩ := KOwn.shapes OX0
  have LX0 := Lib.hid (OX0.lts); replace OX0 := Lib.hid OX0
  replace BP0 := Lib.hid (BP0.out.below hb)
  replace BW0 := Lib.hid (BW0.out.below hb)
  replace OW0 := Lib.hid (OW0.out.below hb)
  replace HA0 := Lib.hid (HA0.out.below hb)
  replace HA3 := Lib.hid (HA3.out.below hb)
  replace HT := Lib.hid (HT.out.trans (hb.mono HT.out.size))
  have zwE := hb.size; (try simp only [World.size_alloc] at zwE); clear hb; obtain ⟨wE, rfl⟩ : ∃ x, x = w2 := ⟨_, rfl⟩
  simp only [KV.val]
  replace BP0 := Lib.hid (BP0.out.below ((Below.refl _ wE).alloc (Nat.le_refl _) (.cells #[.slice yX0co yX0vs.length yX0cc, .slice yX0uo K.m.f.used.length yX0uc, .slice yX0eo K.m.ents.length yX0ec, .int .i64 (K.calls), .slice yX0ro K.refuse.length yX0rc] 72)))
  replace BW0 := Lib.hid (BW0.out.below ((Below.refl _ wE).alloc (Nat.le_refl _) (.cells #[.slice yX0co yX0vs.length yX0cc, .slice yX0uo K.m.f.used.length yX0uc, .slice yX0eo K.m.ents.length yX0ec, .int .i64 (K.calls), .slice yX0ro K.refuse.length yX0rc] 72)))
  replace OW0 := Lib.hid (OW0.out.below ((Below.refl _ wE).alloc (Nat.le_refl _) (.cells #[.slice yX0co yX0vs.length yX0cc, .slice yX0uo K.m.f.used.length yX0uc, .slice yX0eo K.m.ents.length yX0ec, .int .i64 (K.calls), .slice yX0ro K.refuse.length yX0rc] 72)))
  replace OX0 := Lib.hid (OX0.out.below ((Below.refl _ wE).alloc (Nat.le_refl _) (.cells #[.slice yX0co yX0vs.length yX0cc, .slice yX0uo K.m.f.used.length yX0uc, .slice yX0eo K.m.ents.length yX0ec, .int .i64 (K.calls), .slice yX0ro K.refuse.length yX0rc] 72)))
  replace HA0 := Lib.hid (HA0.out.below ((Below.refl _ wE).alloc (Nat.le_refl _) (.cells #[.slice yX0co yX0vs.length yX0cc, .slice yX0uo K.m.f.used.length yX0uc, .slice yX0eo K.m.ents.length yX0ec, .int .i64 (K.calls), .slice yX0ro K.refuse.length yX0rc] 72)))
  replace HA3 := Lib.hid (HA3.out.below ((Below.refl _ wE).alloc (Nat.le_refl _) (.cells #[.slice yX0co yX0vs.length yX0cc, .slice yX0uo K.m.f.used.length yX0uc, .slice yX0eo K.m.ents.length yX0ec, .int .i64 (K.calls), .slice yX0ro K.refuse.length yX0rc] 72)))
  replace HT := Lib.hid (HT.out.trans (((Below.refl _ wE).alloc (Nat.le_refl _) (.cells #[.slice yX0co yX0vs.length yX0cc, .slice yX0uo K.m.f.used.length yX0uc, .slice yX0eo K.m.ents.length yX0ec, .int .i64 (K.calls), .slice yX0ro K.refuse.length yX0rc] 72)).mono HT.out.size))
  have BX0 : Hid (BoxAt (wE.alloc (.cells #[.slice yX0co yX0vs.length yX0cc, .slice yX0uo K.m.f.used.length yX0uc, .slice yX0eo K.m.ents.length yX0ec, .int .i64 (K.calls), .slice yX0ro K.refuse.length yX0rc] 72)) (wE.heap.size) [.slice yX0co yX0vs.length yX0cc, .slice yX0uo K.m.f.used.length yX0uc, .slice yX0eo K.m.ents.length yX0ec, .int .i64 (K.calls), .slice yX0ro K.refuse.length yX0rc]) := (BoxAt.snoc (BoxAt.snoc (BoxAt.snoc (BoxAt.snoc (BoxAt.snoc (BoxAt.nil (w := wE.alloc (.cells #[.slice yX0co yX0vs.length yX0cc, .slice yX0uo K.m.f.used.length yX0uc, .slice yX0eo K.m.ents.length yX0ec, .int .i64 (K.calls), .slice yX0ro K.refuse.length yX0rc] 72)) (g := wE.heap.size) (by go_simp)) (v := .slice yX0co yX0vs.length yX0cc) (i := 0) rfl (by go_simp) (by go_simp)) (v := .slice yX0uo K.m.f.used.length yX0uc) (i := 1) rfl (by go_simp) (by go_simp)) (v := .slice yX0eo K.m.ents.length yX0ec) (i := 2) rfl (by go_simp) (by go_simp)) (v := .int .i64 (K.calls)) (i := 3) rfl (by go_simp) (by go_simp)) (v := .slice yX0ro K.refuse.length yX0rc) (i := 4) rfl (by go_simp) (by go_simp))
  go_wp2_with fail
  refine (l_toIntS _ cs (by omega) _ HA3.out).mono ?_; rintro e w2 ⟨vX3, rfl, OX3, hb⟩
  obtain ⟨yX3o, yX3c, rfl, -, -⟩ := OX3.shape
  have LX3 := Lib.hid (Own.lts OX3); replace OX3 := Lib.hid OX3
  replace BP0 := Lib.hid (BP0.out.below hb)
  replace BW0 := Lib.hid (BW0.out.below hb)
  replace BX0 := Lib.hid (BX0.out.below hb)
  replace OW0 := Lib.hid (OW0.out.below hb)
  replace OX0 := Lib.hid (OX0.out.below hb)
  replace HA0 := Lib.hid (HA0.out.below hb)
  replace HA3 := Lib.hid (HA3.out.below hb)
  replace HT := Lib.hid (HT.out.trans (hb.mono HT.out.size))
  have zwF := hb.size; (try simp only [World.size_alloc] at zwF); clear hb; obtain ⟨wF, rfl⟩ : ∃ x, x = w2 := ⟨_, rfl⟩
  skip
  have cX00 := (BX0.out.cells 0 _ rfl).1; have fX00 := (BX0.out.cells 0 _ rfl).2
  have cX01 := (BX0.out.cells 1 _ rfl).1; have fX01 := (BX0.out.cells 1 _ rfl).2
  have cX02 := (BX0.out.cells 2 _ rfl).1; have fX02 := (BX0.out.cells 2 _ rfl).2
  have cX03 := (BX0.out.cells 3 _ rfl).1; have fX03 := (BX0.out.cells 3 _ rfl).2
  have cX04 := (BX0.out.cells 4 _ rfl).1; have fX04 := (BX0.out.cells 4 _ rfl).2
  have xX0 := BX0.out.lt
  go_wp2_with fail
  refine (HI.out _ _ _ (KOwn.at OX0.out) (Own.at OX3.out lenInt)).mono ?_; rintro e w2 ⟨yG0, rfl, OG0, hb⟩
  clear xX0 cX00 fX00 cX01 fX01 cX02 fX02 cX03 fX03 cX04 fX04
  obtain ⟨yG0co, yG0cc, yG0uo, yG0uc, yG0vs, yG0eo, yG0ec, yG0ro, yG0rc, rfl⟩ := KOwn.shapes OG0
  have LG0 := Lib.hid (OG0.lts); replace OG0 := Lib.hid OG0
  replace BP0 := Lib.hid (BP0.out.below hb)
  replace BW0 := Lib.hid (BW0.out.below hb)
  replace BX0 := Lib.hid (BX0.out.below hb)
  replace OW0 := Lib.hid (OW0.out.below hb)
  replace OX0 := Lib.hid (OX0.out.below hb)
  replace OX3 := Lib.hid (Own.below OX3.out hb)
  replace HA0 := Lib.hid (HA0.out.below hb)
  replace HA3 := Lib.hid (HA3.out.below hb)
  replace HT := Lib.hid (HT.out.trans (hb.mono HT.out.size))
  have zwG := hb.size; (try simp only [World.size_alloc] at zwG); clear hb; obtain ⟨wG, rfl⟩ : ∃ x, x = w2 := ⟨_, rfl⟩
  simp only [KV.val]
  replace BP0 := Lib.hid (BP0.out.below ((Below.refl _ wG).alloc (Nat.le_refl _) (.cells #[.slice yG0co yG0vs.length yG0cc, .slice yG0uo K2.m.f.used.length yG0uc, .slice yG0eo K2.m.ents.length yG0ec, .int .i64 (K2.calls), .slice yG0ro K2.refuse.length yG0rc] 72)))
  replace BW0 := Lib.hid (BW0.out.below ((Below.refl _ wG).alloc (Nat.le_refl _) (.cells #[.slice yG0co yG0vs.length yG0cc, .slice yG0uo K2.m.f.used.length yG0uc, .slice yG0eo K2.m.ents.length yG0ec, .int .i64 (K2.calls), .slice yG0ro K2.refuse.length yG0rc] 72)))
  replace BX0 := Lib.hid (BX0.out.below ((Below.refl _ wG).alloc (Nat.le_refl _) (.cells #[.slice yG0co yG0vs.length yG0cc, .slice yG0uo K2.m.f.used.length yG0uc, .slice yG0eo K2.m.ents.length yG0ec, .int .i64 (K2.calls), .slice yG0ro K2.refuse.length yG0rc] 72)))
  replace OW0 := Lib.hid (OW0.out.below ((Below.refl _ wG).alloc (Nat.le_refl _) (.cells #[.slice yG0co yG0vs.length yG0cc, .slice yG0uo K2.m.f.used.length yG0uc, .slice yG0eo K2.m.ents.length yG0ec, .int .i64 (K2.calls), .slice yG0ro K2.refuse.length yG0rc] 72)))
  replace OX0 := Lib.hid (OX0.out.below ((Below.refl _ wG).alloc (Nat.le_refl _) (.cells #[.slice yG0co yG0vs.length yG0cc, .slice yG0uo K2.m.f.used.length yG0uc, .slice yG0eo K2.m.ents.length yG0ec, .int .i64 (K2.calls), .slice yG0ro K2.refuse.length yG0rc] 72)))
  replace OX3 := Lib.hid (Own.below OX3.out ((Below.refl _ wG).alloc (Nat.le_refl _) (.cells #[.slice yG0co yG0vs.length yG0cc, .slice yG0uo K2.m.f.used.length yG0uc, .slice yG0eo K2.m.ents.length yG0ec, .int .i64 (K2.calls), .slice yG0ro K2.refuse.length yG0rc] 72)))
  replace OG0 := Lib.hid (OG0.out.below ((Below.refl _ wG).alloc (Nat.le_refl _) (.cells #[.slice yG0co yG0vs.length yG0cc, .slice yG0uo K2.m.f.used.length yG0uc, .slice yG0eo K2.m.ents.length yG0ec, .int .i64 (K2.calls), .slice yG0ro K2.refuse.length yG0rc] 72)))
  replace HA0 := Lib.hid (HA0.out.below ((Below.refl _ wG).alloc (Nat.le_refl _) (.cells #[.slice yG0co yG0vs.length yG0cc, .slice yG0uo K2.m.f.used.length yG0uc, .slice yG0eo K2.m.ents.length yG0ec, .int .i64 (K2.calls), .slice yG0ro K2.refuse.length yG0rc] 72)))
  replace HA3 := Lib.hid (HA3.out.below ((Below.refl _ wG).alloc (Nat.le_refl _) (.cells #[.slice yG0co yG0vs.length yG0cc, .slice yG0uo K2.m.f.used.length yG0uc, .slice yG0eo K2.m.ents.length yG0ec, .int .i64 (K2.calls), .slice yG0ro K2.refuse.length yG0rc] 72)))
  replace HT := Lib.hid (HT.out.trans (((Below.refl _ wG).alloc (Nat.le_refl _) (.cells #[.slice yG0co yG0vs.length yG0cc, .slice yG0uo K2.m.f.used.length yG0uc, .slice yG0eo K2.m.ents.length yG0ec, .int .i64 (K2.calls), .slice yG0ro K2.refuse.length yG0rc] 72)).mono HT.out.size))
  have BG0 : Hid (BoxAt (wG.alloc (.cells #[.slice yG0co yG0vs.length yG0cc, .slice yG0uo K2.m.f.used.length yG0uc, .slice yG0eo K2.m.ents.length yG0ec, .int .i64 (K2.calls), .slice yG0ro K2.refuse.length yG0rc] 72)) (wG.heap.size) [.slice yG0co yG0vs.length yG0cc, .slice yG0uo K2.m.f.used.length yG0uc, .slice yG0eo K2.m.ents.length yG0ec, .int .i64 (K2.calls), .slice yG0ro K2.refuse.length yG0rc]) := (BoxAt.snoc (BoxAt.snoc (BoxAt.snoc (BoxAt.snoc (BoxAt.snoc (BoxAt.nil (w := wG.alloc (.cells #[.slice yG0co yG0vs.length yG0cc, .slice yG0uo K2.m.f.used.length yG0uc, .slice yG0eo K2.m.ents.length yG0ec, .int .i64 (K2.calls), .slice yG0ro K2.refuse.length yG0rc] 72)) (g := wG.heap.size) (by go_simp)) (v := .slice yG0co yG0vs.length yG0cc) (i := 0) rfl (by go_simp) (by go_simp)) (v := .slice yG0uo K2.m.f.used.length yG0uc) (i := 1) rfl (by go_simp) (by go_simp)) (v := .slice yG0eo K2.m.ents.length yG0ec) (i := 2) rfl (by go_simp) (by go_simp)) (v := .int .i64 (K2.calls)) (i := 3) rfl (by go_simp) (by go_simp)) (v := .slice yG0ro K2.refuse.length yG0rc) (i := 4) rfl (by go_simp) (by go_simp))
  have cG00 := (BG0.out.cells 0 _ rfl).1; have fG00 := (BG0.out.cells 0 _ rfl).2
  have cG01 := (BG0.out.cells 1 _ rfl).1; have fG01 := (BG0.out.cells 1 _ rfl).2
  have cG02 := (BG0.out.cells 2 _ rfl).1; have fG02 := (BG0.out.cells 2 _ rfl).2
  have cG03 := (BG0.out.cells 3 _ rfl).1; have fG03 := (BG0.out.cells 3 _ rfl).2
  have cG04 := (BG0.out.cells 4 _ rfl).1; have fG04 := (BG0.out.cells 4 _ rfl).2
  have xG0 := BG0.out.lt
  have cW00 := (BW0.out.cells 0 _ rfl).1; have fW00 := (BW0.out.cells 0 _ rfl).2
  have cW01 := (BW0.out.cells 1 _ rfl).1; have fW01 := (BW0.out.cells 1 _ rfl).2
  have cW02 := (BW0.out.cells 2 _ rfl).1; have fW02 := (BW0.out.cells 2 _ rfl).2
  have cW03 := (BW0.out.cells 3 _ rfl).1; have fW03 := (BW0.out.cells 3 _ rfl).2
  have cW04 := (BW0.out.cells 4 _ rfl).1; have fW04 := (BW0.out.cells 4 _ rfl).2
  have xW0 := BW0.out.lt
  go_wp2_with fail
  refine (l_eqKernel _ _ (⟨⟨⟨.slice yG0co yG0vs.length yG0cc, .slice yG0uo K2.m.f.used.length yG0uc, yG0vs⟩, .slice yG0eo K2.m.ents.length yG0ec⟩, .slice yG0ro K2.refuse.length yG0rc⟩ : KV) (⟨⟨⟨.slice yW0co yW0vs.length yW0cc, .slice yW0uo K2.m.f.used.length yW0uc, yW0vs⟩, .slice yW0eo K2.m.ents.length yW0ec⟩, .slice yW0ro K2.refuse.length yW0rc⟩ : KV) _ _ OG0.out OW0.out).mono ?_; rintro e w2 ⟨rfl, hb⟩
  clear xG0 cG00 fG00 cG01 fG01 cG02 fG02 cG03 fG03 cG04 fG04
  clear xW0 cW00 fW00 cW01 fW01 cW02 fW02 cW03 fW03 cW04 fW04
  replace BP0 := Lib.hid (BP0.out.below hb)
  replace BW0 := Lib.hid (BW0.out.below hb)
  replace BX0 := Lib.hid (BX0.out.below hb)
  replace BG0 := Lib.hid (BG0.out.below hb)
  replace OW0 := Lib.hid (OW0.out.below hb)
  replace OX0 := Lib.hid (OX0.out.below hb)
  replace OX3 := Lib.hid (Own.below OX3.out hb)
  replace OG0 := Lib.hid (OG0.out.below hb)
  replace HA0 := Lib.hid (HA0.out.below hb)
  replace HA3 := Lib.hid (HA3.out.below hb)
  replace HT := Lib.hid (HT.out.trans (hb.mono HT.out.size))
  have zwH := hb.size; (try simp only [World.size_alloc] at zwH); clear hb; obtain ⟨wH, rfl⟩ : ∃ x, x = w2 := ⟨_, rfl⟩
  have cX00 := (BX0.out.cells 0 _ rfl).1; have fX00 := (BX0.out.cells 0 _ rfl).2
  have cX01 := (BX0.out.cells 1 _ rfl).1; have fX01 := (BX0.out.cells 1 _ rfl).2
  have cX02 := (BX0.out.cells 2 _ rfl).1; have fX02 := (BX0.out.cells 2 _ rfl).2
  have cX03 := (BX0.out.cells 3 _ rfl).1; have fX03 := (BX0.out.cells 3 _ rfl).2
  have cX04 := (BX0.out.cells 4 _ rfl).1; have fX04 := (BX0.out.cells 4 _ rfl).2
  have xX0 := BX0.out.lt
  have cP00 := (BP0.out.cells 0 _ rfl).1; have fP00 := (BP0.out.cells 0 _ rfl).2
  have cP01 := (BP0.out.cells 1 _ rfl).1; have fP01 := (BP0.out.cells 1 _ rfl).2
  have cP02 := (BP0.out.cells 2 _ rfl).1; have fP02 := (BP0.out.cells 2 _ rfl).2
  have cP03 := (BP0.out.cells 3 _ rfl).1; have fP03 := (BP0.out.cells 3 _ rfl).2
  have cP04 := (BP0.out.cells 4 _ rfl).1; have fP04 := (BP0.out.cells 4 _ rfl).2
  have xP0 := BP0.out.lt
  go_wp2_with fail
  go_region_held3 (fun w' => w'.cell? ⟨wE.heap.size, 0, none⟩ = some (.slice yX0co yX0vs.length yX0cc) ∧ w'.cell? ⟨wE.heap.size, 1, none⟩ = some (.slice yX0uo K.m.f.used.length yX0uc) ∧ w'.cell? ⟨wE.heap.size, 2, none⟩ = some (.slice yX0eo K.m.ents.length yX0ec) ∧ w'.cell? ⟨wE.heap.size, 3, none⟩ = some (.int .i64 (K.calls)) ∧ w'.cell? ⟨wE.heap.size, 4, none⟩ = some (.slice yX0ro K.refuse.length yX0rc) ∧ w'.cell? ⟨w.heap.size, 0, none⟩ = some (x.m.f.c) ∧ w'.cell? ⟨w.heap.size, 1, none⟩ = some (x.m.f.u) ∧ w'.cell? ⟨w.heap.size, 2, none⟩ = some (x.m.e) ∧ w'.cell? ⟨w.heap.size, 3, none⟩ = some (.int .i64 K.calls) ∧ w'.cell? ⟨w.heap.size, 4, none⟩ = some (x.r)) (first | (refine ⟨?_, ?_, ?_, ?_, ?_, ?_, ?_, ?_, ?_, ?_⟩ <;> (go_simp; done)) | go_keep) (first | (go_at_call 42; (refine (l_toKernel x K (by omega) _ (HA0.out.below (by exact bel))).mono ?_; rintro e w2 ⟨yE, rfl, OE, hb⟩; (obtain ⟨yEco, yEcc, yEuo, yEuc, yEvs, yEeo, yEec, yEro, yErc, rfl⟩ := KOwn.shapes OE); have HQ1 := Lib.hid hb; have kwq1_X0_0 : w2.cell? ⟨wE.heap.size, 0, none⟩ = some (.slice yX0co yX0vs.length yX0cc) := kc hb; have kwq1_X0_1 : w2.cell? ⟨wE.heap.size, 1, none⟩ = some (.slice yX0uo K.m.f.used.length yX0uc) := kc hb; have kwq1_X0_2 : w2.cell? ⟨wE.heap.size, 2, none⟩ = some (.slice yX0eo K.m.ents.length yX0ec) := kc hb; have kwq1_X0_3 : w2.cell? ⟨wE.heap.size, 3, none⟩ = some (.int .i64 (K.calls)) := kc hb; have kwq1_X0_4 : w2.cell? ⟨wE.heap.size, 4, none⟩ = some (.slice yX0ro K.refuse.length yX0rc) := kc hb; have kwq1_P0_0 : w2.cell? ⟨w.heap.size, 0, none⟩ = some (x.m.f.c) := kc hb; have kwq1_P0_1 : w2.cell? ⟨w.heap.size, 1, none⟩ = some (x.m.f.u) := kc hb; have kwq1_P0_2 : w2.cell? ⟨w.heap.size, 2, none⟩ = some (x.m.e) := kc hb; have kwq1_P0_3 : w2.cell? ⟨w.heap.size, 3, none⟩ = some (.int .i64 K.calls) := kc hb; have kwq1_P0_4 : w2.cell? ⟨w.heap.size, 4, none⟩ = some (x.r) := kc hb; have xwq1_X0 : wE.heap.size < w2.heap.size := xc hb; have xwq1_P0 : w.heap.size < w2.heap.size := xc hb; have hzwq1 := hb.size; (try simp only [World.size_alloc, World.size_setCell, World.size_drew] at hzwq1); obtain ⟨wq1, rfl⟩ : ∃ x, x = w2 := ⟨_, rfl⟩; simp only [KV.val])) | (go_at_call 45; (refine (l_eqKernel _ _ (⟨⟨⟨.slice yX0co yX0vs.length yX0cc, .slice yX0uo K.m.f.used.length yX0uc, yX0vs⟩, .slice yX0eo K.m.ents.length yX0ec⟩, .slice yX0ro K.refuse.length yX0rc⟩ : KV) (⟨⟨⟨.slice yEco yEvs.length yEcc, .slice yEuo K.m.f.used.length yEuc, yEvs⟩, .slice yEeo K.m.ents.length yEec⟩, .slice yEro K.refuse.length yErc⟩ : KV) _ _ (OX0.out.below (by exact bel)) (OE.below (by exact bel))).mono ?_; rintro e w2 ⟨rfl, hb⟩; have HQ2 := Lib.hid hb; have kwq2_X0_0 : w2.cell? ⟨wE.heap.size, 0, none⟩ = some (.slice yX0co yX0vs.length yX0cc) := kc hb; have kwq2_X0_1 : w2.cell? ⟨wE.heap.size, 1, none⟩ = some (.slice yX0uo K.m.f.used.length yX0uc) := kc hb; have kwq2_X0_2 : w2.cell? ⟨wE.heap.size, 2, none⟩ = some (.slice yX0eo K.m.ents.length yX0ec) := kc hb; have kwq2_X0_3 : w2.cell? ⟨wE.heap.size, 3, none⟩ = some (.int .i64 (K.calls)) := kc hb; have kwq2_X0_4 : w2.cell? ⟨wE.heap.size, 4, none⟩ = some (.slice yX0ro K.refuse.length yX0rc) := kc hb; have kwq2_P0_0 : w2.cell? ⟨w.heap.size, 0, none⟩ = some (x.m.f.c) := kc hb; have kwq2_P0_1 : w2.cell? ⟨w.heap.size, 1, none⟩ = some (x.m.f.u) := kc hb; have kwq2_P0_2 : w2.cell? ⟨w.heap.size, 2, none⟩ = some (x.m.e) := kc hb; have kwq2_P0_3 : w2.cell? ⟨w.heap.size, 3, none⟩ = some (.int .i64 K.calls) := kc hb; have kwq2_P0_4 : w2.cell? ⟨w.heap.size, 4, none⟩ = some (x.r) := kc hb; have xwq2_X0 : wE.heap.size < w2.heap.size := xc hb; have xwq2_P0 : w.heap.size < w2.heap.size := xc hb; have hzwq2 := hb.size; (try simp only [World.size_alloc, World.size_setCell, World.size_drew] at hzwq2); obtain ⟨wq2, rfl⟩ : ∃ x, x = w2 := ⟨_, rfl⟩)))
  have hb : Below (wH).heap.size (wH) wq2 := by (have hq1 := HQ1.out; have hq2 := HQ2.out; exact bel)
  clear xX0 cX00 fX00 cX01 fX01 cX02 fX02 cX03 fX03 cX04 fX04
  clear xP0 cP00 fP00 cP01 fP01 cP02 fP02 cP03 fP03 cP04 fP04
  clear kwq1_X0_0 kwq1_X0_1 kwq1_X0_2 kwq1_X0_3 kwq1_X0_4 kwq1_P0_0 kwq1_P0_1 kwq1_P0_2 kwq1_P0_3 kwq1_P0_4 hzwq1
  clear kwq2_X0_0 kwq2_X0_1 kwq2_X0_2 kwq2_X0_3 kwq2_X0_4 kwq2_P0_0 kwq2_P0_1 kwq2_P0_2 kwq2_P0_3 kwq2_P0_4 hzwq2
  obtain ⟨w2, rfl⟩ : ∃ x, x = wq2 := ⟨_, rfl⟩
  clear HQ1 HQ2 OE
  replace BP0 := Lib.hid (BP0.out.below hb)
  replace BW0 := Lib.hid (BW0.out.below hb)
  replace BX0 := Lib.hid (BX0.out.below hb)
  replace BG0 := Lib.hid (BG0.out.below hb)
  replace OW0 := Lib.hid (OW0.out.below hb)
  replace OX0 := Lib.hid (OX0.out.below hb)
  replace OX3 := Lib.hid (Own.below OX3.out hb)
  replace OG0 := Lib.hid (OG0.out.below hb)
  replace HA0 := Lib.hid (HA0.out.below hb)
  replace HA3 := Lib.hid (HA3.out.below hb)
  replace HT := Lib.hid (HT.out.trans (hb.mono HT.out.size))
  have zwI := hb.size; (try simp only [World.size_alloc] at zwI); clear hb; obtain ⟨wI, rfl⟩ : ∃ x, x = w2 := ⟨_, rfl⟩
  go_wp2_with fail
  refine (l_toIntS _ cs (by omega) _ HA3.out).mono ?_; rintro e w2 ⟨vE, rfl, OE, hb⟩
  obtain ⟨yEo, yEc, rfl, -, -⟩ := OE.shape
  replace OE := Lib.hid OE
  replace BP0 := Lib.hid (BP0.out.below hb)
  replace BW0 := Lib.hid (BW0.out.below hb)
  replace BX0 := Lib.hid (BX0.out.below hb)
  replace BG0 := Lib.hid (BG0.out.below hb)
  replace OW0 := Lib.hid (OW0.out.below hb)
  replace OX0 := Lib.hid (OX0.out.below hb)
  replace OX3 := Lib.hid (Own.below OX3.out hb)
  replace OG0 := Lib.hid (OG0.out.below hb)
  replace HA0 := Lib.hid (HA0.out.below hb)
  replace HA3 := Lib.hid (HA3.out.below hb)
  replace HT := Lib.hid (HT.out.trans (hb.mono HT.out.size))
  have zwJ := hb.size; (try simp only [World.size_alloc] at zwJ); clear hb; obtain ⟨wJ, rfl⟩ : ∃ x, x = w2 := ⟨_, rfl⟩
  go_wp2_with fail
  refine (l_eqIntS _ _ _ _ cs _ OX3.out OE.out).mono ?_; rintro e w2 ⟨rfl, hb⟩
  clear OE
  replace BP0 := Lib.hid (BP0.out.below hb)
  replace BW0 := Lib.hid (BW0.out.below hb)
  replace BX0 := Lib.hid (BX0.out.below hb)
  replace BG0 := Lib.hid (BG0.out.below hb)
  replace OW0 := Lib.hid (OW0.out.below hb)
  replace OX0 := Lib.hid (OX0.out.below hb)
  replace OX3 := Lib.hid (Own.below OX3.out hb)
  replace OG0 := Lib.hid (OG0.out.below hb)
  replace HA0 := Lib.hid (HA0.out.below hb)
  replace HA3 := Lib.hid (HA3.out.below hb)
  replace HT := Lib.hid (HT.out.trans (hb.mono HT.out.size))
  have zwK := hb.size; (try simp only [World.size_alloc] at zwK); clear hb; obtain ⟨wK, rfl⟩ : ∃ x, x = w2 := ⟨_, rfl⟩
  have cX00 := (BX0.out.cells 0 _ rfl).1; have fX00 := (BX0.out.cells 0 _ rfl).2
  have cX01 := (BX0.out.cells 1 _ rfl).1; have fX01 := (BX0.out.cells 1 _ rfl).2
  have cX02 := (BX0.out.cells 2 _ rfl).1; have fX02 := (BX0.out.cells 2 _ rfl).2
  have cX03 := (BX0.out.cells 3 _ rfl).1; have fX03 := (BX0.out.cells 3 _ rfl).2
  have cX04 := (BX0.out.cells 4 _ rfl).1; have fX04 := (BX0.out.cells 4 _ rfl).2
  have xX0 := BX0.out.lt
  go_wp2_with fail
  refine (l_markKernel _ (⟨⟨⟨.slice yX0co yX0vs.length yX0cc, .slice yX0uo K.m.f.used.length yX0uc, yX0vs⟩, .slice yX0eo K.m.ents.length yX0ec⟩, .slice yX0ro K.refuse.length yX0rc⟩ : KV) K 1 (by omega) _ OX0.out).mono ?_; rintro e w2 ⟨rfl, OM, ht⟩
  clear xX0 cX00 fX00 cX01 fX01 cX02 fX02 cX03 fX03 cX04 fX04
  replace BP0 := Lib.hid (BP0.out.touch ht (fun hm => by have := LX0.out _ hm; (try simp only [World.size_alloc] at this); omega))
  replace BW0 := Lib.hid (BW0.out.touch ht (fun hm => by have := LX0.out _ hm; (try simp only [World.size_alloc] at this); omega))
  replace BX0 := Lib.hid (BX0.out.touch ht (fun hm => by have := LX0.out _ hm; (try simp only [World.size_alloc] at this); omega))
  replace BG0 := Lib.hid (BG0.out.touch ht (fun hm => by have := LX0.out _ hm; (try simp only [World.size_alloc] at this); omega))
  replace OW0 := Lib.hid (OW0.out.touch ht (fun g hg hm => by (have h1 := LW0.out g hg; have h2 := LX0.out _ hm; (try simp only [World.size_alloc] at h1 h2); omega)))
  replace OX3 := Lib.hid (Own.touchs OX3.out ht (fun g hg hm => by (have h1 := LX3.out g hg; have h2 := LX0.out _ hm; (try simp only [World.size_alloc] at h1 h2); omega)))
  replace OG0 := Lib.hid (OG0.out.touch ht (fun g hg hm => by (have h1 := LG0.out g hg; have h2 := LX0.out _ hm; (try simp only [World.size_alloc] at h1 h2); omega)))
  have hb := ht.toBelow (B := w.heap.size) (fun g hg => by have h2 := LX0.out _ hg; (try simp only [World.size_alloc] at h2); omega) (by omega)
  replace HA0 := Lib.hid (KAt.below HAw0.out (HT.out.trans hb))
  replace HA3 := Lib.hid (SlAt.below HAw3.out (HT.out.trans hb))
  replace HT := Lib.hid (HT.out.trans hb)
  have zwL := ht.size; clear ht hb; obtain ⟨wL, rfl⟩ : ∃ x, x = w2 := ⟨_, rfl⟩
  clear OX0
  clear OM
  clear BX0
  go_wp2_with fail
  refine (markInt' _ _ _ _ (by omega) _ OX3.out).mono ?_; rintro e w2 ⟨rfl, OM, ht⟩
  replace BP0 := Lib.hid (BP0.out.touch ht (fun hm => by have := LX3.out _ hm; (try simp only [World.size_alloc] at this); omega))
  replace BW0 := Lib.hid (BW0.out.touch ht (fun hm => by have := LX3.out _ hm; (try simp only [World.size_alloc] at this); omega))
  replace BG0 := Lib.hid (BG0.out.touch ht (fun hm => by have := LX3.out _ hm; (try simp only [World.size_alloc] at this); omega))
  replace OW0 := Lib.hid (OW0.out.touch ht (fun g hg hm => by (have h1 := LW0.out g hg; have h2 := LX3.out _ hm; (try simp only [World.size_alloc] at h1 h2); omega)))
  replace OG0 := Lib.hid (OG0.out.touch ht (fun g hg hm => by (have h1 := LG0.out g hg; have h2 := LX3.out _ hm; (try simp only [World.size_alloc] at h1 h2); omega)))
  have hb := ht.toBelow (B := w.heap.size) (fun g hg => by have h2 := LX3.out _ hg; (try simp only [World.size_alloc] at h2); omega) (by omega)
  replace HA0 := Lib.hid (KAt.below HAw0.out (HT.out.trans hb))
  replace HA3 := Lib.hid (SlAt.below HAw3.out (HT.out.trans hb))
  replace HT := Lib.hid (HT.out.trans hb)
  have zwM := ht.size; clear ht hb; obtain ⟨wM, rfl⟩ : ∃ x, x = w2 := ⟨_, rfl⟩
  clear OX3
  clear OM
  have cG00 := (BG0.out.cells 0 _ rfl).1; have fG00 := (BG0.out.cells 0 _ rfl).2
  have cG01 := (BG0.out.cells 1 _ rfl).1; have fG01 := (BG0.out.cells 1 _ rfl).2
  have cG02 := (BG0.out.cells 2 _ rfl).1; have fG02 := (BG0.out.cells 2 _ rfl).2
  have cG03 := (BG0.out.cells 3 _ rfl).1; have fG03 := (BG0.out.cells 3 _ rfl).2
  have cG04 := (BG0.out.cells 4 _ rfl).1; have fG04 := (BG0.out.cells 4 _ rfl).2
  have xG0 := BG0.out.lt
  have cW00 := (BW0.out.cells 0 _ rfl).1; have fW00 := (BW0.out.cells 0 _ rfl).2
  have cW01 := (BW0.out.cells 1 _ rfl).1; have fW01 := (BW0.out.cells 1 _ rfl).2
  have cW02 := (BW0.out.cells 2 _ rfl).1; have fW02 := (BW0.out.cells 2 _ rfl).2
  have cW03 := (BW0.out.cells 3 _ rfl).1; have fW03 := (BW0.out.cells 3 _ rfl).2
  have cW04 := (BW0.out.cells 4 _ rfl).1; have fW04 := (BW0.out.cells 4 _ rfl).2
  have xW0 := BW0.out.lt
  go_wp2_with fail
  refine (l_eqKernel _ _ (⟨⟨⟨.slice yG0co yG0vs.length yG0cc, .slice yG0uo K2.m.f.used.length yG0uc, yG0vs⟩, .slice yG0eo K2.m.ents.length yG0ec⟩, .slice yG0ro K2.refuse.length yG0rc⟩ : KV) (⟨⟨⟨.slice yW0co yW0vs.length yW0cc, .slice yW0uo K2.m.f.used.length yW0uc, yW0vs⟩, .slice yW0eo K2.m.ents.length yW0ec⟩, .slice yW0ro K2.refuse.length yW0rc⟩ : KV) _ _ OG0.out OW0.out).mono ?_; rintro e w2 ⟨rfl, hb⟩
  clear xG0 cG00 fG00 cG01 fG01 cG02 fG02 cG03 fG03 cG04 fG04
  clear xW0 cW00 fW00 cW01 fW01 cW02 fW02 cW03 fW03 cW04 fW04
  replace BP0 := Lib.hid (BP0.out.below hb)
  replace BW0 := Lib.hid (BW0.out.below hb)
  replace BG0 := Lib.hid (BG0.out.below hb)
  replace OW0 := Lib.hid (OW0.out.below hb)
  replace OG0 := Lib.hid (OG0.out.below hb)
  replace HA0 := Lib.hid (HA0.out.below hb)
  replace HA3 := Lib.hid (HA3.out.below hb)
  replace HT := Lib.hid (HT.out.trans (hb.mono HT.out.size))
  have zwN := hb.size; (try simp only [World.size_alloc] at zwN); clear hb; obtain ⟨wN, rfl⟩ : ∃ x, x = w2 := ⟨_, rfl⟩
  have cG00 := (BG0.out.cells 0 _ rfl).1; have fG00 := (BG0.out.cells 0 _ rfl).2
  have cG01 := (BG0.out.cells 1 _ rfl).1; have fG01 := (BG0.out.cells 1 _ rfl).2
  have cG02 := (BG0.out.cells 2 _ rfl).1; have fG02 := (BG0.out.cells 2 _ rfl).2
  have cG03 := (BG0.out.cells 3 _ rfl).1; have fG03 := (BG0.out.cells 3 _ rfl).2
  have cG04 := (BG0.out.cells 4 _ rfl).1; have fG04 := (BG0.out.cells 4 _ rfl).2
  have xG0 := BG0.out.lt
  go_wp2_with fail
  refine (l_markKernel _ (⟨⟨⟨.slice yG0co yG0vs.length yG0cc, .slice yG0uo K2.m.f.used.length yG0uc, yG0vs⟩, .slice yG0eo K2.m.ents.length yG0ec⟩, .slice yG0ro K2.refuse.length yG0rc⟩ : KV) K2 1 (by omega) _ OG0.out).mono ?_; rintro e w2 ⟨rfl, OM, ht⟩
  clear xG0 cG00 fG00 cG01 fG01 cG02 fG02 cG03 fG03 cG04 fG04
  replace BP0 := Lib.hid (BP0.out.touch ht (fun hm => by have := LG0.out _ hm; (try simp only [World.size_alloc] at this); omega))
  replace BW0 := Lib.hid (BW0.out.touch ht (fun hm => by have := LG0.out _ hm; (try simp only [World.size_alloc] at this); omega))
  replace BG0 := Lib.hid (BG0.out.touch ht (fun hm => by have := LG0.out _ hm; (try simp only [World.size_alloc] at this); omega))
  replace OW0 := Lib.hid (OW0.out.touch ht (fun g hg hm => by (have h1 := LW0.out g hg; have h2 := LG0.out _ hm; (try simp only [World.size_alloc] at h1 h2); omega)))
  have hb := ht.toBelow (B := w.heap.size) (fun g hg => by have h2 := LG0.out _ hg; (try simp only [World.size_alloc] at h2); omega) (by omega)
  replace HA0 := Lib.hid (KAt.below HAw0.out (HT.out.trans hb))
  replace HA3 := Lib.hid (SlAt.below HAw3.out (HT.out.trans hb))
  replace HT := Lib.hid (HT.out.trans hb)
  have zwO := ht.size; clear ht hb; obtain ⟨wO, rfl⟩ : ∃ x, x = w2 := ⟨_, rfl⟩
  clear OG0
  have OG0 := Lib.hid OM; clear OM
  have cG00 := (BG0.out.cells 0 _ rfl).1; have fG00 := (BG0.out.cells 0 _ rfl).2
  have cG01 := (BG0.out.cells 1 _ rfl).1; have fG01 := (BG0.out.cells 1 _ rfl).2
  have cG02 := (BG0.out.cells 2 _ rfl).1; have fG02 := (BG0.out.cells 2 _ rfl).2
  have cG03 := (BG0.out.cells 3 _ rfl).1; have fG03 := (BG0.out.cells 3 _ rfl).2
  have cG04 := (BG0.out.cells 4 _ rfl).1; have fG04 := (BG0.out.cells 4 _ rfl).2
  have xG0 := BG0.out.lt
  go_wp2_with fail
  refine (l_heldKernel _ (⟨⟨⟨.slice yG0co yG0vs.length yG0cc, .slice yG0uo K2.m.f.used.length yG0uc, yG0vs⟩, .slice yG0eo K2.m.ents.length yG0ec⟩, .slice yG0ro K2.refuse.length yG0rc⟩ : KV) K2 1 (by omega) _ OG0.out).mono ?_; rintro e w2 ⟨rfl, hb⟩
  clear xG0 cG00 fG00 cG01 fG01 cG02 fG02 cG03 fG03 cG04 fG04
  replace BP0 := Lib.hid (BP0.out.below hb)
  replace BW0 := Lib.hid (BW0.out.below hb)
  replace BG0 := Lib.hid (BG0.out.below hb)
  replace OW0 := Lib.hid (OW0.out.below hb)
  replace OG0 := Lib.hid (OG0.out.below hb)
  replace HA0 := Lib.hid (HA0.out.below hb)
  replace HA3 := Lib.hid (HA3.out.below hb)
  replace HT := Lib.hid (HT.out.trans (hb.mono HT.out.size))
  have zwP := hb.size; (try simp only [World.size_alloc] at zwP); clear hb; obtain ⟨wP, rfl⟩ : ∃ x, x = w2 := ⟨_, rfl⟩
  have cP00 := (BP0.out.cells 0 _ rfl).1; have fP00 := (BP0.out.cells 0 _ rfl).2
  have cP01 := (BP0.out.cells 1 _ rfl).1; have fP01 := (BP0.out.cells 1 _ rfl).2
  have cP02 := (BP0.out.cells 2 _ rfl).1; have fP02 := (BP0.out.cells 2 _ rfl).2
  have cP03 := (BP0.out.cells 3 _ rfl).1; have fP03 := (BP0.out.cells 3 _ rfl).2
  have cP04 := (BP0.out.cells 4 _ rfl).1; have fP04 := (BP0.out.cells 4 _ rfl).2
  have xP0 := BP0.out.lt
  go_wp2_with fail
  refine (l_toKernel x K (by omega) _ HA0.out).mono ?_; rintro e w2 ⟨yC0, rfl, OC0, hb⟩
  clear xP0 cP00 fP00 cP01 fP01 cP02 fP02 cP03 fP03 cP04 fP04
  obtain ⟨yC0co, yC0cc, yC0uo, yC0uc, yC0vs, yC0eo, yC0ec, yC0ro, yC0rc, rfl⟩ := KOwn.shapes OC0
  have LC0 := Lib.hid (OC0.lts); replace OC0 := Lib.hid OC0
  replace BP0 := Lib.hid (BP0.out.below hb)
  replace BW0 := Lib.hid (BW0.out.below hb)
  replace BG0 := Lib.hid (BG0.out.below hb)
  replace OW0 := Lib.hid (OW0.out.below hb)
  replace OG0 := Lib.hid (OG0.out.below hb)
  replace HA0 := Lib.hid (HA0.out.below hb)
  replace HA3 := Lib.hid (HA3.out.below hb)
  replace HT := Lib.hid (HT.out.trans (hb.mono HT.out.size))
  have zwQ := hb.size; (try simp only [World.size_alloc] at zwQ); clear hb; obtain ⟨wQ, rfl⟩ : ∃ x, x = w2 := ⟨_, rfl⟩
  simp only [KV.val]
  go_wp2_with fail
  refine (l_toIntS _ cs (by omega) _ HA3.out).mono ?_; rintro e w2 ⟨vC3, rfl, OC3, hb⟩
  obtain ⟨yC3o, yC3c, rfl, -, -⟩ := OC3.shape
  have LC3 := Lib.hid (Own.lts OC3); replace OC3 := Lib.hid OC3
  replace BP0 := Lib.hid (BP0.out.below hb)
  replace BW0 := Lib.hid (BW0.out.below hb)
  replace BG0 := Lib.hid (BG0.out.below hb)
  replace OW0 := Lib.hid (OW0.out.below hb)
  replace OG0 := Lib.hid (OG0.out.below hb)
  replace OC0 := Lib.hid (OC0.out.below hb)
  replace HA0 := Lib.hid (HA0.out.below hb)
  replace HA3 := Lib.hid (HA3.out.below hb)
  replace HT := Lib.hid (HT.out.trans (hb.mono HT.out.size))
  have zwR := hb.size; (try simp only [World.size_alloc] at zwR); clear hb; obtain ⟨wR, rfl⟩ : ∃ x, x = w2 := ⟨_, rfl⟩
  skip
  go_wp2_with fail
  refine (HI.out _ _ _ (KOwn.at OC0.out) (Own.at OC3.out lenInt)).mono ?_; rintro e w2 ⟨yH0, rfl, OH0, hb⟩
  obtain ⟨yH0co, yH0cc, yH0uo, yH0uc, yH0vs, yH0eo, yH0ec, yH0ro, yH0rc, rfl⟩ := KOwn.shapes OH0
  have LH0 := Lib.hid (OH0.lts); replace OH0 := Lib.hid OH0
  clear OC0 LC0
  clear OC3 LC3
  replace BP0 := Lib.hid (BP0.out.below hb)
  replace BW0 := Lib.hid (BW0.out.below hb)
  replace BG0 := Lib.hid (BG0.out.below hb)
  replace OW0 := Lib.hid (OW0.out.below hb)
  replace OG0 := Lib.hid (OG0.out.below hb)
  replace HA0 := Lib.hid (HA0.out.below hb)
  replace HA3 := Lib.hid (HA3.out.below hb)
  replace HT := Lib.hid (HT.out.trans (hb.mono HT.out.size))
  have zwS := hb.size; (try simp only [World.size_alloc] at zwS); clear hb; obtain ⟨wS, rfl⟩ : ∃ x, x = w2 := ⟨_, rfl⟩
  simp only [KV.val]
  replace BP0 := Lib.hid (BP0.out.below ((Below.refl _ wS).alloc (Nat.le_refl _) (.cells #[.slice yH0co yH0vs.length yH0cc, .slice yH0uo K2.m.f.used.length yH0uc, .slice yH0eo K2.m.ents.length yH0ec, .int .i64 (K2.calls), .slice yH0ro K2.refuse.length yH0rc] 72)))
  replace BW0 := Lib.hid (BW0.out.below ((Below.refl _ wS).alloc (Nat.le_refl _) (.cells #[.slice yH0co yH0vs.length yH0cc, .slice yH0uo K2.m.f.used.length yH0uc, .slice yH0eo K2.m.ents.length yH0ec, .int .i64 (K2.calls), .slice yH0ro K2.refuse.length yH0rc] 72)))
  replace BG0 := Lib.hid (BG0.out.below ((Below.refl _ wS).alloc (Nat.le_refl _) (.cells #[.slice yH0co yH0vs.length yH0cc, .slice yH0uo K2.m.f.used.length yH0uc, .slice yH0eo K2.m.ents.length yH0ec, .int .i64 (K2.calls), .slice yH0ro K2.refuse.length yH0rc] 72)))
  replace OW0 := Lib.hid (OW0.out.below ((Below.refl _ wS).alloc (Nat.le_refl _) (.cells #[.slice yH0co yH0vs.length yH0cc, .slice yH0uo K2.m.f.used.length yH0uc, .slice yH0eo K2.m.ents.length yH0ec, .int .i64 (K2.calls), .slice yH0ro K2.refuse.length yH0rc] 72)))
  replace OG0 := Lib.hid (OG0.out.below ((Below.refl _ wS).alloc (Nat.le_refl _) (.cells #[.slice yH0co yH0vs.length yH0cc, .slice yH0uo K2.m.f.used.length yH0uc, .slice yH0eo K2.m.ents.length yH0ec, .int .i64 (K2.calls), .slice yH0ro K2.refuse.length yH0rc] 72)))
  replace OH0 := Lib.hid (OH0.out.below ((Below.refl _ wS).alloc (Nat.le_refl _) (.cells #[.slice yH0co yH0vs.length yH0cc, .slice yH0uo K2.m.f.used.length yH0uc, .slice yH0eo K2.m.ents.length yH0ec, .int .i64 (K2.calls), .slice yH0ro K2.refuse.length yH0rc] 72)))
  replace HA0 := Lib.hid (HA0.out.below ((Below.refl _ wS).alloc (Nat.le_refl _) (.cells #[.slice yH0co yH0vs.length yH0cc, .slice yH0uo K2.m.f.used.length yH0uc, .slice yH0eo K2.m.ents.length yH0ec, .int .i64 (K2.calls), .slice yH0ro K2.refuse.length yH0rc] 72)))
  replace HA3 := Lib.hid (HA3.out.below ((Below.refl _ wS).alloc (Nat.le_refl _) (.cells #[.slice yH0co yH0vs.length yH0cc, .slice yH0uo K2.m.f.used.length yH0uc, .slice yH0eo K2.m.ents.length yH0ec, .int .i64 (K2.calls), .slice yH0ro K2.refuse.length yH0rc] 72)))
  replace HT := Lib.hid (HT.out.trans (((Below.refl _ wS).alloc (Nat.le_refl _) (.cells #[.slice yH0co yH0vs.length yH0cc, .slice yH0uo K2.m.f.used.length yH0uc, .slice yH0eo K2.m.ents.length yH0ec, .int .i64 (K2.calls), .slice yH0ro K2.refuse.length yH0rc] 72)).mono HT.out.size))
  have BH0 : Hid (BoxAt (wS.alloc (.cells #[.slice yH0co yH0vs.length yH0cc, .slice yH0uo K2.m.f.used.length yH0uc, .slice yH0eo K2.m.ents.length yH0ec, .int .i64 (K2.calls), .slice yH0ro K2.refuse.length yH0rc] 72)) (wS.heap.size) [.slice yH0co yH0vs.length yH0cc, .slice yH0uo K2.m.f.used.length yH0uc, .slice yH0eo K2.m.ents.length yH0ec, .int .i64 (K2.calls), .slice yH0ro K2.refuse.length yH0rc]) := (BoxAt.snoc (BoxAt.snoc (BoxAt.snoc (BoxAt.snoc (BoxAt.snoc (BoxAt.nil (w := wS.alloc (.cells #[.slice yH0co yH0vs.length yH0cc, .slice yH0uo K2.m.f.used.length yH0uc, .slice yH0eo K2.m.ents.length yH0ec, .int .i64 (K2.calls), .slice yH0ro K2.refuse.length yH0rc] 72)) (g := wS.heap.size) (by go_simp)) (v := .slice yH0co yH0vs.length yH0cc) (i := 0) rfl (by go_simp) (by go_simp)) (v := .slice yH0uo K2.m.f.used.length yH0uc) (i := 1) rfl (by go_simp) (by go_simp)) (v := .slice yH0eo K2.m.ents.length yH0ec) (i := 2) rfl (by go_simp) (by go_simp)) (v := .int .i64 (K2.calls)) (i := 3) rfl (by go_simp) (by go_simp)) (v := .slice yH0ro K2.refuse.length yH0rc) (i := 4) rfl (by go_simp) (by go_simp))
  have cH00 := (BH0.out.cells 0 _ rfl).1; have fH00 := (BH0.out.cells 0 _ rfl).2
  have cH01 := (BH0.out.cells 1 _ rfl).1; have fH01 := (BH0.out.cells 1 _ rfl).2
  have cH02 := (BH0.out.cells 2 _ rfl).1; have fH02 := (BH0.out.cells 2 _ rfl).2
  have cH03 := (BH0.out.cells 3 _ rfl).1; have fH03 := (BH0.out.cells 3 _ rfl).2
  have cH04 := (BH0.out.cells 4 _ rfl).1; have fH04 := (BH0.out.cells 4 _ rfl).2
  have xH0 := BH0.out.lt
  have cW00 := (BW0.out.cells 0 _ rfl).1; have fW00 := (BW0.out.cells 0 _ rfl).2
  have cW01 := (BW0.out.cells 1 _ rfl).1; have fW01 := (BW0.out.cells 1 _ rfl).2
  have cW02 := (BW0.out.cells 2 _ rfl).1; have fW02 := (BW0.out.cells 2 _ rfl).2
  have cW03 := (BW0.out.cells 3 _ rfl).1; have fW03 := (BW0.out.cells 3 _ rfl).2
  have cW04 := (BW0.out.cells 4 _ rfl).1; have fW04 := (BW0.out.cells 4 _ rfl).2
  have xW0 := BW0.out.lt
  go_wp2_with fail
  refine (l_eqKernel _ _ (⟨⟨⟨.slice yH0co yH0vs.length yH0cc, .slice yH0uo K2.m.f.used.length yH0uc, yH0vs⟩, .slice yH0eo K2.m.ents.length yH0ec⟩, .slice yH0ro K2.refuse.length yH0rc⟩ : KV) (⟨⟨⟨.slice yW0co yW0vs.length yW0cc, .slice yW0uo K2.m.f.used.length yW0uc, yW0vs⟩, .slice yW0eo K2.m.ents.length yW0ec⟩, .slice yW0ro K2.refuse.length yW0rc⟩ : KV) _ _ OH0.out OW0.out).mono ?_; rintro e w2 ⟨rfl, hb⟩
  clear xH0 cH00 fH00 cH01 fH01 cH02 fH02 cH03 fH03 cH04 fH04
  clear xW0 cW00 fW00 cW01 fW01 cW02 fW02 cW03 fW03 cW04 fW04
  replace BP0 := Lib.hid (BP0.out.below hb)
  replace BW0 := Lib.hid (BW0.out.below hb)
  replace BG0 := Lib.hid (BG0.out.below hb)
  replace BH0 := Lib.hid (BH0.out.below hb)
  replace OW0 := Lib.hid (OW0.out.below hb)
  replace OG0 := Lib.hid (OG0.out.below hb)
  replace OH0 := Lib.hid (OH0.out.below hb)
  replace HA0 := Lib.hid (HA0.out.below hb)
  replace HA3 := Lib.hid (HA3.out.below hb)
  replace HT := Lib.hid (HT.out.trans (hb.mono HT.out.size))
  have zwT := hb.size; (try simp only [World.size_alloc] at zwT); clear hb; obtain ⟨wT, rfl⟩ : ∃ x, x = w2 := ⟨_, rfl⟩
  have cG00 := (BG0.out.cells 0 _ rfl).1; have fG00 := (BG0.out.cells 0 _ rfl).2
  have cG01 := (BG0.out.cells 1 _ rfl).1; have fG01 := (BG0.out.cells 1 _ rfl).2
  have cG02 := (BG0.out.cells 2 _ rfl).1; have fG02 := (BG0.out.cells 2 _ rfl).2
  have cG03 := (BG0.out.cells 3 _ rfl).1; have fG03 := (BG0.out.cells 3 _ rfl).2
  have cG04 := (BG0.out.cells 4 _ rfl).1; have fG04 := (BG0.out.cells 4 _ rfl).2
  have xG0 := BG0.out.lt
  go_wp2_with fail
  refine (l_heldKernel _ (⟨⟨⟨.slice yG0co yG0vs.length yG0cc, .slice yG0uo K2.m.f.used.length yG0uc, yG0vs⟩, .slice yG0eo K2.m.ents.length yG0ec⟩, .slice yG0ro K2.refuse.length yG0rc⟩ : KV) K2 1 (by omega) _ OG0.out).mono ?_; rintro e w2 ⟨rfl, hb⟩
  clear xG0 cG00 fG00 cG01 fG01 cG02 fG02 cG03 fG03 cG04 fG04
  replace BP0 := Lib.hid (BP0.out.below hb)
  replace BW0 := Lib.hid (BW0.out.below hb)
  replace BG0 := Lib.hid (BG0.out.below hb)
  replace BH0 := Lib.hid (BH0.out.below hb)
  replace OW0 := Lib.hid (OW0.out.below hb)
  replace OG0 := Lib.hid (OG0.out.below hb)
  replace OH0 := Lib.hid (OH0.out.below hb)
  replace HA0 := Lib.hid (HA0.out.below hb)
  replace HA3 := Lib.hid (HA3.out.below hb)
  replace HT := Lib.hid (HT.out.trans (hb.mono HT.out.size))
  have zwU := hb.size; (try simp only [World.size_alloc] at zwU); clear hb; obtain ⟨wU, rfl⟩ : ∃ x, x = w2 := ⟨_, rfl⟩
  go_wp2_with fail
  go_ret
  exact ⟨rfl, HT.out⟩

namespace fnExactKCopy
set_option maxRecDepth 100000 in
theorem contract (H : Type) (enc : TypeId × Value → H) (W : World) (base : Nat) (args : Array Value) (ds gs : List (DataW H)) (before : List MemPlace)
    (hval : ∀ (j : Nat) t v, Try.f11.params[j]? = some t → args[j]? = some v → Value.okWide Try.prog W .any base t v)
    (hW : DataW.Whole enc Try.prog Try.f11.params.toList Rows.fnExactKCopySpec.vars false W args.toList ds gs before) :
    Calls Try.prog 11 args W fun e W' => ∃ v, e = .returned v ∧ Rows.fnExactKCopySpec.post enc Try.prog Try.f11 false true false false W args v W' := by
  have hW' := hW
  obtain ⟨p, q, hA0, hV, rfl, hfz, hnd⟩ := hW
  have hA : DataW.TrodAll enc Try.prog W 0 (fun _ => true) true Try.f11.params.toList args.toList ds p := hA0
  rw [Try.params11] at hA hval
  obtain ⟨v0, vs0, d0, ds0, p0, q0, hargs, rfl, rfl, h0, r0⟩ := trodAll_cons hA
  obtain ⟨v1, vs1, d1, ds1, p1, q1, rfl, rfl, rfl, h1, r1⟩ := trodAll_cons r0
  obtain ⟨v2, vs2, d2, ds2, p2, q2, rfl, rfl, rfl, h2, r2⟩ := trodAll_cons r1
  obtain ⟨v3, vs3, d3, ds3, p3, q3, rfl, rfl, rfl, h3, r3⟩ := trodAll_cons r2
  obtain ⟨rfl, rfl, rfl⟩ := trodAll_nil r3
  obtain rfl : args = #[v0, v1, v2, v3] := by cases args; simp_all
  obtain ⟨rfl, rfl⟩ := trodVars_none hV
  obtain ⟨x, K, rfl, hxK, wK⟩ := kernel_open (hval 0 60 v0 rfl rfl) h0
  obtain ⟨a, rfl, rfl, rfl, wa⟩ := open_int Try.underlying3 (hval 1 3 v1 rfl rfl) h1
  obtain ⟨b, rfl, rfl, rfl, wb⟩ := open_int Try.underlying3 (hval 2 3 v2 rfl rfl) h2
  obtain ⟨cs, hv⟩ := arg_ints Try.underlying22 Try.underlying3 (by kernel_rfl) (hval 3 22 v3 rfl rfl) h3
  clear hA0
  refine (w_FnExactKCopy x K a b v3 cs W hxK hv).mono fun e W' ⟨he, hg⟩ => ?_
  subst he
  exact ⟨_, rfl, law_post (tb := 4) laidOut (by kernel_rfl) rfl rfl Try.underlying4 hW' rfl rfl rfl hg⟩
set_option maxRecDepth 100000 in
theorem lifted (os : Os) (started : os.Started) (H : Type) (enc : TypeId × Value → H) :
    ReturnsInHanded {} Try.checked os 11 .any (Rows.fnExactKCopySpec.pre6 enc Try.prog Try.f11 Rows.fnExactKCopyRow.domain false) (Rows.fnExactKCopySpec.post enc Try.prog Try.f11 false true false false) := by
  refine returnsInHanded_of_change (C := Try.checked) own started (by kernel_rfl) Try.func11
    (ChangeSpec.witness6 (enc := enc) (C := Try.checked) false ⟨#[], #[.agg #[.slice none 0 0, .slice none 0 0, .slice none 0 0, .int .i64 0, .slice none 0 0], .int .i64 0, .int .i64 0, .slice none 0 0], []⟩ 8 (by kernel_rfl) (by kernel_rfl) (by kernel_rfl) (by kernel_rfl)) ?_
  intro W base args ds gs before hval hW _ _
  exact contract H enc W base args ds gs before hval hW
/-- The statement. -/
theorem proved : Rows.FnExactKCopySaid :=
  OpenClaim.holds_of_wide 11 Try.f11 rfl rfl rfl rfl rfl rfl rfl ⟨rfl, rfl, rfl, rfl, rfl⟩ rfl rfl rfl rfl rfl (by kernel_rfl) Try.func11 (by kernel_rfl)
    (of_decide_eq_true (by kernel_rfl)) (by unfold Func.isWrapper; first | (rw [if_pos (by decide +kernel)]; kernel_rfl) | (rw [if_neg (by decide +kernel)]; exact ⟨rfl, rfl⟩))
    (fun os started H enc _ => lifted os started H enc)
end fnExactKCopy

end Go.Proofs.Yteebofhflbjimaa
