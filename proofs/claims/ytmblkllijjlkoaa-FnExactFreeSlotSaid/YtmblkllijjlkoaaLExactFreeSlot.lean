/- 'laws.FnExactFreeSlot' returns true, whatever the arguments: no condition. -/
import Derived.Test.YtmblkllijjlkoaaFreeE
import Derived.Test.YtmblkllijjlkoaaInvR
import Derived.Test.YtmblkllijjlkoaaKMark
import Derived.Test.YtmblkllijjlkoaaKEq
import Derived.Test.YtmblkllijjlkoaaOpenK
import Derived.Deep.DeepCutAuto
set_option linter.unusedVariables false
set_option linter.unusedSimpArgs false
namespace Go.Proofs.Ytmblkllijjlkoaa
open Go.ChangeShapes Go.WideShapes Go.ChangeAt Go.RowKit
theorem cntK_le {K : Ker} (h : szK K ≤ 1048576) : cntK K ≤ 2097152 := by
  unfold szK szM szF at h
  unfold cntK cntM cntF
  omega
theorem lensTo_same (rows : List (List Int)) (i : Nat) (r : List Int) (h : r.length = (rows.getD i []).length) : ∀ k, lensTo (rows.set i r) k = lensTo rows k
  | 0 => rfl
  | k + 1 => by
    rw [lensTo, lensTo, lensTo_same rows i r h k]
    congr 1
    by_cases e : i = k
    · subst e
      rw [List.getD_eq_getElem?_getD, List.getElem?_set, if_pos rfl]
      split
      · exact h
      · rename_i hn
        rw [List.getD_eq_getElem?_getD, List.getElem?_eq_none (by omega)]
    · rw [List.getD_eq_getElem?_getD, List.getElem?_set, if_neg e, ← List.getD_eq_getElem?_getD]
theorem tot_clear (rows : List (List Int)) (i a n : Nat) : tot (rows.set i (zeroTo (rows.getD i []) a n)) = tot rows := by
  unfold tot
  rw [List.length_set, lensTo_same rows i _ (zeroTo_len _ _ _)]
theorem cntK_free {K : Ker} (h : szK K ≤ 1048576) (p c b slot : Int) : cntK (freeK K p c b slot) ≤ 4194304 := by
  have h0 := cntK_le h
  unfold freeK
  split
  · have e := tot_clear K.m.f.cells (pageEntry K.m.ents p).f.toNat (slot * classSize c).toNat (classSize c).toNat
    simp only [cntK, cntM, cntF, withF, clearF] at *
    omega
  · omega
set_option maxRecDepth 100000 in
set_option maxHeartbeats 12800000 in
theorem w_FnExactFreeSlot (x : KV) (K : Ker) (p c b slot : Int) (w : World) (ha0 : KAt w x K) : Calls Try.prog 4 #[x.val K.calls, .agg #[.int .i64 p, .int .i64 c, .int .i64 b], .int .i64 slot] w fun e w' => e = .returned (.bool true) ∧ Below w.heap.size w w' := by
  simp only [KV.val]; skip
  have HAw0 := Lib.hid ha0; have HA0 := Lib.hid ha0
  have HT := Lib.hid (Below.refl w.heap.size w)
  clear ha0
  by_cases hS0 : szK K ≤ 1048576
  rotate_left
  · (have hall := all_nil w; go_enter Try.func4, Try.ntmps4)
    go_wp2_with (first | (go_at_call 5; (refine (l_szKernel x K _ (by omega) _ (HA0.out.below (by exact bel))).mono ?_; rintro e w2 ⟨rfl, hb⟩; rw [szRes_neg (by omega)])))
    go_ret
    exact ⟨rfl, by exact bel⟩
  have hcn := cntK_free hS0 p c b slot
  have hcK := cntK_le hS0
  have HI := Lib.hid (fun y w (h : KAt w y K) => i_FreeSlot y K p c b slot hS0 w h)
  have HS := Lib.hid (fun y w (h : KAt w y K) => s_FreeSlot y K p c b slot hS0 w h)
  generalize (freeK K p c b slot) = K2 at *
  generalize (freeB K p c b slot) = b2 at *
  generalize (freeCode K p c b slot) = code at *
  (have hall := all_nil w; go_enter Try.func4, Try.ntmps4)
  go_wp2_with fail
  replace HA0 := Lib.hid (HA0.out.below ((Below.refl _ w).alloc (Nat.le_refl _) (.cells #[x.m.f.c, x.m.f.u, x.m.e, .int .i64 K.calls, x.r] 33)))
  replace HT := Lib.hid (HT.out.trans (((Below.refl _ w).alloc (Nat.le_refl _) (.cells #[x.m.f.c, x.m.f.u, x.m.e, .int .i64 K.calls, x.r] 33)).mono HT.out.size))
  have BP0 : Hid (BoxAt (w.alloc (.cells #[x.m.f.c, x.m.f.u, x.m.e, .int .i64 K.calls, x.r] 33)) (w.heap.size) [x.m.f.c, x.m.f.u, x.m.e, .int .i64 K.calls, x.r]) := (BoxAt.snoc (BoxAt.snoc (BoxAt.snoc (BoxAt.snoc (BoxAt.snoc (BoxAt.nil (w := w.alloc (.cells #[x.m.f.c, x.m.f.u, x.m.e, .int .i64 K.calls, x.r] 33)) (g := w.heap.size) (by go_simp)) (v := x.m.f.c) (i := 0) rfl (by go_simp) (by go_simp)) (v := x.m.f.u) (i := 1) rfl (by go_simp) (by go_simp)) (v := x.m.e) (i := 2) rfl (by go_simp) (by go_simp)) (v := .int .i64 K.calls) (i := 3) rfl (by go_simp) (by go_simp)) (v := x.r) (i := 4) rfl (by go_simp) (by go_simp))
  replace BP0 := Lib.hid (BP0.out.below ((Below.refl _ (w.alloc (.cells #[x.m.f.c, x.m.f.u, x.m.e, .int .i64 K.calls, x.r] 33))).alloc (Nat.le_refl _) (.cells #[.int .i64 p, .int .i64 c, .int .i64 b] 55)))
  replace HA0 := Lib.hid (HA0.out.below ((Below.refl _ (w.alloc (.cells #[x.m.f.c, x.m.f.u, x.m.e, .int .i64 K.calls, x.r] 33))).alloc (Nat.le_refl _) (.cells #[.int .i64 p, .int .i64 c, .int .i64 b] 55)))
  replace HT := Lib.hid (HT.out.trans (((Below.refl _ (w.alloc (.cells #[x.m.f.c, x.m.f.u, x.m.e, .int .i64 K.calls, x.r] 33))).alloc (Nat.le_refl _) (.cells #[.int .i64 p, .int .i64 c, .int .i64 b] 55)).mono HT.out.size))
  have BP1 : Hid (BoxAt ((w.alloc (.cells #[x.m.f.c, x.m.f.u, x.m.e, .int .i64 K.calls, x.r] 33)).alloc (.cells #[.int .i64 p, .int .i64 c, .int .i64 b] 55)) (w.heap.size + 1) [.int .i64 p, .int .i64 c, .int .i64 b]) := (BoxAt.snoc (BoxAt.snoc (BoxAt.snoc (BoxAt.nil (w := (w.alloc (.cells #[x.m.f.c, x.m.f.u, x.m.e, .int .i64 K.calls, x.r] 33)).alloc (.cells #[.int .i64 p, .int .i64 c, .int .i64 b] 55)) (g := w.heap.size + 1) (by go_simp)) (v := .int .i64 p) (i := 0) rfl (by go_simp) (by go_simp)) (v := .int .i64 c) (i := 1) rfl (by go_simp) (by go_simp)) (v := .int .i64 b) (i := 2) rfl (by go_simp) (by go_simp))
  have cP00 := (BP0.out.cells 0 _ rfl).1; have fP00 := (BP0.out.cells 0 _ rfl).2
  have cP01 := (BP0.out.cells 1 _ rfl).1; have fP01 := (BP0.out.cells 1 _ rfl).2
  have cP02 := (BP0.out.cells 2 _ rfl).1; have fP02 := (BP0.out.cells 2 _ rfl).2
  have cP03 := (BP0.out.cells 3 _ rfl).1; have fP03 := (BP0.out.cells 3 _ rfl).2
  have cP04 := (BP0.out.cells 4 _ rfl).1; have fP04 := (BP0.out.cells 4 _ rfl).2
  have xP0 := BP0.out.lt
  go_wp2_with fail
  refine (l_szKernel x K _ (by omega) _ HA0.out).mono ?_; rintro e w2 ⟨rfl, hb⟩
  rw [szRes_pos (by omega)]
  clear xP0 cP00 fP00 cP01 fP01 cP02 fP02 cP03 fP03 cP04 fP04
  replace BP0 := Lib.hid (BP0.out.below hb)
  replace BP1 := Lib.hid (BP1.out.below hb)
  replace HA0 := Lib.hid (HA0.out.below hb)
  replace HT := Lib.hid (HT.out.trans (hb.mono HT.out.size))
  have zwA := hb.size; (try simp only [World.size_alloc] at zwA); clear hb; obtain ⟨wA, rfl⟩ : ∃ x, x = w2 := ⟨_, rfl⟩
  have cP00 := (BP0.out.cells 0 _ rfl).1; have fP00 := (BP0.out.cells 0 _ rfl).2
  have cP01 := (BP0.out.cells 1 _ rfl).1; have fP01 := (BP0.out.cells 1 _ rfl).2
  have cP02 := (BP0.out.cells 2 _ rfl).1; have fP02 := (BP0.out.cells 2 _ rfl).2
  have cP03 := (BP0.out.cells 3 _ rfl).1; have fP03 := (BP0.out.cells 3 _ rfl).2
  have cP04 := (BP0.out.cells 4 _ rfl).1; have fP04 := (BP0.out.cells 4 _ rfl).2
  have xP0 := BP0.out.lt
  have cP10 := (BP1.out.cells 0 _ rfl).1; have fP10 := (BP1.out.cells 0 _ rfl).2
  have cP11 := (BP1.out.cells 1 _ rfl).1; have fP11 := (BP1.out.cells 1 _ rfl).2
  have cP12 := (BP1.out.cells 2 _ rfl).1; have fP12 := (BP1.out.cells 2 _ rfl).2
  have xP1 := BP1.out.lt
  go_wp2_with fail
  go_upto_region 5 with fail
  go_cut [8, 9, 10] (fun ss8 ss9 ss10 wx => ∃ yW0co yW0cc yW0uo yW0uc yW0vs yW0eo yW0ec yW0ro yW0rc gW0 gW1, ss8 = .pointer (some ⟨gW0, 0, none⟩) ∧ ss9 = .pointer (some ⟨gW1, 0, none⟩) ∧ ss10 = .int .i64 code ∧ BoxAt wx gW0 [.slice yW0co yW0vs.length yW0cc, .slice yW0uo K2.m.f.used.length yW0uc, .slice yW0eo K2.m.ents.length yW0ec, .int .i64 (K2.calls), .slice yW0ro K2.refuse.length yW0rc] ∧ BoxAt wx gW1 [.int .i64 p, .int .i64 c, .int .i64 b2] ∧ KOwn (wA.heap.size) wx (⟨⟨⟨.slice yW0co yW0vs.length yW0cc, .slice yW0uo K2.m.f.used.length yW0uc, yW0vs⟩, .slice yW0eo K2.m.ents.length yW0ec⟩, .slice yW0ro K2.refuse.length yW0rc⟩ : KV) K2 ∧ gW0 ∉ blocks (KV.all (⟨⟨⟨.slice yW0co yW0vs.length yW0cc, .slice yW0uo K2.m.f.used.length yW0uc, yW0vs⟩, .slice yW0eo K2.m.ents.length yW0ec⟩, .slice yW0ro K2.refuse.length yW0rc⟩ : KV)) ∧ gW1 ∉ blocks (KV.all (⟨⟨⟨.slice yW0co yW0vs.length yW0cc, .slice yW0uo K2.m.f.used.length yW0uc, yW0vs⟩, .slice yW0eo K2.m.ents.length yW0ec⟩, .slice yW0ro K2.refuse.length yW0rc⟩ : KV)) ∧ wA.heap.size ≤ gW0 ∧ wA.heap.size ≤ gW1 ∧ Below (wA).heap.size (wA) wx)
  case first =>
      refine wp_gen (fun a0 ha0 => ?_)
      have hsz : a0.tmps.size = 133 := by rw [ha0]; rfl
      have hps : (wA).heap.size = wA.heap.size := by first | rfl | simp only [World.size_alloc]
      have X3 : ∀ u, (frAll a0 [27, 28, 29, 30, 31, 32, 26, 33, 34, 35, 8, 9, 10] u).tmps.getD 3 undef = .pointer (some ⟨w.heap.size, 0, none⟩) := fun u => (frAll_other (by decide)).trans (by rw [ha0]; rfl)
      have X4 : ∀ u, (frAll a0 [27, 28, 29, 30, 31, 32, 26, 33, 34, 35, 8, 9, 10] u).tmps.getD 4 undef = .pointer (some ⟨w.heap.size + 1, 0, none⟩) := fun u => (frAll_other (by decide)).trans (by rw [ha0]; rfl)
      have X2 : ∀ u, (frAll a0 [27, 28, 29, 30, 31, 32, 26, 33, 34, 35, 8, 9, 10] u).tmps.getD 2 undef = .int .i64 slot := fun u => (frAll_other (by decide)).trans (by rw [ha0]; rfl)
      have E27 : ∀ u, (frAll a0 [27, 28, 29, 30, 31, 32, 26, 33, 34, 35, 8, 9, 10] u).tmps.getD 27 undef = u 27 := fun u => frAll_eval (by decide) (by rw [hsz]; decide)
      have P27 : ∀ u v, (frAll a0 [27, 28, 29, 30, 31, 32, 26, 33, 34, 35, 8, 9, 10] u).put (some 27) v = frAll a0 [27, 28, 29, 30, 31, 32, 26, 33, 34, 35, 8, 9, 10] (frUpd u 27 v) := fun u v => frAll_put v (by decide)
      have E28 : ∀ u, (frAll a0 [27, 28, 29, 30, 31, 32, 26, 33, 34, 35, 8, 9, 10] u).tmps.getD 28 undef = u 28 := fun u => frAll_eval (by decide) (by rw [hsz]; decide)
      have P28 : ∀ u v, (frAll a0 [27, 28, 29, 30, 31, 32, 26, 33, 34, 35, 8, 9, 10] u).put (some 28) v = frAll a0 [27, 28, 29, 30, 31, 32, 26, 33, 34, 35, 8, 9, 10] (frUpd u 28 v) := fun u v => frAll_put v (by decide)
      have E29 : ∀ u, (frAll a0 [27, 28, 29, 30, 31, 32, 26, 33, 34, 35, 8, 9, 10] u).tmps.getD 29 undef = u 29 := fun u => frAll_eval (by decide) (by rw [hsz]; decide)
      have P29 : ∀ u v, (frAll a0 [27, 28, 29, 30, 31, 32, 26, 33, 34, 35, 8, 9, 10] u).put (some 29) v = frAll a0 [27, 28, 29, 30, 31, 32, 26, 33, 34, 35, 8, 9, 10] (frUpd u 29 v) := fun u v => frAll_put v (by decide)
      have E30 : ∀ u, (frAll a0 [27, 28, 29, 30, 31, 32, 26, 33, 34, 35, 8, 9, 10] u).tmps.getD 30 undef = u 30 := fun u => frAll_eval (by decide) (by rw [hsz]; decide)
      have P30 : ∀ u v, (frAll a0 [27, 28, 29, 30, 31, 32, 26, 33, 34, 35, 8, 9, 10] u).put (some 30) v = frAll a0 [27, 28, 29, 30, 31, 32, 26, 33, 34, 35, 8, 9, 10] (frUpd u 30 v) := fun u v => frAll_put v (by decide)
      have E31 : ∀ u, (frAll a0 [27, 28, 29, 30, 31, 32, 26, 33, 34, 35, 8, 9, 10] u).tmps.getD 31 undef = u 31 := fun u => frAll_eval (by decide) (by rw [hsz]; decide)
      have P31 : ∀ u v, (frAll a0 [27, 28, 29, 30, 31, 32, 26, 33, 34, 35, 8, 9, 10] u).put (some 31) v = frAll a0 [27, 28, 29, 30, 31, 32, 26, 33, 34, 35, 8, 9, 10] (frUpd u 31 v) := fun u v => frAll_put v (by decide)
      have E32 : ∀ u, (frAll a0 [27, 28, 29, 30, 31, 32, 26, 33, 34, 35, 8, 9, 10] u).tmps.getD 32 undef = u 32 := fun u => frAll_eval (by decide) (by rw [hsz]; decide)
      have P32 : ∀ u v, (frAll a0 [27, 28, 29, 30, 31, 32, 26, 33, 34, 35, 8, 9, 10] u).put (some 32) v = frAll a0 [27, 28, 29, 30, 31, 32, 26, 33, 34, 35, 8, 9, 10] (frUpd u 32 v) := fun u v => frAll_put v (by decide)
      have E26 : ∀ u, (frAll a0 [27, 28, 29, 30, 31, 32, 26, 33, 34, 35, 8, 9, 10] u).tmps.getD 26 undef = u 26 := fun u => frAll_eval (by decide) (by rw [hsz]; decide)
      have P26 : ∀ u v, (frAll a0 [27, 28, 29, 30, 31, 32, 26, 33, 34, 35, 8, 9, 10] u).put (some 26) v = frAll a0 [27, 28, 29, 30, 31, 32, 26, 33, 34, 35, 8, 9, 10] (frUpd u 26 v) := fun u v => frAll_put v (by decide)
      have E33 : ∀ u, (frAll a0 [27, 28, 29, 30, 31, 32, 26, 33, 34, 35, 8, 9, 10] u).tmps.getD 33 undef = u 33 := fun u => frAll_eval (by decide) (by rw [hsz]; decide)
      have P33 : ∀ u v, (frAll a0 [27, 28, 29, 30, 31, 32, 26, 33, 34, 35, 8, 9, 10] u).put (some 33) v = frAll a0 [27, 28, 29, 30, 31, 32, 26, 33, 34, 35, 8, 9, 10] (frUpd u 33 v) := fun u v => frAll_put v (by decide)
      have E34 : ∀ u, (frAll a0 [27, 28, 29, 30, 31, 32, 26, 33, 34, 35, 8, 9, 10] u).tmps.getD 34 undef = u 34 := fun u => frAll_eval (by decide) (by rw [hsz]; decide)
      have P34 : ∀ u v, (frAll a0 [27, 28, 29, 30, 31, 32, 26, 33, 34, 35, 8, 9, 10] u).put (some 34) v = frAll a0 [27, 28, 29, 30, 31, 32, 26, 33, 34, 35, 8, 9, 10] (frUpd u 34 v) := fun u v => frAll_put v (by decide)
      have E35 : ∀ u, (frAll a0 [27, 28, 29, 30, 31, 32, 26, 33, 34, 35, 8, 9, 10] u).tmps.getD 35 undef = u 35 := fun u => frAll_eval (by decide) (by rw [hsz]; decide)
      have P35 : ∀ u v, (frAll a0 [27, 28, 29, 30, 31, 32, 26, 33, 34, 35, 8, 9, 10] u).put (some 35) v = frAll a0 [27, 28, 29, 30, 31, 32, 26, 33, 34, 35, 8, 9, 10] (frUpd u 35 v) := fun u v => frAll_put v (by decide)
      have E8 : ∀ u, (frAll a0 [27, 28, 29, 30, 31, 32, 26, 33, 34, 35, 8, 9, 10] u).tmps.getD 8 undef = u 8 := fun u => frAll_eval (by decide) (by rw [hsz]; decide)
      have P8 : ∀ u v, (frAll a0 [27, 28, 29, 30, 31, 32, 26, 33, 34, 35, 8, 9, 10] u).put (some 8) v = frAll a0 [27, 28, 29, 30, 31, 32, 26, 33, 34, 35, 8, 9, 10] (frUpd u 8 v) := fun u v => frAll_put v (by decide)
      have E9 : ∀ u, (frAll a0 [27, 28, 29, 30, 31, 32, 26, 33, 34, 35, 8, 9, 10] u).tmps.getD 9 undef = u 9 := fun u => frAll_eval (by decide) (by rw [hsz]; decide)
      have P9 : ∀ u v, (frAll a0 [27, 28, 29, 30, 31, 32, 26, 33, 34, 35, 8, 9, 10] u).put (some 9) v = frAll a0 [27, 28, 29, 30, 31, 32, 26, 33, 34, 35, 8, 9, 10] (frUpd u 9 v) := fun u v => frAll_put v (by decide)
      have E10 : ∀ u, (frAll a0 [27, 28, 29, 30, 31, 32, 26, 33, 34, 35, 8, 9, 10] u).tmps.getD 10 undef = u 10 := fun u => frAll_eval (by decide) (by rw [hsz]; decide)
      have P10 : ∀ u v, (frAll a0 [27, 28, 29, 30, 31, 32, 26, 33, 34, 35, 8, 9, 10] u).put (some 10) v = frAll a0 [27, 28, 29, 30, 31, 32, 26, 33, 34, 35, 8, 9, 10] (frUpd u 10 v) := fun u v => frAll_put v (by decide)
      replace ha0 := Lib.hid ha0
      refine wp_region_frame [27, 28, 29, 30, 31, 32, 26, 33, 34, 35, 8, 9, 10] (fun D u w => ∃ yC0co yC0cc yC0uo yC0uc yC0vs yC0eo yC0ec yC0ro yC0rc yW0co yW0cc yW0uo yW0uc yW0vs yW0eo yW0ec yW0ro yW0rc gW0 gW1, Hid (Below (wA).heap.size (wA) w) ∧ Hid (D 0 → u 27 = .agg #[x.m.f.c, x.m.f.u, x.m.e, .int .i64 K.calls, x.r]) ∧ Hid (D 1 → u 28 = .agg #[.slice yC0co yC0vs.length yC0cc, .slice yC0uo K.m.f.used.length yC0uc, .slice yC0eo K.m.ents.length yC0ec, .int .i64 (K.calls), .slice yC0ro K.refuse.length yC0rc]) ∧ Hid (D 2 → u 29 = .agg #[.int .i64 p, .int .i64 c, .int .i64 b]) ∧ Hid (D 3 → u 30 = .agg #[.int .i64 p, .int .i64 c, .int .i64 b]) ∧ Hid (D 4 → u 31 = .int .i64 slot) ∧ Hid (D 5 → u 32 = .tuple #[.agg #[.slice yW0co yW0vs.length yW0cc, .slice yW0uo K2.m.f.used.length yW0uc, .slice yW0eo K2.m.ents.length yW0ec, .int .i64 (K2.calls), .slice yW0ro K2.refuse.length yW0rc], .agg #[.int .i64 p, .int .i64 c, .int .i64 b2], .int .i64 code]) ∧ Hid (D 6 → u 26 = .tuple #[.agg #[.slice yW0co yW0vs.length yW0cc, .slice yW0uo K2.m.f.used.length yW0uc, .slice yW0eo K2.m.ents.length yW0ec, .int .i64 (K2.calls), .slice yW0ro K2.refuse.length yW0rc], .agg #[.int .i64 p, .int .i64 c, .int .i64 b2], .int .i64 code]) ∧ Hid (D 7 → u 33 = .agg #[.slice yW0co yW0vs.length yW0cc, .slice yW0uo K2.m.f.used.length yW0uc, .slice yW0eo K2.m.ents.length yW0ec, .int .i64 (K2.calls), .slice yW0ro K2.refuse.length yW0rc]) ∧ Hid (D 8 → u 34 = .agg #[.int .i64 p, .int .i64 c, .int .i64 b2]) ∧ Hid (D 9 → u 35 = .int .i64 code) ∧ Hid (D 10 → u 8 = .pointer (some ⟨gW0, 0, none⟩)) ∧ Hid (D 11 → u 9 = .pointer (some ⟨gW1, 0, none⟩)) ∧ Hid (D 14 → u 10 = .int .i64 code) ∧ Hid (D 1 → ¬ D 5 → KOwn (wA.heap.size) w (⟨⟨⟨.slice yC0co yC0vs.length yC0cc, .slice yC0uo K.m.f.used.length yC0uc, yC0vs⟩, .slice yC0eo K.m.ents.length yC0ec⟩, .slice yC0ro K.refuse.length yC0rc⟩ : KV) K) ∧ Hid (D 5 → KOwn (wA.heap.size) w (⟨⟨⟨.slice yW0co yW0vs.length yW0cc, .slice yW0uo K2.m.f.used.length yW0uc, yW0vs⟩, .slice yW0eo K2.m.ents.length yW0ec⟩, .slice yW0ro K2.refuse.length yW0rc⟩ : KV) K2) ∧ Hid (D 10 → wA.heap.size ≤ gW0 ∧ gW0 < w.heap.size) ∧ Hid (D 10 → ¬ D 12 → BoxAt w gW0 [.slice none 0 0, .slice none 0 0, .slice none 0 0, .int .i64 0, .slice none 0 0]) ∧ Hid (D 12 → BoxAt w gW0 [.slice yW0co yW0vs.length yW0cc, .slice yW0uo K2.m.f.used.length yW0uc, .slice yW0eo K2.m.ents.length yW0ec, .int .i64 (K2.calls), .slice yW0ro K2.refuse.length yW0rc]) ∧ Hid (D 10 → D 5 → gW0 ∉ blocks (KV.all (⟨⟨⟨.slice yW0co yW0vs.length yW0cc, .slice yW0uo K2.m.f.used.length yW0uc, yW0vs⟩, .slice yW0eo K2.m.ents.length yW0ec⟩, .slice yW0ro K2.refuse.length yW0rc⟩ : KV))) ∧ Hid (D 11 → wA.heap.size ≤ gW1 ∧ gW1 < w.heap.size) ∧ Hid (D 11 → ¬ D 13 → BoxAt w gW1 [.int .i64 0, .int .i64 0, .int .i64 0]) ∧ Hid (D 13 → BoxAt w gW1 [.int .i64 p, .int .i64 c, .int .i64 b2]) ∧ Hid (D 11 → D 5 → gW1 ∉ blocks (KV.all (⟨⟨⟨.slice yW0co yW0vs.length yW0cc, .slice yW0uo K2.m.f.used.length yW0uc, yW0vs⟩, .slice yW0eo K2.m.ents.length yW0ec⟩, .slice yW0ro K2.refuse.length yW0rc⟩ : KV))) ∧ Hid (D 10 → D 11 → gW0 ≠ gW1)) (by kernel_rfl) (by kernel_rfl) ?_ ?_ ?_
      · exact ⟨default, default, default, default, default, default, default, default, default, default, default, default, default, default, default, default, default, default, default, default, Lib.hid (by exact bel), Lib.hid (fun h => h.elim), Lib.hid (fun h => h.elim), Lib.hid (fun h => h.elim), Lib.hid (fun h => h.elim), Lib.hid (fun h => h.elim), Lib.hid (fun h => h.elim), Lib.hid (fun h => h.elim), Lib.hid (fun h => h.elim), Lib.hid (fun h => h.elim), Lib.hid (fun h => h.elim), Lib.hid (fun h => h.elim), Lib.hid (fun h => h.elim), Lib.hid (fun h => h.elim), Lib.hid (fun h => h.elim), Lib.hid (fun h => h.elim), Lib.hid (fun h => h.elim), Lib.hid (fun h => h.elim), Lib.hid (fun h => h.elim), Lib.hid (fun h => h.elim), Lib.hid (fun h => h.elim), Lib.hid (fun h => h.elim), Lib.hid (fun h => h.elim), Lib.hid (fun h => h.elim), Lib.hid (fun h => h.elim)⟩
      · rintro D u w ⟨yC0co, yC0cc, yC0uo, yC0uc, yC0vs, yC0eo, yC0ec, yC0ro, yC0rc, yW0co, yW0cc, yW0uo, yW0uc, yW0vs, yW0eo, yW0ec, yW0ro, yW0rc, gW0, gW1, HBW, U0, U1, U2, U3, U4, U5, U6, U7, U8, U9, U10, U11, U14, OC0, OW0, A2gW0, A3gW0, A4gW0, A5gW0W0, A2gW1, A3gW1, A4gW1, A5gW1W0, A6gW0gW1⟩ hcl i hi hn hw
        have hi9 : i < 15 := hi; clear hi
        replace hcl := Lib.hid hcl; replace hw := Lib.hid hw
        have hbw := HBW.out; have hlw := hbw.size; rw [hps] at hlw
        rcases (by omega : i = 0 ∨ i = 1 ∨ i = 2 ∨ i = 3 ∨ i = 4 ∨ i = 5 ∨ i = 6 ∨ i = 7 ∨ i = 8 ∨ i = 9 ∨ i = 10 ∨ i = 11 ∨ i = 12 ∨ i = 13 ∨ i = 14) with rfl | rfl | rfl | rfl | rfl | rfl | rfl | rfl | rfl | rfl | rfl | rfl | rfl | rfl | rfl
        · skip
          refine wpOp_step (o := _) rfl (fun KK hKK => ?_)
          rw [if_pos (wanted_nil _ rfl)]
          have E3_ := X3 u
          have bx := BP0.out.below hbw
          have c0 := (bx.cells 0 _ rfl).1
          have c1 := (bx.cells 1 _ rfl).1
          have c2 := (bx.cells 2 _ rfl).1
          have c3 := (bx.cells 3 _ rfl).1
          have c4 := (bx.cells 4 _ rfl).1
          skip
          go_simp
          exact hKK _ _ ⟨_, P27 u _, yC0co, yC0cc, yC0uo, yC0uc, yC0vs, yC0eo, yC0ec, yC0ro, yC0rc, yW0co, yW0cc, yW0uo, yW0uc, yW0vs, yW0eo, yW0ec, yW0ro, yW0rc, gW0, gW1, HBW, Lib.hid (fun h0 => frUpd_self), Lib.hid (fun h0 => (frUpd_ne (by decide)).trans (U1.out (addD_of h0 (by decide)))), Lib.hid (fun h0 => (frUpd_ne (by decide)).trans (U2.out (addD_of h0 (by decide)))), Lib.hid (fun h0 => (frUpd_ne (by decide)).trans (U3.out (addD_of h0 (by decide)))), Lib.hid (fun h0 => (frUpd_ne (by decide)).trans (U4.out (addD_of h0 (by decide)))), Lib.hid (fun h0 => (frUpd_ne (by decide)).trans (U5.out (addD_of h0 (by decide)))), Lib.hid (fun h0 => (frUpd_ne (by decide)).trans (U6.out (addD_of h0 (by decide)))), Lib.hid (fun h0 => (frUpd_ne (by decide)).trans (U7.out (addD_of h0 (by decide)))), Lib.hid (fun h0 => (frUpd_ne (by decide)).trans (U8.out (addD_of h0 (by decide)))), Lib.hid (fun h0 => (frUpd_ne (by decide)).trans (U9.out (addD_of h0 (by decide)))), Lib.hid (fun h0 => (frUpd_ne (by decide)).trans (U10.out (addD_of h0 (by decide)))), Lib.hid (fun h0 => (frUpd_ne (by decide)).trans (U11.out (addD_of h0 (by decide)))), Lib.hid (fun h0 => (frUpd_ne (by decide)).trans (U14.out (addD_of h0 (by decide)))), Lib.hid (fun h0 m0 => (OC0.out (addD_of h0 (by decide)) (fun x => m0 (addD_mem x)))), Lib.hid (fun h0 => (OW0.out (addD_of h0 (by decide)))), Lib.hid (fun h0 => (A2gW0.out (addD_of h0 (by decide)))), Lib.hid (fun h0 m0 => (A3gW0.out (addD_of h0 (by decide)) (fun x => m0 (addD_mem x)))), Lib.hid (fun h0 => (A4gW0.out (addD_of h0 (by decide)))), Lib.hid (fun h0 h1 => (A5gW0W0.out (addD_of h0 (by decide)) (addD_of h1 (by decide)))), Lib.hid (fun h0 => (A2gW1.out (addD_of h0 (by decide)))), Lib.hid (fun h0 m0 => (A3gW1.out (addD_of h0 (by decide)) (fun x => m0 (addD_mem x)))), Lib.hid (fun h0 => (A4gW1.out (addD_of h0 (by decide)))), Lib.hid (fun h0 h1 => (A5gW1W0.out (addD_of h0 (by decide)) (addD_of h1 (by decide)))), Lib.hid (fun h0 h1 => (A6gW0gW1.out (addD_of h0 (by decide)) (addD_of h1 (by decide))))⟩
        · skip
          refine wpOp_step (o := _) rfl (fun KK hKK => ?_)
          rw [if_pos (wanted_nil _ rfl)]
          have e27 := U0.out (hw.out 0 (by kernel_rfl)); have E27_ := (E27 u).trans e27
          skip
          go_simp
          refine (l_toKernel x K (by omega) _ (HA0.out.below hbw)).mono ?_; rintro e w2 ⟨yC0, rfl, OC0, hb⟩
          obtain ⟨yC0co, yC0cc, yC0uo, yC0uc, yC0vs, yC0eo, yC0ec, yC0ro, yC0rc, rfl⟩ := KOwn.shapes OC0
          simp only [KV.val]
          have hbn := hb.size
          try dsimp only
          exact hKK _ _ ⟨_, P28 u _, yC0co, yC0cc, yC0uo, yC0uc, yC0vs, yC0eo, yC0ec, yC0ro, yC0rc, yW0co, yW0cc, yW0uo, yW0uc, yW0vs, yW0eo, yW0ec, yW0ro, yW0rc, gW0, gW1, (Lib.hid (hbw.trans (hb.mono (by rw [hps]; omega)))), Lib.hid (fun h0 => (frUpd_ne (by decide)).trans (U0.out (addD_of h0 (by decide)))), Lib.hid (fun h0 => frUpd_self), Lib.hid (fun h0 => (frUpd_ne (by decide)).trans (U2.out (addD_of h0 (by decide)))), Lib.hid (fun h0 => (frUpd_ne (by decide)).trans (U3.out (addD_of h0 (by decide)))), Lib.hid (fun h0 => (frUpd_ne (by decide)).trans (U4.out (addD_of h0 (by decide)))), Lib.hid (fun h0 => (frUpd_ne (by decide)).trans (U5.out (addD_of h0 (by decide)))), Lib.hid (fun h0 => (frUpd_ne (by decide)).trans (U6.out (addD_of h0 (by decide)))), Lib.hid (fun h0 => (frUpd_ne (by decide)).trans (U7.out (addD_of h0 (by decide)))), Lib.hid (fun h0 => (frUpd_ne (by decide)).trans (U8.out (addD_of h0 (by decide)))), Lib.hid (fun h0 => (frUpd_ne (by decide)).trans (U9.out (addD_of h0 (by decide)))), Lib.hid (fun h0 => (frUpd_ne (by decide)).trans (U10.out (addD_of h0 (by decide)))), Lib.hid (fun h0 => (frUpd_ne (by decide)).trans (U11.out (addD_of h0 (by decide)))), Lib.hid (fun h0 => (frUpd_ne (by decide)).trans (U14.out (addD_of h0 (by decide)))), Lib.hid (fun h0 m0 => KOwn.mono OC0 (by omega)), Lib.hid (fun h0 => (OW0.out (addD_of h0 (by decide))).below hb), Lib.hid (fun h0 => ⟨(A2gW0.out (addD_of h0 (by decide))).1, Nat.lt_of_lt_of_le (A2gW0.out (addD_of h0 (by decide))).2 hb.size⟩), Lib.hid (fun h0 m0 => (A3gW0.out (addD_of h0 (by decide)) (fun x => m0 (addD_mem x))).below hb), Lib.hid (fun h0 => (A4gW0.out (addD_of h0 (by decide))).below hb), Lib.hid (fun h0 h1 => (A5gW0W0.out (addD_of h0 (by decide)) (addD_of h1 (by decide)))), Lib.hid (fun h0 => ⟨(A2gW1.out (addD_of h0 (by decide))).1, Nat.lt_of_lt_of_le (A2gW1.out (addD_of h0 (by decide))).2 hb.size⟩), Lib.hid (fun h0 m0 => (A3gW1.out (addD_of h0 (by decide)) (fun x => m0 (addD_mem x))).below hb), Lib.hid (fun h0 => (A4gW1.out (addD_of h0 (by decide))).below hb), Lib.hid (fun h0 h1 => (A5gW1W0.out (addD_of h0 (by decide)) (addD_of h1 (by decide)))), Lib.hid (fun h0 h1 => (A6gW0gW1.out (addD_of h0 (by decide)) (addD_of h1 (by decide))))⟩
        · skip
          refine wpOp_step (o := _) rfl (fun KK hKK => ?_)
          rw [if_pos (wanted_nil _ rfl)]
          have E4_ := X4 u
          have bx := BP1.out.below hbw
          have c0 := (bx.cells 0 _ rfl).1
          have c1 := (bx.cells 1 _ rfl).1
          have c2 := (bx.cells 2 _ rfl).1
          skip
          go_simp
          exact hKK _ _ ⟨_, P29 u _, yC0co, yC0cc, yC0uo, yC0uc, yC0vs, yC0eo, yC0ec, yC0ro, yC0rc, yW0co, yW0cc, yW0uo, yW0uc, yW0vs, yW0eo, yW0ec, yW0ro, yW0rc, gW0, gW1, HBW, Lib.hid (fun h0 => (frUpd_ne (by decide)).trans (U0.out (addD_of h0 (by decide)))), Lib.hid (fun h0 => (frUpd_ne (by decide)).trans (U1.out (addD_of h0 (by decide)))), Lib.hid (fun h0 => frUpd_self), Lib.hid (fun h0 => (frUpd_ne (by decide)).trans (U3.out (addD_of h0 (by decide)))), Lib.hid (fun h0 => (frUpd_ne (by decide)).trans (U4.out (addD_of h0 (by decide)))), Lib.hid (fun h0 => (frUpd_ne (by decide)).trans (U5.out (addD_of h0 (by decide)))), Lib.hid (fun h0 => (frUpd_ne (by decide)).trans (U6.out (addD_of h0 (by decide)))), Lib.hid (fun h0 => (frUpd_ne (by decide)).trans (U7.out (addD_of h0 (by decide)))), Lib.hid (fun h0 => (frUpd_ne (by decide)).trans (U8.out (addD_of h0 (by decide)))), Lib.hid (fun h0 => (frUpd_ne (by decide)).trans (U9.out (addD_of h0 (by decide)))), Lib.hid (fun h0 => (frUpd_ne (by decide)).trans (U10.out (addD_of h0 (by decide)))), Lib.hid (fun h0 => (frUpd_ne (by decide)).trans (U11.out (addD_of h0 (by decide)))), Lib.hid (fun h0 => (frUpd_ne (by decide)).trans (U14.out (addD_of h0 (by decide)))), Lib.hid (fun h0 m0 => (OC0.out (addD_of h0 (by decide)) (fun x => m0 (addD_mem x)))), Lib.hid (fun h0 => (OW0.out (addD_of h0 (by decide)))), Lib.hid (fun h0 => (A2gW0.out (addD_of h0 (by decide)))), Lib.hid (fun h0 m0 => (A3gW0.out (addD_of h0 (by decide)) (fun x => m0 (addD_mem x)))), Lib.hid (fun h0 => (A4gW0.out (addD_of h0 (by decide)))), Lib.hid (fun h0 h1 => (A5gW0W0.out (addD_of h0 (by decide)) (addD_of h1 (by decide)))), Lib.hid (fun h0 => (A2gW1.out (addD_of h0 (by decide)))), Lib.hid (fun h0 m0 => (A3gW1.out (addD_of h0 (by decide)) (fun x => m0 (addD_mem x)))), Lib.hid (fun h0 => (A4gW1.out (addD_of h0 (by decide)))), Lib.hid (fun h0 h1 => (A5gW1W0.out (addD_of h0 (by decide)) (addD_of h1 (by decide)))), Lib.hid (fun h0 h1 => (A6gW0gW1.out (addD_of h0 (by decide)) (addD_of h1 (by decide))))⟩
        · skip
          refine wpOp_step (o := _) rfl (fun KK hKK => ?_)
          rw [if_pos (wanted_nil _ rfl)]
          have e29 := U2.out (hw.out 2 (by kernel_rfl)); have E29_ := (E29 u).trans e29
          skip
          go_simp
          refine (l_toSpan p c b _).mono ?_; rintro e w2 ⟨rfl, hb⟩
          have hbn := hb.size
          try dsimp only
          exact hKK _ _ ⟨_, P30 u _, yC0co, yC0cc, yC0uo, yC0uc, yC0vs, yC0eo, yC0ec, yC0ro, yC0rc, yW0co, yW0cc, yW0uo, yW0uc, yW0vs, yW0eo, yW0ec, yW0ro, yW0rc, gW0, gW1, (Lib.hid (hbw.trans (hb.mono (by rw [hps]; omega)))), Lib.hid (fun h0 => (frUpd_ne (by decide)).trans (U0.out (addD_of h0 (by decide)))), Lib.hid (fun h0 => (frUpd_ne (by decide)).trans (U1.out (addD_of h0 (by decide)))), Lib.hid (fun h0 => (frUpd_ne (by decide)).trans (U2.out (addD_of h0 (by decide)))), Lib.hid (fun h0 => frUpd_self), Lib.hid (fun h0 => (frUpd_ne (by decide)).trans (U4.out (addD_of h0 (by decide)))), Lib.hid (fun h0 => (frUpd_ne (by decide)).trans (U5.out (addD_of h0 (by decide)))), Lib.hid (fun h0 => (frUpd_ne (by decide)).trans (U6.out (addD_of h0 (by decide)))), Lib.hid (fun h0 => (frUpd_ne (by decide)).trans (U7.out (addD_of h0 (by decide)))), Lib.hid (fun h0 => (frUpd_ne (by decide)).trans (U8.out (addD_of h0 (by decide)))), Lib.hid (fun h0 => (frUpd_ne (by decide)).trans (U9.out (addD_of h0 (by decide)))), Lib.hid (fun h0 => (frUpd_ne (by decide)).trans (U10.out (addD_of h0 (by decide)))), Lib.hid (fun h0 => (frUpd_ne (by decide)).trans (U11.out (addD_of h0 (by decide)))), Lib.hid (fun h0 => (frUpd_ne (by decide)).trans (U14.out (addD_of h0 (by decide)))), Lib.hid (fun h0 m0 => (OC0.out (addD_of h0 (by decide)) (fun x => m0 (addD_mem x))).below hb), Lib.hid (fun h0 => (OW0.out (addD_of h0 (by decide))).below hb), Lib.hid (fun h0 => ⟨(A2gW0.out (addD_of h0 (by decide))).1, Nat.lt_of_lt_of_le (A2gW0.out (addD_of h0 (by decide))).2 hb.size⟩), Lib.hid (fun h0 m0 => (A3gW0.out (addD_of h0 (by decide)) (fun x => m0 (addD_mem x))).below hb), Lib.hid (fun h0 => (A4gW0.out (addD_of h0 (by decide))).below hb), Lib.hid (fun h0 h1 => (A5gW0W0.out (addD_of h0 (by decide)) (addD_of h1 (by decide)))), Lib.hid (fun h0 => ⟨(A2gW1.out (addD_of h0 (by decide))).1, Nat.lt_of_lt_of_le (A2gW1.out (addD_of h0 (by decide))).2 hb.size⟩), Lib.hid (fun h0 m0 => (A3gW1.out (addD_of h0 (by decide)) (fun x => m0 (addD_mem x))).below hb), Lib.hid (fun h0 => (A4gW1.out (addD_of h0 (by decide))).below hb), Lib.hid (fun h0 h1 => (A5gW1W0.out (addD_of h0 (by decide)) (addD_of h1 (by decide)))), Lib.hid (fun h0 h1 => (A6gW0gW1.out (addD_of h0 (by decide)) (addD_of h1 (by decide))))⟩
        · skip
          refine wpOp_step (o := _) rfl (fun KK hKK => ?_)
          rw [if_pos (wanted_nil _ rfl)]
          have E2_ := X2 u
          skip
          go_simp
          exact hKK _ _ ⟨_, P31 u _, yC0co, yC0cc, yC0uo, yC0uc, yC0vs, yC0eo, yC0ec, yC0ro, yC0rc, yW0co, yW0cc, yW0uo, yW0uc, yW0vs, yW0eo, yW0ec, yW0ro, yW0rc, gW0, gW1, HBW, Lib.hid (fun h0 => (frUpd_ne (by decide)).trans (U0.out (addD_of h0 (by decide)))), Lib.hid (fun h0 => (frUpd_ne (by decide)).trans (U1.out (addD_of h0 (by decide)))), Lib.hid (fun h0 => (frUpd_ne (by decide)).trans (U2.out (addD_of h0 (by decide)))), Lib.hid (fun h0 => (frUpd_ne (by decide)).trans (U3.out (addD_of h0 (by decide)))), Lib.hid (fun h0 => frUpd_self), Lib.hid (fun h0 => (frUpd_ne (by decide)).trans (U5.out (addD_of h0 (by decide)))), Lib.hid (fun h0 => (frUpd_ne (by decide)).trans (U6.out (addD_of h0 (by decide)))), Lib.hid (fun h0 => (frUpd_ne (by decide)).trans (U7.out (addD_of h0 (by decide)))), Lib.hid (fun h0 => (frUpd_ne (by decide)).trans (U8.out (addD_of h0 (by decide)))), Lib.hid (fun h0 => (frUpd_ne (by decide)).trans (U9.out (addD_of h0 (by decide)))), Lib.hid (fun h0 => (frUpd_ne (by decide)).trans (U10.out (addD_of h0 (by decide)))), Lib.hid (fun h0 => (frUpd_ne (by decide)).trans (U11.out (addD_of h0 (by decide)))), Lib.hid (fun h0 => (frUpd_ne (by decide)).trans (U14.out (addD_of h0 (by decide)))), Lib.hid (fun h0 m0 => (OC0.out (addD_of h0 (by decide)) (fun x => m0 (addD_mem x)))), Lib.hid (fun h0 => (OW0.out (addD_of h0 (by decide)))), Lib.hid (fun h0 => (A2gW0.out (addD_of h0 (by decide)))), Lib.hid (fun h0 m0 => (A3gW0.out (addD_of h0 (by decide)) (fun x => m0 (addD_mem x)))), Lib.hid (fun h0 => (A4gW0.out (addD_of h0 (by decide)))), Lib.hid (fun h0 h1 => (A5gW0W0.out (addD_of h0 (by decide)) (addD_of h1 (by decide)))), Lib.hid (fun h0 => (A2gW1.out (addD_of h0 (by decide)))), Lib.hid (fun h0 m0 => (A3gW1.out (addD_of h0 (by decide)) (fun x => m0 (addD_mem x)))), Lib.hid (fun h0 => (A4gW1.out (addD_of h0 (by decide)))), Lib.hid (fun h0 h1 => (A5gW1W0.out (addD_of h0 (by decide)) (addD_of h1 (by decide)))), Lib.hid (fun h0 h1 => (A6gW0gW1.out (addD_of h0 (by decide)) (addD_of h1 (by decide))))⟩
        · skip
          refine wpOp_step (o := _) rfl (fun KK hKK => ?_)
          rw [if_pos (wanted_nil _ rfl)]
          have e28 := U1.out (hw.out 1 (by kernel_rfl)); have E28_ := (E28 u).trans e28
          have e30 := U3.out (hw.out 3 (by kernel_rfl)); have E30_ := (E30 u).trans e30
          have e31 := U4.out (hw.out 4 (by kernel_rfl)); have E31_ := (E31 u).trans e31
          skip
          go_simp
          refine (HS.out _ _ (KOwn.at (OC0.out (hw.out 1 (by kernel_rfl)) hn))).mono ?_; rintro e w2 ⟨yW0, rfl, OW0, hb⟩
          obtain ⟨yW0co, yW0cc, yW0uo, yW0uc, yW0vs, yW0eo, yW0ec, yW0ro, yW0rc, rfl⟩ := KOwn.shapes OW0
          simp only [KV.val]
          have hbn := hb.size
          try dsimp only
          exact hKK _ _ ⟨_, P32 u _, yC0co, yC0cc, yC0uo, yC0uc, yC0vs, yC0eo, yC0ec, yC0ro, yC0rc, yW0co, yW0cc, yW0uo, yW0uc, yW0vs, yW0eo, yW0ec, yW0ro, yW0rc, gW0, gW1, (Lib.hid (hbw.trans (hb.mono (by rw [hps]; omega)))), Lib.hid (fun h0 => (frUpd_ne (by decide)).trans (U0.out (addD_of h0 (by decide)))), Lib.hid (fun h0 => (frUpd_ne (by decide)).trans (U1.out (addD_of h0 (by decide)))), Lib.hid (fun h0 => (frUpd_ne (by decide)).trans (U2.out (addD_of h0 (by decide)))), Lib.hid (fun h0 => (frUpd_ne (by decide)).trans (U3.out (addD_of h0 (by decide)))), Lib.hid (fun h0 => (frUpd_ne (by decide)).trans (U4.out (addD_of h0 (by decide)))), Lib.hid (fun h0 => frUpd_self), Lib.hid (fun h0 => absurd (hcl.out 6 5 (by kernel_rfl) (addD_of h0 (by decide))) hn), Lib.hid (fun h0 => absurd (hcl.out 6 5 (by kernel_rfl) (hcl.out 7 6 (by kernel_rfl) (addD_of h0 (by decide)))) hn), Lib.hid (fun h0 => (frUpd_ne (by decide)).trans (U8.out (addD_of h0 (by decide)))), Lib.hid (fun h0 => (frUpd_ne (by decide)).trans (U9.out (addD_of h0 (by decide)))), Lib.hid (fun h0 => (frUpd_ne (by decide)).trans (U10.out (addD_of h0 (by decide)))), Lib.hid (fun h0 => (frUpd_ne (by decide)).trans (U11.out (addD_of h0 (by decide)))), Lib.hid (fun h0 => (frUpd_ne (by decide)).trans (U14.out (addD_of h0 (by decide)))), Lib.hid (fun h0 m0 => absurd (addD_self 5) m0), Lib.hid (fun h0 => KOwn.mono OW0 (by omega)), Lib.hid (fun h0 => ⟨(A2gW0.out (addD_of h0 (by decide))).1, Nat.lt_of_lt_of_le (A2gW0.out (addD_of h0 (by decide))).2 hb.size⟩), Lib.hid (fun h0 m0 => (A3gW0.out (addD_of h0 (by decide)) (fun x => m0 (addD_mem x))).below hb), Lib.hid (fun h0 => absurd (hcl.out 6 5 (by kernel_rfl) (hcl.out 7 6 (by kernel_rfl) (hcl.out 12 7 (by kernel_rfl) (addD_of h0 (by decide))))) hn), Lib.hid (fun h0 h1 => fun hm => Nat.lt_irrefl _ (Nat.lt_of_lt_of_le (A2gW0.out (addD_of h0 (by decide))).2 (((OW0).lts) _ hm).1)), Lib.hid (fun h0 => ⟨(A2gW1.out (addD_of h0 (by decide))).1, Nat.lt_of_lt_of_le (A2gW1.out (addD_of h0 (by decide))).2 hb.size⟩), Lib.hid (fun h0 m0 => (A3gW1.out (addD_of h0 (by decide)) (fun x => m0 (addD_mem x))).below hb), Lib.hid (fun h0 => (A4gW1.out (addD_of h0 (by decide))).below hb), Lib.hid (fun h0 h1 => fun hm => Nat.lt_irrefl _ (Nat.lt_of_lt_of_le (A2gW1.out (addD_of h0 (by decide))).2 (((OW0).lts) _ hm).1)), Lib.hid (fun h0 h1 => (A6gW0gW1.out (addD_of h0 (by decide)) (addD_of h1 (by decide))))⟩
        · skip
          refine wpOp_step (o := _) rfl (fun KK hKK => ?_)
          rw [if_pos (wanted_nil _ rfl)]
          have e32 := U5.out (hw.out 5 (by kernel_rfl)); have E32_ := (E32 u).trans e32
          skip
          go_simp
          exact hKK _ _ ⟨_, P26 u _, yC0co, yC0cc, yC0uo, yC0uc, yC0vs, yC0eo, yC0ec, yC0ro, yC0rc, yW0co, yW0cc, yW0uo, yW0uc, yW0vs, yW0eo, yW0ec, yW0ro, yW0rc, gW0, gW1, HBW, Lib.hid (fun h0 => (frUpd_ne (by decide)).trans (U0.out (addD_of h0 (by decide)))), Lib.hid (fun h0 => (frUpd_ne (by decide)).trans (U1.out (addD_of h0 (by decide)))), Lib.hid (fun h0 => (frUpd_ne (by decide)).trans (U2.out (addD_of h0 (by decide)))), Lib.hid (fun h0 => (frUpd_ne (by decide)).trans (U3.out (addD_of h0 (by decide)))), Lib.hid (fun h0 => (frUpd_ne (by decide)).trans (U4.out (addD_of h0 (by decide)))), Lib.hid (fun h0 => (frUpd_ne (by decide)).trans (U5.out (addD_of h0 (by decide)))), Lib.hid (fun h0 => frUpd_self), Lib.hid (fun h0 => (frUpd_ne (by decide)).trans (U7.out (addD_of h0 (by decide)))), Lib.hid (fun h0 => (frUpd_ne (by decide)).trans (U8.out (addD_of h0 (by decide)))), Lib.hid (fun h0 => (frUpd_ne (by decide)).trans (U9.out (addD_of h0 (by decide)))), Lib.hid (fun h0 => (frUpd_ne (by decide)).trans (U10.out (addD_of h0 (by decide)))), Lib.hid (fun h0 => (frUpd_ne (by decide)).trans (U11.out (addD_of h0 (by decide)))), Lib.hid (fun h0 => (frUpd_ne (by decide)).trans (U14.out (addD_of h0 (by decide)))), Lib.hid (fun h0 m0 => (OC0.out (addD_of h0 (by decide)) (fun x => m0 (addD_mem x)))), Lib.hid (fun h0 => (OW0.out (addD_of h0 (by decide)))), Lib.hid (fun h0 => (A2gW0.out (addD_of h0 (by decide)))), Lib.hid (fun h0 m0 => (A3gW0.out (addD_of h0 (by decide)) (fun x => m0 (addD_mem x)))), Lib.hid (fun h0 => (A4gW0.out (addD_of h0 (by decide)))), Lib.hid (fun h0 h1 => (A5gW0W0.out (addD_of h0 (by decide)) (addD_of h1 (by decide)))), Lib.hid (fun h0 => (A2gW1.out (addD_of h0 (by decide)))), Lib.hid (fun h0 m0 => (A3gW1.out (addD_of h0 (by decide)) (fun x => m0 (addD_mem x)))), Lib.hid (fun h0 => (A4gW1.out (addD_of h0 (by decide)))), Lib.hid (fun h0 h1 => (A5gW1W0.out (addD_of h0 (by decide)) (addD_of h1 (by decide)))), Lib.hid (fun h0 h1 => (A6gW0gW1.out (addD_of h0 (by decide)) (addD_of h1 (by decide))))⟩
        · skip
          refine wpOp_step (o := _) rfl (fun KK hKK => ?_)
          rw [if_pos (wanted_nil _ rfl)]
          have e26 := U6.out (hw.out 6 (by kernel_rfl)); have E26_ := (E26 u).trans e26
          skip
          go_simp
          exact hKK _ _ ⟨_, P33 u _, yC0co, yC0cc, yC0uo, yC0uc, yC0vs, yC0eo, yC0ec, yC0ro, yC0rc, yW0co, yW0cc, yW0uo, yW0uc, yW0vs, yW0eo, yW0ec, yW0ro, yW0rc, gW0, gW1, HBW, Lib.hid (fun h0 => (frUpd_ne (by decide)).trans (U0.out (addD_of h0 (by decide)))), Lib.hid (fun h0 => (frUpd_ne (by decide)).trans (U1.out (addD_of h0 (by decide)))), Lib.hid (fun h0 => (frUpd_ne (by decide)).trans (U2.out (addD_of h0 (by decide)))), Lib.hid (fun h0 => (frUpd_ne (by decide)).trans (U3.out (addD_of h0 (by decide)))), Lib.hid (fun h0 => (frUpd_ne (by decide)).trans (U4.out (addD_of h0 (by decide)))), Lib.hid (fun h0 => (frUpd_ne (by decide)).trans (U5.out (addD_of h0 (by decide)))), Lib.hid (fun h0 => (frUpd_ne (by decide)).trans (U6.out (addD_of h0 (by decide)))), Lib.hid (fun h0 => frUpd_self), Lib.hid (fun h0 => (frUpd_ne (by decide)).trans (U8.out (addD_of h0 (by decide)))), Lib.hid (fun h0 => (frUpd_ne (by decide)).trans (U9.out (addD_of h0 (by decide)))), Lib.hid (fun h0 => (frUpd_ne (by decide)).trans (U10.out (addD_of h0 (by decide)))), Lib.hid (fun h0 => (frUpd_ne (by decide)).trans (U11.out (addD_of h0 (by decide)))), Lib.hid (fun h0 => (frUpd_ne (by decide)).trans (U14.out (addD_of h0 (by decide)))), Lib.hid (fun h0 m0 => (OC0.out (addD_of h0 (by decide)) (fun x => m0 (addD_mem x)))), Lib.hid (fun h0 => (OW0.out (addD_of h0 (by decide)))), Lib.hid (fun h0 => (A2gW0.out (addD_of h0 (by decide)))), Lib.hid (fun h0 m0 => (A3gW0.out (addD_of h0 (by decide)) (fun x => m0 (addD_mem x)))), Lib.hid (fun h0 => (A4gW0.out (addD_of h0 (by decide)))), Lib.hid (fun h0 h1 => (A5gW0W0.out (addD_of h0 (by decide)) (addD_of h1 (by decide)))), Lib.hid (fun h0 => (A2gW1.out (addD_of h0 (by decide)))), Lib.hid (fun h0 m0 => (A3gW1.out (addD_of h0 (by decide)) (fun x => m0 (addD_mem x)))), Lib.hid (fun h0 => (A4gW1.out (addD_of h0 (by decide)))), Lib.hid (fun h0 h1 => (A5gW1W0.out (addD_of h0 (by decide)) (addD_of h1 (by decide)))), Lib.hid (fun h0 h1 => (A6gW0gW1.out (addD_of h0 (by decide)) (addD_of h1 (by decide))))⟩
        · skip
          refine wpOp_step (o := _) rfl (fun KK hKK => ?_)
          rw [if_pos (wanted_nil _ rfl)]
          have e26 := U6.out (hw.out 6 (by kernel_rfl)); have E26_ := (E26 u).trans e26
          skip
          go_simp
          exact hKK _ _ ⟨_, P34 u _, yC0co, yC0cc, yC0uo, yC0uc, yC0vs, yC0eo, yC0ec, yC0ro, yC0rc, yW0co, yW0cc, yW0uo, yW0uc, yW0vs, yW0eo, yW0ec, yW0ro, yW0rc, gW0, gW1, HBW, Lib.hid (fun h0 => (frUpd_ne (by decide)).trans (U0.out (addD_of h0 (by decide)))), Lib.hid (fun h0 => (frUpd_ne (by decide)).trans (U1.out (addD_of h0 (by decide)))), Lib.hid (fun h0 => (frUpd_ne (by decide)).trans (U2.out (addD_of h0 (by decide)))), Lib.hid (fun h0 => (frUpd_ne (by decide)).trans (U3.out (addD_of h0 (by decide)))), Lib.hid (fun h0 => (frUpd_ne (by decide)).trans (U4.out (addD_of h0 (by decide)))), Lib.hid (fun h0 => (frUpd_ne (by decide)).trans (U5.out (addD_of h0 (by decide)))), Lib.hid (fun h0 => (frUpd_ne (by decide)).trans (U6.out (addD_of h0 (by decide)))), Lib.hid (fun h0 => (frUpd_ne (by decide)).trans (U7.out (addD_of h0 (by decide)))), Lib.hid (fun h0 => frUpd_self), Lib.hid (fun h0 => (frUpd_ne (by decide)).trans (U9.out (addD_of h0 (by decide)))), Lib.hid (fun h0 => (frUpd_ne (by decide)).trans (U10.out (addD_of h0 (by decide)))), Lib.hid (fun h0 => (frUpd_ne (by decide)).trans (U11.out (addD_of h0 (by decide)))), Lib.hid (fun h0 => (frUpd_ne (by decide)).trans (U14.out (addD_of h0 (by decide)))), Lib.hid (fun h0 m0 => (OC0.out (addD_of h0 (by decide)) (fun x => m0 (addD_mem x)))), Lib.hid (fun h0 => (OW0.out (addD_of h0 (by decide)))), Lib.hid (fun h0 => (A2gW0.out (addD_of h0 (by decide)))), Lib.hid (fun h0 m0 => (A3gW0.out (addD_of h0 (by decide)) (fun x => m0 (addD_mem x)))), Lib.hid (fun h0 => (A4gW0.out (addD_of h0 (by decide)))), Lib.hid (fun h0 h1 => (A5gW0W0.out (addD_of h0 (by decide)) (addD_of h1 (by decide)))), Lib.hid (fun h0 => (A2gW1.out (addD_of h0 (by decide)))), Lib.hid (fun h0 m0 => (A3gW1.out (addD_of h0 (by decide)) (fun x => m0 (addD_mem x)))), Lib.hid (fun h0 => (A4gW1.out (addD_of h0 (by decide)))), Lib.hid (fun h0 h1 => (A5gW1W0.out (addD_of h0 (by decide)) (addD_of h1 (by decide)))), Lib.hid (fun h0 h1 => (A6gW0gW1.out (addD_of h0 (by decide)) (addD_of h1 (by decide))))⟩
        · skip
          refine wpOp_step (o := _) rfl (fun KK hKK => ?_)
          rw [if_pos (wanted_nil _ rfl)]
          have e26 := U6.out (hw.out 6 (by kernel_rfl)); have E26_ := (E26 u).trans e26
          skip
          go_simp
          exact hKK _ _ ⟨_, P35 u _, yC0co, yC0cc, yC0uo, yC0uc, yC0vs, yC0eo, yC0ec, yC0ro, yC0rc, yW0co, yW0cc, yW0uo, yW0uc, yW0vs, yW0eo, yW0ec, yW0ro, yW0rc, gW0, gW1, HBW, Lib.hid (fun h0 => (frUpd_ne (by decide)).trans (U0.out (addD_of h0 (by decide)))), Lib.hid (fun h0 => (frUpd_ne (by decide)).trans (U1.out (addD_of h0 (by decide)))), Lib.hid (fun h0 => (frUpd_ne (by decide)).trans (U2.out (addD_of h0 (by decide)))), Lib.hid (fun h0 => (frUpd_ne (by decide)).trans (U3.out (addD_of h0 (by decide)))), Lib.hid (fun h0 => (frUpd_ne (by decide)).trans (U4.out (addD_of h0 (by decide)))), Lib.hid (fun h0 => (frUpd_ne (by decide)).trans (U5.out (addD_of h0 (by decide)))), Lib.hid (fun h0 => (frUpd_ne (by decide)).trans (U6.out (addD_of h0 (by decide)))), Lib.hid (fun h0 => (frUpd_ne (by decide)).trans (U7.out (addD_of h0 (by decide)))), Lib.hid (fun h0 => (frUpd_ne (by decide)).trans (U8.out (addD_of h0 (by decide)))), Lib.hid (fun h0 => frUpd_self), Lib.hid (fun h0 => (frUpd_ne (by decide)).trans (U10.out (addD_of h0 (by decide)))), Lib.hid (fun h0 => (frUpd_ne (by decide)).trans (U11.out (addD_of h0 (by decide)))), Lib.hid (fun h0 => (frUpd_ne (by decide)).trans (U14.out (addD_of h0 (by decide)))), Lib.hid (fun h0 m0 => (OC0.out (addD_of h0 (by decide)) (fun x => m0 (addD_mem x)))), Lib.hid (fun h0 => (OW0.out (addD_of h0 (by decide)))), Lib.hid (fun h0 => (A2gW0.out (addD_of h0 (by decide)))), Lib.hid (fun h0 m0 => (A3gW0.out (addD_of h0 (by decide)) (fun x => m0 (addD_mem x)))), Lib.hid (fun h0 => (A4gW0.out (addD_of h0 (by decide)))), Lib.hid (fun h0 h1 => (A5gW0W0.out (addD_of h0 (by decide)) (addD_of h1 (by decide)))), Lib.hid (fun h0 => (A2gW1.out (addD_of h0 (by decide)))), Lib.hid (fun h0 m0 => (A3gW1.out (addD_of h0 (by decide)) (fun x => m0 (addD_mem x)))), Lib.hid (fun h0 => (A4gW1.out (addD_of h0 (by decide)))), Lib.hid (fun h0 h1 => (A5gW1W0.out (addD_of h0 (by decide)) (addD_of h1 (by decide)))), Lib.hid (fun h0 h1 => (A6gW0gW1.out (addD_of h0 (by decide)) (addD_of h1 (by decide))))⟩
        · skip
          refine wpOp_step (o := _) rfl (fun KK hKK => ?_)
          rw [if_pos (wanted_nil _ rfl)]
          skip
          go_simp
          have hb : Below w.heap.size w (w.alloc (.cells #[.slice none 0 0, .slice none 0 0, .slice none 0 0, .int .i64 0, .slice none 0 0] 44)) := (Below.refl _ w).alloc (Nat.le_refl _) (.cells #[.slice none 0 0, .slice none 0 0, .slice none 0 0, .int .i64 0, .slice none 0 0] 44)
          have hbn : w.heap.size < (w.alloc (.cells #[.slice none 0 0, .slice none 0 0, .slice none 0 0, .int .i64 0, .slice none 0 0] 44)).heap.size := by rw [World.size_alloc]; omega
          have BN : BoxAt (w.alloc (.cells #[.slice none 0 0, .slice none 0 0, .slice none 0 0, .int .i64 0, .slice none 0 0] 44)) w.heap.size [.slice none 0 0, .slice none 0 0, .slice none 0 0, .int .i64 0, .slice none 0 0] := (BoxAt.snoc (BoxAt.snoc (BoxAt.snoc (BoxAt.snoc (BoxAt.snoc (BoxAt.nil (w := (w.alloc (.cells #[.slice none 0 0, .slice none 0 0, .slice none 0 0, .int .i64 0, .slice none 0 0] 44))) (g := w.heap.size) (by go_simp)) (v := .slice none 0 0) (i := 0) rfl (by go_simp) (by go_simp)) (v := .slice none 0 0) (i := 1) rfl (by go_simp) (by go_simp)) (v := .slice none 0 0) (i := 2) rfl (by go_simp) (by go_simp)) (v := .int .i64 0) (i := 3) rfl (by go_simp) (by go_simp)) (v := .slice none 0 0) (i := 4) rfl (by go_simp) (by go_simp))
          exact hKK _ _ ⟨_, P8 u _, yC0co, yC0cc, yC0uo, yC0uc, yC0vs, yC0eo, yC0ec, yC0ro, yC0rc, yW0co, yW0cc, yW0uo, yW0uc, yW0vs, yW0eo, yW0ec, yW0ro, yW0rc, w.heap.size, gW1, (Lib.hid (hbw.trans (hb.mono (by rw [hps]; omega)))), Lib.hid (fun h0 => (frUpd_ne (by decide)).trans (U0.out (addD_of h0 (by decide)))), Lib.hid (fun h0 => (frUpd_ne (by decide)).trans (U1.out (addD_of h0 (by decide)))), Lib.hid (fun h0 => (frUpd_ne (by decide)).trans (U2.out (addD_of h0 (by decide)))), Lib.hid (fun h0 => (frUpd_ne (by decide)).trans (U3.out (addD_of h0 (by decide)))), Lib.hid (fun h0 => (frUpd_ne (by decide)).trans (U4.out (addD_of h0 (by decide)))), Lib.hid (fun h0 => (frUpd_ne (by decide)).trans (U5.out (addD_of h0 (by decide)))), Lib.hid (fun h0 => (frUpd_ne (by decide)).trans (U6.out (addD_of h0 (by decide)))), Lib.hid (fun h0 => (frUpd_ne (by decide)).trans (U7.out (addD_of h0 (by decide)))), Lib.hid (fun h0 => (frUpd_ne (by decide)).trans (U8.out (addD_of h0 (by decide)))), Lib.hid (fun h0 => (frUpd_ne (by decide)).trans (U9.out (addD_of h0 (by decide)))), Lib.hid (fun h0 => frUpd_self), Lib.hid (fun h0 => (frUpd_ne (by decide)).trans (U11.out (addD_of h0 (by decide)))), Lib.hid (fun h0 => (frUpd_ne (by decide)).trans (U14.out (addD_of h0 (by decide)))), Lib.hid (fun h0 m0 => (OC0.out (addD_of h0 (by decide)) (fun x => m0 (addD_mem x))).below hb), Lib.hid (fun h0 => (OW0.out (addD_of h0 (by decide))).below hb), Lib.hid (fun h0 => ⟨by omega, hbn⟩), Lib.hid (fun h0 m0 => BN), Lib.hid (fun h0 => absurd (hcl.out 12 10 (by kernel_rfl) (addD_of h0 (by decide))) hn), Lib.hid (fun h0 h1 => fun hm => Nat.lt_irrefl _ ((((OW0.out (addD_of h1 (by decide)))).lts) _ hm).2), Lib.hid (fun h0 => ⟨(A2gW1.out (addD_of h0 (by decide))).1, Nat.lt_of_lt_of_le (A2gW1.out (addD_of h0 (by decide))).2 hb.size⟩), Lib.hid (fun h0 m0 => (A3gW1.out (addD_of h0 (by decide)) (fun x => m0 (addD_mem x))).below hb), Lib.hid (fun h0 => (A4gW1.out (addD_of h0 (by decide))).below hb), Lib.hid (fun h0 h1 => (A5gW1W0.out (addD_of h0 (by decide)) (addD_of h1 (by decide)))), Lib.hid (fun h0 h1 => Nat.ne_of_gt (A2gW1.out (addD_of h1 (by decide))).2)⟩
        · skip
          refine wpOp_step (o := _) rfl (fun KK hKK => ?_)
          rw [if_pos (wanted_nil _ rfl)]
          skip
          go_simp
          have hb : Below w.heap.size w (w.alloc (.cells #[.int .i64 0, .int .i64 0, .int .i64 0] 56)) := (Below.refl _ w).alloc (Nat.le_refl _) (.cells #[.int .i64 0, .int .i64 0, .int .i64 0] 56)
          have hbn : w.heap.size < (w.alloc (.cells #[.int .i64 0, .int .i64 0, .int .i64 0] 56)).heap.size := by rw [World.size_alloc]; omega
          have BN : BoxAt (w.alloc (.cells #[.int .i64 0, .int .i64 0, .int .i64 0] 56)) w.heap.size [.int .i64 0, .int .i64 0, .int .i64 0] := (BoxAt.snoc (BoxAt.snoc (BoxAt.snoc (BoxAt.nil (w := (w.alloc (.cells #[.int .i64 0, .int .i64 0, .int .i64 0] 56))) (g := w.heap.size) (by go_simp)) (v := .int .i64 0) (i := 0) rfl (by go_simp) (by go_simp)) (v := .int .i64 0) (i := 1) rfl (by go_simp) (by go_simp)) (v := .int .i64 0) (i := 2) rfl (by go_simp) (by go_simp))
          exact hKK _ _ ⟨_, P9 u _, yC0co, yC0cc, yC0uo, yC0uc, yC0vs, yC0eo, yC0ec, yC0ro, yC0rc, yW0co, yW0cc, yW0uo, yW0uc, yW0vs, yW0eo, yW0ec, yW0ro, yW0rc, gW0, w.heap.size, (Lib.hid (hbw.trans (hb.mono (by rw [hps]; omega)))), Lib.hid (fun h0 => (frUpd_ne (by decide)).trans (U0.out (addD_of h0 (by decide)))), Lib.hid (fun h0 => (frUpd_ne (by decide)).trans (U1.out (addD_of h0 (by decide)))), Lib.hid (fun h0 => (frUpd_ne (by decide)).trans (U2.out (addD_of h0 (by decide)))), Lib.hid (fun h0 => (frUpd_ne (by decide)).trans (U3.out (addD_of h0 (by decide)))), Lib.hid (fun h0 => (frUpd_ne (by decide)).trans (U4.out (addD_of h0 (by decide)))), Lib.hid (fun h0 => (frUpd_ne (by decide)).trans (U5.out (addD_of h0 (by decide)))), Lib.hid (fun h0 => (frUpd_ne (by decide)).trans (U6.out (addD_of h0 (by decide)))), Lib.hid (fun h0 => (frUpd_ne (by decide)).trans (U7.out (addD_of h0 (by decide)))), Lib.hid (fun h0 => (frUpd_ne (by decide)).trans (U8.out (addD_of h0 (by decide)))), Lib.hid (fun h0 => (frUpd_ne (by decide)).trans (U9.out (addD_of h0 (by decide)))), Lib.hid (fun h0 => (frUpd_ne (by decide)).trans (U10.out (addD_of h0 (by decide)))), Lib.hid (fun h0 => frUpd_self), Lib.hid (fun h0 => (frUpd_ne (by decide)).trans (U14.out (addD_of h0 (by decide)))), Lib.hid (fun h0 m0 => (OC0.out (addD_of h0 (by decide)) (fun x => m0 (addD_mem x))).below hb), Lib.hid (fun h0 => (OW0.out (addD_of h0 (by decide))).below hb), Lib.hid (fun h0 => ⟨(A2gW0.out (addD_of h0 (by decide))).1, Nat.lt_of_lt_of_le (A2gW0.out (addD_of h0 (by decide))).2 hb.size⟩), Lib.hid (fun h0 m0 => (A3gW0.out (addD_of h0 (by decide)) (fun x => m0 (addD_mem x))).below hb), Lib.hid (fun h0 => (A4gW0.out (addD_of h0 (by decide))).below hb), Lib.hid (fun h0 h1 => (A5gW0W0.out (addD_of h0 (by decide)) (addD_of h1 (by decide)))), Lib.hid (fun h0 => ⟨by omega, hbn⟩), Lib.hid (fun h0 m0 => BN), Lib.hid (fun h0 => absurd (hcl.out 13 11 (by kernel_rfl) (addD_of h0 (by decide))) hn), Lib.hid (fun h0 h1 => fun hm => Nat.lt_irrefl _ ((((OW0.out (addD_of h1 (by decide)))).lts) _ hm).2), Lib.hid (fun h0 h1 => Nat.ne_of_lt (A2gW0.out (addD_of h0 (by decide))).2)⟩
        · skip
          refine wpOp_step (o := _) rfl (fun KK hKK => ?_)
          rw [if_pos (wanted_nil _ rfl)]
          have e8 := U10.out (hw.out 10 (by kernel_rfl)); have E8_ := (E8 u).trans e8
          have e33 := U7.out (hw.out 7 (by kernel_rfl)); have E33_ := (E33 u).trans e33
          have bx := A3gW0.out (hw.out 10 (by kernel_rfl)) hn
          have c0 := (bx.cells 0 _ rfl).1; have f0 := (bx.cells 0 _ rfl).2
          have c1 := (bx.cells 1 _ rfl).1; have f1 := (bx.cells 1 _ rfl).2
          have c2 := (bx.cells 2 _ rfl).1; have f2 := (bx.cells 2 _ rfl).2
          have c3 := (bx.cells 3 _ rfl).1; have f3 := (bx.cells 3 _ rfl).2
          have c4 := (bx.cells 4 _ rfl).1; have f4 := (bx.cells 4 _ rfl).2
          have hgl := A2gW0.out (hw.out 10 (by kernel_rfl))
          skip
          go_simp
          have ht : Touch [gW0] w (((((w.setCell ⟨gW0, 0, none⟩ (.slice yW0co yW0vs.length yW0cc)).setCell ⟨gW0, 1, none⟩ (.slice yW0uo K2.m.f.used.length yW0uc)).setCell ⟨gW0, 2, none⟩ (.slice yW0eo K2.m.ents.length yW0ec)).setCell ⟨gW0, 3, none⟩ (.int .i64 (K2.calls))).setCell ⟨gW0, 4, none⟩ (.slice yW0ro K2.refuse.length yW0rc)) := touch_bx (touch_bx (touch_bx (touch_bx (touch_bx (Touch.refl [gW0] w)))))
          have hb := ht.toBelow (B := wA.heap.size) (fun g hg => by have := List.mem_singleton.1 hg; omega) (by omega)
          have BN : BoxAt (((((w.setCell ⟨gW0, 0, none⟩ (.slice yW0co yW0vs.length yW0cc)).setCell ⟨gW0, 1, none⟩ (.slice yW0uo K2.m.f.used.length yW0uc)).setCell ⟨gW0, 2, none⟩ (.slice yW0eo K2.m.ents.length yW0ec)).setCell ⟨gW0, 3, none⟩ (.int .i64 (K2.calls))).setCell ⟨gW0, 4, none⟩ (.slice yW0ro K2.refuse.length yW0rc)) gW0 [.slice yW0co yW0vs.length yW0cc, .slice yW0uo K2.m.f.used.length yW0uc, .slice yW0eo K2.m.ents.length yW0ec, .int .i64 (K2.calls), .slice yW0ro K2.refuse.length yW0rc] := (BoxAt.snoc (BoxAt.snoc (BoxAt.snoc (BoxAt.snoc (BoxAt.snoc (BoxAt.nil (w := (((((w.setCell ⟨gW0, 0, none⟩ (.slice yW0co yW0vs.length yW0cc)).setCell ⟨gW0, 1, none⟩ (.slice yW0uo K2.m.f.used.length yW0uc)).setCell ⟨gW0, 2, none⟩ (.slice yW0eo K2.m.ents.length yW0ec)).setCell ⟨gW0, 3, none⟩ (.int .i64 (K2.calls))).setCell ⟨gW0, 4, none⟩ (.slice yW0ro K2.refuse.length yW0rc))) (g := gW0) (by have := ht.size; omega)) (v := .slice yW0co yW0vs.length yW0cc) (i := 0) rfl (by go_simp) (by go_simp)) (v := .slice yW0uo K2.m.f.used.length yW0uc) (i := 1) rfl (by go_simp) (by go_simp)) (v := .slice yW0eo K2.m.ents.length yW0ec) (i := 2) rfl (by go_simp) (by go_simp)) (v := .int .i64 (K2.calls)) (i := 3) rfl (by go_simp) (by go_simp)) (v := .slice yW0ro K2.refuse.length yW0rc) (i := 4) rfl (by go_simp) (by go_simp))
          have HDM : D 5 := (hcl.out 6 5 (by kernel_rfl) (hcl.out 7 6 (by kernel_rfl) (hw.out 7 (by kernel_rfl))))
          exact hKK _ _ ⟨u, rfl, yC0co, yC0cc, yC0uo, yC0uc, yC0vs, yC0eo, yC0ec, yC0ro, yC0rc, yW0co, yW0cc, yW0uo, yW0uc, yW0vs, yW0eo, yW0ec, yW0ro, yW0rc, gW0, gW1, (Lib.hid (hbw.trans (hb.mono (by rw [hps]; exact Nat.le_refl _)))), Lib.hid (fun h0 => (U0.out (addD_of h0 (by decide)))), Lib.hid (fun h0 => (U1.out (addD_of h0 (by decide)))), Lib.hid (fun h0 => (U2.out (addD_of h0 (by decide)))), Lib.hid (fun h0 => (U3.out (addD_of h0 (by decide)))), Lib.hid (fun h0 => (U4.out (addD_of h0 (by decide)))), Lib.hid (fun h0 => (U5.out (addD_of h0 (by decide)))), Lib.hid (fun h0 => (U6.out (addD_of h0 (by decide)))), Lib.hid (fun h0 => (U7.out (addD_of h0 (by decide)))), Lib.hid (fun h0 => (U8.out (addD_of h0 (by decide)))), Lib.hid (fun h0 => (U9.out (addD_of h0 (by decide)))), Lib.hid (fun h0 => (U10.out (addD_of h0 (by decide)))), Lib.hid (fun h0 => (U11.out (addD_of h0 (by decide)))), Lib.hid (fun h0 => (U14.out (addD_of h0 (by decide)))), Lib.hid (fun h0 m0 => absurd (addD_mem HDM) m0), Lib.hid (fun h0 => (OW0.out (addD_of h0 (by decide))).touch ht (fun g hg hm => by cases List.mem_singleton.1 hm; exact A5gW0W0.out (hw.out 10 (by kernel_rfl)) (addD_of h0 (by decide)) hg)), Lib.hid (fun h0 => ⟨(A2gW0.out (addD_of h0 (by decide))).1, Nat.lt_of_lt_of_le (A2gW0.out (addD_of h0 (by decide))).2 ht.size⟩), Lib.hid (fun h0 m0 => absurd (addD_self 12) m0), Lib.hid (fun h0 => BN), Lib.hid (fun h0 h1 => (A5gW0W0.out (addD_of h0 (by decide)) (addD_of h1 (by decide)))), Lib.hid (fun h0 => ⟨(A2gW1.out (addD_of h0 (by decide))).1, Nat.lt_of_lt_of_le (A2gW1.out (addD_of h0 (by decide))).2 ht.size⟩), Lib.hid (fun h0 m0 => (A3gW1.out (addD_of h0 (by decide)) (fun x => m0 (addD_mem x))).touch ht (fun hm => (A6gW0gW1.out (hw.out 10 (by kernel_rfl)) (addD_of h0 (by decide))) (List.mem_singleton.1 hm).symm)), Lib.hid (fun h0 => (A4gW1.out (addD_of h0 (by decide))).touch ht (fun hm => (A6gW0gW1.out (hw.out 10 (by kernel_rfl)) (hcl.out 13 11 (by kernel_rfl) (addD_of h0 (by decide)))) (List.mem_singleton.1 hm).symm)), Lib.hid (fun h0 h1 => (A5gW1W0.out (addD_of h0 (by decide)) (addD_of h1 (by decide)))), Lib.hid (fun h0 h1 => (A6gW0gW1.out (addD_of h0 (by decide)) (addD_of h1 (by decide))))⟩
        · skip
          refine wpOp_step (o := _) rfl (fun KK hKK => ?_)
          rw [if_pos (wanted_nil _ rfl)]
          have e9 := U11.out (hw.out 11 (by kernel_rfl)); have E9_ := (E9 u).trans e9
          have e34 := U8.out (hw.out 8 (by kernel_rfl)); have E34_ := (E34 u).trans e34
          have bx := A3gW1.out (hw.out 11 (by kernel_rfl)) hn
          have c0 := (bx.cells 0 _ rfl).1; have f0 := (bx.cells 0 _ rfl).2
          have c1 := (bx.cells 1 _ rfl).1; have f1 := (bx.cells 1 _ rfl).2
          have c2 := (bx.cells 2 _ rfl).1; have f2 := (bx.cells 2 _ rfl).2
          have hgl := A2gW1.out (hw.out 11 (by kernel_rfl))
          skip
          go_simp
          have ht : Touch [gW1] w (((w.setCell ⟨gW1, 0, none⟩ (.int .i64 p)).setCell ⟨gW1, 1, none⟩ (.int .i64 c)).setCell ⟨gW1, 2, none⟩ (.int .i64 b2)) := touch_bx (touch_bx (touch_bx (Touch.refl [gW1] w)))
          have hb := ht.toBelow (B := wA.heap.size) (fun g hg => by have := List.mem_singleton.1 hg; omega) (by omega)
          have BN : BoxAt (((w.setCell ⟨gW1, 0, none⟩ (.int .i64 p)).setCell ⟨gW1, 1, none⟩ (.int .i64 c)).setCell ⟨gW1, 2, none⟩ (.int .i64 b2)) gW1 [.int .i64 p, .int .i64 c, .int .i64 b2] := (BoxAt.snoc (BoxAt.snoc (BoxAt.snoc (BoxAt.nil (w := (((w.setCell ⟨gW1, 0, none⟩ (.int .i64 p)).setCell ⟨gW1, 1, none⟩ (.int .i64 c)).setCell ⟨gW1, 2, none⟩ (.int .i64 b2))) (g := gW1) (by have := ht.size; omega)) (v := .int .i64 p) (i := 0) rfl (by go_simp) (by go_simp)) (v := .int .i64 c) (i := 1) rfl (by go_simp) (by go_simp)) (v := .int .i64 b2) (i := 2) rfl (by go_simp) (by go_simp))
          have HDM : D 5 := (hcl.out 6 5 (by kernel_rfl) (hcl.out 8 6 (by kernel_rfl) (hw.out 8 (by kernel_rfl))))
          exact hKK _ _ ⟨u, rfl, yC0co, yC0cc, yC0uo, yC0uc, yC0vs, yC0eo, yC0ec, yC0ro, yC0rc, yW0co, yW0cc, yW0uo, yW0uc, yW0vs, yW0eo, yW0ec, yW0ro, yW0rc, gW0, gW1, (Lib.hid (hbw.trans (hb.mono (by rw [hps]; exact Nat.le_refl _)))), Lib.hid (fun h0 => (U0.out (addD_of h0 (by decide)))), Lib.hid (fun h0 => (U1.out (addD_of h0 (by decide)))), Lib.hid (fun h0 => (U2.out (addD_of h0 (by decide)))), Lib.hid (fun h0 => (U3.out (addD_of h0 (by decide)))), Lib.hid (fun h0 => (U4.out (addD_of h0 (by decide)))), Lib.hid (fun h0 => (U5.out (addD_of h0 (by decide)))), Lib.hid (fun h0 => (U6.out (addD_of h0 (by decide)))), Lib.hid (fun h0 => (U7.out (addD_of h0 (by decide)))), Lib.hid (fun h0 => (U8.out (addD_of h0 (by decide)))), Lib.hid (fun h0 => (U9.out (addD_of h0 (by decide)))), Lib.hid (fun h0 => (U10.out (addD_of h0 (by decide)))), Lib.hid (fun h0 => (U11.out (addD_of h0 (by decide)))), Lib.hid (fun h0 => (U14.out (addD_of h0 (by decide)))), Lib.hid (fun h0 m0 => absurd (addD_mem HDM) m0), Lib.hid (fun h0 => (OW0.out (addD_of h0 (by decide))).touch ht (fun g hg hm => by cases List.mem_singleton.1 hm; exact A5gW1W0.out (hw.out 11 (by kernel_rfl)) (addD_of h0 (by decide)) hg)), Lib.hid (fun h0 => ⟨(A2gW0.out (addD_of h0 (by decide))).1, Nat.lt_of_lt_of_le (A2gW0.out (addD_of h0 (by decide))).2 ht.size⟩), Lib.hid (fun h0 m0 => (A3gW0.out (addD_of h0 (by decide)) (fun x => m0 (addD_mem x))).touch ht (fun hm => (A6gW0gW1.out (addD_of h0 (by decide)) (hw.out 11 (by kernel_rfl))) (List.mem_singleton.1 hm))), Lib.hid (fun h0 => (A4gW0.out (addD_of h0 (by decide))).touch ht (fun hm => (A6gW0gW1.out (hcl.out 12 10 (by kernel_rfl) (addD_of h0 (by decide))) (hw.out 11 (by kernel_rfl))) (List.mem_singleton.1 hm))), Lib.hid (fun h0 h1 => (A5gW0W0.out (addD_of h0 (by decide)) (addD_of h1 (by decide)))), Lib.hid (fun h0 => ⟨(A2gW1.out (addD_of h0 (by decide))).1, Nat.lt_of_lt_of_le (A2gW1.out (addD_of h0 (by decide))).2 ht.size⟩), Lib.hid (fun h0 m0 => absurd (addD_self 13) m0), Lib.hid (fun h0 => BN), Lib.hid (fun h0 h1 => (A5gW1W0.out (addD_of h0 (by decide)) (addD_of h1 (by decide)))), Lib.hid (fun h0 h1 => (A6gW0gW1.out (addD_of h0 (by decide)) (addD_of h1 (by decide))))⟩
        · skip
          refine wpOp_step (o := _) rfl (fun KK hKK => ?_)
          rw [if_pos (wanted_nil _ rfl)]
          have e35 := U9.out (hw.out 9 (by kernel_rfl)); have E35_ := (E35 u).trans e35
          skip
          go_simp
          exact hKK _ _ ⟨_, P10 u _, yC0co, yC0cc, yC0uo, yC0uc, yC0vs, yC0eo, yC0ec, yC0ro, yC0rc, yW0co, yW0cc, yW0uo, yW0uc, yW0vs, yW0eo, yW0ec, yW0ro, yW0rc, gW0, gW1, HBW, Lib.hid (fun h0 => (frUpd_ne (by decide)).trans (U0.out (addD_of h0 (by decide)))), Lib.hid (fun h0 => (frUpd_ne (by decide)).trans (U1.out (addD_of h0 (by decide)))), Lib.hid (fun h0 => (frUpd_ne (by decide)).trans (U2.out (addD_of h0 (by decide)))), Lib.hid (fun h0 => (frUpd_ne (by decide)).trans (U3.out (addD_of h0 (by decide)))), Lib.hid (fun h0 => (frUpd_ne (by decide)).trans (U4.out (addD_of h0 (by decide)))), Lib.hid (fun h0 => (frUpd_ne (by decide)).trans (U5.out (addD_of h0 (by decide)))), Lib.hid (fun h0 => (frUpd_ne (by decide)).trans (U6.out (addD_of h0 (by decide)))), Lib.hid (fun h0 => (frUpd_ne (by decide)).trans (U7.out (addD_of h0 (by decide)))), Lib.hid (fun h0 => (frUpd_ne (by decide)).trans (U8.out (addD_of h0 (by decide)))), Lib.hid (fun h0 => (frUpd_ne (by decide)).trans (U9.out (addD_of h0 (by decide)))), Lib.hid (fun h0 => (frUpd_ne (by decide)).trans (U10.out (addD_of h0 (by decide)))), Lib.hid (fun h0 => (frUpd_ne (by decide)).trans (U11.out (addD_of h0 (by decide)))), Lib.hid (fun h0 => frUpd_self), Lib.hid (fun h0 m0 => (OC0.out (addD_of h0 (by decide)) (fun x => m0 (addD_mem x)))), Lib.hid (fun h0 => (OW0.out (addD_of h0 (by decide)))), Lib.hid (fun h0 => (A2gW0.out (addD_of h0 (by decide)))), Lib.hid (fun h0 m0 => (A3gW0.out (addD_of h0 (by decide)) (fun x => m0 (addD_mem x)))), Lib.hid (fun h0 => (A4gW0.out (addD_of h0 (by decide)))), Lib.hid (fun h0 h1 => (A5gW0W0.out (addD_of h0 (by decide)) (addD_of h1 (by decide)))), Lib.hid (fun h0 => (A2gW1.out (addD_of h0 (by decide)))), Lib.hid (fun h0 m0 => (A3gW1.out (addD_of h0 (by decide)) (fun x => m0 (addD_mem x)))), Lib.hid (fun h0 => (A4gW1.out (addD_of h0 (by decide)))), Lib.hid (fun h0 h1 => (A5gW1W0.out (addD_of h0 (by decide)) (addD_of h1 (by decide)))), Lib.hid (fun h0 h1 => (A6gW0gW1.out (addD_of h0 (by decide)) (addD_of h1 (by decide))))⟩
      · rintro D u w ⟨yC0co, yC0cc, yC0uo, yC0uc, yC0vs, yC0eo, yC0ec, yC0ro, yC0rc, yW0co, yW0cc, yW0uo, yW0uc, yW0vs, yW0eo, yW0ec, yW0ro, yW0rc, gW0, gW1, HBW, U0, U1, U2, U3, U4, U5, U6, U7, U8, U9, U10, U11, U14, OC0, OW0, A2gW0, A3gW0, A4gW0, A5gW0W0, A2gW1, A3gW1, A4gW1, A5gW1W0, A6gW0gW1⟩ hall
        have d0 := hall 0 (by show 0 < 15; decide)
        have d1 := hall 1 (by show 1 < 15; decide)
        have d2 := hall 2 (by show 2 < 15; decide)
        have d3 := hall 3 (by show 3 < 15; decide)
        have d4 := hall 4 (by show 4 < 15; decide)
        have d5 := hall 5 (by show 5 < 15; decide)
        have d6 := hall 6 (by show 6 < 15; decide)
        have d7 := hall 7 (by show 7 < 15; decide)
        have d8 := hall 8 (by show 8 < 15; decide)
        have d9 := hall 9 (by show 9 < 15; decide)
        have d10 := hall 10 (by show 10 < 15; decide)
        have d11 := hall 11 (by show 11 < 15; decide)
        have d12 := hall 12 (by show 12 < 15; decide)
        have d13 := hall 13 (by show 13 < 15; decide)
        have d14 := hall 14 (by show 14 < 15; decide)
        have ha1 := ha0.out; subst ha1
        simp only [frAll, frTo, List.setIfInBounds_toArray, List.set_cons_succ, List.set_cons_zero]
        go_wp2_with fail
        go_meet
        exact ⟨yW0co, yW0cc, yW0uo, yW0uc, yW0vs, yW0eo, yW0ec, yW0ro, yW0rc, gW0, gW1, (U10.out d10), (U11.out d11), (U14.out d14), (A4gW0.out d12), (A4gW1.out d13), (OW0.out d5), (A5gW0W0.out d10 d5), (A5gW1W0.out d11 d5), (A2gW0.out d10).1, (A2gW1.out d11).1, HBW.out⟩
  obtain ⟨yW0co, yW0cc, yW0uo, yW0uc, yW0vs, yW0eo, yW0ec, yW0ro, yW0rc, gW0, gW1, rfl, rfl, rfl, BW0, BW1, OW0, NW0_W0, NW1_W0, hloW0, hloW1, hb⟩ := hcut
  obtain ⟨w2, rfl⟩ : ∃ x, x = wc := ⟨_, rfl⟩
  clear xP0 cP00 fP00 cP01 fP01 cP02 fP02 cP03 fP03 cP04 fP04
  clear xP1 cP10 fP10 cP11 fP11 cP12 fP12
  replace BP0 := Lib.hid (BP0.out.below hb)
  replace BP1 := Lib.hid (BP1.out.below hb)
  replace HA0 := Lib.hid (HA0.out.below hb)
  replace HT := Lib.hid (HT.out.trans (hb.mono HT.out.size))
  have zwB := hb.size; (try simp only [World.size_alloc] at zwB); clear hb; obtain ⟨wB, rfl⟩ : ∃ x, x = w2 := ⟨_, rfl⟩
  have hgtW0 := BW0.lt; replace BW0 := Lib.hid BW0
  have hgtW1 := BW1.lt; replace BW1 := Lib.hid BW1
  have LW0 := Lib.hid (OW0.lts); replace OW0 := Lib.hid OW0
  replace NW0_W0 := Lib.hid NW0_W0
  replace NW1_W0 := Lib.hid NW1_W0
  have cP00 := (BP0.out.cells 0 _ rfl).1; have fP00 := (BP0.out.cells 0 _ rfl).2
  have cP01 := (BP0.out.cells 1 _ rfl).1; have fP01 := (BP0.out.cells 1 _ rfl).2
  have cP02 := (BP0.out.cells 2 _ rfl).1; have fP02 := (BP0.out.cells 2 _ rfl).2
  have cP03 := (BP0.out.cells 3 _ rfl).1; have fP03 := (BP0.out.cells 3 _ rfl).2
  have cP04 := (BP0.out.cells 4 _ rfl).1; have fP04 := (BP0.out.cells 4 _ rfl).2
  have xP0 := BP0.out.lt
  go_wp2_with fail
  refine (l_toKernel x K (by omega) _ HA0.out).mono ?_; rintro e w2 ⟨yX0, rfl, OX0, hb⟩
  clear xP0 cP00 fP00 cP01 fP01 cP02 fP02 cP03 fP03 cP04 fP04
  obtain ⟨yX0co, yX0cc, yX0uo, yX0uc, yX0vs, yX0eo, yX0ec, yX0ro, yX0rc, rfl⟩ := KOwn.shapes OX0
  have LX0 := Lib.hid (OX0.lts); replace OX0 := Lib.hid OX0
  replace BP0 := Lib.hid (BP0.out.below hb)
  replace BP1 := Lib.hid (BP1.out.below hb)
  replace BW0 := Lib.hid (BW0.out.below hb)
  replace BW1 := Lib.hid (BW1.out.below hb)
  replace OW0 := Lib.hid (OW0.out.below hb)
  replace HA0 := Lib.hid (HA0.out.below hb)
  replace HT := Lib.hid (HT.out.trans (hb.mono HT.out.size))
  have zwC := hb.size; (try simp only [World.size_alloc] at zwC); clear hb; obtain ⟨wC, rfl⟩ : ∃ x, x = w2 := ⟨_, rfl⟩
  simp only [KV.val]
  replace BP0 := Lib.hid (BP0.out.below ((Below.refl _ wC).alloc (Nat.le_refl _) (.cells #[.slice yX0co yX0vs.length yX0cc, .slice yX0uo K.m.f.used.length yX0uc, .slice yX0eo K.m.ents.length yX0ec, .int .i64 (K.calls), .slice yX0ro K.refuse.length yX0rc] 44)))
  replace BP1 := Lib.hid (BP1.out.below ((Below.refl _ wC).alloc (Nat.le_refl _) (.cells #[.slice yX0co yX0vs.length yX0cc, .slice yX0uo K.m.f.used.length yX0uc, .slice yX0eo K.m.ents.length yX0ec, .int .i64 (K.calls), .slice yX0ro K.refuse.length yX0rc] 44)))
  replace BW0 := Lib.hid (BW0.out.below ((Below.refl _ wC).alloc (Nat.le_refl _) (.cells #[.slice yX0co yX0vs.length yX0cc, .slice yX0uo K.m.f.used.length yX0uc, .slice yX0eo K.m.ents.length yX0ec, .int .i64 (K.calls), .slice yX0ro K.refuse.length yX0rc] 44)))
  replace BW1 := Lib.hid (BW1.out.below ((Below.refl _ wC).alloc (Nat.le_refl _) (.cells #[.slice yX0co yX0vs.length yX0cc, .slice yX0uo K.m.f.used.length yX0uc, .slice yX0eo K.m.ents.length yX0ec, .int .i64 (K.calls), .slice yX0ro K.refuse.length yX0rc] 44)))
  replace OW0 := Lib.hid (OW0.out.below ((Below.refl _ wC).alloc (Nat.le_refl _) (.cells #[.slice yX0co yX0vs.length yX0cc, .slice yX0uo K.m.f.used.length yX0uc, .slice yX0eo K.m.ents.length yX0ec, .int .i64 (K.calls), .slice yX0ro K.refuse.length yX0rc] 44)))
  replace OX0 := Lib.hid (OX0.out.below ((Below.refl _ wC).alloc (Nat.le_refl _) (.cells #[.slice yX0co yX0vs.length yX0cc, .slice yX0uo K.m.f.used.length yX0uc, .slice yX0eo K.m.ents.length yX0ec, .int .i64 (K.calls), .slice yX0ro K.refuse.length yX0rc] 44)))
  replace HA0 := Lib.hid (HA0.out.below ((Below.refl _ wC).alloc (Nat.le_refl _) (.cells #[.slice yX0co yX0vs.length yX0cc, .slice yX0uo K.m.f.used.length yX0uc, .slice yX0eo K.m.ents.length yX0ec, .int .i64 (K.calls), .slice yX0ro K.refuse.length yX0rc] 44)))
  replace HT := Lib.hid (HT.out.trans (((Below.refl _ wC).alloc (Nat.le_refl _) (.cells #[.slice yX0co yX0vs.length yX0cc, .slice yX0uo K.m.f.used.length yX0uc, .slice yX0eo K.m.ents.length yX0ec, .int .i64 (K.calls), .slice yX0ro K.refuse.length yX0rc] 44)).mono HT.out.size))
  have BX0 : Hid (BoxAt (wC.alloc (.cells #[.slice yX0co yX0vs.length yX0cc, .slice yX0uo K.m.f.used.length yX0uc, .slice yX0eo K.m.ents.length yX0ec, .int .i64 (K.calls), .slice yX0ro K.refuse.length yX0rc] 44)) (wC.heap.size) [.slice yX0co yX0vs.length yX0cc, .slice yX0uo K.m.f.used.length yX0uc, .slice yX0eo K.m.ents.length yX0ec, .int .i64 (K.calls), .slice yX0ro K.refuse.length yX0rc]) := (BoxAt.snoc (BoxAt.snoc (BoxAt.snoc (BoxAt.snoc (BoxAt.snoc (BoxAt.nil (w := wC.alloc (.cells #[.slice yX0co yX0vs.length yX0cc, .slice yX0uo K.m.f.used.length yX0uc, .slice yX0eo K.m.ents.length yX0ec, .int .i64 (K.calls), .slice yX0ro K.refuse.length yX0rc] 44)) (g := wC.heap.size) (by go_simp)) (v := .slice yX0co yX0vs.length yX0cc) (i := 0) rfl (by go_simp) (by go_simp)) (v := .slice yX0uo K.m.f.used.length yX0uc) (i := 1) rfl (by go_simp) (by go_simp)) (v := .slice yX0eo K.m.ents.length yX0ec) (i := 2) rfl (by go_simp) (by go_simp)) (v := .int .i64 (K.calls)) (i := 3) rfl (by go_simp) (by go_simp)) (v := .slice yX0ro K.refuse.length yX0rc) (i := 4) rfl (by go_simp) (by go_simp))
  have cP10 := (BP1.out.cells 0 _ rfl).1; have fP10 := (BP1.out.cells 0 _ rfl).2
  have cP11 := (BP1.out.cells 1 _ rfl).1; have fP11 := (BP1.out.cells 1 _ rfl).2
  have cP12 := (BP1.out.cells 2 _ rfl).1; have fP12 := (BP1.out.cells 2 _ rfl).2
  have xP1 := BP1.out.lt
  have cX00 := (BX0.out.cells 0 _ rfl).1; have fX00 := (BX0.out.cells 0 _ rfl).2
  have cX01 := (BX0.out.cells 1 _ rfl).1; have fX01 := (BX0.out.cells 1 _ rfl).2
  have cX02 := (BX0.out.cells 2 _ rfl).1; have fX02 := (BX0.out.cells 2 _ rfl).2
  have cX03 := (BX0.out.cells 3 _ rfl).1; have fX03 := (BX0.out.cells 3 _ rfl).2
  have cX04 := (BX0.out.cells 4 _ rfl).1; have fX04 := (BX0.out.cells 4 _ rfl).2
  have xX0 := BX0.out.lt
  go_wp2_with fail
  go_upto_region 7 with fail
  go_cut [12, 13, 14] (fun ss12 ss13 ss14 wx => ∃ yG0co yG0cc yG0uo yG0uc yG0vs yG0eo yG0ec yG0ro yG0rc gG0 gG1, ss12 = .pointer (some ⟨gG0, 0, none⟩) ∧ ss13 = .pointer (some ⟨gG1, 0, none⟩) ∧ ss14 = .int .i64 code ∧ BoxAt wx gG0 [.slice yG0co yG0vs.length yG0cc, .slice yG0uo K2.m.f.used.length yG0uc, .slice yG0eo K2.m.ents.length yG0ec, .int .i64 (K2.calls), .slice yG0ro K2.refuse.length yG0rc] ∧ BoxAt wx gG1 [.int .i64 p, .int .i64 c, .int .i64 b2] ∧ KOwn (wC.heap.size + 1) wx (⟨⟨⟨.slice yG0co yG0vs.length yG0cc, .slice yG0uo K2.m.f.used.length yG0uc, yG0vs⟩, .slice yG0eo K2.m.ents.length yG0ec⟩, .slice yG0ro K2.refuse.length yG0rc⟩ : KV) K2 ∧ gG0 ∉ blocks (KV.all (⟨⟨⟨.slice yG0co yG0vs.length yG0cc, .slice yG0uo K2.m.f.used.length yG0uc, yG0vs⟩, .slice yG0eo K2.m.ents.length yG0ec⟩, .slice yG0ro K2.refuse.length yG0rc⟩ : KV)) ∧ gG1 ∉ blocks (KV.all (⟨⟨⟨.slice yG0co yG0vs.length yG0cc, .slice yG0uo K2.m.f.used.length yG0uc, yG0vs⟩, .slice yG0eo K2.m.ents.length yG0ec⟩, .slice yG0ro K2.refuse.length yG0rc⟩ : KV)) ∧ wC.heap.size + 1 ≤ gG0 ∧ wC.heap.size + 1 ≤ gG1 ∧ Below ((wC.alloc (.cells #[.slice yX0co yX0vs.length yX0cc, .slice yX0uo K.m.f.used.length yX0uc, .slice yX0eo K.m.ents.length yX0ec, .int .i64 (K.calls), .slice yX0ro K.refuse.length yX0rc] 44))).heap.size ((wC.alloc (.cells #[.slice yX0co yX0vs.length yX0cc, .slice yX0uo K.m.f.used.length yX0uc, .slice yX0eo K.m.ents.length yX0ec, .int .i64 (K.calls), .slice yX0ro K.refuse.length yX0rc] 44))) wx)
  case first =>
      refine wp_gen (fun a0 ha0 => ?_)
      have hsz : a0.tmps.size = 133 := by rw [ha0]; rfl
      have hps : ((wC.alloc (.cells #[.slice yX0co yX0vs.length yX0cc, .slice yX0uo K.m.f.used.length yX0uc, .slice yX0eo K.m.ents.length yX0ec, .int .i64 (K.calls), .slice yX0ro K.refuse.length yX0rc] 44))).heap.size = wC.heap.size + 1 := by first | rfl | simp only [World.size_alloc]
      have X11 : ∀ u, (frAll a0 [39, 40, 41, 42, 43, 38, 44, 45, 46, 12, 13, 14] u).tmps.getD 11 undef = .pointer (some ⟨wC.heap.size, 0, none⟩) := fun u => (frAll_other (by decide)).trans (by rw [ha0]; rfl)
      have X4 : ∀ u, (frAll a0 [39, 40, 41, 42, 43, 38, 44, 45, 46, 12, 13, 14] u).tmps.getD 4 undef = .pointer (some ⟨w.heap.size + 1, 0, none⟩) := fun u => (frAll_other (by decide)).trans (by rw [ha0]; rfl)
      have X2 : ∀ u, (frAll a0 [39, 40, 41, 42, 43, 38, 44, 45, 46, 12, 13, 14] u).tmps.getD 2 undef = .int .i64 slot := fun u => (frAll_other (by decide)).trans (by rw [ha0]; rfl)
      have E39 : ∀ u, (frAll a0 [39, 40, 41, 42, 43, 38, 44, 45, 46, 12, 13, 14] u).tmps.getD 39 undef = u 39 := fun u => frAll_eval (by decide) (by rw [hsz]; decide)
      have P39 : ∀ u v, (frAll a0 [39, 40, 41, 42, 43, 38, 44, 45, 46, 12, 13, 14] u).put (some 39) v = frAll a0 [39, 40, 41, 42, 43, 38, 44, 45, 46, 12, 13, 14] (frUpd u 39 v) := fun u v => frAll_put v (by decide)
      have E40 : ∀ u, (frAll a0 [39, 40, 41, 42, 43, 38, 44, 45, 46, 12, 13, 14] u).tmps.getD 40 undef = u 40 := fun u => frAll_eval (by decide) (by rw [hsz]; decide)
      have P40 : ∀ u v, (frAll a0 [39, 40, 41, 42, 43, 38, 44, 45, 46, 12, 13, 14] u).put (some 40) v = frAll a0 [39, 40, 41, 42, 43, 38, 44, 45, 46, 12, 13, 14] (frUpd u 40 v) := fun u v => frAll_put v (by decide)
      have E41 : ∀ u, (frAll a0 [39, 40, 41, 42, 43, 38, 44, 45, 46, 12, 13, 14] u).tmps.getD 41 undef = u 41 := fun u => frAll_eval (by decide) (by rw [hsz]; decide)
      have P41 : ∀ u v, (frAll a0 [39, 40, 41, 42, 43, 38, 44, 45, 46, 12, 13, 14] u).put (some 41) v = frAll a0 [39, 40, 41, 42, 43, 38, 44, 45, 46, 12, 13, 14] (frUpd u 41 v) := fun u v => frAll_put v (by decide)
      have E42 : ∀ u, (frAll a0 [39, 40, 41, 42, 43, 38, 44, 45, 46, 12, 13, 14] u).tmps.getD 42 undef = u 42 := fun u => frAll_eval (by decide) (by rw [hsz]; decide)
      have P42 : ∀ u v, (frAll a0 [39, 40, 41, 42, 43, 38, 44, 45, 46, 12, 13, 14] u).put (some 42) v = frAll a0 [39, 40, 41, 42, 43, 38, 44, 45, 46, 12, 13, 14] (frUpd u 42 v) := fun u v => frAll_put v (by decide)
      have E43 : ∀ u, (frAll a0 [39, 40, 41, 42, 43, 38, 44, 45, 46, 12, 13, 14] u).tmps.getD 43 undef = u 43 := fun u => frAll_eval (by decide) (by rw [hsz]; decide)
      have P43 : ∀ u v, (frAll a0 [39, 40, 41, 42, 43, 38, 44, 45, 46, 12, 13, 14] u).put (some 43) v = frAll a0 [39, 40, 41, 42, 43, 38, 44, 45, 46, 12, 13, 14] (frUpd u 43 v) := fun u v => frAll_put v (by decide)
      have E38 : ∀ u, (frAll a0 [39, 40, 41, 42, 43, 38, 44, 45, 46, 12, 13, 14] u).tmps.getD 38 undef = u 38 := fun u => frAll_eval (by decide) (by rw [hsz]; decide)
      have P38 : ∀ u v, (frAll a0 [39, 40, 41, 42, 43, 38, 44, 45, 46, 12, 13, 14] u).put (some 38) v = frAll a0 [39, 40, 41, 42, 43, 38, 44, 45, 46, 12, 13, 14] (frUpd u 38 v) := fun u v => frAll_put v (by decide)
      have E44 : ∀ u, (frAll a0 [39, 40, 41, 42, 43, 38, 44, 45, 46, 12, 13, 14] u).tmps.getD 44 undef = u 44 := fun u => frAll_eval (by decide) (by rw [hsz]; decide)
      have P44 : ∀ u v, (frAll a0 [39, 40, 41, 42, 43, 38, 44, 45, 46, 12, 13, 14] u).put (some 44) v = frAll a0 [39, 40, 41, 42, 43, 38, 44, 45, 46, 12, 13, 14] (frUpd u 44 v) := fun u v => frAll_put v (by decide)
      have E45 : ∀ u, (frAll a0 [39, 40, 41, 42, 43, 38, 44, 45, 46, 12, 13, 14] u).tmps.getD 45 undef = u 45 := fun u => frAll_eval (by decide) (by rw [hsz]; decide)
      have P45 : ∀ u v, (frAll a0 [39, 40, 41, 42, 43, 38, 44, 45, 46, 12, 13, 14] u).put (some 45) v = frAll a0 [39, 40, 41, 42, 43, 38, 44, 45, 46, 12, 13, 14] (frUpd u 45 v) := fun u v => frAll_put v (by decide)
      have E46 : ∀ u, (frAll a0 [39, 40, 41, 42, 43, 38, 44, 45, 46, 12, 13, 14] u).tmps.getD 46 undef = u 46 := fun u => frAll_eval (by decide) (by rw [hsz]; decide)
      have P46 : ∀ u v, (frAll a0 [39, 40, 41, 42, 43, 38, 44, 45, 46, 12, 13, 14] u).put (some 46) v = frAll a0 [39, 40, 41, 42, 43, 38, 44, 45, 46, 12, 13, 14] (frUpd u 46 v) := fun u v => frAll_put v (by decide)
      have E12 : ∀ u, (frAll a0 [39, 40, 41, 42, 43, 38, 44, 45, 46, 12, 13, 14] u).tmps.getD 12 undef = u 12 := fun u => frAll_eval (by decide) (by rw [hsz]; decide)
      have P12 : ∀ u v, (frAll a0 [39, 40, 41, 42, 43, 38, 44, 45, 46, 12, 13, 14] u).put (some 12) v = frAll a0 [39, 40, 41, 42, 43, 38, 44, 45, 46, 12, 13, 14] (frUpd u 12 v) := fun u v => frAll_put v (by decide)
      have E13 : ∀ u, (frAll a0 [39, 40, 41, 42, 43, 38, 44, 45, 46, 12, 13, 14] u).tmps.getD 13 undef = u 13 := fun u => frAll_eval (by decide) (by rw [hsz]; decide)
      have P13 : ∀ u v, (frAll a0 [39, 40, 41, 42, 43, 38, 44, 45, 46, 12, 13, 14] u).put (some 13) v = frAll a0 [39, 40, 41, 42, 43, 38, 44, 45, 46, 12, 13, 14] (frUpd u 13 v) := fun u v => frAll_put v (by decide)
      have E14 : ∀ u, (frAll a0 [39, 40, 41, 42, 43, 38, 44, 45, 46, 12, 13, 14] u).tmps.getD 14 undef = u 14 := fun u => frAll_eval (by decide) (by rw [hsz]; decide)
      have P14 : ∀ u v, (frAll a0 [39, 40, 41, 42, 43, 38, 44, 45, 46, 12, 13, 14] u).put (some 14) v = frAll a0 [39, 40, 41, 42, 43, 38, 44, 45, 46, 12, 13, 14] (frUpd u 14 v) := fun u v => frAll_put v (by decide)
      replace ha0 := Lib.hid ha0
      refine wp_region_frame [39, 40, 41, 42, 43, 38, 44, 45, 46, 12, 13, 14] (fun D u w => ∃ yG0co yG0cc yG0uo yG0uc yG0vs yG0eo yG0ec yG0ro yG0rc gG0 gG1, Hid (Below ((wC.alloc (.cells #[.slice yX0co yX0vs.length yX0cc, .slice yX0uo K.m.f.used.length yX0uc, .slice yX0eo K.m.ents.length yX0ec, .int .i64 (K.calls), .slice yX0ro K.refuse.length yX0rc] 44))).heap.size ((wC.alloc (.cells #[.slice yX0co yX0vs.length yX0cc, .slice yX0uo K.m.f.used.length yX0uc, .slice yX0eo K.m.ents.length yX0ec, .int .i64 (K.calls), .slice yX0ro K.refuse.length yX0rc] 44))) w) ∧ Hid (D 0 → u 39 = .agg #[.slice yX0co yX0vs.length yX0cc, .slice yX0uo K.m.f.used.length yX0uc, .slice yX0eo K.m.ents.length yX0ec, .int .i64 (K.calls), .slice yX0ro K.refuse.length yX0rc]) ∧ Hid (D 1 → u 40 = .agg #[.int .i64 p, .int .i64 c, .int .i64 b]) ∧ Hid (D 2 → u 41 = .agg #[.int .i64 p, .int .i64 c, .int .i64 b]) ∧ Hid (D 3 → u 42 = .int .i64 slot) ∧ Hid (D 4 → u 43 = .tuple #[.agg #[.slice yG0co yG0vs.length yG0cc, .slice yG0uo K2.m.f.used.length yG0uc, .slice yG0eo K2.m.ents.length yG0ec, .int .i64 (K2.calls), .slice yG0ro K2.refuse.length yG0rc], .agg #[.int .i64 p, .int .i64 c, .int .i64 b2], .int .i64 code]) ∧ Hid (D 5 → u 38 = .tuple #[.agg #[.slice yG0co yG0vs.length yG0cc, .slice yG0uo K2.m.f.used.length yG0uc, .slice yG0eo K2.m.ents.length yG0ec, .int .i64 (K2.calls), .slice yG0ro K2.refuse.length yG0rc], .agg #[.int .i64 p, .int .i64 c, .int .i64 b2], .int .i64 code]) ∧ Hid (D 6 → u 44 = .agg #[.slice yG0co yG0vs.length yG0cc, .slice yG0uo K2.m.f.used.length yG0uc, .slice yG0eo K2.m.ents.length yG0ec, .int .i64 (K2.calls), .slice yG0ro K2.refuse.length yG0rc]) ∧ Hid (D 7 → u 45 = .agg #[.int .i64 p, .int .i64 c, .int .i64 b2]) ∧ Hid (D 8 → u 46 = .int .i64 code) ∧ Hid (D 9 → u 12 = .pointer (some ⟨gG0, 0, none⟩)) ∧ Hid (D 10 → u 13 = .pointer (some ⟨gG1, 0, none⟩)) ∧ Hid (D 13 → u 14 = .int .i64 code) ∧ Hid (D 4 → KOwn (wC.heap.size + 1) w (⟨⟨⟨.slice yG0co yG0vs.length yG0cc, .slice yG0uo K2.m.f.used.length yG0uc, yG0vs⟩, .slice yG0eo K2.m.ents.length yG0ec⟩, .slice yG0ro K2.refuse.length yG0rc⟩ : KV) K2) ∧ Hid (D 9 → wC.heap.size + 1 ≤ gG0 ∧ gG0 < w.heap.size) ∧ Hid (D 9 → ¬ D 11 → BoxAt w gG0 [.slice none 0 0, .slice none 0 0, .slice none 0 0, .int .i64 0, .slice none 0 0]) ∧ Hid (D 11 → BoxAt w gG0 [.slice yG0co yG0vs.length yG0cc, .slice yG0uo K2.m.f.used.length yG0uc, .slice yG0eo K2.m.ents.length yG0ec, .int .i64 (K2.calls), .slice yG0ro K2.refuse.length yG0rc]) ∧ Hid (D 9 → D 4 → gG0 ∉ blocks (KV.all (⟨⟨⟨.slice yG0co yG0vs.length yG0cc, .slice yG0uo K2.m.f.used.length yG0uc, yG0vs⟩, .slice yG0eo K2.m.ents.length yG0ec⟩, .slice yG0ro K2.refuse.length yG0rc⟩ : KV))) ∧ Hid (D 10 → wC.heap.size + 1 ≤ gG1 ∧ gG1 < w.heap.size) ∧ Hid (D 10 → ¬ D 12 → BoxAt w gG1 [.int .i64 0, .int .i64 0, .int .i64 0]) ∧ Hid (D 12 → BoxAt w gG1 [.int .i64 p, .int .i64 c, .int .i64 b2]) ∧ Hid (D 10 → D 4 → gG1 ∉ blocks (KV.all (⟨⟨⟨.slice yG0co yG0vs.length yG0cc, .slice yG0uo K2.m.f.used.length yG0uc, yG0vs⟩, .slice yG0eo K2.m.ents.length yG0ec⟩, .slice yG0ro K2.refuse.length yG0rc⟩ : KV))) ∧ Hid (D 9 → D 10 → gG0 ≠ gG1)) (by kernel_rfl) (by kernel_rfl) ?_ ?_ ?_
      · exact ⟨default, default, default, default, default, default, default, default, default, default, default, Lib.hid (by exact bel), Lib.hid (fun h => h.elim), Lib.hid (fun h => h.elim), Lib.hid (fun h => h.elim), Lib.hid (fun h => h.elim), Lib.hid (fun h => h.elim), Lib.hid (fun h => h.elim), Lib.hid (fun h => h.elim), Lib.hid (fun h => h.elim), Lib.hid (fun h => h.elim), Lib.hid (fun h => h.elim), Lib.hid (fun h => h.elim), Lib.hid (fun h => h.elim), Lib.hid (fun h => h.elim), Lib.hid (fun h => h.elim), Lib.hid (fun h => h.elim), Lib.hid (fun h => h.elim), Lib.hid (fun h => h.elim), Lib.hid (fun h => h.elim), Lib.hid (fun h => h.elim), Lib.hid (fun h => h.elim), Lib.hid (fun h => h.elim), Lib.hid (fun h => h.elim)⟩
      · rintro D u w ⟨yG0co, yG0cc, yG0uo, yG0uc, yG0vs, yG0eo, yG0ec, yG0ro, yG0rc, gG0, gG1, HBW, U0, U1, U2, U3, U4, U5, U6, U7, U8, U9, U10, U13, OG0, A2gG0, A3gG0, A4gG0, A5gG0G0, A2gG1, A3gG1, A4gG1, A5gG1G0, A6gG0gG1⟩ hcl i hi hn hw
        have hi9 : i < 14 := hi; clear hi
        replace hcl := Lib.hid hcl; replace hw := Lib.hid hw
        have hbw := HBW.out; have hlw := hbw.size; rw [hps] at hlw
        rcases (by omega : i = 0 ∨ i = 1 ∨ i = 2 ∨ i = 3 ∨ i = 4 ∨ i = 5 ∨ i = 6 ∨ i = 7 ∨ i = 8 ∨ i = 9 ∨ i = 10 ∨ i = 11 ∨ i = 12 ∨ i = 13) with rfl | rfl | rfl | rfl | rfl | rfl | rfl | rfl | rfl | rfl | rfl | rfl | rfl | rfl
        · skip
          refine wpOp_step (o := _) rfl (fun KK hKK => ?_)
          rw [if_pos (wanted_nil _ rfl)]
          have E11_ := X11 u
          have bx := BX0.out.below hbw
          have c0 := (bx.cells 0 _ rfl).1
          have c1 := (bx.cells 1 _ rfl).1
          have c2 := (bx.cells 2 _ rfl).1
          have c3 := (bx.cells 3 _ rfl).1
          have c4 := (bx.cells 4 _ rfl).1
          skip
          go_simp
          exact hKK _ _ ⟨_, P39 u _, yG0co, yG0cc, yG0uo, yG0uc, yG0vs, yG0eo, yG0ec, yG0ro, yG0rc, gG0, gG1, HBW, Lib.hid (fun h0 => frUpd_self), Lib.hid (fun h0 => (frUpd_ne (by decide)).trans (U1.out (addD_of h0 (by decide)))), Lib.hid (fun h0 => (frUpd_ne (by decide)).trans (U2.out (addD_of h0 (by decide)))), Lib.hid (fun h0 => (frUpd_ne (by decide)).trans (U3.out (addD_of h0 (by decide)))), Lib.hid (fun h0 => (frUpd_ne (by decide)).trans (U4.out (addD_of h0 (by decide)))), Lib.hid (fun h0 => (frUpd_ne (by decide)).trans (U5.out (addD_of h0 (by decide)))), Lib.hid (fun h0 => (frUpd_ne (by decide)).trans (U6.out (addD_of h0 (by decide)))), Lib.hid (fun h0 => (frUpd_ne (by decide)).trans (U7.out (addD_of h0 (by decide)))), Lib.hid (fun h0 => (frUpd_ne (by decide)).trans (U8.out (addD_of h0 (by decide)))), Lib.hid (fun h0 => (frUpd_ne (by decide)).trans (U9.out (addD_of h0 (by decide)))), Lib.hid (fun h0 => (frUpd_ne (by decide)).trans (U10.out (addD_of h0 (by decide)))), Lib.hid (fun h0 => (frUpd_ne (by decide)).trans (U13.out (addD_of h0 (by decide)))), Lib.hid (fun h0 => (OG0.out (addD_of h0 (by decide)))), Lib.hid (fun h0 => (A2gG0.out (addD_of h0 (by decide)))), Lib.hid (fun h0 m0 => (A3gG0.out (addD_of h0 (by decide)) (fun x => m0 (addD_mem x)))), Lib.hid (fun h0 => (A4gG0.out (addD_of h0 (by decide)))), Lib.hid (fun h0 h1 => (A5gG0G0.out (addD_of h0 (by decide)) (addD_of h1 (by decide)))), Lib.hid (fun h0 => (A2gG1.out (addD_of h0 (by decide)))), Lib.hid (fun h0 m0 => (A3gG1.out (addD_of h0 (by decide)) (fun x => m0 (addD_mem x)))), Lib.hid (fun h0 => (A4gG1.out (addD_of h0 (by decide)))), Lib.hid (fun h0 h1 => (A5gG1G0.out (addD_of h0 (by decide)) (addD_of h1 (by decide)))), Lib.hid (fun h0 h1 => (A6gG0gG1.out (addD_of h0 (by decide)) (addD_of h1 (by decide))))⟩
        · skip
          refine wpOp_step (o := _) rfl (fun KK hKK => ?_)
          rw [if_pos (wanted_nil _ rfl)]
          have E4_ := X4 u
          have bx := BP1.out.below hbw
          have c0 := (bx.cells 0 _ rfl).1
          have c1 := (bx.cells 1 _ rfl).1
          have c2 := (bx.cells 2 _ rfl).1
          skip
          go_simp
          exact hKK _ _ ⟨_, P40 u _, yG0co, yG0cc, yG0uo, yG0uc, yG0vs, yG0eo, yG0ec, yG0ro, yG0rc, gG0, gG1, HBW, Lib.hid (fun h0 => (frUpd_ne (by decide)).trans (U0.out (addD_of h0 (by decide)))), Lib.hid (fun h0 => frUpd_self), Lib.hid (fun h0 => (frUpd_ne (by decide)).trans (U2.out (addD_of h0 (by decide)))), Lib.hid (fun h0 => (frUpd_ne (by decide)).trans (U3.out (addD_of h0 (by decide)))), Lib.hid (fun h0 => (frUpd_ne (by decide)).trans (U4.out (addD_of h0 (by decide)))), Lib.hid (fun h0 => (frUpd_ne (by decide)).trans (U5.out (addD_of h0 (by decide)))), Lib.hid (fun h0 => (frUpd_ne (by decide)).trans (U6.out (addD_of h0 (by decide)))), Lib.hid (fun h0 => (frUpd_ne (by decide)).trans (U7.out (addD_of h0 (by decide)))), Lib.hid (fun h0 => (frUpd_ne (by decide)).trans (U8.out (addD_of h0 (by decide)))), Lib.hid (fun h0 => (frUpd_ne (by decide)).trans (U9.out (addD_of h0 (by decide)))), Lib.hid (fun h0 => (frUpd_ne (by decide)).trans (U10.out (addD_of h0 (by decide)))), Lib.hid (fun h0 => (frUpd_ne (by decide)).trans (U13.out (addD_of h0 (by decide)))), Lib.hid (fun h0 => (OG0.out (addD_of h0 (by decide)))), Lib.hid (fun h0 => (A2gG0.out (addD_of h0 (by decide)))), Lib.hid (fun h0 m0 => (A3gG0.out (addD_of h0 (by decide)) (fun x => m0 (addD_mem x)))), Lib.hid (fun h0 => (A4gG0.out (addD_of h0 (by decide)))), Lib.hid (fun h0 h1 => (A5gG0G0.out (addD_of h0 (by decide)) (addD_of h1 (by decide)))), Lib.hid (fun h0 => (A2gG1.out (addD_of h0 (by decide)))), Lib.hid (fun h0 m0 => (A3gG1.out (addD_of h0 (by decide)) (fun x => m0 (addD_mem x)))), Lib.hid (fun h0 => (A4gG1.out (addD_of h0 (by decide)))), Lib.hid (fun h0 h1 => (A5gG1G0.out (addD_of h0 (by decide)) (addD_of h1 (by decide)))), Lib.hid (fun h0 h1 => (A6gG0gG1.out (addD_of h0 (by decide)) (addD_of h1 (by decide))))⟩
        · skip
          refine wpOp_step (o := _) rfl (fun KK hKK => ?_)
          rw [if_pos (wanted_nil _ rfl)]
          have e40 := U1.out (hw.out 1 (by kernel_rfl)); have E40_ := (E40 u).trans e40
          skip
          go_simp
          refine (l_toSpan p c b _).mono ?_; rintro e w2 ⟨rfl, hb⟩
          have hbn := hb.size
          try dsimp only
          exact hKK _ _ ⟨_, P41 u _, yG0co, yG0cc, yG0uo, yG0uc, yG0vs, yG0eo, yG0ec, yG0ro, yG0rc, gG0, gG1, (Lib.hid (hbw.trans (hb.mono (by rw [hps]; omega)))), Lib.hid (fun h0 => (frUpd_ne (by decide)).trans (U0.out (addD_of h0 (by decide)))), Lib.hid (fun h0 => (frUpd_ne (by decide)).trans (U1.out (addD_of h0 (by decide)))), Lib.hid (fun h0 => frUpd_self), Lib.hid (fun h0 => (frUpd_ne (by decide)).trans (U3.out (addD_of h0 (by decide)))), Lib.hid (fun h0 => (frUpd_ne (by decide)).trans (U4.out (addD_of h0 (by decide)))), Lib.hid (fun h0 => (frUpd_ne (by decide)).trans (U5.out (addD_of h0 (by decide)))), Lib.hid (fun h0 => (frUpd_ne (by decide)).trans (U6.out (addD_of h0 (by decide)))), Lib.hid (fun h0 => (frUpd_ne (by decide)).trans (U7.out (addD_of h0 (by decide)))), Lib.hid (fun h0 => (frUpd_ne (by decide)).trans (U8.out (addD_of h0 (by decide)))), Lib.hid (fun h0 => (frUpd_ne (by decide)).trans (U9.out (addD_of h0 (by decide)))), Lib.hid (fun h0 => (frUpd_ne (by decide)).trans (U10.out (addD_of h0 (by decide)))), Lib.hid (fun h0 => (frUpd_ne (by decide)).trans (U13.out (addD_of h0 (by decide)))), Lib.hid (fun h0 => (OG0.out (addD_of h0 (by decide))).below hb), Lib.hid (fun h0 => ⟨(A2gG0.out (addD_of h0 (by decide))).1, Nat.lt_of_lt_of_le (A2gG0.out (addD_of h0 (by decide))).2 hb.size⟩), Lib.hid (fun h0 m0 => (A3gG0.out (addD_of h0 (by decide)) (fun x => m0 (addD_mem x))).below hb), Lib.hid (fun h0 => (A4gG0.out (addD_of h0 (by decide))).below hb), Lib.hid (fun h0 h1 => (A5gG0G0.out (addD_of h0 (by decide)) (addD_of h1 (by decide)))), Lib.hid (fun h0 => ⟨(A2gG1.out (addD_of h0 (by decide))).1, Nat.lt_of_lt_of_le (A2gG1.out (addD_of h0 (by decide))).2 hb.size⟩), Lib.hid (fun h0 m0 => (A3gG1.out (addD_of h0 (by decide)) (fun x => m0 (addD_mem x))).below hb), Lib.hid (fun h0 => (A4gG1.out (addD_of h0 (by decide))).below hb), Lib.hid (fun h0 h1 => (A5gG1G0.out (addD_of h0 (by decide)) (addD_of h1 (by decide)))), Lib.hid (fun h0 h1 => (A6gG0gG1.out (addD_of h0 (by decide)) (addD_of h1 (by decide))))⟩
        · skip
          refine wpOp_step (o := _) rfl (fun KK hKK => ?_)
          rw [if_pos (wanted_nil _ rfl)]
          have E2_ := X2 u
          skip
          go_simp
          exact hKK _ _ ⟨_, P42 u _, yG0co, yG0cc, yG0uo, yG0uc, yG0vs, yG0eo, yG0ec, yG0ro, yG0rc, gG0, gG1, HBW, Lib.hid (fun h0 => (frUpd_ne (by decide)).trans (U0.out (addD_of h0 (by decide)))), Lib.hid (fun h0 => (frUpd_ne (by decide)).trans (U1.out (addD_of h0 (by decide)))), Lib.hid (fun h0 => (frUpd_ne (by decide)).trans (U2.out (addD_of h0 (by decide)))), Lib.hid (fun h0 => frUpd_self), Lib.hid (fun h0 => (frUpd_ne (by decide)).trans (U4.out (addD_of h0 (by decide)))), Lib.hid (fun h0 => (frUpd_ne (by decide)).trans (U5.out (addD_of h0 (by decide)))), Lib.hid (fun h0 => (frUpd_ne (by decide)).trans (U6.out (addD_of h0 (by decide)))), Lib.hid (fun h0 => (frUpd_ne (by decide)).trans (U7.out (addD_of h0 (by decide)))), Lib.hid (fun h0 => (frUpd_ne (by decide)).trans (U8.out (addD_of h0 (by decide)))), Lib.hid (fun h0 => (frUpd_ne (by decide)).trans (U9.out (addD_of h0 (by decide)))), Lib.hid (fun h0 => (frUpd_ne (by decide)).trans (U10.out (addD_of h0 (by decide)))), Lib.hid (fun h0 => (frUpd_ne (by decide)).trans (U13.out (addD_of h0 (by decide)))), Lib.hid (fun h0 => (OG0.out (addD_of h0 (by decide)))), Lib.hid (fun h0 => (A2gG0.out (addD_of h0 (by decide)))), Lib.hid (fun h0 m0 => (A3gG0.out (addD_of h0 (by decide)) (fun x => m0 (addD_mem x)))), Lib.hid (fun h0 => (A4gG0.out (addD_of h0 (by decide)))), Lib.hid (fun h0 h1 => (A5gG0G0.out (addD_of h0 (by decide)) (addD_of h1 (by decide)))), Lib.hid (fun h0 => (A2gG1.out (addD_of h0 (by decide)))), Lib.hid (fun h0 m0 => (A3gG1.out (addD_of h0 (by decide)) (fun x => m0 (addD_mem x)))), Lib.hid (fun h0 => (A4gG1.out (addD_of h0 (by decide)))), Lib.hid (fun h0 h1 => (A5gG1G0.out (addD_of h0 (by decide)) (addD_of h1 (by decide)))), Lib.hid (fun h0 h1 => (A6gG0gG1.out (addD_of h0 (by decide)) (addD_of h1 (by decide))))⟩
        · skip
          refine wpOp_step (o := _) rfl (fun KK hKK => ?_)
          rw [if_pos (wanted_nil _ rfl)]
          have e39 := U0.out (hw.out 0 (by kernel_rfl)); have E39_ := (E39 u).trans e39
          have e41 := U2.out (hw.out 2 (by kernel_rfl)); have E41_ := (E41 u).trans e41
          have e42 := U3.out (hw.out 3 (by kernel_rfl)); have E42_ := (E42 u).trans e42
          skip
          go_simp
          refine (HI.out _ _ (KOwn.at (OX0.out.below hbw))).mono ?_; rintro e w2 ⟨yG0, rfl, OG0, hb⟩
          obtain ⟨yG0co, yG0cc, yG0uo, yG0uc, yG0vs, yG0eo, yG0ec, yG0ro, yG0rc, rfl⟩ := KOwn.shapes OG0
          simp only [KV.val]
          have hbn := hb.size
          try dsimp only
          exact hKK _ _ ⟨_, P43 u _, yG0co, yG0cc, yG0uo, yG0uc, yG0vs, yG0eo, yG0ec, yG0ro, yG0rc, gG0, gG1, (Lib.hid (hbw.trans (hb.mono (by rw [hps]; omega)))), Lib.hid (fun h0 => (frUpd_ne (by decide)).trans (U0.out (addD_of h0 (by decide)))), Lib.hid (fun h0 => (frUpd_ne (by decide)).trans (U1.out (addD_of h0 (by decide)))), Lib.hid (fun h0 => (frUpd_ne (by decide)).trans (U2.out (addD_of h0 (by decide)))), Lib.hid (fun h0 => (frUpd_ne (by decide)).trans (U3.out (addD_of h0 (by decide)))), Lib.hid (fun h0 => frUpd_self), Lib.hid (fun h0 => absurd (hcl.out 5 4 (by kernel_rfl) (addD_of h0 (by decide))) hn), Lib.hid (fun h0 => absurd (hcl.out 5 4 (by kernel_rfl) (hcl.out 6 5 (by kernel_rfl) (addD_of h0 (by decide)))) hn), Lib.hid (fun h0 => (frUpd_ne (by decide)).trans (U7.out (addD_of h0 (by decide)))), Lib.hid (fun h0 => (frUpd_ne (by decide)).trans (U8.out (addD_of h0 (by decide)))), Lib.hid (fun h0 => (frUpd_ne (by decide)).trans (U9.out (addD_of h0 (by decide)))), Lib.hid (fun h0 => (frUpd_ne (by decide)).trans (U10.out (addD_of h0 (by decide)))), Lib.hid (fun h0 => (frUpd_ne (by decide)).trans (U13.out (addD_of h0 (by decide)))), Lib.hid (fun h0 => KOwn.mono OG0 (by omega)), Lib.hid (fun h0 => ⟨(A2gG0.out (addD_of h0 (by decide))).1, Nat.lt_of_lt_of_le (A2gG0.out (addD_of h0 (by decide))).2 hb.size⟩), Lib.hid (fun h0 m0 => (A3gG0.out (addD_of h0 (by decide)) (fun x => m0 (addD_mem x))).below hb), Lib.hid (fun h0 => absurd (hcl.out 5 4 (by kernel_rfl) (hcl.out 6 5 (by kernel_rfl) (hcl.out 11 6 (by kernel_rfl) (addD_of h0 (by decide))))) hn), Lib.hid (fun h0 h1 => fun hm => Nat.lt_irrefl _ (Nat.lt_of_lt_of_le (A2gG0.out (addD_of h0 (by decide))).2 (((OG0).lts) _ hm).1)), Lib.hid (fun h0 => ⟨(A2gG1.out (addD_of h0 (by decide))).1, Nat.lt_of_lt_of_le (A2gG1.out (addD_of h0 (by decide))).2 hb.size⟩), Lib.hid (fun h0 m0 => (A3gG1.out (addD_of h0 (by decide)) (fun x => m0 (addD_mem x))).below hb), Lib.hid (fun h0 => (A4gG1.out (addD_of h0 (by decide))).below hb), Lib.hid (fun h0 h1 => fun hm => Nat.lt_irrefl _ (Nat.lt_of_lt_of_le (A2gG1.out (addD_of h0 (by decide))).2 (((OG0).lts) _ hm).1)), Lib.hid (fun h0 h1 => (A6gG0gG1.out (addD_of h0 (by decide)) (addD_of h1 (by decide))))⟩
        · skip
          refine wpOp_step (o := _) rfl (fun KK hKK => ?_)
          rw [if_pos (wanted_nil _ rfl)]
          have e43 := U4.out (hw.out 4 (by kernel_rfl)); have E43_ := (E43 u).trans e43
          skip
          go_simp
          exact hKK _ _ ⟨_, P38 u _, yG0co, yG0cc, yG0uo, yG0uc, yG0vs, yG0eo, yG0ec, yG0ro, yG0rc, gG0, gG1, HBW, Lib.hid (fun h0 => (frUpd_ne (by decide)).trans (U0.out (addD_of h0 (by decide)))), Lib.hid (fun h0 => (frUpd_ne (by decide)).trans (U1.out (addD_of h0 (by decide)))), Lib.hid (fun h0 => (frUpd_ne (by decide)).trans (U2.out (addD_of h0 (by decide)))), Lib.hid (fun h0 => (frUpd_ne (by decide)).trans (U3.out (addD_of h0 (by decide)))), Lib.hid (fun h0 => (frUpd_ne (by decide)).trans (U4.out (addD_of h0 (by decide)))), Lib.hid (fun h0 => frUpd_self), Lib.hid (fun h0 => (frUpd_ne (by decide)).trans (U6.out (addD_of h0 (by decide)))), Lib.hid (fun h0 => (frUpd_ne (by decide)).trans (U7.out (addD_of h0 (by decide)))), Lib.hid (fun h0 => (frUpd_ne (by decide)).trans (U8.out (addD_of h0 (by decide)))), Lib.hid (fun h0 => (frUpd_ne (by decide)).trans (U9.out (addD_of h0 (by decide)))), Lib.hid (fun h0 => (frUpd_ne (by decide)).trans (U10.out (addD_of h0 (by decide)))), Lib.hid (fun h0 => (frUpd_ne (by decide)).trans (U13.out (addD_of h0 (by decide)))), Lib.hid (fun h0 => (OG0.out (addD_of h0 (by decide)))), Lib.hid (fun h0 => (A2gG0.out (addD_of h0 (by decide)))), Lib.hid (fun h0 m0 => (A3gG0.out (addD_of h0 (by decide)) (fun x => m0 (addD_mem x)))), Lib.hid (fun h0 => (A4gG0.out (addD_of h0 (by decide)))), Lib.hid (fun h0 h1 => (A5gG0G0.out (addD_of h0 (by decide)) (addD_of h1 (by decide)))), Lib.hid (fun h0 => (A2gG1.out (addD_of h0 (by decide)))), Lib.hid (fun h0 m0 => (A3gG1.out (addD_of h0 (by decide)) (fun x => m0 (addD_mem x)))), Lib.hid (fun h0 => (A4gG1.out (addD_of h0 (by decide)))), Lib.hid (fun h0 h1 => (A5gG1G0.out (addD_of h0 (by decide)) (addD_of h1 (by decide)))), Lib.hid (fun h0 h1 => (A6gG0gG1.out (addD_of h0 (by decide)) (addD_of h1 (by decide))))⟩
        · skip
          refine wpOp_step (o := _) rfl (fun KK hKK => ?_)
          rw [if_pos (wanted_nil _ rfl)]
          have e38 := U5.out (hw.out 5 (by kernel_rfl)); have E38_ := (E38 u).trans e38
          skip
          go_simp
          exact hKK _ _ ⟨_, P44 u _, yG0co, yG0cc, yG0uo, yG0uc, yG0vs, yG0eo, yG0ec, yG0ro, yG0rc, gG0, gG1, HBW, Lib.hid (fun h0 => (frUpd_ne (by decide)).trans (U0.out (addD_of h0 (by decide)))), Lib.hid (fun h0 => (frUpd_ne (by decide)).trans (U1.out (addD_of h0 (by decide)))), Lib.hid (fun h0 => (frUpd_ne (by decide)).trans (U2.out (addD_of h0 (by decide)))), Lib.hid (fun h0 => (frUpd_ne (by decide)).trans (U3.out (addD_of h0 (by decide)))), Lib.hid (fun h0 => (frUpd_ne (by decide)).trans (U4.out (addD_of h0 (by decide)))), Lib.hid (fun h0 => (frUpd_ne (by decide)).trans (U5.out (addD_of h0 (by decide)))), Lib.hid (fun h0 => frUpd_self), Lib.hid (fun h0 => (frUpd_ne (by decide)).trans (U7.out (addD_of h0 (by decide)))), Lib.hid (fun h0 => (frUpd_ne (by decide)).trans (U8.out (addD_of h0 (by decide)))), Lib.hid (fun h0 => (frUpd_ne (by decide)).trans (U9.out (addD_of h0 (by decide)))), Lib.hid (fun h0 => (frUpd_ne (by decide)).trans (U10.out (addD_of h0 (by decide)))), Lib.hid (fun h0 => (frUpd_ne (by decide)).trans (U13.out (addD_of h0 (by decide)))), Lib.hid (fun h0 => (OG0.out (addD_of h0 (by decide)))), Lib.hid (fun h0 => (A2gG0.out (addD_of h0 (by decide)))), Lib.hid (fun h0 m0 => (A3gG0.out (addD_of h0 (by decide)) (fun x => m0 (addD_mem x)))), Lib.hid (fun h0 => (A4gG0.out (addD_of h0 (by decide)))), Lib.hid (fun h0 h1 => (A5gG0G0.out (addD_of h0 (by decide)) (addD_of h1 (by decide)))), Lib.hid (fun h0 => (A2gG1.out (addD_of h0 (by decide)))), Lib.hid (fun h0 m0 => (A3gG1.out (addD_of h0 (by decide)) (fun x => m0 (addD_mem x)))), Lib.hid (fun h0 => (A4gG1.out (addD_of h0 (by decide)))), Lib.hid (fun h0 h1 => (A5gG1G0.out (addD_of h0 (by decide)) (addD_of h1 (by decide)))), Lib.hid (fun h0 h1 => (A6gG0gG1.out (addD_of h0 (by decide)) (addD_of h1 (by decide))))⟩
        · skip
          refine wpOp_step (o := _) rfl (fun KK hKK => ?_)
          rw [if_pos (wanted_nil _ rfl)]
          have e38 := U5.out (hw.out 5 (by kernel_rfl)); have E38_ := (E38 u).trans e38
          skip
          go_simp
          exact hKK _ _ ⟨_, P45 u _, yG0co, yG0cc, yG0uo, yG0uc, yG0vs, yG0eo, yG0ec, yG0ro, yG0rc, gG0, gG1, HBW, Lib.hid (fun h0 => (frUpd_ne (by decide)).trans (U0.out (addD_of h0 (by decide)))), Lib.hid (fun h0 => (frUpd_ne (by decide)).trans (U1.out (addD_of h0 (by decide)))), Lib.hid (fun h0 => (frUpd_ne (by decide)).trans (U2.out (addD_of h0 (by decide)))), Lib.hid (fun h0 => (frUpd_ne (by decide)).trans (U3.out (addD_of h0 (by decide)))), Lib.hid (fun h0 => (frUpd_ne (by decide)).trans (U4.out (addD_of h0 (by decide)))), Lib.hid (fun h0 => (frUpd_ne (by decide)).trans (U5.out (addD_of h0 (by decide)))), Lib.hid (fun h0 => (frUpd_ne (by decide)).trans (U6.out (addD_of h0 (by decide)))), Lib.hid (fun h0 => frUpd_self), Lib.hid (fun h0 => (frUpd_ne (by decide)).trans (U8.out (addD_of h0 (by decide)))), Lib.hid (fun h0 => (frUpd_ne (by decide)).trans (U9.out (addD_of h0 (by decide)))), Lib.hid (fun h0 => (frUpd_ne (by decide)).trans (U10.out (addD_of h0 (by decide)))), Lib.hid (fun h0 => (frUpd_ne (by decide)).trans (U13.out (addD_of h0 (by decide)))), Lib.hid (fun h0 => (OG0.out (addD_of h0 (by decide)))), Lib.hid (fun h0 => (A2gG0.out (addD_of h0 (by decide)))), Lib.hid (fun h0 m0 => (A3gG0.out (addD_of h0 (by decide)) (fun x => m0 (addD_mem x)))), Lib.hid (fun h0 => (A4gG0.out (addD_of h0 (by decide)))), Lib.hid (fun h0 h1 => (A5gG0G0.out (addD_of h0 (by decide)) (addD_of h1 (by decide)))), Lib.hid (fun h0 => (A2gG1.out (addD_of h0 (by decide)))), Lib.hid (fun h0 m0 => (A3gG1.out (addD_of h0 (by decide)) (fun x => m0 (addD_mem x)))), Lib.hid (fun h0 => (A4gG1.out (addD_of h0 (by decide)))), Lib.hid (fun h0 h1 => (A5gG1G0.out (addD_of h0 (by decide)) (addD_of h1 (by decide)))), Lib.hid (fun h0 h1 => (A6gG0gG1.out (addD_of h0 (by decide)) (addD_of h1 (by decide))))⟩
        · skip
          refine wpOp_step (o := _) rfl (fun KK hKK => ?_)
          rw [if_pos (wanted_nil _ rfl)]
          have e38 := U5.out (hw.out 5 (by kernel_rfl)); have E38_ := (E38 u).trans e38
          skip
          go_simp
          exact hKK _ _ ⟨_, P46 u _, yG0co, yG0cc, yG0uo, yG0uc, yG0vs, yG0eo, yG0ec, yG0ro, yG0rc, gG0, gG1, HBW, Lib.hid (fun h0 => (frUpd_ne (by decide)).trans (U0.out (addD_of h0 (by decide)))), Lib.hid (fun h0 => (frUpd_ne (by decide)).trans (U1.out (addD_of h0 (by decide)))), Lib.hid (fun h0 => (frUpd_ne (by decide)).trans (U2.out (addD_of h0 (by decide)))), Lib.hid (fun h0 => (frUpd_ne (by decide)).trans (U3.out (addD_of h0 (by decide)))), Lib.hid (fun h0 => (frUpd_ne (by decide)).trans (U4.out (addD_of h0 (by decide)))), Lib.hid (fun h0 => (frUpd_ne (by decide)).trans (U5.out (addD_of h0 (by decide)))), Lib.hid (fun h0 => (frUpd_ne (by decide)).trans (U6.out (addD_of h0 (by decide)))), Lib.hid (fun h0 => (frUpd_ne (by decide)).trans (U7.out (addD_of h0 (by decide)))), Lib.hid (fun h0 => frUpd_self), Lib.hid (fun h0 => (frUpd_ne (by decide)).trans (U9.out (addD_of h0 (by decide)))), Lib.hid (fun h0 => (frUpd_ne (by decide)).trans (U10.out (addD_of h0 (by decide)))), Lib.hid (fun h0 => (frUpd_ne (by decide)).trans (U13.out (addD_of h0 (by decide)))), Lib.hid (fun h0 => (OG0.out (addD_of h0 (by decide)))), Lib.hid (fun h0 => (A2gG0.out (addD_of h0 (by decide)))), Lib.hid (fun h0 m0 => (A3gG0.out (addD_of h0 (by decide)) (fun x => m0 (addD_mem x)))), Lib.hid (fun h0 => (A4gG0.out (addD_of h0 (by decide)))), Lib.hid (fun h0 h1 => (A5gG0G0.out (addD_of h0 (by decide)) (addD_of h1 (by decide)))), Lib.hid (fun h0 => (A2gG1.out (addD_of h0 (by decide)))), Lib.hid (fun h0 m0 => (A3gG1.out (addD_of h0 (by decide)) (fun x => m0 (addD_mem x)))), Lib.hid (fun h0 => (A4gG1.out (addD_of h0 (by decide)))), Lib.hid (fun h0 h1 => (A5gG1G0.out (addD_of h0 (by decide)) (addD_of h1 (by decide)))), Lib.hid (fun h0 h1 => (A6gG0gG1.out (addD_of h0 (by decide)) (addD_of h1 (by decide))))⟩
        · skip
          refine wpOp_step (o := _) rfl (fun KK hKK => ?_)
          rw [if_pos (wanted_nil _ rfl)]
          skip
          go_simp
          have hb : Below w.heap.size w (w.alloc (.cells #[.slice none 0 0, .slice none 0 0, .slice none 0 0, .int .i64 0, .slice none 0 0] 44)) := (Below.refl _ w).alloc (Nat.le_refl _) (.cells #[.slice none 0 0, .slice none 0 0, .slice none 0 0, .int .i64 0, .slice none 0 0] 44)
          have hbn : w.heap.size < (w.alloc (.cells #[.slice none 0 0, .slice none 0 0, .slice none 0 0, .int .i64 0, .slice none 0 0] 44)).heap.size := by rw [World.size_alloc]; omega
          have BN : BoxAt (w.alloc (.cells #[.slice none 0 0, .slice none 0 0, .slice none 0 0, .int .i64 0, .slice none 0 0] 44)) w.heap.size [.slice none 0 0, .slice none 0 0, .slice none 0 0, .int .i64 0, .slice none 0 0] := (BoxAt.snoc (BoxAt.snoc (BoxAt.snoc (BoxAt.snoc (BoxAt.snoc (BoxAt.nil (w := (w.alloc (.cells #[.slice none 0 0, .slice none 0 0, .slice none 0 0, .int .i64 0, .slice none 0 0] 44))) (g := w.heap.size) (by go_simp)) (v := .slice none 0 0) (i := 0) rfl (by go_simp) (by go_simp)) (v := .slice none 0 0) (i := 1) rfl (by go_simp) (by go_simp)) (v := .slice none 0 0) (i := 2) rfl (by go_simp) (by go_simp)) (v := .int .i64 0) (i := 3) rfl (by go_simp) (by go_simp)) (v := .slice none 0 0) (i := 4) rfl (by go_simp) (by go_simp))
          exact hKK _ _ ⟨_, P12 u _, yG0co, yG0cc, yG0uo, yG0uc, yG0vs, yG0eo, yG0ec, yG0ro, yG0rc, w.heap.size, gG1, (Lib.hid (hbw.trans (hb.mono (by rw [hps]; omega)))), Lib.hid (fun h0 => (frUpd_ne (by decide)).trans (U0.out (addD_of h0 (by decide)))), Lib.hid (fun h0 => (frUpd_ne (by decide)).trans (U1.out (addD_of h0 (by decide)))), Lib.hid (fun h0 => (frUpd_ne (by decide)).trans (U2.out (addD_of h0 (by decide)))), Lib.hid (fun h0 => (frUpd_ne (by decide)).trans (U3.out (addD_of h0 (by decide)))), Lib.hid (fun h0 => (frUpd_ne (by decide)).trans (U4.out (addD_of h0 (by decide)))), Lib.hid (fun h0 => (frUpd_ne (by decide)).trans (U5.out (addD_of h0 (by decide)))), Lib.hid (fun h0 => (frUpd_ne (by decide)).trans (U6.out (addD_of h0 (by decide)))), Lib.hid (fun h0 => (frUpd_ne (by decide)).trans (U7.out (addD_of h0 (by decide)))), Lib.hid (fun h0 => (frUpd_ne (by decide)).trans (U8.out (addD_of h0 (by decide)))), Lib.hid (fun h0 => frUpd_self), Lib.hid (fun h0 => (frUpd_ne (by decide)).trans (U10.out (addD_of h0 (by decide)))), Lib.hid (fun h0 => (frUpd_ne (by decide)).trans (U13.out (addD_of h0 (by decide)))), Lib.hid (fun h0 => (OG0.out (addD_of h0 (by decide))).below hb), Lib.hid (fun h0 => ⟨by omega, hbn⟩), Lib.hid (fun h0 m0 => BN), Lib.hid (fun h0 => absurd (hcl.out 11 9 (by kernel_rfl) (addD_of h0 (by decide))) hn), Lib.hid (fun h0 h1 => fun hm => Nat.lt_irrefl _ ((((OG0.out (addD_of h1 (by decide)))).lts) _ hm).2), Lib.hid (fun h0 => ⟨(A2gG1.out (addD_of h0 (by decide))).1, Nat.lt_of_lt_of_le (A2gG1.out (addD_of h0 (by decide))).2 hb.size⟩), Lib.hid (fun h0 m0 => (A3gG1.out (addD_of h0 (by decide)) (fun x => m0 (addD_mem x))).below hb), Lib.hid (fun h0 => (A4gG1.out (addD_of h0 (by decide))).below hb), Lib.hid (fun h0 h1 => (A5gG1G0.out (addD_of h0 (by decide)) (addD_of h1 (by decide)))), Lib.hid (fun h0 h1 => Nat.ne_of_gt (A2gG1.out (addD_of h1 (by decide))).2)⟩
        · skip
          refine wpOp_step (o := _) rfl (fun KK hKK => ?_)
          rw [if_pos (wanted_nil _ rfl)]
          skip
          go_simp
          have hb : Below w.heap.size w (w.alloc (.cells #[.int .i64 0, .int .i64 0, .int .i64 0] 56)) := (Below.refl _ w).alloc (Nat.le_refl _) (.cells #[.int .i64 0, .int .i64 0, .int .i64 0] 56)
          have hbn : w.heap.size < (w.alloc (.cells #[.int .i64 0, .int .i64 0, .int .i64 0] 56)).heap.size := by rw [World.size_alloc]; omega
          have BN : BoxAt (w.alloc (.cells #[.int .i64 0, .int .i64 0, .int .i64 0] 56)) w.heap.size [.int .i64 0, .int .i64 0, .int .i64 0] := (BoxAt.snoc (BoxAt.snoc (BoxAt.snoc (BoxAt.nil (w := (w.alloc (.cells #[.int .i64 0, .int .i64 0, .int .i64 0] 56))) (g := w.heap.size) (by go_simp)) (v := .int .i64 0) (i := 0) rfl (by go_simp) (by go_simp)) (v := .int .i64 0) (i := 1) rfl (by go_simp) (by go_simp)) (v := .int .i64 0) (i := 2) rfl (by go_simp) (by go_simp))
          exact hKK _ _ ⟨_, P13 u _, yG0co, yG0cc, yG0uo, yG0uc, yG0vs, yG0eo, yG0ec, yG0ro, yG0rc, gG0, w.heap.size, (Lib.hid (hbw.trans (hb.mono (by rw [hps]; omega)))), Lib.hid (fun h0 => (frUpd_ne (by decide)).trans (U0.out (addD_of h0 (by decide)))), Lib.hid (fun h0 => (frUpd_ne (by decide)).trans (U1.out (addD_of h0 (by decide)))), Lib.hid (fun h0 => (frUpd_ne (by decide)).trans (U2.out (addD_of h0 (by decide)))), Lib.hid (fun h0 => (frUpd_ne (by decide)).trans (U3.out (addD_of h0 (by decide)))), Lib.hid (fun h0 => (frUpd_ne (by decide)).trans (U4.out (addD_of h0 (by decide)))), Lib.hid (fun h0 => (frUpd_ne (by decide)).trans (U5.out (addD_of h0 (by decide)))), Lib.hid (fun h0 => (frUpd_ne (by decide)).trans (U6.out (addD_of h0 (by decide)))), Lib.hid (fun h0 => (frUpd_ne (by decide)).trans (U7.out (addD_of h0 (by decide)))), Lib.hid (fun h0 => (frUpd_ne (by decide)).trans (U8.out (addD_of h0 (by decide)))), Lib.hid (fun h0 => (frUpd_ne (by decide)).trans (U9.out (addD_of h0 (by decide)))), Lib.hid (fun h0 => frUpd_self), Lib.hid (fun h0 => (frUpd_ne (by decide)).trans (U13.out (addD_of h0 (by decide)))), Lib.hid (fun h0 => (OG0.out (addD_of h0 (by decide))).below hb), Lib.hid (fun h0 => ⟨(A2gG0.out (addD_of h0 (by decide))).1, Nat.lt_of_lt_of_le (A2gG0.out (addD_of h0 (by decide))).2 hb.size⟩), Lib.hid (fun h0 m0 => (A3gG0.out (addD_of h0 (by decide)) (fun x => m0 (addD_mem x))).below hb), Lib.hid (fun h0 => (A4gG0.out (addD_of h0 (by decide))).below hb), Lib.hid (fun h0 h1 => (A5gG0G0.out (addD_of h0 (by decide)) (addD_of h1 (by decide)))), Lib.hid (fun h0 => ⟨by omega, hbn⟩), Lib.hid (fun h0 m0 => BN), Lib.hid (fun h0 => absurd (hcl.out 12 10 (by kernel_rfl) (addD_of h0 (by decide))) hn), Lib.hid (fun h0 h1 => fun hm => Nat.lt_irrefl _ ((((OG0.out (addD_of h1 (by decide)))).lts) _ hm).2), Lib.hid (fun h0 h1 => Nat.ne_of_lt (A2gG0.out (addD_of h0 (by decide))).2)⟩
        · skip
          refine wpOp_step (o := _) rfl (fun KK hKK => ?_)
          rw [if_pos (wanted_nil _ rfl)]
          have e12 := U9.out (hw.out 9 (by kernel_rfl)); have E12_ := (E12 u).trans e12
          have e44 := U6.out (hw.out 6 (by kernel_rfl)); have E44_ := (E44 u).trans e44
          have bx := A3gG0.out (hw.out 9 (by kernel_rfl)) hn
          have c0 := (bx.cells 0 _ rfl).1; have f0 := (bx.cells 0 _ rfl).2
          have c1 := (bx.cells 1 _ rfl).1; have f1 := (bx.cells 1 _ rfl).2
          have c2 := (bx.cells 2 _ rfl).1; have f2 := (bx.cells 2 _ rfl).2
          have c3 := (bx.cells 3 _ rfl).1; have f3 := (bx.cells 3 _ rfl).2
          have c4 := (bx.cells 4 _ rfl).1; have f4 := (bx.cells 4 _ rfl).2
          have hgl := A2gG0.out (hw.out 9 (by kernel_rfl))
          skip
          go_simp
          have ht : Touch [gG0] w (((((w.setCell ⟨gG0, 0, none⟩ (.slice yG0co yG0vs.length yG0cc)).setCell ⟨gG0, 1, none⟩ (.slice yG0uo K2.m.f.used.length yG0uc)).setCell ⟨gG0, 2, none⟩ (.slice yG0eo K2.m.ents.length yG0ec)).setCell ⟨gG0, 3, none⟩ (.int .i64 (K2.calls))).setCell ⟨gG0, 4, none⟩ (.slice yG0ro K2.refuse.length yG0rc)) := touch_bx (touch_bx (touch_bx (touch_bx (touch_bx (Touch.refl [gG0] w)))))
          have hb := ht.toBelow (B := wC.heap.size + 1) (fun g hg => by have := List.mem_singleton.1 hg; omega) (by omega)
          have BN : BoxAt (((((w.setCell ⟨gG0, 0, none⟩ (.slice yG0co yG0vs.length yG0cc)).setCell ⟨gG0, 1, none⟩ (.slice yG0uo K2.m.f.used.length yG0uc)).setCell ⟨gG0, 2, none⟩ (.slice yG0eo K2.m.ents.length yG0ec)).setCell ⟨gG0, 3, none⟩ (.int .i64 (K2.calls))).setCell ⟨gG0, 4, none⟩ (.slice yG0ro K2.refuse.length yG0rc)) gG0 [.slice yG0co yG0vs.length yG0cc, .slice yG0uo K2.m.f.used.length yG0uc, .slice yG0eo K2.m.ents.length yG0ec, .int .i64 (K2.calls), .slice yG0ro K2.refuse.length yG0rc] := (BoxAt.snoc (BoxAt.snoc (BoxAt.snoc (BoxAt.snoc (BoxAt.snoc (BoxAt.nil (w := (((((w.setCell ⟨gG0, 0, none⟩ (.slice yG0co yG0vs.length yG0cc)).setCell ⟨gG0, 1, none⟩ (.slice yG0uo K2.m.f.used.length yG0uc)).setCell ⟨gG0, 2, none⟩ (.slice yG0eo K2.m.ents.length yG0ec)).setCell ⟨gG0, 3, none⟩ (.int .i64 (K2.calls))).setCell ⟨gG0, 4, none⟩ (.slice yG0ro K2.refuse.length yG0rc))) (g := gG0) (by have := ht.size; omega)) (v := .slice yG0co yG0vs.length yG0cc) (i := 0) rfl (by go_simp) (by go_simp)) (v := .slice yG0uo K2.m.f.used.length yG0uc) (i := 1) rfl (by go_simp) (by go_simp)) (v := .slice yG0eo K2.m.ents.length yG0ec) (i := 2) rfl (by go_simp) (by go_simp)) (v := .int .i64 (K2.calls)) (i := 3) rfl (by go_simp) (by go_simp)) (v := .slice yG0ro K2.refuse.length yG0rc) (i := 4) rfl (by go_simp) (by go_simp))
          have HDM : D 4 := (hcl.out 5 4 (by kernel_rfl) (hcl.out 6 5 (by kernel_rfl) (hw.out 6 (by kernel_rfl))))
          exact hKK _ _ ⟨u, rfl, yG0co, yG0cc, yG0uo, yG0uc, yG0vs, yG0eo, yG0ec, yG0ro, yG0rc, gG0, gG1, (Lib.hid (hbw.trans (hb.mono (by rw [hps]; exact Nat.le_refl _)))), Lib.hid (fun h0 => (U0.out (addD_of h0 (by decide)))), Lib.hid (fun h0 => (U1.out (addD_of h0 (by decide)))), Lib.hid (fun h0 => (U2.out (addD_of h0 (by decide)))), Lib.hid (fun h0 => (U3.out (addD_of h0 (by decide)))), Lib.hid (fun h0 => (U4.out (addD_of h0 (by decide)))), Lib.hid (fun h0 => (U5.out (addD_of h0 (by decide)))), Lib.hid (fun h0 => (U6.out (addD_of h0 (by decide)))), Lib.hid (fun h0 => (U7.out (addD_of h0 (by decide)))), Lib.hid (fun h0 => (U8.out (addD_of h0 (by decide)))), Lib.hid (fun h0 => (U9.out (addD_of h0 (by decide)))), Lib.hid (fun h0 => (U10.out (addD_of h0 (by decide)))), Lib.hid (fun h0 => (U13.out (addD_of h0 (by decide)))), Lib.hid (fun h0 => (OG0.out (addD_of h0 (by decide))).touch ht (fun g hg hm => by cases List.mem_singleton.1 hm; exact A5gG0G0.out (hw.out 9 (by kernel_rfl)) (addD_of h0 (by decide)) hg)), Lib.hid (fun h0 => ⟨(A2gG0.out (addD_of h0 (by decide))).1, Nat.lt_of_lt_of_le (A2gG0.out (addD_of h0 (by decide))).2 ht.size⟩), Lib.hid (fun h0 m0 => absurd (addD_self 11) m0), Lib.hid (fun h0 => BN), Lib.hid (fun h0 h1 => (A5gG0G0.out (addD_of h0 (by decide)) (addD_of h1 (by decide)))), Lib.hid (fun h0 => ⟨(A2gG1.out (addD_of h0 (by decide))).1, Nat.lt_of_lt_of_le (A2gG1.out (addD_of h0 (by decide))).2 ht.size⟩), Lib.hid (fun h0 m0 => (A3gG1.out (addD_of h0 (by decide)) (fun x => m0 (addD_mem x))).touch ht (fun hm => (A6gG0gG1.out (hw.out 9 (by kernel_rfl)) (addD_of h0 (by decide))) (List.mem_singleton.1 hm).symm)), Lib.hid (fun h0 => (A4gG1.out (addD_of h0 (by decide))).touch ht (fun hm => (A6gG0gG1.out (hw.out 9 (by kernel_rfl)) (hcl.out 12 10 (by kernel_rfl) (addD_of h0 (by decide)))) (List.mem_singleton.1 hm).symm)), Lib.hid (fun h0 h1 => (A5gG1G0.out (addD_of h0 (by decide)) (addD_of h1 (by decide)))), Lib.hid (fun h0 h1 => (A6gG0gG1.out (addD_of h0 (by decide)) (addD_of h1 (by decide))))⟩
        · skip
          refine wpOp_step (o := _) rfl (fun KK hKK => ?_)
          rw [if_pos (wanted_nil _ rfl)]
          have e13 := U10.out (hw.out 10 (by kernel_rfl)); have E13_ := (E13 u).trans e13
          have e45 := U7.out (hw.out 7 (by kernel_rfl)); have E45_ := (E45 u).trans e45
          have bx := A3gG1.out (hw.out 10 (by kernel_rfl)) hn
          have c0 := (bx.cells 0 _ rfl).1; have f0 := (bx.cells 0 _ rfl).2
          have c1 := (bx.cells 1 _ rfl).1; have f1 := (bx.cells 1 _ rfl).2
          have c2 := (bx.cells 2 _ rfl).1; have f2 := (bx.cells 2 _ rfl).2
          have hgl := A2gG1.out (hw.out 10 (by kernel_rfl))
          skip
          go_simp
          have ht : Touch [gG1] w (((w.setCell ⟨gG1, 0, none⟩ (.int .i64 p)).setCell ⟨gG1, 1, none⟩ (.int .i64 c)).setCell ⟨gG1, 2, none⟩ (.int .i64 b2)) := touch_bx (touch_bx (touch_bx (Touch.refl [gG1] w)))
          have hb := ht.toBelow (B := wC.heap.size + 1) (fun g hg => by have := List.mem_singleton.1 hg; omega) (by omega)
          have BN : BoxAt (((w.setCell ⟨gG1, 0, none⟩ (.int .i64 p)).setCell ⟨gG1, 1, none⟩ (.int .i64 c)).setCell ⟨gG1, 2, none⟩ (.int .i64 b2)) gG1 [.int .i64 p, .int .i64 c, .int .i64 b2] := (BoxAt.snoc (BoxAt.snoc (BoxAt.snoc (BoxAt.nil (w := (((w.setCell ⟨gG1, 0, none⟩ (.int .i64 p)).setCell ⟨gG1, 1, none⟩ (.int .i64 c)).setCell ⟨gG1, 2, none⟩ (.int .i64 b2))) (g := gG1) (by have := ht.size; omega)) (v := .int .i64 p) (i := 0) rfl (by go_simp) (by go_simp)) (v := .int .i64 c) (i := 1) rfl (by go_simp) (by go_simp)) (v := .int .i64 b2) (i := 2) rfl (by go_simp) (by go_simp))
          have HDM : D 4 := (hcl.out 5 4 (by kernel_rfl) (hcl.out 7 5 (by kernel_rfl) (hw.out 7 (by kernel_rfl))))
          exact hKK _ _ ⟨u, rfl, yG0co, yG0cc, yG0uo, yG0uc, yG0vs, yG0eo, yG0ec, yG0ro, yG0rc, gG0, gG1, (Lib.hid (hbw.trans (hb.mono (by rw [hps]; exact Nat.le_refl _)))), Lib.hid (fun h0 => (U0.out (addD_of h0 (by decide)))), Lib.hid (fun h0 => (U1.out (addD_of h0 (by decide)))), Lib.hid (fun h0 => (U2.out (addD_of h0 (by decide)))), Lib.hid (fun h0 => (U3.out (addD_of h0 (by decide)))), Lib.hid (fun h0 => (U4.out (addD_of h0 (by decide)))), Lib.hid (fun h0 => (U5.out (addD_of h0 (by decide)))), Lib.hid (fun h0 => (U6.out (addD_of h0 (by decide)))), Lib.hid (fun h0 => (U7.out (addD_of h0 (by decide)))), Lib.hid (fun h0 => (U8.out (addD_of h0 (by decide)))), Lib.hid (fun h0 => (U9.out (addD_of h0 (by decide)))), Lib.hid (fun h0 => (U10.out (addD_of h0 (by decide)))), Lib.hid (fun h0 => (U13.out (addD_of h0 (by decide)))), Lib.hid (fun h0 => (OG0.out (addD_of h0 (by decide))).touch ht (fun g hg hm => by cases List.mem_singleton.1 hm; exact A5gG1G0.out (hw.out 10 (by kernel_rfl)) (addD_of h0 (by decide)) hg)), Lib.hid (fun h0 => ⟨(A2gG0.out (addD_of h0 (by decide))).1, Nat.lt_of_lt_of_le (A2gG0.out (addD_of h0 (by decide))).2 ht.size⟩), Lib.hid (fun h0 m0 => (A3gG0.out (addD_of h0 (by decide)) (fun x => m0 (addD_mem x))).touch ht (fun hm => (A6gG0gG1.out (addD_of h0 (by decide)) (hw.out 10 (by kernel_rfl))) (List.mem_singleton.1 hm))), Lib.hid (fun h0 => (A4gG0.out (addD_of h0 (by decide))).touch ht (fun hm => (A6gG0gG1.out (hcl.out 11 9 (by kernel_rfl) (addD_of h0 (by decide))) (hw.out 10 (by kernel_rfl))) (List.mem_singleton.1 hm))), Lib.hid (fun h0 h1 => (A5gG0G0.out (addD_of h0 (by decide)) (addD_of h1 (by decide)))), Lib.hid (fun h0 => ⟨(A2gG1.out (addD_of h0 (by decide))).1, Nat.lt_of_lt_of_le (A2gG1.out (addD_of h0 (by decide))).2 ht.size⟩), Lib.hid (fun h0 m0 => absurd (addD_self 12) m0), Lib.hid (fun h0 => BN), Lib.hid (fun h0 h1 => (A5gG1G0.out (addD_of h0 (by decide)) (addD_of h1 (by decide)))), Lib.hid (fun h0 h1 => (A6gG0gG1.out (addD_of h0 (by decide)) (addD_of h1 (by decide))))⟩
        · skip
          refine wpOp_step (o := _) rfl (fun KK hKK => ?_)
          rw [if_pos (wanted_nil _ rfl)]
          have e46 := U8.out (hw.out 8 (by kernel_rfl)); have E46_ := (E46 u).trans e46
          skip
          go_simp
          exact hKK _ _ ⟨_, P14 u _, yG0co, yG0cc, yG0uo, yG0uc, yG0vs, yG0eo, yG0ec, yG0ro, yG0rc, gG0, gG1, HBW, Lib.hid (fun h0 => (frUpd_ne (by decide)).trans (U0.out (addD_of h0 (by decide)))), Lib.hid (fun h0 => (frUpd_ne (by decide)).trans (U1.out (addD_of h0 (by decide)))), Lib.hid (fun h0 => (frUpd_ne (by decide)).trans (U2.out (addD_of h0 (by decide)))), Lib.hid (fun h0 => (frUpd_ne (by decide)).trans (U3.out (addD_of h0 (by decide)))), Lib.hid (fun h0 => (frUpd_ne (by decide)).trans (U4.out (addD_of h0 (by decide)))), Lib.hid (fun h0 => (frUpd_ne (by decide)).trans (U5.out (addD_of h0 (by decide)))), Lib.hid (fun h0 => (frUpd_ne (by decide)).trans (U6.out (addD_of h0 (by decide)))), Lib.hid (fun h0 => (frUpd_ne (by decide)).trans (U7.out (addD_of h0 (by decide)))), Lib.hid (fun h0 => (frUpd_ne (by decide)).trans (U8.out (addD_of h0 (by decide)))), Lib.hid (fun h0 => (frUpd_ne (by decide)).trans (U9.out (addD_of h0 (by decide)))), Lib.hid (fun h0 => (frUpd_ne (by decide)).trans (U10.out (addD_of h0 (by decide)))), Lib.hid (fun h0 => frUpd_self), Lib.hid (fun h0 => (OG0.out (addD_of h0 (by decide)))), Lib.hid (fun h0 => (A2gG0.out (addD_of h0 (by decide)))), Lib.hid (fun h0 m0 => (A3gG0.out (addD_of h0 (by decide)) (fun x => m0 (addD_mem x)))), Lib.hid (fun h0 => (A4gG0.out (addD_of h0 (by decide)))), Lib.hid (fun h0 h1 => (A5gG0G0.out (addD_of h0 (by decide)) (addD_of h1 (by decide)))), Lib.hid (fun h0 => (A2gG1.out (addD_of h0 (by decide)))), Lib.hid (fun h0 m0 => (A3gG1.out (addD_of h0 (by decide)) (fun x => m0 (addD_mem x)))), Lib.hid (fun h0 => (A4gG1.out (addD_of h0 (by decide)))), Lib.hid (fun h0 h1 => (A5gG1G0.out (addD_of h0 (by decide)) (addD_of h1 (by decide)))), Lib.hid (fun h0 h1 => (A6gG0gG1.out (addD_of h0 (by decide)) (addD_of h1 (by decide))))⟩
      · rintro D u w ⟨yG0co, yG0cc, yG0uo, yG0uc, yG0vs, yG0eo, yG0ec, yG0ro, yG0rc, gG0, gG1, HBW, U0, U1, U2, U3, U4, U5, U6, U7, U8, U9, U10, U13, OG0, A2gG0, A3gG0, A4gG0, A5gG0G0, A2gG1, A3gG1, A4gG1, A5gG1G0, A6gG0gG1⟩ hall
        have d0 := hall 0 (by show 0 < 14; decide)
        have d1 := hall 1 (by show 1 < 14; decide)
        have d2 := hall 2 (by show 2 < 14; decide)
        have d3 := hall 3 (by show 3 < 14; decide)
        have d4 := hall 4 (by show 4 < 14; decide)
        have d5 := hall 5 (by show 5 < 14; decide)
        have d6 := hall 6 (by show 6 < 14; decide)
        have d7 := hall 7 (by show 7 < 14; decide)
        have d8 := hall 8 (by show 8 < 14; decide)
        have d9 := hall 9 (by show 9 < 14; decide)
        have d10 := hall 10 (by show 10 < 14; decide)
        have d11 := hall 11 (by show 11 < 14; decide)
        have d12 := hall 12 (by show 12 < 14; decide)
        have d13 := hall 13 (by show 13 < 14; decide)
        have ha1 := ha0.out; subst ha1
        simp only [frAll, frTo, List.setIfInBounds_toArray, List.set_cons_succ, List.set_cons_zero]
        go_wp2_with fail
        go_meet
        exact ⟨yG0co, yG0cc, yG0uo, yG0uc, yG0vs, yG0eo, yG0ec, yG0ro, yG0rc, gG0, gG1, (U9.out d9), (U10.out d10), (U13.out d13), (A4gG0.out d11), (A4gG1.out d12), (OG0.out d4), (A5gG0G0.out d9 d4), (A5gG1G0.out d10 d4), (A2gG0.out d9).1, (A2gG1.out d10).1, HBW.out⟩
  obtain ⟨yG0co, yG0cc, yG0uo, yG0uc, yG0vs, yG0eo, yG0ec, yG0ro, yG0rc, gG0, gG1, rfl, rfl, rfl, BG0, BG1, OG0, NG0_G0, NG1_G0, hloG0, hloG1, hb⟩ := hcut
  obtain ⟨w2, rfl⟩ : ∃ x, x = wc := ⟨_, rfl⟩
  clear xP1 cP10 fP10 cP11 fP11 cP12 fP12
  clear xX0 cX00 fX00 cX01 fX01 cX02 fX02 cX03 fX03 cX04 fX04
  replace BP0 := Lib.hid (BP0.out.below hb)
  replace BP1 := Lib.hid (BP1.out.below hb)
  replace BW0 := Lib.hid (BW0.out.below hb)
  replace BW1 := Lib.hid (BW1.out.below hb)
  replace BX0 := Lib.hid (BX0.out.below hb)
  replace OW0 := Lib.hid (OW0.out.below hb)
  replace OX0 := Lib.hid (OX0.out.below hb)
  replace HA0 := Lib.hid (HA0.out.below hb)
  replace HT := Lib.hid (HT.out.trans (hb.mono HT.out.size))
  have zwD := hb.size; (try simp only [World.size_alloc] at zwD); clear hb; obtain ⟨wD, rfl⟩ : ∃ x, x = w2 := ⟨_, rfl⟩
  have hgtG0 := BG0.lt; replace BG0 := Lib.hid BG0
  have hgtG1 := BG1.lt; replace BG1 := Lib.hid BG1
  have LG0 := Lib.hid (OG0.lts); replace OG0 := Lib.hid OG0
  replace NG0_G0 := Lib.hid NG0_G0
  replace NG1_G0 := Lib.hid NG1_G0
  have cG00 := (BG0.out.cells 0 _ rfl).1; have fG00 := (BG0.out.cells 0 _ rfl).2
  have cG01 := (BG0.out.cells 1 _ rfl).1; have fG01 := (BG0.out.cells 1 _ rfl).2
  have cG02 := (BG0.out.cells 2 _ rfl).1; have fG02 := (BG0.out.cells 2 _ rfl).2
  have cG03 := (BG0.out.cells 3 _ rfl).1; have fG03 := (BG0.out.cells 3 _ rfl).2
  have cG04 := (BG0.out.cells 4 _ rfl).1; have fG04 := (BG0.out.cells 4 _ rfl).2
  have xG0 := BG0.out.lt
  have cW00 := (BW0.out.cells 0 _ rfl).1; have fW00 := (BW0.out.cells 0 _ rfl).2
  have cW01 := (BW0.out.cells 1 _ rfl).1; have fW01 := (BW0.out.cells 1 _ rfl).2
  have cW02 := (BW0.out.cells 2 _ rfl).1; have fW02 := (BW0.out.cells 2 _ rfl).2
  have cW03 := (BW0.out.cells 3 _ rfl).1; have fW03 := (BW0.out.cells 3 _ rfl).2
  have cW04 := (BW0.out.cells 4 _ rfl).1; have fW04 := (BW0.out.cells 4 _ rfl).2
  have xW0 := BW0.out.lt
  go_wp2_with fail
  refine (l_eqKernel _ _ (⟨⟨⟨.slice yG0co yG0vs.length yG0cc, .slice yG0uo K2.m.f.used.length yG0uc, yG0vs⟩, .slice yG0eo K2.m.ents.length yG0ec⟩, .slice yG0ro K2.refuse.length yG0rc⟩ : KV) (⟨⟨⟨.slice yW0co yW0vs.length yW0cc, .slice yW0uo K2.m.f.used.length yW0uc, yW0vs⟩, .slice yW0eo K2.m.ents.length yW0ec⟩, .slice yW0ro K2.refuse.length yW0rc⟩ : KV) _ _ OG0.out OW0.out).mono ?_; rintro e w2 ⟨rfl, hb⟩
  clear xG0 cG00 fG00 cG01 fG01 cG02 fG02 cG03 fG03 cG04 fG04
  clear xW0 cW00 fW00 cW01 fW01 cW02 fW02 cW03 fW03 cW04 fW04
  replace BP0 := Lib.hid (BP0.out.below hb)
  replace BP1 := Lib.hid (BP1.out.below hb)
  replace BW0 := Lib.hid (BW0.out.below hb)
  replace BW1 := Lib.hid (BW1.out.below hb)
  replace BX0 := Lib.hid (BX0.out.below hb)
  replace BG0 := Lib.hid (BG0.out.below hb)
  replace BG1 := Lib.hid (BG1.out.below hb)
  replace OW0 := Lib.hid (OW0.out.below hb)
  replace OX0 := Lib.hid (OX0.out.below hb)
  replace OG0 := Lib.hid (OG0.out.below hb)
  replace HA0 := Lib.hid (HA0.out.below hb)
  replace HT := Lib.hid (HT.out.trans (hb.mono HT.out.size))
  have zwE := hb.size; (try simp only [World.size_alloc] at zwE); clear hb; obtain ⟨wE, rfl⟩ : ∃ x, x = w2 := ⟨_, rfl⟩
  have cG10 := (BG1.out.cells 0 _ rfl).1; have fG10 := (BG1.out.cells 0 _ rfl).2
  have cG11 := (BG1.out.cells 1 _ rfl).1; have fG11 := (BG1.out.cells 1 _ rfl).2
  have cG12 := (BG1.out.cells 2 _ rfl).1; have fG12 := (BG1.out.cells 2 _ rfl).2
  have xG1 := BG1.out.lt
  have cW10 := (BW1.out.cells 0 _ rfl).1; have fW10 := (BW1.out.cells 0 _ rfl).2
  have cW11 := (BW1.out.cells 1 _ rfl).1; have fW11 := (BW1.out.cells 1 _ rfl).2
  have cW12 := (BW1.out.cells 2 _ rfl).1; have fW12 := (BW1.out.cells 2 _ rfl).2
  have xW1 := BW1.out.lt
  go_wp2_with fail
  refine (l_eqSpan p c b2 _).mono ?_; rintro e w2 ⟨rfl, hb⟩
  clear xG1 cG10 fG10 cG11 fG11 cG12 fG12
  clear xW1 cW10 fW10 cW11 fW11 cW12 fW12
  replace BP0 := Lib.hid (BP0.out.below hb)
  replace BP1 := Lib.hid (BP1.out.below hb)
  replace BW0 := Lib.hid (BW0.out.below hb)
  replace BW1 := Lib.hid (BW1.out.below hb)
  replace BX0 := Lib.hid (BX0.out.below hb)
  replace BG0 := Lib.hid (BG0.out.below hb)
  replace BG1 := Lib.hid (BG1.out.below hb)
  replace OW0 := Lib.hid (OW0.out.below hb)
  replace OX0 := Lib.hid (OX0.out.below hb)
  replace OG0 := Lib.hid (OG0.out.below hb)
  replace HA0 := Lib.hid (HA0.out.below hb)
  replace HT := Lib.hid (HT.out.trans (hb.mono HT.out.size))
  have zwF := hb.size; (try simp only [World.size_alloc] at zwF); clear hb; obtain ⟨wF, rfl⟩ : ∃ x, x = w2 := ⟨_, rfl⟩
  have cX00 := (BX0.out.cells 0 _ rfl).1; have fX00 := (BX0.out.cells 0 _ rfl).2
  have cX01 := (BX0.out.cells 1 _ rfl).1; have fX01 := (BX0.out.cells 1 _ rfl).2
  have cX02 := (BX0.out.cells 2 _ rfl).1; have fX02 := (BX0.out.cells 2 _ rfl).2
  have cX03 := (BX0.out.cells 3 _ rfl).1; have fX03 := (BX0.out.cells 3 _ rfl).2
  have cX04 := (BX0.out.cells 4 _ rfl).1; have fX04 := (BX0.out.cells 4 _ rfl).2
  have xX0 := BX0.out.lt
  have cP00 := (BP0.out.cells 0 _ rfl).1; have fP00 := (BP0.out.cells 0 _ rfl).2
  have cP01 := (BP0.out.cells 1 _ rfl).1; have fP01 := (BP0.out.cells 1 _ rfl).2
  have cP02 := (BP0.out.cells 2 _ rfl).1; have fP02 := (BP0.out.cells 2 _ rfl).2
  have cP03 := (BP0.out.cells 3 _ rfl).1; have fP03 := (BP0.out.cells 3 _ rfl).2
  have cP04 := (BP0.out.cells 4 _ rfl).1; have fP04 := (BP0.out.cells 4 _ rfl).2
  have xP0 := BP0.out.lt
  go_wp2_with fail
  go_region_held3 (fun w' => w'.cell? ⟨wC.heap.size, 0, none⟩ = some (.slice yX0co yX0vs.length yX0cc) ∧ w'.cell? ⟨wC.heap.size, 1, none⟩ = some (.slice yX0uo K.m.f.used.length yX0uc) ∧ w'.cell? ⟨wC.heap.size, 2, none⟩ = some (.slice yX0eo K.m.ents.length yX0ec) ∧ w'.cell? ⟨wC.heap.size, 3, none⟩ = some (.int .i64 (K.calls)) ∧ w'.cell? ⟨wC.heap.size, 4, none⟩ = some (.slice yX0ro K.refuse.length yX0rc) ∧ w'.cell? ⟨w.heap.size, 0, none⟩ = some (x.m.f.c) ∧ w'.cell? ⟨w.heap.size, 1, none⟩ = some (x.m.f.u) ∧ w'.cell? ⟨w.heap.size, 2, none⟩ = some (x.m.e) ∧ w'.cell? ⟨w.heap.size, 3, none⟩ = some (.int .i64 K.calls) ∧ w'.cell? ⟨w.heap.size, 4, none⟩ = some (x.r)) (first | (refine ⟨?_, ?_, ?_, ?_, ?_, ?_, ?_, ?_, ?_, ?_⟩ <;> (go_simp; done)) | go_keep) (first | (go_at_call 7; (refine (l_toKernel x K (by omega) _ (HA0.out.below (by exact bel))).mono ?_; rintro e w2 ⟨yE, rfl, OE, hb⟩; (obtain ⟨yEco, yEcc, yEuo, yEuc, yEvs, yEeo, yEec, yEro, yErc, rfl⟩ := KOwn.shapes OE); have HQ1 := Lib.hid hb; have kwq1_X0_0 : w2.cell? ⟨wC.heap.size, 0, none⟩ = some (.slice yX0co yX0vs.length yX0cc) := kc hb; have kwq1_X0_1 : w2.cell? ⟨wC.heap.size, 1, none⟩ = some (.slice yX0uo K.m.f.used.length yX0uc) := kc hb; have kwq1_X0_2 : w2.cell? ⟨wC.heap.size, 2, none⟩ = some (.slice yX0eo K.m.ents.length yX0ec) := kc hb; have kwq1_X0_3 : w2.cell? ⟨wC.heap.size, 3, none⟩ = some (.int .i64 (K.calls)) := kc hb; have kwq1_X0_4 : w2.cell? ⟨wC.heap.size, 4, none⟩ = some (.slice yX0ro K.refuse.length yX0rc) := kc hb; have kwq1_P0_0 : w2.cell? ⟨w.heap.size, 0, none⟩ = some (x.m.f.c) := kc hb; have kwq1_P0_1 : w2.cell? ⟨w.heap.size, 1, none⟩ = some (x.m.f.u) := kc hb; have kwq1_P0_2 : w2.cell? ⟨w.heap.size, 2, none⟩ = some (x.m.e) := kc hb; have kwq1_P0_3 : w2.cell? ⟨w.heap.size, 3, none⟩ = some (.int .i64 K.calls) := kc hb; have kwq1_P0_4 : w2.cell? ⟨w.heap.size, 4, none⟩ = some (x.r) := kc hb; have xwq1_X0 : wC.heap.size < w2.heap.size := xc hb; have xwq1_P0 : w.heap.size < w2.heap.size := xc hb; have hzwq1 := hb.size; (try simp only [World.size_alloc, World.size_setCell, World.size_drew] at hzwq1); obtain ⟨wq1, rfl⟩ : ∃ x, x = w2 := ⟨_, rfl⟩; simp only [KV.val])) | (go_at_call 10; (refine (l_eqKernel _ _ (⟨⟨⟨.slice yX0co yX0vs.length yX0cc, .slice yX0uo K.m.f.used.length yX0uc, yX0vs⟩, .slice yX0eo K.m.ents.length yX0ec⟩, .slice yX0ro K.refuse.length yX0rc⟩ : KV) (⟨⟨⟨.slice yEco yEvs.length yEcc, .slice yEuo K.m.f.used.length yEuc, yEvs⟩, .slice yEeo K.m.ents.length yEec⟩, .slice yEro K.refuse.length yErc⟩ : KV) _ _ (OX0.out.below (by exact bel)) (OE.below (by exact bel))).mono ?_; rintro e w2 ⟨rfl, hb⟩; have HQ2 := Lib.hid hb; have kwq2_X0_0 : w2.cell? ⟨wC.heap.size, 0, none⟩ = some (.slice yX0co yX0vs.length yX0cc) := kc hb; have kwq2_X0_1 : w2.cell? ⟨wC.heap.size, 1, none⟩ = some (.slice yX0uo K.m.f.used.length yX0uc) := kc hb; have kwq2_X0_2 : w2.cell? ⟨wC.heap.size, 2, none⟩ = some (.slice yX0eo K.m.ents.length yX0ec) := kc hb; have kwq2_X0_3 : w2.cell? ⟨wC.heap.size, 3, none⟩ = some (.int .i64 (K.calls)) := kc hb; have kwq2_X0_4 : w2.cell? ⟨wC.heap.size, 4, none⟩ = some (.slice yX0ro K.refuse.length yX0rc) := kc hb; have kwq2_P0_0 : w2.cell? ⟨w.heap.size, 0, none⟩ = some (x.m.f.c) := kc hb; have kwq2_P0_1 : w2.cell? ⟨w.heap.size, 1, none⟩ = some (x.m.f.u) := kc hb; have kwq2_P0_2 : w2.cell? ⟨w.heap.size, 2, none⟩ = some (x.m.e) := kc hb; have kwq2_P0_3 : w2.cell? ⟨w.heap.size, 3, none⟩ = some (.int .i64 K.calls) := kc hb; have kwq2_P0_4 : w2.cell? ⟨w.heap.size, 4, none⟩ = some (x.r) := kc hb; have xwq2_X0 : wC.heap.size < w2.heap.size := xc hb; have xwq2_P0 : w.heap.size < w2.heap.size := xc hb; have hzwq2 := hb.size; (try simp only [World.size_alloc, World.size_setCell, World.size_drew] at hzwq2); obtain ⟨wq2, rfl⟩ : ∃ x, x = w2 := ⟨_, rfl⟩)))
  have hb : Below (wF).heap.size (wF) wq2 := by (have hq1 := HQ1.out; have hq2 := HQ2.out; exact bel)
  clear xX0 cX00 fX00 cX01 fX01 cX02 fX02 cX03 fX03 cX04 fX04
  clear xP0 cP00 fP00 cP01 fP01 cP02 fP02 cP03 fP03 cP04 fP04
  clear kwq1_X0_0 kwq1_X0_1 kwq1_X0_2 kwq1_X0_3 kwq1_X0_4 kwq1_P0_0 kwq1_P0_1 kwq1_P0_2 kwq1_P0_3 kwq1_P0_4 hzwq1
  clear kwq2_X0_0 kwq2_X0_1 kwq2_X0_2 kwq2_X0_3 kwq2_X0_4 kwq2_P0_0 kwq2_P0_1 kwq2_P0_2 kwq2_P0_3 kwq2_P0_4 hzwq2
  obtain ⟨w2, rfl⟩ : ∃ x, x = wq2 := ⟨_, rfl⟩
  clear HQ1 HQ2 OE
  replace BP0 := Lib.hid (BP0.out.below hb)
  replace BP1 := Lib.hid (BP1.out.below hb)
  replace BW0 := Lib.hid (BW0.out.below hb)
  replace BW1 := Lib.hid (BW1.out.below hb)
  replace BX0 := Lib.hid (BX0.out.below hb)
  replace BG0 := Lib.hid (BG0.out.below hb)
  replace BG1 := Lib.hid (BG1.out.below hb)
  replace OW0 := Lib.hid (OW0.out.below hb)
  replace OX0 := Lib.hid (OX0.out.below hb)
  replace OG0 := Lib.hid (OG0.out.below hb)
  replace HA0 := Lib.hid (HA0.out.below hb)
  replace HT := Lib.hid (HT.out.trans (hb.mono HT.out.size))
  have zwG := hb.size; (try simp only [World.size_alloc] at zwG); clear hb; obtain ⟨wG, rfl⟩ : ∃ x, x = w2 := ⟨_, rfl⟩
  have cX00 := (BX0.out.cells 0 _ rfl).1; have fX00 := (BX0.out.cells 0 _ rfl).2
  have cX01 := (BX0.out.cells 1 _ rfl).1; have fX01 := (BX0.out.cells 1 _ rfl).2
  have cX02 := (BX0.out.cells 2 _ rfl).1; have fX02 := (BX0.out.cells 2 _ rfl).2
  have cX03 := (BX0.out.cells 3 _ rfl).1; have fX03 := (BX0.out.cells 3 _ rfl).2
  have cX04 := (BX0.out.cells 4 _ rfl).1; have fX04 := (BX0.out.cells 4 _ rfl).2
  have xX0 := BX0.out.lt
  go_wp2_with fail
  refine (l_markKernel _ (⟨⟨⟨.slice yX0co yX0vs.length yX0cc, .slice yX0uo K.m.f.used.length yX0uc, yX0vs⟩, .slice yX0eo K.m.ents.length yX0ec⟩, .slice yX0ro K.refuse.length yX0rc⟩ : KV) K 1 (by omega) _ OX0.out).mono ?_; rintro e w2 ⟨rfl, OM, ht⟩
  clear xX0 cX00 fX00 cX01 fX01 cX02 fX02 cX03 fX03 cX04 fX04
  replace BP0 := Lib.hid (BP0.out.touch ht (fun hm => by first | exact NP0_X0.out hm | (have := LX0.out _ hm; (try simp only [World.size_alloc] at this); omega)))
  replace BP1 := Lib.hid (BP1.out.touch ht (fun hm => by first | exact NP1_X0.out hm | (have := LX0.out _ hm; (try simp only [World.size_alloc] at this); omega)))
  replace BW0 := Lib.hid (BW0.out.touch ht (fun hm => by first | exact NW0_X0.out hm | (have := LX0.out _ hm; (try simp only [World.size_alloc] at this); omega)))
  replace BW1 := Lib.hid (BW1.out.touch ht (fun hm => by first | exact NW1_X0.out hm | (have := LX0.out _ hm; (try simp only [World.size_alloc] at this); omega)))
  replace BX0 := Lib.hid (BX0.out.touch ht (fun hm => by first | exact NX0_X0.out hm | (have := LX0.out _ hm; (try simp only [World.size_alloc] at this); omega)))
  replace BG0 := Lib.hid (BG0.out.touch ht (fun hm => by first | exact NG0_X0.out hm | (have := LX0.out _ hm; (try simp only [World.size_alloc] at this); omega)))
  replace BG1 := Lib.hid (BG1.out.touch ht (fun hm => by first | exact NG1_X0.out hm | (have := LX0.out _ hm; (try simp only [World.size_alloc] at this); omega)))
  replace OW0 := Lib.hid (OW0.out.touch ht (fun g hg hm => by (have h1 := LW0.out g hg; have h2 := LX0.out _ hm; (try simp only [World.size_alloc] at h1 h2); omega)))
  replace OG0 := Lib.hid (OG0.out.touch ht (fun g hg hm => by (have h1 := LG0.out g hg; have h2 := LX0.out _ hm; (try simp only [World.size_alloc] at h1 h2); omega)))
  have hb := ht.toBelow (B := w.heap.size) (fun g hg => by have h2 := LX0.out _ hg; (try simp only [World.size_alloc] at h2); omega) (by omega)
  replace HA0 := Lib.hid (KAt.below HAw0.out (HT.out.trans hb))
  replace HT := Lib.hid (HT.out.trans hb)
  have zwH := ht.size; clear ht hb; obtain ⟨wH, rfl⟩ : ∃ x, x = w2 := ⟨_, rfl⟩
  clear OX0
  clear OM
  clear BX0
  have cG00 := (BG0.out.cells 0 _ rfl).1; have fG00 := (BG0.out.cells 0 _ rfl).2
  have cG01 := (BG0.out.cells 1 _ rfl).1; have fG01 := (BG0.out.cells 1 _ rfl).2
  have cG02 := (BG0.out.cells 2 _ rfl).1; have fG02 := (BG0.out.cells 2 _ rfl).2
  have cG03 := (BG0.out.cells 3 _ rfl).1; have fG03 := (BG0.out.cells 3 _ rfl).2
  have cG04 := (BG0.out.cells 4 _ rfl).1; have fG04 := (BG0.out.cells 4 _ rfl).2
  have xG0 := BG0.out.lt
  have cW00 := (BW0.out.cells 0 _ rfl).1; have fW00 := (BW0.out.cells 0 _ rfl).2
  have cW01 := (BW0.out.cells 1 _ rfl).1; have fW01 := (BW0.out.cells 1 _ rfl).2
  have cW02 := (BW0.out.cells 2 _ rfl).1; have fW02 := (BW0.out.cells 2 _ rfl).2
  have cW03 := (BW0.out.cells 3 _ rfl).1; have fW03 := (BW0.out.cells 3 _ rfl).2
  have cW04 := (BW0.out.cells 4 _ rfl).1; have fW04 := (BW0.out.cells 4 _ rfl).2
  have xW0 := BW0.out.lt
  go_wp2_with fail
  refine (l_eqKernel _ _ (⟨⟨⟨.slice yG0co yG0vs.length yG0cc, .slice yG0uo K2.m.f.used.length yG0uc, yG0vs⟩, .slice yG0eo K2.m.ents.length yG0ec⟩, .slice yG0ro K2.refuse.length yG0rc⟩ : KV) (⟨⟨⟨.slice yW0co yW0vs.length yW0cc, .slice yW0uo K2.m.f.used.length yW0uc, yW0vs⟩, .slice yW0eo K2.m.ents.length yW0ec⟩, .slice yW0ro K2.refuse.length yW0rc⟩ : KV) _ _ OG0.out OW0.out).mono ?_; rintro e w2 ⟨rfl, hb⟩
  clear xG0 cG00 fG00 cG01 fG01 cG02 fG02 cG03 fG03 cG04 fG04
  clear xW0 cW00 fW00 cW01 fW01 cW02 fW02 cW03 fW03 cW04 fW04
  replace BP0 := Lib.hid (BP0.out.below hb)
  replace BP1 := Lib.hid (BP1.out.below hb)
  replace BW0 := Lib.hid (BW0.out.below hb)
  replace BW1 := Lib.hid (BW1.out.below hb)
  replace BG0 := Lib.hid (BG0.out.below hb)
  replace BG1 := Lib.hid (BG1.out.below hb)
  replace OW0 := Lib.hid (OW0.out.below hb)
  replace OG0 := Lib.hid (OG0.out.below hb)
  replace HA0 := Lib.hid (HA0.out.below hb)
  replace HT := Lib.hid (HT.out.trans (hb.mono HT.out.size))
  have zwI := hb.size; (try simp only [World.size_alloc] at zwI); clear hb; obtain ⟨wI, rfl⟩ : ∃ x, x = w2 := ⟨_, rfl⟩
  have cG10 := (BG1.out.cells 0 _ rfl).1; have fG10 := (BG1.out.cells 0 _ rfl).2
  have cG11 := (BG1.out.cells 1 _ rfl).1; have fG11 := (BG1.out.cells 1 _ rfl).2
  have cG12 := (BG1.out.cells 2 _ rfl).1; have fG12 := (BG1.out.cells 2 _ rfl).2
  have xG1 := BG1.out.lt
  have cW10 := (BW1.out.cells 0 _ rfl).1; have fW10 := (BW1.out.cells 0 _ rfl).2
  have cW11 := (BW1.out.cells 1 _ rfl).1; have fW11 := (BW1.out.cells 1 _ rfl).2
  have cW12 := (BW1.out.cells 2 _ rfl).1; have fW12 := (BW1.out.cells 2 _ rfl).2
  have xW1 := BW1.out.lt
  go_wp2_with fail
  refine (l_eqSpan p c b2 _).mono ?_; rintro e w2 ⟨rfl, hb⟩
  clear xG1 cG10 fG10 cG11 fG11 cG12 fG12
  clear xW1 cW10 fW10 cW11 fW11 cW12 fW12
  replace BP0 := Lib.hid (BP0.out.below hb)
  replace BP1 := Lib.hid (BP1.out.below hb)
  replace BW0 := Lib.hid (BW0.out.below hb)
  replace BW1 := Lib.hid (BW1.out.below hb)
  replace BG0 := Lib.hid (BG0.out.below hb)
  replace BG1 := Lib.hid (BG1.out.below hb)
  replace OW0 := Lib.hid (OW0.out.below hb)
  replace OG0 := Lib.hid (OG0.out.below hb)
  replace HA0 := Lib.hid (HA0.out.below hb)
  replace HT := Lib.hid (HT.out.trans (hb.mono HT.out.size))
  have zwJ := hb.size; (try simp only [World.size_alloc] at zwJ); clear hb; obtain ⟨wJ, rfl⟩ : ∃ x, x = w2 := ⟨_, rfl⟩
  have cG00 := (BG0.out.cells 0 _ rfl).1; have fG00 := (BG0.out.cells 0 _ rfl).2
  have cG01 := (BG0.out.cells 1 _ rfl).1; have fG01 := (BG0.out.cells 1 _ rfl).2
  have cG02 := (BG0.out.cells 2 _ rfl).1; have fG02 := (BG0.out.cells 2 _ rfl).2
  have cG03 := (BG0.out.cells 3 _ rfl).1; have fG03 := (BG0.out.cells 3 _ rfl).2
  have cG04 := (BG0.out.cells 4 _ rfl).1; have fG04 := (BG0.out.cells 4 _ rfl).2
  have xG0 := BG0.out.lt
  go_wp2_with fail
  refine (l_markKernel _ (⟨⟨⟨.slice yG0co yG0vs.length yG0cc, .slice yG0uo K2.m.f.used.length yG0uc, yG0vs⟩, .slice yG0eo K2.m.ents.length yG0ec⟩, .slice yG0ro K2.refuse.length yG0rc⟩ : KV) K2 1 (by omega) _ OG0.out).mono ?_; rintro e w2 ⟨rfl, OM, ht⟩
  clear xG0 cG00 fG00 cG01 fG01 cG02 fG02 cG03 fG03 cG04 fG04
  replace BP0 := Lib.hid (BP0.out.touch ht (fun hm => by first | exact NP0_G0.out hm | (have := LG0.out _ hm; (try simp only [World.size_alloc] at this); omega)))
  replace BP1 := Lib.hid (BP1.out.touch ht (fun hm => by first | exact NP1_G0.out hm | (have := LG0.out _ hm; (try simp only [World.size_alloc] at this); omega)))
  replace BW0 := Lib.hid (BW0.out.touch ht (fun hm => by first | exact NW0_G0.out hm | (have := LG0.out _ hm; (try simp only [World.size_alloc] at this); omega)))
  replace BW1 := Lib.hid (BW1.out.touch ht (fun hm => by first | exact NW1_G0.out hm | (have := LG0.out _ hm; (try simp only [World.size_alloc] at this); omega)))
  replace BG0 := Lib.hid (BG0.out.touch ht (fun hm => by first | exact NG0_G0.out hm | (have := LG0.out _ hm; (try simp only [World.size_alloc] at this); omega)))
  replace BG1 := Lib.hid (BG1.out.touch ht (fun hm => by first | exact NG1_G0.out hm | (have := LG0.out _ hm; (try simp only [World.size_alloc] at this); omega)))
  replace OW0 := Lib.hid (OW0.out.touch ht (fun g hg hm => by (have h1 := LW0.out g hg; have h2 := LG0.out _ hm; (try simp only [World.size_alloc] at h1 h2); omega)))
  have hb := ht.toBelow (B := w.heap.size) (fun g hg => by have h2 := LG0.out _ hg; (try simp only [World.size_alloc] at h2); omega) (by omega)
  replace HA0 := Lib.hid (KAt.below HAw0.out (HT.out.trans hb))
  replace HT := Lib.hid (HT.out.trans hb)
  have zwK := ht.size; clear ht hb; obtain ⟨wK, rfl⟩ : ∃ x, x = w2 := ⟨_, rfl⟩
  clear OG0
  have OG0 := Lib.hid OM; clear OM
  have cG00 := (BG0.out.cells 0 _ rfl).1; have fG00 := (BG0.out.cells 0 _ rfl).2
  have cG01 := (BG0.out.cells 1 _ rfl).1; have fG01 := (BG0.out.cells 1 _ rfl).2
  have cG02 := (BG0.out.cells 2 _ rfl).1; have fG02 := (BG0.out.cells 2 _ rfl).2
  have cG03 := (BG0.out.cells 3 _ rfl).1; have fG03 := (BG0.out.cells 3 _ rfl).2
  have cG04 := (BG0.out.cells 4 _ rfl).1; have fG04 := (BG0.out.cells 4 _ rfl).2
  have xG0 := BG0.out.lt
  go_wp2_with fail
  refine (l_heldKernel _ (⟨⟨⟨.slice yG0co yG0vs.length yG0cc, .slice yG0uo K2.m.f.used.length yG0uc, yG0vs⟩, .slice yG0eo K2.m.ents.length yG0ec⟩, .slice yG0ro K2.refuse.length yG0rc⟩ : KV) K2 1 (by omega) _ OG0.out).mono ?_; rintro e w2 ⟨rfl, hb⟩
  clear xG0 cG00 fG00 cG01 fG01 cG02 fG02 cG03 fG03 cG04 fG04
  replace BP0 := Lib.hid (BP0.out.below hb)
  replace BP1 := Lib.hid (BP1.out.below hb)
  replace BW0 := Lib.hid (BW0.out.below hb)
  replace BW1 := Lib.hid (BW1.out.below hb)
  replace BG0 := Lib.hid (BG0.out.below hb)
  replace BG1 := Lib.hid (BG1.out.below hb)
  replace OW0 := Lib.hid (OW0.out.below hb)
  replace OG0 := Lib.hid (OG0.out.below hb)
  replace HA0 := Lib.hid (HA0.out.below hb)
  replace HT := Lib.hid (HT.out.trans (hb.mono HT.out.size))
  have zwL := hb.size; (try simp only [World.size_alloc] at zwL); clear hb; obtain ⟨wL, rfl⟩ : ∃ x, x = w2 := ⟨_, rfl⟩
  have cP00 := (BP0.out.cells 0 _ rfl).1; have fP00 := (BP0.out.cells 0 _ rfl).2
  have cP01 := (BP0.out.cells 1 _ rfl).1; have fP01 := (BP0.out.cells 1 _ rfl).2
  have cP02 := (BP0.out.cells 2 _ rfl).1; have fP02 := (BP0.out.cells 2 _ rfl).2
  have cP03 := (BP0.out.cells 3 _ rfl).1; have fP03 := (BP0.out.cells 3 _ rfl).2
  have cP04 := (BP0.out.cells 4 _ rfl).1; have fP04 := (BP0.out.cells 4 _ rfl).2
  have xP0 := BP0.out.lt
  have cP10 := (BP1.out.cells 0 _ rfl).1; have fP10 := (BP1.out.cells 0 _ rfl).2
  have cP11 := (BP1.out.cells 1 _ rfl).1; have fP11 := (BP1.out.cells 1 _ rfl).2
  have cP12 := (BP1.out.cells 2 _ rfl).1; have fP12 := (BP1.out.cells 2 _ rfl).2
  have xP1 := BP1.out.lt
  go_wp2_with fail
  go_upto_region 24 with fail
  go_cut [18, 19, 20] (fun ss18 ss19 ss20 wx => ∃ yH0co yH0cc yH0uo yH0uc yH0vs yH0eo yH0ec yH0ro yH0rc gH0 gH1, ss18 = .pointer (some ⟨gH0, 0, none⟩) ∧ ss19 = .pointer (some ⟨gH1, 0, none⟩) ∧ ss20 = .int .i64 code ∧ BoxAt wx gH0 [.slice yH0co yH0vs.length yH0cc, .slice yH0uo K2.m.f.used.length yH0uc, .slice yH0eo K2.m.ents.length yH0ec, .int .i64 (K2.calls), .slice yH0ro K2.refuse.length yH0rc] ∧ BoxAt wx gH1 [.int .i64 p, .int .i64 c, .int .i64 b2] ∧ KOwn (wL.heap.size) wx (⟨⟨⟨.slice yH0co yH0vs.length yH0cc, .slice yH0uo K2.m.f.used.length yH0uc, yH0vs⟩, .slice yH0eo K2.m.ents.length yH0ec⟩, .slice yH0ro K2.refuse.length yH0rc⟩ : KV) K2 ∧ gH0 ∉ blocks (KV.all (⟨⟨⟨.slice yH0co yH0vs.length yH0cc, .slice yH0uo K2.m.f.used.length yH0uc, yH0vs⟩, .slice yH0eo K2.m.ents.length yH0ec⟩, .slice yH0ro K2.refuse.length yH0rc⟩ : KV)) ∧ gH1 ∉ blocks (KV.all (⟨⟨⟨.slice yH0co yH0vs.length yH0cc, .slice yH0uo K2.m.f.used.length yH0uc, yH0vs⟩, .slice yH0eo K2.m.ents.length yH0ec⟩, .slice yH0ro K2.refuse.length yH0rc⟩ : KV)) ∧ wL.heap.size ≤ gH0 ∧ wL.heap.size ≤ gH1 ∧ Below (wL).heap.size (wL) wx)
  case first =>
      refine wp_gen (fun a0 ha0 => ?_)
      have hsz : a0.tmps.size = 133 := by rw [ha0]; rfl
      have hps : (wL).heap.size = wL.heap.size := by first | rfl | simp only [World.size_alloc]
      have X3 : ∀ u, (frAll a0 [101, 102, 103, 104, 105, 106, 100, 107, 108, 109, 18, 19, 20] u).tmps.getD 3 undef = .pointer (some ⟨w.heap.size, 0, none⟩) := fun u => (frAll_other (by decide)).trans (by rw [ha0]; rfl)
      have X4 : ∀ u, (frAll a0 [101, 102, 103, 104, 105, 106, 100, 107, 108, 109, 18, 19, 20] u).tmps.getD 4 undef = .pointer (some ⟨w.heap.size + 1, 0, none⟩) := fun u => (frAll_other (by decide)).trans (by rw [ha0]; rfl)
      have X2 : ∀ u, (frAll a0 [101, 102, 103, 104, 105, 106, 100, 107, 108, 109, 18, 19, 20] u).tmps.getD 2 undef = .int .i64 slot := fun u => (frAll_other (by decide)).trans (by rw [ha0]; rfl)
      have E101 : ∀ u, (frAll a0 [101, 102, 103, 104, 105, 106, 100, 107, 108, 109, 18, 19, 20] u).tmps.getD 101 undef = u 101 := fun u => frAll_eval (by decide) (by rw [hsz]; decide)
      have P101 : ∀ u v, (frAll a0 [101, 102, 103, 104, 105, 106, 100, 107, 108, 109, 18, 19, 20] u).put (some 101) v = frAll a0 [101, 102, 103, 104, 105, 106, 100, 107, 108, 109, 18, 19, 20] (frUpd u 101 v) := fun u v => frAll_put v (by decide)
      have E102 : ∀ u, (frAll a0 [101, 102, 103, 104, 105, 106, 100, 107, 108, 109, 18, 19, 20] u).tmps.getD 102 undef = u 102 := fun u => frAll_eval (by decide) (by rw [hsz]; decide)
      have P102 : ∀ u v, (frAll a0 [101, 102, 103, 104, 105, 106, 100, 107, 108, 109, 18, 19, 20] u).put (some 102) v = frAll a0 [101, 102, 103, 104, 105, 106, 100, 107, 108, 109, 18, 19, 20] (frUpd u 102 v) := fun u v => frAll_put v (by decide)
      have E103 : ∀ u, (frAll a0 [101, 102, 103, 104, 105, 106, 100, 107, 108, 109, 18, 19, 20] u).tmps.getD 103 undef = u 103 := fun u => frAll_eval (by decide) (by rw [hsz]; decide)
      have P103 : ∀ u v, (frAll a0 [101, 102, 103, 104, 105, 106, 100, 107, 108, 109, 18, 19, 20] u).put (some 103) v = frAll a0 [101, 102, 103, 104, 105, 106, 100, 107, 108, 109, 18, 19, 20] (frUpd u 103 v) := fun u v => frAll_put v (by decide)
      have E104 : ∀ u, (frAll a0 [101, 102, 103, 104, 105, 106, 100, 107, 108, 109, 18, 19, 20] u).tmps.getD 104 undef = u 104 := fun u => frAll_eval (by decide) (by rw [hsz]; decide)
      have P104 : ∀ u v, (frAll a0 [101, 102, 103, 104, 105, 106, 100, 107, 108, 109, 18, 19, 20] u).put (some 104) v = frAll a0 [101, 102, 103, 104, 105, 106, 100, 107, 108, 109, 18, 19, 20] (frUpd u 104 v) := fun u v => frAll_put v (by decide)
      have E105 : ∀ u, (frAll a0 [101, 102, 103, 104, 105, 106, 100, 107, 108, 109, 18, 19, 20] u).tmps.getD 105 undef = u 105 := fun u => frAll_eval (by decide) (by rw [hsz]; decide)
      have P105 : ∀ u v, (frAll a0 [101, 102, 103, 104, 105, 106, 100, 107, 108, 109, 18, 19, 20] u).put (some 105) v = frAll a0 [101, 102, 103, 104, 105, 106, 100, 107, 108, 109, 18, 19, 20] (frUpd u 105 v) := fun u v => frAll_put v (by decide)
      have E106 : ∀ u, (frAll a0 [101, 102, 103, 104, 105, 106, 100, 107, 108, 109, 18, 19, 20] u).tmps.getD 106 undef = u 106 := fun u => frAll_eval (by decide) (by rw [hsz]; decide)
      have P106 : ∀ u v, (frAll a0 [101, 102, 103, 104, 105, 106, 100, 107, 108, 109, 18, 19, 20] u).put (some 106) v = frAll a0 [101, 102, 103, 104, 105, 106, 100, 107, 108, 109, 18, 19, 20] (frUpd u 106 v) := fun u v => frAll_put v (by decide)
      have E100 : ∀ u, (frAll a0 [101, 102, 103, 104, 105, 106, 100, 107, 108, 109, 18, 19, 20] u).tmps.getD 100 undef = u 100 := fun u => frAll_eval (by decide) (by rw [hsz]; decide)
      have P100 : ∀ u v, (frAll a0 [101, 102, 103, 104, 105, 106, 100, 107, 108, 109, 18, 19, 20] u).put (some 100) v = frAll a0 [101, 102, 103, 104, 105, 106, 100, 107, 108, 109, 18, 19, 20] (frUpd u 100 v) := fun u v => frAll_put v (by decide)
      have E107 : ∀ u, (frAll a0 [101, 102, 103, 104, 105, 106, 100, 107, 108, 109, 18, 19, 20] u).tmps.getD 107 undef = u 107 := fun u => frAll_eval (by decide) (by rw [hsz]; decide)
      have P107 : ∀ u v, (frAll a0 [101, 102, 103, 104, 105, 106, 100, 107, 108, 109, 18, 19, 20] u).put (some 107) v = frAll a0 [101, 102, 103, 104, 105, 106, 100, 107, 108, 109, 18, 19, 20] (frUpd u 107 v) := fun u v => frAll_put v (by decide)
      have E108 : ∀ u, (frAll a0 [101, 102, 103, 104, 105, 106, 100, 107, 108, 109, 18, 19, 20] u).tmps.getD 108 undef = u 108 := fun u => frAll_eval (by decide) (by rw [hsz]; decide)
      have P108 : ∀ u v, (frAll a0 [101, 102, 103, 104, 105, 106, 100, 107, 108, 109, 18, 19, 20] u).put (some 108) v = frAll a0 [101, 102, 103, 104, 105, 106, 100, 107, 108, 109, 18, 19, 20] (frUpd u 108 v) := fun u v => frAll_put v (by decide)
      have E109 : ∀ u, (frAll a0 [101, 102, 103, 104, 105, 106, 100, 107, 108, 109, 18, 19, 20] u).tmps.getD 109 undef = u 109 := fun u => frAll_eval (by decide) (by rw [hsz]; decide)
      have P109 : ∀ u v, (frAll a0 [101, 102, 103, 104, 105, 106, 100, 107, 108, 109, 18, 19, 20] u).put (some 109) v = frAll a0 [101, 102, 103, 104, 105, 106, 100, 107, 108, 109, 18, 19, 20] (frUpd u 109 v) := fun u v => frAll_put v (by decide)
      have E18 : ∀ u, (frAll a0 [101, 102, 103, 104, 105, 106, 100, 107, 108, 109, 18, 19, 20] u).tmps.getD 18 undef = u 18 := fun u => frAll_eval (by decide) (by rw [hsz]; decide)
      have P18 : ∀ u v, (frAll a0 [101, 102, 103, 104, 105, 106, 100, 107, 108, 109, 18, 19, 20] u).put (some 18) v = frAll a0 [101, 102, 103, 104, 105, 106, 100, 107, 108, 109, 18, 19, 20] (frUpd u 18 v) := fun u v => frAll_put v (by decide)
      have E19 : ∀ u, (frAll a0 [101, 102, 103, 104, 105, 106, 100, 107, 108, 109, 18, 19, 20] u).tmps.getD 19 undef = u 19 := fun u => frAll_eval (by decide) (by rw [hsz]; decide)
      have P19 : ∀ u v, (frAll a0 [101, 102, 103, 104, 105, 106, 100, 107, 108, 109, 18, 19, 20] u).put (some 19) v = frAll a0 [101, 102, 103, 104, 105, 106, 100, 107, 108, 109, 18, 19, 20] (frUpd u 19 v) := fun u v => frAll_put v (by decide)
      have E20 : ∀ u, (frAll a0 [101, 102, 103, 104, 105, 106, 100, 107, 108, 109, 18, 19, 20] u).tmps.getD 20 undef = u 20 := fun u => frAll_eval (by decide) (by rw [hsz]; decide)
      have P20 : ∀ u v, (frAll a0 [101, 102, 103, 104, 105, 106, 100, 107, 108, 109, 18, 19, 20] u).put (some 20) v = frAll a0 [101, 102, 103, 104, 105, 106, 100, 107, 108, 109, 18, 19, 20] (frUpd u 20 v) := fun u v => frAll_put v (by decide)
      replace ha0 := Lib.hid ha0
      refine wp_region_frame [101, 102, 103, 104, 105, 106, 100, 107, 108, 109, 18, 19, 20] (fun D u w => ∃ yC0co yC0cc yC0uo yC0uc yC0vs yC0eo yC0ec yC0ro yC0rc yH0co yH0cc yH0uo yH0uc yH0vs yH0eo yH0ec yH0ro yH0rc gH0 gH1, Hid (Below (wL).heap.size (wL) w) ∧ Hid (D 0 → u 101 = .agg #[x.m.f.c, x.m.f.u, x.m.e, .int .i64 K.calls, x.r]) ∧ Hid (D 1 → u 102 = .agg #[.slice yC0co yC0vs.length yC0cc, .slice yC0uo K.m.f.used.length yC0uc, .slice yC0eo K.m.ents.length yC0ec, .int .i64 (K.calls), .slice yC0ro K.refuse.length yC0rc]) ∧ Hid (D 2 → u 103 = .agg #[.int .i64 p, .int .i64 c, .int .i64 b]) ∧ Hid (D 3 → u 104 = .agg #[.int .i64 p, .int .i64 c, .int .i64 b]) ∧ Hid (D 4 → u 105 = .int .i64 slot) ∧ Hid (D 5 → u 106 = .tuple #[.agg #[.slice yH0co yH0vs.length yH0cc, .slice yH0uo K2.m.f.used.length yH0uc, .slice yH0eo K2.m.ents.length yH0ec, .int .i64 (K2.calls), .slice yH0ro K2.refuse.length yH0rc], .agg #[.int .i64 p, .int .i64 c, .int .i64 b2], .int .i64 code]) ∧ Hid (D 6 → u 100 = .tuple #[.agg #[.slice yH0co yH0vs.length yH0cc, .slice yH0uo K2.m.f.used.length yH0uc, .slice yH0eo K2.m.ents.length yH0ec, .int .i64 (K2.calls), .slice yH0ro K2.refuse.length yH0rc], .agg #[.int .i64 p, .int .i64 c, .int .i64 b2], .int .i64 code]) ∧ Hid (D 7 → u 107 = .agg #[.slice yH0co yH0vs.length yH0cc, .slice yH0uo K2.m.f.used.length yH0uc, .slice yH0eo K2.m.ents.length yH0ec, .int .i64 (K2.calls), .slice yH0ro K2.refuse.length yH0rc]) ∧ Hid (D 8 → u 108 = .agg #[.int .i64 p, .int .i64 c, .int .i64 b2]) ∧ Hid (D 9 → u 109 = .int .i64 code) ∧ Hid (D 10 → u 18 = .pointer (some ⟨gH0, 0, none⟩)) ∧ Hid (D 11 → u 19 = .pointer (some ⟨gH1, 0, none⟩)) ∧ Hid (D 14 → u 20 = .int .i64 code) ∧ Hid (D 1 → ¬ D 5 → KOwn (wL.heap.size) w (⟨⟨⟨.slice yC0co yC0vs.length yC0cc, .slice yC0uo K.m.f.used.length yC0uc, yC0vs⟩, .slice yC0eo K.m.ents.length yC0ec⟩, .slice yC0ro K.refuse.length yC0rc⟩ : KV) K) ∧ Hid (D 5 → KOwn (wL.heap.size) w (⟨⟨⟨.slice yH0co yH0vs.length yH0cc, .slice yH0uo K2.m.f.used.length yH0uc, yH0vs⟩, .slice yH0eo K2.m.ents.length yH0ec⟩, .slice yH0ro K2.refuse.length yH0rc⟩ : KV) K2) ∧ Hid (D 10 → wL.heap.size ≤ gH0 ∧ gH0 < w.heap.size) ∧ Hid (D 10 → ¬ D 12 → BoxAt w gH0 [.slice none 0 0, .slice none 0 0, .slice none 0 0, .int .i64 0, .slice none 0 0]) ∧ Hid (D 12 → BoxAt w gH0 [.slice yH0co yH0vs.length yH0cc, .slice yH0uo K2.m.f.used.length yH0uc, .slice yH0eo K2.m.ents.length yH0ec, .int .i64 (K2.calls), .slice yH0ro K2.refuse.length yH0rc]) ∧ Hid (D 10 → D 5 → gH0 ∉ blocks (KV.all (⟨⟨⟨.slice yH0co yH0vs.length yH0cc, .slice yH0uo K2.m.f.used.length yH0uc, yH0vs⟩, .slice yH0eo K2.m.ents.length yH0ec⟩, .slice yH0ro K2.refuse.length yH0rc⟩ : KV))) ∧ Hid (D 11 → wL.heap.size ≤ gH1 ∧ gH1 < w.heap.size) ∧ Hid (D 11 → ¬ D 13 → BoxAt w gH1 [.int .i64 0, .int .i64 0, .int .i64 0]) ∧ Hid (D 13 → BoxAt w gH1 [.int .i64 p, .int .i64 c, .int .i64 b2]) ∧ Hid (D 11 → D 5 → gH1 ∉ blocks (KV.all (⟨⟨⟨.slice yH0co yH0vs.length yH0cc, .slice yH0uo K2.m.f.used.length yH0uc, yH0vs⟩, .slice yH0eo K2.m.ents.length yH0ec⟩, .slice yH0ro K2.refuse.length yH0rc⟩ : KV))) ∧ Hid (D 10 → D 11 → gH0 ≠ gH1)) (by kernel_rfl) (by kernel_rfl) ?_ ?_ ?_
      · exact ⟨default, default, default, default, default, default, default, default, default, default, default, default, default, default, default, default, default, default, default, default, Lib.hid (by exact bel), Lib.hid (fun h => h.elim), Lib.hid (fun h => h.elim), Lib.hid (fun h => h.elim), Lib.hid (fun h => h.elim), Lib.hid (fun h => h.elim), Lib.hid (fun h => h.elim), Lib.hid (fun h => h.elim), Lib.hid (fun h => h.elim), Lib.hid (fun h => h.elim), Lib.hid (fun h => h.elim), Lib.hid (fun h => h.elim), Lib.hid (fun h => h.elim), Lib.hid (fun h => h.elim), Lib.hid (fun h => h.elim), Lib.hid (fun h => h.elim), Lib.hid (fun h => h.elim), Lib.hid (fun h => h.elim), Lib.hid (fun h => h.elim), Lib.hid (fun h => h.elim), Lib.hid (fun h => h.elim), Lib.hid (fun h => h.elim), Lib.hid (fun h => h.elim), Lib.hid (fun h => h.elim), Lib.hid (fun h => h.elim)⟩
      · rintro D u w ⟨yC0co, yC0cc, yC0uo, yC0uc, yC0vs, yC0eo, yC0ec, yC0ro, yC0rc, yH0co, yH0cc, yH0uo, yH0uc, yH0vs, yH0eo, yH0ec, yH0ro, yH0rc, gH0, gH1, HBW, U0, U1, U2, U3, U4, U5, U6, U7, U8, U9, U10, U11, U14, OC0, OH0, A2gH0, A3gH0, A4gH0, A5gH0H0, A2gH1, A3gH1, A4gH1, A5gH1H0, A6gH0gH1⟩ hcl i hi hn hw
        have hi9 : i < 15 := hi; clear hi
        replace hcl := Lib.hid hcl; replace hw := Lib.hid hw
        have hbw := HBW.out; have hlw := hbw.size; rw [hps] at hlw
        rcases (by omega : i = 0 ∨ i = 1 ∨ i = 2 ∨ i = 3 ∨ i = 4 ∨ i = 5 ∨ i = 6 ∨ i = 7 ∨ i = 8 ∨ i = 9 ∨ i = 10 ∨ i = 11 ∨ i = 12 ∨ i = 13 ∨ i = 14) with rfl | rfl | rfl | rfl | rfl | rfl | rfl | rfl | rfl | rfl | rfl | rfl | rfl | rfl | rfl
        · skip
          refine wpOp_step (o := _) rfl (fun KK hKK => ?_)
          rw [if_pos (wanted_nil _ rfl)]
          have E3_ := X3 u
          have bx := BP0.out.below hbw
          have c0 := (bx.cells 0 _ rfl).1
          have c1 := (bx.cells 1 _ rfl).1
          have c2 := (bx.cells 2 _ rfl).1
          have c3 := (bx.cells 3 _ rfl).1
          have c4 := (bx.cells 4 _ rfl).1
          skip
          go_simp
          exact hKK _ _ ⟨_, P101 u _, yC0co, yC0cc, yC0uo, yC0uc, yC0vs, yC0eo, yC0ec, yC0ro, yC0rc, yH0co, yH0cc, yH0uo, yH0uc, yH0vs, yH0eo, yH0ec, yH0ro, yH0rc, gH0, gH1, HBW, Lib.hid (fun h0 => frUpd_self), Lib.hid (fun h0 => (frUpd_ne (by decide)).trans (U1.out (addD_of h0 (by decide)))), Lib.hid (fun h0 => (frUpd_ne (by decide)).trans (U2.out (addD_of h0 (by decide)))), Lib.hid (fun h0 => (frUpd_ne (by decide)).trans (U3.out (addD_of h0 (by decide)))), Lib.hid (fun h0 => (frUpd_ne (by decide)).trans (U4.out (addD_of h0 (by decide)))), Lib.hid (fun h0 => (frUpd_ne (by decide)).trans (U5.out (addD_of h0 (by decide)))), Lib.hid (fun h0 => (frUpd_ne (by decide)).trans (U6.out (addD_of h0 (by decide)))), Lib.hid (fun h0 => (frUpd_ne (by decide)).trans (U7.out (addD_of h0 (by decide)))), Lib.hid (fun h0 => (frUpd_ne (by decide)).trans (U8.out (addD_of h0 (by decide)))), Lib.hid (fun h0 => (frUpd_ne (by decide)).trans (U9.out (addD_of h0 (by decide)))), Lib.hid (fun h0 => (frUpd_ne (by decide)).trans (U10.out (addD_of h0 (by decide)))), Lib.hid (fun h0 => (frUpd_ne (by decide)).trans (U11.out (addD_of h0 (by decide)))), Lib.hid (fun h0 => (frUpd_ne (by decide)).trans (U14.out (addD_of h0 (by decide)))), Lib.hid (fun h0 m0 => (OC0.out (addD_of h0 (by decide)) (fun x => m0 (addD_mem x)))), Lib.hid (fun h0 => (OH0.out (addD_of h0 (by decide)))), Lib.hid (fun h0 => (A2gH0.out (addD_of h0 (by decide)))), Lib.hid (fun h0 m0 => (A3gH0.out (addD_of h0 (by decide)) (fun x => m0 (addD_mem x)))), Lib.hid (fun h0 => (A4gH0.out (addD_of h0 (by decide)))), Lib.hid (fun h0 h1 => (A5gH0H0.out (addD_of h0 (by decide)) (addD_of h1 (by decide)))), Lib.hid (fun h0 => (A2gH1.out (addD_of h0 (by decide)))), Lib.hid (fun h0 m0 => (A3gH1.out (addD_of h0 (by decide)) (fun x => m0 (addD_mem x)))), Lib.hid (fun h0 => (A4gH1.out (addD_of h0 (by decide)))), Lib.hid (fun h0 h1 => (A5gH1H0.out (addD_of h0 (by decide)) (addD_of h1 (by decide)))), Lib.hid (fun h0 h1 => (A6gH0gH1.out (addD_of h0 (by decide)) (addD_of h1 (by decide))))⟩
        · skip
          refine wpOp_step (o := _) rfl (fun KK hKK => ?_)
          rw [if_pos (wanted_nil _ rfl)]
          have e101 := U0.out (hw.out 0 (by kernel_rfl)); have E101_ := (E101 u).trans e101
          skip
          go_simp
          refine (l_toKernel x K (by omega) _ (HA0.out.below hbw)).mono ?_; rintro e w2 ⟨yC0, rfl, OC0, hb⟩
          obtain ⟨yC0co, yC0cc, yC0uo, yC0uc, yC0vs, yC0eo, yC0ec, yC0ro, yC0rc, rfl⟩ := KOwn.shapes OC0
          simp only [KV.val]
          have hbn := hb.size
          try dsimp only
          exact hKK _ _ ⟨_, P102 u _, yC0co, yC0cc, yC0uo, yC0uc, yC0vs, yC0eo, yC0ec, yC0ro, yC0rc, yH0co, yH0cc, yH0uo, yH0uc, yH0vs, yH0eo, yH0ec, yH0ro, yH0rc, gH0, gH1, (Lib.hid (hbw.trans (hb.mono (by rw [hps]; omega)))), Lib.hid (fun h0 => (frUpd_ne (by decide)).trans (U0.out (addD_of h0 (by decide)))), Lib.hid (fun h0 => frUpd_self), Lib.hid (fun h0 => (frUpd_ne (by decide)).trans (U2.out (addD_of h0 (by decide)))), Lib.hid (fun h0 => (frUpd_ne (by decide)).trans (U3.out (addD_of h0 (by decide)))), Lib.hid (fun h0 => (frUpd_ne (by decide)).trans (U4.out (addD_of h0 (by decide)))), Lib.hid (fun h0 => (frUpd_ne (by decide)).trans (U5.out (addD_of h0 (by decide)))), Lib.hid (fun h0 => (frUpd_ne (by decide)).trans (U6.out (addD_of h0 (by decide)))), Lib.hid (fun h0 => (frUpd_ne (by decide)).trans (U7.out (addD_of h0 (by decide)))), Lib.hid (fun h0 => (frUpd_ne (by decide)).trans (U8.out (addD_of h0 (by decide)))), Lib.hid (fun h0 => (frUpd_ne (by decide)).trans (U9.out (addD_of h0 (by decide)))), Lib.hid (fun h0 => (frUpd_ne (by decide)).trans (U10.out (addD_of h0 (by decide)))), Lib.hid (fun h0 => (frUpd_ne (by decide)).trans (U11.out (addD_of h0 (by decide)))), Lib.hid (fun h0 => (frUpd_ne (by decide)).trans (U14.out (addD_of h0 (by decide)))), Lib.hid (fun h0 m0 => KOwn.mono OC0 (by omega)), Lib.hid (fun h0 => (OH0.out (addD_of h0 (by decide))).below hb), Lib.hid (fun h0 => ⟨(A2gH0.out (addD_of h0 (by decide))).1, Nat.lt_of_lt_of_le (A2gH0.out (addD_of h0 (by decide))).2 hb.size⟩), Lib.hid (fun h0 m0 => (A3gH0.out (addD_of h0 (by decide)) (fun x => m0 (addD_mem x))).below hb), Lib.hid (fun h0 => (A4gH0.out (addD_of h0 (by decide))).below hb), Lib.hid (fun h0 h1 => (A5gH0H0.out (addD_of h0 (by decide)) (addD_of h1 (by decide)))), Lib.hid (fun h0 => ⟨(A2gH1.out (addD_of h0 (by decide))).1, Nat.lt_of_lt_of_le (A2gH1.out (addD_of h0 (by decide))).2 hb.size⟩), Lib.hid (fun h0 m0 => (A3gH1.out (addD_of h0 (by decide)) (fun x => m0 (addD_mem x))).below hb), Lib.hid (fun h0 => (A4gH1.out (addD_of h0 (by decide))).below hb), Lib.hid (fun h0 h1 => (A5gH1H0.out (addD_of h0 (by decide)) (addD_of h1 (by decide)))), Lib.hid (fun h0 h1 => (A6gH0gH1.out (addD_of h0 (by decide)) (addD_of h1 (by decide))))⟩
        · skip
          refine wpOp_step (o := _) rfl (fun KK hKK => ?_)
          rw [if_pos (wanted_nil _ rfl)]
          have E4_ := X4 u
          have bx := BP1.out.below hbw
          have c0 := (bx.cells 0 _ rfl).1
          have c1 := (bx.cells 1 _ rfl).1
          have c2 := (bx.cells 2 _ rfl).1
          skip
          go_simp
          exact hKK _ _ ⟨_, P103 u _, yC0co, yC0cc, yC0uo, yC0uc, yC0vs, yC0eo, yC0ec, yC0ro, yC0rc, yH0co, yH0cc, yH0uo, yH0uc, yH0vs, yH0eo, yH0ec, yH0ro, yH0rc, gH0, gH1, HBW, Lib.hid (fun h0 => (frUpd_ne (by decide)).trans (U0.out (addD_of h0 (by decide)))), Lib.hid (fun h0 => (frUpd_ne (by decide)).trans (U1.out (addD_of h0 (by decide)))), Lib.hid (fun h0 => frUpd_self), Lib.hid (fun h0 => (frUpd_ne (by decide)).trans (U3.out (addD_of h0 (by decide)))), Lib.hid (fun h0 => (frUpd_ne (by decide)).trans (U4.out (addD_of h0 (by decide)))), Lib.hid (fun h0 => (frUpd_ne (by decide)).trans (U5.out (addD_of h0 (by decide)))), Lib.hid (fun h0 => (frUpd_ne (by decide)).trans (U6.out (addD_of h0 (by decide)))), Lib.hid (fun h0 => (frUpd_ne (by decide)).trans (U7.out (addD_of h0 (by decide)))), Lib.hid (fun h0 => (frUpd_ne (by decide)).trans (U8.out (addD_of h0 (by decide)))), Lib.hid (fun h0 => (frUpd_ne (by decide)).trans (U9.out (addD_of h0 (by decide)))), Lib.hid (fun h0 => (frUpd_ne (by decide)).trans (U10.out (addD_of h0 (by decide)))), Lib.hid (fun h0 => (frUpd_ne (by decide)).trans (U11.out (addD_of h0 (by decide)))), Lib.hid (fun h0 => (frUpd_ne (by decide)).trans (U14.out (addD_of h0 (by decide)))), Lib.hid (fun h0 m0 => (OC0.out (addD_of h0 (by decide)) (fun x => m0 (addD_mem x)))), Lib.hid (fun h0 => (OH0.out (addD_of h0 (by decide)))), Lib.hid (fun h0 => (A2gH0.out (addD_of h0 (by decide)))), Lib.hid (fun h0 m0 => (A3gH0.out (addD_of h0 (by decide)) (fun x => m0 (addD_mem x)))), Lib.hid (fun h0 => (A4gH0.out (addD_of h0 (by decide)))), Lib.hid (fun h0 h1 => (A5gH0H0.out (addD_of h0 (by decide)) (addD_of h1 (by decide)))), Lib.hid (fun h0 => (A2gH1.out (addD_of h0 (by decide)))), Lib.hid (fun h0 m0 => (A3gH1.out (addD_of h0 (by decide)) (fun x => m0 (addD_mem x)))), Lib.hid (fun h0 => (A4gH1.out (addD_of h0 (by decide)))), Lib.hid (fun h0 h1 => (A5gH1H0.out (addD_of h0 (by decide)) (addD_of h1 (by decide)))), Lib.hid (fun h0 h1 => (A6gH0gH1.out (addD_of h0 (by decide)) (addD_of h1 (by decide))))⟩
        · skip
          refine wpOp_step (o := _) rfl (fun KK hKK => ?_)
          rw [if_pos (wanted_nil _ rfl)]
          have e103 := U2.out (hw.out 2 (by kernel_rfl)); have E103_ := (E103 u).trans e103
          skip
          go_simp
          refine (l_toSpan p c b _).mono ?_; rintro e w2 ⟨rfl, hb⟩
          have hbn := hb.size
          try dsimp only
          exact hKK _ _ ⟨_, P104 u _, yC0co, yC0cc, yC0uo, yC0uc, yC0vs, yC0eo, yC0ec, yC0ro, yC0rc, yH0co, yH0cc, yH0uo, yH0uc, yH0vs, yH0eo, yH0ec, yH0ro, yH0rc, gH0, gH1, (Lib.hid (hbw.trans (hb.mono (by rw [hps]; omega)))), Lib.hid (fun h0 => (frUpd_ne (by decide)).trans (U0.out (addD_of h0 (by decide)))), Lib.hid (fun h0 => (frUpd_ne (by decide)).trans (U1.out (addD_of h0 (by decide)))), Lib.hid (fun h0 => (frUpd_ne (by decide)).trans (U2.out (addD_of h0 (by decide)))), Lib.hid (fun h0 => frUpd_self), Lib.hid (fun h0 => (frUpd_ne (by decide)).trans (U4.out (addD_of h0 (by decide)))), Lib.hid (fun h0 => (frUpd_ne (by decide)).trans (U5.out (addD_of h0 (by decide)))), Lib.hid (fun h0 => (frUpd_ne (by decide)).trans (U6.out (addD_of h0 (by decide)))), Lib.hid (fun h0 => (frUpd_ne (by decide)).trans (U7.out (addD_of h0 (by decide)))), Lib.hid (fun h0 => (frUpd_ne (by decide)).trans (U8.out (addD_of h0 (by decide)))), Lib.hid (fun h0 => (frUpd_ne (by decide)).trans (U9.out (addD_of h0 (by decide)))), Lib.hid (fun h0 => (frUpd_ne (by decide)).trans (U10.out (addD_of h0 (by decide)))), Lib.hid (fun h0 => (frUpd_ne (by decide)).trans (U11.out (addD_of h0 (by decide)))), Lib.hid (fun h0 => (frUpd_ne (by decide)).trans (U14.out (addD_of h0 (by decide)))), Lib.hid (fun h0 m0 => (OC0.out (addD_of h0 (by decide)) (fun x => m0 (addD_mem x))).below hb), Lib.hid (fun h0 => (OH0.out (addD_of h0 (by decide))).below hb), Lib.hid (fun h0 => ⟨(A2gH0.out (addD_of h0 (by decide))).1, Nat.lt_of_lt_of_le (A2gH0.out (addD_of h0 (by decide))).2 hb.size⟩), Lib.hid (fun h0 m0 => (A3gH0.out (addD_of h0 (by decide)) (fun x => m0 (addD_mem x))).below hb), Lib.hid (fun h0 => (A4gH0.out (addD_of h0 (by decide))).below hb), Lib.hid (fun h0 h1 => (A5gH0H0.out (addD_of h0 (by decide)) (addD_of h1 (by decide)))), Lib.hid (fun h0 => ⟨(A2gH1.out (addD_of h0 (by decide))).1, Nat.lt_of_lt_of_le (A2gH1.out (addD_of h0 (by decide))).2 hb.size⟩), Lib.hid (fun h0 m0 => (A3gH1.out (addD_of h0 (by decide)) (fun x => m0 (addD_mem x))).below hb), Lib.hid (fun h0 => (A4gH1.out (addD_of h0 (by decide))).below hb), Lib.hid (fun h0 h1 => (A5gH1H0.out (addD_of h0 (by decide)) (addD_of h1 (by decide)))), Lib.hid (fun h0 h1 => (A6gH0gH1.out (addD_of h0 (by decide)) (addD_of h1 (by decide))))⟩
        · skip
          refine wpOp_step (o := _) rfl (fun KK hKK => ?_)
          rw [if_pos (wanted_nil _ rfl)]
          have E2_ := X2 u
          skip
          go_simp
          exact hKK _ _ ⟨_, P105 u _, yC0co, yC0cc, yC0uo, yC0uc, yC0vs, yC0eo, yC0ec, yC0ro, yC0rc, yH0co, yH0cc, yH0uo, yH0uc, yH0vs, yH0eo, yH0ec, yH0ro, yH0rc, gH0, gH1, HBW, Lib.hid (fun h0 => (frUpd_ne (by decide)).trans (U0.out (addD_of h0 (by decide)))), Lib.hid (fun h0 => (frUpd_ne (by decide)).trans (U1.out (addD_of h0 (by decide)))), Lib.hid (fun h0 => (frUpd_ne (by decide)).trans (U2.out (addD_of h0 (by decide)))), Lib.hid (fun h0 => (frUpd_ne (by decide)).trans (U3.out (addD_of h0 (by decide)))), Lib.hid (fun h0 => frUpd_self), Lib.hid (fun h0 => (frUpd_ne (by decide)).trans (U5.out (addD_of h0 (by decide)))), Lib.hid (fun h0 => (frUpd_ne (by decide)).trans (U6.out (addD_of h0 (by decide)))), Lib.hid (fun h0 => (frUpd_ne (by decide)).trans (U7.out (addD_of h0 (by decide)))), Lib.hid (fun h0 => (frUpd_ne (by decide)).trans (U8.out (addD_of h0 (by decide)))), Lib.hid (fun h0 => (frUpd_ne (by decide)).trans (U9.out (addD_of h0 (by decide)))), Lib.hid (fun h0 => (frUpd_ne (by decide)).trans (U10.out (addD_of h0 (by decide)))), Lib.hid (fun h0 => (frUpd_ne (by decide)).trans (U11.out (addD_of h0 (by decide)))), Lib.hid (fun h0 => (frUpd_ne (by decide)).trans (U14.out (addD_of h0 (by decide)))), Lib.hid (fun h0 m0 => (OC0.out (addD_of h0 (by decide)) (fun x => m0 (addD_mem x)))), Lib.hid (fun h0 => (OH0.out (addD_of h0 (by decide)))), Lib.hid (fun h0 => (A2gH0.out (addD_of h0 (by decide)))), Lib.hid (fun h0 m0 => (A3gH0.out (addD_of h0 (by decide)) (fun x => m0 (addD_mem x)))), Lib.hid (fun h0 => (A4gH0.out (addD_of h0 (by decide)))), Lib.hid (fun h0 h1 => (A5gH0H0.out (addD_of h0 (by decide)) (addD_of h1 (by decide)))), Lib.hid (fun h0 => (A2gH1.out (addD_of h0 (by decide)))), Lib.hid (fun h0 m0 => (A3gH1.out (addD_of h0 (by decide)) (fun x => m0 (addD_mem x)))), Lib.hid (fun h0 => (A4gH1.out (addD_of h0 (by decide)))), Lib.hid (fun h0 h1 => (A5gH1H0.out (addD_of h0 (by decide)) (addD_of h1 (by decide)))), Lib.hid (fun h0 h1 => (A6gH0gH1.out (addD_of h0 (by decide)) (addD_of h1 (by decide))))⟩
        · skip
          refine wpOp_step (o := _) rfl (fun KK hKK => ?_)
          rw [if_pos (wanted_nil _ rfl)]
          have e102 := U1.out (hw.out 1 (by kernel_rfl)); have E102_ := (E102 u).trans e102
          have e104 := U3.out (hw.out 3 (by kernel_rfl)); have E104_ := (E104 u).trans e104
          have e105 := U4.out (hw.out 4 (by kernel_rfl)); have E105_ := (E105 u).trans e105
          skip
          go_simp
          refine (HI.out _ _ (KOwn.at (OC0.out (hw.out 1 (by kernel_rfl)) hn))).mono ?_; rintro e w2 ⟨yH0, rfl, OH0, hb⟩
          obtain ⟨yH0co, yH0cc, yH0uo, yH0uc, yH0vs, yH0eo, yH0ec, yH0ro, yH0rc, rfl⟩ := KOwn.shapes OH0
          simp only [KV.val]
          have hbn := hb.size
          try dsimp only
          exact hKK _ _ ⟨_, P106 u _, yC0co, yC0cc, yC0uo, yC0uc, yC0vs, yC0eo, yC0ec, yC0ro, yC0rc, yH0co, yH0cc, yH0uo, yH0uc, yH0vs, yH0eo, yH0ec, yH0ro, yH0rc, gH0, gH1, (Lib.hid (hbw.trans (hb.mono (by rw [hps]; omega)))), Lib.hid (fun h0 => (frUpd_ne (by decide)).trans (U0.out (addD_of h0 (by decide)))), Lib.hid (fun h0 => (frUpd_ne (by decide)).trans (U1.out (addD_of h0 (by decide)))), Lib.hid (fun h0 => (frUpd_ne (by decide)).trans (U2.out (addD_of h0 (by decide)))), Lib.hid (fun h0 => (frUpd_ne (by decide)).trans (U3.out (addD_of h0 (by decide)))), Lib.hid (fun h0 => (frUpd_ne (by decide)).trans (U4.out (addD_of h0 (by decide)))), Lib.hid (fun h0 => frUpd_self), Lib.hid (fun h0 => absurd (hcl.out 6 5 (by kernel_rfl) (addD_of h0 (by decide))) hn), Lib.hid (fun h0 => absurd (hcl.out 6 5 (by kernel_rfl) (hcl.out 7 6 (by kernel_rfl) (addD_of h0 (by decide)))) hn), Lib.hid (fun h0 => (frUpd_ne (by decide)).trans (U8.out (addD_of h0 (by decide)))), Lib.hid (fun h0 => (frUpd_ne (by decide)).trans (U9.out (addD_of h0 (by decide)))), Lib.hid (fun h0 => (frUpd_ne (by decide)).trans (U10.out (addD_of h0 (by decide)))), Lib.hid (fun h0 => (frUpd_ne (by decide)).trans (U11.out (addD_of h0 (by decide)))), Lib.hid (fun h0 => (frUpd_ne (by decide)).trans (U14.out (addD_of h0 (by decide)))), Lib.hid (fun h0 m0 => absurd (addD_self 5) m0), Lib.hid (fun h0 => KOwn.mono OH0 (by omega)), Lib.hid (fun h0 => ⟨(A2gH0.out (addD_of h0 (by decide))).1, Nat.lt_of_lt_of_le (A2gH0.out (addD_of h0 (by decide))).2 hb.size⟩), Lib.hid (fun h0 m0 => (A3gH0.out (addD_of h0 (by decide)) (fun x => m0 (addD_mem x))).below hb), Lib.hid (fun h0 => absurd (hcl.out 6 5 (by kernel_rfl) (hcl.out 7 6 (by kernel_rfl) (hcl.out 12 7 (by kernel_rfl) (addD_of h0 (by decide))))) hn), Lib.hid (fun h0 h1 => fun hm => Nat.lt_irrefl _ (Nat.lt_of_lt_of_le (A2gH0.out (addD_of h0 (by decide))).2 (((OH0).lts) _ hm).1)), Lib.hid (fun h0 => ⟨(A2gH1.out (addD_of h0 (by decide))).1, Nat.lt_of_lt_of_le (A2gH1.out (addD_of h0 (by decide))).2 hb.size⟩), Lib.hid (fun h0 m0 => (A3gH1.out (addD_of h0 (by decide)) (fun x => m0 (addD_mem x))).below hb), Lib.hid (fun h0 => (A4gH1.out (addD_of h0 (by decide))).below hb), Lib.hid (fun h0 h1 => fun hm => Nat.lt_irrefl _ (Nat.lt_of_lt_of_le (A2gH1.out (addD_of h0 (by decide))).2 (((OH0).lts) _ hm).1)), Lib.hid (fun h0 h1 => (A6gH0gH1.out (addD_of h0 (by decide)) (addD_of h1 (by decide))))⟩
        · skip
          refine wpOp_step (o := _) rfl (fun KK hKK => ?_)
          rw [if_pos (wanted_nil _ rfl)]
          have e106 := U5.out (hw.out 5 (by kernel_rfl)); have E106_ := (E106 u).trans e106
          skip
          go_simp
          exact hKK _ _ ⟨_, P100 u _, yC0co, yC0cc, yC0uo, yC0uc, yC0vs, yC0eo, yC0ec, yC0ro, yC0rc, yH0co, yH0cc, yH0uo, yH0uc, yH0vs, yH0eo, yH0ec, yH0ro, yH0rc, gH0, gH1, HBW, Lib.hid (fun h0 => (frUpd_ne (by decide)).trans (U0.out (addD_of h0 (by decide)))), Lib.hid (fun h0 => (frUpd_ne (by decide)).trans (U1.out (addD_of h0 (by decide)))), Lib.hid (fun h0 => (frUpd_ne (by decide)).trans (U2.out (addD_of h0 (by decide)))), Lib.hid (fun h0 => (frUpd_ne (by decide)).trans (U3.out (addD_of h0 (by decide)))), Lib.hid (fun h0 => (frUpd_ne (by decide)).trans (U4.out (addD_of h0 (by decide)))), Lib.hid (fun h0 => (frUpd_ne (by decide)).trans (U5.out (addD_of h0 (by decide)))), Lib.hid (fun h0 => frUpd_self), Lib.hid (fun h0 => (frUpd_ne (by decide)).trans (U7.out (addD_of h0 (by decide)))), Lib.hid (fun h0 => (frUpd_ne (by decide)).trans (U8.out (addD_of h0 (by decide)))), Lib.hid (fun h0 => (frUpd_ne (by decide)).trans (U9.out (addD_of h0 (by decide)))), Lib.hid (fun h0 => (frUpd_ne (by decide)).trans (U10.out (addD_of h0 (by decide)))), Lib.hid (fun h0 => (frUpd_ne (by decide)).trans (U11.out (addD_of h0 (by decide)))), Lib.hid (fun h0 => (frUpd_ne (by decide)).trans (U14.out (addD_of h0 (by decide)))), Lib.hid (fun h0 m0 => (OC0.out (addD_of h0 (by decide)) (fun x => m0 (addD_mem x)))), Lib.hid (fun h0 => (OH0.out (addD_of h0 (by decide)))), Lib.hid (fun h0 => (A2gH0.out (addD_of h0 (by decide)))), Lib.hid (fun h0 m0 => (A3gH0.out (addD_of h0 (by decide)) (fun x => m0 (addD_mem x)))), Lib.hid (fun h0 => (A4gH0.out (addD_of h0 (by decide)))), Lib.hid (fun h0 h1 => (A5gH0H0.out (addD_of h0 (by decide)) (addD_of h1 (by decide)))), Lib.hid (fun h0 => (A2gH1.out (addD_of h0 (by decide)))), Lib.hid (fun h0 m0 => (A3gH1.out (addD_of h0 (by decide)) (fun x => m0 (addD_mem x)))), Lib.hid (fun h0 => (A4gH1.out (addD_of h0 (by decide)))), Lib.hid (fun h0 h1 => (A5gH1H0.out (addD_of h0 (by decide)) (addD_of h1 (by decide)))), Lib.hid (fun h0 h1 => (A6gH0gH1.out (addD_of h0 (by decide)) (addD_of h1 (by decide))))⟩
        · skip
          refine wpOp_step (o := _) rfl (fun KK hKK => ?_)
          rw [if_pos (wanted_nil _ rfl)]
          have e100 := U6.out (hw.out 6 (by kernel_rfl)); have E100_ := (E100 u).trans e100
          skip
          go_simp
          exact hKK _ _ ⟨_, P107 u _, yC0co, yC0cc, yC0uo, yC0uc, yC0vs, yC0eo, yC0ec, yC0ro, yC0rc, yH0co, yH0cc, yH0uo, yH0uc, yH0vs, yH0eo, yH0ec, yH0ro, yH0rc, gH0, gH1, HBW, Lib.hid (fun h0 => (frUpd_ne (by decide)).trans (U0.out (addD_of h0 (by decide)))), Lib.hid (fun h0 => (frUpd_ne (by decide)).trans (U1.out (addD_of h0 (by decide)))), Lib.hid (fun h0 => (frUpd_ne (by decide)).trans (U2.out (addD_of h0 (by decide)))), Lib.hid (fun h0 => (frUpd_ne (by decide)).trans (U3.out (addD_of h0 (by decide)))), Lib.hid (fun h0 => (frUpd_ne (by decide)).trans (U4.out (addD_of h0 (by decide)))), Lib.hid (fun h0 => (frUpd_ne (by decide)).trans (U5.out (addD_of h0 (by decide)))), Lib.hid (fun h0 => (frUpd_ne (by decide)).trans (U6.out (addD_of h0 (by decide)))), Lib.hid (fun h0 => frUpd_self), Lib.hid (fun h0 => (frUpd_ne (by decide)).trans (U8.out (addD_of h0 (by decide)))), Lib.hid (fun h0 => (frUpd_ne (by decide)).trans (U9.out (addD_of h0 (by decide)))), Lib.hid (fun h0 => (frUpd_ne (by decide)).trans (U10.out (addD_of h0 (by decide)))), Lib.hid (fun h0 => (frUpd_ne (by decide)).trans (U11.out (addD_of h0 (by decide)))), Lib.hid (fun h0 => (frUpd_ne (by decide)).trans (U14.out (addD_of h0 (by decide)))), Lib.hid (fun h0 m0 => (OC0.out (addD_of h0 (by decide)) (fun x => m0 (addD_mem x)))), Lib.hid (fun h0 => (OH0.out (addD_of h0 (by decide)))), Lib.hid (fun h0 => (A2gH0.out (addD_of h0 (by decide)))), Lib.hid (fun h0 m0 => (A3gH0.out (addD_of h0 (by decide)) (fun x => m0 (addD_mem x)))), Lib.hid (fun h0 => (A4gH0.out (addD_of h0 (by decide)))), Lib.hid (fun h0 h1 => (A5gH0H0.out (addD_of h0 (by decide)) (addD_of h1 (by decide)))), Lib.hid (fun h0 => (A2gH1.out (addD_of h0 (by decide)))), Lib.hid (fun h0 m0 => (A3gH1.out (addD_of h0 (by decide)) (fun x => m0 (addD_mem x)))), Lib.hid (fun h0 => (A4gH1.out (addD_of h0 (by decide)))), Lib.hid (fun h0 h1 => (A5gH1H0.out (addD_of h0 (by decide)) (addD_of h1 (by decide)))), Lib.hid (fun h0 h1 => (A6gH0gH1.out (addD_of h0 (by decide)) (addD_of h1 (by decide))))⟩
        · skip
          refine wpOp_step (o := _) rfl (fun KK hKK => ?_)
          rw [if_pos (wanted_nil _ rfl)]
          have e100 := U6.out (hw.out 6 (by kernel_rfl)); have E100_ := (E100 u).trans e100
          skip
          go_simp
          exact hKK _ _ ⟨_, P108 u _, yC0co, yC0cc, yC0uo, yC0uc, yC0vs, yC0eo, yC0ec, yC0ro, yC0rc, yH0co, yH0cc, yH0uo, yH0uc, yH0vs, yH0eo, yH0ec, yH0ro, yH0rc, gH0, gH1, HBW, Lib.hid (fun h0 => (frUpd_ne (by decide)).trans (U0.out (addD_of h0 (by decide)))), Lib.hid (fun h0 => (frUpd_ne (by decide)).trans (U1.out (addD_of h0 (by decide)))), Lib.hid (fun h0 => (frUpd_ne (by decide)).trans (U2.out (addD_of h0 (by decide)))), Lib.hid (fun h0 => (frUpd_ne (by decide)).trans (U3.out (addD_of h0 (by decide)))), Lib.hid (fun h0 => (frUpd_ne (by decide)).trans (U4.out (addD_of h0 (by decide)))), Lib.hid (fun h0 => (frUpd_ne (by decide)).trans (U5.out (addD_of h0 (by decide)))), Lib.hid (fun h0 => (frUpd_ne (by decide)).trans (U6.out (addD_of h0 (by decide)))), Lib.hid (fun h0 => (frUpd_ne (by decide)).trans (U7.out (addD_of h0 (by decide)))), Lib.hid (fun h0 => frUpd_self), Lib.hid (fun h0 => (frUpd_ne (by decide)).trans (U9.out (addD_of h0 (by decide)))), Lib.hid (fun h0 => (frUpd_ne (by decide)).trans (U10.out (addD_of h0 (by decide)))), Lib.hid (fun h0 => (frUpd_ne (by decide)).trans (U11.out (addD_of h0 (by decide)))), Lib.hid (fun h0 => (frUpd_ne (by decide)).trans (U14.out (addD_of h0 (by decide)))), Lib.hid (fun h0 m0 => (OC0.out (addD_of h0 (by decide)) (fun x => m0 (addD_mem x)))), Lib.hid (fun h0 => (OH0.out (addD_of h0 (by decide)))), Lib.hid (fun h0 => (A2gH0.out (addD_of h0 (by decide)))), Lib.hid (fun h0 m0 => (A3gH0.out (addD_of h0 (by decide)) (fun x => m0 (addD_mem x)))), Lib.hid (fun h0 => (A4gH0.out (addD_of h0 (by decide)))), Lib.hid (fun h0 h1 => (A5gH0H0.out (addD_of h0 (by decide)) (addD_of h1 (by decide)))), Lib.hid (fun h0 => (A2gH1.out (addD_of h0 (by decide)))), Lib.hid (fun h0 m0 => (A3gH1.out (addD_of h0 (by decide)) (fun x => m0 (addD_mem x)))), Lib.hid (fun h0 => (A4gH1.out (addD_of h0 (by decide)))), Lib.hid (fun h0 h1 => (A5gH1H0.out (addD_of h0 (by decide)) (addD_of h1 (by decide)))), Lib.hid (fun h0 h1 => (A6gH0gH1.out (addD_of h0 (by decide)) (addD_of h1 (by decide))))⟩
        · skip
          refine wpOp_step (o := _) rfl (fun KK hKK => ?_)
          rw [if_pos (wanted_nil _ rfl)]
          have e100 := U6.out (hw.out 6 (by kernel_rfl)); have E100_ := (E100 u).trans e100
          skip
          go_simp
          exact hKK _ _ ⟨_, P109 u _, yC0co, yC0cc, yC0uo, yC0uc, yC0vs, yC0eo, yC0ec, yC0ro, yC0rc, yH0co, yH0cc, yH0uo, yH0uc, yH0vs, yH0eo, yH0ec, yH0ro, yH0rc, gH0, gH1, HBW, Lib.hid (fun h0 => (frUpd_ne (by decide)).trans (U0.out (addD_of h0 (by decide)))), Lib.hid (fun h0 => (frUpd_ne (by decide)).trans (U1.out (addD_of h0 (by decide)))), Lib.hid (fun h0 => (frUpd_ne (by decide)).trans (U2.out (addD_of h0 (by decide)))), Lib.hid (fun h0 => (frUpd_ne (by decide)).trans (U3.out (addD_of h0 (by decide)))), Lib.hid (fun h0 => (frUpd_ne (by decide)).trans (U4.out (addD_of h0 (by decide)))), Lib.hid (fun h0 => (frUpd_ne (by decide)).trans (U5.out (addD_of h0 (by decide)))), Lib.hid (fun h0 => (frUpd_ne (by decide)).trans (U6.out (addD_of h0 (by decide)))), Lib.hid (fun h0 => (frUpd_ne (by decide)).trans (U7.out (addD_of h0 (by decide)))), Lib.hid (fun h0 => (frUpd_ne (by decide)).trans (U8.out (addD_of h0 (by decide)))), Lib.hid (fun h0 => frUpd_self), Lib.hid (fun h0 => (frUpd_ne (by decide)).trans (U10.out (addD_of h0 (by decide)))), Lib.hid (fun h0 => (frUpd_ne (by decide)).trans (U11.out (addD_of h0 (by decide)))), Lib.hid (fun h0 => (frUpd_ne (by decide)).trans (U14.out (addD_of h0 (by decide)))), Lib.hid (fun h0 m0 => (OC0.out (addD_of h0 (by decide)) (fun x => m0 (addD_mem x)))), Lib.hid (fun h0 => (OH0.out (addD_of h0 (by decide)))), Lib.hid (fun h0 => (A2gH0.out (addD_of h0 (by decide)))), Lib.hid (fun h0 m0 => (A3gH0.out (addD_of h0 (by decide)) (fun x => m0 (addD_mem x)))), Lib.hid (fun h0 => (A4gH0.out (addD_of h0 (by decide)))), Lib.hid (fun h0 h1 => (A5gH0H0.out (addD_of h0 (by decide)) (addD_of h1 (by decide)))), Lib.hid (fun h0 => (A2gH1.out (addD_of h0 (by decide)))), Lib.hid (fun h0 m0 => (A3gH1.out (addD_of h0 (by decide)) (fun x => m0 (addD_mem x)))), Lib.hid (fun h0 => (A4gH1.out (addD_of h0 (by decide)))), Lib.hid (fun h0 h1 => (A5gH1H0.out (addD_of h0 (by decide)) (addD_of h1 (by decide)))), Lib.hid (fun h0 h1 => (A6gH0gH1.out (addD_of h0 (by decide)) (addD_of h1 (by decide))))⟩
        · skip
          refine wpOp_step (o := _) rfl (fun KK hKK => ?_)
          rw [if_pos (wanted_nil _ rfl)]
          skip
          go_simp
          have hb : Below w.heap.size w (w.alloc (.cells #[.slice none 0 0, .slice none 0 0, .slice none 0 0, .int .i64 0, .slice none 0 0] 44)) := (Below.refl _ w).alloc (Nat.le_refl _) (.cells #[.slice none 0 0, .slice none 0 0, .slice none 0 0, .int .i64 0, .slice none 0 0] 44)
          have hbn : w.heap.size < (w.alloc (.cells #[.slice none 0 0, .slice none 0 0, .slice none 0 0, .int .i64 0, .slice none 0 0] 44)).heap.size := by rw [World.size_alloc]; omega
          have BN : BoxAt (w.alloc (.cells #[.slice none 0 0, .slice none 0 0, .slice none 0 0, .int .i64 0, .slice none 0 0] 44)) w.heap.size [.slice none 0 0, .slice none 0 0, .slice none 0 0, .int .i64 0, .slice none 0 0] := (BoxAt.snoc (BoxAt.snoc (BoxAt.snoc (BoxAt.snoc (BoxAt.snoc (BoxAt.nil (w := (w.alloc (.cells #[.slice none 0 0, .slice none 0 0, .slice none 0 0, .int .i64 0, .slice none 0 0] 44))) (g := w.heap.size) (by go_simp)) (v := .slice none 0 0) (i := 0) rfl (by go_simp) (by go_simp)) (v := .slice none 0 0) (i := 1) rfl (by go_simp) (by go_simp)) (v := .slice none 0 0) (i := 2) rfl (by go_simp) (by go_simp)) (v := .int .i64 0) (i := 3) rfl (by go_simp) (by go_simp)) (v := .slice none 0 0) (i := 4) rfl (by go_simp) (by go_simp))
          exact hKK _ _ ⟨_, P18 u _, yC0co, yC0cc, yC0uo, yC0uc, yC0vs, yC0eo, yC0ec, yC0ro, yC0rc, yH0co, yH0cc, yH0uo, yH0uc, yH0vs, yH0eo, yH0ec, yH0ro, yH0rc, w.heap.size, gH1, (Lib.hid (hbw.trans (hb.mono (by rw [hps]; omega)))), Lib.hid (fun h0 => (frUpd_ne (by decide)).trans (U0.out (addD_of h0 (by decide)))), Lib.hid (fun h0 => (frUpd_ne (by decide)).trans (U1.out (addD_of h0 (by decide)))), Lib.hid (fun h0 => (frUpd_ne (by decide)).trans (U2.out (addD_of h0 (by decide)))), Lib.hid (fun h0 => (frUpd_ne (by decide)).trans (U3.out (addD_of h0 (by decide)))), Lib.hid (fun h0 => (frUpd_ne (by decide)).trans (U4.out (addD_of h0 (by decide)))), Lib.hid (fun h0 => (frUpd_ne (by decide)).trans (U5.out (addD_of h0 (by decide)))), Lib.hid (fun h0 => (frUpd_ne (by decide)).trans (U6.out (addD_of h0 (by decide)))), Lib.hid (fun h0 => (frUpd_ne (by decide)).trans (U7.out (addD_of h0 (by decide)))), Lib.hid (fun h0 => (frUpd_ne (by decide)).trans (U8.out (addD_of h0 (by decide)))), Lib.hid (fun h0 => (frUpd_ne (by decide)).trans (U9.out (addD_of h0 (by decide)))), Lib.hid (fun h0 => frUpd_self), Lib.hid (fun h0 => (frUpd_ne (by decide)).trans (U11.out (addD_of h0 (by decide)))), Lib.hid (fun h0 => (frUpd_ne (by decide)).trans (U14.out (addD_of h0 (by decide)))), Lib.hid (fun h0 m0 => (OC0.out (addD_of h0 (by decide)) (fun x => m0 (addD_mem x))).below hb), Lib.hid (fun h0 => (OH0.out (addD_of h0 (by decide))).below hb), Lib.hid (fun h0 => ⟨by omega, hbn⟩), Lib.hid (fun h0 m0 => BN), Lib.hid (fun h0 => absurd (hcl.out 12 10 (by kernel_rfl) (addD_of h0 (by decide))) hn), Lib.hid (fun h0 h1 => fun hm => Nat.lt_irrefl _ ((((OH0.out (addD_of h1 (by decide)))).lts) _ hm).2), Lib.hid (fun h0 => ⟨(A2gH1.out (addD_of h0 (by decide))).1, Nat.lt_of_lt_of_le (A2gH1.out (addD_of h0 (by decide))).2 hb.size⟩), Lib.hid (fun h0 m0 => (A3gH1.out (addD_of h0 (by decide)) (fun x => m0 (addD_mem x))).below hb), Lib.hid (fun h0 => (A4gH1.out (addD_of h0 (by decide))).below hb), Lib.hid (fun h0 h1 => (A5gH1H0.out (addD_of h0 (by decide)) (addD_of h1 (by decide)))), Lib.hid (fun h0 h1 => Nat.ne_of_gt (A2gH1.out (addD_of h1 (by decide))).2)⟩
        · skip
          refine wpOp_step (o := _) rfl (fun KK hKK => ?_)
          rw [if_pos (wanted_nil _ rfl)]
          skip
          go_simp
          have hb : Below w.heap.size w (w.alloc (.cells #[.int .i64 0, .int .i64 0, .int .i64 0] 56)) := (Below.refl _ w).alloc (Nat.le_refl _) (.cells #[.int .i64 0, .int .i64 0, .int .i64 0] 56)
          have hbn : w.heap.size < (w.alloc (.cells #[.int .i64 0, .int .i64 0, .int .i64 0] 56)).heap.size := by rw [World.size_alloc]; omega
          have BN : BoxAt (w.alloc (.cells #[.int .i64 0, .int .i64 0, .int .i64 0] 56)) w.heap.size [.int .i64 0, .int .i64 0, .int .i64 0] := (BoxAt.snoc (BoxAt.snoc (BoxAt.snoc (BoxAt.nil (w := (w.alloc (.cells #[.int .i64 0, .int .i64 0, .int .i64 0] 56))) (g := w.heap.size) (by go_simp)) (v := .int .i64 0) (i := 0) rfl (by go_simp) (by go_simp)) (v := .int .i64 0) (i := 1) rfl (by go_simp) (by go_simp)) (v := .int .i64 0) (i := 2) rfl (by go_simp) (by go_simp))
          exact hKK _ _ ⟨_, P19 u _, yC0co, yC0cc, yC0uo, yC0uc, yC0vs, yC0eo, yC0ec, yC0ro, yC0rc, yH0co, yH0cc, yH0uo, yH0uc, yH0vs, yH0eo, yH0ec, yH0ro, yH0rc, gH0, w.heap.size, (Lib.hid (hbw.trans (hb.mono (by rw [hps]; omega)))), Lib.hid (fun h0 => (frUpd_ne (by decide)).trans (U0.out (addD_of h0 (by decide)))), Lib.hid (fun h0 => (frUpd_ne (by decide)).trans (U1.out (addD_of h0 (by decide)))), Lib.hid (fun h0 => (frUpd_ne (by decide)).trans (U2.out (addD_of h0 (by decide)))), Lib.hid (fun h0 => (frUpd_ne (by decide)).trans (U3.out (addD_of h0 (by decide)))), Lib.hid (fun h0 => (frUpd_ne (by decide)).trans (U4.out (addD_of h0 (by decide)))), Lib.hid (fun h0 => (frUpd_ne (by decide)).trans (U5.out (addD_of h0 (by decide)))), Lib.hid (fun h0 => (frUpd_ne (by decide)).trans (U6.out (addD_of h0 (by decide)))), Lib.hid (fun h0 => (frUpd_ne (by decide)).trans (U7.out (addD_of h0 (by decide)))), Lib.hid (fun h0 => (frUpd_ne (by decide)).trans (U8.out (addD_of h0 (by decide)))), Lib.hid (fun h0 => (frUpd_ne (by decide)).trans (U9.out (addD_of h0 (by decide)))), Lib.hid (fun h0 => (frUpd_ne (by decide)).trans (U10.out (addD_of h0 (by decide)))), Lib.hid (fun h0 => frUpd_self), Lib.hid (fun h0 => (frUpd_ne (by decide)).trans (U14.out (addD_of h0 (by decide)))), Lib.hid (fun h0 m0 => (OC0.out (addD_of h0 (by decide)) (fun x => m0 (addD_mem x))).below hb), Lib.hid (fun h0 => (OH0.out (addD_of h0 (by decide))).below hb), Lib.hid (fun h0 => ⟨(A2gH0.out (addD_of h0 (by decide))).1, Nat.lt_of_lt_of_le (A2gH0.out (addD_of h0 (by decide))).2 hb.size⟩), Lib.hid (fun h0 m0 => (A3gH0.out (addD_of h0 (by decide)) (fun x => m0 (addD_mem x))).below hb), Lib.hid (fun h0 => (A4gH0.out (addD_of h0 (by decide))).below hb), Lib.hid (fun h0 h1 => (A5gH0H0.out (addD_of h0 (by decide)) (addD_of h1 (by decide)))), Lib.hid (fun h0 => ⟨by omega, hbn⟩), Lib.hid (fun h0 m0 => BN), Lib.hid (fun h0 => absurd (hcl.out 13 11 (by kernel_rfl) (addD_of h0 (by decide))) hn), Lib.hid (fun h0 h1 => fun hm => Nat.lt_irrefl _ ((((OH0.out (addD_of h1 (by decide)))).lts) _ hm).2), Lib.hid (fun h0 h1 => Nat.ne_of_lt (A2gH0.out (addD_of h0 (by decide))).2)⟩
        · skip
          refine wpOp_step (o := _) rfl (fun KK hKK => ?_)
          rw [if_pos (wanted_nil _ rfl)]
          have e18 := U10.out (hw.out 10 (by kernel_rfl)); have E18_ := (E18 u).trans e18
          have e107 := U7.out (hw.out 7 (by kernel_rfl)); have E107_ := (E107 u).trans e107
          have bx := A3gH0.out (hw.out 10 (by kernel_rfl)) hn
          have c0 := (bx.cells 0 _ rfl).1; have f0 := (bx.cells 0 _ rfl).2
          have c1 := (bx.cells 1 _ rfl).1; have f1 := (bx.cells 1 _ rfl).2
          have c2 := (bx.cells 2 _ rfl).1; have f2 := (bx.cells 2 _ rfl).2
          have c3 := (bx.cells 3 _ rfl).1; have f3 := (bx.cells 3 _ rfl).2
          have c4 := (bx.cells 4 _ rfl).1; have f4 := (bx.cells 4 _ rfl).2
          have hgl := A2gH0.out (hw.out 10 (by kernel_rfl))
          skip
          go_simp
          have ht : Touch [gH0] w (((((w.setCell ⟨gH0, 0, none⟩ (.slice yH0co yH0vs.length yH0cc)).setCell ⟨gH0, 1, none⟩ (.slice yH0uo K2.m.f.used.length yH0uc)).setCell ⟨gH0, 2, none⟩ (.slice yH0eo K2.m.ents.length yH0ec)).setCell ⟨gH0, 3, none⟩ (.int .i64 (K2.calls))).setCell ⟨gH0, 4, none⟩ (.slice yH0ro K2.refuse.length yH0rc)) := touch_bx (touch_bx (touch_bx (touch_bx (touch_bx (Touch.refl [gH0] w)))))
          have hb := ht.toBelow (B := wL.heap.size) (fun g hg => by have := List.mem_singleton.1 hg; omega) (by omega)
          have BN : BoxAt (((((w.setCell ⟨gH0, 0, none⟩ (.slice yH0co yH0vs.length yH0cc)).setCell ⟨gH0, 1, none⟩ (.slice yH0uo K2.m.f.used.length yH0uc)).setCell ⟨gH0, 2, none⟩ (.slice yH0eo K2.m.ents.length yH0ec)).setCell ⟨gH0, 3, none⟩ (.int .i64 (K2.calls))).setCell ⟨gH0, 4, none⟩ (.slice yH0ro K2.refuse.length yH0rc)) gH0 [.slice yH0co yH0vs.length yH0cc, .slice yH0uo K2.m.f.used.length yH0uc, .slice yH0eo K2.m.ents.length yH0ec, .int .i64 (K2.calls), .slice yH0ro K2.refuse.length yH0rc] := (BoxAt.snoc (BoxAt.snoc (BoxAt.snoc (BoxAt.snoc (BoxAt.snoc (BoxAt.nil (w := (((((w.setCell ⟨gH0, 0, none⟩ (.slice yH0co yH0vs.length yH0cc)).setCell ⟨gH0, 1, none⟩ (.slice yH0uo K2.m.f.used.length yH0uc)).setCell ⟨gH0, 2, none⟩ (.slice yH0eo K2.m.ents.length yH0ec)).setCell ⟨gH0, 3, none⟩ (.int .i64 (K2.calls))).setCell ⟨gH0, 4, none⟩ (.slice yH0ro K2.refuse.length yH0rc))) (g := gH0) (by have := ht.size; omega)) (v := .slice yH0co yH0vs.length yH0cc) (i := 0) rfl (by go_simp) (by go_simp)) (v := .slice yH0uo K2.m.f.used.length yH0uc) (i := 1) rfl (by go_simp) (by go_simp)) (v := .slice yH0eo K2.m.ents.length yH0ec) (i := 2) rfl (by go_simp) (by go_simp)) (v := .int .i64 (K2.calls)) (i := 3) rfl (by go_simp) (by go_simp)) (v := .slice yH0ro K2.refuse.length yH0rc) (i := 4) rfl (by go_simp) (by go_simp))
          have HDM : D 5 := (hcl.out 6 5 (by kernel_rfl) (hcl.out 7 6 (by kernel_rfl) (hw.out 7 (by kernel_rfl))))
          exact hKK _ _ ⟨u, rfl, yC0co, yC0cc, yC0uo, yC0uc, yC0vs, yC0eo, yC0ec, yC0ro, yC0rc, yH0co, yH0cc, yH0uo, yH0uc, yH0vs, yH0eo, yH0ec, yH0ro, yH0rc, gH0, gH1, (Lib.hid (hbw.trans (hb.mono (by rw [hps]; exact Nat.le_refl _)))), Lib.hid (fun h0 => (U0.out (addD_of h0 (by decide)))), Lib.hid (fun h0 => (U1.out (addD_of h0 (by decide)))), Lib.hid (fun h0 => (U2.out (addD_of h0 (by decide)))), Lib.hid (fun h0 => (U3.out (addD_of h0 (by decide)))), Lib.hid (fun h0 => (U4.out (addD_of h0 (by decide)))), Lib.hid (fun h0 => (U5.out (addD_of h0 (by decide)))), Lib.hid (fun h0 => (U6.out (addD_of h0 (by decide)))), Lib.hid (fun h0 => (U7.out (addD_of h0 (by decide)))), Lib.hid (fun h0 => (U8.out (addD_of h0 (by decide)))), Lib.hid (fun h0 => (U9.out (addD_of h0 (by decide)))), Lib.hid (fun h0 => (U10.out (addD_of h0 (by decide)))), Lib.hid (fun h0 => (U11.out (addD_of h0 (by decide)))), Lib.hid (fun h0 => (U14.out (addD_of h0 (by decide)))), Lib.hid (fun h0 m0 => absurd (addD_mem HDM) m0), Lib.hid (fun h0 => (OH0.out (addD_of h0 (by decide))).touch ht (fun g hg hm => by cases List.mem_singleton.1 hm; exact A5gH0H0.out (hw.out 10 (by kernel_rfl)) (addD_of h0 (by decide)) hg)), Lib.hid (fun h0 => ⟨(A2gH0.out (addD_of h0 (by decide))).1, Nat.lt_of_lt_of_le (A2gH0.out (addD_of h0 (by decide))).2 ht.size⟩), Lib.hid (fun h0 m0 => absurd (addD_self 12) m0), Lib.hid (fun h0 => BN), Lib.hid (fun h0 h1 => (A5gH0H0.out (addD_of h0 (by decide)) (addD_of h1 (by decide)))), Lib.hid (fun h0 => ⟨(A2gH1.out (addD_of h0 (by decide))).1, Nat.lt_of_lt_of_le (A2gH1.out (addD_of h0 (by decide))).2 ht.size⟩), Lib.hid (fun h0 m0 => (A3gH1.out (addD_of h0 (by decide)) (fun x => m0 (addD_mem x))).touch ht (fun hm => (A6gH0gH1.out (hw.out 10 (by kernel_rfl)) (addD_of h0 (by decide))) (List.mem_singleton.1 hm).symm)), Lib.hid (fun h0 => (A4gH1.out (addD_of h0 (by decide))).touch ht (fun hm => (A6gH0gH1.out (hw.out 10 (by kernel_rfl)) (hcl.out 13 11 (by kernel_rfl) (addD_of h0 (by decide)))) (List.mem_singleton.1 hm).symm)), Lib.hid (fun h0 h1 => (A5gH1H0.out (addD_of h0 (by decide)) (addD_of h1 (by decide)))), Lib.hid (fun h0 h1 => (A6gH0gH1.out (addD_of h0 (by decide)) (addD_of h1 (by decide))))⟩
        · skip
          refine wpOp_step (o := _) rfl (fun KK hKK => ?_)
          rw [if_pos (wanted_nil _ rfl)]
          have e19 := U11.out (hw.out 11 (by kernel_rfl)); have E19_ := (E19 u).trans e19
          have e108 := U8.out (hw.out 8 (by kernel_rfl)); have E108_ := (E108 u).trans e108
          have bx := A3gH1.out (hw.out 11 (by kernel_rfl)) hn
          have c0 := (bx.cells 0 _ rfl).1; have f0 := (bx.cells 0 _ rfl).2
          have c1 := (bx.cells 1 _ rfl).1; have f1 := (bx.cells 1 _ rfl).2
          have c2 := (bx.cells 2 _ rfl).1; have f2 := (bx.cells 2 _ rfl).2
          have hgl := A2gH1.out (hw.out 11 (by kernel_rfl))
          skip
          go_simp
          have ht : Touch [gH1] w (((w.setCell ⟨gH1, 0, none⟩ (.int .i64 p)).setCell ⟨gH1, 1, none⟩ (.int .i64 c)).setCell ⟨gH1, 2, none⟩ (.int .i64 b2)) := touch_bx (touch_bx (touch_bx (Touch.refl [gH1] w)))
          have hb := ht.toBelow (B := wL.heap.size) (fun g hg => by have := List.mem_singleton.1 hg; omega) (by omega)
          have BN : BoxAt (((w.setCell ⟨gH1, 0, none⟩ (.int .i64 p)).setCell ⟨gH1, 1, none⟩ (.int .i64 c)).setCell ⟨gH1, 2, none⟩ (.int .i64 b2)) gH1 [.int .i64 p, .int .i64 c, .int .i64 b2] := (BoxAt.snoc (BoxAt.snoc (BoxAt.snoc (BoxAt.nil (w := (((w.setCell ⟨gH1, 0, none⟩ (.int .i64 p)).setCell ⟨gH1, 1, none⟩ (.int .i64 c)).setCell ⟨gH1, 2, none⟩ (.int .i64 b2))) (g := gH1) (by have := ht.size; omega)) (v := .int .i64 p) (i := 0) rfl (by go_simp) (by go_simp)) (v := .int .i64 c) (i := 1) rfl (by go_simp) (by go_simp)) (v := .int .i64 b2) (i := 2) rfl (by go_simp) (by go_simp))
          have HDM : D 5 := (hcl.out 6 5 (by kernel_rfl) (hcl.out 8 6 (by kernel_rfl) (hw.out 8 (by kernel_rfl))))
          exact hKK _ _ ⟨u, rfl, yC0co, yC0cc, yC0uo, yC0uc, yC0vs, yC0eo, yC0ec, yC0ro, yC0rc, yH0co, yH0cc, yH0uo, yH0uc, yH0vs, yH0eo, yH0ec, yH0ro, yH0rc, gH0, gH1, (Lib.hid (hbw.trans (hb.mono (by rw [hps]; exact Nat.le_refl _)))), Lib.hid (fun h0 => (U0.out (addD_of h0 (by decide)))), Lib.hid (fun h0 => (U1.out (addD_of h0 (by decide)))), Lib.hid (fun h0 => (U2.out (addD_of h0 (by decide)))), Lib.hid (fun h0 => (U3.out (addD_of h0 (by decide)))), Lib.hid (fun h0 => (U4.out (addD_of h0 (by decide)))), Lib.hid (fun h0 => (U5.out (addD_of h0 (by decide)))), Lib.hid (fun h0 => (U6.out (addD_of h0 (by decide)))), Lib.hid (fun h0 => (U7.out (addD_of h0 (by decide)))), Lib.hid (fun h0 => (U8.out (addD_of h0 (by decide)))), Lib.hid (fun h0 => (U9.out (addD_of h0 (by decide)))), Lib.hid (fun h0 => (U10.out (addD_of h0 (by decide)))), Lib.hid (fun h0 => (U11.out (addD_of h0 (by decide)))), Lib.hid (fun h0 => (U14.out (addD_of h0 (by decide)))), Lib.hid (fun h0 m0 => absurd (addD_mem HDM) m0), Lib.hid (fun h0 => (OH0.out (addD_of h0 (by decide))).touch ht (fun g hg hm => by cases List.mem_singleton.1 hm; exact A5gH1H0.out (hw.out 11 (by kernel_rfl)) (addD_of h0 (by decide)) hg)), Lib.hid (fun h0 => ⟨(A2gH0.out (addD_of h0 (by decide))).1, Nat.lt_of_lt_of_le (A2gH0.out (addD_of h0 (by decide))).2 ht.size⟩), Lib.hid (fun h0 m0 => (A3gH0.out (addD_of h0 (by decide)) (fun x => m0 (addD_mem x))).touch ht (fun hm => (A6gH0gH1.out (addD_of h0 (by decide)) (hw.out 11 (by kernel_rfl))) (List.mem_singleton.1 hm))), Lib.hid (fun h0 => (A4gH0.out (addD_of h0 (by decide))).touch ht (fun hm => (A6gH0gH1.out (hcl.out 12 10 (by kernel_rfl) (addD_of h0 (by decide))) (hw.out 11 (by kernel_rfl))) (List.mem_singleton.1 hm))), Lib.hid (fun h0 h1 => (A5gH0H0.out (addD_of h0 (by decide)) (addD_of h1 (by decide)))), Lib.hid (fun h0 => ⟨(A2gH1.out (addD_of h0 (by decide))).1, Nat.lt_of_lt_of_le (A2gH1.out (addD_of h0 (by decide))).2 ht.size⟩), Lib.hid (fun h0 m0 => absurd (addD_self 13) m0), Lib.hid (fun h0 => BN), Lib.hid (fun h0 h1 => (A5gH1H0.out (addD_of h0 (by decide)) (addD_of h1 (by decide)))), Lib.hid (fun h0 h1 => (A6gH0gH1.out (addD_of h0 (by decide)) (addD_of h1 (by decide))))⟩
        · skip
          refine wpOp_step (o := _) rfl (fun KK hKK => ?_)
          rw [if_pos (wanted_nil _ rfl)]
          have e109 := U9.out (hw.out 9 (by kernel_rfl)); have E109_ := (E109 u).trans e109
          skip
          go_simp
          exact hKK _ _ ⟨_, P20 u _, yC0co, yC0cc, yC0uo, yC0uc, yC0vs, yC0eo, yC0ec, yC0ro, yC0rc, yH0co, yH0cc, yH0uo, yH0uc, yH0vs, yH0eo, yH0ec, yH0ro, yH0rc, gH0, gH1, HBW, Lib.hid (fun h0 => (frUpd_ne (by decide)).trans (U0.out (addD_of h0 (by decide)))), Lib.hid (fun h0 => (frUpd_ne (by decide)).trans (U1.out (addD_of h0 (by decide)))), Lib.hid (fun h0 => (frUpd_ne (by decide)).trans (U2.out (addD_of h0 (by decide)))), Lib.hid (fun h0 => (frUpd_ne (by decide)).trans (U3.out (addD_of h0 (by decide)))), Lib.hid (fun h0 => (frUpd_ne (by decide)).trans (U4.out (addD_of h0 (by decide)))), Lib.hid (fun h0 => (frUpd_ne (by decide)).trans (U5.out (addD_of h0 (by decide)))), Lib.hid (fun h0 => (frUpd_ne (by decide)).trans (U6.out (addD_of h0 (by decide)))), Lib.hid (fun h0 => (frUpd_ne (by decide)).trans (U7.out (addD_of h0 (by decide)))), Lib.hid (fun h0 => (frUpd_ne (by decide)).trans (U8.out (addD_of h0 (by decide)))), Lib.hid (fun h0 => (frUpd_ne (by decide)).trans (U9.out (addD_of h0 (by decide)))), Lib.hid (fun h0 => (frUpd_ne (by decide)).trans (U10.out (addD_of h0 (by decide)))), Lib.hid (fun h0 => (frUpd_ne (by decide)).trans (U11.out (addD_of h0 (by decide)))), Lib.hid (fun h0 => frUpd_self), Lib.hid (fun h0 m0 => (OC0.out (addD_of h0 (by decide)) (fun x => m0 (addD_mem x)))), Lib.hid (fun h0 => (OH0.out (addD_of h0 (by decide)))), Lib.hid (fun h0 => (A2gH0.out (addD_of h0 (by decide)))), Lib.hid (fun h0 m0 => (A3gH0.out (addD_of h0 (by decide)) (fun x => m0 (addD_mem x)))), Lib.hid (fun h0 => (A4gH0.out (addD_of h0 (by decide)))), Lib.hid (fun h0 h1 => (A5gH0H0.out (addD_of h0 (by decide)) (addD_of h1 (by decide)))), Lib.hid (fun h0 => (A2gH1.out (addD_of h0 (by decide)))), Lib.hid (fun h0 m0 => (A3gH1.out (addD_of h0 (by decide)) (fun x => m0 (addD_mem x)))), Lib.hid (fun h0 => (A4gH1.out (addD_of h0 (by decide)))), Lib.hid (fun h0 h1 => (A5gH1H0.out (addD_of h0 (by decide)) (addD_of h1 (by decide)))), Lib.hid (fun h0 h1 => (A6gH0gH1.out (addD_of h0 (by decide)) (addD_of h1 (by decide))))⟩
      · rintro D u w ⟨yC0co, yC0cc, yC0uo, yC0uc, yC0vs, yC0eo, yC0ec, yC0ro, yC0rc, yH0co, yH0cc, yH0uo, yH0uc, yH0vs, yH0eo, yH0ec, yH0ro, yH0rc, gH0, gH1, HBW, U0, U1, U2, U3, U4, U5, U6, U7, U8, U9, U10, U11, U14, OC0, OH0, A2gH0, A3gH0, A4gH0, A5gH0H0, A2gH1, A3gH1, A4gH1, A5gH1H0, A6gH0gH1⟩ hall
        have d0 := hall 0 (by show 0 < 15; decide)
        have d1 := hall 1 (by show 1 < 15; decide)
        have d2 := hall 2 (by show 2 < 15; decide)
        have d3 := hall 3 (by show 3 < 15; decide)
        have d4 := hall 4 (by show 4 < 15; decide)
        have d5 := hall 5 (by show 5 < 15; decide)
        have d6 := hall 6 (by show 6 < 15; decide)
        have d7 := hall 7 (by show 7 < 15; decide)
        have d8 := hall 8 (by show 8 < 15; decide)
        have d9 := hall 9 (by show 9 < 15; decide)
        have d10 := hall 10 (by show 10 < 15; decide)
        have d11 := hall 11 (by show 11 < 15; decide)
        have d12 := hall 12 (by show 12 < 15; decide)
        have d13 := hall 13 (by show 13 < 15; decide)
        have d14 := hall 14 (by show 14 < 15; decide)
        have ha1 := ha0.out; subst ha1
        simp only [frAll, frTo, List.setIfInBounds_toArray, List.set_cons_succ, List.set_cons_zero]
        go_wp2_with fail
        go_meet
        exact ⟨yH0co, yH0cc, yH0uo, yH0uc, yH0vs, yH0eo, yH0ec, yH0ro, yH0rc, gH0, gH1, (U10.out d10), (U11.out d11), (U14.out d14), (A4gH0.out d12), (A4gH1.out d13), (OH0.out d5), (A5gH0H0.out d10 d5), (A5gH1H0.out d11 d5), (A2gH0.out d10).1, (A2gH1.out d11).1, HBW.out⟩
  obtain ⟨yH0co, yH0cc, yH0uo, yH0uc, yH0vs, yH0eo, yH0ec, yH0ro, yH0rc, gH0, gH1, rfl, rfl, rfl, BH0, BH1, OH0, NH0_H0, NH1_H0, hloH0, hloH1, hb⟩ := hcut
  obtain ⟨w2, rfl⟩ : ∃ x, x = wc := ⟨_, rfl⟩
  clear xP0 cP00 fP00 cP01 fP01 cP02 fP02 cP03 fP03 cP04 fP04
  clear xP1 cP10 fP10 cP11 fP11 cP12 fP12
  replace BP0 := Lib.hid (BP0.out.below hb)
  replace BP1 := Lib.hid (BP1.out.below hb)
  replace BW0 := Lib.hid (BW0.out.below hb)
  replace BW1 := Lib.hid (BW1.out.below hb)
  replace BG0 := Lib.hid (BG0.out.below hb)
  replace BG1 := Lib.hid (BG1.out.below hb)
  replace OW0 := Lib.hid (OW0.out.below hb)
  replace OG0 := Lib.hid (OG0.out.below hb)
  replace HA0 := Lib.hid (HA0.out.below hb)
  replace HT := Lib.hid (HT.out.trans (hb.mono HT.out.size))
  have zwM := hb.size; (try simp only [World.size_alloc] at zwM); clear hb; obtain ⟨wM, rfl⟩ : ∃ x, x = w2 := ⟨_, rfl⟩
  have hgtH0 := BH0.lt; replace BH0 := Lib.hid BH0
  have hgtH1 := BH1.lt; replace BH1 := Lib.hid BH1
  have LH0 := Lib.hid (OH0.lts); replace OH0 := Lib.hid OH0
  replace NH0_H0 := Lib.hid NH0_H0
  replace NH1_H0 := Lib.hid NH1_H0
  have cH00 := (BH0.out.cells 0 _ rfl).1; have fH00 := (BH0.out.cells 0 _ rfl).2
  have cH01 := (BH0.out.cells 1 _ rfl).1; have fH01 := (BH0.out.cells 1 _ rfl).2
  have cH02 := (BH0.out.cells 2 _ rfl).1; have fH02 := (BH0.out.cells 2 _ rfl).2
  have cH03 := (BH0.out.cells 3 _ rfl).1; have fH03 := (BH0.out.cells 3 _ rfl).2
  have cH04 := (BH0.out.cells 4 _ rfl).1; have fH04 := (BH0.out.cells 4 _ rfl).2
  have xH0 := BH0.out.lt
  have cW00 := (BW0.out.cells 0 _ rfl).1; have fW00 := (BW0.out.cells 0 _ rfl).2
  have cW01 := (BW0.out.cells 1 _ rfl).1; have fW01 := (BW0.out.cells 1 _ rfl).2
  have cW02 := (BW0.out.cells 2 _ rfl).1; have fW02 := (BW0.out.cells 2 _ rfl).2
  have cW03 := (BW0.out.cells 3 _ rfl).1; have fW03 := (BW0.out.cells 3 _ rfl).2
  have cW04 := (BW0.out.cells 4 _ rfl).1; have fW04 := (BW0.out.cells 4 _ rfl).2
  have xW0 := BW0.out.lt
  go_wp2_with fail
  refine (l_eqKernel _ _ (⟨⟨⟨.slice yH0co yH0vs.length yH0cc, .slice yH0uo K2.m.f.used.length yH0uc, yH0vs⟩, .slice yH0eo K2.m.ents.length yH0ec⟩, .slice yH0ro K2.refuse.length yH0rc⟩ : KV) (⟨⟨⟨.slice yW0co yW0vs.length yW0cc, .slice yW0uo K2.m.f.used.length yW0uc, yW0vs⟩, .slice yW0eo K2.m.ents.length yW0ec⟩, .slice yW0ro K2.refuse.length yW0rc⟩ : KV) _ _ OH0.out OW0.out).mono ?_; rintro e w2 ⟨rfl, hb⟩
  clear xH0 cH00 fH00 cH01 fH01 cH02 fH02 cH03 fH03 cH04 fH04
  clear xW0 cW00 fW00 cW01 fW01 cW02 fW02 cW03 fW03 cW04 fW04
  replace BP0 := Lib.hid (BP0.out.below hb)
  replace BP1 := Lib.hid (BP1.out.below hb)
  replace BW0 := Lib.hid (BW0.out.below hb)
  replace BW1 := Lib.hid (BW1.out.below hb)
  replace BG0 := Lib.hid (BG0.out.below hb)
  replace BG1 := Lib.hid (BG1.out.below hb)
  replace BH0 := Lib.hid (BH0.out.below hb)
  replace BH1 := Lib.hid (BH1.out.below hb)
  replace OW0 := Lib.hid (OW0.out.below hb)
  replace OG0 := Lib.hid (OG0.out.below hb)
  replace OH0 := Lib.hid (OH0.out.below hb)
  replace HA0 := Lib.hid (HA0.out.below hb)
  replace HT := Lib.hid (HT.out.trans (hb.mono HT.out.size))
  have zwN := hb.size; (try simp only [World.size_alloc] at zwN); clear hb; obtain ⟨wN, rfl⟩ : ∃ x, x = w2 := ⟨_, rfl⟩
  have cH10 := (BH1.out.cells 0 _ rfl).1; have fH10 := (BH1.out.cells 0 _ rfl).2
  have cH11 := (BH1.out.cells 1 _ rfl).1; have fH11 := (BH1.out.cells 1 _ rfl).2
  have cH12 := (BH1.out.cells 2 _ rfl).1; have fH12 := (BH1.out.cells 2 _ rfl).2
  have xH1 := BH1.out.lt
  have cW10 := (BW1.out.cells 0 _ rfl).1; have fW10 := (BW1.out.cells 0 _ rfl).2
  have cW11 := (BW1.out.cells 1 _ rfl).1; have fW11 := (BW1.out.cells 1 _ rfl).2
  have cW12 := (BW1.out.cells 2 _ rfl).1; have fW12 := (BW1.out.cells 2 _ rfl).2
  have xW1 := BW1.out.lt
  go_wp2_with fail
  refine (l_eqSpan p c b2 _).mono ?_; rintro e w2 ⟨rfl, hb⟩
  clear xH1 cH10 fH10 cH11 fH11 cH12 fH12
  clear xW1 cW10 fW10 cW11 fW11 cW12 fW12
  replace BP0 := Lib.hid (BP0.out.below hb)
  replace BP1 := Lib.hid (BP1.out.below hb)
  replace BW0 := Lib.hid (BW0.out.below hb)
  replace BW1 := Lib.hid (BW1.out.below hb)
  replace BG0 := Lib.hid (BG0.out.below hb)
  replace BG1 := Lib.hid (BG1.out.below hb)
  replace BH0 := Lib.hid (BH0.out.below hb)
  replace BH1 := Lib.hid (BH1.out.below hb)
  replace OW0 := Lib.hid (OW0.out.below hb)
  replace OG0 := Lib.hid (OG0.out.below hb)
  replace OH0 := Lib.hid (OH0.out.below hb)
  replace HA0 := Lib.hid (HA0.out.below hb)
  replace HT := Lib.hid (HT.out.trans (hb.mono HT.out.size))
  have zwO := hb.size; (try simp only [World.size_alloc] at zwO); clear hb; obtain ⟨wO, rfl⟩ : ∃ x, x = w2 := ⟨_, rfl⟩
  have cG00 := (BG0.out.cells 0 _ rfl).1; have fG00 := (BG0.out.cells 0 _ rfl).2
  have cG01 := (BG0.out.cells 1 _ rfl).1; have fG01 := (BG0.out.cells 1 _ rfl).2
  have cG02 := (BG0.out.cells 2 _ rfl).1; have fG02 := (BG0.out.cells 2 _ rfl).2
  have cG03 := (BG0.out.cells 3 _ rfl).1; have fG03 := (BG0.out.cells 3 _ rfl).2
  have cG04 := (BG0.out.cells 4 _ rfl).1; have fG04 := (BG0.out.cells 4 _ rfl).2
  have xG0 := BG0.out.lt
  go_wp2_with fail
  refine (l_heldKernel _ (⟨⟨⟨.slice yG0co yG0vs.length yG0cc, .slice yG0uo K2.m.f.used.length yG0uc, yG0vs⟩, .slice yG0eo K2.m.ents.length yG0ec⟩, .slice yG0ro K2.refuse.length yG0rc⟩ : KV) K2 1 (by omega) _ OG0.out).mono ?_; rintro e w2 ⟨rfl, hb⟩
  clear xG0 cG00 fG00 cG01 fG01 cG02 fG02 cG03 fG03 cG04 fG04
  replace BP0 := Lib.hid (BP0.out.below hb)
  replace BP1 := Lib.hid (BP1.out.below hb)
  replace BW0 := Lib.hid (BW0.out.below hb)
  replace BW1 := Lib.hid (BW1.out.below hb)
  replace BG0 := Lib.hid (BG0.out.below hb)
  replace BG1 := Lib.hid (BG1.out.below hb)
  replace BH0 := Lib.hid (BH0.out.below hb)
  replace BH1 := Lib.hid (BH1.out.below hb)
  replace OW0 := Lib.hid (OW0.out.below hb)
  replace OG0 := Lib.hid (OG0.out.below hb)
  replace OH0 := Lib.hid (OH0.out.below hb)
  replace HA0 := Lib.hid (HA0.out.below hb)
  replace HT := Lib.hid (HT.out.trans (hb.mono HT.out.size))
  have zwP := hb.size; (try simp only [World.size_alloc] at zwP); clear hb; obtain ⟨wP, rfl⟩ : ∃ x, x = w2 := ⟨_, rfl⟩
  go_wp2_with fail
  go_ret
  exact ⟨rfl, HT.out⟩

namespace fnExactFreeSlot
set_option maxRecDepth 100000 in
theorem contract (H : Type) (enc : TypeId × Value → H) (W : World) (base : Nat) (args : Array Value) (ds gs : List (DataW H)) (before : List MemPlace)
    (hval : ∀ (j : Nat) t v, Try.f4.params[j]? = some t → args[j]? = some v → Value.okWide Try.prog W .any base t v)
    (hW : DataW.Whole enc Try.prog Try.f4.params.toList Rows.fnExactFreeSlotSpec.vars false W args.toList ds gs before) :
    Calls Try.prog 4 args W fun e W' => ∃ v, e = .returned v ∧ Rows.fnExactFreeSlotSpec.post enc Try.prog Try.f4 false true false false W args v W' := by
  have hW' := hW
  obtain ⟨p, q, hA0, hV, rfl, hfz, hnd⟩ := hW
  have hA : DataW.TrodAll enc Try.prog W 0 (fun _ => true) true Try.f4.params.toList args.toList ds p := hA0
  rw [Try.params4] at hA hval
  obtain ⟨v0, vs0, d0, ds0, p0, q0, hargs, rfl, rfl, h0, r0⟩ := trodAll_cons hA
  obtain ⟨v1, vs1, d1, ds1, p1, q1, rfl, rfl, rfl, h1, r1⟩ := trodAll_cons r0
  obtain ⟨v2, vs2, d2, ds2, p2, q2, rfl, rfl, rfl, h2, r2⟩ := trodAll_cons r1
  obtain ⟨rfl, rfl, rfl⟩ := trodAll_nil r2
  obtain rfl : args = #[v0, v1, v2] := by cases args; simp_all
  obtain ⟨rfl, rfl⟩ := trodVars_none hV
  obtain ⟨x, K, rfl, hxK, wK⟩ := kernel_open (hval 0 33 v0 rfl rfl) h0
  obtain ⟨c1_0, c1_1, c1_2, y1_0, y1_1, y1_2, m1, rfl, rfl, rfl, g1_0, g1_1, g1_2⟩ := Joins.open_agg3 Try.underlying55 (by kernel_rfl) (by kernel_rfl) (hval 1 55 v1 rfl rfl) h1
  obtain ⟨p, e1_0, rfl, wp⟩ := DataW.trod_int Try.underlying3 g1_0
  obtain ⟨c, e1_1, rfl, wc⟩ := DataW.trod_int Try.underlying3 g1_1
  obtain ⟨b, e1_2, rfl, wb⟩ := DataW.trod_int Try.underlying3 g1_2
  simp at e1_0 e1_1 e1_2
  subst e1_0 e1_1 e1_2
  obtain ⟨slot, rfl, rfl, rfl, wslot⟩ := open_int Try.underlying3 (hval 2 3 v2 rfl rfl) h2
  clear hA0
  refine (w_FnExactFreeSlot x K p c b slot W hxK).mono fun e W' ⟨he, hg⟩ => ?_
  subst he
  exact ⟨_, rfl, law_post (tb := 4) laidOut (by kernel_rfl) rfl rfl Try.underlying4 hW' rfl rfl rfl hg⟩
set_option maxRecDepth 100000 in
theorem lifted (os : Os) (started : os.Started) (H : Type) (enc : TypeId × Value → H) :
    ReturnsInHanded {} Try.checked os 4 .any (Rows.fnExactFreeSlotSpec.pre6 enc Try.prog Try.f4 Rows.fnExactFreeSlotRow.domain false) (Rows.fnExactFreeSlotSpec.post enc Try.prog Try.f4 false true false false) := by
  refine returnsInHanded_of_change (C := Try.checked) own started (by kernel_rfl) Try.func4
    (ChangeSpec.witness6 (enc := enc) (C := Try.checked) false ⟨#[], #[.agg #[.slice none 0 0, .slice none 0 0, .slice none 0 0, .int .i64 0, .slice none 0 0], .agg #[.int .i64 0, .int .i64 0, .int .i64 0], .int .i64 0], []⟩ 8 (by kernel_rfl) (by kernel_rfl) (by kernel_rfl) (by kernel_rfl)) ?_
  intro W base args ds gs before hval hW _ _
  exact contract H enc W base args ds gs before hval hW
/-- The statement. -/
theorem proved : Rows.FnExactFreeSlotSaid :=
  OpenClaim.holds_of_wide 4 Try.f4 rfl rfl rfl rfl rfl rfl rfl ⟨rfl, rfl, rfl, rfl, rfl⟩ rfl rfl rfl rfl rfl (by kernel_rfl) Try.func4 (by kernel_rfl)
    (of_decide_eq_true (by kernel_rfl)) (by unfold Func.isWrapper; first | (rw [if_pos (by decide +kernel)]; kernel_rfl) | (rw [if_neg (by decide +kernel)]; exact ⟨rfl, rfl⟩))
    (fun os started H enc _ => lifted os started H enc)
end fnExactFreeSlot

end Go.Proofs.Ytmblkllijjlkoaa
