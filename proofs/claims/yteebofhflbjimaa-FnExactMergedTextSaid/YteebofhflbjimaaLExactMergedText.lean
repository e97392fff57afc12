/- 'laws.FnExactMergedText' returns true, whatever the arguments: no condition. -/
import Derived.Test.YteebofhflbjimaaMerged
import Derived.Deep.DrawnRows
import Derived.Test.YteebofhflbjimaaPlanM
import Derived.Test.YteebofhflbjimaaOpenP
import Derived.Test.YteebofhflbjimaaOpenI
import Derived.Test.YteebofhflbjimaaBox
set_option linter.unusedVariables false
set_option linter.unusedSimpArgs false
namespace Go.Proofs.Yteebofhflbjimaa
open Go.ChangeShapes Go.WideShapes Go.ChangeAt Go.RowKit
attribute [local go_sem ↓] Go.wp_at_zero Go.wp_at_succ
theorem merged_le (kp mv : Int) (cs ks ms : List Int) : (mergedText kp mv cs ks ms).length ≤ 16 := by
  unfold mergedText
  split
  · rename_i h
    simp only [Bool.and_eq_true, beq_iff_eq] at h
    rw [copyRow_len]; omega
  · simp
set_option maxRecDepth 100000 in
set_option maxHeartbeats 12800000 in
theorem w_FnExactMergedText (vk vm : Value) (ks ms : List Int) (kp mv : Int) (c : Value) (cs : List Int) (w : World) (ha0 : IntsAt w vk ks) (ha1 : IntsAt w vm ms) (ha2 : IntsAt w c cs) : Calls Try.prog 7 #[vk, vm, .agg #[.int .i64 kp, .int .i64 mv, c]] w fun e w' => e = .returned (.bool true) ∧ Below w.heap.size w w' := by
  skip
  have HAw0 := Lib.hid ha0; have HA0 := Lib.hid ha0
  have HAw1 := Lib.hid ha1; have HA1 := Lib.hid ha1
  have HAw2 := Lib.hid ha2; have HA2 := Lib.hid ha2
  obtain ⟨ao0, ca0, hv0, hl0, hm0⟩ := ha0.shape
  have hlm0 := Nat.le_trans hl0 hm0; clear hl0 hm0; subst hv0
  have hl90 : ks.length ≤ 9223372036854775807 := by unfold maxLen at hlm0; omega
  obtain ⟨ao1, ca1, hv1, hl1, hm1⟩ := ha1.shape
  have hlm1 := Nat.le_trans hl1 hm1; clear hl1 hm1; subst hv1
  have hl91 : ms.length ≤ 9223372036854775807 := by unfold maxLen at hlm1; omega
  have HT := Lib.hid (Below.refl w.heap.size w)
  clear ha0 ha1 ha2
  by_cases hI0 : ks.length ≤ 1048576
  rotate_left
  · (have hall := all_nil w; go_enter Try.func7, Try.ntmps7)
    go_wp2_with fail
    go_ret
    exact ⟨rfl, by exact bel⟩
  by_cases hI1 : ms.length ≤ 1048576
  rotate_left
  · (have hall := all_nil w; go_enter Try.func7, Try.ntmps7)
    go_wp2_with fail
    go_ret
    exact ⟨rfl, by exact bel⟩
  have hJ0 : decide ((1048576 : Int) < (ks.length : Nat)) = false := by simp; omega
  have hJ1 : decide ((1048576 : Int) < (ms.length : Nat)) = false := by simp; omega
  by_cases hS2 : cs.length ≤ 1048576
  rotate_left
  · (have hall := all_nil w; go_enter Try.func7, Try.ntmps7)
    go_wp2_with (first | (go_at_call 15; (refine (l_szPlan kp mv c cs _ (by omega) _ (HA2.out.below (by exact bel))).mono ?_; rintro e w2 ⟨rfl, hb⟩; rw [szRes_neg (by omega)])))
    go_ret
    exact ⟨rfl, by exact bel⟩
  have hrl := merged_le kp mv cs ks ms
  have HI := Lib.hid (fun y1 y2 y3 w (h1 : IntsAt w y1 ks) (h2 : IntsAt w y2 ms) (h3 : IntsAt w y3 cs) => i_MergedText kp mv y1 y2 y3 ks ms cs w h1 h2 h3)
  have HS := Lib.hid (fun y1 y2 y3 w (h1 : IntsAt w y1 ks) (h2 : IntsAt w y2 ms) (h3 : IntsAt w y3 cs) => s_MergedText kp mv y1 y2 y3 ks ms cs w h1 h2 h3)
  generalize (mergedText kp mv cs ks ms) = rs at *
  (have hall := all_nil w; go_enter Try.func7, Try.ntmps7)
  go_wp2_with fail
  replace HA0 := Lib.hid (HA0.out.below ((Below.refl _ w).alloc (Nat.le_refl _) (.cells #[.int .i64 kp, .int .i64 mv, c] 24)))
  replace HA1 := Lib.hid (HA1.out.below ((Below.refl _ w).alloc (Nat.le_refl _) (.cells #[.int .i64 kp, .int .i64 mv, c] 24)))
  replace HA2 := Lib.hid (HA2.out.below ((Below.refl _ w).alloc (Nat.le_refl _) (.cells #[.int .i64 kp, .int .i64 mv, c] 24)))
  replace HT := Lib.hid (HT.out.trans (((Below.refl _ w).alloc (Nat.le_refl _) (.cells #[.int .i64 kp, .int .i64 mv, c] 24)).mono HT.out.size))
  have BP2 : Hid (BoxAt (w.alloc (.cells #[.int .i64 kp, .int .i64 mv, c] 24)) (w.heap.size) [.int .i64 kp, .int .i64 mv, c]) := (BoxAt.snoc (BoxAt.snoc (BoxAt.snoc (BoxAt.nil (w := w.alloc (.cells #[.int .i64 kp, .int .i64 mv, c] 24)) (g := w.heap.size) (by go_simp)) (v := .int .i64 kp) (i := 0) rfl (by go_simp) (by go_simp)) (v := .int .i64 mv) (i := 1) rfl (by go_simp) (by go_simp)) (v := c) (i := 2) rfl (by go_simp) (by go_simp))
  have cP20 := (BP2.out.cells 0 _ rfl).1; have fP20 := (BP2.out.cells 0 _ rfl).2
  have cP21 := (BP2.out.cells 1 _ rfl).1; have fP21 := (BP2.out.cells 1 _ rfl).2
  have cP22 := (BP2.out.cells 2 _ rfl).1; have fP22 := (BP2.out.cells 2 _ rfl).2
  have xP2 := BP2.out.lt
  go_wp2_with fail
  refine (l_szPlan kp mv c cs _ (by omega) _ HA2.out).mono ?_; rintro e w2 ⟨rfl, hb⟩
  rw [szRes_pos (by omega)]
  clear xP2 cP20 fP20 cP21 fP21 cP22 fP22
  replace BP2 := Lib.hid (BP2.out.below hb)
  replace HA0 := Lib.hid (HA0.out.below hb)
  replace HA1 := Lib.hid (HA1.out.below hb)
  replace HA2 := Lib.hid (HA2.out.below hb)
  replace HT := Lib.hid (HT.out.trans (hb.mono HT.out.size))
  have zwA := hb.size; (try simp only [World.size_alloc] at zwA); clear hb; obtain ⟨wA, rfl⟩ : ∃ x, x = w2 := ⟨_, rfl⟩
  have cP20 := (BP2.out.cells 0 _ rfl).1; have fP20 := (BP2.out.cells 0 _ rfl).2
  have cP21 := (BP2.out.cells 1 _ rfl).1; have fP21 := (BP2.out.cells 1 _ rfl).2
  have cP22 := (BP2.out.cells 2 _ rfl).1; have fP22 := (BP2.out.cells 2 _ rfl).2
  have xP2 := BP2.out.lt
  go_wp2_with fail
  go_region_held3 (fun w' => w'.cell? ⟨w.heap.size, 0, none⟩ = some (.int .i64 kp) ∧ w'.cell? ⟨w.heap.size, 1, none⟩ = some (.int .i64 mv) ∧ w'.cell? ⟨w.heap.size, 2, none⟩ = some (c)) (first | (refine ⟨?_, ?_, ?_⟩ <;> (go_simp; done)) | go_keep) (first | (go_at_call_of 30 (Value.slice ao0 (ks).length ca0); ((refine (l_toIntS _ ks (by omega) _ (HA0.out.below (by exact bel))).mono ?_); rintro e w2 ⟨vC0, rfl, OC0, hb⟩; (obtain ⟨yC0o, yC0c, rfl, -, -⟩ := OC0.shape); have LC0 := Lib.hid (Own.lts OC0); (have OC0 := Lib.hid OC0); have HQwq0 := Lib.hid hb; have kwq0_P2_0 : w2.cell? ⟨w.heap.size, 0, none⟩ = some (.int .i64 kp) := kc hb; have kwq0_P2_1 : w2.cell? ⟨w.heap.size, 1, none⟩ = some (.int .i64 mv) := kc hb; have kwq0_P2_2 : w2.cell? ⟨w.heap.size, 2, none⟩ = some (c) := kc hb; have xwq0_P2 : w.heap.size < w2.heap.size := xc hb; have hzwq0 := hb.size; (try simp only [World.size_alloc, World.size_setCell, World.size_drew] at hzwq0); obtain ⟨wq0, rfl⟩ : ∃ x, x = w2 := ⟨_, rfl⟩; skip)) | (go_at_call_of 30 (Value.slice ao1 (ms).length ca1); ((refine (l_toIntS _ ms (by omega) _ (HA1.out.below (by exact bel))).mono ?_); rintro e w2 ⟨vC1, rfl, OC1, hb⟩; (obtain ⟨yC1o, yC1c, rfl, -, -⟩ := OC1.shape); have LC1 := Lib.hid (Own.lts OC1); (have OC1 := Lib.hid OC1); have HQwq1 := Lib.hid hb; have kwq1_P2_0 : w2.cell? ⟨w.heap.size, 0, none⟩ = some (.int .i64 kp) := kc hb; have kwq1_P2_1 : w2.cell? ⟨w.heap.size, 1, none⟩ = some (.int .i64 mv) := kc hb; have kwq1_P2_2 : w2.cell? ⟨w.heap.size, 2, none⟩ = some (c) := kc hb; have xwq1_P2 : w.heap.size < w2.heap.size := xc hb; have hzwq1 := hb.size; (try simp only [World.size_alloc, World.size_setCell, World.size_drew] at hzwq1); obtain ⟨wq1, rfl⟩ : ∃ x, x = w2 := ⟨_, rfl⟩; skip)) | (go_at_call 17; ((refine (l_toPlan kp mv c cs (by omega) _ (HA2.out.below (by exact bel))).mono ?_); rintro e w2 ⟨vC2, rfl, OC2, hb⟩; (obtain ⟨yC2o, yC2c, rfl, -, -⟩ := OC2.shape); have LC2 := Lib.hid (Own.lts OC2); (have OC2 := Lib.hid OC2); have HQwq2 := Lib.hid hb; have kwq2_P2_0 : w2.cell? ⟨w.heap.size, 0, none⟩ = some (.int .i64 kp) := kc hb; have kwq2_P2_1 : w2.cell? ⟨w.heap.size, 1, none⟩ = some (.int .i64 mv) := kc hb; have kwq2_P2_2 : w2.cell? ⟨w.heap.size, 2, none⟩ = some (c) := kc hb; have xwq2_P2 : w.heap.size < w2.heap.size := xc hb; have hzwq2 := hb.size; (try simp only [World.size_alloc, World.size_setCell, World.size_drew] at hzwq2); obtain ⟨wq2, rfl⟩ : ∃ x, x = w2 := ⟨_, rfl⟩; skip)) | (go_at_call 29; ((refine (HS.out _ _ _ _ (Own.at (Own.below OC0.out (by exact bel)) lenInt) (Own.at (Own.below OC1.out (by exact bel)) lenInt) (Own.at (Own.below OC2.out (by exact bel)) lenInt)).mono ?_; rintro e w2 ⟨vW0, rfl, OW0, hb⟩; (obtain ⟨yW0o, yW0c, rfl, -, -⟩ := OW0.shape); (have LW0 := Lib.hid (Own.lts OW0)); (replace OW0 := Lib.hid OW0); have HQwq3 := Lib.hid hb; have kwq3_P2_0 : w2.cell? ⟨w.heap.size, 0, none⟩ = some (.int .i64 kp) := kc hb; have kwq3_P2_1 : w2.cell? ⟨w.heap.size, 1, none⟩ = some (.int .i64 mv) := kc hb; have kwq3_P2_2 : w2.cell? ⟨w.heap.size, 2, none⟩ = some (c) := kc hb; have xwq3_P2 : w.heap.size < w2.heap.size := xc hb; have hzwq3 := hb.size; (try simp only [World.size_alloc, World.size_setCell, World.size_drew] at hzwq3); obtain ⟨wq3, rfl⟩ : ∃ x, x = w2 := ⟨_, rfl⟩; skip))))
  skip
  have hb : Below (wA).heap.size (wA) wq3 := by (have hqwq0 := HQwq0.out; have hqwq1 := HQwq1.out; have hqwq2 := HQwq2.out; have hqwq3 := HQwq3.out; exact bel)
  clear xP2 cP20 fP20 cP21 fP21 cP22 fP22
  clear kwq0_P2_0 kwq0_P2_1 kwq0_P2_2 HQwq0 hzwq0
  clear kwq1_P2_0 kwq1_P2_1 kwq1_P2_2 HQwq1 hzwq1
  clear kwq2_P2_0 kwq2_P2_1 kwq2_P2_2 HQwq2 hzwq2
  clear kwq3_P2_0 kwq3_P2_1 kwq3_P2_2 HQwq3 hzwq3
  obtain ⟨w2, rfl⟩ : ∃ x, x = wq3 := ⟨_, rfl⟩
  clear OC0 LC0
  clear OC1 LC1
  clear OC2 LC2
  replace BP2 := Lib.hid (BP2.out.below hb)
  replace HA0 := Lib.hid (HA0.out.below hb)
  replace HA1 := Lib.hid (HA1.out.below hb)
  replace HA2 := Lib.hid (HA2.out.below hb)
  replace HT := Lib.hid (HT.out.trans (hb.mono HT.out.size))
  have zwB := hb.size; (try simp only [World.size_alloc] at zwB); clear hb; obtain ⟨wB, rfl⟩ : ∃ x, x = w2 := ⟨_, rfl⟩
  go_wp2_with fail
  refine (l_toIntS _ ks (by omega) _ HA0.out).mono ?_; rintro e w2 ⟨vX0, rfl, OX0, hb⟩
  obtain ⟨yX0o, yX0c, rfl, -, -⟩ := OX0.shape
  have LX0 := Lib.hid (Own.lts OX0); replace OX0 := Lib.hid OX0
  replace BP2 := Lib.hid (BP2.out.below hb)
  replace OW0 := Lib.hid (Own.below OW0.out hb)
  replace HA0 := Lib.hid (HA0.out.below hb)
  replace HA1 := Lib.hid (HA1.out.below hb)
  replace HA2 := Lib.hid (HA2.out.below hb)
  replace HT := Lib.hid (HT.out.trans (hb.mono HT.out.size))
  have zwC := hb.size; (try simp only [World.size_alloc] at zwC); clear hb; obtain ⟨wC, rfl⟩ : ∃ x, x = w2 := ⟨_, rfl⟩
  skip
  go_wp2_with fail
  refine (l_toIntS _ ms (by omega) _ HA1.out).mono ?_; rintro e w2 ⟨vX1, rfl, OX1, hb⟩
  obtain ⟨yX1o, yX1c, rfl, -, -⟩ := OX1.shape
  have LX1 := Lib.hid (Own.lts OX1); replace OX1 := Lib.hid OX1
  replace BP2 := Lib.hid (BP2.out.below hb)
  replace OW0 := Lib.hid (Own.below OW0.out hb)
  replace OX0 := Lib.hid (Own.below OX0.out hb)
  replace HA0 := Lib.hid (HA0.out.below hb)
  replace HA1 := Lib.hid (HA1.out.below hb)
  replace HA2 := Lib.hid (HA2.out.below hb)
  replace HT := Lib.hid (HT.out.trans (hb.mono HT.out.size))
  have zwD := hb.size; (try simp only [World.size_alloc] at zwD); clear hb; obtain ⟨wD, rfl⟩ : ∃ x, x = w2 := ⟨_, rfl⟩
  skip
  have cP20 := (BP2.out.cells 0 _ rfl).1; have fP20 := (BP2.out.cells 0 _ rfl).2
  have cP21 := (BP2.out.cells 1 _ rfl).1; have fP21 := (BP2.out.cells 1 _ rfl).2
  have cP22 := (BP2.out.cells 2 _ rfl).1; have fP22 := (BP2.out.cells 2 _ rfl).2
  have xP2 := BP2.out.lt
  go_wp2_with fail
  refine (l_toPlan kp mv c cs (by omega) _ HA2.out).mono ?_; rintro e w2 ⟨vX2, rfl, OX2, hb⟩
  clear xP2 cP20 fP20 cP21 fP21 cP22 fP22
  obtain ⟨yX2o, yX2c, rfl, -, -⟩ := OX2.shape
  have LX2 := Lib.hid (Own.lts OX2); replace OX2 := Lib.hid OX2
  replace BP2 := Lib.hid (BP2.out.below hb)
  replace OW0 := Lib.hid (Own.below OW0.out hb)
  replace OX0 := Lib.hid (Own.below OX0.out hb)
  replace OX1 := Lib.hid (Own.below OX1.out hb)
  replace HA0 := Lib.hid (HA0.out.below hb)
  replace HA1 := Lib.hid (HA1.out.below hb)
  replace HA2 := Lib.hid (HA2.out.below hb)
  replace HT := Lib.hid (HT.out.trans (hb.mono HT.out.size))
  have zwE := hb.size; (try simp only [World.size_alloc] at zwE); clear hb; obtain ⟨wE, rfl⟩ : ∃ x, x = w2 := ⟨_, rfl⟩
  skip
  replace BP2 := Lib.hid (BP2.out.below ((Below.refl _ wE).alloc (Nat.le_refl _) (.cells #[.int .i64 kp, .int .i64 mv, .slice yX2o cs.length yX2c] 27)))
  replace OW0 := Lib.hid (Own.below OW0.out ((Below.refl _ wE).alloc (Nat.le_refl _) (.cells #[.int .i64 kp, .int .i64 mv, .slice yX2o cs.length yX2c] 27)))
  replace OX0 := Lib.hid (Own.below OX0.out ((Below.refl _ wE).alloc (Nat.le_refl _) (.cells #[.int .i64 kp, .int .i64 mv, .slice yX2o cs.length yX2c] 27)))
  replace OX1 := Lib.hid (Own.below OX1.out ((Below.refl _ wE).alloc (Nat.le_refl _) (.cells #[.int .i64 kp, .int .i64 mv, .slice yX2o cs.length yX2c] 27)))
  replace OX2 := Lib.hid (Own.below OX2.out ((Below.refl _ wE).alloc (Nat.le_refl _) (.cells #[.int .i64 kp, .int .i64 mv, .slice yX2o cs.length yX2c] 27)))
  replace HA0 := Lib.hid (HA0.out.below ((Below.refl _ wE).alloc (Nat.le_refl _) (.cells #[.int .i64 kp, .int .i64 mv, .slice yX2o cs.length yX2c] 27)))
  replace HA1 := Lib.hid (HA1.out.below ((Below.refl _ wE).alloc (Nat.le_refl _) (.cells #[.int .i64 kp, .int .i64 mv, .slice yX2o cs.length yX2c] 27)))
  replace HA2 := Lib.hid (HA2.out.below ((Below.refl _ wE).alloc (Nat.le_refl _) (.cells #[.int .i64 kp, .int .i64 mv, .slice yX2o cs.length yX2c] 27)))
  replace HT := Lib.hid (HT.out.trans (((Below.refl _ wE).alloc (Nat.le_refl _) (.cells #[.int .i64 kp, .int .i64 mv, .slice yX2o cs.length yX2c] 27)).mono HT.out.size))
  have BX2 : Hid (BoxAt (wE.alloc (.cells #[.int .i64 kp, .int .i64 mv, .slice yX2o cs.length yX2c] 27)) (wE.heap.size) [.int .i64 kp, .int .i64 mv, .slice yX2o cs.length yX2c]) := (BoxAt.snoc (BoxAt.snoc (BoxAt.snoc (BoxAt.nil (w := wE.alloc (.cells #[.int .i64 kp, .int .i64 mv, .slice yX2o cs.length yX2c] 27)) (g := wE.heap.size) (by go_simp)) (v := .int .i64 kp) (i := 0) rfl (by go_simp) (by go_simp)) (v := .int .i64 mv) (i := 1) rfl (by go_simp) (by go_simp)) (v := .slice yX2o cs.length yX2c) (i := 2) rfl (by go_simp) (by go_simp))
  have cX20 := (BX2.out.cells 0 _ rfl).1; have fX20 := (BX2.out.cells 0 _ rfl).2
  have cX21 := (BX2.out.cells 1 _ rfl).1; have fX21 := (BX2.out.cells 1 _ rfl).2
  have cX22 := (BX2.out.cells 2 _ rfl).1; have fX22 := (BX2.out.cells 2 _ rfl).2
  have xX2 := BX2.out.lt
  go_wp2_with fail
  refine (HI.out _ _ _ _ (Own.at OX0.out lenInt) (Own.at OX1.out lenInt) (Own.at OX2.out lenInt)).mono ?_; rintro e w2 ⟨vG0, rfl, OG0, hb⟩
  clear xX2 cX20 fX20 cX21 fX21 cX22 fX22
  obtain ⟨yG0o, yG0c, rfl, -, -⟩ := OG0.shape
  have LG0 := Lib.hid (Own.lts OG0); replace OG0 := Lib.hid OG0
  replace BP2 := Lib.hid (BP2.out.below hb)
  replace BX2 := Lib.hid (BX2.out.below hb)
  replace OW0 := Lib.hid (Own.below OW0.out hb)
  replace OX0 := Lib.hid (Own.below OX0.out hb)
  replace OX1 := Lib.hid (Own.below OX1.out hb)
  replace OX2 := Lib.hid (Own.below OX2.out hb)
  replace HA0 := Lib.hid (HA0.out.below hb)
  replace HA1 := Lib.hid (HA1.out.below hb)
  replace HA2 := Lib.hid (HA2.out.below hb)
  replace HT := Lib.hid (HT.out.trans (hb.mono HT.out.size))
  have zwF := hb.size; (try simp only [World.size_alloc] at zwF); clear hb; obtain ⟨wF, rfl⟩ : ∃ x, x = w2 := ⟨_, rfl⟩
  go_wp2_with fail
  refine (l_eqIntS _ _ _ _ rs _ OG0.out OW0.out).mono ?_; rintro e w2 ⟨rfl, hb⟩
  replace BP2 := Lib.hid (BP2.out.below hb)
  replace BX2 := Lib.hid (BX2.out.below hb)
  replace OW0 := Lib.hid (Own.below OW0.out hb)
  replace OX0 := Lib.hid (Own.below OX0.out hb)
  replace OX1 := Lib.hid (Own.below OX1.out hb)
  replace OX2 := Lib.hid (Own.below OX2.out hb)
  replace OG0 := Lib.hid (Own.below OG0.out hb)
  replace HA0 := Lib.hid (HA0.out.below hb)
  replace HA1 := Lib.hid (HA1.out.below hb)
  replace HA2 := Lib.hid (HA2.out.below hb)
  replace HT := Lib.hid (HT.out.trans (hb.mono HT.out.size))
  have zwG := hb.size; (try simp only [World.size_alloc] at zwG); clear hb; obtain ⟨wG, rfl⟩ : ∃ x, x = w2 := ⟨_, rfl⟩
  go_wp2_with fail
  refine (l_toIntS _ ks (by omega) _ HA0.out).mono ?_; rintro e w2 ⟨vE, rfl, OE, hb⟩
  obtain ⟨yEo, yEc, rfl, -, -⟩ := OE.shape
  replace OE := Lib.hid OE
  replace BP2 := Lib.hid (BP2.out.below hb)
  replace BX2 := Lib.hid (BX2.out.below hb)
  replace OW0 := Lib.hid (Own.below OW0.out hb)
  replace OX0 := Lib.hid (Own.below OX0.out hb)
  replace OX1 := Lib.hid (Own.below OX1.out hb)
  replace OX2 := Lib.hid (Own.below OX2.out hb)
  replace OG0 := Lib.hid (Own.below OG0.out hb)
  replace HA0 := Lib.hid (HA0.out.below hb)
  replace HA1 := Lib.hid (HA1.out.below hb)
  replace HA2 := Lib.hid (HA2.out.below hb)
  replace HT := Lib.hid (HT.out.trans (hb.mono HT.out.size))
  have zwH := hb.size; (try simp only [World.size_alloc] at zwH); clear hb; obtain ⟨wH, rfl⟩ : ∃ x, x = w2 := ⟨_, rfl⟩
  go_wp2_with fail
  refine (l_eqIntS _ _ _ _ ks _ OX0.out OE.out).mono ?_; rintro e w2 ⟨rfl, hb⟩
  clear OE
  replace BP2 := Lib.hid (BP2.out.below hb)
  replace BX2 := Lib.hid (BX2.out.below hb)
  replace OW0 := Lib.hid (Own.below OW0.out hb)
  replace OX0 := Lib.hid (Own.below OX0.out hb)
  replace OX1 := Lib.hid (Own.below OX1.out hb)
  replace OX2 := Lib.hid (Own.below OX2.out hb)
  replace OG0 := Lib.hid (Own.below OG0.out hb)
  replace HA0 := Lib.hid (HA0.out.below hb)
  replace HA1 := Lib.hid (HA1.out.below hb)
  replace HA2 := Lib.hid (HA2.out.below hb)
  replace HT := Lib.hid (HT.out.trans (hb.mono HT.out.size))
  have zwI := hb.size; (try simp only [World.size_alloc] at zwI); clear hb; obtain ⟨wI, rfl⟩ : ∃ x, x = w2 := ⟨_, rfl⟩
  go_wp2_with fail
  refine (l_toIntS _ ms (by omega) _ HA1.out).mono ?_; rintro e w2 ⟨vE, rfl, OE, hb⟩
  obtain ⟨yEo, yEc, rfl, -, -⟩ := OE.shape
  replace OE := Lib.hid OE
  replace BP2 := Lib.hid (BP2.out.below hb)
  replace BX2 := Lib.hid (BX2.out.below hb)
  replace OW0 := Lib.hid (Own.below OW0.out hb)
  replace OX0 := Lib.hid (Own.below OX0.out hb)
  replace OX1 := Lib.hid (Own.below OX1.out hb)
  replace OX2 := Lib.hid (Own.below OX2.out hb)
  replace OG0 := Lib.hid (Own.below OG0.out hb)
  replace HA0 := Lib.hid (HA0.out.below hb)
  replace HA1 := Lib.hid (HA1.out.below hb)
  replace HA2 := Lib.hid (HA2.out.below hb)
  replace HT := Lib.hid (HT.out.trans (hb.mono HT.out.size))
  have zwJ := hb.size; (try simp only [World.size_alloc] at zwJ); clear hb; obtain ⟨wJ, rfl⟩ : ∃ x, x = w2 := ⟨_, rfl⟩
  go_wp2_with fail
  refine (l_eqIntS _ _ _ _ ms _ OX1.out OE.out).mono ?_; rintro e w2 ⟨rfl, hb⟩
  clear OE
  replace BP2 := Lib.hid (BP2.out.below hb)
  replace BX2 := Lib.hid (BX2.out.below hb)
  replace OW0 := Lib.hid (Own.below OW0.out hb)
  replace OX0 := Lib.hid (Own.below OX0.out hb)
  replace OX1 := Lib.hid (Own.below OX1.out hb)
  replace OX2 := Lib.hid (Own.below OX2.out hb)
  replace OG0 := Lib.hid (Own.below OG0.out hb)
  replace HA0 := Lib.hid (HA0.out.below hb)
  replace HA1 := Lib.hid (HA1.out.below hb)
  replace HA2 := Lib.hid (HA2.out.below hb)
  replace HT := Lib.hid (HT.out.trans (hb.mono HT.out.size))
  have zwK := hb.size; (try simp only [World.size_alloc] at zwK); clear hb; obtain ⟨wK, rfl⟩ : ∃ x, x = w2 := ⟨_, rfl⟩
  have cX20 := (BX2.out.cells 0 _ rfl).1; have fX20 := (BX2.out.cells 0 _ rfl).2
  have cX21 := (BX2.out.cells 1 _ rfl).1; have fX21 := (BX2.out.cells 1 _ rfl).2
  have cX22 := (BX2.out.cells 2 _ rfl).1; have fX22 := (BX2.out.cells 2 _ rfl).2
  have xX2 := BX2.out.lt
  have cP20 := (BP2.out.cells 0 _ rfl).1; have fP20 := (BP2.out.cells 0 _ rfl).2
  have cP21 := (BP2.out.cells 1 _ rfl).1; have fP21 := (BP2.out.cells 1 _ rfl).2
  have cP22 := (BP2.out.cells 2 _ rfl).1; have fP22 := (BP2.out.cells 2 _ rfl).2
  have xP2 := BP2.out.lt
  go_wp2_with fail
  go_region_held3 (fun w' => w'.cell? ⟨wE.heap.size, 0, none⟩ = some (.int .i64 kp) ∧ w'.cell? ⟨wE.heap.size, 1, none⟩ = some (.int .i64 mv) ∧ w'.cell? ⟨wE.heap.size, 2, none⟩ = some (.slice yX2o cs.length yX2c) ∧ w'.cell? ⟨w.heap.size, 0, none⟩ = some (.int .i64 kp) ∧ w'.cell? ⟨w.heap.size, 1, none⟩ = some (.int .i64 mv) ∧ w'.cell? ⟨w.heap.size, 2, none⟩ = some (c)) (first | (refine ⟨?_, ?_, ?_, ?_, ?_, ?_⟩ <;> (go_simp; done)) | go_keep) (first | (go_at_call 17; (refine (l_toPlan kp mv c cs (by omega) _ (HA2.out.below (by exact bel))).mono ?_; rintro e w2 ⟨vE, rfl, OE, hb⟩; (obtain ⟨yEo, yEc, rfl, -, -⟩ := OE.shape); have HQ1 := Lib.hid hb; have kwq1_X2_0 : w2.cell? ⟨wE.heap.size, 0, none⟩ = some (.int .i64 kp) := kc hb; have kwq1_X2_1 : w2.cell? ⟨wE.heap.size, 1, none⟩ = some (.int .i64 mv) := kc hb; have kwq1_X2_2 : w2.cell? ⟨wE.heap.size, 2, none⟩ = some (.slice yX2o cs.length yX2c) := kc hb; have kwq1_P2_0 : w2.cell? ⟨w.heap.size, 0, none⟩ = some (.int .i64 kp) := kc hb; have kwq1_P2_1 : w2.cell? ⟨w.heap.size, 1, none⟩ = some (.int .i64 mv) := kc hb; have kwq1_P2_2 : w2.cell? ⟨w.heap.size, 2, none⟩ = some (c) := kc hb; have xwq1_X2 : wE.heap.size < w2.heap.size := xc hb; have xwq1_P2 : w.heap.size < w2.heap.size := xc hb; have hzwq1 := hb.size; (try simp only [World.size_alloc, World.size_setCell, World.size_drew] at hzwq1); obtain ⟨wq1, rfl⟩ : ∃ x, x = w2 := ⟨_, rfl⟩; skip)) | (go_at_call 19; (refine (l_eqPlan _ _ kp mv _ _ cs _ (Own.below OX2.out (by exact bel)) (Own.below OE (by exact bel))).mono ?_; rintro e w2 ⟨rfl, hb⟩; have HQ2 := Lib.hid hb; have kwq2_X2_0 : w2.cell? ⟨wE.heap.size, 0, none⟩ = some (.int .i64 kp) := kc hb; have kwq2_X2_1 : w2.cell? ⟨wE.heap.size, 1, none⟩ = some (.int .i64 mv) := kc hb; have kwq2_X2_2 : w2.cell? ⟨wE.heap.size, 2, none⟩ = some (.slice yX2o cs.length yX2c) := kc hb; have kwq2_P2_0 : w2.cell? ⟨w.heap.size, 0, none⟩ = some (.int .i64 kp) := kc hb; have kwq2_P2_1 : w2.cell? ⟨w.heap.size, 1, none⟩ = some (.int .i64 mv) := kc hb; have kwq2_P2_2 : w2.cell? ⟨w.heap.size, 2, none⟩ = some (c) := kc hb; have xwq2_X2 : wE.heap.size < w2.heap.size := xc hb; have xwq2_P2 : w.heap.size < w2.heap.size := xc hb; have hzwq2 := hb.size; (try simp only [World.size_alloc, World.size_setCell, World.size_drew] at hzwq2); obtain ⟨wq2, rfl⟩ : ∃ x, x = w2 := ⟨_, rfl⟩)))
  have hb : Below (wK).heap.size (wK) wq2 := by (have hq1 := HQ1.out; have hq2 := HQ2.out; exact bel)
  clear xX2 cX20 fX20 cX21 fX21 cX22 fX22
  clear xP2 cP20 fP20 cP21 fP21 cP22 fP22
  clear kwq1_X2_0 kwq1_X2_1 kwq1_X2_2 kwq1_P2_0 kwq1_P2_1 kwq1_P2_2 hzwq1
  clear kwq2_X2_0 kwq2_X2_1 kwq2_X2_2 kwq2_P2_0 kwq2_P2_1 kwq2_P2_2 hzwq2
  obtain ⟨w2, rfl⟩ : ∃ x, x = wq2 := ⟨_, rfl⟩
  clear HQ1 HQ2 OE
  replace BP2 := Lib.hid (BP2.out.below hb)
  replace BX2 := Lib.hid (BX2.out.below hb)
  replace OW0 := Lib.hid (Own.below OW0.out hb)
  replace OX0 := Lib.hid (Own.below OX0.out hb)
  replace OX1 := Lib.hid (Own.below OX1.out hb)
  replace OX2 := Lib.hid (Own.below OX2.out hb)
  replace OG0 := Lib.hid (Own.below OG0.out hb)
  replace HA0 := Lib.hid (HA0.out.below hb)
  replace HA1 := Lib.hid (HA1.out.below hb)
  replace HA2 := Lib.hid (HA2.out.below hb)
  replace HT := Lib.hid (HT.out.trans (hb.mono HT.out.size))
  have zwL := hb.size; (try simp only [World.size_alloc] at zwL); clear hb; obtain ⟨wL, rfl⟩ : ∃ x, x = w2 := ⟨_, rfl⟩
  go_wp2_with fail
  refine (markInt' _ _ _ 1 (by omega) _ OX0.out).mono ?_; rintro e w2 ⟨rfl, OM, ht⟩
  replace BP2 := Lib.hid (BP2.out.touch ht (fun hm => by have := LX0.out _ hm; (try simp only [World.size_alloc] at this); omega))
  replace BX2 := Lib.hid (BX2.out.touch ht (fun hm => by have := LX0.out _ hm; (try simp only [World.size_alloc] at this); omega))
  replace OW0 := Lib.hid (Own.touchs OW0.out ht (fun g hg hm => by (have h1 := LW0.out g hg; have h2 := LX0.out _ hm; (try simp only [World.size_alloc] at h1 h2); omega)))
  replace OX1 := Lib.hid (Own.touchs OX1.out ht (fun g hg hm => by (have h1 := LX1.out g hg; have h2 := LX0.out _ hm; (try simp only [World.size_alloc] at h1 h2); omega)))
  replace OX2 := Lib.hid (Own.touchs OX2.out ht (fun g hg hm => by (have h1 := LX2.out g hg; have h2 := LX0.out _ hm; (try simp only [World.size_alloc] at h1 h2); omega)))
  replace OG0 := Lib.hid (Own.touchs OG0.out ht (fun g hg hm => by (have h1 := LG0.out g hg; have h2 := LX0.out _ hm; (try simp only [World.size_alloc] at h1 h2); omega)))
  have hb := ht.toBelow (B := w.heap.size) (fun g hg => by have h2 := LX0.out _ hg; (try simp only [World.size_alloc] at h2); omega) (by omega)
  replace HA0 := Lib.hid (SlAt.below HAw0.out (HT.out.trans hb))
  replace HA1 := Lib.hid (SlAt.below HAw1.out (HT.out.trans hb))
  replace HA2 := Lib.hid (SlAt.below HAw2.out (HT.out.trans hb))
  replace HT := Lib.hid (HT.out.trans hb)
  have zwM := ht.size; clear ht hb; obtain ⟨wM, rfl⟩ : ∃ x, x = w2 := ⟨_, rfl⟩
  clear OX0
  clear OM
  go_wp2_with fail
  refine (markInt' _ _ _ _ (by omega) _ OX1.out).mono ?_; rintro e w2 ⟨rfl, OM, ht⟩
  replace BP2 := Lib.hid (BP2.out.touch ht (fun hm => by have := LX1.out _ hm; (try simp only [World.size_alloc] at this); omega))
  replace BX2 := Lib.hid (BX2.out.touch ht (fun hm => by have := LX1.out _ hm; (try simp only [World.size_alloc] at this); omega))
  replace OW0 := Lib.hid (Own.touchs OW0.out ht (fun g hg hm => by (have h1 := LW0.out g hg; have h2 := LX1.out _ hm; (try simp only [World.size_alloc] at h1 h2); omega)))
  replace OX2 := Lib.hid (Own.touchs OX2.out ht (fun g hg hm => by (have h1 := LX2.out g hg; have h2 := LX1.out _ hm; (try simp only [World.size_alloc] at h1 h2); omega)))
  replace OG0 := Lib.hid (Own.touchs OG0.out ht (fun g hg hm => by (have h1 := LG0.out g hg; have h2 := LX1.out _ hm; (try simp only [World.size_alloc] at h1 h2); omega)))
  have hb := ht.toBelow (B := w.heap.size) (fun g hg => by have h2 := LX1.out _ hg; (try simp only [World.size_alloc] at h2); omega) (by omega)
  replace HA0 := Lib.hid (SlAt.below HAw0.out (HT.out.trans hb))
  replace HA1 := Lib.hid (SlAt.below HAw1.out (HT.out.trans hb))
  replace HA2 := Lib.hid (SlAt.below HAw2.out (HT.out.trans hb))
  replace HT := Lib.hid (HT.out.trans hb)
  have zwN := ht.size; clear ht hb; obtain ⟨wN, rfl⟩ : ∃ x, x = w2 := ⟨_, rfl⟩
  clear OX1
  clear OM
  have cX20 := (BX2.out.cells 0 _ rfl).1; have fX20 := (BX2.out.cells 0 _ rfl).2
  have cX21 := (BX2.out.cells 1 _ rfl).1; have fX21 := (BX2.out.cells 1 _ rfl).2
  have cX22 := (BX2.out.cells 2 _ rfl).1; have fX22 := (BX2.out.cells 2 _ rfl).2
  have xX2 := BX2.out.lt
  go_wp2_with fail
  refine (l_markPlan _ kp mv _ cs _ (by omega) _ OX2.out).mono ?_; rintro e w2 ⟨rfl, OM, ht⟩
  clear xX2 cX20 fX20 cX21 fX21 cX22 fX22
  replace BP2 := Lib.hid (BP2.out.touch ht (fun hm => by have := LX2.out _ hm; (try simp only [World.size_alloc] at this); omega))
  replace BX2 := Lib.hid (BX2.out.touch ht (fun hm => by have := LX2.out _ hm; (try simp only [World.size_alloc] at this); omega))
  replace OW0 := Lib.hid (Own.touchs OW0.out ht (fun g hg hm => by (have h1 := LW0.out g hg; have h2 := LX2.out _ hm; (try simp only [World.size_alloc] at h1 h2); omega)))
  replace OG0 := Lib.hid (Own.touchs OG0.out ht (fun g hg hm => by (have h1 := LG0.out g hg; have h2 := LX2.out _ hm; (try simp only [World.size_alloc] at h1 h2); omega)))
  have hb := ht.toBelow (B := w.heap.size) (fun g hg => by have h2 := LX2.out _ hg; (try simp only [World.size_alloc] at h2); omega) (by omega)
  replace HA0 := Lib.hid (SlAt.below HAw0.out (HT.out.trans hb))
  replace HA1 := Lib.hid (SlAt.below HAw1.out (HT.out.trans hb))
  replace HA2 := Lib.hid (SlAt.below HAw2.out (HT.out.trans hb))
  replace HT := Lib.hid (HT.out.trans hb)
  have zwO := ht.size; clear ht hb; obtain ⟨wO, rfl⟩ : ∃ x, x = w2 := ⟨_, rfl⟩
  clear OX2
  clear OM
  clear BX2
  go_wp2_with fail
  refine (l_eqIntS _ _ _ _ rs _ OG0.out OW0.out).mono ?_; rintro e w2 ⟨rfl, hb⟩
  replace BP2 := Lib.hid (BP2.out.below hb)
  replace OW0 := Lib.hid (Own.below OW0.out hb)
  replace OG0 := Lib.hid (Own.below OG0.out hb)
  replace HA0 := Lib.hid (HA0.out.below hb)
  replace HA1 := Lib.hid (HA1.out.below hb)
  replace HA2 := Lib.hid (HA2.out.below hb)
  replace HT := Lib.hid (HT.out.trans (hb.mono HT.out.size))
  have zwP := hb.size; (try simp only [World.size_alloc] at zwP); clear hb; obtain ⟨wP, rfl⟩ : ∃ x, x = w2 := ⟨_, rfl⟩
  go_wp2_with fail
  refine (markInt' _ _ _ 1 (by omega) _ OG0.out).mono ?_; rintro e w2 ⟨rfl, OM, ht⟩
  replace BP2 := Lib.hid (BP2.out.touch ht (fun hm => by have := LG0.out _ hm; (try simp only [World.size_alloc] at this); omega))
  replace OW0 := Lib.hid (Own.touchs OW0.out ht (fun g hg hm => by (have h1 := LW0.out g hg; have h2 := LG0.out _ hm; (try simp only [World.size_alloc] at h1 h2); omega)))
  have hb := ht.toBelow (B := w.heap.size) (fun g hg => by have h2 := LG0.out _ hg; (try simp only [World.size_alloc] at h2); omega) (by omega)
  replace HA0 := Lib.hid (SlAt.below HAw0.out (HT.out.trans hb))
  replace HA1 := Lib.hid (SlAt.below HAw1.out (HT.out.trans hb))
  replace HA2 := Lib.hid (SlAt.below HAw2.out (HT.out.trans hb))
  replace HT := Lib.hid (HT.out.trans hb)
  have zwQ := ht.size; clear ht hb; obtain ⟨wQ, rfl⟩ : ∃ x, x = w2 := ⟨_, rfl⟩
  clear OG0
  have OG0 := Lib.hid OM; clear OM
  go_wp2_with fail
  refine (l_heldIntS _ _ _ 1 (by omega) _ OG0.out).mono ?_; rintro e w2 ⟨rfl, hb⟩
  replace BP2 := Lib.hid (BP2.out.below hb)
  replace OW0 := Lib.hid (Own.below OW0.out hb)
  replace OG0 := Lib.hid (Own.below OG0.out hb)
  replace HA0 := Lib.hid (HA0.out.below hb)
  replace HA1 := Lib.hid (HA1.out.below hb)
  replace HA2 := Lib.hid (HA2.out.below hb)
  replace HT := Lib.hid (HT.out.trans (hb.mono HT.out.size))
  have zwR := hb.size; (try simp only [World.size_alloc] at zwR); clear hb; obtain ⟨wR, rfl⟩ : ∃ x, x = w2 := ⟨_, rfl⟩
  have cP20 := (BP2.out.cells 0 _ rfl).1; have fP20 := (BP2.out.cells 0 _ rfl).2
  have cP21 := (BP2.out.cells 1 _ rfl).1; have fP21 := (BP2.out.cells 1 _ rfl).2
  have cP22 := (BP2.out.cells 2 _ rfl).1; have fP22 := (BP2.out.cells 2 _ rfl).2
  have xP2 := BP2.out.lt
  go_wp2_with fail
  go_region_held3 (fun w' => w'.cell? ⟨w.heap.size, 0, none⟩ = some (.int .i64 kp) ∧ w'.cell? ⟨w.heap.size, 1, none⟩ = some (.int .i64 mv) ∧ w'.cell? ⟨w.heap.size, 2, none⟩ = some (c)) (first | (refine ⟨?_, ?_, ?_⟩ <;> (go_simp; done)) | go_keep) (first | (go_at_call_of 30 (Value.slice ao0 (ks).length ca0); ((refine (l_toIntS _ ks (by omega) _ (HA0.out.below (by exact bel))).mono ?_); rintro e w2 ⟨vC0, rfl, OC0, hb⟩; (obtain ⟨yC0o, yC0c, rfl, -, -⟩ := OC0.shape); have LC0 := Lib.hid (Own.lts OC0); (have OC0 := Lib.hid OC0); have HQwq0 := Lib.hid hb; have kwq0_P2_0 : w2.cell? ⟨w.heap.size, 0, none⟩ = some (.int .i64 kp) := kc hb; have kwq0_P2_1 : w2.cell? ⟨w.heap.size, 1, none⟩ = some (.int .i64 mv) := kc hb; have kwq0_P2_2 : w2.cell? ⟨w.heap.size, 2, none⟩ = some (c) := kc hb; have xwq0_P2 : w.heap.size < w2.heap.size := xc hb; have hzwq0 := hb.size; (try simp only [World.size_alloc, World.size_setCell, World.size_drew] at hzwq0); obtain ⟨wq0, rfl⟩ : ∃ x, x = w2 := ⟨_, rfl⟩; skip)) | (go_at_call_of 30 (Value.slice ao1 (ms).length ca1); ((refine (l_toIntS _ ms (by omega) _ (HA1.out.below (by exact bel))).mono ?_); rintro e w2 ⟨vC1, rfl, OC1, hb⟩; (obtain ⟨yC1o, yC1c, rfl, -, -⟩ := OC1.shape); have LC1 := Lib.hid (Own.lts OC1); (have OC1 := Lib.hid OC1); have HQwq1 := Lib.hid hb; have kwq1_P2_0 : w2.cell? ⟨w.heap.size, 0, none⟩ = some (.int .i64 kp) := kc hb; have kwq1_P2_1 : w2.cell? ⟨w.heap.size, 1, none⟩ = some (.int .i64 mv) := kc hb; have kwq1_P2_2 : w2.cell? ⟨w.heap.size, 2, none⟩ = some (c) := kc hb; have xwq1_P2 : w.heap.size < w2.heap.size := xc hb; have hzwq1 := hb.size; (try simp only [World.size_alloc, World.size_setCell, World.size_drew] at hzwq1); obtain ⟨wq1, rfl⟩ : ∃ x, x = w2 := ⟨_, rfl⟩; skip)) | (go_at_call 17; ((refine (l_toPlan kp mv c cs (by omega) _ (HA2.out.below (by exact bel))).mono ?_); rintro e w2 ⟨vC2, rfl, OC2, hb⟩; (obtain ⟨yC2o, yC2c, rfl, -, -⟩ := OC2.shape); have LC2 := Lib.hid (Own.lts OC2); (have OC2 := Lib.hid OC2); have HQwq2 := Lib.hid hb; have kwq2_P2_0 : w2.cell? ⟨w.heap.size, 0, none⟩ = some (.int .i64 kp) := kc hb; have kwq2_P2_1 : w2.cell? ⟨w.heap.size, 1, none⟩ = some (.int .i64 mv) := kc hb; have kwq2_P2_2 : w2.cell? ⟨w.heap.size, 2, none⟩ = some (c) := kc hb; have xwq2_P2 : w.heap.size < w2.heap.size := xc hb; have hzwq2 := hb.size; (try simp only [World.size_alloc, World.size_setCell, World.size_drew] at hzwq2); obtain ⟨wq2, rfl⟩ : ∃ x, x = w2 := ⟨_, rfl⟩; skip)) | (go_at_call 31; ((refine (HI.out _ _ _ _ (Own.at (Own.below OC0.out (by exact bel)) lenInt) (Own.at (Own.below OC1.out (by exact bel)) lenInt) (Own.at (Own.below OC2.out (by exact bel)) lenInt)).mono ?_; rintro e w2 ⟨vH0, rfl, OH0, hb⟩; (obtain ⟨yH0o, yH0c, rfl, -, -⟩ := OH0.shape); (have LH0 := Lib.hid (Own.lts OH0)); (replace OH0 := Lib.hid OH0); have HQwq3 := Lib.hid hb; have kwq3_P2_0 : w2.cell? ⟨w.heap.size, 0, none⟩ = some (.int .i64 kp) := kc hb; have kwq3_P2_1 : w2.cell? ⟨w.heap.size, 1, none⟩ = some (.int .i64 mv) := kc hb; have kwq3_P2_2 : w2.cell? ⟨w.heap.size, 2, none⟩ = some (c) := kc hb; have xwq3_P2 : w.heap.size < w2.heap.size := xc hb; have hzwq3 := hb.size; (try simp only [World.size_alloc, World.size_setCell, World.size_drew] at hzwq3); obtain ⟨wq3, rfl⟩ : ∃ x, x = w2 := ⟨_, rfl⟩; skip))))
  skip
  have hb : Below (wR).heap.size (wR) wq3 := by (have hqwq0 := HQwq0.out; have hqwq1 := HQwq1.out; have hqwq2 := HQwq2.out; have hqwq3 := HQwq3.out; exact bel)
  clear xP2 cP20 fP20 cP21 fP21 cP22 fP22
  clear kwq0_P2_0 kwq0_P2_1 kwq0_P2_2 HQwq0 hzwq0
  clear kwq1_P2_0 kwq1_P2_1 kwq1_P2_2 HQwq1 hzwq1
  clear kwq2_P2_0 kwq2_P2_1 kwq2_P2_2 HQwq2 hzwq2
  clear kwq3_P2_0 kwq3_P2_1 kwq3_P2_2 HQwq3 hzwq3
  obtain ⟨w2, rfl⟩ : ∃ x, x = wq3 := ⟨_, rfl⟩
  clear OC0 LC0
  clear OC1 LC1
  clear OC2 LC2
  replace BP2 := Lib.hid (BP2.out.below hb)
  replace OW0 := Lib.hid (Own.below OW0.out hb)
  replace OG0 := Lib.hid (Own.below OG0.out hb)
  replace HA0 := Lib.hid (HA0.out.below hb)
  replace HA1 := Lib.hid (HA1.out.below hb)
  replace HA2 := Lib.hid (HA2.out.below hb)
  replace HT := Lib.hid (HT.out.trans (hb.mono HT.out.size))
  have zwS := hb.size; (try simp only [World.size_alloc] at zwS); clear hb; obtain ⟨wS, rfl⟩ : ∃ x, x = w2 := ⟨_, rfl⟩
  go_wp2_with fail
  refine (l_eqIntS _ _ _ _ rs _ OH0.out OW0.out).mono ?_; rintro e w2 ⟨rfl, hb⟩
  replace BP2 := Lib.hid (BP2.out.below hb)
  replace OW0 := Lib.hid (Own.below OW0.out hb)
  replace OG0 := Lib.hid (Own.below OG0.out hb)
  replace OH0 := Lib.hid (Own.below OH0.out hb)
  replace HA0 := Lib.hid (HA0.out.below hb)
  replace HA1 := Lib.hid (HA1.out.below hb)
  replace HA2 := Lib.hid (HA2.out.below hb)
  replace HT := Lib.hid (HT.out.trans (hb.mono HT.out.size))
  have zwT := hb.size; (try simp only [World.size_alloc] at zwT); clear hb; obtain ⟨wT, rfl⟩ : ∃ x, x = w2 := ⟨_, rfl⟩
  go_wp2_with fail
  refine (l_heldIntS _ _ _ 1 (by omega) _ OG0.out).mono ?_; rintro e w2 ⟨rfl, hb⟩
  replace BP2 := Lib.hid (BP2.out.below hb)
  replace OW0 := Lib.hid (Own.below OW0.out hb)
  replace OG0 := Lib.hid (Own.below OG0.out hb)
  replace OH0 := Lib.hid (Own.below OH0.out hb)
  replace HA0 := Lib.hid (HA0.out.below hb)
  replace HA1 := Lib.hid (HA1.out.below hb)
  replace HA2 := Lib.hid (HA2.out.below hb)
  replace HT := Lib.hid (HT.out.trans (hb.mono HT.out.size))
  have zwU := hb.size; (try simp only [World.size_alloc] at zwU); clear hb; obtain ⟨wU, rfl⟩ : ∃ x, x = w2 := ⟨_, rfl⟩
  go_wp2_with fail
  go_ret
  exact ⟨rfl, HT.out⟩

namespace fnExactMergedText
set_option maxRecDepth 100000 in
theorem contract (H : Type) (enc : TypeId × Value → H) (W : World) (base : Nat) (args : Array Value) (ds gs : List (DataW H)) (before : List MemPlace)
    (hval : ∀ (j : Nat) t v, Try.f7.params[j]? = some t → args[j]? = some v → Value.okWide Try.prog W .any base t v)
    (hW : DataW.Whole enc Try.prog Try.f7.params.toList Rows.fnExactMergedTextSpec.vars false W args.toList ds gs before) :
    Calls Try.prog 7 args W fun e W' => ∃ v, e = .returned v ∧ Rows.fnExactMergedTextSpec.post enc Try.prog Try.f7 false true false false W args v W' := by
  have hW' := hW
  obtain ⟨p, q, hA0, hV, rfl, hfz, hnd⟩ := hW
  have hA : DataW.TrodAll enc Try.prog W 0 (fun _ => true) true Try.f7.params.toList args.toList ds p := hA0
  rw [Try.params7] at hA hval
  obtain ⟨v0, vs0, d0, ds0, p0, q0, hargs, rfl, rfl, h0, r0⟩ := trodAll_cons hA
  obtain ⟨v1, vs1, d1, ds1, p1, q1, rfl, rfl, rfl, h1, r1⟩ := trodAll_cons r0
  obtain ⟨v2, vs2, d2, ds2, p2, q2, rfl, rfl, rfl, h2, r2⟩ := trodAll_cons r1
  obtain ⟨rfl, rfl, rfl⟩ := trodAll_nil r2
  obtain rfl : args = #[v0, v1, v2] := by cases args; simp_all
  obtain ⟨rfl, rfl⟩ := trodVars_none hV
  obtain ⟨ks, hvk⟩ := arg_ints Try.underlying22 Try.underlying3 (by kernel_rfl) (hval 0 22 v0 rfl rfl) h0
  obtain ⟨ms, hvm⟩ := arg_ints Try.underlying22 Try.underlying3 (by kernel_rfl) (hval 1 22 v1 rfl rfl) h1
  obtain ⟨kp, mv, c, cs, rfl, hcs, wkp, wmv⟩ := plan_open (hval 2 24 v2 rfl rfl) h2
  clear hA0
  refine (w_FnExactMergedText v0 v1 ks ms kp mv c cs W hvk hvm hcs).mono fun e W' ⟨he, hg⟩ => ?_
  subst he
  exact ⟨_, rfl, law_post (tb := 4) laidOut (by kernel_rfl) rfl rfl Try.underlying4 hW' rfl rfl rfl hg⟩
set_option maxRecDepth 100000 in
theorem lifted (os : Os) (started : os.Started) (H : Type) (enc : TypeId × Value → H) :
    ReturnsInHanded {} Try.checked os 7 .any (Rows.fnExactMergedTextSpec.pre6 enc Try.prog Try.f7 Rows.fnExactMergedTextRow.domain false) (Rows.fnExactMergedTextSpec.post enc Try.prog Try.f7 false true false false) := by
  refine returnsInHanded_of_change (C := Try.checked) own started (by kernel_rfl) Try.func7
    (ChangeSpec.witness6 (enc := enc) (C := Try.checked) false ⟨#[], #[.slice none 0 0, .slice none 0 0, .agg #[.int .i64 0, .int .i64 0, .slice none 0 0]], []⟩ 8 (by kernel_rfl) (by kernel_rfl) (by kernel_rfl) (by kernel_rfl)) ?_
  intro W base args ds gs before hval hW _ _
  exact contract H enc W base args ds gs before hval hW
/-- The statement. -/
theorem proved : Rows.FnExactMergedTextSaid :=
  OpenClaim.holds_of_wide 7 Try.f7 rfl rfl rfl rfl rfl rfl rfl ⟨rfl, rfl, rfl, rfl, rfl⟩ rfl rfl rfl rfl rfl (by kernel_rfl) Try.func7 (by kernel_rfl)
    (of_decide_eq_true (by kernel_rfl)) (by unfold Func.isWrapper; first | (rw [if_pos (by decide +kernel)]; kernel_rfl) | (rw [if_neg (by decide +kernel)]; exact ⟨rfl, rfl⟩))
    (fun os started H enc _ => lifted os started H enc)
end fnExactMergedText

end Go.Proofs.Yteebofhflbjimaa
