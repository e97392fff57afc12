/- 'laws.FnExactLateAdd' returns true, whatever the arguments: no condition. -/
import Derived.Test.YtkdafincnmkjnaaLate
import Derived.Test.YtkdafincnmkjnaaOwnL
import Derived.Test.YtkdafincnmkjnaaBox
set_option linter.unusedVariables false
set_option linter.unusedSimpArgs false
namespace Go.Proofs.Ytkdafincnmkjnaa
open Go.ChangeShapes Go.WideShapes Go.ChangeAt Go.RowKit
theorem late_le {xs : List Lt} (h : xs.length ≤ 1048576) (x : Lt) : (lateL xs x).length ≤ 1048577 := by
  unfold lateL
  split
  · simp; omega
  · omega
set_option maxRecDepth 100000 in
set_option maxHeartbeats 12800000 in
theorem w_FnExactLateAdd (va : Value) (xs : List Lt) (li ls : Int) (w : World) (ha0 : LtAt w va xs) : Calls Try.prog 13 #[va, .agg #[.int .i64 li, .int .i64 ls]] w fun e w' => e = .returned (.bool true) ∧ Below w.heap.size w w' := by
  skip
  have HAw0 := Lib.hid ha0; have HA0 := Lib.hid ha0
  obtain ⟨ao0, ca0, hv0, hl0, hm0⟩ := ha0.shape
  have hlm0 := Nat.le_trans hl0 hm0; clear hl0 hm0; subst hv0
  have hl90 : xs.length ≤ 9223372036854775807 := by unfold maxLen at hlm0; omega
  have HT := Lib.hid (Below.refl w.heap.size w)
  clear ha0
  by_cases hS0 : xs.length ≤ 1048576
  rotate_left
  · (have hall := all_nil w; go_enter Try.func13, Try.ntmps13)
    go_wp2_with (first | (go_at_call 62; (refine (szLateS' _ _ _ (by omega) _ (by omega) _).mono ?_; rintro e w2 ⟨rfl, hb⟩; rw [szRes_neg (by omega)])))
    go_ret
    exact ⟨rfl, by exact bel⟩
  have hrl := late_le hS0 ⟨li, ls⟩
  have HI := Lib.hid (fun y w (h : LtAt w y xs) => i_LateAdd y xs li ls hS0 w h)
  have HS := Lib.hid (fun y w (h : LtAt w y xs) => s_LateAdd y xs li ls hS0 w h)
  generalize lateL xs ⟨li, ls⟩ = rs at *
  generalize lateB xs ⟨li, ls⟩ = rb at *
  (have hall := all_nil w; go_enter Try.func13, Try.ntmps13)
  go_wp2_with fail
  replace HA0 := Lib.hid (HA0.out.below ((Below.refl _ w).alloc (Nat.le_refl _) (.cells #[.int .i64 li, .int .i64 ls] 80)))
  replace HT := Lib.hid (HT.out.trans (((Below.refl _ w).alloc (Nat.le_refl _) (.cells #[.int .i64 li, .int .i64 ls] 80)).mono HT.out.size))
  have BP1 : Hid (BoxAt (w.alloc (.cells #[.int .i64 li, .int .i64 ls] 80)) (w.heap.size) [.int .i64 li, .int .i64 ls]) := (BoxAt.snoc (BoxAt.snoc (BoxAt.nil (w := w.alloc (.cells #[.int .i64 li, .int .i64 ls] 80)) (g := w.heap.size) (by go_simp)) (v := .int .i64 li) (i := 0) rfl (by go_simp) (by go_simp)) (v := .int .i64 ls) (i := 1) rfl (by go_simp) (by go_simp))
  refine (szLateS' _ _ _ (by omega) _ (by omega) _).mono ?_; rintro e w2 ⟨rfl, hb⟩
  rw [szRes_pos (by omega)]
  replace BP1 := Lib.hid (BP1.out.below hb)
  replace HA0 := Lib.hid (HA0.out.below hb)
  replace HT := Lib.hid (HT.out.trans (hb.mono HT.out.size))
  have zwA := hb.size; (try simp only [World.size_alloc] at zwA); clear hb; obtain ⟨wA, rfl⟩ : ∃ x, x = w2 := ⟨_, rfl⟩
  have cP10 := (BP1.out.cells 0 _ rfl).1; have fP10 := (BP1.out.cells 0 _ rfl).2
  have cP11 := (BP1.out.cells 1 _ rfl).1; have fP11 := (BP1.out.cells 1 _ rfl).2
  have xP1 := BP1.out.lt
  go_wp2_with fail
  go_region_held3 (fun w' => w'.cell? ⟨w.heap.size, 0, none⟩ = some (.int .i64 li) ∧ w'.cell? ⟨w.heap.size, 1, none⟩ = some (.int .i64 ls)) (first | (refine ⟨?_, ?_⟩ <;> (go_simp; done)) | go_keep) (first | (go_at_call 64; ((refine (l_toLateS _ xs (by omega) _ (HA0.out.below (by exact bel))).mono ?_); rintro e w2 ⟨vC0, rfl, OC0, hb⟩; (obtain ⟨yC0o, yC0c, rfl, -, -⟩ := OC0.shape); have LC0 := Lib.hid (Own.lts OC0); (have OC0 := Lib.hid OC0); have HQwq0 := Lib.hid hb; have kwq0_P1_0 : w2.cell? ⟨w.heap.size, 0, none⟩ = some (.int .i64 li) := kc hb; have kwq0_P1_1 : w2.cell? ⟨w.heap.size, 1, none⟩ = some (.int .i64 ls) := kc hb; have xwq0_P1 : w.heap.size < w2.heap.size := xc hb; have hzwq0 := hb.size; (try simp only [World.size_alloc, World.size_setCell, World.size_drew] at hzwq0); obtain ⟨wq0, rfl⟩ : ∃ x, x = w2 := ⟨_, rfl⟩; skip)) | (go_at_call 65; (refine (l_toLate li ls _).mono ?_; rintro e w2 ⟨rfl, hb⟩; have HQwq1 := Lib.hid hb; have kwq1_P1_0 : w2.cell? ⟨w.heap.size, 0, none⟩ = some (.int .i64 li) := kc hb; have kwq1_P1_1 : w2.cell? ⟨w.heap.size, 1, none⟩ = some (.int .i64 ls) := kc hb; have xwq1_P1 : w.heap.size < w2.heap.size := xc hb; have hzwq1 := hb.size; (try simp only [World.size_alloc, World.size_setCell, World.size_drew] at hzwq1); obtain ⟨wq1, rfl⟩ : ∃ x, x = w2 := ⟨_, rfl⟩)) | (go_at_call 63; ((refine (HS.out _ _ (Own.at (Own.below OC0.out (by exact bel)) lenLt)).mono ?_; rintro e w2 ⟨vW0, rfl, OW0, hb⟩; (obtain ⟨yW0o, yW0c, rfl, -, -⟩ := OW0.shape); (have LW0 := Lib.hid (Own.lts OW0)); (replace OW0 := Lib.hid OW0); have HQwq2 := Lib.hid hb; have kwq2_P1_0 : w2.cell? ⟨w.heap.size, 0, none⟩ = some (.int .i64 li) := kc hb; have kwq2_P1_1 : w2.cell? ⟨w.heap.size, 1, none⟩ = some (.int .i64 ls) := kc hb; have xwq2_P1 : w.heap.size < w2.heap.size := xc hb; have hzwq2 := hb.size; (try simp only [World.size_alloc, World.size_setCell, World.size_drew] at hzwq2); obtain ⟨wq2, rfl⟩ : ∃ x, x = w2 := ⟨_, rfl⟩; skip))))
  skip
  have hb : Below (wA).heap.size (wA) wq2 := by (have hqwq0 := HQwq0.out; have hqwq1 := HQwq1.out; have hqwq2 := HQwq2.out; exact bel)
  clear xP1 cP10 fP10 cP11 fP11
  clear kwq0_P1_0 kwq0_P1_1 HQwq0 hzwq0
  clear kwq1_P1_0 kwq1_P1_1 HQwq1 hzwq1
  clear kwq2_P1_0 kwq2_P1_1 HQwq2 hzwq2
  obtain ⟨w2, rfl⟩ : ∃ x, x = wq2 := ⟨_, rfl⟩
  clear OC0 LC0
  replace BP1 := Lib.hid (BP1.out.below hb)
  replace HA0 := Lib.hid (HA0.out.below hb)
  replace HT := Lib.hid (HT.out.trans (hb.mono HT.out.size))
  have zwB := hb.size; (try simp only [World.size_alloc] at zwB); clear hb; obtain ⟨wB, rfl⟩ : ∃ x, x = w2 := ⟨_, rfl⟩
  go_wp2_with fail
  refine (l_toLateS _ xs (by omega) _ HA0.out).mono ?_; rintro e w2 ⟨vX0, rfl, OX0, hb⟩
  obtain ⟨yX0o, yX0c, rfl, -, -⟩ := OX0.shape
  have LX0 := Lib.hid (Own.lts OX0); replace OX0 := Lib.hid OX0
  replace BP1 := Lib.hid (BP1.out.below hb)
  replace OW0 := Lib.hid (Own.below OW0.out hb)
  replace HA0 := Lib.hid (HA0.out.below hb)
  replace HT := Lib.hid (HT.out.trans (hb.mono HT.out.size))
  have zwC := hb.size; (try simp only [World.size_alloc] at zwC); clear hb; obtain ⟨wC, rfl⟩ : ∃ x, x = w2 := ⟨_, rfl⟩
  skip
  have cP10 := (BP1.out.cells 0 _ rfl).1; have fP10 := (BP1.out.cells 0 _ rfl).2
  have cP11 := (BP1.out.cells 1 _ rfl).1; have fP11 := (BP1.out.cells 1 _ rfl).2
  have xP1 := BP1.out.lt
  go_wp2_with fail
  refine (l_toLate li ls _).mono ?_; rintro e w2 ⟨rfl, hb⟩
  clear xP1 cP10 fP10 cP11 fP11
  replace BP1 := Lib.hid (BP1.out.below hb)
  replace OW0 := Lib.hid (Own.below OW0.out hb)
  replace OX0 := Lib.hid (Own.below OX0.out hb)
  replace HA0 := Lib.hid (HA0.out.below hb)
  replace HT := Lib.hid (HT.out.trans (hb.mono HT.out.size))
  have zwD := hb.size; (try simp only [World.size_alloc] at zwD); clear hb; obtain ⟨wD, rfl⟩ : ∃ x, x = w2 := ⟨_, rfl⟩
  go_wp2_with fail
  refine (HI.out _ _ (Own.at OX0.out lenLt)).mono ?_; rintro e w2 ⟨vG0, rfl, OG0, hb⟩
  obtain ⟨yG0o, yG0c, rfl, -, -⟩ := OG0.shape
  have LG0 := Lib.hid (Own.lts OG0); replace OG0 := Lib.hid OG0
  replace BP1 := Lib.hid (BP1.out.below hb)
  replace OW0 := Lib.hid (Own.below OW0.out hb)
  replace OX0 := Lib.hid (Own.below OX0.out hb)
  replace HA0 := Lib.hid (HA0.out.below hb)
  replace HT := Lib.hid (HT.out.trans (hb.mono HT.out.size))
  have zwE := hb.size; (try simp only [World.size_alloc] at zwE); clear hb; obtain ⟨wE, rfl⟩ : ∃ x, x = w2 := ⟨_, rfl⟩
  go_wp2_with fail
  refine (l_eqLateS _ _ rs _ (Own.at OG0.out lenLt) (Own.at OW0.out lenLt)).mono ?_; rintro e w2 ⟨rfl, hb⟩
  replace BP1 := Lib.hid (BP1.out.below hb)
  replace OW0 := Lib.hid (Own.below OW0.out hb)
  replace OX0 := Lib.hid (Own.below OX0.out hb)
  replace OG0 := Lib.hid (Own.below OG0.out hb)
  replace HA0 := Lib.hid (HA0.out.below hb)
  replace HT := Lib.hid (HT.out.trans (hb.mono HT.out.size))
  have zwF := hb.size; (try simp only [World.size_alloc] at zwF); clear hb; obtain ⟨wF, rfl⟩ : ∃ x, x = w2 := ⟨_, rfl⟩
  go_wp2_with fail
  refine (l_toLateS _ xs (by omega) _ HA0.out).mono ?_; rintro e w2 ⟨vE, rfl, OE, hb⟩
  obtain ⟨yEo, yEc, rfl, -, -⟩ := OE.shape
  replace OE := Lib.hid OE
  replace BP1 := Lib.hid (BP1.out.below hb)
  replace OW0 := Lib.hid (Own.below OW0.out hb)
  replace OX0 := Lib.hid (Own.below OX0.out hb)
  replace OG0 := Lib.hid (Own.below OG0.out hb)
  replace HA0 := Lib.hid (HA0.out.below hb)
  replace HT := Lib.hid (HT.out.trans (hb.mono HT.out.size))
  have zwG := hb.size; (try simp only [World.size_alloc] at zwG); clear hb; obtain ⟨wG, rfl⟩ : ∃ x, x = w2 := ⟨_, rfl⟩
  go_wp2_with fail
  refine (l_eqLateS _ _ xs _ (Own.at OX0.out lenLt) (Own.at OE.out lenLt)).mono ?_; rintro e w2 ⟨rfl, hb⟩
  clear OE
  replace BP1 := Lib.hid (BP1.out.below hb)
  replace OW0 := Lib.hid (Own.below OW0.out hb)
  replace OX0 := Lib.hid (Own.below OX0.out hb)
  replace OG0 := Lib.hid (Own.below OG0.out hb)
  replace HA0 := Lib.hid (HA0.out.below hb)
  replace HT := Lib.hid (HT.out.trans (hb.mono HT.out.size))
  have zwH := hb.size; (try simp only [World.size_alloc] at zwH); clear hb; obtain ⟨wH, rfl⟩ : ∃ x, x = w2 := ⟨_, rfl⟩
  go_wp2_with fail
  refine (l_markLateS _ _ xs 1 (by omega) _ OX0.out).mono ?_; rintro e w2 ⟨rfl, OM, hgr⟩
  have ht := grown_touch (S := blocks [_]) hgr fun g hg => mem_one hg; clear hgr
  replace BP1 := Lib.hid (BP1.out.touch ht (fun hm => by have := LX0.out _ hm; (try simp only [World.size_alloc] at this); omega))
  replace OW0 := Lib.hid (Own.touchs OW0.out ht (fun g hg hm => by (have h1 := LW0.out g hg; have h2 := LX0.out _ hm; (try simp only [World.size_alloc] at h1 h2); omega)))
  replace OG0 := Lib.hid (Own.touchs OG0.out ht (fun g hg hm => by (have h1 := LG0.out g hg; have h2 := LX0.out _ hm; (try simp only [World.size_alloc] at h1 h2); omega)))
  have hb := ht.toBelow (B := w.heap.size) (fun g hg => by have h2 := LX0.out _ hg; (try simp only [World.size_alloc] at h2); omega) (by omega)
  replace HA0 := Lib.hid (SlAt.below HAw0.out (HT.out.trans hb))
  replace HT := Lib.hid (HT.out.trans hb)
  have zwI := ht.size; clear ht hb; obtain ⟨wI, rfl⟩ : ∃ x, x = w2 := ⟨_, rfl⟩
  clear OX0
  clear OM
  go_wp2_with fail
  refine (l_eqLateS _ _ rs _ (Own.at OG0.out lenLt) (Own.at OW0.out lenLt)).mono ?_; rintro e w2 ⟨rfl, hb⟩
  replace BP1 := Lib.hid (BP1.out.below hb)
  replace OW0 := Lib.hid (Own.below OW0.out hb)
  replace OG0 := Lib.hid (Own.below OG0.out hb)
  replace HA0 := Lib.hid (HA0.out.below hb)
  replace HT := Lib.hid (HT.out.trans (hb.mono HT.out.size))
  have zwJ := hb.size; (try simp only [World.size_alloc] at zwJ); clear hb; obtain ⟨wJ, rfl⟩ : ∃ x, x = w2 := ⟨_, rfl⟩
  go_wp2_with fail
  refine (l_markLateS _ _ rs 1 (by omega) _ OG0.out).mono ?_; rintro e w2 ⟨rfl, OM, hgr⟩
  have ht := grown_touch (S := blocks [_]) hgr fun g hg => mem_one hg; clear hgr
  replace BP1 := Lib.hid (BP1.out.touch ht (fun hm => by have := LG0.out _ hm; (try simp only [World.size_alloc] at this); omega))
  replace OW0 := Lib.hid (Own.touchs OW0.out ht (fun g hg hm => by (have h1 := LW0.out g hg; have h2 := LG0.out _ hm; (try simp only [World.size_alloc] at h1 h2); omega)))
  have hb := ht.toBelow (B := w.heap.size) (fun g hg => by have h2 := LG0.out _ hg; (try simp only [World.size_alloc] at h2); omega) (by omega)
  replace HA0 := Lib.hid (SlAt.below HAw0.out (HT.out.trans hb))
  replace HT := Lib.hid (HT.out.trans hb)
  have zwK := ht.size; clear ht hb; obtain ⟨wK, rfl⟩ : ∃ x, x = w2 := ⟨_, rfl⟩
  clear OG0
  have OG0 := Lib.hid OM; clear OM
  go_wp2_with fail
  refine (l_heldLateS _ rs.length 1 (by omega) _ (Own.at OG0.out lenLt)).mono ?_; rintro e w2 ⟨rfl, hb⟩
  replace BP1 := Lib.hid (BP1.out.below hb)
  replace OW0 := Lib.hid (Own.below OW0.out hb)
  replace OG0 := Lib.hid (Own.below OG0.out hb)
  replace HA0 := Lib.hid (HA0.out.below hb)
  replace HT := Lib.hid (HT.out.trans (hb.mono HT.out.size))
  have zwL := hb.size; (try simp only [World.size_alloc] at zwL); clear hb; obtain ⟨wL, rfl⟩ : ∃ x, x = w2 := ⟨_, rfl⟩
  have cP10 := (BP1.out.cells 0 _ rfl).1; have fP10 := (BP1.out.cells 0 _ rfl).2
  have cP11 := (BP1.out.cells 1 _ rfl).1; have fP11 := (BP1.out.cells 1 _ rfl).2
  have xP1 := BP1.out.lt
  go_wp2_with fail
  go_region_held3 (fun w' => w'.cell? ⟨w.heap.size, 0, none⟩ = some (.int .i64 li) ∧ w'.cell? ⟨w.heap.size, 1, none⟩ = some (.int .i64 ls)) (first | (refine ⟨?_, ?_⟩ <;> (go_simp; done)) | go_keep) (first | (go_at_call 64; ((refine (l_toLateS _ xs (by omega) _ (HA0.out.below (by exact bel))).mono ?_); rintro e w2 ⟨vC0, rfl, OC0, hb⟩; (obtain ⟨yC0o, yC0c, rfl, -, -⟩ := OC0.shape); have LC0 := Lib.hid (Own.lts OC0); (have OC0 := Lib.hid OC0); have HQwq0 := Lib.hid hb; have kwq0_P1_0 : w2.cell? ⟨w.heap.size, 0, none⟩ = some (.int .i64 li) := kc hb; have kwq0_P1_1 : w2.cell? ⟨w.heap.size, 1, none⟩ = some (.int .i64 ls) := kc hb; have xwq0_P1 : w.heap.size < w2.heap.size := xc hb; have hzwq0 := hb.size; (try simp only [World.size_alloc, World.size_setCell, World.size_drew] at hzwq0); obtain ⟨wq0, rfl⟩ : ∃ x, x = w2 := ⟨_, rfl⟩; skip)) | (go_at_call 65; (refine (l_toLate li ls _).mono ?_; rintro e w2 ⟨rfl, hb⟩; have HQwq1 := Lib.hid hb; have kwq1_P1_0 : w2.cell? ⟨w.heap.size, 0, none⟩ = some (.int .i64 li) := kc hb; have kwq1_P1_1 : w2.cell? ⟨w.heap.size, 1, none⟩ = some (.int .i64 ls) := kc hb; have xwq1_P1 : w.heap.size < w2.heap.size := xc hb; have hzwq1 := hb.size; (try simp only [World.size_alloc, World.size_setCell, World.size_drew] at hzwq1); obtain ⟨wq1, rfl⟩ : ∃ x, x = w2 := ⟨_, rfl⟩)) | (go_at_call 66; ((refine (HI.out _ _ (Own.at (Own.below OC0.out (by exact bel)) lenLt)).mono ?_; rintro e w2 ⟨vH0, rfl, OH0, hb⟩; (obtain ⟨yH0o, yH0c, rfl, -, -⟩ := OH0.shape); (have LH0 := Lib.hid (Own.lts OH0)); (replace OH0 := Lib.hid OH0); have HQwq2 := Lib.hid hb; have kwq2_P1_0 : w2.cell? ⟨w.heap.size, 0, none⟩ = some (.int .i64 li) := kc hb; have kwq2_P1_1 : w2.cell? ⟨w.heap.size, 1, none⟩ = some (.int .i64 ls) := kc hb; have xwq2_P1 : w.heap.size < w2.heap.size := xc hb; have hzwq2 := hb.size; (try simp only [World.size_alloc, World.size_setCell, World.size_drew] at hzwq2); obtain ⟨wq2, rfl⟩ : ∃ x, x = w2 := ⟨_, rfl⟩; skip))))
  skip
  have hb : Below (wL).heap.size (wL) wq2 := by (have hqwq0 := HQwq0.out; have hqwq1 := HQwq1.out; have hqwq2 := HQwq2.out; exact bel)
  clear xP1 cP10 fP10 cP11 fP11
  clear kwq0_P1_0 kwq0_P1_1 HQwq0 hzwq0
  clear kwq1_P1_0 kwq1_P1_1 HQwq1 hzwq1
  clear kwq2_P1_0 kwq2_P1_1 HQwq2 hzwq2
  obtain ⟨w2, rfl⟩ : ∃ x, x = wq2 := ⟨_, rfl⟩
  clear OC0 LC0
  replace BP1 := Lib.hid (BP1.out.below hb)
  replace OW0 := Lib.hid (Own.below OW0.out hb)
  replace OG0 := Lib.hid (Own.below OG0.out hb)
  replace HA0 := Lib.hid (HA0.out.below hb)
  replace HT := Lib.hid (HT.out.trans (hb.mono HT.out.size))
  have zwM := hb.size; (try simp only [World.size_alloc] at zwM); clear hb; obtain ⟨wM, rfl⟩ : ∃ x, x = w2 := ⟨_, rfl⟩
  go_wp2_with fail
  refine (l_eqLateS _ _ rs _ (Own.at OH0.out lenLt) (Own.at OW0.out lenLt)).mono ?_; rintro e w2 ⟨rfl, hb⟩
  replace BP1 := Lib.hid (BP1.out.below hb)
  replace OW0 := Lib.hid (Own.below OW0.out hb)
  replace OG0 := Lib.hid (Own.below OG0.out hb)
  replace OH0 := Lib.hid (Own.below OH0.out hb)
  replace HA0 := Lib.hid (HA0.out.below hb)
  replace HT := Lib.hid (HT.out.trans (hb.mono HT.out.size))
  have zwN := hb.size; (try simp only [World.size_alloc] at zwN); clear hb; obtain ⟨wN, rfl⟩ : ∃ x, x = w2 := ⟨_, rfl⟩
  go_wp2_with fail
  refine (l_heldLateS _ rs.length 1 (by omega) _ (Own.at OG0.out lenLt)).mono ?_; rintro e w2 ⟨rfl, hb⟩
  replace BP1 := Lib.hid (BP1.out.below hb)
  replace OW0 := Lib.hid (Own.below OW0.out hb)
  replace OG0 := Lib.hid (Own.below OG0.out hb)
  replace OH0 := Lib.hid (Own.below OH0.out hb)
  replace HA0 := Lib.hid (HA0.out.below hb)
  replace HT := Lib.hid (HT.out.trans (hb.mono HT.out.size))
  have zwO := hb.size; (try simp only [World.size_alloc] at zwO); clear hb; obtain ⟨wO, rfl⟩ : ∃ x, x = w2 := ⟨_, rfl⟩
  go_wp2_with fail
  go_ret
  exact ⟨rfl, HT.out⟩

namespace fnExactLateAdd
set_option maxRecDepth 100000 in
theorem contract (H : Type) (enc : TypeId × Value → H) (W : World) (base : Nat) (args : Array Value) (ds gs : List (DataW H)) (before : List MemPlace)
    (hval : ∀ (j : Nat) t v, Try.f13.params[j]? = some t → args[j]? = some v → Value.okWide Try.prog W .any base t v)
    (hW : DataW.Whole enc Try.prog Try.f13.params.toList Rows.fnExactLateAddSpec.vars false W args.toList ds gs before) :
    Calls Try.prog 13 args W fun e W' => ∃ v, e = .returned v ∧ Rows.fnExactLateAddSpec.post enc Try.prog Try.f13 false true false false W args v W' := by
  have hW' := hW
  obtain ⟨p, q, hA0, hV, rfl, hfz, hnd⟩ := hW
  have hA : DataW.TrodAll enc Try.prog W 0 (fun _ => true) true Try.f13.params.toList args.toList ds p := hA0
  rw [Try.params13] at hA hval
  obtain ⟨v0, vs0, d0, ds0, p0, q0, hargs, rfl, rfl, h0, r0⟩ := trodAll_cons hA
  obtain ⟨v1, vs1, d1, ds1, p1, q1, rfl, rfl, rfl, h1, r1⟩ := trodAll_cons r0
  obtain ⟨rfl, rfl, rfl⟩ := trodAll_nil r1
  obtain rfl : args = #[v0, v1] := by cases args; simp_all
  obtain ⟨rfl, rfl⟩ := trodVars_none hV
  obtain ⟨xs, hxs⟩ := argLt Try.underlying78 Try.underlying80 (by kernel_rfl) (by kernel_rfl) Try.underlying3 rfl rfl (hval 0 78 v0 rfl rfl) h0
  obtain ⟨c1_0, c1_1, y1_0, y1_1, m1, rfl, rfl, rfl, g1_0, g1_1⟩ := Joins.open_agg2 Try.underlying80 (by kernel_rfl) (by kernel_rfl) (hval 1 80 v1 rfl rfl) h1
  obtain ⟨li, e1_0, rfl, wli⟩ := DataW.trod_int Try.underlying3 g1_0
  obtain ⟨ls, e1_1, rfl, wls⟩ := DataW.trod_int Try.underlying3 g1_1
  simp at e1_0 e1_1
  subst e1_0 e1_1
  clear hA0
  refine (w_FnExactLateAdd v0 xs li ls W hxs).mono fun e W' ⟨he, hg⟩ => ?_
  subst he
  exact ⟨_, rfl, law_post (tb := 4) laidOut (by kernel_rfl) rfl rfl Try.underlying4 hW' rfl rfl rfl hg⟩
set_option maxRecDepth 100000 in
theorem lifted (os : Os) (started : os.Started) (H : Type) (enc : TypeId × Value → H) :
    ReturnsInHanded {} Try.checked os 13 .any (Rows.fnExactLateAddSpec.pre6 enc Try.prog Try.f13 Rows.fnExactLateAddRow.domain false) (Rows.fnExactLateAddSpec.post enc Try.prog Try.f13 false true false false) := by
  refine returnsInHanded_of_change (C := Try.checked) own started (by kernel_rfl) Try.func13
    (ChangeSpec.witness6 (enc := enc) (C := Try.checked) false ⟨#[], #[.slice none 0 0, .agg #[.int .i64 0, .int .i64 0]], []⟩ 8 (by kernel_rfl) (by kernel_rfl) (by kernel_rfl) (by kernel_rfl)) ?_
  intro W base args ds gs before hval hW _ _
  exact contract H enc W base args ds gs before hval hW
/-- The statement. -/
theorem proved : Rows.FnExactLateAddSaid :=
  OpenClaim.holds_of_wide 13 Try.f13 rfl rfl rfl rfl rfl rfl rfl ⟨rfl, rfl, rfl, rfl, rfl⟩ rfl rfl rfl rfl rfl (by kernel_rfl) Try.func13 (by kernel_rfl)
    (of_decide_eq_true (by kernel_rfl)) (by unfold Func.isWrapper; first | (rw [if_pos (by decide +kernel)]; kernel_rfl) | (rw [if_neg (by decide +kernel)]; exact ⟨rfl, rfl⟩))
    (fun os started H enc _ => lifted os started H enc)
end fnExactLateAdd

end Go.Proofs.Ytkdafincnmkjnaa
