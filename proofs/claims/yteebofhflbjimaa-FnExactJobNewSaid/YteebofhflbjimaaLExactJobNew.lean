/- 'laws.FnExactJobNew' returns true, whatever the arguments: no condition. -/
import Derived.Test.YteebofhflbjimaaJobNew
import Derived.Test.YteebofhflbjimaaBox
import Derived.Test.YteebofhflbjimaaFrame
import Derived.Test.YteebofhflbjimaaOpenP
set_option linter.unusedVariables false
set_option linter.unusedSimpArgs false
namespace Go.Proofs.Yteebofhflbjimaa
open Go.ChangeShapes Go.WideShapes Go.ChangeAt Go.RowKit
set_option maxRecDepth 100000 in
set_option maxHeartbeats 6400000 in
theorem w_FnExactJobNew (kp mv : Int) (c : Value) (cs : List Int) (w : World) (ha : IntsAt w c cs) : Calls Try.prog 8 #[.agg #[.int .i64 kp, .int .i64 mv, c]] w fun e w' => e = .returned (.bool true) ∧ Below w.heap.size w w' := by
  have HAw := Lib.hid ha
  have HA := Lib.hid ha
  have HT := Lib.hid (Below.refl w.heap.size w)
  clear ha
  by_cases hs : cs.length ≤ 1048576
  · have HI := Lib.hid (fun y w (h : IntsAt w y cs) => i_JobNew kp mv y cs hs w h); have HS := Lib.hid (fun y w (h : IntsAt w y cs) => s_JobNew kp mv y cs hs w h); unfold JNew at HI HS; have hcn : (if planOk kp mv cs then cs else []).length ≤ 1048576 := (by by_cases hq : planOk kp mv cs = true; all_goals simp [hq, hs]); generalize (if planOk kp mv cs then kp else 0) = kp2 at *; generalize (if planOk kp mv cs then mv else 0) = mv2 at *; generalize (if planOk kp mv cs then cs else []) = cs2 at *; generalize (planOk kp mv cs) = b2 at *
    (have hall := all_nil w; go_enter Try.func8, Try.ntmps8)
    go_wp2_with fail
    replace HA := Lib.hid (HA.out.below ((Below.refl _ w).alloc (Nat.le_refl _) (.cells #[.int .i64 kp, .int .i64 mv, c] 24)))
    replace HT := Lib.hid (HT.out.trans (((Below.refl _ w).alloc (Nat.le_refl _) (.cells #[.int .i64 kp, .int .i64 mv, c] 24)).mono HT.out.size))
    have BP : Hid (BoxAt (w.alloc (.cells #[.int .i64 kp, .int .i64 mv, c] 24)) w.heap.size [.int .i64 kp, .int .i64 mv, c]) := (BoxAt.snoc (BoxAt.snoc (BoxAt.snoc (BoxAt.nil (w := w.alloc (.cells #[.int .i64 kp, .int .i64 mv, c] 24)) (g := w.heap.size) (by go_simp)) (v := .int .i64 kp) (i := 0) rfl (by go_simp) (by go_simp)) (v := .int .i64 mv) (i := 1) rfl (by go_simp) (by go_simp)) (v := c) (i := 2) rfl (by go_simp) (by go_simp))
    refine (l_szPlan kp mv c cs _ (by omega) _ HA.out).mono ?_; rintro e w2 ⟨rfl, hb⟩
    rw [szRes_pos (by omega)]
    replace BP := Lib.hid (BP.out.below hb)
    replace HA := Lib.hid (HA.out.below hb)
    replace HT := Lib.hid (HT.out.trans (hb.mono HT.out.size))
    have zwA := hb.size; (try simp only [World.size_alloc] at zwA); clear hb; obtain ⟨wA, rfl⟩ : ∃ x, x = w2 := ⟨_, rfl⟩
    have cP0 := (BP.out.cells 0 _ rfl).1; have fP0 := (BP.out.cells 0 _ rfl).2
    have cP1 := (BP.out.cells 1 _ rfl).1; have fP1 := (BP.out.cells 1 _ rfl).2
    have cP2 := (BP.out.cells 2 _ rfl).1; have fP2 := (BP.out.cells 2 _ rfl).2
    have xP := BP.out.lt
    go_wp2_with fail
    refine (l_toPlan kp mv c cs hs _ HA.out).mono ?_; rintro e w2 ⟨y1, rfl, h1, hb⟩
    clear xP cP0 fP0 cP1 fP1 cP2 fP2
    obtain ⟨o1, c1, rfl, -, -⟩ := h1.shape; have O1 := Lib.hid h1; clear h1
    replace BP := Lib.hid (BP.out.below hb)
    replace HA := Lib.hid (HA.out.below hb)
    replace HT := Lib.hid (HT.out.trans (hb.mono HT.out.size))
    have zwB := hb.size; (try simp only [World.size_alloc] at zwB); clear hb; obtain ⟨wB, rfl⟩ : ∃ x, x = w2 := ⟨_, rfl⟩
    go_wp2_with fail
    refine (HS.out _ _ (Own.at O1.out lenInt)).mono ?_; rintro e w2 ⟨y, rfl, h1, hb⟩
    clear O1
    obtain ⟨wo, wc, rfl, -, -⟩ := h1.shape; have OW := Lib.hid h1; clear h1
    have LW := Lib.hid (Own.lts OW.out)
    replace BP := Lib.hid (BP.out.below hb)
    replace HA := Lib.hid (HA.out.below hb)
    replace HT := Lib.hid (HT.out.trans (hb.mono HT.out.size))
    have zwC := hb.size; (try simp only [World.size_alloc] at zwC); clear hb; obtain ⟨wC, rfl⟩ : ∃ x, x = w2 := ⟨_, rfl⟩
    have cP0 := (BP.out.cells 0 _ rfl).1; have fP0 := (BP.out.cells 0 _ rfl).2
    have cP1 := (BP.out.cells 1 _ rfl).1; have fP1 := (BP.out.cells 1 _ rfl).2
    have cP2 := (BP.out.cells 2 _ rfl).1; have fP2 := (BP.out.cells 2 _ rfl).2
    have xP := BP.out.lt
    go_wp2_with fail
    replace BP := Lib.hid (BP.out.below ((Below.refl _ wC).alloc (Nat.le_refl _) (.cells #[.int .i64 kp2, .int .i64 mv2, .slice wo cs2.length wc, .int .i64 0, .int .i64 0] 37)))
    replace OW := Lib.hid (Own.below OW.out ((Below.refl _ wC).alloc (Nat.le_refl _) (.cells #[.int .i64 kp2, .int .i64 mv2, .slice wo cs2.length wc, .int .i64 0, .int .i64 0] 37)))
    replace HA := Lib.hid (HA.out.below ((Below.refl _ wC).alloc (Nat.le_refl _) (.cells #[.int .i64 kp2, .int .i64 mv2, .slice wo cs2.length wc, .int .i64 0, .int .i64 0] 37)))
    replace HT := Lib.hid (HT.out.trans (((Below.refl _ wC).alloc (Nat.le_refl _) (.cells #[.int .i64 kp2, .int .i64 mv2, .slice wo cs2.length wc, .int .i64 0, .int .i64 0] 37)).mono HT.out.size))
    have BW : Hid (BoxAt (wC.alloc (.cells #[.int .i64 kp2, .int .i64 mv2, .slice wo cs2.length wc, .int .i64 0, .int .i64 0] 37)) wC.heap.size [.int .i64 kp2, .int .i64 mv2, .slice wo cs2.length wc, .int .i64 0, .int .i64 0]) := (BoxAt.snoc (BoxAt.snoc (BoxAt.snoc (BoxAt.snoc (BoxAt.snoc (BoxAt.nil (w := wC.alloc (.cells #[.int .i64 kp2, .int .i64 mv2, .slice wo cs2.length wc, .int .i64 0, .int .i64 0] 37)) (g := wC.heap.size) (by go_simp)) (v := .int .i64 kp2) (i := 0) rfl (by go_simp) (by go_simp)) (v := .int .i64 mv2) (i := 1) rfl (by go_simp) (by go_simp)) (v := .slice wo cs2.length wc) (i := 2) rfl (by go_simp) (by go_simp)) (v := .int .i64 0) (i := 3) rfl (by go_simp) (by go_simp)) (v := .int .i64 0) (i := 4) rfl (by go_simp) (by go_simp))
    refine (l_toPlan kp mv c cs hs _ HA.out).mono ?_; rintro e w2 ⟨y, rfl, h1, hb⟩
    clear xP cP0 fP0 cP1 fP1 cP2 fP2
    obtain ⟨xo, xc, rfl, -, -⟩ := h1.shape; have OX := Lib.hid h1; clear h1
    have LX := Lib.hid (Own.lts OX.out)
    replace BP := Lib.hid (BP.out.below hb)
    replace BW := Lib.hid (BW.out.below hb)
    replace OW := Lib.hid (Own.below OW.out hb)
    replace HA := Lib.hid (HA.out.below hb)
    replace HT := Lib.hid (HT.out.trans (hb.mono HT.out.size))
    have zwD := hb.size; (try simp only [World.size_alloc] at zwD); clear hb; obtain ⟨wD, rfl⟩ : ∃ x, x = w2 := ⟨_, rfl⟩
    go_wp2_with fail
    replace BP := Lib.hid (BP.out.below ((Below.refl _ wD).alloc (Nat.le_refl _) (.cells #[.int .i64 kp, .int .i64 mv, .slice xo cs.length xc] 27)))
    replace BW := Lib.hid (BW.out.below ((Below.refl _ wD).alloc (Nat.le_refl _) (.cells #[.int .i64 kp, .int .i64 mv, .slice xo cs.length xc] 27)))
    replace OW := Lib.hid (Own.below OW.out ((Below.refl _ wD).alloc (Nat.le_refl _) (.cells #[.int .i64 kp, .int .i64 mv, .slice xo cs.length xc] 27)))
    replace OX := Lib.hid (Own.below OX.out ((Below.refl _ wD).alloc (Nat.le_refl _) (.cells #[.int .i64 kp, .int .i64 mv, .slice xo cs.length xc] 27)))
    replace HA := Lib.hid (HA.out.below ((Below.refl _ wD).alloc (Nat.le_refl _) (.cells #[.int .i64 kp, .int .i64 mv, .slice xo cs.length xc] 27)))
    replace HT := Lib.hid (HT.out.trans (((Below.refl _ wD).alloc (Nat.le_refl _) (.cells #[.int .i64 kp, .int .i64 mv, .slice xo cs.length xc] 27)).mono HT.out.size))
    have BX : Hid (BoxAt (wD.alloc (.cells #[.int .i64 kp, .int .i64 mv, .slice xo cs.length xc] 27)) wD.heap.size [.int .i64 kp, .int .i64 mv, .slice xo cs.length xc]) := (BoxAt.snoc (BoxAt.snoc (BoxAt.snoc (BoxAt.nil (w := wD.alloc (.cells #[.int .i64 kp, .int .i64 mv, .slice xo cs.length xc] 27)) (g := wD.heap.size) (by go_simp)) (v := .int .i64 kp) (i := 0) rfl (by go_simp) (by go_simp)) (v := .int .i64 mv) (i := 1) rfl (by go_simp) (by go_simp)) (v := .slice xo cs.length xc) (i := 2) rfl (by go_simp) (by go_simp))
    refine (HI.out _ _ (Own.at OX.out lenInt)).mono ?_; rintro e w2 ⟨y, rfl, h1, hb⟩
    obtain ⟨go, gc, rfl, -, -⟩ := h1.shape; have OG := Lib.hid h1; clear h1
    have LG := Lib.hid (Own.lts OG.out)
    replace BP := Lib.hid (BP.out.below hb)
    replace BW := Lib.hid (BW.out.below hb)
    replace BX := Lib.hid (BX.out.below hb)
    replace OW := Lib.hid (Own.below OW.out hb)
    replace OX := Lib.hid (Own.below OX.out hb)
    replace HA := Lib.hid (HA.out.below hb)
    replace HT := Lib.hid (HT.out.trans (hb.mono HT.out.size))
    have zwE := hb.size; (try simp only [World.size_alloc] at zwE); clear hb; obtain ⟨wE, rfl⟩ : ∃ x, x = w2 := ⟨_, rfl⟩
    have cW0 := (BW.out.cells 0 _ rfl).1; have fW0 := (BW.out.cells 0 _ rfl).2
    have cW1 := (BW.out.cells 1 _ rfl).1; have fW1 := (BW.out.cells 1 _ rfl).2
    have cW2 := (BW.out.cells 2 _ rfl).1; have fW2 := (BW.out.cells 2 _ rfl).2
    have cW3 := (BW.out.cells 3 _ rfl).1; have fW3 := (BW.out.cells 3 _ rfl).2
    have cW4 := (BW.out.cells 4 _ rfl).1; have fW4 := (BW.out.cells 4 _ rfl).2
    have xW := BW.out.lt
    go_wp2_with fail
    replace BP := Lib.hid (BP.out.below ((Below.refl _ wE).alloc (Nat.le_refl _) (.cells #[.int .i64 kp2, .int .i64 mv2, .slice go cs2.length gc, .int .i64 0, .int .i64 0] 37)))
    replace BW := Lib.hid (BW.out.below ((Below.refl _ wE).alloc (Nat.le_refl _) (.cells #[.int .i64 kp2, .int .i64 mv2, .slice go cs2.length gc, .int .i64 0, .int .i64 0] 37)))
    replace BX := Lib.hid (BX.out.below ((Below.refl _ wE).alloc (Nat.le_refl _) (.cells #[.int .i64 kp2, .int .i64 mv2, .slice go cs2.length gc, .int .i64 0, .int .i64 0] 37)))
    replace OW := Lib.hid (Own.below OW.out ((Below.refl _ wE).alloc (Nat.le_refl _) (.cells #[.int .i64 kp2, .int .i64 mv2, .slice go cs2.length gc, .int .i64 0, .int .i64 0] 37)))
    replace OX := Lib.hid (Own.below OX.out ((Below.refl _ wE).alloc (Nat.le_refl _) (.cells #[.int .i64 kp2, .int .i64 mv2, .slice go cs2.length gc, .int .i64 0, .int .i64 0] 37)))
    replace OG := Lib.hid (Own.below OG.out ((Below.refl _ wE).alloc (Nat.le_refl _) (.cells #[.int .i64 kp2, .int .i64 mv2, .slice go cs2.length gc, .int .i64 0, .int .i64 0] 37)))
    replace HA := Lib.hid (HA.out.below ((Below.refl _ wE).alloc (Nat.le_refl _) (.cells #[.int .i64 kp2, .int .i64 mv2, .slice go cs2.length gc, .int .i64 0, .int .i64 0] 37)))
    replace HT := Lib.hid (HT.out.trans (((Below.refl _ wE).alloc (Nat.le_refl _) (.cells #[.int .i64 kp2, .int .i64 mv2, .slice go cs2.length gc, .int .i64 0, .int .i64 0] 37)).mono HT.out.size))
    have BG : Hid (BoxAt (wE.alloc (.cells #[.int .i64 kp2, .int .i64 mv2, .slice go cs2.length gc, .int .i64 0, .int .i64 0] 37)) wE.heap.size [.int .i64 kp2, .int .i64 mv2, .slice go cs2.length gc, .int .i64 0, .int .i64 0]) := (BoxAt.snoc (BoxAt.snoc (BoxAt.snoc (BoxAt.snoc (BoxAt.snoc (BoxAt.nil (w := wE.alloc (.cells #[.int .i64 kp2, .int .i64 mv2, .slice go cs2.length gc, .int .i64 0, .int .i64 0] 37)) (g := wE.heap.size) (by go_simp)) (v := .int .i64 kp2) (i := 0) rfl (by go_simp) (by go_simp)) (v := .int .i64 mv2) (i := 1) rfl (by go_simp) (by go_simp)) (v := .slice go cs2.length gc) (i := 2) rfl (by go_simp) (by go_simp)) (v := .int .i64 0) (i := 3) rfl (by go_simp) (by go_simp)) (v := .int .i64 0) (i := 4) rfl (by go_simp) (by go_simp))
    refine (l_eqJob _ _ kp2 mv2 _ _ cs2 0 0 _ OG.out OW.out).mono ?_; rintro e w2 ⟨rfl, hb⟩
    clear xW cW0 fW0 cW1 fW1 cW2 fW2 cW3 fW3 cW4 fW4
    replace BP := Lib.hid (BP.out.below hb)
    replace BW := Lib.hid (BW.out.below hb)
    replace BX := Lib.hid (BX.out.below hb)
    replace BG := Lib.hid (BG.out.below hb)
    replace OW := Lib.hid (Own.below OW.out hb)
    replace OX := Lib.hid (Own.below OX.out hb)
    replace OG := Lib.hid (Own.below OG.out hb)
    replace HA := Lib.hid (HA.out.below hb)
    replace HT := Lib.hid (HT.out.trans (hb.mono HT.out.size))
    have zwF := hb.size; (try simp only [World.size_alloc] at zwF); clear hb; obtain ⟨wF, rfl⟩ : ∃ x, x = w2 := ⟨_, rfl⟩
    have cX0 := (BX.out.cells 0 _ rfl).1; have fX0 := (BX.out.cells 0 _ rfl).2
    have cX1 := (BX.out.cells 1 _ rfl).1; have fX1 := (BX.out.cells 1 _ rfl).2
    have cX2 := (BX.out.cells 2 _ rfl).1; have fX2 := (BX.out.cells 2 _ rfl).2
    have xX := BX.out.lt
    have cP0 := (BP.out.cells 0 _ rfl).1; have fP0 := (BP.out.cells 0 _ rfl).2
    have cP1 := (BP.out.cells 1 _ rfl).1; have fP1 := (BP.out.cells 1 _ rfl).2
    have cP2 := (BP.out.cells 2 _ rfl).1; have fP2 := (BP.out.cells 2 _ rfl).2
    have xP := BP.out.lt
    go_wp2_with fail
    go_region_held3 (fun w' => w'.cell? ⟨wD.heap.size, 0, none⟩ = some (.int .i64 kp) ∧ w'.cell? ⟨wD.heap.size, 1, none⟩ = some (.int .i64 mv) ∧ w'.cell? ⟨wD.heap.size, 2, none⟩ = some (.slice xo cs.length xc) ∧ w'.cell? ⟨w.heap.size, 0, none⟩ = some (.int .i64 kp) ∧ w'.cell? ⟨w.heap.size, 1, none⟩ = some (.int .i64 mv) ∧ w'.cell? ⟨w.heap.size, 2, none⟩ = some (c)) (first | (refine ⟨?_, ?_, ?_, ?_, ?_, ?_⟩ <;> (go_simp; done)) | go_keep) (first | (go_at_call 17; refine (l_toPlan kp mv c cs hs _ (HA.out.below (by exact bel))).mono ?_; rintro e w2 ⟨y2, rfl, h2, hb⟩; obtain ⟨o2, c2, rfl, -, -⟩ := h2.shape; have kwG_D_0 : w2.cell? ⟨wD.heap.size, 0, none⟩ = some (.int .i64 kp) := (hb.cell (p := ⟨wD.heap.size, 0, none⟩) (by exact zt)).trans (by go_simp); have kwG_D_1 : w2.cell? ⟨wD.heap.size, 1, none⟩ = some (.int .i64 mv) := (hb.cell (p := ⟨wD.heap.size, 1, none⟩) (by exact zt)).trans (by go_simp); have kwG_D_2 : w2.cell? ⟨wD.heap.size, 2, none⟩ = some (.slice xo cs.length xc) := (hb.cell (p := ⟨wD.heap.size, 2, none⟩) (by exact zt)).trans (by go_simp); have kwG_P_0 : w2.cell? ⟨w.heap.size, 0, none⟩ = some (.int .i64 kp) := (hb.cell (p := ⟨w.heap.size, 0, none⟩) (by exact zt)).trans (by go_simp); have kwG_P_1 : w2.cell? ⟨w.heap.size, 1, none⟩ = some (.int .i64 mv) := (hb.cell (p := ⟨w.heap.size, 1, none⟩) (by exact zt)).trans (by go_simp); have kwG_P_2 : w2.cell? ⟨w.heap.size, 2, none⟩ = some (c) := (hb.cell (p := ⟨w.heap.size, 2, none⟩) (by exact zt)).trans (by go_simp); have xwG_D : wD.heap.size < w2.heap.size := (by have hz := hb.size; (try simp only [World.size_alloc, World.size_setCell, World.size_drew] at hz); omega); have xwG_P : w.heap.size < w2.heap.size := (by have hz := hb.size; (try simp only [World.size_alloc, World.size_setCell, World.size_drew] at hz); omega); have hzwG := hb.size; (try simp only [World.size_alloc, World.size_setCell, World.size_drew] at hzwG); have HB1 := Lib.hid hb; obtain ⟨wG, rfl⟩ : ∃ x, x = w2 := ⟨_, rfl⟩) | (go_at_call 19; refine (l_eqPlan _ _ kp mv _ _ cs _ (Own.below OX.out (by exact bel)) (Own.below h2 (by exact bel))).mono ?_; rintro e w2 ⟨rfl, hb⟩; have kwH_D_0 : w2.cell? ⟨wD.heap.size, 0, none⟩ = some (.int .i64 kp) := (hb.cell (p := ⟨wD.heap.size, 0, none⟩) (by exact zt)).trans (by go_simp); have kwH_D_1 : w2.cell? ⟨wD.heap.size, 1, none⟩ = some (.int .i64 mv) := (hb.cell (p := ⟨wD.heap.size, 1, none⟩) (by exact zt)).trans (by go_simp); have kwH_D_2 : w2.cell? ⟨wD.heap.size, 2, none⟩ = some (.slice xo cs.length xc) := (hb.cell (p := ⟨wD.heap.size, 2, none⟩) (by exact zt)).trans (by go_simp); have kwH_P_0 : w2.cell? ⟨w.heap.size, 0, none⟩ = some (.int .i64 kp) := (hb.cell (p := ⟨w.heap.size, 0, none⟩) (by exact zt)).trans (by go_simp); have kwH_P_1 : w2.cell? ⟨w.heap.size, 1, none⟩ = some (.int .i64 mv) := (hb.cell (p := ⟨w.heap.size, 1, none⟩) (by exact zt)).trans (by go_simp); have kwH_P_2 : w2.cell? ⟨w.heap.size, 2, none⟩ = some (c) := (hb.cell (p := ⟨w.heap.size, 2, none⟩) (by exact zt)).trans (by go_simp); have xwH_D : wD.heap.size < w2.heap.size := (by have hz := hb.size; (try simp only [World.size_alloc, World.size_setCell, World.size_drew] at hz); omega); have xwH_P : w.heap.size < w2.heap.size := (by have hz := hb.size; (try simp only [World.size_alloc, World.size_setCell, World.size_drew] at hz); omega); have hzwH := hb.size; (try simp only [World.size_alloc, World.size_setCell, World.size_drew] at hzwH); have HB2 := Lib.hid hb; obtain ⟨wH, rfl⟩ : ∃ x, x = w2 := ⟨_, rfl⟩))
    have hb : Below wF.heap.size wF wH := by (have hB1 := HB1.out; have hB2 := HB2.out; exact bel)
    clear xX cX0 fX0 cX1 fX1 cX2 fX2
    clear xP cP0 fP0 cP1 fP1 cP2 fP2
    clear kwG_D_0 kwG_D_1 kwG_D_2 kwG_P_0 kwG_P_1 kwG_P_2
    clear kwH_D_0 kwH_D_1 kwH_D_2 kwH_P_0 kwH_P_1 kwH_P_2
    obtain ⟨w2, rfl⟩ : ∃ x, x = wH := ⟨_, rfl⟩
    clear HB1 HB2 h2
    replace BP := Lib.hid (BP.out.below hb)
    replace BW := Lib.hid (BW.out.below hb)
    replace BX := Lib.hid (BX.out.below hb)
    replace BG := Lib.hid (BG.out.below hb)
    replace OW := Lib.hid (Own.below OW.out hb)
    replace OX := Lib.hid (Own.below OX.out hb)
    replace OG := Lib.hid (Own.below OG.out hb)
    replace HA := Lib.hid (HA.out.below hb)
    replace HT := Lib.hid (HT.out.trans (hb.mono HT.out.size))
    have zwI := hb.size; (try simp only [World.size_alloc] at zwI); clear hb; obtain ⟨wI, rfl⟩ : ∃ x, x = w2 := ⟨_, rfl⟩
    have cX0 := (BX.out.cells 0 _ rfl).1; have fX0 := (BX.out.cells 0 _ rfl).2
    have cX1 := (BX.out.cells 1 _ rfl).1; have fX1 := (BX.out.cells 1 _ rfl).2
    have cX2 := (BX.out.cells 2 _ rfl).1; have fX2 := (BX.out.cells 2 _ rfl).2
    have xX := BX.out.lt
    go_wp2_with fail
    refine (l_markPlan _ kp mv _ cs 1 (by omega) _ OX.out).mono ?_; rintro e w2 ⟨rfl, _, ht⟩
    clear xX cX0 fX0 cX1 fX1 cX2 fX2
    replace BP := Lib.hid (BP.out.touch ht (fun hm => by have := LX.out _ hm; (try simp only [World.size_alloc] at this); omega))
    replace BW := Lib.hid (BW.out.touch ht (fun hm => by have := LX.out _ hm; (try simp only [World.size_alloc] at this); omega))
    replace BG := Lib.hid (BG.out.touch ht (fun hm => by have := LX.out _ hm; (try simp only [World.size_alloc] at this); omega))
    replace OW := Lib.hid (Own.touchs OW.out ht (fun g hg hm => by have h1 := LW.out g hg; have h2 := LX.out _ hm; (try simp only [World.size_alloc] at h1 h2); omega))
    replace OG := Lib.hid (Own.touchs OG.out ht (fun g hg hm => by have h1 := LG.out g hg; have h2 := LX.out _ hm; (try simp only [World.size_alloc] at h1 h2); omega))
    have hb := ht.toBelow (B := w.heap.size) (fun g hg => by have h2 := LX.out _ hg; (try simp only [World.size_alloc] at h2); omega) (by omega)
    replace HA := Lib.hid (SlAt.below HAw.out (HT.out.trans hb))
    replace HT := Lib.hid (HT.out.trans hb)
    have zwJ := ht.size; clear ht hb; obtain ⟨wJ, rfl⟩ : ∃ x, x = w2 := ⟨_, rfl⟩
    clear BX OX
    have cG0 := (BG.out.cells 0 _ rfl).1; have fG0 := (BG.out.cells 0 _ rfl).2
    have cG1 := (BG.out.cells 1 _ rfl).1; have fG1 := (BG.out.cells 1 _ rfl).2
    have cG2 := (BG.out.cells 2 _ rfl).1; have fG2 := (BG.out.cells 2 _ rfl).2
    have cG3 := (BG.out.cells 3 _ rfl).1; have fG3 := (BG.out.cells 3 _ rfl).2
    have cG4 := (BG.out.cells 4 _ rfl).1; have fG4 := (BG.out.cells 4 _ rfl).2
    have xG := BG.out.lt
    have cW0 := (BW.out.cells 0 _ rfl).1; have fW0 := (BW.out.cells 0 _ rfl).2
    have cW1 := (BW.out.cells 1 _ rfl).1; have fW1 := (BW.out.cells 1 _ rfl).2
    have cW2 := (BW.out.cells 2 _ rfl).1; have fW2 := (BW.out.cells 2 _ rfl).2
    have cW3 := (BW.out.cells 3 _ rfl).1; have fW3 := (BW.out.cells 3 _ rfl).2
    have cW4 := (BW.out.cells 4 _ rfl).1; have fW4 := (BW.out.cells 4 _ rfl).2
    have xW := BW.out.lt
    go_wp2_with fail
    refine (l_eqJob _ _ kp2 mv2 _ _ cs2 0 0 _ OG.out OW.out).mono ?_; rintro e w2 ⟨rfl, hb⟩
    clear xG cG0 fG0 cG1 fG1 cG2 fG2 cG3 fG3 cG4 fG4
    clear xW cW0 fW0 cW1 fW1 cW2 fW2 cW3 fW3 cW4 fW4
    replace BP := Lib.hid (BP.out.below hb)
    replace BW := Lib.hid (BW.out.below hb)
    replace BG := Lib.hid (BG.out.below hb)
    replace OW := Lib.hid (Own.below OW.out hb)
    replace OG := Lib.hid (Own.below OG.out hb)
    replace HA := Lib.hid (HA.out.below hb)
    replace HT := Lib.hid (HT.out.trans (hb.mono HT.out.size))
    have zwK := hb.size; (try simp only [World.size_alloc] at zwK); clear hb; obtain ⟨wK, rfl⟩ : ∃ x, x = w2 := ⟨_, rfl⟩
    have cG0 := (BG.out.cells 0 _ rfl).1; have fG0 := (BG.out.cells 0 _ rfl).2
    have cG1 := (BG.out.cells 1 _ rfl).1; have fG1 := (BG.out.cells 1 _ rfl).2
    have cG2 := (BG.out.cells 2 _ rfl).1; have fG2 := (BG.out.cells 2 _ rfl).2
    have cG3 := (BG.out.cells 3 _ rfl).1; have fG3 := (BG.out.cells 3 _ rfl).2
    have cG4 := (BG.out.cells 4 _ rfl).1; have fG4 := (BG.out.cells 4 _ rfl).2
    have xG := BG.out.lt
    go_wp2_with fail
    refine (l_markJob _ kp2 mv2 _ cs2 0 0 1 (by omega) _ OG.out).mono ?_; rintro e w2 ⟨rfl, hOM, ht⟩
    clear xG cG0 fG0 cG1 fG1 cG2 fG2 cG3 fG3 cG4 fG4
    replace BP := Lib.hid (BP.out.touch ht (fun hm => by have := LG.out _ hm; (try simp only [World.size_alloc] at this); omega))
    replace BW := Lib.hid (BW.out.touch ht (fun hm => by have := LG.out _ hm; (try simp only [World.size_alloc] at this); omega))
    replace BG := Lib.hid (BG.out.touch ht (fun hm => by have := LG.out _ hm; (try simp only [World.size_alloc] at this); omega))
    replace OW := Lib.hid (Own.touchs OW.out ht (fun g hg hm => by have h1 := LW.out g hg; have h2 := LG.out _ hm; (try simp only [World.size_alloc] at h1 h2); omega))
    have hb := ht.toBelow (B := w.heap.size) (fun g hg => by have h2 := LG.out _ hg; (try simp only [World.size_alloc] at h2); omega) (by omega)
    replace HA := Lib.hid (SlAt.below HAw.out (HT.out.trans hb))
    replace HT := Lib.hid (HT.out.trans hb)
    have zwL := ht.size; clear ht hb; obtain ⟨wL, rfl⟩ : ∃ x, x = w2 := ⟨_, rfl⟩
    clear OG; have OM := Lib.hid hOM; clear hOM
    have cG0 := (BG.out.cells 0 _ rfl).1; have fG0 := (BG.out.cells 0 _ rfl).2
    have cG1 := (BG.out.cells 1 _ rfl).1; have fG1 := (BG.out.cells 1 _ rfl).2
    have cG2 := (BG.out.cells 2 _ rfl).1; have fG2 := (BG.out.cells 2 _ rfl).2
    have cG3 := (BG.out.cells 3 _ rfl).1; have fG3 := (BG.out.cells 3 _ rfl).2
    have cG4 := (BG.out.cells 4 _ rfl).1; have fG4 := (BG.out.cells 4 _ rfl).2
    have xG := BG.out.lt
    go_wp2_with fail
    refine (l_heldJob _ kp2 mv2 _ cs2.length 0 0 1 (by omega) _ OM.out).mono ?_; rintro e w2 ⟨rfl, hb⟩
    clear xG cG0 fG0 cG1 fG1 cG2 fG2 cG3 fG3 cG4 fG4
    replace BP := Lib.hid (BP.out.below hb)
    replace BW := Lib.hid (BW.out.below hb)
    replace BG := Lib.hid (BG.out.below hb)
    replace OW := Lib.hid (Own.below OW.out hb)
    replace OM := Lib.hid (Own.below OM.out hb)
    replace HA := Lib.hid (HA.out.below hb)
    replace HT := Lib.hid (HT.out.trans (hb.mono HT.out.size))
    have zwM := hb.size; (try simp only [World.size_alloc] at zwM); clear hb; obtain ⟨wM, rfl⟩ : ∃ x, x = w2 := ⟨_, rfl⟩
    have cP0 := (BP.out.cells 0 _ rfl).1; have fP0 := (BP.out.cells 0 _ rfl).2
    have cP1 := (BP.out.cells 1 _ rfl).1; have fP1 := (BP.out.cells 1 _ rfl).2
    have cP2 := (BP.out.cells 2 _ rfl).1; have fP2 := (BP.out.cells 2 _ rfl).2
    have xP := BP.out.lt
    go_wp2_with fail
    refine (l_toPlan kp mv c cs hs _ HA.out).mono ?_; rintro e w2 ⟨y3, rfl, h1, hb⟩
    clear xP cP0 fP0 cP1 fP1 cP2 fP2
    obtain ⟨o3, c3, rfl, -, -⟩ := h1.shape; have O3 := Lib.hid h1; clear h1
    replace BP := Lib.hid (BP.out.below hb)
    replace BW := Lib.hid (BW.out.below hb)
    replace BG := Lib.hid (BG.out.below hb)
    replace OW := Lib.hid (Own.below OW.out hb)
    replace OM := Lib.hid (Own.below OM.out hb)
    replace HA := Lib.hid (HA.out.below hb)
    replace HT := Lib.hid (HT.out.trans (hb.mono HT.out.size))
    have zwN := hb.size; (try simp only [World.size_alloc] at zwN); clear hb; obtain ⟨wN, rfl⟩ : ∃ x, x = w2 := ⟨_, rfl⟩
    go_wp2_with fail
    refine (HI.out _ _ (Own.at O3.out lenInt)).mono ?_; rintro e w2 ⟨y, rfl, h1, hb⟩
    clear O3
    obtain ⟨ho, hc, rfl, -, -⟩ := h1.shape; have OH := Lib.hid h1; clear h1
    replace BP := Lib.hid (BP.out.below hb)
    replace BW := Lib.hid (BW.out.below hb)
    replace BG := Lib.hid (BG.out.below hb)
    replace OW := Lib.hid (Own.below OW.out hb)
    replace OM := Lib.hid (Own.below OM.out hb)
    replace HA := Lib.hid (HA.out.below hb)
    replace HT := Lib.hid (HT.out.trans (hb.mono HT.out.size))
    have zwO := hb.size; (try simp only [World.size_alloc] at zwO); clear hb; obtain ⟨wO, rfl⟩ : ∃ x, x = w2 := ⟨_, rfl⟩
    have cW0 := (BW.out.cells 0 _ rfl).1; have fW0 := (BW.out.cells 0 _ rfl).2
    have cW1 := (BW.out.cells 1 _ rfl).1; have fW1 := (BW.out.cells 1 _ rfl).2
    have cW2 := (BW.out.cells 2 _ rfl).1; have fW2 := (BW.out.cells 2 _ rfl).2
    have cW3 := (BW.out.cells 3 _ rfl).1; have fW3 := (BW.out.cells 3 _ rfl).2
    have cW4 := (BW.out.cells 4 _ rfl).1; have fW4 := (BW.out.cells 4 _ rfl).2
    have xW := BW.out.lt
    go_wp2_with fail
    replace BP := Lib.hid (BP.out.below ((Below.refl _ wO).alloc (Nat.le_refl _) (.cells #[.int .i64 kp2, .int .i64 mv2, .slice ho cs2.length hc, .int .i64 0, .int .i64 0] 37)))
    replace BW := Lib.hid (BW.out.below ((Below.refl _ wO).alloc (Nat.le_refl _) (.cells #[.int .i64 kp2, .int .i64 mv2, .slice ho cs2.length hc, .int .i64 0, .int .i64 0] 37)))
    replace BG := Lib.hid (BG.out.below ((Below.refl _ wO).alloc (Nat.le_refl _) (.cells #[.int .i64 kp2, .int .i64 mv2, .slice ho cs2.length hc, .int .i64 0, .int .i64 0] 37)))
    replace OW := Lib.hid (Own.below OW.out ((Below.refl _ wO).alloc (Nat.le_refl _) (.cells #[.int .i64 kp2, .int .i64 mv2, .slice ho cs2.length hc, .int .i64 0, .int .i64 0] 37)))
    replace OM := Lib.hid (Own.below OM.out ((Below.refl _ wO).alloc (Nat.le_refl _) (.cells #[.int .i64 kp2, .int .i64 mv2, .slice ho cs2.length hc, .int .i64 0, .int .i64 0] 37)))
    replace OH := Lib.hid (Own.below OH.out ((Below.refl _ wO).alloc (Nat.le_refl _) (.cells #[.int .i64 kp2, .int .i64 mv2, .slice ho cs2.length hc, .int .i64 0, .int .i64 0] 37)))
    replace HA := Lib.hid (HA.out.below ((Below.refl _ wO).alloc (Nat.le_refl _) (.cells #[.int .i64 kp2, .int .i64 mv2, .slice ho cs2.length hc, .int .i64 0, .int .i64 0] 37)))
    replace HT := Lib.hid (HT.out.trans (((Below.refl _ wO).alloc (Nat.le_refl _) (.cells #[.int .i64 kp2, .int .i64 mv2, .slice ho cs2.length hc, .int .i64 0, .int .i64 0] 37)).mono HT.out.size))
    have BH : Hid (BoxAt (wO.alloc (.cells #[.int .i64 kp2, .int .i64 mv2, .slice ho cs2.length hc, .int .i64 0, .int .i64 0] 37)) wO.heap.size [.int .i64 kp2, .int .i64 mv2, .slice ho cs2.length hc, .int .i64 0, .int .i64 0]) := (BoxAt.snoc (BoxAt.snoc (BoxAt.snoc (BoxAt.snoc (BoxAt.snoc (BoxAt.nil (w := wO.alloc (.cells #[.int .i64 kp2, .int .i64 mv2, .slice ho cs2.length hc, .int .i64 0, .int .i64 0] 37)) (g := wO.heap.size) (by go_simp)) (v := .int .i64 kp2) (i := 0) rfl (by go_simp) (by go_simp)) (v := .int .i64 mv2) (i := 1) rfl (by go_simp) (by go_simp)) (v := .slice ho cs2.length hc) (i := 2) rfl (by go_simp) (by go_simp)) (v := .int .i64 0) (i := 3) rfl (by go_simp) (by go_simp)) (v := .int .i64 0) (i := 4) rfl (by go_simp) (by go_simp))
    refine (l_eqJob _ _ kp2 mv2 _ _ cs2 0 0 _ OH.out OW.out).mono ?_; rintro e w2 ⟨rfl, hb⟩
    clear xW cW0 fW0 cW1 fW1 cW2 fW2 cW3 fW3 cW4 fW4
    replace BP := Lib.hid (BP.out.below hb)
    replace BW := Lib.hid (BW.out.below hb)
    replace BG := Lib.hid (BG.out.below hb)
    replace BH := Lib.hid (BH.out.below hb)
    replace OW := Lib.hid (Own.below OW.out hb)
    replace OM := Lib.hid (Own.below OM.out hb)
    replace OH := Lib.hid (Own.below OH.out hb)
    replace HA := Lib.hid (HA.out.below hb)
    replace HT := Lib.hid (HT.out.trans (hb.mono HT.out.size))
    have zwP := hb.size; (try simp only [World.size_alloc] at zwP); clear hb; obtain ⟨wP, rfl⟩ : ∃ x, x = w2 := ⟨_, rfl⟩
    have cG0 := (BG.out.cells 0 _ rfl).1; have fG0 := (BG.out.cells 0 _ rfl).2
    have cG1 := (BG.out.cells 1 _ rfl).1; have fG1 := (BG.out.cells 1 _ rfl).2
    have cG2 := (BG.out.cells 2 _ rfl).1; have fG2 := (BG.out.cells 2 _ rfl).2
    have cG3 := (BG.out.cells 3 _ rfl).1; have fG3 := (BG.out.cells 3 _ rfl).2
    have cG4 := (BG.out.cells 4 _ rfl).1; have fG4 := (BG.out.cells 4 _ rfl).2
    have xG := BG.out.lt
    go_wp2_with fail
    refine (l_heldJob _ kp2 mv2 _ cs2.length 0 0 1 (by omega) _ OM.out).mono ?_; rintro e w2 ⟨rfl, hb⟩
    clear xG cG0 fG0 cG1 fG1 cG2 fG2 cG3 fG3 cG4 fG4
    replace BP := Lib.hid (BP.out.below hb)
    replace BW := Lib.hid (BW.out.below hb)
    replace BG := Lib.hid (BG.out.below hb)
    replace BH := Lib.hid (BH.out.below hb)
    replace OW := Lib.hid (Own.below OW.out hb)
    replace OM := Lib.hid (Own.below OM.out hb)
    replace OH := Lib.hid (Own.below OH.out hb)
    replace HA := Lib.hid (HA.out.below hb)
    replace HT := Lib.hid (HT.out.trans (hb.mono HT.out.size))
    have zwQ := hb.size; (try simp only [World.size_alloc] at zwQ); clear hb; obtain ⟨wQ, rfl⟩ : ∃ x, x = w2 := ⟨_, rfl⟩
    go_wp2_with fail
    go_ret
    exact ⟨rfl, HT.out⟩
  · (have hall := all_nil w; go_enter Try.func8, Try.ntmps8)
    go_wp2_with (go_at_call 15; refine (l_szPlan kp mv c cs _ (by omega) _ (HA.out.below (by exact bel))).mono ?_; rintro e w2 ⟨rfl, hb⟩; rw [szRes_neg (by omega)])
    go_ret
    exact ⟨rfl, by exact bel⟩

namespace fnExactJobNew
set_option maxRecDepth 100000 in
theorem contract (H : Type) (enc : TypeId × Value → H) (W : World) (base : Nat) (args : Array Value) (ds gs : List (DataW H)) (before : List MemPlace)
    (hval : ∀ (j : Nat) t v, Try.f8.params[j]? = some t → args[j]? = some v → Value.okWide Try.prog W .any base t v)
    (hW : DataW.Whole enc Try.prog Try.f8.params.toList Rows.fnExactJobNewSpec.vars false W args.toList ds gs before) :
    Calls Try.prog 8 args W fun e W' => ∃ v, e = .returned v ∧ Rows.fnExactJobNewSpec.post enc Try.prog Try.f8 false true false false W args v W' := by
  have hW' := hW
  obtain ⟨p, q, hA0, hV, rfl, hfz, hnd⟩ := hW
  have hA : DataW.TrodAll enc Try.prog W 0 (fun _ => true) true Try.f8.params.toList args.toList ds p := hA0
  rw [Try.params8] at hA hval
  obtain ⟨v0, vs0, d0, ds0, p0, q0, hargs, rfl, rfl, h0, r0⟩ := trodAll_cons hA
  obtain ⟨rfl, rfl, rfl⟩ := trodAll_nil r0
  obtain rfl : args = #[v0] := by cases args; simp_all
  obtain ⟨rfl, rfl⟩ := trodVars_none hV
  obtain ⟨kp, mv, c, cs, rfl, hcs, wkp, wmv⟩ := plan_open (hval 0 24 v0 rfl rfl) h0
  clear hA0
  refine (w_FnExactJobNew kp mv c cs W hcs).mono fun e W' ⟨he, hg⟩ => ?_
  subst he
  exact ⟨_, rfl, law_post (tb := 4) laidOut (by kernel_rfl) rfl rfl Try.underlying4 hW' rfl rfl rfl hg⟩
set_option maxRecDepth 100000 in
theorem lifted (os : Os) (started : os.Started) (H : Type) (enc : TypeId × Value → H) :
    ReturnsInHanded {} Try.checked os 8 .any (Rows.fnExactJobNewSpec.pre6 enc Try.prog Try.f8 Rows.fnExactJobNewRow.domain false) (Rows.fnExactJobNewSpec.post enc Try.prog Try.f8 false true false false) := by
  refine returnsInHanded_of_change (C := Try.checked) own started (by kernel_rfl) Try.func8
    (ChangeSpec.witness6 (enc := enc) (C := Try.checked) false ⟨#[], #[.agg #[.int .i64 0, .int .i64 0, .slice none 0 0]], []⟩ 8 (by kernel_rfl) (by kernel_rfl) (by kernel_rfl) (by kernel_rfl)) ?_
  intro W base args ds gs before hval hW _ _
  exact contract H enc W base args ds gs before hval hW
/-- The statement. -/
theorem proved : Rows.FnExactJobNewSaid :=
  OpenClaim.holds_of_wide 8 Try.f8 rfl rfl rfl rfl rfl rfl rfl ⟨rfl, rfl, rfl, rfl, rfl⟩ rfl rfl rfl rfl rfl (by kernel_rfl) Try.func8 (by kernel_rfl)
    (of_decide_eq_true (by kernel_rfl)) (by unfold Func.isWrapper; first | (rw [if_pos (by decide +kernel)]; kernel_rfl) | (rw [if_neg (by decide +kernel)]; exact ⟨rfl, rfl⟩))
    (fun os started H enc _ => lifted os started H enc)
end fnExactJobNew

end Go.Proofs.Yteebofhflbjimaa
