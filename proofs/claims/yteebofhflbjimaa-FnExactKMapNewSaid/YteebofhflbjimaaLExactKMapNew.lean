/- 'laws.FnExactKMapNew' returns true, whatever the arguments: no condition. -/
import Derived.Test.YteebofhflbjimaaKMapNew
import Derived.Test.YteebofhflbjimaaKMapNewS
import Derived.Test.YteebofhflbjimaaKMark
import Derived.Test.YteebofhflbjimaaOpenK
set_option linter.unusedVariables false
set_option linter.unusedSimpArgs false
namespace Go.Proofs.Yteebofhflbjimaa
open Go.ChangeShapes Go.WideShapes Go.ChangeAt Go.RowKit
theorem cntK_le {K : Ker} (h : szK K ≤ 1048576) : cntK K ≤ 2097152 := by
  unfold szK szM szF at h
  unfold cntK cntM cntF
  omega
theorem cnt_mapNew {K : Ker} (h : szK K ≤ 1048576) (p : Int) : cntK (kMapNewK K p) ≤ 4194304 := by
  have h0 := cntK_le h
  have e0 : cntK (countedK K) = cntK K := rfl
  unfold kMapNewK mapNewS
  split
  · split
    · rw [cnt_setEnt]
      have h1 : cntK (withF (countedK K) ⟨K.m.f.cells, K.m.f.used.set (freeIx K.m.f.used).toNat true⟩) = cntK K := by simp [withF, cntK, cntM, cntF]
      omega
    · omega
  · omega
set_option maxRecDepth 100000 in
set_option maxHeartbeats 6400000 in
theorem w_FnExactKMapNew (x : KV) (K : Ker) (p : Int) (w : World) (ha : KAt w x K) : Calls Try.prog 14 #[x.val K.calls, .int .i64 p] w fun e w' => e = .returned (.bool true) ∧ Below w.heap.size w w' := by
  simp only [KV.val]
  have HAw := Lib.hid ha
  have HA := Lib.hid ha
  have HT := Lib.hid (Below.refl w.heap.size w)
  clear ha
  by_cases hs : szK K ≤ 1048576
  · have hcn : cntK (kMapNewK K p) ≤ 4194304 := cnt_mapNew hs p
    have HI := Lib.hid (fun y w (h : KAt w y K) => i_KMapNew y K p hs w h)
    have HS := Lib.hid (fun y w (h : KAt w y K) => s_KMapNew y K p hs w h)
    generalize (kMapNewK K p) = K2 at *
    generalize (canCall K && newB K p) = b2 at *
    have hcK : cntK K ≤ 4194304 := by have := cntK_le hs; omega
    (have hall := all_nil w; go_enter Try.func14, Try.ntmps14)
    go_wp2_with fail
    replace HA := Lib.hid (HA.out.below ((Below.refl _ w).alloc (Nat.le_refl _) (.cells #[x.m.f.c, x.m.f.u, x.m.e, .int .i64 K.calls, x.r] 60)))
    replace HT := Lib.hid (HT.out.trans (((Below.refl _ w).alloc (Nat.le_refl _) (.cells #[x.m.f.c, x.m.f.u, x.m.e, .int .i64 K.calls, x.r] 60)).mono HT.out.size))
    have BP : Hid (KBox (w.alloc (.cells #[x.m.f.c, x.m.f.u, x.m.e, .int .i64 K.calls, x.r] 60)) w.heap.size x (K.calls)) := ⟨by go_simp, by go_simp, by go_simp, by go_simp, by go_simp, by go_simp, by go_simp, by go_simp, by go_simp, by go_simp, by go_simp⟩
    refine (l_szKernel x K _ (by omega) _ HA.out).mono ?_; rintro e w2 ⟨rfl, hb⟩
    rw [szRes_pos (by omega)]
    replace BP := Lib.hid (BP.out.below hb)
    replace HA := Lib.hid (HA.out.below hb)
    replace HT := Lib.hid (HT.out.trans (hb.mono HT.out.size))
    have zwA := hb.size; (try simp only [World.size_alloc] at zwA)
    clear hb
    obtain ⟨wA, rfl⟩ : ∃ x, x = w2 := ⟨_, rfl⟩
    obtain ⟨xP, cP0, cP1, cP2, cP3, cP4, fP0, fP1, fP2, fP3, fP4⟩ := BP.out
    (try dsimp only at cP0 cP1 cP2 cP3 cP4)
    go_wp2_with fail
    refine (l_toKernel x K hs _ HA.out).mono ?_; rintro e w2 ⟨y1, rfl, O1, hb⟩
    clear xP cP0 cP1 cP2 cP3 cP4 fP0 fP1 fP2 fP3 fP4
    obtain ⟨y1co, y1cc, y1uo, y1uc, y1vs, y1eo, y1ec, y1ro, y1rc, rfl⟩ := KOwn.shapes O1
    replace BP := Lib.hid (BP.out.below hb)
    replace HA := Lib.hid (HA.out.below hb)
    replace HT := Lib.hid (HT.out.trans (hb.mono HT.out.size))
    have zwB := hb.size; (try simp only [World.size_alloc] at zwB)
    clear hb
    obtain ⟨wB, rfl⟩ : ∃ x, x = w2 := ⟨_, rfl⟩
    simp only [KV.val]
    go_wp2_with fail
    refine (HS.out _ _ O1.at).mono ?_; rintro e w2 ⟨yW, rfl, OW, hb⟩
    clear O1
    obtain ⟨yWco, yWcc, yWuo, yWuc, yWvs, yWeo, yWec, yWro, yWrc, rfl⟩ := KOwn.shapes OW
    have LW := Lib.hid OW.lts; replace OW := Lib.hid OW
    replace BP := Lib.hid (BP.out.below hb)
    replace HA := Lib.hid (HA.out.below hb)
    replace HT := Lib.hid (HT.out.trans (hb.mono HT.out.size))
    have zwC := hb.size; (try simp only [World.size_alloc] at zwC)
    clear hb
    obtain ⟨wC, rfl⟩ : ∃ x, x = w2 := ⟨_, rfl⟩
    simp only [KV.val]
    obtain ⟨xP, cP0, cP1, cP2, cP3, cP4, fP0, fP1, fP2, fP3, fP4⟩ := BP.out
    (try dsimp only at cP0 cP1 cP2 cP3 cP4)
    go_wp2_with fail
    replace BP := Lib.hid (BP.out.below ((Below.refl _ wC).alloc (Nat.le_refl _) (.cells #[.slice yWco yWvs.length yWcc, .slice yWuo K2.m.f.used.length yWuc, .slice yWeo K2.m.ents.length yWec, .int .i64 (K2.calls), .slice yWro K2.refuse.length yWrc] 72)))
    replace OW := Lib.hid (OW.out.below ((Below.refl _ wC).alloc (Nat.le_refl _) (.cells #[.slice yWco yWvs.length yWcc, .slice yWuo K2.m.f.used.length yWuc, .slice yWeo K2.m.ents.length yWec, .int .i64 (K2.calls), .slice yWro K2.refuse.length yWrc] 72)))
    replace HA := Lib.hid (HA.out.below ((Below.refl _ wC).alloc (Nat.le_refl _) (.cells #[.slice yWco yWvs.length yWcc, .slice yWuo K2.m.f.used.length yWuc, .slice yWeo K2.m.ents.length yWec, .int .i64 (K2.calls), .slice yWro K2.refuse.length yWrc] 72)))
    replace HT := Lib.hid (HT.out.trans (((Below.refl _ wC).alloc (Nat.le_refl _) (.cells #[.slice yWco yWvs.length yWcc, .slice yWuo K2.m.f.used.length yWuc, .slice yWeo K2.m.ents.length yWec, .int .i64 (K2.calls), .slice yWro K2.refuse.length yWrc] 72)).mono HT.out.size))
    have BW : Hid (KBox (wC.alloc (.cells #[.slice yWco yWvs.length yWcc, .slice yWuo K2.m.f.used.length yWuc, .slice yWeo K2.m.ents.length yWec, .int .i64 (K2.calls), .slice yWro K2.refuse.length yWrc] 72)) wC.heap.size (⟨⟨⟨.slice yWco yWvs.length yWcc, .slice yWuo K2.m.f.used.length yWuc, yWvs⟩, .slice yWeo K2.m.ents.length yWec⟩, .slice yWro K2.refuse.length yWrc⟩ : KV) (K2.calls)) := ⟨by go_simp, by go_simp, by go_simp, by go_simp, by go_simp, by go_simp, by go_simp, by go_simp, by go_simp, by go_simp, by go_simp⟩
    refine (l_toKernel x K hs _ HA.out).mono ?_; rintro e w2 ⟨yX, rfl, OX, hb⟩
    clear xP cP0 cP1 cP2 cP3 cP4 fP0 fP1 fP2 fP3 fP4
    obtain ⟨yXco, yXcc, yXuo, yXuc, yXvs, yXeo, yXec, yXro, yXrc, rfl⟩ := KOwn.shapes OX
    have LX := Lib.hid OX.lts; replace OX := Lib.hid OX
    replace BP := Lib.hid (BP.out.below hb)
    replace BW := Lib.hid (BW.out.below hb)
    replace OW := Lib.hid (OW.out.below hb)
    replace HA := Lib.hid (HA.out.below hb)
    replace HT := Lib.hid (HT.out.trans (hb.mono HT.out.size))
    have zwD := hb.size; (try simp only [World.size_alloc] at zwD)
    clear hb
    obtain ⟨wD, rfl⟩ : ∃ x, x = w2 := ⟨_, rfl⟩
    simp only [KV.val]
    go_wp2_with fail
    replace BP := Lib.hid (BP.out.below ((Below.refl _ wD).alloc (Nat.le_refl _) (.cells #[.slice yXco yXvs.length yXcc, .slice yXuo K.m.f.used.length yXuc, .slice yXeo K.m.ents.length yXec, .int .i64 (K.calls), .slice yXro K.refuse.length yXrc] 72)))
    replace BW := Lib.hid (BW.out.below ((Below.refl _ wD).alloc (Nat.le_refl _) (.cells #[.slice yXco yXvs.length yXcc, .slice yXuo K.m.f.used.length yXuc, .slice yXeo K.m.ents.length yXec, .int .i64 (K.calls), .slice yXro K.refuse.length yXrc] 72)))
    replace OW := Lib.hid (OW.out.below ((Below.refl _ wD).alloc (Nat.le_refl _) (.cells #[.slice yXco yXvs.length yXcc, .slice yXuo K.m.f.used.length yXuc, .slice yXeo K.m.ents.length yXec, .int .i64 (K.calls), .slice yXro K.refuse.length yXrc] 72)))
    replace OX := Lib.hid (OX.out.below ((Below.refl _ wD).alloc (Nat.le_refl _) (.cells #[.slice yXco yXvs.length yXcc, .slice yXuo K.m.f.used.length yXuc, .slice yXeo K.m.ents.length yXec, .int .i64 (K.calls), .slice yXro K.refuse.length yXrc] 72)))
    replace HA := Lib.hid (HA.out.below ((Below.refl _ wD).alloc (Nat.le_refl _) (.cells #[.slice yXco yXvs.length yXcc, .slice yXuo K.m.f.used.length yXuc, .slice yXeo K.m.ents.length yXec, .int .i64 (K.calls), .slice yXro K.refuse.length yXrc] 72)))
    replace HT := Lib.hid (HT.out.trans (((Below.refl _ wD).alloc (Nat.le_refl _) (.cells #[.slice yXco yXvs.length yXcc, .slice yXuo K.m.f.used.length yXuc, .slice yXeo K.m.ents.length yXec, .int .i64 (K.calls), .slice yXro K.refuse.length yXrc] 72)).mono HT.out.size))
    have BX : Hid (KBox (wD.alloc (.cells #[.slice yXco yXvs.length yXcc, .slice yXuo K.m.f.used.length yXuc, .slice yXeo K.m.ents.length yXec, .int .i64 (K.calls), .slice yXro K.refuse.length yXrc] 72)) wD.heap.size (⟨⟨⟨.slice yXco yXvs.length yXcc, .slice yXuo K.m.f.used.length yXuc, yXvs⟩, .slice yXeo K.m.ents.length yXec⟩, .slice yXro K.refuse.length yXrc⟩ : KV) (K.calls)) := ⟨by go_simp, by go_simp, by go_simp, by go_simp, by go_simp, by go_simp, by go_simp, by go_simp, by go_simp, by go_simp, by go_simp⟩
    refine (HI.out _ _ OX.out.at).mono ?_; rintro e w2 ⟨yG, rfl, OG, hb⟩
    obtain ⟨yGco, yGcc, yGuo, yGuc, yGvs, yGeo, yGec, yGro, yGrc, rfl⟩ := KOwn.shapes OG
    have LG := Lib.hid OG.lts; replace OG := Lib.hid OG
    replace BP := Lib.hid (BP.out.below hb)
    replace BW := Lib.hid (BW.out.below hb)
    replace BX := Lib.hid (BX.out.below hb)
    replace OW := Lib.hid (OW.out.below hb)
    replace OX := Lib.hid (OX.out.below hb)
    replace HA := Lib.hid (HA.out.below hb)
    replace HT := Lib.hid (HT.out.trans (hb.mono HT.out.size))
    have zwE := hb.size; (try simp only [World.size_alloc] at zwE)
    clear hb
    obtain ⟨wE, rfl⟩ : ∃ x, x = w2 := ⟨_, rfl⟩
    simp only [KV.val]
    obtain ⟨xW, cW0, cW1, cW2, cW3, cW4, fW0, fW1, fW2, fW3, fW4⟩ := BW.out
    (try dsimp only at cW0 cW1 cW2 cW3 cW4)
    go_wp2_with fail
    replace BP := Lib.hid (BP.out.below ((Below.refl _ wE).alloc (Nat.le_refl _) (.cells #[.slice yGco yGvs.length yGcc, .slice yGuo K2.m.f.used.length yGuc, .slice yGeo K2.m.ents.length yGec, .int .i64 (K2.calls), .slice yGro K2.refuse.length yGrc] 72)))
    replace BW := Lib.hid (BW.out.below ((Below.refl _ wE).alloc (Nat.le_refl _) (.cells #[.slice yGco yGvs.length yGcc, .slice yGuo K2.m.f.used.length yGuc, .slice yGeo K2.m.ents.length yGec, .int .i64 (K2.calls), .slice yGro K2.refuse.length yGrc] 72)))
    replace BX := Lib.hid (BX.out.below ((Below.refl _ wE).alloc (Nat.le_refl _) (.cells #[.slice yGco yGvs.length yGcc, .slice yGuo K2.m.f.used.length yGuc, .slice yGeo K2.m.ents.length yGec, .int .i64 (K2.calls), .slice yGro K2.refuse.length yGrc] 72)))
    replace OW := Lib.hid (OW.out.below ((Below.refl _ wE).alloc (Nat.le_refl _) (.cells #[.slice yGco yGvs.length yGcc, .slice yGuo K2.m.f.used.length yGuc, .slice yGeo K2.m.ents.length yGec, .int .i64 (K2.calls), .slice yGro K2.refuse.length yGrc] 72)))
    replace OX := Lib.hid (OX.out.below ((Below.refl _ wE).alloc (Nat.le_refl _) (.cells #[.slice yGco yGvs.length yGcc, .slice yGuo K2.m.f.used.length yGuc, .slice yGeo K2.m.ents.length yGec, .int .i64 (K2.calls), .slice yGro K2.refuse.length yGrc] 72)))
    replace OG := Lib.hid (OG.out.below ((Below.refl _ wE).alloc (Nat.le_refl _) (.cells #[.slice yGco yGvs.length yGcc, .slice yGuo K2.m.f.used.length yGuc, .slice yGeo K2.m.ents.length yGec, .int .i64 (K2.calls), .slice yGro K2.refuse.length yGrc] 72)))
    replace HA := Lib.hid (HA.out.below ((Below.refl _ wE).alloc (Nat.le_refl _) (.cells #[.slice yGco yGvs.length yGcc, .slice yGuo K2.m.f.used.length yGuc, .slice yGeo K2.m.ents.length yGec, .int .i64 (K2.calls), .slice yGro K2.refuse.length yGrc] 72)))
    replace HT := Lib.hid (HT.out.trans (((Below.refl _ wE).alloc (Nat.le_refl _) (.cells #[.slice yGco yGvs.length yGcc, .slice yGuo K2.m.f.used.length yGuc, .slice yGeo K2.m.ents.length yGec, .int .i64 (K2.calls), .slice yGro K2.refuse.length yGrc] 72)).mono HT.out.size))
    have BG : Hid (KBox (wE.alloc (.cells #[.slice yGco yGvs.length yGcc, .slice yGuo K2.m.f.used.length yGuc, .slice yGeo K2.m.ents.length yGec, .int .i64 (K2.calls), .slice yGro K2.refuse.length yGrc] 72)) wE.heap.size (⟨⟨⟨.slice yGco yGvs.length yGcc, .slice yGuo K2.m.f.used.length yGuc, yGvs⟩, .slice yGeo K2.m.ents.length yGec⟩, .slice yGro K2.refuse.length yGrc⟩ : KV) (K2.calls)) := ⟨by go_simp, by go_simp, by go_simp, by go_simp, by go_simp, by go_simp, by go_simp, by go_simp, by go_simp, by go_simp, by go_simp⟩
    refine (l_eqKernel _ _ (⟨⟨⟨.slice yGco yGvs.length yGcc, .slice yGuo K2.m.f.used.length yGuc, yGvs⟩, .slice yGeo K2.m.ents.length yGec⟩, .slice yGro K2.refuse.length yGrc⟩ : KV) (⟨⟨⟨.slice yWco yWvs.length yWcc, .slice yWuo K2.m.f.used.length yWuc, yWvs⟩, .slice yWeo K2.m.ents.length yWec⟩, .slice yWro K2.refuse.length yWrc⟩ : KV) _ _ OG.out OW.out).mono ?_; rintro e w2 ⟨rfl, hb⟩
    clear xW cW0 cW1 cW2 cW3 cW4 fW0 fW1 fW2 fW3 fW4
    replace BP := Lib.hid (BP.out.below hb)
    replace BW := Lib.hid (BW.out.below hb)
    replace BX := Lib.hid (BX.out.below hb)
    replace BG := Lib.hid (BG.out.below hb)
    replace OW := Lib.hid (OW.out.below hb)
    replace OX := Lib.hid (OX.out.below hb)
    replace OG := Lib.hid (OG.out.below hb)
    replace HA := Lib.hid (HA.out.below hb)
    replace HT := Lib.hid (HT.out.trans (hb.mono HT.out.size))
    have zwF := hb.size; (try simp only [World.size_alloc] at zwF)
    clear hb
    obtain ⟨wF, rfl⟩ : ∃ x, x = w2 := ⟨_, rfl⟩
    obtain ⟨xX, cX0, cX1, cX2, cX3, cX4, fX0, fX1, fX2, fX3, fX4⟩ := BX.out
    (try dsimp only at cX0 cX1 cX2 cX3 cX4)
    obtain ⟨xP, cP0, cP1, cP2, cP3, cP4, fP0, fP1, fP2, fP3, fP4⟩ := BP.out
    (try dsimp only at cP0 cP1 cP2 cP3 cP4)
    go_wp2_with fail
    go_region_held3 (fun w' => w'.cell? ⟨wD.heap.size, 0, none⟩ = some (.slice yXco yXvs.length yXcc) ∧ w'.cell? ⟨wD.heap.size, 1, none⟩ = some (.slice yXuo K.m.f.used.length yXuc) ∧ w'.cell? ⟨wD.heap.size, 2, none⟩ = some (.slice yXeo K.m.ents.length yXec) ∧ w'.cell? ⟨wD.heap.size, 3, none⟩ = some (.int .i64 (K.calls)) ∧ w'.cell? ⟨wD.heap.size, 4, none⟩ = some (.slice yXro K.refuse.length yXrc) ∧ w'.cell? ⟨w.heap.size, 0, none⟩ = some (x.m.f.c) ∧ w'.cell? ⟨w.heap.size, 1, none⟩ = some (x.m.f.u) ∧ w'.cell? ⟨w.heap.size, 2, none⟩ = some (x.m.e) ∧ w'.cell? ⟨w.heap.size, 3, none⟩ = some (.int .i64 K.calls) ∧ w'.cell? ⟨w.heap.size, 4, none⟩ = some (x.r)) (first | (refine ⟨?_, ?_, ?_, ?_, ?_, ?_, ?_, ?_, ?_, ?_⟩ <;> (go_simp; done)) | go_keep) (first | (go_at_call 42; refine (l_toKernel x K hs _ (HA.out.below (by exact bel))).mono ?_; rintro e w2 ⟨y2, rfl, O2, hb⟩; (obtain ⟨y2co, y2cc, y2uo, y2uc, y2vs, y2eo, y2ec, y2ro, y2rc, rfl⟩ := KOwn.shapes O2); have kwG_D_0 : w2.cell? ⟨wD.heap.size, 0, none⟩ = some (.slice yXco yXvs.length yXcc) := kc hb; have kwG_D_1 : w2.cell? ⟨wD.heap.size, 1, none⟩ = some (.slice yXuo K.m.f.used.length yXuc) := kc hb; have kwG_D_2 : w2.cell? ⟨wD.heap.size, 2, none⟩ = some (.slice yXeo K.m.ents.length yXec) := kc hb; have kwG_D_3 : w2.cell? ⟨wD.heap.size, 3, none⟩ = some (.int .i64 (K.calls)) := kc hb; have kwG_D_4 : w2.cell? ⟨wD.heap.size, 4, none⟩ = some (.slice yXro K.refuse.length yXrc) := kc hb; have kwG_P_0 : w2.cell? ⟨w.heap.size, 0, none⟩ = some (x.m.f.c) := kc hb; have kwG_P_1 : w2.cell? ⟨w.heap.size, 1, none⟩ = some (x.m.f.u) := kc hb; have kwG_P_2 : w2.cell? ⟨w.heap.size, 2, none⟩ = some (x.m.e) := kc hb; have kwG_P_3 : w2.cell? ⟨w.heap.size, 3, none⟩ = some (.int .i64 K.calls) := kc hb; have kwG_P_4 : w2.cell? ⟨w.heap.size, 4, none⟩ = some (x.r) := kc hb; have xwG_D : wD.heap.size < w2.heap.size := xc hb; have xwG_P : w.heap.size < w2.heap.size := xc hb; have hzwG := hb.size; (try simp only [World.size_alloc, World.size_setCell, World.size_drew] at hzwG); have HB1 := Lib.hid hb; obtain ⟨wG, rfl⟩ : ∃ x, x = w2 := ⟨_, rfl⟩; simp only [KV.val]) | (go_at_call 45; refine (l_eqKernel _ _ (⟨⟨⟨.slice yXco yXvs.length yXcc, .slice yXuo K.m.f.used.length yXuc, yXvs⟩, .slice yXeo K.m.ents.length yXec⟩, .slice yXro K.refuse.length yXrc⟩ : KV) (⟨⟨⟨.slice y2co y2vs.length y2cc, .slice y2uo K.m.f.used.length y2uc, y2vs⟩, .slice y2eo K.m.ents.length y2ec⟩, .slice y2ro K.refuse.length y2rc⟩ : KV) _ _ (OX.out.below (by exact bel)) (O2.below (by exact bel))).mono ?_; rintro e w2 ⟨rfl, hb⟩; have kwH_D_0 : w2.cell? ⟨wD.heap.size, 0, none⟩ = some (.slice yXco yXvs.length yXcc) := kc hb; have kwH_D_1 : w2.cell? ⟨wD.heap.size, 1, none⟩ = some (.slice yXuo K.m.f.used.length yXuc) := kc hb; have kwH_D_2 : w2.cell? ⟨wD.heap.size, 2, none⟩ = some (.slice yXeo K.m.ents.length yXec) := kc hb; have kwH_D_3 : w2.cell? ⟨wD.heap.size, 3, none⟩ = some (.int .i64 (K.calls)) := kc hb; have kwH_D_4 : w2.cell? ⟨wD.heap.size, 4, none⟩ = some (.slice yXro K.refuse.length yXrc) := kc hb; have kwH_P_0 : w2.cell? ⟨w.heap.size, 0, none⟩ = some (x.m.f.c) := kc hb; have kwH_P_1 : w2.cell? ⟨w.heap.size, 1, none⟩ = some (x.m.f.u) := kc hb; have kwH_P_2 : w2.cell? ⟨w.heap.size, 2, none⟩ = some (x.m.e) := kc hb; have kwH_P_3 : w2.cell? ⟨w.heap.size, 3, none⟩ = some (.int .i64 K.calls) := kc hb; have kwH_P_4 : w2.cell? ⟨w.heap.size, 4, none⟩ = some (x.r) := kc hb; have xwH_D : wD.heap.size < w2.heap.size := xc hb; have xwH_P : w.heap.size < w2.heap.size := xc hb; have hzwH := hb.size; (try simp only [World.size_alloc, World.size_setCell, World.size_drew] at hzwH); have HB2 := Lib.hid hb; obtain ⟨wH, rfl⟩ : ∃ x, x = w2 := ⟨_, rfl⟩))
    have hb : Below wF.heap.size wF wH := by (have hB1 := HB1.out; have hB2 := HB2.out; exact bel)
    clear xX cX0 cX1 cX2 cX3 cX4 fX0 fX1 fX2 fX3 fX4
    clear xP cP0 cP1 cP2 cP3 cP4 fP0 fP1 fP2 fP3 fP4
    clear kwG_D_0 kwG_D_1 kwG_D_2 kwG_D_3 kwG_D_4 kwG_P_0 kwG_P_1 kwG_P_2 kwG_P_3 kwG_P_4
    clear kwH_D_0 kwH_D_1 kwH_D_2 kwH_D_3 kwH_D_4 kwH_P_0 kwH_P_1 kwH_P_2 kwH_P_3 kwH_P_4
    obtain ⟨w2, rfl⟩ : ∃ x, x = wH := ⟨_, rfl⟩
    clear HB1 HB2 O2
    replace BP := Lib.hid (BP.out.below hb)
    replace BW := Lib.hid (BW.out.below hb)
    replace BX := Lib.hid (BX.out.below hb)
    replace BG := Lib.hid (BG.out.below hb)
    replace OW := Lib.hid (OW.out.below hb)
    replace OX := Lib.hid (OX.out.below hb)
    replace OG := Lib.hid (OG.out.below hb)
    replace HA := Lib.hid (HA.out.below hb)
    replace HT := Lib.hid (HT.out.trans (hb.mono HT.out.size))
    have zwI := hb.size; (try simp only [World.size_alloc] at zwI)
    clear hb
    obtain ⟨wI, rfl⟩ : ∃ x, x = w2 := ⟨_, rfl⟩
    obtain ⟨xX, cX0, cX1, cX2, cX3, cX4, fX0, fX1, fX2, fX3, fX4⟩ := BX.out
    (try dsimp only at cX0 cX1 cX2 cX3 cX4)
    go_wp2_with fail
    refine (l_markKernel _ (⟨⟨⟨.slice yXco yXvs.length yXcc, .slice yXuo K.m.f.used.length yXuc, yXvs⟩, .slice yXeo K.m.ents.length yXec⟩, .slice yXro K.refuse.length yXrc⟩ : KV) K 1 (by omega) _ OX.out).mono ?_; rintro e w2 ⟨rfl, _, ht⟩
    clear xX cX0 cX1 cX2 cX3 cX4 fX0 fX1 fX2 fX3 fX4
    replace BP := Lib.hid (BP.out.touch ht (fun hm => by have := LX.out _ hm; (try simp only [World.size_alloc] at this); omega))
    replace BW := Lib.hid (BW.out.touch ht (fun hm => by have := LX.out _ hm; (try simp only [World.size_alloc] at this); omega))
    replace BG := Lib.hid (BG.out.touch ht (fun hm => by have := LX.out _ hm; (try simp only [World.size_alloc] at this); omega))
    replace OW := Lib.hid (OW.out.touch ht (fun g hg hm => by have h1 := LW.out g hg; have h2 := LX.out _ hm; (try simp only [World.size_alloc] at h1 h2); omega))
    replace OG := Lib.hid (OG.out.touch ht (fun g hg hm => by have h1 := LG.out g hg; have h2 := LX.out _ hm; (try simp only [World.size_alloc] at h1 h2); omega))
    have hb := ht.toBelow (B := w.heap.size) (fun g hg => by have h2 := LX.out _ hg; (try simp only [World.size_alloc] at h2); omega) (by omega)
    replace HA := Lib.hid (KAt.below HAw.out (HT.out.trans hb))
    replace HT := Lib.hid (HT.out.trans hb)
    have zwJ := ht.size; clear ht hb
    obtain ⟨wJ, rfl⟩ : ∃ x, x = w2 := ⟨_, rfl⟩
    clear BX OX
    obtain ⟨xG, cG0, cG1, cG2, cG3, cG4, fG0, fG1, fG2, fG3, fG4⟩ := BG.out
    (try dsimp only at cG0 cG1 cG2 cG3 cG4)
    obtain ⟨xW, cW0, cW1, cW2, cW3, cW4, fW0, fW1, fW2, fW3, fW4⟩ := BW.out
    (try dsimp only at cW0 cW1 cW2 cW3 cW4)
    go_wp2_with fail
    refine (l_eqKernel _ _ (⟨⟨⟨.slice yGco yGvs.length yGcc, .slice yGuo K2.m.f.used.length yGuc, yGvs⟩, .slice yGeo K2.m.ents.length yGec⟩, .slice yGro K2.refuse.length yGrc⟩ : KV) (⟨⟨⟨.slice yWco yWvs.length yWcc, .slice yWuo K2.m.f.used.length yWuc, yWvs⟩, .slice yWeo K2.m.ents.length yWec⟩, .slice yWro K2.refuse.length yWrc⟩ : KV) _ _ OG.out OW.out).mono ?_; rintro e w2 ⟨rfl, hb⟩
    clear xG cG0 cG1 cG2 cG3 cG4 fG0 fG1 fG2 fG3 fG4
    clear xW cW0 cW1 cW2 cW3 cW4 fW0 fW1 fW2 fW3 fW4
    replace BP := Lib.hid (BP.out.below hb)
    replace BW := Lib.hid (BW.out.below hb)
    replace BG := Lib.hid (BG.out.below hb)
    replace OW := Lib.hid (OW.out.below hb)
    replace OG := Lib.hid (OG.out.below hb)
    replace HA := Lib.hid (HA.out.below hb)
    replace HT := Lib.hid (HT.out.trans (hb.mono HT.out.size))
    have zwK := hb.size; (try simp only [World.size_alloc] at zwK)
    clear hb
    obtain ⟨wK, rfl⟩ : ∃ x, x = w2 := ⟨_, rfl⟩
    obtain ⟨xG, cG0, cG1, cG2, cG3, cG4, fG0, fG1, fG2, fG3, fG4⟩ := BG.out
    (try dsimp only at cG0 cG1 cG2 cG3 cG4)
    go_wp2_with fail
    refine (l_markKernel _ (⟨⟨⟨.slice yGco yGvs.length yGcc, .slice yGuo K2.m.f.used.length yGuc, yGvs⟩, .slice yGeo K2.m.ents.length yGec⟩, .slice yGro K2.refuse.length yGrc⟩ : KV) K2 1 (by omega) _ OG.out).mono ?_; rintro e w2 ⟨rfl, OM, ht⟩
    clear xG cG0 cG1 cG2 cG3 cG4 fG0 fG1 fG2 fG3 fG4
    replace BP := Lib.hid (BP.out.touch ht (fun hm => by have := LG.out _ hm; (try simp only [World.size_alloc] at this); omega))
    replace BW := Lib.hid (BW.out.touch ht (fun hm => by have := LG.out _ hm; (try simp only [World.size_alloc] at this); omega))
    replace BG := Lib.hid (BG.out.touch ht (fun hm => by have := LG.out _ hm; (try simp only [World.size_alloc] at this); omega))
    replace OW := Lib.hid (OW.out.touch ht (fun g hg hm => by have h1 := LW.out g hg; have h2 := LG.out _ hm; (try simp only [World.size_alloc] at h1 h2); omega))
    have hb := ht.toBelow (B := w.heap.size) (fun g hg => by have h2 := LG.out _ hg; (try simp only [World.size_alloc] at h2); omega) (by omega)
    replace HA := Lib.hid (KAt.below HAw.out (HT.out.trans hb))
    replace HT := Lib.hid (HT.out.trans hb)
    have zwL := ht.size; clear ht hb
    obtain ⟨wL, rfl⟩ : ∃ x, x = w2 := ⟨_, rfl⟩
    clear OG; replace OM := Lib.hid OM
    obtain ⟨xG, cG0, cG1, cG2, cG3, cG4, fG0, fG1, fG2, fG3, fG4⟩ := BG.out
    (try dsimp only at cG0 cG1 cG2 cG3 cG4)
    go_wp2_with fail
    refine (l_heldKernel _ (⟨⟨⟨.slice yGco yGvs.length yGcc, .slice yGuo K2.m.f.used.length yGuc, yGvs⟩, .slice yGeo K2.m.ents.length yGec⟩, .slice yGro K2.refuse.length yGrc⟩ : KV) K2 1 (by omega) _ OM.out).mono ?_; rintro e w2 ⟨rfl, hb⟩
    clear xG cG0 cG1 cG2 cG3 cG4 fG0 fG1 fG2 fG3 fG4
    replace BP := Lib.hid (BP.out.below hb)
    replace BW := Lib.hid (BW.out.below hb)
    replace BG := Lib.hid (BG.out.below hb)
    replace OW := Lib.hid (OW.out.below hb)
    replace OM := Lib.hid (OM.out.below hb)
    replace HA := Lib.hid (HA.out.below hb)
    replace HT := Lib.hid (HT.out.trans (hb.mono HT.out.size))
    have zwM := hb.size; (try simp only [World.size_alloc] at zwM)
    clear hb
    obtain ⟨wM, rfl⟩ : ∃ x, x = w2 := ⟨_, rfl⟩
    obtain ⟨xP, cP0, cP1, cP2, cP3, cP4, fP0, fP1, fP2, fP3, fP4⟩ := BP.out
    (try dsimp only at cP0 cP1 cP2 cP3 cP4)
    go_wp2_with fail
    refine (l_toKernel x K hs _ HA.out).mono ?_; rintro e w2 ⟨y3, rfl, O3, hb⟩
    clear xP cP0 cP1 cP2 cP3 cP4 fP0 fP1 fP2 fP3 fP4
    obtain ⟨y3co, y3cc, y3uo, y3uc, y3vs, y3eo, y3ec, y3ro, y3rc, rfl⟩ := KOwn.shapes O3
    replace BP := Lib.hid (BP.out.below hb)
    replace BW := Lib.hid (BW.out.below hb)
    replace BG := Lib.hid (BG.out.below hb)
    replace OW := Lib.hid (OW.out.below hb)
    replace OM := Lib.hid (OM.out.below hb)
    replace HA := Lib.hid (HA.out.below hb)
    replace HT := Lib.hid (HT.out.trans (hb.mono HT.out.size))
    have zwN := hb.size; (try simp only [World.size_alloc] at zwN)
    clear hb
    obtain ⟨wN, rfl⟩ : ∃ x, x = w2 := ⟨_, rfl⟩
    simp only [KV.val]
    go_wp2_with fail
    refine (HI.out _ _ O3.at).mono ?_; rintro e w2 ⟨yH, rfl, OH, hb⟩
    clear O3
    obtain ⟨yHco, yHcc, yHuo, yHuc, yHvs, yHeo, yHec, yHro, yHrc, rfl⟩ := KOwn.shapes OH
    replace OH := Lib.hid OH
    replace BP := Lib.hid (BP.out.below hb)
    replace BW := Lib.hid (BW.out.below hb)
    replace BG := Lib.hid (BG.out.below hb)
    replace OW := Lib.hid (OW.out.below hb)
    replace OM := Lib.hid (OM.out.below hb)
    replace HA := Lib.hid (HA.out.below hb)
    replace HT := Lib.hid (HT.out.trans (hb.mono HT.out.size))
    have zwO := hb.size; (try simp only [World.size_alloc] at zwO)
    clear hb
    obtain ⟨wO, rfl⟩ : ∃ x, x = w2 := ⟨_, rfl⟩
    simp only [KV.val]
    obtain ⟨xW, cW0, cW1, cW2, cW3, cW4, fW0, fW1, fW2, fW3, fW4⟩ := BW.out
    (try dsimp only at cW0 cW1 cW2 cW3 cW4)
    go_wp2_with fail
    replace BP := Lib.hid (BP.out.below ((Below.refl _ wO).alloc (Nat.le_refl _) (.cells #[.slice yHco yHvs.length yHcc, .slice yHuo K2.m.f.used.length yHuc, .slice yHeo K2.m.ents.length yHec, .int .i64 (K2.calls), .slice yHro K2.refuse.length yHrc] 72)))
    replace BW := Lib.hid (BW.out.below ((Below.refl _ wO).alloc (Nat.le_refl _) (.cells #[.slice yHco yHvs.length yHcc, .slice yHuo K2.m.f.used.length yHuc, .slice yHeo K2.m.ents.length yHec, .int .i64 (K2.calls), .slice yHro K2.refuse.length yHrc] 72)))
    replace BG := Lib.hid (BG.out.below ((Below.refl _ wO).alloc (Nat.le_refl _) (.cells #[.slice yHco yHvs.length yHcc, .slice yHuo K2.m.f.used.length yHuc, .slice yHeo K2.m.ents.length yHec, .int .i64 (K2.calls), .slice yHro K2.refuse.length yHrc] 72)))
    replace OW := Lib.hid (OW.out.below ((Below.refl _ wO).alloc (Nat.le_refl _) (.cells #[.slice yHco yHvs.length yHcc, .slice yHuo K2.m.f.used.length yHuc, .slice yHeo K2.m.ents.length yHec, .int .i64 (K2.calls), .slice yHro K2.refuse.length yHrc] 72)))
    replace OM := Lib.hid (OM.out.below ((Below.refl _ wO).alloc (Nat.le_refl _) (.cells #[.slice yHco yHvs.length yHcc, .slice yHuo K2.m.f.used.length yHuc, .slice yHeo K2.m.ents.length yHec, .int .i64 (K2.calls), .slice yHro K2.refuse.length yHrc] 72)))
    replace OH := Lib.hid (OH.out.below ((Below.refl _ wO).alloc (Nat.le_refl _) (.cells #[.slice yHco yHvs.length yHcc, .slice yHuo K2.m.f.used.length yHuc, .slice yHeo K2.m.ents.length yHec, .int .i64 (K2.calls), .slice yHro K2.refuse.length yHrc] 72)))
    replace HA := Lib.hid (HA.out.below ((Below.refl _ wO).alloc (Nat.le_refl _) (.cells #[.slice yHco yHvs.length yHcc, .slice yHuo K2.m.f.used.length yHuc, .slice yHeo K2.m.ents.length yHec, .int .i64 (K2.calls), .slice yHro K2.refuse.length yHrc] 72)))
    replace HT := Lib.hid (HT.out.trans (((Below.refl _ wO).alloc (Nat.le_refl _) (.cells #[.slice yHco yHvs.length yHcc, .slice yHuo K2.m.f.used.length yHuc, .slice yHeo K2.m.ents.length yHec, .int .i64 (K2.calls), .slice yHro K2.refuse.length yHrc] 72)).mono HT.out.size))
    have BH : Hid (KBox (wO.alloc (.cells #[.slice yHco yHvs.length yHcc, .slice yHuo K2.m.f.used.length yHuc, .slice yHeo K2.m.ents.length yHec, .int .i64 (K2.calls), .slice yHro K2.refuse.length yHrc] 72)) wO.heap.size (⟨⟨⟨.slice yHco yHvs.length yHcc, .slice yHuo K2.m.f.used.length yHuc, yHvs⟩, .slice yHeo K2.m.ents.length yHec⟩, .slice yHro K2.refuse.length yHrc⟩ : KV) (K2.calls)) := ⟨by go_simp, by go_simp, by go_simp, by go_simp, by go_simp, by go_simp, by go_simp, by go_simp, by go_simp, by go_simp, by go_simp⟩
    refine (l_eqKernel _ _ (⟨⟨⟨.slice yHco yHvs.length yHcc, .slice yHuo K2.m.f.used.length yHuc, yHvs⟩, .slice yHeo K2.m.ents.length yHec⟩, .slice yHro K2.refuse.length yHrc⟩ : KV) (⟨⟨⟨.slice yWco yWvs.length yWcc, .slice yWuo K2.m.f.used.length yWuc, yWvs⟩, .slice yWeo K2.m.ents.length yWec⟩, .slice yWro K2.refuse.length yWrc⟩ : KV) _ _ OH.out OW.out).mono ?_; rintro e w2 ⟨rfl, hb⟩
    clear xW cW0 cW1 cW2 cW3 cW4 fW0 fW1 fW2 fW3 fW4
    replace BP := Lib.hid (BP.out.below hb)
    replace BW := Lib.hid (BW.out.below hb)
    replace BG := Lib.hid (BG.out.below hb)
    replace BH := Lib.hid (BH.out.below hb)
    replace OW := Lib.hid (OW.out.below hb)
    replace OM := Lib.hid (OM.out.below hb)
    replace OH := Lib.hid (OH.out.below hb)
    replace HA := Lib.hid (HA.out.below hb)
    replace HT := Lib.hid (HT.out.trans (hb.mono HT.out.size))
    have zwP := hb.size; (try simp only [World.size_alloc] at zwP)
    clear hb
    obtain ⟨wP, rfl⟩ : ∃ x, x = w2 := ⟨_, rfl⟩
    obtain ⟨xG, cG0, cG1, cG2, cG3, cG4, fG0, fG1, fG2, fG3, fG4⟩ := BG.out
    (try dsimp only at cG0 cG1 cG2 cG3 cG4)
    go_wp2_with fail
    refine (l_heldKernel _ (⟨⟨⟨.slice yGco yGvs.length yGcc, .slice yGuo K2.m.f.used.length yGuc, yGvs⟩, .slice yGeo K2.m.ents.length yGec⟩, .slice yGro K2.refuse.length yGrc⟩ : KV) K2 1 (by omega) _ OM.out).mono ?_; rintro e w2 ⟨rfl, hb⟩
    clear xG cG0 cG1 cG2 cG3 cG4 fG0 fG1 fG2 fG3 fG4
    replace BP := Lib.hid (BP.out.below hb)
    replace BW := Lib.hid (BW.out.below hb)
    replace BG := Lib.hid (BG.out.below hb)
    replace BH := Lib.hid (BH.out.below hb)
    replace OW := Lib.hid (OW.out.below hb)
    replace OM := Lib.hid (OM.out.below hb)
    replace OH := Lib.hid (OH.out.below hb)
    replace HA := Lib.hid (HA.out.below hb)
    replace HT := Lib.hid (HT.out.trans (hb.mono HT.out.size))
    have zwQ := hb.size; (try simp only [World.size_alloc] at zwQ)
    clear hb
    obtain ⟨wQ, rfl⟩ : ∃ x, x = w2 := ⟨_, rfl⟩
    go_wp2_with fail
    go_ret
    exact ⟨rfl, HT.out⟩
  · (have hall := all_nil w; go_enter Try.func14, Try.ntmps14)
    go_wp2_with (go_at_call 40; refine (l_szKernel x K _ (by omega) _ (HA.out.below (by exact bel))).mono ?_; rintro e w2 ⟨rfl, hb⟩; rw [szRes_neg (by omega)])
    go_ret
    exact ⟨rfl, by exact bel⟩

namespace fnExactKMapNew
set_option maxRecDepth 100000 in
theorem contract (H : Type) (enc : TypeId × Value → H) (W : World) (base : Nat) (args : Array Value) (ds gs : List (DataW H)) (before : List MemPlace)
    (hval : ∀ (j : Nat) t v, Try.f14.params[j]? = some t → args[j]? = some v → Value.okWide Try.prog W .any base t v)
    (hW : DataW.Whole enc Try.prog Try.f14.params.toList Rows.fnExactKMapNewSpec.vars false W args.toList ds gs before) :
    Calls Try.prog 14 args W fun e W' => ∃ v, e = .returned v ∧ Rows.fnExactKMapNewSpec.post enc Try.prog Try.f14 false true false false W args v W' := by
  have hW' := hW
  obtain ⟨p, q, hA0, hV, rfl, hfz, hnd⟩ := hW
  have hA : DataW.TrodAll enc Try.prog W 0 (fun _ => true) true Try.f14.params.toList args.toList ds p := hA0
  rw [Try.params14] at hA hval
  obtain ⟨v0, vs0, d0, ds0, p0, q0, hargs, rfl, rfl, h0, r0⟩ := trodAll_cons hA
  obtain ⟨v1, vs1, d1, ds1, p1, q1, rfl, rfl, rfl, h1, r1⟩ := trodAll_cons r0
  obtain ⟨rfl, rfl, rfl⟩ := trodAll_nil r1
  obtain rfl : args = #[v0, v1] := by cases args; simp_all
  obtain ⟨rfl, rfl⟩ := trodVars_none hV
  obtain ⟨x, K, rfl, hxK, wK⟩ := kernel_open (hval 0 60 v0 rfl rfl) h0
  obtain ⟨p, rfl, rfl, rfl, wp⟩ := open_int Try.underlying3 (hval 1 3 v1 rfl rfl) h1
  clear hA0
  refine (w_FnExactKMapNew x K p W hxK).mono fun e W' ⟨he, hg⟩ => ?_
  subst he
  exact ⟨_, rfl, law_post (tb := 4) laidOut (by kernel_rfl) rfl rfl Try.underlying4 hW' rfl rfl rfl hg⟩
set_option maxRecDepth 100000 in
theorem lifted (os : Os) (started : os.Started) (H : Type) (enc : TypeId × Value → H) :
    ReturnsInHanded {} Try.checked os 14 .any (Rows.fnExactKMapNewSpec.pre6 enc Try.prog Try.f14 Rows.fnExactKMapNewRow.domain false) (Rows.fnExactKMapNewSpec.post enc Try.prog Try.f14 false true false false) := by
  refine returnsInHanded_of_change (C := Try.checked) own started (by kernel_rfl) Try.func14
    (ChangeSpec.witness6 (enc := enc) (C := Try.checked) false ⟨#[], #[.agg #[.slice none 0 0, .slice none 0 0, .slice none 0 0, .int .i64 0, .slice none 0 0], .int .i64 0], []⟩ 8 (by kernel_rfl) (by kernel_rfl) (by kernel_rfl) (by kernel_rfl)) ?_
  intro W base args ds gs before hval hW _ _
  exact contract H enc W base args ds gs before hval hW
/-- The statement. -/
theorem proved : Rows.FnExactKMapNewSaid :=
  OpenClaim.holds_of_wide 14 Try.f14 rfl rfl rfl rfl rfl rfl rfl ⟨rfl, rfl, rfl, rfl, rfl⟩ rfl rfl rfl rfl rfl (by kernel_rfl) Try.func14 (by kernel_rfl)
    (of_decide_eq_true (by kernel_rfl)) (by unfold Func.isWrapper; first | (rw [if_pos (by decide +kernel)]; kernel_rfl) | (rw [if_neg (by decide +kernel)]; exact ⟨rfl, rfl⟩))
    (fun os started H enc _ => lifted os started H enc)
end fnExactKMapNew

end Go.Proofs.Yteebofhflbjimaa
