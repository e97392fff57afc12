/- 'laws.FnJobParts' returns true, whatever the bytes: no condition. -/
import Derived.Test.YtkkebpcclklmcaaGB44
import Derived.Test.YtkkebpcclklmcaaGB45
import Derived.Test.YtkkebpcclklmcaaGB28
import Derived.Test.YtkkebpcclklmcaaGB30
set_option linter.unusedVariables false
set_option linter.unusedSimpArgs false
namespace Go.Proofs.Ytkkebpcclklmcaa
open Go.ChangeShapes Go.WideShapes Go.ChangeAt Go.RowKit
theorem run_two (kp mv : Int) (cs : List Int) (a b : Nat) (ha : a < 15) (hb : b < 15) (s : JS) : runTo kp mv cs ((a : Int) + (b : Int)) s = runTo kp mv cs (b : Int) (runTo kp mv cs (a : Int) s) := by
  have h1 : between ((a : Int) + (b : Int)) 0 200 = true := between_iff.2 ⟨by omega, by omega⟩
  have h2 : between (a : Int) 0 200 = true := between_iff.2 ⟨by omega, by omega⟩
  have h3 : between (b : Int) 0 200 = true := between_iff.2 ⟨by omega, by omega⟩
  unfold runTo
  rw [h1, h2, h3, if_pos rfl, if_pos rfl, if_pos rfl, show ((a : Int) + (b : Int)).toNat = a + b by omega, Int.toNat_natCast, Int.toNat_natCast, runJ_add]
theorem parts_act {kp mv : Int} {cs : List Int} (h : planOk kp mv cs = true) : jobActive kp mv cs 1 0 = true := by
  have h1 : between (1 : Int) 0 5 = true := by decide
  have h2 : between (1 : Int) 1 3 = true := by decide
  have h3 : between (0 : Int) 0 (cs.length : Int) = true := between_iff.2 ⟨by omega, by omega⟩
  unfold jobActive jobOk
  rw [h, h1, h2, h3]; rfl
theorem parts_nums {q : Int} (h : 0 ≤ q ∧ q ≤ 9999) : ∃ a : Nat, q.tmod 15 = (a : Int) ∧ a < 15 ∧ wrap64 (a : Int) = a := by
  obtain ⟨a, h1, h2, -, h3⟩ := tmod_nat (m := 15) h.1 (by decide) (by decide)
  exact ⟨a, h1, h2, h3⟩
theorem parts_sum {a b : Nat} (ha : a < 15) (hb : b < 15) : wrap64 ((a : Int) + (b : Int)) = (a : Int) + (b : Int) ∧ IntKind.i64.wrap ((a : Int) + (b : Int)) = (a : Int) + (b : Int) := ⟨IntWalk.wrap64_in _ (by omega), IntWalk.i64_in _ (by omega)⟩
set_option maxRecDepth 20000 in
set_option maxHeartbeats 6400000 in
theorem w_FnJobParts (v : Value) (n : Nat) (w : World) (hv : BytesAt w.heap.size w v n) : Calls Try.prog 5 #[v] w fun e w' => e = .returned (.bool true) ∧ Below w.heap.size w w' := by
  have HV := Lib.hid hv; clear hv
  by_cases hbig : (1048576 : Int) < n
  · (have hall := all_nil w; go_enter Try.func5, Try.ntmps5)
    go_wp2_with (go_at_call 8; refine (l_big _ n _ HV.out).mono ?_; rintro e w1 ⟨rfl, rfl⟩)
    all_goals (go_ret; refine ⟨by simp_all [], ?_⟩; exact bel)
  · (have hall := all_nil w; go_enter Try.func5, Try.ntmps5)
    go_wp2_with (go_at_call 8; refine (l_big _ n _ HV.out).mono ?_; rintro e w1 ⟨rfl, rfl⟩)
    refine (s_DrawPair _ n _ HV.out).mono ?_; rintro e w2 ⟨y, K, kp, mv, v, cs, rfl, hd, hcl, hk4, hm4, hko, hvo, hap, hb⟩
    obtain ⟨yco, ycc, yuo, yuc, yvs, yeo, yec, yro, yrc, rfl⟩ := KOwn.shapes hko
    obtain ⟨vo, vc, rfl, -, -, -⟩ := Own.shape hvo
    have HD := Lib.hid hd; have OK := Lib.hid hko; have OV := Lib.hid hvo; have HW := Lib.hid hb
    have HSZ : Hid (szK K ≤ 1048576) := Lib.hid (by have h1 := mok_szK hd.ok; have h2 := hd.rl; omega)
    have H16 : Hid (cs.length ≤ 1048576) := Lib.hid (Nat.le_trans hd.c16 (by decide))
    clear hd hko hvo hap hb
    simp only [KV.val]
    go_wp2_with fail
    refine (s_DrawPlaces _ n _ (BytesAt.grewN HV.out (by (have hW := HW.out; have hz := hW.size; exact bel)))).mono ?_; rintro e w4 ⟨pv, ps, rfl, hown, hxl, hxs, hb⟩
    obtain ⟨pg, pc, rfl, hgB, hg, hcell⟩ := places_at hown hxl
    have p0 := hcell 0 (by omega); have p1 := hcell 1 (by omega)
    have b0 := places_in hxl hxs 0 (by omega); have b1 := places_in hxl hxs 1 (by omega)
    have HB3 := Lib.hid (bx5 hb (w2.heap.size) (.slice yco yvs.length ycc) (.slice yuo K.m.f.used.length yuc) (.slice yeo K.m.ents.length yec) (.int .i64 K.calls) (.slice yro K.refuse.length yrc))
    have HB4 := Lib.hid (bx3 hb (w2.heap.size + 1) (.int .i64 (kp : Int)) (.int .i64 (mv : Int)) (.slice vo cs.length vc))
    have up := lstep (w := w2) hb
    replace OK := Lib.hid (OK.out.below up); replace OV := Lib.hid (Own.below OV.out up); replace HW := Lib.hid (HW.out.trans (up.mono HW.out.size))
    clear up hown hxl hxs hb hcell hgB
    generalize ps.getD 0 0 = q0 at *; generalize ps.getD 1 0 = q1 at *
    obtain ⟨a, ha, hal, haw⟩ := parts_nums b0
    obtain ⟨b, hbq, hbl, hbw⟩ := parts_nums b1
    generalize w2.heap.size = g3 at *
    have HP := Lib.hid (And.intro p0 p1)
    have k4_0 := (HB4.out.cells 0 _ rfl).1; have k4_1 := (HB4.out.cells 1 _ rfl).1; have k4_2 := (HB4.out.cells 2 _ rfl).1; have x4 := HB4.out.lt
    clear p0 p1 b0 b1
    go_wp2_with fail
    refine (s_JobNewOk (kp : Int) (mv : Int) _ cs HD.out.plan H16.out _ (OV.out.at lenInt)).mono ?_; rintro e w5 ⟨jv, rfl, hjo, hb⟩
    obtain ⟨jo, jc, rfl, -, -, -⟩ := Own.shape hjo
    have up := lstep (w := w4) hb
    replace HB3 := Lib.hid (HB3.out.below up); replace HB4 := Lib.hid (HB4.out.below up); replace OK := Lib.hid (OK.out.below up); replace OV := Lib.hid (Own.below OV.out up); replace HW := Lib.hid (HW.out.trans (up.mono HW.out.size))
    have OJ := Lib.hid hjo
    have p0 := (up.cell (p := ⟨pg, 0, none⟩) hg).trans HP.out.1; have p1 := (up.cell (p := ⟨pg, 1, none⟩) hg).trans HP.out.2
    have xpg : pg < w5.heap.size := Nat.lt_of_lt_of_le hg up.size
    clear up hjo hb HP k4_0 k4_1 k4_2 x4
    obtain ⟨R1, hR1⟩ : ∃ R, runTo kp mv cs (a : Int) ⟨K, 0, 0⟩ = R := ⟨_, rfl⟩
    obtain ⟨R2, hR2⟩ : ∃ R, runTo kp mv cs (b : Int) R1 = R := ⟨_, rfl⟩
    have hR3 := run_two kp mv cs a b hal hbl ⟨K, 0, 0⟩
    rw [hR1, hR2] at hR3
    have HS1 : Hid (szK R1.k ≤ 1048576) := Lib.hid (by rw [← hR1, sz_runTo]; exact HSZ.out)
    have H1 := Lib.hid hR1; have H2 := Lib.hid hR2; have H3 := Lib.hid hR3
    clear hR1 hR2 hR3
    have k3_0 := (HB3.out.cells 0 _ rfl).1; have k3_1 := (HB3.out.cells 1 _ rfl).1; have k3_2 := (HB3.out.cells 2 _ rfl).1; have k3_3 := (HB3.out.cells 3 _ rfl).1; have k3_4 := (HB3.out.cells 4 _ rfl).1; have x3 := HB3.out.lt
    go_wp2_with fail
    refine (i_JobRunS (⟨⟨⟨.slice yco yvs.length ycc, .slice yuo K.m.f.used.length yuc, yvs⟩, .slice yeo K.m.ents.length yec⟩, .slice yro K.refuse.length yrc⟩ : KV) ⟨K, 0, 0⟩ (kp : Int) (mv : Int) _ cs (a : Int) R1 H1.out HSZ.out H16.out _ (KAt.below OK.out.at (by exact bel)) (SlAt.below (OJ.out.at lenInt) (by exact bel))).mono ?_; rintro e w7 ⟨z, zv, rfl, hzo, hzv, hzd, hb⟩
    obtain ⟨zco, zcc, zuo, zuc, zvs, zeo, zec, zro, zrc, rfl⟩ := KOwn.shapes hzo
    obtain ⟨zo, zc, rfl, -, -, -⟩ := Own.shape hzv
    have HB6 := Lib.hid (bx5 hb (w5.heap.size) (.int .i64 (kp : Int)) (.int .i64 (mv : Int)) (.slice jo cs.length jc) (.int .i64 0) (.int .i64 0))
    have up := lstep (w := w5) hb
    replace HB3 := Lib.hid (HB3.out.below up); replace HB4 := Lib.hid (HB4.out.below up); replace OK := Lib.hid (OK.out.below up); replace OV := Lib.hid (Own.below OV.out up); replace OJ := Lib.hid (Own.below OJ.out up); replace HW := Lib.hid (HW.out.trans (up.mono HW.out.size))
    have OZ := Lib.hid hzo; have OZV := Lib.hid hzv
    have LK := Lib.hid (fun b hb => (OK.out.lts b hb).2 : ∀ b ∈ blocks ((⟨⟨⟨.slice yco yvs.length ycc, .slice yuo K.m.f.used.length yuc, yvs⟩, .slice yeo K.m.ents.length yec⟩, .slice yro K.refuse.length yrc⟩ : KV)).all, b < w7.heap.size)
    have LV := Lib.hid (fun b hb => (Own.lts OV.out b hb).2 : ∀ b ∈ blocks [(.slice vo cs.length vc : Value)], b < w7.heap.size)
    have hw7 := HW.out.size
    have LJ := Lib.hid (fun b hb => (Own.lts OJ.out b hb).2 : ∀ b ∈ blocks [(.slice jo cs.length jc : Value)], b < w7.heap.size)
    have l3 := HB3.out.lt; have l4 := HB4.out.lt; have l6 := HB6.out.lt
    clear up hb hzo hzv hzd p0 p1 xpg k3_0 k3_1 k3_2 k3_3 k3_4 x3
    simp only [KV.val]
    go_wp2_with fail
    refine (i_JobRunS (⟨⟨⟨.slice zco zvs.length zcc, .slice zuo R1.k.m.f.used.length zuc, zvs⟩, .slice zeo R1.k.m.ents.length zec⟩, .slice zro R1.k.refuse.length zrc⟩ : KV) R1 (kp : Int) (mv : Int) _ cs (b : Int) R2 H2.out HS1.out H16.out _ (KAt.below OZ.out.at (by exact bel)) (SlAt.below (OZV.out.at lenInt) (by exact bel))).mono ?_; rintro e w9 ⟨x, xv, rfl, hxo, hxv, hxd, hb⟩
    obtain ⟨xco, xcc, xuo, xuc, xvs, xeo, xec, xro, xrc, rfl⟩ := KOwn.shapes hxo
    obtain ⟨xo, xc_, rfl, -, -, -⟩ := Own.shape hxv
    have HBA := Lib.hid (bx5 hb (w7.heap.size) (.slice zco zvs.length zcc) (.slice zuo R1.k.m.f.used.length zuc) (.slice zeo R1.k.m.ents.length zec) (.int .i64 R1.k.calls) (.slice zro R1.k.refuse.length zrc))
    have HBB := Lib.hid (bx5 hb (w7.heap.size + 1) (.int .i64 (kp : Int)) (.int .i64 (mv : Int)) (.slice zo cs.length zc) (.int .i64 R1.ph) (.int .i64 R1.nx))
    have up := lstep (w := w7) hb
    replace HB3 := Lib.hid (HB3.out.below up); replace HB4 := Lib.hid (HB4.out.below up); replace HB6 := Lib.hid (HB6.out.below up); replace OK := Lib.hid (OK.out.below up); replace OV := Lib.hid (Own.below OV.out up); replace OJ := Lib.hid (Own.below OJ.out up); replace HW := Lib.hid (HW.out.trans (up.mono HW.out.size))
    have LX : Hid (∀ b ∈ blocks ((⟨⟨⟨.slice xco xvs.length xcc, .slice xuo R2.k.m.f.used.length xuc, xvs⟩, .slice xeo R2.k.m.ents.length xec⟩, .slice xro R2.k.refuse.length xrc⟩ : KV)).all, w7.heap.size + 2 ≤ b) := Lib.hid (fun b hb => by have h := (hxo.lts b hb).1; simp only [World.size_alloc] at h; omega)
    have LXV : Hid (∀ b ∈ blocks [(.slice xo cs.length xc_ : Value)], w7.heap.size + 2 ≤ b) := Lib.hid (fun b hb => by have h := (Own.lts hxv b hb).1; simp only [World.size_alloc] at h; omega)
    have OX := Lib.hid hxo; have OXV := Lib.hid hxv
    clear up hb hxo hxv hxd OZ OZV
    simp only [KV.val]
    have kA_0 := (HBA.out.cells 0 _ rfl).1; have fA_0 := (HBA.out.cells 0 _ rfl).2; have kA_1 := (HBA.out.cells 1 _ rfl).1; have fA_1 := (HBA.out.cells 1 _ rfl).2; have kA_2 := (HBA.out.cells 2 _ rfl).1; have fA_2 := (HBA.out.cells 2 _ rfl).2; have kA_3 := (HBA.out.cells 3 _ rfl).1; have fA_3 := (HBA.out.cells 3 _ rfl).2; have kA_4 := (HBA.out.cells 4 _ rfl).1; have fA_4 := (HBA.out.cells 4 _ rfl).2; have xA := HBA.out.lt
    have kB_0 := (HBB.out.cells 0 _ rfl).1; have fB_0 := (HBB.out.cells 0 _ rfl).2; have kB_1 := (HBB.out.cells 1 _ rfl).1; have fB_1 := (HBB.out.cells 1 _ rfl).2; have kB_2 := (HBB.out.cells 2 _ rfl).1; have fB_2 := (HBB.out.cells 2 _ rfl).2; have kB_3 := (HBB.out.cells 3 _ rfl).1; have fB_3 := (HBB.out.cells 3 _ rfl).2; have kB_4 := (HBB.out.cells 4 _ rfl).1; have fB_4 := (HBB.out.cells 4 _ rfl).2; have xB := HBB.out.lt
    generalize w7.heap.size = gA at *
    go_upto_region 10 with fail
    have tS : Touch [gA, gA + 1] w9 ((((((((((w9.setCell ⟨gA, 0, none⟩ (.slice xco xvs.length xcc)).setCell ⟨gA, 1, none⟩ (.slice xuo R2.k.m.f.used.length xuc)).setCell ⟨gA, 2, none⟩ (.slice xeo R2.k.m.ents.length xec)).setCell ⟨gA, 3, none⟩ (.int .i64 R2.k.calls)).setCell ⟨gA, 4, none⟩ (.slice xro R2.k.refuse.length xrc)).setCell ⟨gA + 1, 0, none⟩ (.int .i64 (kp : Int))).setCell ⟨gA + 1, 1, none⟩ (.int .i64 (mv : Int))).setCell ⟨gA + 1, 2, none⟩ (.slice xo cs.length xc_)).setCell ⟨gA + 1, 3, none⟩ (.int .i64 R2.ph)).setCell ⟨gA + 1, 4, none⟩ (.int .i64 R2.nx)) := (touch_setC (touch_setC (touch_setC (touch_setC (touch_setC (touch_setC (touch_setC (touch_setC (touch_setC (touch_setC (Touch.refl _ _) (by simp)) (by simp)) (by simp)) (by simp)) (by simp)) (by simp)) (by simp)) (by simp)) (by simp)) (by simp))
    have nS : ∀ g, g < gA → g ∉ [gA, gA + 1] := fun g hg hm => by simp only [List.mem_cons, List.not_mem_nil, or_false] at hm; omega
    have nX : ∀ g, gA + 2 ≤ g → g ∉ [gA, gA + 1] := fun g hg hm => by simp only [List.mem_cons, List.not_mem_nil, or_false] at hm; omega
    have U3 := Lib.hid (HB3.out.touch tS (nS _ l3)); have U4 := Lib.hid (HB4.out.touch tS (nS _ l4)); have U6 := Lib.hid (HB6.out.touch tS (nS _ l6))
    have UK := Lib.hid (OK.out.touch tS (fun b hb => nS b (LK.out b hb))); have UV := Lib.hid (Own.touchs OV.out tS (fun b hb => nS b (LV.out b hb)))
    have UJ := Lib.hid (Own.touchs OJ.out tS (fun b hb => nS b (LJ.out b hb)))
    have UX := Lib.hid (OX.out.touch tS (fun b hb => nX b (LX.out b hb))); have UXV := Lib.hid (Own.touchs OXV.out tS (fun b hb => nX b (LXV.out b hb)))
    have UW := Lib.hid (HW.out.trans (tS.toBelow (B := w.heap.size) (fun b hb => by simp only [List.mem_cons, List.not_mem_nil, or_false] at hb; omega) HW.out.size))
    have UA : BoxAt ((((((((((w9.setCell ⟨gA, 0, none⟩ (.slice xco xvs.length xcc)).setCell ⟨gA, 1, none⟩ (.slice xuo R2.k.m.f.used.length xuc)).setCell ⟨gA, 2, none⟩ (.slice xeo R2.k.m.ents.length xec)).setCell ⟨gA, 3, none⟩ (.int .i64 R2.k.calls)).setCell ⟨gA, 4, none⟩ (.slice xro R2.k.refuse.length xrc)).setCell ⟨gA + 1, 0, none⟩ (.int .i64 (kp : Int))).setCell ⟨gA + 1, 1, none⟩ (.int .i64 (mv : Int))).setCell ⟨gA + 1, 2, none⟩ (.slice xo cs.length xc_)).setCell ⟨gA + 1, 3, none⟩ (.int .i64 R2.ph)).setCell ⟨gA + 1, 4, none⟩ (.int .i64 R2.nx)) gA [.slice xco xvs.length xcc, .slice xuo R2.k.m.f.used.length xuc, .slice xeo R2.k.m.ents.length xec, .int .i64 R2.k.calls, .slice xro R2.k.refuse.length xrc] := (BoxAt.snoc (BoxAt.snoc (BoxAt.snoc (BoxAt.snoc (BoxAt.snoc (BoxAt.nil (w := ((((((((((w9.setCell ⟨gA, 0, none⟩ (.slice xco xvs.length xcc)).setCell ⟨gA, 1, none⟩ (.slice xuo R2.k.m.f.used.length xuc)).setCell ⟨gA, 2, none⟩ (.slice xeo R2.k.m.ents.length xec)).setCell ⟨gA, 3, none⟩ (.int .i64 R2.k.calls)).setCell ⟨gA, 4, none⟩ (.slice xro R2.k.refuse.length xrc)).setCell ⟨gA + 1, 0, none⟩ (.int .i64 (kp : Int))).setCell ⟨gA + 1, 1, none⟩ (.int .i64 (mv : Int))).setCell ⟨gA + 1, 2, none⟩ (.slice xo cs.length xc_)).setCell ⟨gA + 1, 3, none⟩ (.int .i64 R2.ph)).setCell ⟨gA + 1, 4, none⟩ (.int .i64 R2.nx))) (g := gA) (by simp only [World.size_setCell]; exact xA)) (v := .slice xco xvs.length xcc) (i := 0) rfl (by go_simp) (by go_simp)) (v := .slice xuo R2.k.m.f.used.length xuc) (i := 1) rfl (by go_simp) (by go_simp)) (v := .slice xeo R2.k.m.ents.length xec) (i := 2) rfl (by go_simp) (by go_simp)) (v := .int .i64 R2.k.calls) (i := 3) rfl (by go_simp) (by go_simp)) (v := .slice xro R2.k.refuse.length xrc) (i := 4) rfl (by go_simp) (by go_simp))
    have UB : BoxAt ((((((((((w9.setCell ⟨gA, 0, none⟩ (.slice xco xvs.length xcc)).setCell ⟨gA, 1, none⟩ (.slice xuo R2.k.m.f.used.length xuc)).setCell ⟨gA, 2, none⟩ (.slice xeo R2.k.m.ents.length xec)).setCell ⟨gA, 3, none⟩ (.int .i64 R2.k.calls)).setCell ⟨gA, 4, none⟩ (.slice xro R2.k.refuse.length xrc)).setCell ⟨gA + 1, 0, none⟩ (.int .i64 (kp : Int))).setCell ⟨gA + 1, 1, none⟩ (.int .i64 (mv : Int))).setCell ⟨gA + 1, 2, none⟩ (.slice xo cs.length xc_)).setCell ⟨gA + 1, 3, none⟩ (.int .i64 R2.ph)).setCell ⟨gA + 1, 4, none⟩ (.int .i64 R2.nx)) (gA + 1) [.int .i64 (kp : Int), .int .i64 (mv : Int), .slice xo cs.length xc_, .int .i64 R2.ph, .int .i64 R2.nx] := (BoxAt.snoc (BoxAt.snoc (BoxAt.snoc (BoxAt.snoc (BoxAt.snoc (BoxAt.nil (w := ((((((((((w9.setCell ⟨gA, 0, none⟩ (.slice xco xvs.length xcc)).setCell ⟨gA, 1, none⟩ (.slice xuo R2.k.m.f.used.length xuc)).setCell ⟨gA, 2, none⟩ (.slice xeo R2.k.m.ents.length xec)).setCell ⟨gA, 3, none⟩ (.int .i64 R2.k.calls)).setCell ⟨gA, 4, none⟩ (.slice xro R2.k.refuse.length xrc)).setCell ⟨gA + 1, 0, none⟩ (.int .i64 (kp : Int))).setCell ⟨gA + 1, 1, none⟩ (.int .i64 (mv : Int))).setCell ⟨gA + 1, 2, none⟩ (.slice xo cs.length xc_)).setCell ⟨gA + 1, 3, none⟩ (.int .i64 R2.ph)).setCell ⟨gA + 1, 4, none⟩ (.int .i64 R2.nx))) (g := gA + 1) (by simp only [World.size_setCell]; exact xB)) (v := .int .i64 (kp : Int)) (i := 0) rfl (by go_simp) (by go_simp)) (v := .int .i64 (mv : Int)) (i := 1) rfl (by go_simp) (by go_simp)) (v := .slice xo cs.length xc_) (i := 2) rfl (by go_simp) (by go_simp)) (v := .int .i64 R2.ph) (i := 3) rfl (by go_simp) (by go_simp)) (v := .int .i64 R2.nx) (i := 4) rfl (by go_simp) (by go_simp))
    replace UA := Lib.hid UA; replace UB := Lib.hid UB
    obtain ⟨wt, hwt⟩ : ∃ q, q = ((((((((((w9.setCell ⟨gA, 0, none⟩ (.slice xco xvs.length xcc)).setCell ⟨gA, 1, none⟩ (.slice xuo R2.k.m.f.used.length xuc)).setCell ⟨gA, 2, none⟩ (.slice xeo R2.k.m.ents.length xec)).setCell ⟨gA, 3, none⟩ (.int .i64 R2.k.calls)).setCell ⟨gA, 4, none⟩ (.slice xro R2.k.refuse.length xrc)).setCell ⟨gA + 1, 0, none⟩ (.int .i64 (kp : Int))).setCell ⟨gA + 1, 1, none⟩ (.int .i64 (mv : Int))).setCell ⟨gA + 1, 2, none⟩ (.slice xo cs.length xc_)).setCell ⟨gA + 1, 3, none⟩ (.int .i64 R2.ph)).setCell ⟨gA + 1, 4, none⟩ (.int .i64 R2.nx)) := ⟨_, rfl⟩
    rw [← hwt] at U3 U4 U6 UK UV UJ UX UXV UW UA UB ⊢
    clear hwt tS nS nX HB3 HB4 HB6 OK OV OJ OX OXV HW HBA HBB kA_0 fA_0 kA_1 fA_1 kA_2 fA_2 kA_3 fA_3 kA_4 fA_4 xA kB_0 fB_0 kB_1 fB_1 kB_2 fB_2 kB_3 fB_3 kB_4 fB_4 xB
    have HB3 := U3; clear U3; have HB4 := U4; clear U4; have HB6 := U6; clear U6; have HBA := UA; clear UA; have HBB := UB; clear UB
    have OK := UK; clear UK; have OV := UV; clear UV; have OJ := UJ; clear UJ; have OX := UX; clear UX; have OXV := UXV; clear UXV
    have HW := UW; clear UW
    have k3_0 := (HB3.out.cells 0 _ rfl).1; have k3_1 := (HB3.out.cells 1 _ rfl).1; have k3_2 := (HB3.out.cells 2 _ rfl).1; have k3_3 := (HB3.out.cells 3 _ rfl).1; have k3_4 := (HB3.out.cells 4 _ rfl).1; have x3 := HB3.out.lt
    have k6_0 := (HB6.out.cells 0 _ rfl).1; have k6_1 := (HB6.out.cells 1 _ rfl).1; have k6_2 := (HB6.out.cells 2 _ rfl).1; have k6_3 := (HB6.out.cells 3 _ rfl).1; have k6_4 := (HB6.out.cells 4 _ rfl).1; have x6 := HB6.out.lt
    obtain ⟨hs1, hs2⟩ := parts_sum hal hbl
    go_upto_region 10 with fail
    go_wp2_with fail
    refine (i_JobRunS (⟨⟨⟨.slice yco yvs.length ycc, .slice yuo K.m.f.used.length yuc, yvs⟩, .slice yeo K.m.ents.length yec⟩, .slice yro K.refuse.length yrc⟩ : KV) ⟨K, 0, 0⟩ (kp : Int) (mv : Int) _ cs ((a : Int) + (b : Int)) R2 H3.out HSZ.out H16.out _ OK.out.at (OJ.out.at lenInt)).mono ?_; rintro e w11 ⟨t, tv, rfl, hto, htv, htd, hb⟩
    obtain ⟨tco, tcc, tuo, tuc, tvs, teo, tec, tro, trc, rfl⟩ := KOwn.shapes hto
    obtain ⟨tj, tc_, rfl, -, -, -⟩ := Own.shape htv
    have up := lstep (w := wt) hb
    replace HB4 := Lib.hid (HB4.out.below up); replace HBA := Lib.hid (HBA.out.below up); replace HBB := Lib.hid (HBB.out.below up); replace OV := Lib.hid (Own.below OV.out up); replace OXV := Lib.hid (Own.below OXV.out up); replace HW := Lib.hid (HW.out.trans (up.mono HW.out.size))
    replace OX := Lib.hid (OX.out.below up)
    have OT := Lib.hid hto; have OTV := Lib.hid htv
    clear up hb hto htv htd k3_0 k3_1 k3_2 k3_3 k3_4 x3 k6_0 k6_1 k6_2 k6_3 k6_4 x6
    simp only [KV.val]
    have kA_0 := (HBA.out.cells 0 _ rfl).1; have kA_1 := (HBA.out.cells 1 _ rfl).1; have kA_2 := (HBA.out.cells 2 _ rfl).1; have kA_3 := (HBA.out.cells 3 _ rfl).1; have kA_4 := (HBA.out.cells 4 _ rfl).1; have xA := HBA.out.lt
    have kB_0 := (HBB.out.cells 0 _ rfl).1; have kB_1 := (HBB.out.cells 1 _ rfl).1; have kB_2 := (HBB.out.cells 2 _ rfl).1; have kB_3 := (HBB.out.cells 3 _ rfl).1; have kB_4 := (HBB.out.cells 4 _ rfl).1; have xB := HBB.out.lt
    go_wp2_with fail
    refine (l_sameMachine ((⟨⟨⟨.slice xco xvs.length xcc, .slice xuo R2.k.m.f.used.length xuc, xvs⟩, .slice xeo R2.k.m.ents.length xec⟩, .slice xro R2.k.refuse.length xrc⟩ : KV)).m ((⟨⟨⟨.slice tco tvs.length tcc, .slice tuo R2.k.m.f.used.length tuc, tvs⟩, .slice teo R2.k.m.ents.length tec⟩, .slice tro R2.k.refuse.length trc⟩ : KV)).m R2.k.m _ (MAt.below OX.out.at.m (by exact bel)) (MAt.below OT.out.at.m (by exact bel))).mono ?_; rintro e w12 ⟨rfl, hb⟩
    have HBC := Lib.hid (bx5 hb (w11.heap.size) (.slice tco tvs.length tcc) (.slice tuo R2.k.m.f.used.length tuc) (.slice teo R2.k.m.ents.length tec) (.int .i64 R2.k.calls) (.slice tro R2.k.refuse.length trc))
    have HBD := Lib.hid (bx5 hb (w11.heap.size + 1) (.int .i64 (kp : Int)) (.int .i64 (mv : Int)) (.slice tj cs.length tc_) (.int .i64 R2.ph) (.int .i64 R2.nx))
    have up := lstep (w := w11) hb
    replace HB4 := Lib.hid (HB4.out.below up); replace HBA := Lib.hid (HBA.out.below up); replace HBB := Lib.hid (HBB.out.below up); replace OV := Lib.hid (Own.below OV.out up); replace OXV := Lib.hid (Own.below OXV.out up); replace OTV := Lib.hid (Own.below OTV.out up); replace HW := Lib.hid (HW.out.trans (up.mono HW.out.size))
    clear up hb kA_0 kA_1 kA_2 kA_3 kA_4 xA kB_0 kB_1 kB_2 kB_3 kB_4 xB
    have kA_0 := (HBA.out.cells 0 _ rfl).1; have kA_1 := (HBA.out.cells 1 _ rfl).1; have kA_2 := (HBA.out.cells 2 _ rfl).1; have kA_3 := (HBA.out.cells 3 _ rfl).1; have kA_4 := (HBA.out.cells 4 _ rfl).1; have xA := HBA.out.lt
    have kB_0 := (HBB.out.cells 0 _ rfl).1; have kB_1 := (HBB.out.cells 1 _ rfl).1; have kB_2 := (HBB.out.cells 2 _ rfl).1; have kB_3 := (HBB.out.cells 3 _ rfl).1; have kB_4 := (HBB.out.cells 4 _ rfl).1; have xB := HBB.out.lt
    have kC_0 := (HBC.out.cells 0 _ rfl).1; have kC_1 := (HBC.out.cells 1 _ rfl).1; have kC_2 := (HBC.out.cells 2 _ rfl).1; have kC_3 := (HBC.out.cells 3 _ rfl).1; have kC_4 := (HBC.out.cells 4 _ rfl).1; have xC := HBC.out.lt
    have kD_0 := (HBD.out.cells 0 _ rfl).1; have kD_1 := (HBD.out.cells 1 _ rfl).1; have kD_2 := (HBD.out.cells 2 _ rfl).1; have kD_3 := (HBD.out.cells 3 _ rfl).1; have kD_4 := (HBD.out.cells 4 _ rfl).1; have xD := HBD.out.lt
    have hcc : (R2.k.calls == R2.k.calls) = true := beq_self_eq_true _
    generalize w11.heap.size = gC at *
    go_wp2_with fail
    refine (l_sameJob (kp : Int) (mv : Int) _ _ cs R2.ph R2.nx _ (OXV.out.at lenInt) (OTV.out.at lenInt)).mono ?_; rintro e w13 ⟨rfl, hb⟩
    have up := lstep (w := w12) hb
    replace HB4 := Lib.hid (HB4.out.below up); replace OV := Lib.hid (Own.below OV.out up); replace HW := Lib.hid (HW.out.trans (up.mono HW.out.size))
    clear up hb kA_0 kA_1 kA_2 kA_3 kA_4 xA kB_0 kB_1 kB_2 kB_3 kB_4 xB kC_0 kC_1 kC_2 kC_3 kC_4 xC kD_0 kD_1 kD_2 kD_3 kD_4 xD
    have k4_0 := (HB4.out.cells 0 _ rfl).1; have k4_1 := (HB4.out.cells 1 _ rfl).1; have k4_2 := (HB4.out.cells 2 _ rfl).1; have x4 := HB4.out.lt
    go_wp2_with fail
    refine (i_JobActive (kp : Int) (mv : Int) _ cs 1 0 _ (OV.out.at lenInt)).mono ?_; rintro e w14 ⟨rfl, hb⟩
    rw [parts_act HD.out.plan]
    have up := lstep (w := w13) hb
    have hB := HW.out.trans (up.mono HW.out.size)
    go_wp2_with fail
    go_ret
    exact ⟨by first | rfl | simp_all, by exact bel⟩

namespace fnJobParts
set_option maxRecDepth 100000 in
theorem contract (H : Type) (enc : TypeId × Value → H) (W : World) (base : Nat) (args : Array Value) (ds gs : List (DataW H)) (before : List MemPlace)
    (hval : ∀ (j : Nat) t v, Try.f5.params[j]? = some t → args[j]? = some v → Value.okWide Try.prog W .any base t v)
    (hW : DataW.Whole enc Try.prog Try.f5.params.toList Rows.fnJobPartsSpec.vars false W args.toList ds gs before) :
    Calls Try.prog 5 args W fun e W' => ∃ v, e = .returned v ∧ Rows.fnJobPartsSpec.post enc Try.prog Try.f5 false true false false W args v W' := by
  have hW' := hW
  obtain ⟨p, q, hA0, hV, rfl, hfz, hnd⟩ := hW
  have hA : DataW.TrodAll enc Try.prog W 0 (fun _ => true) true Try.f5.params.toList args.toList ds p := hA0
  rw [Try.params5] at hA hval
  obtain ⟨v0, vs0, d0, ds0, p0, q0, hargs, rfl, rfl, h0, r0⟩ := trodAll_cons hA
  obtain ⟨rfl, rfl, rfl⟩ := trodAll_nil r0
  obtain rfl : args = #[v0] := by cases args; simp_all
  obtain ⟨rfl, rfl⟩ := trodVars_none hV
  obtain ⟨n, hv⟩ := bytes_open Try.underlying22 Try.underlying5 (by kernel_rfl) (hval 0 22 v0 rfl rfl) h0
  clear hA0
  refine (w_FnJobParts v0 n W hv).mono fun e W' ⟨he, hg⟩ => ?_
  subst he
  exact ⟨_, rfl, law_post (tb := 4) laidOut (by kernel_rfl) rfl rfl Try.underlying4 hW' rfl rfl rfl hg⟩
set_option maxRecDepth 100000 in
theorem lifted (os : Os) (started : os.Started) (H : Type) (enc : TypeId × Value → H) :
    ReturnsInHanded {} Try.checked os 5 .any (Rows.fnJobPartsSpec.pre6 enc Try.prog Try.f5 Rows.fnJobPartsRow.domain false) (Rows.fnJobPartsSpec.post enc Try.prog Try.f5 false true false false) := by
  refine returnsInHanded_of_change (C := Try.checked) own started (by kernel_rfl) Try.func5
    (ChangeSpec.witness6 (enc := enc) (C := Try.checked) false ⟨#[], #[.slice none 0 0], []⟩ 8 (by kernel_rfl) (by kernel_rfl) (by kernel_rfl) (by kernel_rfl)) ?_
  intro W base args ds gs before hval hW _ _
  exact contract H enc W base args ds gs before hval hW
/-- The statement. -/
theorem proved : Rows.FnJobPartsSaid :=
  OpenClaim.holds_of_wide 5 Try.f5 rfl rfl rfl rfl rfl rfl rfl ⟨rfl, rfl, rfl, rfl, rfl⟩ rfl rfl rfl rfl rfl (by kernel_rfl) Try.func5 (by kernel_rfl)
    (of_decide_eq_true (by kernel_rfl)) (by unfold Func.isWrapper; first | (rw [if_pos (by decide +kernel)]; kernel_rfl) | (rw [if_neg (by decide +kernel)]; exact ⟨rfl, rfl⟩))
    (fun os started H enc _ => lifted os started H enc)
end fnJobParts

end Go.Proofs.Ytkkebpcclklmcaa
