/- 'laws.FnWriters' returns true, whatever the bytes: no condition. -/
import Derived.Test.YtkkebpcclklmcaaGWR2
import Derived.Test.YtkkebpcclklmcaaGWR3
import Derived.Test.YtkkebpcclklmcaaGB45
import Derived.Test.YtkkebpcclklmcaaGB28
import Derived.Test.YtkkebpcclklmcaaGWR4
import Derived.Test.YtkkebpcclklmcaaGWR5
import Derived.Test.YtkkebpcclklmcaaGWR6
import Derived.Test.YtkkebpcclklmcaaGB22
set_option linter.unusedVariables false
set_option linter.unusedSimpArgs false
namespace Go.Proofs.Ytkkebpcclklmcaa
open Go.Deep Go.ChangeShapes Go.WideShapes Go.ChangeAt Go.RowKit
theorem i_InterS (x : KV) (K : Ker) (kp mv : Int) (v : Value) (cs : List Int) (u : Value) (xs : List Wr) (vr : Value) (order : List Int) (t : IS) (ht : interl kp mv cs order ⟨⟨K, 0, 0⟩, xs⟩ = t) (hs : szK K ≤ 1048576) (hc : cs.length ≤ 1048576) (hx : xs.length ≤ 1048576) (had : AdOk xs) (w : World) (ha : KAt w x K) (hv : IntsAt w v cs) (hu : WrAt w u xs) (hr : IntsAt w vr order) : Calls Try.prog 29 #[x.val K.calls, .agg #[.int .i64 kp, .int .i64 mv, v, .int .i64 0, .int .i64 0], u, vr] w (NewKJW w t kp mv cs) := by
  have := i_Interleave x K kp mv v cs 0 0 u xs vr order hs hc hx had w ha hv hu hr
  rwa [ht] at this
theorem i_FinS (x : KV) (t : IS) (kp mv : Int) (v : Value) (cs : List Int) (u : Value) (t2 : IS) (ht : finishI kp mv cs t = t2) (hs : szK t.s.k ≤ 1048576) (hc : cs.length ≤ 1048576) (hx : t.ws.length ≤ 1048576) (had : AdOk t.ws) (w : World) (ha : KAt w x t.s.k) (hv : IntsAt w v cs) (hu : WrAt w u t.ws) : Calls Try.prog 30 #[x.val t.s.k.calls, .agg #[.int .i64 kp, .int .i64 mv, v, .int .i64 t.s.ph, .int .i64 t.s.nx], u] w (NewKJW w t2 kp mv cs) := by
  have := i_Finish x t.s.k kp mv v cs t.s.ph t.s.nx u t.ws hs hc hx had w ha hv hu
  rw [show (⟨⟨t.s.k, t.s.ph, t.s.nx⟩, t.ws⟩ : IS) = t from rfl, ht] at this
  exact this

theorem wait_one : waitTo [(⟨0, 0, false, 1⟩ : Wr)] [(⟨0, 0, false, 1⟩ : Wr)].length = 1 := rfl
set_option maxRecDepth 20000 in
set_option maxHeartbeats 6400000 in
theorem w_FnWriters (v : Value) (n : Nat) (w : World) (hv : BytesAt w.heap.size w v n) : Calls Try.prog 6 #[v] w fun e w' => e = .returned (.bool true) ∧ Below w.heap.size w w' := by
  have HV := Lib.hid hv; clear hv
  by_cases hbig : (1048576 : Int) < n
  · (have hall := all_nil w; go_enter Try.func6, Try.ntmps6)
    go_wp2_with (go_at_call 8; refine (l_big _ n _ HV.out).mono ?_; rintro e w1 ⟨rfl, rfl⟩)
    all_goals (go_ret; refine ⟨by simp_all [], ?_⟩; exact bel)
  · (have hall := all_nil w; go_enter Try.func6, Try.ntmps6)
    go_wp2_with (go_at_call 8; refine (l_big _ n _ HV.out).mono ?_; rintro e w1 ⟨rfl, rfl⟩)
    refine (s_DrawWriters _ n _ HV.out).mono ?_; rintro e w2 ⟨y, K, kp, mv, v, cs, u, W0, r, order, rfl, hd, hcl, hk4, hm4, hw0, hw3, hko, hvo, hua, hra, hb⟩
    obtain ⟨yco, ycc, yuo, yuc, yvs, yeo, yec, yro, yrc, rfl⟩ := KOwn.shapes hko
    obtain ⟨vo, vc, rfl, -, -, -⟩ := Own.shape hvo
    obtain ⟨uo, uc, rfl, -, -⟩ := SlAt.shape hua
    obtain ⟨ro, rc, rfl, -, -⟩ := SlAt.shape hra
    have hml : (W0.map (wrOf kp mv cs)).length = W0.length := List.length_map ..
    rw [hml] at hua ⊢
    have HML : Hid ((W0.map (wrOf kp mv cs)).length ≤ 1048576) := Lib.hid (by rw [hml]; exact Nat.le_trans hw3 (by decide))
    have HAD := Lib.hid (w0_ad (cs := cs) hw0 hk4 hm4)
    have HD := Lib.hid hd; have OK := Lib.hid hko; have OV := Lib.hid hvo; have OU := Lib.hid hua; have OR := Lib.hid hra; have HW := Lib.hid hb; have HW0 := Lib.hid hw0; have HL3 := Lib.hid hw3
    have HSZ : Hid (szK K ≤ 1048576) := Lib.hid (by have h1 := mok_szK hd.ok; have h2 := hd.rl; omega)
    have H16 : Hid (cs.length ≤ 1048576) := Lib.hid (Nat.le_trans hd.c16 (by decide))
    obtain ⟨t1, ht1⟩ : ∃ t, interl kp mv cs order ⟨⟨K, 0, 0⟩, W0.map (wrOf kp mv cs)⟩ = t := ⟨_, rfl⟩
    have HT1 := Lib.hid ht1
    have HTL : Hid (t1.ws.length = W0.length) := Lib.hid (by rw [← ht1, interl_len]; exact hml)
    have HTS : Hid (szK t1.s.k ≤ 1048576) := Lib.hid (by rw [← ht1, interl_sz]; exact HSZ.out)
    have HTA : Hid (AdOk t1.ws) := Lib.hid (by rw [← ht1]; exact interl_ad _ _ _ _ HAD.out)
    clear hd hko hvo hua hra hb hcl hml hw0 ht1
    simp only [KV.val]
    go_wp2_with fail
    refine (s_PageEntry _ K.m.ents (kp : Int) _ (SlAt.below OK.out.at.m.ents (by exact bel))).mono ?_; rintro e w6 ⟨rfl, hb⟩
    have HB3 := Lib.hid (bx5 hb (w2.heap.size) (.slice yco yvs.length ycc) (.slice yuo K.m.f.used.length yuc) (.slice yeo K.m.ents.length yec) (.int .i64 K.calls) (.slice yro K.refuse.length yrc))
    have HB4 := Lib.hid (bx3 hb (w2.heap.size + 1) (.int .i64 (kp : Int)) (.int .i64 (mv : Int)) (.slice vo cs.length vc))
    have up := lstep (w := w2) hb
    replace OK := Lib.hid (OK.out.below up); replace OV := Lib.hid (Own.below OV.out up); replace HW := Lib.hid (HW.out.trans (up.mono HW.out.size)); replace OU := Lib.hid (SlAt.below OU.out up); replace OR := Lib.hid (SlAt.below OR.out up)
    clear up hb
    generalize w2.heap.size = g3 at *
    rcases Int.decEq (pageEntry K.m.ents (kp : Int)).m 0 with h1 | h1
    rotate_left
    · rw [h1]
      generalize (pageEntry K.m.ents (kp : Int)).f = f1 at *
      clear h1
      go_wp2_with fail
      refine (i_WaitingWriters _ [⟨0, 0, false, 1⟩] _ (Own.at (World.ownsRow_lit w6 #[.int .i64 0, .int .i64 0, .bool false, .int .i64 1] 1 (Nat.le_refl _) (by decide) (by simp [fWr]) : OwnWr w6.heap.size (w6.alloc (.cells #[.int .i64 0, .int .i64 0, .bool false, .int .i64 1] 65)) (.slice (some ⟨w6.heap.size, 0, none⟩) 1 1) [⟨0, 0, false, 1⟩]) lenWr)).mono ?_; rintro e wz ⟨rfl, hb⟩
      rw [wait_one]
      have up := lstep (w := w6) hb
      have hB := HW.out.trans (up.mono HW.out.size)
      go_wp2_with fail
      go_ret
      exact ⟨by first | rfl | simp_all, by exact bel⟩
    · have h1b : ((pageEntry K.m.ents (kp : Int)).m == 0) = false := beq_false_of_ne h1
      have H1 := Lib.hid h1
      clear h1
      have k3_0 := (HB3.out.cells 0 _ rfl).1; have k3_1 := (HB3.out.cells 1 _ rfl).1; have k3_2 := (HB3.out.cells 2 _ rfl).1; have k3_3 := (HB3.out.cells 3 _ rfl).1; have k3_4 := (HB3.out.cells 4 _ rfl).1; have x3 := HB3.out.lt
      have k4_0 := (HB4.out.cells 0 _ rfl).1; have k4_1 := (HB4.out.cells 1 _ rfl).1; have k4_2 := (HB4.out.cells 2 _ rfl).1; have x4 := HB4.out.lt
      go_wp2_with fail
      refine (s_PageEntry _ K.m.ents (mv : Int) _ (SlAt.below OK.out.at.m.ents (by exact bel))).mono ?_; rintro e w7 ⟨rfl, hb⟩
      have up := lstep (w := w6) hb
      replace HB3 := Lib.hid (HB3.out.below up); replace HB4 := Lib.hid (HB4.out.below up); replace OK := Lib.hid (OK.out.below up); replace OV := Lib.hid (Own.below OV.out up); replace HW := Lib.hid (HW.out.trans (up.mono HW.out.size)); replace OU := Lib.hid (SlAt.below OU.out up); replace OR := Lib.hid (SlAt.below OR.out up)
      clear up hb k3_0 k3_1 k3_2 k3_3 k3_4 x3 k4_0 k4_1 k4_2 x4 h1b
      rcases Int.decEq (pageEntry K.m.ents (mv : Int)).m 0 with h2 | h2
      rotate_left
      · rw [h2]
        clear h2
        go_wp2_with fail
        refine (i_WaitingWriters _ [⟨0, 0, false, 1⟩] _ (Own.at (World.ownsRow_lit w7 #[.int .i64 0, .int .i64 0, .bool false, .int .i64 1] 1 (Nat.le_refl _) (by decide) (by simp [fWr]) : OwnWr w7.heap.size (w7.alloc (.cells #[.int .i64 0, .int .i64 0, .bool false, .int .i64 1] 65)) (.slice (some ⟨w7.heap.size, 0, none⟩) 1 1) [⟨0, 0, false, 1⟩]) lenWr)).mono ?_; rintro e wz ⟨rfl, hb⟩
        rw [wait_one]
        have up := lstep (w := w7) hb
        have hB := HW.out.trans (up.mono HW.out.size)
        go_wp2_with fail
        go_ret
        exact ⟨by first | rfl | simp_all, by exact bel⟩
      · have h2b : ((pageEntry K.m.ents (mv : Int)).m == 0) = false := beq_false_of_ne h2
        have E := wend_pack HD.out H1.out h2 HW0.out HL3.out order
        rw [HT1.out] at E
        obtain ⟨t2, ht2⟩ : ∃ t, finishI kp mv cs t1 = t := ⟨_, rfl⟩
        rw [ht2] at E
        have HA2 : Hid (AdOk t2.ws) := Lib.hid (by rw [← ht2]; exact fin_ad _ _ _ HTA.out)
        have HE := Lib.hid E; have HT2 := Lib.hid ht2
        clear h2 H1 E ht2
        have k4_0 := (HB4.out.cells 0 _ rfl).1; have k4_1 := (HB4.out.cells 1 _ rfl).1; have k4_2 := (HB4.out.cells 2 _ rfl).1; have x4 := HB4.out.lt
        go_wp2_with fail
        refine (s_JobNewOk (kp : Int) (mv : Int) _ cs HD.out.plan H16.out _ (SlAt.below (OV.out.at lenInt) (by exact bel))).mono ?_; rintro e w8 ⟨jv, rfl, hjo, hb⟩
        obtain ⟨jo, jc, rfl, -, -, -⟩ := Own.shape hjo
        have up := lstep (w := w7) hb
        replace HB3 := Lib.hid (HB3.out.below up); replace HB4 := Lib.hid (HB4.out.below up); replace OK := Lib.hid (OK.out.below up); replace OV := Lib.hid (Own.below OV.out up); replace HW := Lib.hid (HW.out.trans (up.mono HW.out.size)); replace OU := Lib.hid (SlAt.below OU.out up); replace OR := Lib.hid (SlAt.below OR.out up)
        have OJ := Lib.hid hjo
        clear up hb hjo k4_0 k4_1 k4_2 x4 h2b
        have k3_0 := (HB3.out.cells 0 _ rfl).1; have k3_1 := (HB3.out.cells 1 _ rfl).1; have k3_2 := (HB3.out.cells 2 _ rfl).1; have k3_3 := (HB3.out.cells 3 _ rfl).1; have k3_4 := (HB3.out.cells 4 _ rfl).1; have x3 := HB3.out.lt
        go_wp2_with fail
        refine (i_InterS (⟨⟨⟨.slice yco yvs.length ycc, .slice yuo K.m.f.used.length yuc, yvs⟩, .slice yeo K.m.ents.length yec⟩, .slice yro K.refuse.length yrc⟩ : KV) K (kp : Int) (mv : Int) _ cs _ (W0.map (wrOf kp mv cs)) _ order t1 HT1.out HSZ.out H16.out HML.out HAD.out _ (KAt.below OK.out.at (by exact bel)) (SlAt.below (OJ.out.at lenInt) (by exact bel)) (SlAt.below OU.out (by exact bel)) (SlAt.below OR.out (by exact bel))).mono ?_; rintro e w9 ⟨z, zv, zu, rfl, hzo, hzv, hzu, -, -, -, hb⟩
        obtain ⟨zco, zcc, zuo, zuc, zvs, zeo, zec, zro, zrc, rfl⟩ := KOwn.shapes hzo
        obtain ⟨zo, zc, rfl, -, -, -⟩ := Own.shape hzv
        obtain ⟨zuo_, zuc_, rfl, -, -, -⟩ := Own.shape hzu
        have up := lstep (w := w8) hb
        replace HW := Lib.hid (HW.out.trans (up.mono HW.out.size))
        have OZ := Lib.hid hzo; have OZV := Lib.hid hzv; have OZU := Lib.hid hzu
        clear up hb hzo hzv hzu k3_0 k3_1 k3_2 k3_3 k3_4 x3 HB3 HB4 OK OV OU OR OJ
        simp only [KV.val]
        go_wp2_with fail
        refine (i_FinS (⟨⟨⟨.slice zco zvs.length zcc, .slice zuo t1.s.k.m.f.used.length zuc, zvs⟩, .slice zeo t1.s.k.m.ents.length zec⟩, .slice zro t1.s.k.refuse.length zrc⟩ : KV) t1 (kp : Int) (mv : Int) _ cs _ t2 HT2.out HTS.out H16.out (by have h1 := HTL.out; have h2 := HL3.out; omega) HTA.out _ (KAt.below OZ.out.at (by exact bel)) (SlAt.below (OZV.out.at lenInt) (by exact bel)) (SlAt.below (OZU.out.at lenWr) (by exact bel))).mono ?_; rintro e w10 ⟨x, xv, xu, rfl, hxo, hxv, hxu, -, -, -, hb⟩
        obtain ⟨xco, xcc, xuo, xuc, xvs, xeo, xec, xro, xrc, rfl⟩ := KOwn.shapes hxo
        obtain ⟨xo, xc_, rfl, -, -, -⟩ := Own.shape hxv
        obtain ⟨xuo_, xuc_, rfl, -, -, -⟩ := Own.shape hxu
        have HBA := Lib.hid (bx5 hb (w9.heap.size) (.slice zco zvs.length zcc) (.slice zuo t1.s.k.m.f.used.length zuc) (.slice zeo t1.s.k.m.ents.length zec) (.int .i64 t1.s.k.calls) (.slice zro t1.s.k.refuse.length zrc))
        have HBB := Lib.hid (bx5 hb (w9.heap.size + 1) (.int .i64 (kp : Int)) (.int .i64 (mv : Int)) (.slice zo cs.length zc) (.int .i64 t1.s.ph) (.int .i64 t1.s.nx))
        have hw9 := HW.out.size
        have up := lstep (w := w9) hb
        replace HW := Lib.hid (HW.out.trans (up.mono HW.out.size))
        have LX : Hid (∀ b ∈ blocks ((⟨⟨⟨.slice xco xvs.length xcc, .slice xuo t2.s.k.m.f.used.length xuc, xvs⟩, .slice xeo t2.s.k.m.ents.length xec⟩, .slice xro t2.s.k.refuse.length xrc⟩ : KV)).all, w9.heap.size + 2 ≤ b) := Lib.hid (fun b hb => by have h := (hxo.lts b hb).1; simp only [World.size_alloc] at h; omega)
        have LXU : Hid (∀ b ∈ blocks [(.slice xuo_ t2.ws.length xuc_ : Value)], w9.heap.size + 2 ≤ b) := Lib.hid (fun b hb => by have h := (Own.lts hxu b hb).1; simp only [World.size_alloc] at h; omega)
        have OX := Lib.hid hxo; have OXU := Lib.hid hxu
        clear up hb hxo hxv hxu OZ OZV OZU
        simp only [KV.val]
        have kA_0 := (HBA.out.cells 0 _ rfl).1; have fA_0 := (HBA.out.cells 0 _ rfl).2; have kA_1 := (HBA.out.cells 1 _ rfl).1; have fA_1 := (HBA.out.cells 1 _ rfl).2; have kA_2 := (HBA.out.cells 2 _ rfl).1; have fA_2 := (HBA.out.cells 2 _ rfl).2; have kA_3 := (HBA.out.cells 3 _ rfl).1; have fA_3 := (HBA.out.cells 3 _ rfl).2; have kA_4 := (HBA.out.cells 4 _ rfl).1; have fA_4 := (HBA.out.cells 4 _ rfl).2; have xA := HBA.out.lt
        have kB_0 := (HBB.out.cells 0 _ rfl).1; have fB_0 := (HBB.out.cells 0 _ rfl).2; have kB_1 := (HBB.out.cells 1 _ rfl).1; have fB_1 := (HBB.out.cells 1 _ rfl).2; have kB_2 := (HBB.out.cells 2 _ rfl).1; have fB_2 := (HBB.out.cells 2 _ rfl).2; have kB_3 := (HBB.out.cells 3 _ rfl).1; have fB_3 := (HBB.out.cells 3 _ rfl).2; have kB_4 := (HBB.out.cells 4 _ rfl).1; have fB_4 := (HBB.out.cells 4 _ rfl).2; have xB := HBB.out.lt
        generalize w9.heap.size = gA at *
        go_upto_region 9 with fail
        have tS : Touch [gA, gA + 1] w10 ((((((((((w10.setCell ⟨gA, 0, none⟩ (.slice xco xvs.length xcc)).setCell ⟨gA, 1, none⟩ (.slice xuo t2.s.k.m.f.used.length xuc)).setCell ⟨gA, 2, none⟩ (.slice xeo t2.s.k.m.ents.length xec)).setCell ⟨gA, 3, none⟩ (.int .i64 t2.s.k.calls)).setCell ⟨gA, 4, none⟩ (.slice xro t2.s.k.refuse.length xrc)).setCell ⟨gA + 1, 0, none⟩ (.int .i64 (kp : Int))).setCell ⟨gA + 1, 1, none⟩ (.int .i64 (mv : Int))).setCell ⟨gA + 1, 2, none⟩ (.slice xo cs.length xc_)).setCell ⟨gA + 1, 3, none⟩ (.int .i64 t2.s.ph)).setCell ⟨gA + 1, 4, none⟩ (.int .i64 t2.s.nx)) := (touch_setC (touch_setC (touch_setC (touch_setC (touch_setC (touch_setC (touch_setC (touch_setC (touch_setC (touch_setC (Touch.refl _ _) (by simp)) (by simp)) (by simp)) (by simp)) (by simp)) (by simp)) (by simp)) (by simp)) (by simp)) (by simp))
        have nX : ∀ g, gA + 2 ≤ g → g ∉ [gA, gA + 1] := fun g hg hm => by simp only [List.mem_cons, List.not_mem_nil, or_false] at hm; omega
        have UX := Lib.hid (OX.out.touch tS (fun b hb => nX b (LX.out b hb))); have UXU := Lib.hid (Own.touchs OXU.out tS (fun b hb => nX b (LXU.out b hb)))
        have UW := Lib.hid (HW.out.trans (tS.toBelow (B := w.heap.size) (fun b hb => by simp only [List.mem_cons, List.not_mem_nil, or_false] at hb; omega) HW.out.size))
        have UA : BoxAt ((((((((((w10.setCell ⟨gA, 0, none⟩ (.slice xco xvs.length xcc)).setCell ⟨gA, 1, none⟩ (.slice xuo t2.s.k.m.f.used.length xuc)).setCell ⟨gA, 2, none⟩ (.slice xeo t2.s.k.m.ents.length xec)).setCell ⟨gA, 3, none⟩ (.int .i64 t2.s.k.calls)).setCell ⟨gA, 4, none⟩ (.slice xro t2.s.k.refuse.length xrc)).setCell ⟨gA + 1, 0, none⟩ (.int .i64 (kp : Int))).setCell ⟨gA + 1, 1, none⟩ (.int .i64 (mv : Int))).setCell ⟨gA + 1, 2, none⟩ (.slice xo cs.length xc_)).setCell ⟨gA + 1, 3, none⟩ (.int .i64 t2.s.ph)).setCell ⟨gA + 1, 4, none⟩ (.int .i64 t2.s.nx)) gA [.slice xco xvs.length xcc, .slice xuo t2.s.k.m.f.used.length xuc, .slice xeo t2.s.k.m.ents.length xec, .int .i64 t2.s.k.calls, .slice xro t2.s.k.refuse.length xrc] := (BoxAt.snoc (BoxAt.snoc (BoxAt.snoc (BoxAt.snoc (BoxAt.snoc (BoxAt.nil (w := ((((((((((w10.setCell ⟨gA, 0, none⟩ (.slice xco xvs.length xcc)).setCell ⟨gA, 1, none⟩ (.slice xuo t2.s.k.m.f.used.length xuc)).setCell ⟨gA, 2, none⟩ (.slice xeo t2.s.k.m.ents.length xec)).setCell ⟨gA, 3, none⟩ (.int .i64 t2.s.k.calls)).setCell ⟨gA, 4, none⟩ (.slice xro t2.s.k.refuse.length xrc)).setCell ⟨gA + 1, 0, none⟩ (.int .i64 (kp : Int))).setCell ⟨gA + 1, 1, none⟩ (.int .i64 (mv : Int))).setCell ⟨gA + 1, 2, none⟩ (.slice xo cs.length xc_)).setCell ⟨gA + 1, 3, none⟩ (.int .i64 t2.s.ph)).setCell ⟨gA + 1, 4, none⟩ (.int .i64 t2.s.nx))) (g := gA) (by simp only [World.size_setCell]; exact xA)) (v := .slice xco xvs.length xcc) (i := 0) rfl (by go_simp) (by go_simp)) (v := .slice xuo t2.s.k.m.f.used.length xuc) (i := 1) rfl (by go_simp) (by go_simp)) (v := .slice xeo t2.s.k.m.ents.length xec) (i := 2) rfl (by go_simp) (by go_simp)) (v := .int .i64 t2.s.k.calls) (i := 3) rfl (by go_simp) (by go_simp)) (v := .slice xro t2.s.k.refuse.length xrc) (i := 4) rfl (by go_simp) (by go_simp))
        have UB : BoxAt ((((((((((w10.setCell ⟨gA, 0, none⟩ (.slice xco xvs.length xcc)).setCell ⟨gA, 1, none⟩ (.slice xuo t2.s.k.m.f.used.length xuc)).setCell ⟨gA, 2, none⟩ (.slice xeo t2.s.k.m.ents.length xec)).setCell ⟨gA, 3, none⟩ (.int .i64 t2.s.k.calls)).setCell ⟨gA, 4, none⟩ (.slice xro t2.s.k.refuse.length xrc)).setCell ⟨gA + 1, 0, none⟩ (.int .i64 (kp : Int))).setCell ⟨gA + 1, 1, none⟩ (.int .i64 (mv : Int))).setCell ⟨gA + 1, 2, none⟩ (.slice xo cs.length xc_)).setCell ⟨gA + 1, 3, none⟩ (.int .i64 t2.s.ph)).setCell ⟨gA + 1, 4, none⟩ (.int .i64 t2.s.nx)) (gA + 1) [.int .i64 (kp : Int), .int .i64 (mv : Int), .slice xo cs.length xc_, .int .i64 t2.s.ph, .int .i64 t2.s.nx] := (BoxAt.snoc (BoxAt.snoc (BoxAt.snoc (BoxAt.snoc (BoxAt.snoc (BoxAt.nil (w := ((((((((((w10.setCell ⟨gA, 0, none⟩ (.slice xco xvs.length xcc)).setCell ⟨gA, 1, none⟩ (.slice xuo t2.s.k.m.f.used.length xuc)).setCell ⟨gA, 2, none⟩ (.slice xeo t2.s.k.m.ents.length xec)).setCell ⟨gA, 3, none⟩ (.int .i64 t2.s.k.calls)).setCell ⟨gA, 4, none⟩ (.slice xro t2.s.k.refuse.length xrc)).setCell ⟨gA + 1, 0, none⟩ (.int .i64 (kp : Int))).setCell ⟨gA + 1, 1, none⟩ (.int .i64 (mv : Int))).setCell ⟨gA + 1, 2, none⟩ (.slice xo cs.length xc_)).setCell ⟨gA + 1, 3, none⟩ (.int .i64 t2.s.ph)).setCell ⟨gA + 1, 4, none⟩ (.int .i64 t2.s.nx))) (g := gA + 1) (by simp only [World.size_setCell]; exact xB)) (v := .int .i64 (kp : Int)) (i := 0) rfl (by go_simp) (by go_simp)) (v := .int .i64 (mv : Int)) (i := 1) rfl (by go_simp) (by go_simp)) (v := .slice xo cs.length xc_) (i := 2) rfl (by go_simp) (by go_simp)) (v := .int .i64 t2.s.ph) (i := 3) rfl (by go_simp) (by go_simp)) (v := .int .i64 t2.s.nx) (i := 4) rfl (by go_simp) (by go_simp))
        replace UA := Lib.hid UA; replace UB := Lib.hid UB
        obtain ⟨wt, hwt⟩ : ∃ q, q = ((((((((((w10.setCell ⟨gA, 0, none⟩ (.slice xco xvs.length xcc)).setCell ⟨gA, 1, none⟩ (.slice xuo t2.s.k.m.f.used.length xuc)).setCell ⟨gA, 2, none⟩ (.slice xeo t2.s.k.m.ents.length xec)).setCell ⟨gA, 3, none⟩ (.int .i64 t2.s.k.calls)).setCell ⟨gA, 4, none⟩ (.slice xro t2.s.k.refuse.length xrc)).setCell ⟨gA + 1, 0, none⟩ (.int .i64 (kp : Int))).setCell ⟨gA + 1, 1, none⟩ (.int .i64 (mv : Int))).setCell ⟨gA + 1, 2, none⟩ (.slice xo cs.length xc_)).setCell ⟨gA + 1, 3, none⟩ (.int .i64 t2.s.ph)).setCell ⟨gA + 1, 4, none⟩ (.int .i64 t2.s.nx)) := ⟨_, rfl⟩
        rw [← hwt] at UX UXU UW UA UB ⊢
        clear hwt tS nX OX OXU HW HBA HBB LX LXU kA_0 fA_0 kA_1 fA_1 kA_2 fA_2 kA_3 fA_3 kA_4 fA_4 xA kB_0 fB_0 kB_1 fB_1 kB_2 fB_2 kB_3 fB_3 kB_4 fB_4 xB
        have HBA := UA; have HBB := UB; have OX := UX; have OXU := UXU; have HW := UW
        clear UA UB UX UXU UW
        go_wp2_with fail
        go_loopw [12] (fun i wr => ∃ j : Nat, j ≤ t2.ws.length ∧ i = .int .i64 (j : Nat) ∧ Below wt.heap.size wt wr) (fun i _ => t2.ws.length - (intOf i).toNat)
        case atStart => exact ⟨0, Nat.zero_le _, rfl, Below.refl _ _⟩
        case round =>
          obtain ⟨j, hj, rfl, hbel⟩ := hrel
          obtain ⟨w1, rfl⟩ : ∃ q, q = wr := ⟨_, rfl⟩
          have HX := Lib.hid hbel
          clear hbel
          have hl9 : t2.ws.length ≤ 99999 := by have h1 := HE.out.len; have h2 := HL3.out; omega
          have HBA1 := Lib.hid (HBA.out.below HX.out)
          by_cases hlt : j < t2.ws.length
          · have hlt' : (j : Int) < (t2.ws.length : Nat) := by omega
            have hj9 : j ≤ 99999 := by omega
            obtain ⟨⟨xa, xv, xd, xw⟩, hx, hdn, hlv, hlf⟩ := HE.out.each j hlt
            have hxa := HA2.out j _ hx
            dsimp only at hdn hlv hlf hxa
            subst hdn
            obtain ⟨ao, cap, he, -, -, hra⟩ := WrAt.open (OXU.out.at lenWr)
            simp only [Value.slice.injEq] at he
            obtain ⟨rfl, -, rfl⟩ := he
            obtain ⟨ga, oa, rfl, hga, c0, c1, c2, -⟩ := hra j _ hx
            dsimp only at c0 c1 c2
            replace c0 := (HX.out.cell (p := ⟨ga, oa + j * 4, none⟩) hga).trans c0
            replace c1 := (HX.out.cell (p := ⟨ga, oa + j * 4 + 1, none⟩) hga).trans c1
            replace c2 := (HX.out.cell (p := ⟨ga, oa + j * 4 + 2, none⟩) hga).trans c2
            have xga1 : ga < w1.heap.size := Nat.lt_of_lt_of_le hga HX.out.size
            have HLD := Lib.hid (fun W (h : MAt W ((⟨⟨⟨.slice xco xvs.length xcc, .slice xuo t2.s.k.m.f.used.length xuc, xvs⟩, .slice xeo t2.s.k.m.ents.length xec⟩, .slice xro t2.s.k.refuse.length xrc⟩ : KV)).m t2.s.k.m) => by have h := s_Load _ t2.s.k.m xa hxa.2 W h; rwa [hlv, hlf] at h : ∀ W (h : MAt W ((⟨⟨⟨.slice xco xvs.length xcc, .slice xuo t2.s.k.m.f.used.length xuc, xvs⟩, .slice xeo t2.s.k.m.ents.length xec⟩, .slice xro t2.s.k.refuse.length xrc⟩ : KV)).m t2.s.k.m), Calls Try.prog 13 #[((⟨⟨⟨.slice xco xvs.length xcc, .slice xuo t2.s.k.m.f.used.length xuc, xvs⟩, .slice xeo t2.s.k.m.ents.length xec⟩, .slice xro t2.s.k.refuse.length xrc⟩ : KV)).m.val, .int .i64 xa] W fun e w' => e = .returned (.tuple #[.int .i64 xv, .int .i64 0]) ∧ Below W.heap.size W w')
            have hvv : (xv != xv) = false := by simp
            have HM1 := Lib.hid (MAt.below OX.out.at.m HX.out)
            have kA_0 := (HBA1.out.cells 0 _ rfl).1; have kA_1 := (HBA1.out.cells 1 _ rfl).1; have kA_2 := (HBA1.out.cells 2 _ rfl).1; have xA1 := HBA1.out.lt
            clear hx hlv hlf hra hxa
            go_upto_region 12 with fail
            with_reducible refine wp_region_grew2 (by kernel_rfl) (by kernel_rfl) ?_
            intro w5 hb5
            replace kA_0 := (hb5.cell (p := ⟨gA, 0, none⟩) xA1).trans kA_0; replace kA_1 := (hb5.cell (p := ⟨gA, 1, none⟩) xA1).trans kA_1; replace kA_2 := (hb5.cell (p := ⟨gA, 2, none⟩) xA1).trans kA_2
            replace c0 := (hb5.cell (p := ⟨ga, oa + j * 4, none⟩) xga1).trans c0
            replace c1 := (hb5.cell (p := ⟨ga, oa + j * 4 + 1, none⟩) xga1).trans c1
            replace c2 := (hb5.cell (p := ⟨ga, oa + j * 4 + 2, none⟩) xga1).trans c2
            have xga5 : ga < w5.heap.size := Nat.lt_of_lt_of_le xga1 hb5.size
            have xA5 : gA < w5.heap.size := Nat.lt_of_lt_of_le xA1 hb5.size
            have HM5 := Lib.hid (MAt.below HM1.out hb5)
            have HX5 := Lib.hid (HX.out.trans (hb5.mono HX.out.size))
            clear xA1 xga1 hb5
            repeat (go_big_quiet_step ((go_at_call 13; exact calls_grew (HLD.out _ (MAt.below HM5.out (Grew.below _))))))
            refine wpQuiet_nil ?_
            intro w6 hw'
            have hb6 := grew_below hw'
            clear hw'
            have c1b := (hb6.cell (p := ⟨ga, oa + j * 4 + 1, none⟩) xga5).trans c1
            have c2b := (hb6.cell (p := ⟨ga, oa + j * 4 + 2, none⟩) xga5).trans c2
            have xga6 : ga < w6.heap.size := Nat.lt_of_lt_of_le xga5 hb6.size
            have HX6 := Lib.hid (HX5.out.trans (hb6.mono HX5.out.size))
            clear hb6 c0 c1 c2 kA_0 kA_1 kA_2 xga5 xA5
            go_wp2_with fail
            go_roundw
            case rel => exact ⟨j + 1, hlt, (by first | exact nat_next hj9 | go_num), HX6.out⟩
            case measure => first | exact nat_meas hl9 hlt | (simp [intOf]; omega)
          · obtain rfl : j = t2.ws.length := by omega
            have hlt' : ¬ (t2.ws.length : Int) < (t2.ws.length : Nat) := by omega
            have hll : (((t2.ws.length : Nat) : Int) == ((W0.length : Nat) : Int)) = true := by rw [HE.out.len]; exact beq_self_eq_true _
            have HBB1 := Lib.hid (HBB.out.below HX.out)
            replace HW := Lib.hid (HW.out.trans (HX.out.mono HW.out.size))
            obtain ⟨ph, hph⟩ : ∃ q, q = t2.s.ph := ⟨_, rfl⟩
            have hpp := HE.out.ph
            rw [← hph] at hpp HBB1
            have kA_0 := (HBA1.out.cells 0 _ rfl).1; have kA_1 := (HBA1.out.cells 1 _ rfl).1; have kA_2 := (HBA1.out.cells 2 _ rfl).1; have kA_3 := (HBA1.out.cells 3 _ rfl).1; have kA_4 := (HBA1.out.cells 4 _ rfl).1; have xA1 := HBA1.out.lt
            have kB_3 := (HBB1.out.cells 3 _ rfl).1; have xB1 := HBB1.out.lt
            clear hph
            rcases hpp with rfl | rfl
            · skip
              go_wp2_with fail
              refine (i_KernelOk (⟨⟨⟨.slice xco xvs.length xcc, .slice xuo t2.s.k.m.f.used.length xuc, xvs⟩, .slice xeo t2.s.k.m.ents.length xec⟩, .slice xro t2.s.k.refuse.length xrc⟩ : KV) t2.s.k true HE.out.kok _ (KOwn.below OX.out HX.out).at).mono ?_; rintro e wk ⟨rfl, hb⟩
              replace HW := Lib.hid (HW.out.trans (hb.mono HW.out.size))
              clear hb
              go_wp2_with fail
              refine (i_WaitingWriters _ [⟨0, 0, false, 1⟩] _ (Own.at (World.ownsRow_lit wk #[.int .i64 0, .int .i64 0, .bool false, .int .i64 1] 1 (Nat.le_refl _) (by decide) (by simp [fWr]) : OwnWr wk.heap.size (wk.alloc (.cells #[.int .i64 0, .int .i64 0, .bool false, .int .i64 1] 65)) (.slice (some ⟨wk.heap.size, 0, none⟩) 1 1) [⟨0, 0, false, 1⟩]) lenWr)).mono ?_; rintro e wz ⟨rfl, hb⟩
              rw [wait_one]
              have up := lstep (w := wk) hb
              have hB := HW.out.trans (up.mono HW.out.size)
              go_wp2_with fail
              go_ret
              exact ⟨by first | rfl | simp_all, by exact bel⟩
            · go_wp2_with fail
              refine (i_KernelOk (⟨⟨⟨.slice xco xvs.length xcc, .slice xuo t2.s.k.m.f.used.length xuc, xvs⟩, .slice xeo t2.s.k.m.ents.length xec⟩, .slice xro t2.s.k.refuse.length xrc⟩ : KV) t2.s.k true HE.out.kok _ (KOwn.below OX.out HX.out).at).mono ?_; rintro e wk ⟨rfl, hb⟩
              replace HW := Lib.hid (HW.out.trans (hb.mono HW.out.size))
              clear hb
              go_wp2_with fail
              refine (i_WaitingWriters _ [⟨0, 0, false, 1⟩] _ (Own.at (World.ownsRow_lit wk #[.int .i64 0, .int .i64 0, .bool false, .int .i64 1] 1 (Nat.le_refl _) (by decide) (by simp [fWr]) : OwnWr wk.heap.size (wk.alloc (.cells #[.int .i64 0, .int .i64 0, .bool false, .int .i64 1] 65)) (.slice (some ⟨wk.heap.size, 0, none⟩) 1 1) [⟨0, 0, false, 1⟩]) lenWr)).mono ?_; rintro e wz ⟨rfl, hb⟩
              rw [wait_one]
              have up := lstep (w := wk) hb
              have hB := HW.out.trans (up.mono HW.out.size)
              go_wp2_with fail
              go_ret
              exact ⟨by first | rfl | simp_all, by exact bel⟩

namespace fnWriters
set_option maxRecDepth 100000 in
theorem contract (H : Type) (enc : TypeId × Value → H) (W : World) (base : Nat) (args : Array Value) (ds gs : List (DataW H)) (before : List MemPlace)
    (hval : ∀ (j : Nat) t v, Try.f6.params[j]? = some t → args[j]? = some v → Value.okWide Try.prog W .any base t v)
    (hW : DataW.Whole enc Try.prog Try.f6.params.toList Rows.fnWritersSpec.vars false W args.toList ds gs before) :
    Calls Try.prog 6 args W fun e W' => ∃ v, e = .returned v ∧ Rows.fnWritersSpec.post enc Try.prog Try.f6 false true false false W args v W' := by
  have hW' := hW
  obtain ⟨p, q, hA0, hV, rfl, hfz, hnd⟩ := hW
  have hA : DataW.TrodAll enc Try.prog W 0 (fun _ => true) true Try.f6.params.toList args.toList ds p := hA0
  rw [Try.params6] at hA hval
  obtain ⟨v0, vs0, d0, ds0, p0, q0, hargs, rfl, rfl, h0, r0⟩ := trodAll_cons hA
  obtain ⟨rfl, rfl, rfl⟩ := trodAll_nil r0
  obtain rfl : args = #[v0] := by cases args; simp_all
  obtain ⟨rfl, rfl⟩ := trodVars_none hV
  obtain ⟨n, hv⟩ := bytes_open Try.underlying22 Try.underlying5 (by kernel_rfl) (hval 0 22 v0 rfl rfl) h0
  clear hA0
  refine (w_FnWriters v0 n W hv).mono fun e W' ⟨he, hg⟩ => ?_
  subst he
  exact ⟨_, rfl, law_post (tb := 4) laidOut (by kernel_rfl) rfl rfl Try.underlying4 hW' rfl rfl rfl hg⟩
set_option maxRecDepth 100000 in
theorem lifted (os : Os) (started : os.Started) (H : Type) (enc : TypeId × Value → H) :
    ReturnsInHanded {} Try.checked os 6 .any (Rows.fnWritersSpec.pre6 enc Try.prog Try.f6 Rows.fnWritersRow.domain false) (Rows.fnWritersSpec.post enc Try.prog Try.f6 false true false false) := by
  refine returnsInHanded_of_change (C := Try.checked) own started (by kernel_rfl) Try.func6
    (ChangeSpec.witness6 (enc := enc) (C := Try.checked) false ⟨#[], #[.slice none 0 0], []⟩ 8 (by kernel_rfl) (by kernel_rfl) (by kernel_rfl) (by kernel_rfl)) ?_
  intro W base args ds gs before hval hW _ _
  exact contract H enc W base args ds gs before hval hW
/-- The statement. -/
theorem proved : Rows.FnWritersSaid :=
  OpenClaim.holds_of_wide 6 Try.f6 rfl rfl rfl rfl rfl rfl rfl ⟨rfl, rfl, rfl, rfl, rfl⟩ rfl rfl rfl rfl rfl (by kernel_rfl) Try.func6 (by kernel_rfl)
    (of_decide_eq_true (by kernel_rfl)) (by unfold Func.isWrapper; first | (rw [if_pos (by decide +kernel)]; kernel_rfl) | (rw [if_neg (by decide +kernel)]; exact ⟨rfl, rfl⟩))
    (fun os started H enc _ => lifted os started H enc)
end fnWriters

end Go.Proofs.Ytkkebpcclklmcaa
