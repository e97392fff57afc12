/- 'laws.FnJobs' returns true, whatever the bytes: no condition. -/
import Derived.Test.YtkkebpcclklmcaaGJS2
import Derived.Test.YtkkebpcclklmcaaGB44
import Derived.Test.YtkkebpcclklmcaaGB45
import Derived.Test.YtkkebpcclklmcaaGB28
import Derived.Deep.RegionHeld3
set_option linter.unusedVariables false
set_option linter.unusedSimpArgs false
namespace Go.Proofs.Ytkkebpcclklmcaa
open Go.Deep Go.ChangeShapes Go.WideShapes Go.ChangeAt Go.RowKit
theorem lstep2 {w0 c W w2 : World} (h : Below w0.heap.size w0 c) (hb : Below W.heap.size W w2) (hup : Below c.heap.size c W := by exact bel) : Below w0.heap.size w0 w2 := h.trans ((hup.trans (hb.mono hup.size)).mono h.size)
theorem bel2 {w0 c W : World} (h : Below w0.heap.size w0 c) (hup : Below c.heap.size c W := by exact bel) : Below w0.heap.size w0 W := h.trans (hup.mono h.size)
theorem mat_eq {w : World} {x : MV} {M M' : Mac} (h : MAt w x M) (e : M = M') : MAt w x M' := by subst e; exact h
theorem i_JobNewOk (kp mv : Int) (v : Value) (cs : List Int) (hp : planOk kp mv cs = true) (hs : cs.length ≤ 1048576) (w : World) (ha : IntsAt w v cs) : Calls Try.prog 17 #[.agg #[.int .i64 kp, .int .i64 mv, v]] w fun e w' => ∃ v : Value, e = .returned (.tuple #[.agg #[.int .i64 kp, .int .i64 mv, v, .int .i64 0, .int .i64 0], .bool true]) ∧ OwnI w.heap.size w' v cs ∧ Below w.heap.size w w' := by
  have := i_JobNew kp mv v cs hs w ha
  unfold JNew at this
  rw [hp] at this
  exact this
theorem i_JobRunU (x : KV) (K : Ker) (kp mv : Nat) (v : Value) (cs : List Int) (h0 : (pageEntry K.m.ents kp).m = 0 ∨ (pageEntry K.m.ents mv).m = 0) (hs : szK K ≤ 1048576) (hc : cs.length ≤ 1048576) (w : World) (ha : KAt w x K) (hv : IntsAt w v cs) : Calls Try.prog 12 #[x.val K.calls, .agg #[.int .i64 (kp : Int), .int .i64 (mv : Int), v, .int .i64 0, .int .i64 0], .int .i64 200] w (NewKJ w K kp mv cs 0 0) :=
  i_JobRunS x ⟨K, 0, 0⟩ kp mv v cs 200 ⟨K, 0, 0⟩ (run_unmapped h0 200) hs hc w ha hv
set_option maxRecDepth 20000 in
set_option maxHeartbeats 6400000 in
theorem w_FnJobs (v : Value) (n : Nat) (w : World) (hv : BytesAt w.heap.size w v n) : Calls Try.prog 4 #[v] w fun e w' => e = .returned (.bool true) ∧ Below w.heap.size w w' := by
  have HV := Lib.hid hv; clear hv
  by_cases hbig : (1048576 : Int) < n
  · (have hall := all_nil w; go_enter Try.func4, Try.ntmps4)
    go_wp2_with (go_at_call 8; refine (l_big _ n _ HV.out).mono ?_; rintro e w1 ⟨rfl, rfl⟩)
    all_goals (go_ret; refine ⟨by simp_all [], ?_⟩; exact bel)
  · (have hall := all_nil w; go_enter Try.func4, Try.ntmps4)
    go_wp2_with (go_at_call 8; refine (l_big _ n _ HV.out).mono ?_; rintro e w1 ⟨rfl, rfl⟩)
    refine (s_DrawPair _ n _ HV.out).mono ?_; rintro e w2 ⟨y, K, kp, mv, v, cs, rfl, hd, hcl, hk4, hm4, hko, hvo, hap, hb⟩
    obtain ⟨yco, ycc, yuo, yuc, yvs, yeo, yec, yro, yrc, rfl⟩ := KOwn.shapes hko
    obtain ⟨vo, vc, rfl, -, -, -⟩ := Own.shape hvo
    have HD := Lib.hid hd; have OK := Lib.hid hko; have OV := Lib.hid hvo; have HW := Lib.hid hb
    have HSZ : Hid (szK K ≤ 1048576) := Lib.hid (by have h1 := mok_szK hd.ok; have h2 := hd.rl; omega)
    have H16 : Hid (cs.length ≤ 1048576) := Lib.hid (Nat.le_trans hd.c16 (by decide))
    clear hd hko hvo hap hb hcl
    simp only [KV.val]
    go_wp2_with fail
    refine (i_JobNewOk (kp : Int) (mv : Int) _ cs HD.out.plan H16.out _ (SlAt.below (OV.out.at lenInt) (by exact bel))).mono ?_; rintro e w5 ⟨jv, rfl, hjo, hb⟩
    obtain ⟨jo, jc, rfl, -, -, -⟩ := Own.shape hjo
    have HB3 := Lib.hid (bx5 hb (w2.heap.size) (.slice yco yvs.length ycc) (.slice yuo K.m.f.used.length yuc) (.slice yeo K.m.ents.length yec) (.int .i64 K.calls) (.slice yro K.refuse.length yrc))
    have HB4 := Lib.hid (bx3 hb (w2.heap.size + 1) (.int .i64 (kp : Int)) (.int .i64 (mv : Int)) (.slice vo cs.length vc))
    have up := lstep (w := w2) hb
    replace OK := Lib.hid (OK.out.below up); replace OV := Lib.hid (Own.below OV.out up); replace HW := Lib.hid (HW.out.trans (up.mono HW.out.size))
    have OJ := Lib.hid hjo
    clear up hb hjo
    generalize w2.heap.size = g3 at *
    have k3_0 := (HB3.out.cells 0 _ rfl).1; have k3_1 := (HB3.out.cells 1 _ rfl).1; have k3_2 := (HB3.out.cells 2 _ rfl).1; have k3_3 := (HB3.out.cells 3 _ rfl).1; have k3_4 := (HB3.out.cells 4 _ rfl).1; have x3 := HB3.out.lt
    have k4_0 := (HB4.out.cells 0 _ rfl).1; have k4_1 := (HB4.out.cells 1 _ rfl).1; have k4_2 := (HB4.out.cells 2 _ rfl).1; have x4 := HB4.out.lt
    go_wp2_with fail
    refine (s_PageEntry _ K.m.ents (kp : Int) _ (SlAt.below OK.out.at.m.ents (by exact bel))).mono ?_; rintro e w6 ⟨rfl, hb⟩
    have HB5 := Lib.hid (bx5 hb (w5.heap.size) (.int .i64 (kp : Int)) (.int .i64 (mv : Int)) (.slice jo cs.length jc) (.int .i64 0) (.int .i64 0))
    have up := lstep (w := w5) hb
    replace HB3 := Lib.hid (HB3.out.below up); replace HB4 := Lib.hid (HB4.out.below up); replace OK := Lib.hid (OK.out.below up); replace OV := Lib.hid (Own.below OV.out up); replace OJ := Lib.hid (Own.below OJ.out up); replace HW := Lib.hid (HW.out.trans (up.mono HW.out.size))
    clear up hb k3_0 k3_1 k3_2 k3_3 k3_4 x3 k4_0 k4_1 k4_2 x4
    rcases Int.decEq (pageEntry K.m.ents (kp : Int)).m 0 with h1 | h1
    rotate_left
    · have h0 : (pageEntry K.m.ents kp).m = 0 ∨ (pageEntry K.m.ents mv).m = 0 := .inl h1
      rw [h1]
      generalize (pageEntry K.m.ents (kp : Int)).f = f1 at *
      clear h1
      have k3_0 := (HB3.out.cells 0 _ rfl).1; have k3_1 := (HB3.out.cells 1 _ rfl).1; have k3_2 := (HB3.out.cells 2 _ rfl).1; have k3_3 := (HB3.out.cells 3 _ rfl).1; have k3_4 := (HB3.out.cells 4 _ rfl).1; have x3 := HB3.out.lt
      have k5_0 := (HB5.out.cells 0 _ rfl).1; have k5_1 := (HB5.out.cells 1 _ rfl).1; have k5_2 := (HB5.out.cells 2 _ rfl).1; have k5_3 := (HB5.out.cells 3 _ rfl).1; have k5_4 := (HB5.out.cells 4 _ rfl).1; have x5 := HB5.out.lt
      go_wp2_with fail
      refine (i_JobRunU (⟨⟨⟨.slice yco yvs.length ycc, .slice yuo K.m.f.used.length yuc, yvs⟩, .slice yeo K.m.ents.length yec⟩, .slice yro K.refuse.length yrc⟩ : KV) K kp mv _ cs h0 HSZ.out H16.out _ (KAt.below OK.out.at (by exact bel)) (SlAt.below (OJ.out.at lenInt) (by exact bel))).mono ?_; rintro e wj ⟨z, zv, rfl, hzo, hzv, hzd, hb⟩
      obtain ⟨zco, zcc, zuo, zuc, zvs, zeo, zec, zro, zrc, rfl⟩ := KOwn.shapes hzo
      obtain ⟨zo, zc, rfl, -, -, -⟩ := Own.shape hzv
      have up := lstep (w := w6) hb
      replace HB3 := Lib.hid (HB3.out.below up); replace OK := Lib.hid (OK.out.below up); replace HW := Lib.hid (HW.out.trans (up.mono HW.out.size))
      have OZ := Lib.hid hzo
      clear up hb hzo hzv hzd k3_0 k3_1 k3_2 k3_3 k3_4 x3 k5_0 k5_1 k5_2 k5_3 k5_4 x5
      have k3_0 := (HB3.out.cells 0 _ rfl).1; have k3_1 := (HB3.out.cells 1 _ rfl).1; have k3_2 := (HB3.out.cells 2 _ rfl).1; have k3_3 := (HB3.out.cells 3 _ rfl).1; have k3_4 := (HB3.out.cells 4 _ rfl).1; have x3 := HB3.out.lt
      simp only [KV.val]
      go_wp2_with fail
      refine (l_sameMachine ((⟨⟨⟨.slice zco zvs.length zcc, .slice zuo K.m.f.used.length zuc, zvs⟩, .slice zeo K.m.ents.length zec⟩, .slice zro K.refuse.length zrc⟩ : KV)).m ((⟨⟨⟨.slice yco yvs.length ycc, .slice yuo K.m.f.used.length yuc, yvs⟩, .slice yeo K.m.ents.length yec⟩, .slice yro K.refuse.length yrc⟩ : KV)).m K.m _ (MAt.below OZ.out.at.m (by exact bel)) (MAt.below OK.out.at.m (by exact bel))).mono ?_; rintro e wk ⟨rfl, hb⟩
      have HB8 := Lib.hid (bx5 hb (wj.heap.size + 1) (.int .i64 (kp : Int)) (.int .i64 (mv : Int)) (.slice zo cs.length zc) (.int .i64 0) (.int .i64 0))
      have up := lstep (w := wj) hb
      have hB := HW.out.trans (up.mono HW.out.size)
      have k8_0 := (HB8.out.cells 0 _ rfl).1; have k8_1 := (HB8.out.cells 1 _ rfl).1; have k8_2 := (HB8.out.cells 2 _ rfl).1; have k8_3 := (HB8.out.cells 3 _ rfl).1; have k8_4 := (HB8.out.cells 4 _ rfl).1; have x8 := HB8.out.lt
      go_wp2_with fail
      go_ret
      exact ⟨by first | rfl | simp_all, by exact bel⟩
    · have h1b : ((pageEntry K.m.ents (kp : Int)).m == 0) = false := beq_false_of_ne h1
      have k3_0 := (HB3.out.cells 0 _ rfl).1; have k3_1 := (HB3.out.cells 1 _ rfl).1; have k3_2 := (HB3.out.cells 2 _ rfl).1; have k3_3 := (HB3.out.cells 3 _ rfl).1; have k3_4 := (HB3.out.cells 4 _ rfl).1; have x3 := HB3.out.lt
      have k4_0 := (HB4.out.cells 0 _ rfl).1; have k4_1 := (HB4.out.cells 1 _ rfl).1; have k4_2 := (HB4.out.cells 2 _ rfl).1; have x4 := HB4.out.lt
      go_wp2_with fail
      refine (s_PageEntry _ K.m.ents (mv : Int) _ (SlAt.below OK.out.at.m.ents (by exact bel))).mono ?_; rintro e w7 ⟨rfl, hb⟩
      have up := lstep (w := w6) hb
      replace HB3 := Lib.hid (HB3.out.below up); replace HB4 := Lib.hid (HB4.out.below up); replace HB5 := Lib.hid (HB5.out.below up); replace OK := Lib.hid (OK.out.below up); replace OV := Lib.hid (Own.below OV.out up); replace OJ := Lib.hid (Own.below OJ.out up); replace HW := Lib.hid (HW.out.trans (up.mono HW.out.size))
      clear up hb k3_0 k3_1 k3_2 k3_3 k3_4 x3 k4_0 k4_1 k4_2 x4
      rcases Int.decEq (pageEntry K.m.ents (mv : Int)).m 0 with h2 | h2
      rotate_left
      · have h0 : (pageEntry K.m.ents kp).m = 0 ∨ (pageEntry K.m.ents mv).m = 0 := .inr h2
        rw [h2]
        clear h2
        have k3_0 := (HB3.out.cells 0 _ rfl).1; have k3_1 := (HB3.out.cells 1 _ rfl).1; have k3_2 := (HB3.out.cells 2 _ rfl).1; have k3_3 := (HB3.out.cells 3 _ rfl).1; have k3_4 := (HB3.out.cells 4 _ rfl).1; have x3 := HB3.out.lt
        have k5_0 := (HB5.out.cells 0 _ rfl).1; have k5_1 := (HB5.out.cells 1 _ rfl).1; have k5_2 := (HB5.out.cells 2 _ rfl).1; have k5_3 := (HB5.out.cells 3 _ rfl).1; have k5_4 := (HB5.out.cells 4 _ rfl).1; have x5 := HB5.out.lt
        go_wp2_with fail
        refine (i_JobRunU (⟨⟨⟨.slice yco yvs.length ycc, .slice yuo K.m.f.used.length yuc, yvs⟩, .slice yeo K.m.ents.length yec⟩, .slice yro K.refuse.length yrc⟩ : KV) K kp mv _ cs h0 HSZ.out H16.out _ (KAt.below OK.out.at (by exact bel)) (SlAt.below (OJ.out.at lenInt) (by exact bel))).mono ?_; rintro e wj ⟨z, zv, rfl, hzo, hzv, hzd, hb⟩
        obtain ⟨zco, zcc, zuo, zuc, zvs, zeo, zec, zro, zrc, rfl⟩ := KOwn.shapes hzo
        obtain ⟨zo, zc, rfl, -, -, -⟩ := Own.shape hzv
        have up := lstep (w := w7) hb
        replace HB3 := Lib.hid (HB3.out.below up); replace OK := Lib.hid (OK.out.below up); replace HW := Lib.hid (HW.out.trans (up.mono HW.out.size))
        have OZ := Lib.hid hzo
        clear up hb hzo hzv hzd k3_0 k3_1 k3_2 k3_3 k3_4 x3 k5_0 k5_1 k5_2 k5_3 k5_4 x5
        have k3_0 := (HB3.out.cells 0 _ rfl).1; have k3_1 := (HB3.out.cells 1 _ rfl).1; have k3_2 := (HB3.out.cells 2 _ rfl).1; have k3_3 := (HB3.out.cells 3 _ rfl).1; have k3_4 := (HB3.out.cells 4 _ rfl).1; have x3 := HB3.out.lt
        simp only [KV.val]
        go_wp2_with fail
        refine (l_sameMachine ((⟨⟨⟨.slice zco zvs.length zcc, .slice zuo K.m.f.used.length zuc, zvs⟩, .slice zeo K.m.ents.length zec⟩, .slice zro K.refuse.length zrc⟩ : KV)).m ((⟨⟨⟨.slice yco yvs.length ycc, .slice yuo K.m.f.used.length yuc, yvs⟩, .slice yeo K.m.ents.length yec⟩, .slice yro K.refuse.length yrc⟩ : KV)).m K.m _ (MAt.below OZ.out.at.m (by exact bel)) (MAt.below OK.out.at.m (by exact bel))).mono ?_; rintro e wk ⟨rfl, hb⟩
        have HB8 := Lib.hid (bx5 hb (wj.heap.size + 1) (.int .i64 (kp : Int)) (.int .i64 (mv : Int)) (.slice zo cs.length zc) (.int .i64 0) (.int .i64 0))
        have up := lstep (w := wj) hb
        have hB := HW.out.trans (up.mono HW.out.size)
        have k8_0 := (HB8.out.cells 0 _ rfl).1; have k8_1 := (HB8.out.cells 1 _ rfl).1; have k8_2 := (HB8.out.cells 2 _ rfl).1; have k8_3 := (HB8.out.cells 3 _ rfl).1; have k8_4 := (HB8.out.cells 4 _ rfl).1; have x8 := HB8.out.lt
        go_wp2_with fail
        go_ret
        exact ⟨by first | rfl | simp_all, by exact bel⟩
      · have h2b : ((pageEntry K.m.ents (mv : Int)).m == 0) = false := beq_false_of_ne h2
        obtain ⟨R, hR, hk, hcase⟩ := jobs_pack HD.out h1 h2
        have HR := Lib.hid hR; have HKO := Lib.hid hk; have HCS := Lib.hid hcase
        clear hR hk hcase h1
        replace h2 := Lib.hid h2
        have k3_0 := (HB3.out.cells 0 _ rfl).1; have k3_1 := (HB3.out.cells 1 _ rfl).1; have k3_2 := (HB3.out.cells 2 _ rfl).1; have k3_3 := (HB3.out.cells 3 _ rfl).1; have k3_4 := (HB3.out.cells 4 _ rfl).1; have x3 := HB3.out.lt
        have k5_0 := (HB5.out.cells 0 _ rfl).1; have k5_1 := (HB5.out.cells 1 _ rfl).1; have k5_2 := (HB5.out.cells 2 _ rfl).1; have k5_3 := (HB5.out.cells 3 _ rfl).1; have k5_4 := (HB5.out.cells 4 _ rfl).1; have x5 := HB5.out.lt
        go_upto_region 8 with fail
        go_wp2_with fail
        refine (i_JobRunS (⟨⟨⟨.slice yco yvs.length ycc, .slice yuo K.m.f.used.length yuc, yvs⟩, .slice yeo K.m.ents.length yec⟩, .slice yro K.refuse.length yrc⟩ : KV) ⟨K, 0, 0⟩ (kp : Int) (mv : Int) _ cs 200 R HR.out HSZ.out H16.out _ (KAt.below OK.out.at (by exact bel)) (SlAt.below (OJ.out.at lenInt) (by exact bel))).mono ?_; rintro e w8 ⟨z, zv, rfl, hzo, hzv, hzd, hb⟩
        obtain ⟨zco, zcc, zuo, zuc, zvs, zeo, zec, zro, zrc, rfl⟩ := KOwn.shapes hzo
        obtain ⟨zo, zc, rfl, -, -, -⟩ := Own.shape hzv
        have up := lstep (w := w7) hb
        replace HB3 := Lib.hid (HB3.out.below up); replace HB4 := Lib.hid (HB4.out.below up); replace OK := Lib.hid (OK.out.below up); replace OV := Lib.hid (Own.below OV.out up); replace HW := Lib.hid (HW.out.trans (up.mono HW.out.size))
        have OZ := Lib.hid hzo
        clear up hb hzo hzv hzd k3_0 k3_1 k3_2 k3_3 k3_4 x3 k5_0 k5_1 k5_2 k5_3 k5_4 x5 HB5 OJ h2 h1b h2b
        simp only [KV.val]
        have k3_0 := (HB3.out.cells 0 _ rfl).1; have k3_1 := (HB3.out.cells 1 _ rfl).1; have k3_2 := (HB3.out.cells 2 _ rfl).1; have k3_3 := (HB3.out.cells 3 _ rfl).1; have k3_4 := (HB3.out.cells 4 _ rfl).1; have x3 := HB3.out.lt
        rcases HCS.out with ⟨h5, hm⟩ | ⟨h4, fa, fb, ra, rb, rc, P⟩
        · rw [h5]
          replace h5 := Lib.hid h5; replace hm := Lib.hid hm
          go_wp2_with fail
          refine (l_sameMachine ((⟨⟨⟨.slice zco zvs.length zcc, .slice zuo R.k.m.f.used.length zuc, zvs⟩, .slice zeo R.k.m.ents.length zec⟩, .slice zro R.k.refuse.length zrc⟩ : KV)).m ((⟨⟨⟨.slice yco yvs.length ycc, .slice yuo K.m.f.used.length yuc, yvs⟩, .slice yeo K.m.ents.length yec⟩, .slice yro K.refuse.length yrc⟩ : KV)).m K.m _ (MAt.below (mat_eq OZ.out.at.m hm.out) (by exact bel)) (MAt.below OK.out.at.m (by exact bel))).mono ?_; rintro e w9 ⟨rfl, hb⟩
          have HB9 := Lib.hid (bx5 hb (w8.heap.size) (.slice zco zvs.length zcc) (.slice zuo R.k.m.f.used.length zuc) (.slice zeo R.k.m.ents.length zec) (.int .i64 R.k.calls) (.slice zro R.k.refuse.length zrc))
          have up := lstep (w := w8) hb
          replace OZ := Lib.hid (OZ.out.below up); replace HW := Lib.hid (HW.out.trans (up.mono HW.out.size))
          clear up hb k3_0 k3_1 k3_2 k3_3 k3_4 x3
          have k9_0 := (HB9.out.cells 0 _ rfl).1; have k9_1 := (HB9.out.cells 1 _ rfl).1; have k9_2 := (HB9.out.cells 2 _ rfl).1; have k9_3 := (HB9.out.cells 3 _ rfl).1; have k9_4 := (HB9.out.cells 4 _ rfl).1; have x9 := HB9.out.lt
          go_wp2_with fail
          refine (i_KernelOk (⟨⟨⟨.slice zco zvs.length zcc, .slice zuo R.k.m.f.used.length zuc, zvs⟩, .slice zeo R.k.m.ents.length zec⟩, .slice zro R.k.refuse.length zrc⟩ : KV) R.k true HKO.out _ (KAt.below OZ.out.at (by exact bel))).mono ?_; rintro e w10 ⟨rfl, hb⟩
          have up := lstep (w := w9) hb
          have hB := HW.out.trans (up.mono HW.out.size)
          go_wp2_with fail
          go_ret
          exact ⟨by first | rfl | simp_all, by exact bel⟩
        · have HP := Lib.hid P
          clear P
          rw [h4]
          clear h4
          have k4_0 := (HB4.out.cells 0 _ rfl).1; have k4_1 := (HB4.out.cells 1 _ rfl).1; have k4_2 := (HB4.out.cells 2 _ rfl).1; have x4 := HB4.out.lt
          go_wp2_with fail
          refine (s_PageText (⟨⟨⟨.slice yco yvs.length ycc, .slice yuo K.m.f.used.length yuc, yvs⟩, .slice yeo K.m.ents.length yec⟩, .slice yro K.refuse.length yrc⟩ : KV).m K.m (kp : Int) 2 fa ra HP.out.m1 HP.out.ek (by decide) HP.out.ca HP.out.la _ (MAt.below OK.out.at.m (by exact bel))).mono ?_; rintro e w9 ⟨av, rfl, hown, hb⟩; obtain ⟨avo, avc, rfl, -, -, -⟩ := Own.shape hown
          have HBK := Lib.hid (bx5 hb (w8.heap.size) (.slice zco zvs.length zcc) (.slice zuo R.k.m.f.used.length zuc) (.slice zeo R.k.m.ents.length zec) (.int .i64 R.k.calls) (.slice zro R.k.refuse.length zrc))
          have HBJ := Lib.hid (bx5 hb (w8.heap.size + 1) (.int .i64 (kp : Int)) (.int .i64 (mv : Int)) (.slice zo cs.length zc) (.int .i64 4) (.int .i64 R.nx))
          have up := lstep (w := w8) hb
          replace HB3 := Lib.hid (HB3.out.below up); replace HB4 := Lib.hid (HB4.out.below up); replace OK := Lib.hid (OK.out.below up); replace OZ := Lib.hid (OZ.out.below up); replace OV := Lib.hid (Own.below OV.out up); replace HW := Lib.hid (HW.out.trans (up.mono HW.out.size))
          have OA := Lib.hid hown
          clear up hb hown k3_0 k3_1 k3_2 k3_3 k3_4 x3 k4_0 k4_1 k4_2 x4
          generalize w8.heap.size = gK at *
          have k3_0 := (HB3.out.cells 0 _ rfl).1; have k3_1 := (HB3.out.cells 1 _ rfl).1; have k3_2 := (HB3.out.cells 2 _ rfl).1; have k3_3 := (HB3.out.cells 3 _ rfl).1; have k3_4 := (HB3.out.cells 4 _ rfl).1; have x3 := HB3.out.lt
          have k4_0 := (HB4.out.cells 0 _ rfl).1; have k4_1 := (HB4.out.cells 1 _ rfl).1; have k4_2 := (HB4.out.cells 2 _ rfl).1; have x4 := HB4.out.lt
          go_wp2_with fail
          refine (s_PageText (⟨⟨⟨.slice yco yvs.length ycc, .slice yuo K.m.f.used.length yuc, yvs⟩, .slice yeo K.m.ents.length yec⟩, .slice yro K.refuse.length yrc⟩ : KV).m K.m (mv : Int) 2 fb rb HP.out.m1 HP.out.em (by decide) HP.out.cb HP.out.lb _ (MAt.below OK.out.at.m (by exact bel))).mono ?_; rintro e w10 ⟨bv, rfl, hown, hb⟩; obtain ⟨bvo, bvc, rfl, -, -, -⟩ := Own.shape hown
          have up := lstep (w := w9) hb
          replace HB3 := Lib.hid (HB3.out.below up); replace HB4 := Lib.hid (HB4.out.below up); replace HBK := Lib.hid (HBK.out.below up); replace HBJ := Lib.hid (HBJ.out.below up); replace OK := Lib.hid (OK.out.below up); replace OZ := Lib.hid (OZ.out.below up); replace OV := Lib.hid (Own.below OV.out up); replace OA := Lib.hid (Own.below OA.out up); replace HW := Lib.hid (HW.out.trans (up.mono HW.out.size))
          have OB := Lib.hid hown
          clear up hb hown k3_0 k3_1 k3_2 k3_3 k3_4 x3 k4_0 k4_1 k4_2 x4
          have kK_0 := (HBK.out.cells 0 _ rfl).1; have kK_1 := (HBK.out.cells 1 _ rfl).1; have kK_2 := (HBK.out.cells 2 _ rfl).1; have kK_3 := (HBK.out.cells 3 _ rfl).1; have kK_4 := (HBK.out.cells 4 _ rfl).1; have xK := HBK.out.lt
          have k4_0 := (HB4.out.cells 0 _ rfl).1; have k4_1 := (HB4.out.cells 1 _ rfl).1; have k4_2 := (HB4.out.cells 2 _ rfl).1; have x4 := HB4.out.lt
          go_wp2_with fail
          refine (i_PageText (⟨⟨⟨.slice zco zvs.length zcc, .slice zuo R.k.m.f.used.length zuc, zvs⟩, .slice zeo R.k.m.ents.length zec⟩, .slice zro R.k.refuse.length zrc⟩ : KV).m R.k.m (kp : Int) 2 fa rc HP.out.m2 HP.out.ek2 (by decide) HP.out.cc HP.out.lc _ (MAt.below OZ.out.at.m (by exact bel))).mono ?_; rintro e w11 ⟨cv, rfl, hown, hb⟩; obtain ⟨cvo, cvc, rfl, -, -, -⟩ := Own.shape hown
          have up := lstep (w := w10) hb
          replace HB3 := Lib.hid (HB3.out.below up); replace HB4 := Lib.hid (HB4.out.below up); replace HBK := Lib.hid (HBK.out.below up); replace HBJ := Lib.hid (HBJ.out.below up); replace OK := Lib.hid (OK.out.below up); replace OZ := Lib.hid (OZ.out.below up); replace OV := Lib.hid (Own.below OV.out up); replace OA := Lib.hid (Own.below OA.out up); replace OB := Lib.hid (Own.below OB.out up); replace HW := Lib.hid (HW.out.trans (up.mono HW.out.size))
          have OC := Lib.hid hown
          clear up hb hown kK_0 kK_1 kK_2 kK_3 kK_4 xK k4_0 k4_1 k4_2 x4
          have kK_0 := (HBK.out.cells 0 _ rfl).1; have kK_1 := (HBK.out.cells 1 _ rfl).1; have kK_2 := (HBK.out.cells 2 _ rfl).1; have kK_3 := (HBK.out.cells 3 _ rfl).1; have kK_4 := (HBK.out.cells 4 _ rfl).1; have xK := HBK.out.lt
          have k4_0 := (HB4.out.cells 0 _ rfl).1; have k4_1 := (HB4.out.cells 1 _ rfl).1; have k4_2 := (HB4.out.cells 2 _ rfl).1; have x4 := HB4.out.lt
          go_wp2_with fail
          refine (i_PageText (⟨⟨⟨.slice zco zvs.length zcc, .slice zuo R.k.m.f.used.length zuc, zvs⟩, .slice zeo R.k.m.ents.length zec⟩, .slice zro R.k.refuse.length zrc⟩ : KV).m R.k.m (mv : Int) 2 fa rc HP.out.m2 HP.out.em2 (by decide) HP.out.cc HP.out.lc _ (MAt.below OZ.out.at.m (by exact bel))).mono ?_; rintro e w12 ⟨dv, rfl, hown, hb⟩; obtain ⟨dvo, dvc, rfl, -, -, -⟩ := Own.shape hown
          have up := lstep (w := w11) hb
          replace HB3 := Lib.hid (HB3.out.below up); replace HB4 := Lib.hid (HB4.out.below up); replace HBK := Lib.hid (HBK.out.below up); replace HBJ := Lib.hid (HBJ.out.below up); replace OK := Lib.hid (OK.out.below up); replace OZ := Lib.hid (OZ.out.below up); replace OV := Lib.hid (Own.below OV.out up); replace OA := Lib.hid (Own.below OA.out up); replace OB := Lib.hid (Own.below OB.out up); replace OC := Lib.hid (Own.below OC.out up); replace HW := Lib.hid (HW.out.trans (up.mono HW.out.size))
          have OD := Lib.hid hown
          clear up hb hown kK_0 kK_1 kK_2 kK_3 kK_4 xK k4_0 k4_1 k4_2 x4
          obtain ⟨uk, huk⟩ : ∃ q : Int, q = (usedN K.m.f : Int) := ⟨_, rfl⟩
          have hub : 0 ≤ uk ∧ uk ≤ 9999 := by have := HP.out.ub; omega
          have HUK := Lib.hid (fun W (h : FAt W ((⟨⟨⟨.slice yco yvs.length ycc, .slice yuo K.m.f.used.length yuc, yvs⟩, .slice yeo K.m.ents.length yec⟩, .slice yro K.refuse.length yrc⟩ : KV).m).f K.m.f) => by have h := s_UsedFrames ((⟨⟨⟨.slice yco yvs.length ycc, .slice yuo K.m.f.used.length yuc, yvs⟩, .slice yeo K.m.ents.length yec⟩, .slice yro K.refuse.length yrc⟩ : KV).m).f K.m.f HP.out.f1 HP.out.u1 W h; rwa [← huk] at h : ∀ W (h : FAt W ((⟨⟨⟨.slice yco yvs.length ycc, .slice yuo K.m.f.used.length yuc, yvs⟩, .slice yeo K.m.ents.length yec⟩, .slice yro K.refuse.length yrc⟩ : KV).m).f K.m.f), Calls Try.prog 24 #[.agg #[.slice yco yvs.length ycc, .slice yuo K.m.f.used.length yuc]] W fun e w' => e = .returned (.int .i64 uk) ∧ Below W.heap.size W w')
          have HUR := Lib.hid (fun W (h : FAt W ((⟨⟨⟨.slice zco zvs.length zcc, .slice zuo R.k.m.f.used.length zuc, zvs⟩, .slice zeo R.k.m.ents.length zec⟩, .slice zro R.k.refuse.length zrc⟩ : KV).m).f R.k.m.f) => by have h := s_UsedFrames ((⟨⟨⟨.slice zco zvs.length zcc, .slice zuo R.k.m.f.used.length zuc, zvs⟩, .slice zeo R.k.m.ents.length zec⟩, .slice zro R.k.refuse.length zrc⟩ : KV).m).f R.k.m.f HP.out.f2 HP.out.u2 W h; rwa [HP.out.un, ← huk] at h : ∀ W (h : FAt W ((⟨⟨⟨.slice zco zvs.length zcc, .slice zuo R.k.m.f.used.length zuc, zvs⟩, .slice zeo R.k.m.ents.length zec⟩, .slice zro R.k.refuse.length zrc⟩ : KV).m).f R.k.m.f), Calls Try.prog 24 #[.agg #[.slice zco zvs.length zcc, .slice zuo R.k.m.f.used.length zuc]] W fun e w' => e = .returned (.int .i64 (uk - 1)) ∧ Below W.heap.size W w')
          have hw1 : wrap64 (uk - 1) = uk - 1 := IntWalk.wrap64_in _ (by omega)
          have hw2 : IntKind.i64.wrap (uk - 1) = uk - 1 := IntWalk.i64_in _ (by omega)
          have hee : ((uk - 1) == (uk - 1)) = true := beq_self_eq_true _
          clear huk
          have hw012 := HW.out.size
          have HX := Lib.hid (Below.refl w12.heap.size w12)
          have k3_0 := (HB3.out.cells 0 _ rfl).1; have k3_1 := (HB3.out.cells 1 _ rfl).1; have k3_2 := (HB3.out.cells 2 _ rfl).1; have k3_3 := (HB3.out.cells 3 _ rfl).1; have k3_4 := (HB3.out.cells 4 _ rfl).1; have x3 := HB3.out.lt
          have k4_0 := (HB4.out.cells 0 _ rfl).1; have k4_1 := (HB4.out.cells 1 _ rfl).1; have k4_2 := (HB4.out.cells 2 _ rfl).1; have x4 := HB4.out.lt
          have kK_0 := (HBK.out.cells 0 _ rfl).1; have kK_1 := (HBK.out.cells 1 _ rfl).1; have kK_2 := (HBK.out.cells 2 _ rfl).1; have kK_3 := (HBK.out.cells 3 _ rfl).1; have kK_4 := (HBK.out.cells 4 _ rfl).1; have xK := HBK.out.lt
          have kJ_0 := (HBJ.out.cells 0 _ rfl).1; have kJ_1 := (HBJ.out.cells 1 _ rfl).1; have kJ_2 := (HBJ.out.cells 2 _ rfl).1; have kJ_3 := (HBJ.out.cells 3 _ rfl).1; have kJ_4 := (HBJ.out.cells 4 _ rfl).1; have xJ := HBJ.out.lt
          go_upto_region 15 with fail
          go_region_held3 (fun w' => w'.cell? ⟨gK, 0, none⟩ = some (.slice zco zvs.length zcc) ∧ w'.cell? ⟨gK, 1, none⟩ = some (.slice zuo R.k.m.f.used.length zuc) ∧ w'.cell? ⟨gK, 2, none⟩ = some (.slice zeo R.k.m.ents.length zec) ∧ w'.cell? ⟨gK, 3, none⟩ = some (.int .i64 R.k.calls) ∧ w'.cell? ⟨gK, 4, none⟩ = some (.slice zro R.k.refuse.length zrc) ∧ w'.cell? ⟨gK + 1, 3, none⟩ = some (.int .i64 4) ∧ w'.cell? ⟨g3 + 1, 0, none⟩ = some (.int .i64 (kp : Int)) ∧ w'.cell? ⟨g3 + 1, 1, none⟩ = some (.int .i64 (mv : Int)) ∧ w'.cell? ⟨g3 + 1, 2, none⟩ = some (.slice vo cs.length vc) ∧ w'.cell? ⟨g3, 0, none⟩ = some (.slice yco yvs.length ycc) ∧ w'.cell? ⟨g3, 1, none⟩ = some (.slice yuo K.m.f.used.length yuc)) (first | (refine ⟨?_, ?_, ?_, ?_, ?_, ?_, ?_, ?_, ?_, ?_, ?_⟩ <;> (go_simp; done)) | go_keep) (first | (go_at_call 16; (refine (i_KernelOk (⟨⟨⟨.slice zco zvs.length zcc, .slice zuo R.k.m.f.used.length zuc, zvs⟩, .slice zeo R.k.m.ents.length zec⟩, .slice zro R.k.refuse.length zrc⟩ : KV) R.k true HKO.out _ (KOwn.below OZ.out (bel2 HX.out)).at).mono ?_; rintro e w2 ⟨rfl, hb⟩; replace HX := Lib.hid (lstep2 HX.out hb); obtain ⟨kwq_K_0, kwq_K_1, kwq_K_2, kwq_K_3, kwq_K_4⟩ := kp5 hb (gK) (.slice zco zvs.length zcc) (.slice zuo R.k.m.f.used.length zuc) (.slice zeo R.k.m.ents.length zec) (.int .i64 R.k.calls) (.slice zro R.k.refuse.length zrc); have kwq_J_3 : w2.cell? ⟨gK + 1, 3, none⟩ = some (.int .i64 4) := kc hb; obtain ⟨kwq_P_0, kwq_P_1, kwq_P_2⟩ := kp3 hb (g3 + 1) (.int .i64 (kp : Int)) (.int .i64 (mv : Int)) (.slice vo cs.length vc); obtain ⟨kwq_Y_0, kwq_Y_1⟩ := kp2 hb (g3) (.slice yco yvs.length ycc) (.slice yuo K.m.f.used.length yuc); have xwq_K : gK < w2.heap.size := xc hb; have xwq_J : gK + 1 < w2.heap.size := xc hb; have xwq_P : g3 + 1 < w2.heap.size := xc hb; have xwq_Y : g3 < w2.heap.size := xc hb; have hzwq := hb.size; (try simp only [World.size_alloc, World.size_setCell, World.size_drew] at hzwq); obtain ⟨wq, rfl⟩ : ∃ x, x = w2 := ⟨_, rfl⟩)) | (go_at_call 23; (refine (s_MergedText (kp : Int) (mv : Int) _ _ _ ra rb cs _ ((Own.below OA.out (bel2 HX.out)).at lenInt) ((Own.below OB.out (bel2 HX.out)).at lenInt) ((Own.below OV.out (bel2 HX.out)).at lenInt)).mono ?_; rintro e w2 ⟨mt, rfl, hown, hb⟩; rw [HP.out.mt] at hown; obtain ⟨mo, mc, rfl, -, -, -⟩ := Own.shape hown; have OM := Lib.hid hown; clear hown; replace HX := Lib.hid (lstep2 HX.out hb); obtain ⟨kwq_K_0, kwq_K_1, kwq_K_2, kwq_K_3, kwq_K_4⟩ := kp5 hb (gK) (.slice zco zvs.length zcc) (.slice zuo R.k.m.f.used.length zuc) (.slice zeo R.k.m.ents.length zec) (.int .i64 R.k.calls) (.slice zro R.k.refuse.length zrc); have kwq_J_3 : w2.cell? ⟨gK + 1, 3, none⟩ = some (.int .i64 4) := kc hb; obtain ⟨kwq_P_0, kwq_P_1, kwq_P_2⟩ := kp3 hb (g3 + 1) (.int .i64 (kp : Int)) (.int .i64 (mv : Int)) (.slice vo cs.length vc); obtain ⟨kwq_Y_0, kwq_Y_1⟩ := kp2 hb (g3) (.slice yco yvs.length ycc) (.slice yuo K.m.f.used.length yuc); have xwq_K : gK < w2.heap.size := xc hb; have xwq_J : gK + 1 < w2.heap.size := xc hb; have xwq_P : g3 + 1 < w2.heap.size := xc hb; have xwq_Y : g3 < w2.heap.size := xc hb; have hzwq := hb.size; (try simp only [World.size_alloc, World.size_setCell, World.size_drew] at hzwq); obtain ⟨wq, rfl⟩ : ∃ x, x = w2 := ⟨_, rfl⟩)) | (go_at_call 22; (with_reducible refine (l_sameInts (.slice cvo rc.length cvc) (.slice mo rc.length mc) rc _ ((Own.below OC.out (bel2 HX.out)).at lenInt) ((Own.below OM.out (by exact bel)).at lenInt)).mono ?_); rintro e w2 ⟨rfl, hb⟩; replace HX := Lib.hid (lstep2 HX.out hb); obtain ⟨kwq_K_0, kwq_K_1, kwq_K_2, kwq_K_3, kwq_K_4⟩ := kp5 hb (gK) (.slice zco zvs.length zcc) (.slice zuo R.k.m.f.used.length zuc) (.slice zeo R.k.m.ents.length zec) (.int .i64 R.k.calls) (.slice zro R.k.refuse.length zrc); have kwq_J_3 : w2.cell? ⟨gK + 1, 3, none⟩ = some (.int .i64 4) := kc hb; obtain ⟨kwq_P_0, kwq_P_1, kwq_P_2⟩ := kp3 hb (g3 + 1) (.int .i64 (kp : Int)) (.int .i64 (mv : Int)) (.slice vo cs.length vc); obtain ⟨kwq_Y_0, kwq_Y_1⟩ := kp2 hb (g3) (.slice yco yvs.length ycc) (.slice yuo K.m.f.used.length yuc); have xwq_K : gK < w2.heap.size := xc hb; have xwq_J : gK + 1 < w2.heap.size := xc hb; have xwq_P : g3 + 1 < w2.heap.size := xc hb; have xwq_Y : g3 < w2.heap.size := xc hb; have hzwq := hb.size; (try simp only [World.size_alloc, World.size_setCell, World.size_drew] at hzwq); obtain ⟨wq, rfl⟩ : ∃ x, x = w2 := ⟨_, rfl⟩) | (go_at_call 22; (with_reducible refine (l_sameInts (.slice cvo rc.length cvc) (.slice dvo rc.length dvc) rc _ ((Own.below OC.out (bel2 HX.out)).at lenInt) ((Own.below OD.out (bel2 HX.out)).at lenInt)).mono ?_); rintro e w2 ⟨rfl, hb⟩; replace HX := Lib.hid (lstep2 HX.out hb); obtain ⟨kwq_K_0, kwq_K_1, kwq_K_2, kwq_K_3, kwq_K_4⟩ := kp5 hb (gK) (.slice zco zvs.length zcc) (.slice zuo R.k.m.f.used.length zuc) (.slice zeo R.k.m.ents.length zec) (.int .i64 R.k.calls) (.slice zro R.k.refuse.length zrc); have kwq_J_3 : w2.cell? ⟨gK + 1, 3, none⟩ = some (.int .i64 4) := kc hb; obtain ⟨kwq_P_0, kwq_P_1, kwq_P_2⟩ := kp3 hb (g3 + 1) (.int .i64 (kp : Int)) (.int .i64 (mv : Int)) (.slice vo cs.length vc); obtain ⟨kwq_Y_0, kwq_Y_1⟩ := kp2 hb (g3) (.slice yco yvs.length ycc) (.slice yuo K.m.f.used.length yuc); have xwq_K : gK < w2.heap.size := xc hb; have xwq_J : gK + 1 < w2.heap.size := xc hb; have xwq_P : g3 + 1 < w2.heap.size := xc hb; have xwq_Y : g3 < w2.heap.size := xc hb; have hzwq := hb.size; (try simp only [World.size_alloc, World.size_setCell, World.size_drew] at hzwq); obtain ⟨wq, rfl⟩ : ∃ x, x = w2 := ⟨_, rfl⟩) | (go_at_call 24; (with_reducible refine (HUR.out _ (KOwn.below OZ.out (bel2 HX.out)).at.m.f).mono ?_); rintro e w2 ⟨rfl, hb⟩; replace HX := Lib.hid (lstep2 HX.out hb); obtain ⟨kwq_K_0, kwq_K_1, kwq_K_2, kwq_K_3, kwq_K_4⟩ := kp5 hb (gK) (.slice zco zvs.length zcc) (.slice zuo R.k.m.f.used.length zuc) (.slice zeo R.k.m.ents.length zec) (.int .i64 R.k.calls) (.slice zro R.k.refuse.length zrc); have kwq_J_3 : w2.cell? ⟨gK + 1, 3, none⟩ = some (.int .i64 4) := kc hb; obtain ⟨kwq_P_0, kwq_P_1, kwq_P_2⟩ := kp3 hb (g3 + 1) (.int .i64 (kp : Int)) (.int .i64 (mv : Int)) (.slice vo cs.length vc); obtain ⟨kwq_Y_0, kwq_Y_1⟩ := kp2 hb (g3) (.slice yco yvs.length ycc) (.slice yuo K.m.f.used.length yuc); have xwq_K : gK < w2.heap.size := xc hb; have xwq_J : gK + 1 < w2.heap.size := xc hb; have xwq_P : g3 + 1 < w2.heap.size := xc hb; have xwq_Y : g3 < w2.heap.size := xc hb; have hzwq := hb.size; (try simp only [World.size_alloc, World.size_setCell, World.size_drew] at hzwq); obtain ⟨wq, rfl⟩ : ∃ x, x = w2 := ⟨_, rfl⟩) | (go_at_call 24; (with_reducible refine (HUK.out _ (KOwn.below OK.out (bel2 HX.out)).at.m.f).mono ?_); rintro e w2 ⟨rfl, hb⟩; replace HX := Lib.hid (lstep2 HX.out hb); obtain ⟨kwq_K_0, kwq_K_1, kwq_K_2, kwq_K_3, kwq_K_4⟩ := kp5 hb (gK) (.slice zco zvs.length zcc) (.slice zuo R.k.m.f.used.length zuc) (.slice zeo R.k.m.ents.length zec) (.int .i64 R.k.calls) (.slice zro R.k.refuse.length zrc); have kwq_J_3 : w2.cell? ⟨gK + 1, 3, none⟩ = some (.int .i64 4) := kc hb; obtain ⟨kwq_P_0, kwq_P_1, kwq_P_2⟩ := kp3 hb (g3 + 1) (.int .i64 (kp : Int)) (.int .i64 (mv : Int)) (.slice vo cs.length vc); obtain ⟨kwq_Y_0, kwq_Y_1⟩ := kp2 hb (g3) (.slice yco yvs.length ycc) (.slice yuo K.m.f.used.length yuc); have xwq_K : gK < w2.heap.size := xc hb; have xwq_J : gK + 1 < w2.heap.size := xc hb; have xwq_P : g3 + 1 < w2.heap.size := xc hb; have xwq_Y : g3 < w2.heap.size := xc hb; have hzwq := hb.size; (try simp only [World.size_alloc, World.size_setCell, World.size_drew] at hzwq); obtain ⟨wq, rfl⟩ : ∃ x, x = w2 := ⟨_, rfl⟩))
          all_goals go_wp2_with fail
          all_goals (have hB := HW.out.trans (HX.out.mono HW.out.size); go_ret; exact ⟨by first | rfl | simp_all, by exact bel⟩)

namespace fnJobs
set_option maxRecDepth 100000 in
theorem contract (H : Type) (enc : TypeId × Value → H) (W : World) (base : Nat) (args : Array Value) (ds gs : List (DataW H)) (before : List MemPlace)
    (hval : ∀ (j : Nat) t v, Try.f4.params[j]? = some t → args[j]? = some v → Value.okWide Try.prog W .any base t v)
    (hW : DataW.Whole enc Try.prog Try.f4.params.toList Rows.fnJobsSpec.vars false W args.toList ds gs before) :
    Calls Try.prog 4 args W fun e W' => ∃ v, e = .returned v ∧ Rows.fnJobsSpec.post enc Try.prog Try.f4 false true false false W args v W' := by
  have hW' := hW
  obtain ⟨p, q, hA0, hV, rfl, hfz, hnd⟩ := hW
  have hA : DataW.TrodAll enc Try.prog W 0 (fun _ => true) true Try.f4.params.toList args.toList ds p := hA0
  rw [Try.params4] at hA hval
  obtain ⟨v0, vs0, d0, ds0, p0, q0, hargs, rfl, rfl, h0, r0⟩ := trodAll_cons hA
  obtain ⟨rfl, rfl, rfl⟩ := trodAll_nil r0
  obtain rfl : args = #[v0] := by cases args; simp_all
  obtain ⟨rfl, rfl⟩ := trodVars_none hV
  obtain ⟨n, hv⟩ := bytes_open Try.underlying22 Try.underlying5 (by kernel_rfl) (hval 0 22 v0 rfl rfl) h0
  clear hA0
  refine (w_FnJobs v0 n W hv).mono fun e W' ⟨he, hg⟩ => ?_
  subst he
  exact ⟨_, rfl, law_post (tb := 4) laidOut (by kernel_rfl) rfl rfl Try.underlying4 hW' rfl rfl rfl hg⟩
set_option maxRecDepth 100000 in
theorem lifted (os : Os) (started : os.Started) (H : Type) (enc : TypeId × Value → H) :
    ReturnsInHanded {} Try.checked os 4 .any (Rows.fnJobsSpec.pre6 enc Try.prog Try.f4 Rows.fnJobsRow.domain false) (Rows.fnJobsSpec.post enc Try.prog Try.f4 false true false false) := by
  refine returnsInHanded_of_change (C := Try.checked) own started (by kernel_rfl) Try.func4
    (ChangeSpec.witness6 (enc := enc) (C := Try.checked) false ⟨#[], #[.slice none 0 0], []⟩ 8 (by kernel_rfl) (by kernel_rfl) (by kernel_rfl) (by kernel_rfl)) ?_
  intro W base args ds gs before hval hW _ _
  exact contract H enc W base args ds gs before hval hW
/-- The statement. -/
theorem proved : Rows.FnJobsSaid :=
  OpenClaim.holds_of_wide 4 Try.f4 rfl rfl rfl rfl rfl rfl rfl ⟨rfl, rfl, rfl, rfl, rfl⟩ rfl rfl rfl rfl rfl (by kernel_rfl) Try.func4 (by kernel_rfl)
    (of_decide_eq_true (by kernel_rfl)) (by unfold Func.isWrapper; first | (rw [if_pos (by decide +kernel)]; kernel_rfl) | (rw [if_neg (by decide +kernel)]; exact ⟨rfl, rfl⟩))
    (fun os started H enc _ => lifted os started H enc)
end fnJobs

end Go.Proofs.Ytkkebpcclklmcaa
