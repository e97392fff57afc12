/-
  Texts put together: FinI.
-/
import Derived.Test.YtkkebpcclklmcaaGWR3
import Derived.Test.YtkkebpcclklmcaaGB27
/-
  The job is run to its end, then every writer steps once: the implementation.
-/
set_option linter.unusedVariables false
set_option linter.unusedSimpArgs false
namespace Go.Proofs.Ytkkebpcclklmcaa
open Go.RowKit
set_option maxRecDepth 20000 in
set_option maxHeartbeats 25600000 in
theorem i_Finish (x : KV) (K : Ker) (kp mv : Int) (v : Value) (cs : List Int) (ph nx : Int) (u : Value) (xs : List Wr) (hs : szK K ≤ 1048576) (hc : cs.length ≤ 1048576) (hx : xs.length ≤ 1048576) (had : AdOk xs) (w : World) (ha : KAt w x K) (hv : IntsAt w v cs) (hu : WrAt w u xs) : Calls Try.prog 30 #[x.val K.calls, .agg #[.int .i64 kp, .int .i64 mv, v, .int .i64 ph, .int .i64 nx], u] w (NewKJW w (finishI kp mv cs ⟨⟨K, ph, nx⟩, xs⟩) kp mv cs) := by
  obtain ⟨⟨⟨xz, xu, xvs⟩, xe⟩, xr⟩ := x
  obtain ⟨ao, ca, rfl, hl1, hl2⟩ := hv.shape
  have HK := Lib.hid ha
  have HV := Lib.hid hv
  have HU := Lib.hid hu
  have H3 := Lib.hid hc
  have H4 := Lib.hid hx
  have HAD := Lib.hid had
  have hxm : xs.length ≤ 9223372036854775807 := by omega
  have cp0 := fun W (h1 : KAt W ⟨⟨⟨xz, xu, xvs⟩, xe⟩, xr⟩ K) (h2 : IntsAt W (.slice ao cs.length ca) cs) => i_JobRun ⟨⟨⟨xz, xu, xvs⟩, xe⟩, xr⟩ K kp mv (.slice ao cs.length ca) cs ph nx 200 hs hc W h1 h2
  simp only [KV.val, runTo200] at cp0
  simp only [KV.val]
  unfold finishI
  dsimp only
  have hsz0 := sz_runJ (kp := kp) (mv := mv) (cs := cs) 200 ⟨K, ph, nx⟩
  obtain ⟨R, hR⟩ : ∃ R, runJ kp mv cs 200 ⟨K, ph, nx⟩ = R := ⟨_, rfl⟩
  rw [hR] at cp0 hsz0 ⊢
  obtain ⟨k0, ph1, nx1⟩ := R
  dsimp only at cp0 hsz0
  have HS0 : Hid (szK k0 ≤ 1048576) := Lib.hid (by rw [hsz0]; exact hs)
  obtain ⟨TE, hTE⟩ : ∃ T, finTo xs.length ⟨⟨k0, ph1, nx1⟩, xs⟩ = T := ⟨_, rfl⟩
  rw [hTE]
  have HTE := Lib.hid hTE
  have CP0 := Lib.hid cp0
  clear ha hs hv hl1 hl2 hu hc hx had cp0 hsz0 hR hTE
  (have hall := all_nil w; go_enter Try.func30, Try.ntmps30)
  go_wp2_with (first | (go_at_call 12; (refine (CP0.out _ (HK.out.below (by exact bel)) (HV.out.below (by exact bel))).mono ?_; rintro e w2 ⟨y, v9, rfl, hyo, hvo, hyv, hb⟩; (obtain ⟨yco, ycc, yuo, yuc, yvs, yeo, yec, yro, yrc, rfl⟩ := KOwn.shapes hyo); (obtain ⟨vo, vc, rfl, -, -⟩ := hvo.shape); have OK := Lib.hid hyo; have OV := Lib.hid hvo; have AP := Lib.hid hyv; have HB1 := Lib.hid hb; obtain ⟨kwa_2_0, fwa_2_0, kwa_2_1, fwa_2_1, kwa_2_2, fwa_2_2, kwa_2_3, fwa_2_3, kwa_2_4, fwa_2_4⟩ := kf5 hb (w.heap.size + 1 + 1) (.slice none 0 0) (.slice none 0 0) (.slice none 0 0) (.int .i64 0) (.slice none 0 0); obtain ⟨kwa_3_0, fwa_3_0, kwa_3_1, fwa_3_1, kwa_3_2, fwa_3_2, kwa_3_3, fwa_3_3, kwa_3_4, fwa_3_4⟩ := kf5 hb (w.heap.size + 1 + 1 + 1) (.int .i64 0) (.int .i64 0) (.slice none 0 0) (.int .i64 0) (.int .i64 0); have xwa_2 : w.heap.size + 1 + 1 < w2.heap.size := xc hb; have xwa_3 : w.heap.size + 1 + 1 + 1 < w2.heap.size := xc hb; have hzwa := hb.size; (try simp only [World.size_alloc, World.size_setCell, World.size_drew] at hzwa); (have q2 : w.heap.size < w2.heap.size := by omega); (have q3 : w.heap.size + 1 < w2.heap.size := by omega); clear hyo hvo hyv; simp only [KV.val]; obtain ⟨wa, rfl⟩ : ∃ x, x = w2 := ⟨_, rfl⟩)) | (go_at_call 55; (refine (i_copyWriters _ xs H4.out _ (HU.out.below (by have hB1 := HB1.out; exact bel))).mono ?_; rintro e w2 ⟨u9, rfl, huo, hb⟩; (obtain ⟨uo, uc, rfl, -, -⟩ := huo.shape); have OU := Lib.hid huo; have HB2 := Lib.hid hb; obtain ⟨kwb_2_0, fwb_2_0, kwb_2_1, fwb_2_1, kwb_2_2, fwb_2_2, kwb_2_3, fwb_2_3, kwb_2_4, fwb_2_4⟩ := kf5 hb (w.heap.size + 1 + 1) (.slice none 0 0) (.slice none 0 0) (.slice none 0 0) (.int .i64 0) (.slice none 0 0); obtain ⟨kwb_3_0, fwb_3_0, kwb_3_1, fwb_3_1, kwb_3_2, fwb_3_2, kwb_3_3, fwb_3_3, kwb_3_4, fwb_3_4⟩ := kf5 hb (w.heap.size + 1 + 1 + 1) (.int .i64 0) (.int .i64 0) (.slice none 0 0) (.int .i64 0) (.int .i64 0); obtain ⟨kwb_O_0, fwb_O_0, kwb_O_1, fwb_O_1, kwb_O_2, fwb_O_2, kwb_O_3, fwb_O_3, kwb_O_4, fwb_O_4⟩ := kf5 hb (wa.heap.size) (.slice yco yvs.length ycc) (.slice yuo k0.m.f.used.length yuc) (.slice yeo k0.m.ents.length yec) (.int .i64 (k0.calls)) (.slice yro k0.refuse.length yrc); obtain ⟨kwb_Q_0, fwb_Q_0, kwb_Q_1, fwb_Q_1, kwb_Q_2, fwb_Q_2, kwb_Q_3, fwb_Q_3, kwb_Q_4, fwb_Q_4⟩ := kf5 hb (wa.heap.size + 1) (.int .i64 kp) (.int .i64 mv) (.slice vo cs.length vc) (.int .i64 ph1) (.int .i64 nx1); have xwb_2 : w.heap.size + 1 + 1 < w2.heap.size := xc hb; have xwb_3 : w.heap.size + 1 + 1 + 1 < w2.heap.size := xc hb; have xwb_O : wa.heap.size < w2.heap.size := xc hb; have xwb_Q : wa.heap.size + 1 < w2.heap.size := xc hb; have hzwb := hb.size; (try simp only [World.size_alloc, World.size_setCell, World.size_drew] at hzwb); clear huo; obtain ⟨wb, rfl⟩ : ∃ x, x = w2 := ⟨_, rfl⟩)))
  go_loopw [23] (fun m wr => ∃ (n : Nat) (k : Ker) (ws : List Wr) (y : KV), m = .int .i64 (n : Int) ∧ n ≤ xs.length ∧ finTo n ⟨⟨k0, ph1, nx1⟩, xs⟩ = ⟨⟨k, ph1, nx1⟩, ws⟩ ∧ szK k ≤ 1048576 ∧ AdOk ws ∧ ws.length = xs.length ∧ BoxAt wr (wa.heap.size) [y.m.f.c, y.m.f.u, y.m.e, .int .i64 k.calls, y.r] ∧ BoxAt wr (wa.heap.size + 1) [.int .i64 kp, .int .i64 mv, .slice vo cs.length vc, .int .i64 ph1, .int .i64 nx1] ∧ BoxAt wr (w.heap.size + 1 + 1) [.slice none 0 0, .slice none 0 0, .slice none 0 0, .int .i64 0, .slice none 0 0] ∧ BoxAt wr (w.heap.size + 1 + 1 + 1) [.int .i64 0, .int .i64 0, .slice none 0 0, .int .i64 0, .int .i64 0] ∧ KOwn (w.heap.size + 1 + 1 + 1 + 1) wr y k ∧ OwnI (w.heap.size + 1 + 1 + 1 + 1) wr (.slice vo cs.length vc) cs ∧ OwnWr (w.heap.size + 1 + 1 + 1 + 1) wr (.slice uo xs.length uc) ws ∧ (∀ b ∈ blocks (y.all), b ≠ wa.heap.size ∧ b ≠ wa.heap.size + 1) ∧ (∀ b ∈ blocks ([.slice vo cs.length vc]), b ≠ wa.heap.size ∧ b ≠ wa.heap.size + 1) ∧ (∀ b ∈ blocks ([.slice uo xs.length uc]), b ≠ wa.heap.size ∧ b ≠ wa.heap.size + 1) ∧ (∀ g ∈ blocks y.all, g ∉ blocks [.slice vo cs.length vc]) ∧ (∀ g ∈ blocks y.all, g ∉ blocks [.slice uo xs.length uc]) ∧ (∀ g ∈ blocks [.slice vo cs.length vc], g ∉ blocks [.slice uo xs.length uc]) ∧ Below w.heap.size w wr) (fun m _ => xs.length - (intOf m).toNat)
  case atStart =>
    refine ⟨0, k0, xs, ⟨⟨⟨.slice yco yvs.length ycc, .slice yuo k0.m.f.used.length yuc, yvs⟩, .slice yeo k0.m.ents.length yec⟩, .slice yro k0.refuse.length yrc⟩, rfl, Nat.zero_le _, rfl, HS0.out, HAD.out, rfl, (BoxAt.snoc (BoxAt.snoc (BoxAt.snoc (BoxAt.snoc (BoxAt.snoc (BoxAt.nil (w := _) (g := wa.heap.size) (by first | assumption | exact zt | (go_simp; done))) (v := .slice yco yvs.length ycc) (i := 0) rfl (by first | assumption | exact zt | (go_simp; done)) (by first | assumption | exact zt | (go_simp; done))) (v := .slice yuo k0.m.f.used.length yuc) (i := 1) rfl (by first | assumption | exact zt | (go_simp; done)) (by first | assumption | exact zt | (go_simp; done))) (v := .slice yeo k0.m.ents.length yec) (i := 2) rfl (by first | assumption | exact zt | (go_simp; done)) (by first | assumption | exact zt | (go_simp; done))) (v := .int .i64 (k0.calls)) (i := 3) rfl (by first | assumption | exact zt | (go_simp; done)) (by first | assumption | exact zt | (go_simp; done))) (v := .slice yro k0.refuse.length yrc) (i := 4) rfl (by first | assumption | exact zt | (go_simp; done)) (by first | assumption | exact zt | (go_simp; done))), (BoxAt.snoc (BoxAt.snoc (BoxAt.snoc (BoxAt.snoc (BoxAt.snoc (BoxAt.nil (w := _) (g := wa.heap.size + 1) (by first | assumption | exact zt | (go_simp; done))) (v := .int .i64 kp) (i := 0) rfl (by first | assumption | exact zt | (go_simp; done)) (by first | assumption | exact zt | (go_simp; done))) (v := .int .i64 mv) (i := 1) rfl (by first | assumption | exact zt | (go_simp; done)) (by first | assumption | exact zt | (go_simp; done))) (v := .slice vo cs.length vc) (i := 2) rfl (by first | assumption | exact zt | (go_simp; done)) (by first | assumption | exact zt | (go_simp; done))) (v := .int .i64 ph1) (i := 3) rfl (by first | assumption | exact zt | (go_simp; done)) (by first | assumption | exact zt | (go_simp; done))) (v := .int .i64 nx1) (i := 4) rfl (by first | assumption | exact zt | (go_simp; done)) (by first | assumption | exact zt | (go_simp; done))), (BoxAt.snoc (BoxAt.snoc (BoxAt.snoc (BoxAt.snoc (BoxAt.snoc (BoxAt.nil (w := _) (g := w.heap.size + 1 + 1) (by first | assumption | exact zt | (go_simp; done))) (v := .slice none 0 0) (i := 0) rfl (by first | assumption | exact zt | (go_simp; done)) (by first | assumption | exact zt | (go_simp; done))) (v := .slice none 0 0) (i := 1) rfl (by first | assumption | exact zt | (go_simp; done)) (by first | assumption | exact zt | (go_simp; done))) (v := .slice none 0 0) (i := 2) rfl (by first | assumption | exact zt | (go_simp; done)) (by first | assumption | exact zt | (go_simp; done))) (v := .int .i64 0) (i := 3) rfl (by first | assumption | exact zt | (go_simp; done)) (by first | assumption | exact zt | (go_simp; done))) (v := .slice none 0 0) (i := 4) rfl (by first | assumption | exact zt | (go_simp; done)) (by first | assumption | exact zt | (go_simp; done))), (BoxAt.snoc (BoxAt.snoc (BoxAt.snoc (BoxAt.snoc (BoxAt.snoc (BoxAt.nil (w := _) (g := w.heap.size + 1 + 1 + 1) (by first | assumption | exact zt | (go_simp; done))) (v := .int .i64 0) (i := 0) rfl (by first | assumption | exact zt | (go_simp; done)) (by first | assumption | exact zt | (go_simp; done))) (v := .int .i64 0) (i := 1) rfl (by first | assumption | exact zt | (go_simp; done)) (by first | assumption | exact zt | (go_simp; done))) (v := .slice none 0 0) (i := 2) rfl (by first | assumption | exact zt | (go_simp; done)) (by first | assumption | exact zt | (go_simp; done))) (v := .int .i64 0) (i := 3) rfl (by first | assumption | exact zt | (go_simp; done)) (by first | assumption | exact zt | (go_simp; done))) (v := .int .i64 0) (i := 4) rfl (by first | assumption | exact zt | (go_simp; done)) (by first | assumption | exact zt | (go_simp; done))), (OK.out.below (by exact bel)).mono (by exact zt), (Own.below OV.out (by exact bel)).mono (by exact zt), (OU.out.mono (by exact zt)), ?_, ?_, ?_, AP.out, ?_, ?_, by (have hB1 := HB1.out; have hB2 := HB2.out; exact bel)⟩
    · intro b hb; have h1 := (OK.out.lts b hb).2; omega
    · intro b hb; have h1 := (Own.lts OV.out b hb).2; omega
    · intro b hb; have h1 := (Own.lts OU.out b hb).1; (try simp only [World.size_alloc, World.size_setCell] at h1); omega
    · intro g hg hm; have h1 := (Own.lts OU.out g hm).1; (try simp only [World.size_alloc, World.size_setCell] at h1); have h2 := (OK.out.lts g hg).2; omega
    · intro g hg hm; have h1 := (Own.lts OU.out g hm).1; (try simp only [World.size_alloc, World.size_setCell] at h1); have h2 := (Own.lts OV.out g hg).2; omega
  case round =>
    clear OK OV OU AP HK HV HU HAD HS0 CP0
    clear kwa_2_0 fwa_2_0 kwa_2_1 fwa_2_1 kwa_2_2 fwa_2_2 kwa_2_3 fwa_2_3 kwa_2_4 fwa_2_4 kwa_3_0 fwa_3_0 kwa_3_1 fwa_3_1 kwa_3_2 fwa_3_2 kwa_3_3 fwa_3_3 kwa_3_4 fwa_3_4 xwa_2 xwa_3
    clear kwb_2_0 fwb_2_0 kwb_2_1 fwb_2_1 kwb_2_2 fwb_2_2 kwb_2_3 fwb_2_3 kwb_2_4 fwb_2_4 kwb_3_0 fwb_3_0 kwb_3_1 fwb_3_1 kwb_3_2 fwb_3_2 kwb_3_3 fwb_3_3 kwb_3_4 fwb_3_4 kwb_O_0 fwb_O_0 kwb_O_1 fwb_O_1 kwb_O_2 fwb_O_2 kwb_O_3 fwb_O_3 kwb_O_4 fwb_O_4 kwb_Q_0 fwb_Q_0 kwb_Q_1 fwb_Q_1 kwb_Q_2 fwb_Q_2 kwb_Q_3 fwb_Q_3 kwb_Q_4 fwb_Q_4 xwb_O xwb_Q xwb_2 xwb_3
    obtain ⟨n, k, ws, z, rfl, hn, ht, hsz, had, hwl, bK, bJ, b2, b3, oK, oV, oU, of1, of2, of3, ap1, ap2, ap3, hbw⟩ := hrel
    obtain ⟨zco, zcc, zuo, zuc, zvs, zeo, zec, zro, zrc, rfl⟩ := oK.shapes
    obtain ⟨we, rfl⟩ : ∃ x, x = wr := ⟨_, rfl⟩
    have hzw := hbw.size
    have BK := Lib.hid bK; have BJ := Lib.hid bJ; have B2 := Lib.hid b2; have B3 := Lib.hid b3; have OZ := Lib.hid oK; have OW := Lib.hid oV; have OU := Lib.hid oU; have OF1 := Lib.hid of1; have OF2 := Lib.hid of2; have OF3 := Lib.hid of3; have AP1 := Lib.hid ap1; have AP2 := Lib.hid ap2; have AP3 := Lib.hid ap3; have BWE := Lib.hid hbw; have HSZ := Lib.hid hsz; have HT := Lib.hid ht; have HAD := Lib.hid had; have HWL := Lib.hid hwl
    clear bK bJ b2 b3 oK oV oU of1 of2 of3 ap1 ap2 ap3 hbw hsz ht had hwl
    dsimp only at BK
    have kwe_2_0 := (B2.out.cells 0 _ rfl).1; have fwe_2_0 := (B2.out.cells 0 _ rfl).2; have kwe_2_1 := (B2.out.cells 1 _ rfl).1; have fwe_2_1 := (B2.out.cells 1 _ rfl).2; have kwe_2_2 := (B2.out.cells 2 _ rfl).1; have fwe_2_2 := (B2.out.cells 2 _ rfl).2; have kwe_2_3 := (B2.out.cells 3 _ rfl).1; have fwe_2_3 := (B2.out.cells 3 _ rfl).2; have kwe_2_4 := (B2.out.cells 4 _ rfl).1; have fwe_2_4 := (B2.out.cells 4 _ rfl).2; have kwe_3_0 := (B3.out.cells 0 _ rfl).1; have fwe_3_0 := (B3.out.cells 0 _ rfl).2; have kwe_3_1 := (B3.out.cells 1 _ rfl).1; have fwe_3_1 := (B3.out.cells 1 _ rfl).2; have kwe_3_2 := (B3.out.cells 2 _ rfl).1; have fwe_3_2 := (B3.out.cells 2 _ rfl).2; have kwe_3_3 := (B3.out.cells 3 _ rfl).1; have fwe_3_3 := (B3.out.cells 3 _ rfl).2; have kwe_3_4 := (B3.out.cells 4 _ rfl).1; have fwe_3_4 := (B3.out.cells 4 _ rfl).2; have kwe_O_0 := (BK.out.cells 0 _ rfl).1; have fwe_O_0 := (BK.out.cells 0 _ rfl).2; have kwe_O_1 := (BK.out.cells 1 _ rfl).1; have fwe_O_1 := (BK.out.cells 1 _ rfl).2; have kwe_O_2 := (BK.out.cells 2 _ rfl).1; have fwe_O_2 := (BK.out.cells 2 _ rfl).2; have kwe_O_3 := (BK.out.cells 3 _ rfl).1; have fwe_O_3 := (BK.out.cells 3 _ rfl).2; have kwe_O_4 := (BK.out.cells 4 _ rfl).1; have fwe_O_4 := (BK.out.cells 4 _ rfl).2; have kwe_Q_0 := (BJ.out.cells 0 _ rfl).1; have fwe_Q_0 := (BJ.out.cells 0 _ rfl).2; have kwe_Q_1 := (BJ.out.cells 1 _ rfl).1; have fwe_Q_1 := (BJ.out.cells 1 _ rfl).2; have kwe_Q_2 := (BJ.out.cells 2 _ rfl).1; have fwe_Q_2 := (BJ.out.cells 2 _ rfl).2; have kwe_Q_3 := (BJ.out.cells 3 _ rfl).1; have fwe_Q_3 := (BJ.out.cells 3 _ rfl).2; have kwe_Q_4 := (BJ.out.cells 4 _ rfl).1; have fwe_Q_4 := (BJ.out.cells 4 _ rfl).2
    have xwe_O := BK.out.lt; have xwe_Q := BJ.out.lt; have xwe_2 := B2.out.lt; have xwe_3 := B3.out.lt
    by_cases hlt : n < xs.length
    · have hltI : (n : Int) < xs.length := by omega
      have hn0 : (0 : Int) ≤ n := by omega
      obtain ⟨⟨ad, va, dn, wt⟩, hx⟩ := getx (xs := ws) (k := n) (by have := HWL.out; omega)
      have HX := Lib.hid hx
      obtain ⟨gu, uc', hue, hgB, hgu⟩ := Own.addr OU.out (by have := HWL.out; omega)
      simp only [Value.slice.injEq] at hue
      obtain ⟨rfl, hue1, rfl⟩ := hue
      have hgo := OF3.out gu (mem_one rfl)
      have g1 : ¬ gu = wa.heap.size := hgo.1
      have g2 : ¬ wa.heap.size = gu := fun e => hgo.1 e.symm
      have g3 : ¬ gu = wa.heap.size + 1 := hgo.2
      have g4 : ¬ wa.heap.size + 1 = gu := fun e => hgo.2 e.symm
      have g5 : ¬ gu = w.heap.size + 1 + 1 := by omega
      have g6 : ¬ w.heap.size + 1 + 1 = gu := by omega
      have g7 : ¬ gu = w.heap.size + 1 + 1 + 1 := by omega
      have g8 : ¬ w.heap.size + 1 + 1 + 1 = gu := by omega
      obtain ⟨-, -, e0, d0, e1, d1, e2, d2', e3, d3⟩ := OwnWr.slot OU.out hx
      dsimp only at e0 e1 e2 e3
      have hst := wStep_at (k := k) (ph := ph1) (nx := nx1) hx
      have hadw := HAD.out n _ hx
      dsimp only at hadw
      have hsz2 := szK_wr k ⟨ad, va, dn, wt⟩
      have hda := wrW_ad k ⟨ad, va, dn, wt⟩
      have cp := fun W (h1 : KAt W ⟨⟨⟨.slice zco zvs.length zcc, .slice zuo k.m.f.used.length zuc, zvs⟩, .slice zeo k.m.ents.length zec⟩, .slice zro k.refuse.length zrc⟩ k) => i_WriterStep ⟨⟨⟨.slice zco zvs.length zcc, .slice zuo k.m.f.used.length zuc, zvs⟩, .slice zeo k.m.ents.length zec⟩, .slice zro k.refuse.length zrc⟩ k ad va dn wt HSZ.out hadw W h1
      simp only [KV.val] at cp
      obtain ⟨K2, hK2⟩ : ∃ q, wrK k ⟨ad, va, dn, wt⟩ = q := ⟨_, rfl⟩
      obtain ⟨X2, hX2⟩ : ∃ q, wrW k ⟨ad, va, dn, wt⟩ = q := ⟨_, rfl⟩
      rw [hK2] at cp hst hsz2
      rw [hX2] at cp hst hda
      obtain ⟨a2, v2, d2, t2⟩ := X2
      have HST := Lib.hid hst; have HDA := Lib.hid hda
      have HS2 : Hid (szK K2 ≤ 1048576) := Lib.hid (by rw [hsz2]; exact HSZ.out)
      have CP := Lib.hid cp
      clear cp hst hda hsz2 hK2 hX2 hadw hgo hx hue1
      go_wp2_with (fail)
      go_region_with ((go_at_call 31; (refine (CP.out _ (OZ.out.at.below (by exact bel))).mono ?_; rintro e w2 ⟨x9, rfl, hxo, hb⟩; (obtain ⟨xco, xcc, xuo, xuc, xvs, xeo, xec, xro, xrc, rfl⟩ := KOwn.shapes hxo); have OX := Lib.hid hxo; have HBX := Lib.hid hb; (have HX0 : Hid (∀ g ∈ blocks (KV.all ⟨⟨⟨.slice xco xvs.length xcc, .slice xuo K2.m.f.used.length xuc, xvs⟩, .slice xeo K2.m.ents.length xec⟩, .slice xro K2.refuse.length xrc⟩), we.heap.size ≤ g ∧ g < w2.heap.size) := Lib.hid (fun g hg => by have h := KOwn.lts hxo g hg; (try simp only [World.size_setCell, World.size_drew] at h); exact h)); (have HBW2 := Lib.hid (show Below we.heap.size we w2 from (by exact bel))); obtain ⟨kwf_2_0, fwf_2_0, kwf_2_1, fwf_2_1, kwf_2_2, fwf_2_2, kwf_2_3, fwf_2_3, kwf_2_4, fwf_2_4⟩ := kf5 hb (w.heap.size + 1 + 1) (.slice none 0 0) (.slice none 0 0) (.slice none 0 0) (.int .i64 0) (.slice none 0 0); obtain ⟨kwf_3_0, fwf_3_0, kwf_3_1, fwf_3_1, kwf_3_2, fwf_3_2, kwf_3_3, fwf_3_3, kwf_3_4, fwf_3_4⟩ := kf5 hb (w.heap.size + 1 + 1 + 1) (.int .i64 0) (.int .i64 0) (.slice none 0 0) (.int .i64 0) (.int .i64 0); obtain ⟨kwf_O_0, fwf_O_0, kwf_O_1, fwf_O_1, kwf_O_2, fwf_O_2, kwf_O_3, fwf_O_3, kwf_O_4, fwf_O_4⟩ := kf5 hb (wa.heap.size) (.slice zco zvs.length zcc) (.slice zuo k.m.f.used.length zuc) (.slice zeo k.m.ents.length zec) (.int .i64 (k.calls)) (.slice zro k.refuse.length zrc); obtain ⟨kwf_Q_0, fwf_Q_0, kwf_Q_1, fwf_Q_1, kwf_Q_2, fwf_Q_2, kwf_Q_3, fwf_Q_3, kwf_Q_4, fwf_Q_4⟩ := kf5 hb (wa.heap.size + 1) (.int .i64 kp) (.int .i64 mv) (.slice vo cs.length vc) (.int .i64 ph1) (.int .i64 nx1); have kwf_E0 : w2.cell? ⟨gu, n * 4, none⟩ = some (.int .i64 ad) := kc hb; have fwf_E0 : w2.frozen? ⟨gu, n * 4, none⟩ = false := fc hb; have kwf_E1 : w2.cell? ⟨gu, n * 4 + 1, none⟩ = some (.int .i64 va) := kc hb; have fwf_E1 : w2.frozen? ⟨gu, n * 4 + 1, none⟩ = false := fc hb; have kwf_E2 : w2.cell? ⟨gu, n * 4 + 2, none⟩ = some (.bool dn) := kc hb; have fwf_E2 : w2.frozen? ⟨gu, n * 4 + 2, none⟩ = false := fc hb; have kwf_E3 : w2.cell? ⟨gu, n * 4 + 3, none⟩ = some (.int .i64 wt) := kc hb; have fwf_E3 : w2.frozen? ⟨gu, n * 4 + 3, none⟩ = false := fc hb; have xwf_2 : w.heap.size + 1 + 1 < w2.heap.size := xc hb; have xwf_3 : w.heap.size + 1 + 1 + 1 < w2.heap.size := xc hb; have xwf_O : wa.heap.size < w2.heap.size := xc hb; have xwf_Q : wa.heap.size + 1 < w2.heap.size := xc hb; have xwf_EX : gu < w2.heap.size := xc hb; have hzwf := hb.size; (try simp only [World.size_alloc, World.size_setCell, World.size_drew] at hzwf); clear hxo; simp only [KV.val, Wr.val]; obtain ⟨wf, rfl⟩ : ∃ x, x = w2 := ⟨_, rfl⟩)))
      all_goals (
        go_wp2_with fail
        have HBWF := Lib.hid (BWE.out.trans (HBW2.out.mono (by omega)))
        go_roundw
        case rel =>
          refine ⟨n + 1, K2, ws.set n ⟨a2, v2, d2, t2⟩, ⟨⟨⟨.slice xco xvs.length xcc, .slice xuo K2.m.f.used.length xuc, xvs⟩, .slice xeo K2.m.ents.length xec⟩, .slice xro K2.refuse.length xrc⟩, by go_num, by omega, ?_, HS2.out, HAD.out.set HX.out HDA.out, by rw [List.length_set]; exact HWL.out, (BoxAt.snoc (BoxAt.snoc (BoxAt.snoc (BoxAt.snoc (BoxAt.snoc (BoxAt.nil (w := _) (g := wa.heap.size) (by exact zo)) (v := .slice xco xvs.length xcc) (i := 0) rfl (by go_simp) (by go_simp)) (v := .slice xuo K2.m.f.used.length xuc) (i := 1) rfl (by go_simp) (by go_simp)) (v := .slice xeo K2.m.ents.length xec) (i := 2) rfl (by go_simp) (by go_simp)) (v := .int .i64 (K2.calls)) (i := 3) rfl (by go_simp) (by go_simp)) (v := .slice xro K2.refuse.length xrc) (i := 4) rfl (by go_simp) (by go_simp)), (BoxAt.snoc (BoxAt.snoc (BoxAt.snoc (BoxAt.snoc (BoxAt.snoc (BoxAt.nil (w := _) (g := wa.heap.size + 1) (by exact zo)) (v := .int .i64 kp) (i := 0) rfl (by go_simp) (by go_simp)) (v := .int .i64 mv) (i := 1) rfl (by go_simp) (by go_simp)) (v := .slice vo cs.length vc) (i := 2) rfl (by go_simp) (by go_simp)) (v := .int .i64 ph1) (i := 3) rfl (by go_simp) (by go_simp)) (v := .int .i64 nx1) (i := 4) rfl (by go_simp) (by go_simp)), (BoxAt.snoc (BoxAt.snoc (BoxAt.snoc (BoxAt.snoc (BoxAt.snoc (BoxAt.nil (w := _) (g := w.heap.size + 1 + 1) (by exact zo)) (v := .slice none 0 0) (i := 0) rfl (by go_simp) (by go_simp)) (v := .slice none 0 0) (i := 1) rfl (by go_simp) (by go_simp)) (v := .slice none 0 0) (i := 2) rfl (by go_simp) (by go_simp)) (v := .int .i64 0) (i := 3) rfl (by go_simp) (by go_simp)) (v := .slice none 0 0) (i := 4) rfl (by go_simp) (by go_simp)), (BoxAt.snoc (BoxAt.snoc (BoxAt.snoc (BoxAt.snoc (BoxAt.snoc (BoxAt.nil (w := _) (g := w.heap.size + 1 + 1 + 1) (by exact zo)) (v := .int .i64 0) (i := 0) rfl (by go_simp) (by go_simp)) (v := .int .i64 0) (i := 1) rfl (by go_simp) (by go_simp)) (v := .slice none 0 0) (i := 2) rfl (by go_simp) (by go_simp)) (v := .int .i64 0) (i := 3) rfl (by go_simp) (by go_simp)) (v := .int .i64 0) (i := 4) rfl (by go_simp) (by go_simp)), ?_, ?_, ?_, ?_, OF2.out, OF3.out, ?_, ?_, AP3.out, ?_⟩
          · rw [finTo, HT.out]; exact HST.out
          · exact KOwn.mono (KOwn.touch (S := [wa.heap.size, gu]) OX.out (by repeat (first | (with_reducible refine touch_setC ?_ (by simp)) | (with_reducible exact Touch.refl _ _))) (fun g hg hm => by have h1 := (HX0.out g hg).1; simp only [List.mem_cons, List.not_mem_nil, or_false] at hm; omega)) (by first | omega | exact zo | exact zt)
          · exact Own.touchs (S := [wa.heap.size, gu]) (Own.below OW.out HBW2.out) (by repeat (first | (with_reducible refine touch_setC ?_ (by simp)) | (with_reducible exact Touch.refl _ _))) (fun g hg hm => by have h1 := OF2.out g hg; rcases List.mem_cons.1 hm with e | hm; (focus exact h1.1 e); (focus (cases List.mem_singleton.1 hm; exact AP3.out _ hg (mem_one rfl))))
          · first
            | (with_reducible refine OwnWr.put (w := (((((wf.setCell ⟨wa.heap.size, 0, none⟩ (.slice xco xvs.length xcc)).setCell ⟨wa.heap.size, 1, none⟩ (.slice xuo K2.m.f.used.length xuc)).setCell ⟨wa.heap.size, 2, none⟩ (.slice xeo K2.m.ents.length xec)).setCell ⟨wa.heap.size, 3, none⟩ (.int .i64 (K2.calls))).setCell ⟨wa.heap.size, 4, none⟩ (.slice xro K2.refuse.length xrc))) ?_ ?_ a2 v2 d2 t2
               (focus (exact Own.touchs (S := [wa.heap.size]) (Own.below OU.out HBW2.out) (by repeat (first | (with_reducible refine touch_setC ?_ (by simp)) | (with_reducible exact Touch.refl _ _))) (fun g hg hm => by have h1 := OF3.out g hg; cases List.mem_singleton.1 hm; exact h1.1 rfl)))
               (focus (have := HWL.out; omega)))
            | (refine Own.touchs (S := [wa.heap.size]) (w := ((((wf.setCell ⟨gu, n * 4, none⟩ (.int .i64 a2)).setCell ⟨gu, n * 4 + 1, none⟩ (.int .i64 v2)).setCell ⟨gu, n * 4 + 2, none⟩ (.bool d2)).setCell ⟨gu, n * 4 + 3, none⟩ (.int .i64 t2))) ?_ ?_ ?_
               (focus (exact OwnWr.put (Own.below OU.out HBW2.out) (by have := HWL.out; omega) a2 v2 d2 t2))
               (focus (exact (by repeat (fail))))
               (focus (intro g hg hm; have h1 := OF3.out g hg; cases List.mem_singleton.1 hm; exact h1.1 rfl)))
          · intro b hb; have h1 := (HX0.out b hb).1; omega
          · intro g hg hm; have h1 := (HX0.out g hg).1; have h2 := (Own.lts OW.out g hm).2; omega
          · intro g hg hm; have h1 := (HX0.out g hg).1; have h2 := (Own.lts OU.out g hm).2; omega
          · exact HBWF.out.trans (Touch.toBelow (S := [wa.heap.size, gu]) (by repeat (first | (with_reducible refine touch_setC ?_ (by simp)) | (with_reducible exact Touch.refl _ _))) (fun g hm => by simp only [List.mem_cons, List.not_mem_nil, or_false] at hm; omega) (by omega))
        case measure => first | (simp [intOf]; done) | (simp [intOf]; omega))
    · have hltI : ¬ (n : Int) < xs.length := by omega
      obtain rfl : n = xs.length := by omega
      have e : TE = ⟨⟨k, ph1, nx1⟩, ws⟩ := HTE.out.symm.trans HT.out
      subst e
      have hwl := HWL.out
      go_wp2_with (fail)
      go_region_held3 (fun w' => w'.cell? ⟨wa.heap.size, 0, none⟩ = some (.slice zco zvs.length zcc) ∧ w'.cell? ⟨wa.heap.size, 1, none⟩ = some (.slice zuo k.m.f.used.length zuc) ∧ w'.cell? ⟨wa.heap.size, 2, none⟩ = some (.slice zeo k.m.ents.length zec) ∧ w'.cell? ⟨wa.heap.size, 3, none⟩ = some (.int .i64 (k.calls)) ∧ w'.cell? ⟨wa.heap.size, 4, none⟩ = some (.slice zro k.refuse.length zrc) ∧ w'.cell? ⟨wa.heap.size + 1, 0, none⟩ = some (.int .i64 kp) ∧ w'.cell? ⟨wa.heap.size + 1, 1, none⟩ = some (.int .i64 mv) ∧ w'.cell? ⟨wa.heap.size + 1, 2, none⟩ = some (.slice vo cs.length vc) ∧ w'.cell? ⟨wa.heap.size + 1, 3, none⟩ = some (.int .i64 ph1) ∧ w'.cell? ⟨wa.heap.size + 1, 4, none⟩ = some (.int .i64 nx1)) ((refine ⟨?_, ?_, ?_, ?_, ?_, ?_, ?_, ?_, ?_, ?_⟩ <;> (go_simp; done))) (fail)
      all_goals go_wp2_with fail
      all_goals (refine bodyPost_ret (v := .tuple #[.agg #[.slice zco zvs.length zcc, .slice zuo k.m.f.used.length zuc, .slice zeo k.m.ents.length zec, .int .i64 (k.calls), .slice zro k.refuse.length zrc], .agg #[.int .i64 kp, .int .i64 mv, .slice vo cs.length vc, .int .i64 ph1, .int .i64 nx1], .slice uo xs.length uc]) (by simp [results, Try.results30, go_sem, kwe_2_0, fwe_2_0, kwe_2_1, fwe_2_1, kwe_2_2, fwe_2_2, kwe_2_3, fwe_2_3, kwe_2_4, fwe_2_4, kwe_3_0, fwe_3_0, kwe_3_1, fwe_3_1, kwe_3_2, fwe_3_2, kwe_3_3, fwe_3_3, kwe_3_4, fwe_3_4, kwe_O_0, fwe_O_0, kwe_O_1, fwe_O_1, kwe_O_2, fwe_O_2, kwe_O_3, fwe_O_3, kwe_O_4, fwe_O_4, kwe_Q_0, fwe_Q_0, kwe_Q_1, fwe_Q_1, kwe_Q_2, fwe_Q_2, kwe_Q_3, fwe_Q_3, kwe_Q_4, fwe_Q_4]) rfl ?_; refine ⟨⟨⟨⟨.slice zco zvs.length zcc, .slice zuo k.m.f.used.length zuc, zvs⟩, .slice zeo k.m.ents.length zec⟩, .slice zro k.refuse.length zrc⟩, .slice vo cs.length vc, .slice uo xs.length uc, rfl, ?_⟩; exact kjw_fin (S := [w.heap.size + 1 + 1, w.heap.size + 1 + 1 + 1]) (wl := we) OZ.out OW.out OU.out (by omega) (by omega) (by omega) (by repeat (first | (with_reducible refine touch_setC ?_ (by simp)) | (with_reducible refine touch_drewT ?_) | (with_reducible exact Touch.refl _ _))) (fun g hg hm => by have h1 := (OZ.out.lts g hg).1; simp only [List.mem_cons, List.not_mem_nil, or_false] at hm; omega) (fun g hg hm => by have h1 := (Own.lts OW.out g hg).1; simp only [List.mem_cons, List.not_mem_nil, or_false] at hm; omega) (fun g hg hm => by have h1 := (Own.lts OU.out g hg).1; simp only [List.mem_cons, List.not_mem_nil, or_false] at hm; omega) AP1.out AP2.out AP3.out BWE.out (fun g hm => by simp only [List.mem_cons, List.not_mem_nil, or_false] at hm; omega))

end Go.Proofs.Ytkkebpcclklmcaa
