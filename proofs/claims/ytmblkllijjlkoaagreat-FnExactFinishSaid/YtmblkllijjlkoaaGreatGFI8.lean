/-
  Texts put together: FinS.
-/
import Derived.Test.YtmblkllijjlkoaaGreatGFI6
import Derived.Test.YtmblkllijjlkoaaGreatGB42
/-
  The job is run to its end, then every writer steps once: the reference.
-/
set_option linter.unusedVariables false
set_option linter.unusedSimpArgs false
namespace Go.Proofs.YtmblkllijjlkoaaGreat
open Go.RowKit
theorem finTo_stop {t : IS} {n : Nat} {k : Ker} {ph nx : Int} {ws : List Wr} (h : finTo n t = ⟨⟨k, ph, nx⟩, ws⟩) (hk : kernelOk k = false) : ∀ m, finTo (n + m) t = ⟨⟨k, ph, nx⟩, ws⟩
  | 0 => h
  | m + 1 => by
    rw [← Nat.add_assoc, finTo, finTo_stop h hk m]
    unfold wStep
    dsimp only
    have e1 : ∀ x, wrK k x = k := fun x => by unfold wrK; rw [hk]; simp
    have e2 : ∀ x, wrW k x = x := fun x => by unfold wrW; rw [hk]; simp
    rw [e1, e2]
    congr 1
    by_cases hl : n + m < ws.length
    · unfold wAt
      rw [List.getD_eq_getElem?_getD, List.getElem?_eq_getElem hl]
      exact List.set_getElem_self hl
    · exact List.set_eq_of_length_le (by omega)
set_option maxRecDepth 20000 in
set_option maxHeartbeats 25600000 in
theorem s_Finish (x : KV) (K : Ker) (kp mv : Int) (v : Value) (cs : List Int) (ph nx : Int) (u : Value) (xs : List Wr) (hs : szK K ≤ 1048576) (hc : cs.length ≤ 1048576) (hx : xs.length ≤ 1048576) (had : AdOk xs) (w : World) (ha : KAt w x K) (hv : IntsAt w v cs) (hu : WrAt w u xs) : Calls Tryz.prog 44 #[x.val K.calls, .agg #[.int .i64 kp, .int .i64 mv, v, .int .i64 ph, .int .i64 nx], u] w (NewKJW w (finishI kp mv cs ⟨⟨K, ph, nx⟩, xs⟩) kp mv cs) := by
  obtain ⟨⟨⟨xz, xu, xvs⟩, xe⟩, xr⟩ := x
  obtain ⟨ao, ca, rfl, hl1, hl2⟩ := hv.shape
  obtain ⟨uao, uca, rfl, hl3, hl4⟩ := hu.shape
  have HK := Lib.hid ha
  have HV := Lib.hid hv
  have HU := Lib.hid hu
  have H3 := Lib.hid hc
  have H4 := Lib.hid hx
  have HAD := Lib.hid had
  have hxm : xs.length ≤ 9223372036854775807 := by omega
  have cp0 := fun W (h1 : KAt W ⟨⟨⟨xz, xu, xvs⟩, xe⟩, xr⟩ K) (h2 : IntsAt W (.slice ao cs.length ca) cs) => s_JobRun ⟨⟨⟨xz, xu, xvs⟩, xe⟩, xr⟩ K kp mv (.slice ao cs.length ca) cs ph nx 200 hs hc W h1 h2
  simp only [KV.val, runTo200] at cp0
  simp only [KV.val]
  unfold finishI
  dsimp only
  have hsz0 := sz_runJ (kp := kp) (mv := mv) (cs := cs) 200 ⟨K, ph, nx⟩
  obtain ⟨R, hR⟩ : ∃ R, runJ kp mv cs 200 ⟨K, ph, nx⟩ = R := ⟨_, rfl⟩
  rw [hR] at cp0 hsz0 ⊢
  obtain ⟨k0, ph1, nx1⟩ := R
  dsimp only at cp0 hsz0
  have HS0 : Hid (szK k0 ≤ 1048576) := Lib.hid (by rw [hsz0]; exact hs)
  obtain ⟨TE, hTE⟩ : ∃ T, finTo xs.length ⟨⟨k0, ph1, nx1⟩, xs⟩ = T := ⟨_, rfl⟩
  rw [hTE]
  have HTE := Lib.hid hTE
  have CP0 := Lib.hid cp0
  clear ha hs hv hl1 hl2 hu hl3 hl4 hc hx had cp0 hsz0 hR hTE
  (have hall := all_nil w; go_enter Tryz.func44, Tryz.ntmps44)
  go_wp2_with (first | (go_at_call 32; (refine (CP0.out _ (HK.out.below (by exact bel)) (HV.out.below (by exact bel))).mono ?_; rintro e w2 ⟨y, v9, rfl, hyo, hvo, hyv, hb⟩; (obtain ⟨yco, ycc, yuo, yuc, yvs, yeo, yec, yro, yrc, rfl⟩ := KOwn.shapes hyo); (obtain ⟨vo, vc, rfl, -, -⟩ := hvo.shape); have OK := Lib.hid hyo; have OV := Lib.hid hvo; have AP := Lib.hid hyv; have HB1 := Lib.hid hb; obtain ⟨kwa_2_0, fwa_2_0, kwa_2_1, fwa_2_1, kwa_2_2, fwa_2_2, kwa_2_3, fwa_2_3, kwa_2_4, fwa_2_4⟩ := kf5 hb (w.heap.size + 1 + 1) (.slice none 0 0) (.slice none 0 0) (.slice none 0 0) (.int .i64 0) (.slice none 0 0); obtain ⟨kwa_3_0, fwa_3_0, kwa_3_1, fwa_3_1, kwa_3_2, fwa_3_2, kwa_3_3, fwa_3_3, kwa_3_4, fwa_3_4⟩ := kf5 hb (w.heap.size + 1 + 1 + 1) (.int .i64 0) (.int .i64 0) (.slice none 0 0) (.int .i64 0) (.int .i64 0); have xwa_2 : w.heap.size + 1 + 1 < w2.heap.size := xc hb; have xwa_3 : w.heap.size + 1 + 1 + 1 < w2.heap.size := xc hb; have hzwa := hb.size; (try simp only [World.size_alloc, World.size_setCell, World.size_drew] at hzwa); (have q2 : w.heap.size < w2.heap.size := by omega); (have q3 : w.heap.size + 1 < w2.heap.size := by omega); (have q0 : ¬ w.heap.size = w2.heap.size := by omega); (have q1 : ¬ w.heap.size + 1 = w2.heap.size := by omega); clear hyo hvo hyv; simp only [KV.val]; obtain ⟨wa, rfl⟩ : ∃ x, x = w2 := ⟨_, rfl⟩)) | (at_builtin; refine wpList_appendAll elemWr rfl _ _ rfl lenWr oneWr rfl (Own.empty' _ _ _ (wa.heap.size + 1 + 1) _ _ (by first | rfl | simp) (by exact zt)) (by exact zt) rfl (HU.out.below (by have hB1 := HB1.out; exact bel)) (by have h4 := H4.out; simp only [List.length_nil, maxLen]; omega) ?_; intro u w2 hown2 hgr2 hat2 hb; (try simp only [List.nil_append] at hown2); obtain ⟨uo, uc, rfl, -, -⟩ := hown2.shape; have OU := Lib.hid hown2; have HB2 := Lib.hid hb; clear hown2 hgr2 hat2; obtain ⟨kwb_2_0, fwb_2_0, kwb_2_1, fwb_2_1, kwb_2_2, fwb_2_2, kwb_2_3, fwb_2_3, kwb_2_4, fwb_2_4⟩ := kf5 hb (w.heap.size + 1 + 1) (.slice none 0 0) (.slice none 0 0) (.slice none 0 0) (.int .i64 0) (.slice none 0 0); obtain ⟨kwb_3_0, fwb_3_0, kwb_3_1, fwb_3_1, kwb_3_2, fwb_3_2, kwb_3_3, fwb_3_3, kwb_3_4, fwb_3_4⟩ := kf5 hb (w.heap.size + 1 + 1 + 1) (.int .i64 0) (.int .i64 0) (.slice none 0 0) (.int .i64 0) (.int .i64 0); obtain ⟨kwb_O_0, fwb_O_0, kwb_O_1, fwb_O_1, kwb_O_2, fwb_O_2, kwb_O_3, fwb_O_3, kwb_O_4, fwb_O_4⟩ := kf5 hb (wa.heap.size) (.slice yco yvs.length ycc) (.slice yuo k0.m.f.used.length yuc) (.slice yeo k0.m.ents.length yec) (.int .i64 (k0.calls)) (.slice yro k0.refuse.length yrc); obtain ⟨kwb_Q_0, fwb_Q_0, kwb_Q_1, fwb_Q_1, kwb_Q_2, fwb_Q_2, kwb_Q_3, fwb_Q_3, kwb_Q_4, fwb_Q_4⟩ := kf5 hb (wa.heap.size + 1) (.int .i64 kp) (.int .i64 mv) (.slice vo cs.length vc) (.int .i64 ph1) (.int .i64 nx1); have xwb_2 : w.heap.size + 1 + 1 < w2.heap.size := xc hb; have xwb_3 : w.heap.size + 1 + 1 + 1 < w2.heap.size := xc hb; have xwb_O : wa.heap.size < w2.heap.size := xc hb; have xwb_Q : wa.heap.size + 1 < w2.heap.size := xc hb; have hzwb := hb.size; (try simp only [World.size_alloc, World.size_setCell, World.size_drew] at hzwb); obtain ⟨wb, rfl⟩ : ∃ x, x = w2 := ⟨_, rfl⟩))
  go_loopw [12] (fun m wr => ∃ (n : Nat) (k : Ker) (ws : List Wr) (y : KV), m = .int .i64 (n : Int) ∧ n ≤ xs.length ∧ finTo n ⟨⟨k0, ph1, nx1⟩, xs⟩ = ⟨⟨k, ph1, nx1⟩, ws⟩ ∧ szK k ≤ 1048576 ∧ AdOk ws ∧ ws.length = xs.length ∧ KIn (w.heap.size + 1 + 1 + 1 + 1) wr (wa.heap.size) y k ∧ BoxAt wr (wa.heap.size + 1) [.int .i64 kp, .int .i64 mv, .slice vo cs.length vc, .int .i64 ph1, .int .i64 nx1] ∧ BoxAt wr (w.heap.size + 1 + 1) [.slice none 0 0, .slice none 0 0, .slice none 0 0, .int .i64 0, .slice none 0 0] ∧ BoxAt wr (w.heap.size + 1 + 1 + 1) [.int .i64 0, .int .i64 0, .slice none 0 0, .int .i64 0, .int .i64 0] ∧ OwnI (w.heap.size + 1 + 1 + 1 + 1) wr (.slice vo cs.length vc) cs ∧ OwnWr (w.heap.size + 1 + 1 + 1 + 1) wr (.slice uo xs.length uc) ws ∧ (∀ b ∈ blocks (y.all), b ≠ wa.heap.size ∧ b ≠ wa.heap.size + 1) ∧ (∀ b ∈ blocks ([.slice vo cs.length vc]), b ≠ wa.heap.size ∧ b ≠ wa.heap.size + 1) ∧ (∀ b ∈ blocks ([.slice uo xs.length uc]), b ≠ wa.heap.size ∧ b ≠ wa.heap.size + 1) ∧ (∀ g ∈ blocks y.all, g ∉ blocks [.slice vo cs.length vc]) ∧ (∀ g ∈ blocks y.all, g ∉ blocks [.slice uo xs.length uc]) ∧ (∀ g ∈ blocks [.slice vo cs.length vc], g ∉ blocks [.slice uo xs.length uc]) ∧ Below w.heap.size w wr) (fun m _ => xs.length - (intOf m).toNat)
  case atStart =>
    refine ⟨0, k0, xs, ⟨⟨⟨.slice yco yvs.length ycc, .slice yuo k0.m.f.used.length yuc, yvs⟩, .slice yeo k0.m.ents.length yec⟩, .slice yro k0.refuse.length yrc⟩, rfl, Nat.zero_le _, rfl, HS0.out, HAD.out, rfl, ⟨⟨(by first | assumption | exact zt | (go_simp; done)), (by first | assumption | exact zt | (go_simp; done)), (by first | assumption | exact zt | (go_simp; done)), (by first | assumption | exact zt | (go_simp; done)), (by first | assumption | exact zt | (go_simp; done)), (by first | assumption | exact zt | (go_simp; done)), (by first | assumption | exact zt | (go_simp; done)), (by first | assumption | exact zt | (go_simp; done)), (by first | assumption | exact zt | (go_simp; done)), (by first | assumption | exact zt | (go_simp; done)), (by first | assumption | exact zt | (go_simp; done))⟩, (OK.out.below (by exact bel)).mono (by exact zt), by omega, fun hm => by have := (OK.out.lts _ hm).2; omega⟩, (BoxAt.snoc (BoxAt.snoc (BoxAt.snoc (BoxAt.snoc (BoxAt.snoc (BoxAt.nil (w := _) (g := wa.heap.size + 1) (by first | assumption | exact zt | (go_simp; done))) (v := .int .i64 kp) (i := 0) rfl (by first | assumption | exact zt | (go_simp; done)) (by first | assumption | exact zt | (go_simp; done))) (v := .int .i64 mv) (i := 1) rfl (by first | assumption | exact zt | (go_simp; done)) (by first | assumption | exact zt | (go_simp; done))) (v := .slice vo cs.length vc) (i := 2) rfl (by first | assumption | exact zt | (go_simp; done)) (by first | assumption | exact zt | (go_simp; done))) (v := .int .i64 ph1) (i := 3) rfl (by first | assumption | exact zt | (go_simp; done)) (by first | assumption | exact zt | (go_simp; done))) (v := .int .i64 nx1) (i := 4) rfl (by first | assumption | exact zt | (go_simp; done)) (by first | assumption | exact zt | (go_simp; done))), (BoxAt.snoc (BoxAt.snoc (BoxAt.snoc (BoxAt.snoc (BoxAt.snoc (BoxAt.nil (w := _) (g := w.heap.size + 1 + 1) (by first | assumption | exact zt | (go_simp; done))) (v := .slice none 0 0) (i := 0) rfl (by first | assumption | exact zt | (go_simp; done)) (by first | assumption | exact zt | (go_simp; done))) (v := .slice none 0 0) (i := 1) rfl (by first | assumption | exact zt | (go_simp; done)) (by first | assumption | exact zt | (go_simp; done))) (v := .slice none 0 0) (i := 2) rfl (by first | assumption | exact zt | (go_simp; done)) (by first | assumption | exact zt | (go_simp; done))) (v := .int .i64 0) (i := 3) rfl (by first | assumption | exact zt | (go_simp; done)) (by first | assumption | exact zt | (go_simp; done))) (v := .slice none 0 0) (i := 4) rfl (by first | assumption | exact zt | (go_simp; done)) (by first | assumption | exact zt | (go_simp; done))), (BoxAt.snoc (BoxAt.snoc (BoxAt.snoc (BoxAt.snoc (BoxAt.snoc (BoxAt.nil (w := _) (g := w.heap.size + 1 + 1 + 1) (by first | assumption | exact zt | (go_simp; done))) (v := .int .i64 0) (i := 0) rfl (by first | assumption | exact zt | (go_simp; done)) (by first | assumption | exact zt | (go_simp; done))) (v := .int .i64 0) (i := 1) rfl (by first | assumption | exact zt | (go_simp; done)) (by first | assumption | exact zt | (go_simp; done))) (v := .slice none 0 0) (i := 2) rfl (by first | assumption | exact zt | (go_simp; done)) (by first | assumption | exact zt | (go_simp; done))) (v := .int .i64 0) (i := 3) rfl (by first | assumption | exact zt | (go_simp; done)) (by first | assumption | exact zt | (go_simp; done))) (v := .int .i64 0) (i := 4) rfl (by first | assumption | exact zt | (go_simp; done)) (by first | assumption | exact zt | (go_simp; done))), (Own.below OV.out (by exact bel)).mono (by exact zt), (OU.out.mono (by exact zt)), ?_, ?_, ?_, AP.out, ?_, ?_, by (have hB1 := HB1.out; have hB2 := HB2.out; exact bel)⟩
    · intro b hb; have h1 := (OK.out.lts b hb).2; omega
    · intro b hb; have h1 := (Own.lts OV.out b hb).2; omega
    · intro b hb; have h1 := (Own.lts OU.out b hb).1; (try simp only [World.size_alloc, World.size_setCell] at h1); omega
    · intro g hg hm; have h1 := (Own.lts OU.out g hm).1; (try simp only [World.size_alloc, World.size_setCell] at h1); have h2 := (OK.out.lts g hg).2; omega
    · intro g hg hm; have h1 := (Own.lts OU.out g hm).1; (try simp only [World.size_alloc, World.size_setCell] at h1); have h2 := (Own.lts OV.out g hg).2; omega
  case round =>
    clear OK OV OU AP HK HV HU HAD HS0 CP0
    clear kwa_2_0 fwa_2_0 kwa_2_1 fwa_2_1 kwa_2_2 fwa_2_2 kwa_2_3 fwa_2_3 kwa_2_4 fwa_2_4 kwa_3_0 fwa_3_0 kwa_3_1 fwa_3_1 kwa_3_2 fwa_3_2 kwa_3_3 fwa_3_3 kwa_3_4 fwa_3_4 xwa_2 xwa_3
    clear kwb_2_0 fwb_2_0 kwb_2_1 fwb_2_1 kwb_2_2 fwb_2_2 kwb_2_3 fwb_2_3 kwb_2_4 fwb_2_4 kwb_3_0 fwb_3_0 kwb_3_1 fwb_3_1 kwb_3_2 fwb_3_2 kwb_3_3 fwb_3_3 kwb_3_4 fwb_3_4 kwb_O_0 fwb_O_0 kwb_O_1 fwb_O_1 kwb_O_2 fwb_O_2 kwb_O_3 fwb_O_3 kwb_O_4 fwb_O_4 kwb_Q_0 fwb_Q_0 kwb_Q_1 fwb_Q_1 kwb_Q_2 fwb_Q_2 kwb_Q_3 fwb_Q_3 kwb_Q_4 fwb_Q_4 xwb_O xwb_Q xwb_2 xwb_3
    obtain ⟨n, k, ws, z, rfl, hn, ht, hsz, had, hwl, ki, bJ, b2, b3, oV, oU, of1, of2, of3, ap1, ap2, ap3, hbw⟩ := hrel
    obtain ⟨zco, zcc, zuo, zuc, zvs, zeo, zec, zro, zrc, rfl⟩ := ki.own.shapes
    obtain ⟨we, rfl⟩ : ∃ x, x = wr := ⟨_, rfl⟩
    have hzw := hbw.size
    have BK : Hid (BoxAt we (wa.heap.size) [.slice zco zvs.length zcc, .slice zuo k.m.f.used.length zuc, .slice zeo k.m.ents.length zec, .int .i64 (k.calls), .slice zro k.refuse.length zrc]) := Lib.hid (by obtain ⟨xg, c0, c1, c2, c3, c4, f0, f1, f2, f3, f4⟩ := ki.box; exact (BoxAt.snoc (BoxAt.snoc (BoxAt.snoc (BoxAt.snoc (BoxAt.snoc (BoxAt.nil (w := we) (g := wa.heap.size) (by first | assumption | exact zt | (go_simp; done))) (v := .slice zco zvs.length zcc) (i := 0) rfl (by first | assumption | exact zt | (go_simp; done)) (by first | assumption | exact zt | (go_simp; done))) (v := .slice zuo k.m.f.used.length zuc) (i := 1) rfl (by first | assumption | exact zt | (go_simp; done)) (by first | assumption | exact zt | (go_simp; done))) (v := .slice zeo k.m.ents.length zec) (i := 2) rfl (by first | assumption | exact zt | (go_simp; done)) (by first | assumption | exact zt | (go_simp; done))) (v := .int .i64 (k.calls)) (i := 3) rfl (by first | assumption | exact zt | (go_simp; done)) (by first | assumption | exact zt | (go_simp; done))) (v := .slice zro k.refuse.length zrc) (i := 4) rfl (by first | assumption | exact zt | (go_simp; done)) (by first | assumption | exact zt | (go_simp; done))))
    have KI := Lib.hid ki; have BJ := Lib.hid bJ; have B2 := Lib.hid b2; have B3 := Lib.hid b3; have OW := Lib.hid oV; have OU := Lib.hid oU; have OF1 := Lib.hid of1; have OF2 := Lib.hid of2; have OF3 := Lib.hid of3; have AP1 := Lib.hid ap1; have AP2 := Lib.hid ap2; have AP3 := Lib.hid ap3; have BWE := Lib.hid hbw; have HSZ := Lib.hid hsz; have HT := Lib.hid ht; have HAD := Lib.hid had; have HWL := Lib.hid hwl
    clear ki bJ b2 b3 oV oU of1 of2 of3 ap1 ap2 ap3 hbw hsz ht had hwl
    have kwe_2_0 := (B2.out.cells 0 _ rfl).1; have fwe_2_0 := (B2.out.cells 0 _ rfl).2; have kwe_2_1 := (B2.out.cells 1 _ rfl).1; have fwe_2_1 := (B2.out.cells 1 _ rfl).2; have kwe_2_2 := (B2.out.cells 2 _ rfl).1; have fwe_2_2 := (B2.out.cells 2 _ rfl).2; have kwe_2_3 := (B2.out.cells 3 _ rfl).1; have fwe_2_3 := (B2.out.cells 3 _ rfl).2; have kwe_2_4 := (B2.out.cells 4 _ rfl).1; have fwe_2_4 := (B2.out.cells 4 _ rfl).2; have kwe_3_0 := (B3.out.cells 0 _ rfl).1; have fwe_3_0 := (B3.out.cells 0 _ rfl).2; have kwe_3_1 := (B3.out.cells 1 _ rfl).1; have fwe_3_1 := (B3.out.cells 1 _ rfl).2; have kwe_3_2 := (B3.out.cells 2 _ rfl).1; have fwe_3_2 := (B3.out.cells 2 _ rfl).2; have kwe_3_3 := (B3.out.cells 3 _ rfl).1; have fwe_3_3 := (B3.out.cells 3 _ rfl).2; have kwe_3_4 := (B3.out.cells 4 _ rfl).1; have fwe_3_4 := (B3.out.cells 4 _ rfl).2; have kwe_O_0 := (BK.out.cells 0 _ rfl).1; have fwe_O_0 := (BK.out.cells 0 _ rfl).2; have kwe_O_1 := (BK.out.cells 1 _ rfl).1; have fwe_O_1 := (BK.out.cells 1 _ rfl).2; have kwe_O_2 := (BK.out.cells 2 _ rfl).1; have fwe_O_2 := (BK.out.cells 2 _ rfl).2; have kwe_O_3 := (BK.out.cells 3 _ rfl).1; have fwe_O_3 := (BK.out.cells 3 _ rfl).2; have kwe_O_4 := (BK.out.cells 4 _ rfl).1; have fwe_O_4 := (BK.out.cells 4 _ rfl).2; have kwe_Q_0 := (BJ.out.cells 0 _ rfl).1; have fwe_Q_0 := (BJ.out.cells 0 _ rfl).2; have kwe_Q_1 := (BJ.out.cells 1 _ rfl).1; have fwe_Q_1 := (BJ.out.cells 1 _ rfl).2; have kwe_Q_2 := (BJ.out.cells 2 _ rfl).1; have fwe_Q_2 := (BJ.out.cells 2 _ rfl).2; have kwe_Q_3 := (BJ.out.cells 3 _ rfl).1; have fwe_Q_3 := (BJ.out.cells 3 _ rfl).2; have kwe_Q_4 := (BJ.out.cells 4 _ rfl).1; have fwe_Q_4 := (BJ.out.cells 4 _ rfl).2
    have xwe_O := BK.out.lt; have xwe_Q := BJ.out.lt; have xwe_2 := B2.out.lt; have xwe_3 := B3.out.lt
    by_cases hlt : n < xs.length
    · have hltI : (n : Int) < xs.length := by omega
      have hn0 : (0 : Int) ≤ n := by omega
      cases hko : kernelOk k
      · have HKO := Lib.hid hko
        obtain ⟨d, hd⟩ : ∃ d, xs.length = n + d := ⟨xs.length - n, by omega⟩
        have e : TE = ⟨⟨k, ph1, nx1⟩, ws⟩ := by rw [← HTE.out, hd]; exact finTo_stop HT.out hko d
        subst e
        clear hko hd
        have hwl := HWL.out
        go_wp2_with ((go_at_call 81; (refine (s_KernelOk ⟨⟨⟨.slice zco zvs.length zcc, .slice zuo k.m.f.used.length zuc, zvs⟩, .slice zeo k.m.ents.length zec⟩, .slice zro k.refuse.length zrc⟩ k _ HKO.out _ (KI.out.own.at.below (by exact bel))).mono ?_; rintro e w2 ⟨rfl, hb⟩; have HB5 := Lib.hid hb; obtain ⟨kwf_2_0, fwf_2_0, kwf_2_1, fwf_2_1, kwf_2_2, fwf_2_2, kwf_2_3, fwf_2_3, kwf_2_4, fwf_2_4⟩ := kf5 hb (w.heap.size + 1 + 1) (.slice none 0 0) (.slice none 0 0) (.slice none 0 0) (.int .i64 0) (.slice none 0 0); obtain ⟨kwf_3_0, fwf_3_0, kwf_3_1, fwf_3_1, kwf_3_2, fwf_3_2, kwf_3_3, fwf_3_3, kwf_3_4, fwf_3_4⟩ := kf5 hb (w.heap.size + 1 + 1 + 1) (.int .i64 0) (.int .i64 0) (.slice none 0 0) (.int .i64 0) (.int .i64 0); obtain ⟨kwf_O_0, fwf_O_0, kwf_O_1, fwf_O_1, kwf_O_2, fwf_O_2, kwf_O_3, fwf_O_3, kwf_O_4, fwf_O_4⟩ := kf5 hb (wa.heap.size) (.slice zco zvs.length zcc) (.slice zuo k.m.f.used.length zuc) (.slice zeo k.m.ents.length zec) (.int .i64 (k.calls)) (.slice zro k.refuse.length zrc); obtain ⟨kwf_Q_0, fwf_Q_0, kwf_Q_1, fwf_Q_1, kwf_Q_2, fwf_Q_2, kwf_Q_3, fwf_Q_3, kwf_Q_4, fwf_Q_4⟩ := kf5 hb (wa.heap.size + 1) (.int .i64 kp) (.int .i64 mv) (.slice vo cs.length vc) (.int .i64 ph1) (.int .i64 nx1); have xwf_2 : w.heap.size + 1 + 1 < w2.heap.size := xc hb; have xwf_3 : w.heap.size + 1 + 1 + 1 < w2.heap.size := xc hb; have xwf_O : wa.heap.size < w2.heap.size := xc hb; have xwf_Q : wa.heap.size + 1 < w2.heap.size := xc hb; have hzwf := hb.size; (try simp only [World.size_alloc, World.size_setCell, World.size_drew] at hzwf); obtain ⟨wf, rfl⟩ : ∃ x, x = w2 := ⟨_, rfl⟩)))
        go_region_held3 (fun w' => w'.cell? ⟨wa.heap.size, 0, none⟩ = some (.slice zco zvs.length zcc) ∧ w'.cell? ⟨wa.heap.size, 1, none⟩ = some (.slice zuo k.m.f.used.length zuc) ∧ w'.cell? ⟨wa.heap.size, 2, none⟩ = some (.slice zeo k.m.ents.length zec) ∧ w'.cell? ⟨wa.heap.size, 3, none⟩ = some (.int .i64 (k.calls)) ∧ w'.cell? ⟨wa.heap.size, 4, none⟩ = some (.slice zro k.refuse.length zrc) ∧ w'.cell? ⟨wa.heap.size + 1, 0, none⟩ = some (.int .i64 kp) ∧ w'.cell? ⟨wa.heap.size + 1, 1, none⟩ = some (.int .i64 mv) ∧ w'.cell? ⟨wa.heap.size + 1, 2, none⟩ = some (.slice vo cs.length vc) ∧ w'.cell? ⟨wa.heap.size + 1, 3, none⟩ = some (.int .i64 ph1) ∧ w'.cell? ⟨wa.heap.size + 1, 4, none⟩ = some (.int .i64 nx1)) ((refine ⟨?_, ?_, ?_, ?_, ?_, ?_, ?_, ?_, ?_, ?_⟩ <;> (go_simp; done))) (fail)
        all_goals go_wp2_with fail
        all_goals (refine bodyPost_ret (v := .tuple #[.agg #[.slice zco zvs.length zcc, .slice zuo k.m.f.used.length zuc, .slice zeo k.m.ents.length zec, .int .i64 (k.calls), .slice zro k.refuse.length zrc], .agg #[.int .i64 kp, .int .i64 mv, .slice vo cs.length vc, .int .i64 ph1, .int .i64 nx1], .slice uo xs.length uc]) (by simp [results, Tryz.results44, go_sem, kwf_2_0, fwf_2_0, kwf_2_1, fwf_2_1, kwf_2_2, fwf_2_2, kwf_2_3, fwf_2_3, kwf_2_4, fwf_2_4, kwf_3_0, fwf_3_0, kwf_3_1, fwf_3_1, kwf_3_2, fwf_3_2, kwf_3_3, fwf_3_3, kwf_3_4, fwf_3_4, kwf_O_0, fwf_O_0, kwf_O_1, fwf_O_1, kwf_O_2, fwf_O_2, kwf_O_3, fwf_O_3, kwf_O_4, fwf_O_4, kwf_Q_0, fwf_Q_0, kwf_Q_1, fwf_Q_1, kwf_Q_2, fwf_Q_2, kwf_Q_3, fwf_Q_3, kwf_Q_4, fwf_Q_4]) rfl ?_; refine ⟨⟨⟨⟨.slice zco zvs.length zcc, .slice zuo k.m.f.used.length zuc, zvs⟩, .slice zeo k.m.ents.length zec⟩, .slice zro k.refuse.length zrc⟩, .slice vo cs.length vc, .slice uo xs.length uc, rfl, ?_⟩; exact kjw_fin (S := [w.heap.size + 1 + 1, w.heap.size + 1 + 1 + 1]) (wl := wf) (KOwn.below KI.out.own (by have hB5 := HB5.out; exact bel)) (Own.below OW.out (by have hB5 := HB5.out; exact bel)) (Own.below OU.out (by have hB5 := HB5.out; exact bel)) (by omega) (by omega) (by omega) (by repeat (first | (with_reducible refine touch_setC ?_ (by simp)) | (with_reducible refine touch_drewT ?_) | (with_reducible exact Touch.refl _ _))) (fun g hg hm => by have h1 := (KI.out.own.lts g hg).1; simp only [List.mem_cons, List.not_mem_nil, or_false] at hm; omega) (fun g hg hm => by have h1 := (Own.lts OW.out g hg).1; simp only [List.mem_cons, List.not_mem_nil, or_false] at hm; omega) (fun g hg hm => by have h1 := (Own.lts OU.out g hg).1; simp only [List.mem_cons, List.not_mem_nil, or_false] at hm; omega) AP1.out AP2.out AP3.out (by have hBW := BWE.out; have hB5 := HB5.out; exact bel) (fun g hm => by simp only [List.mem_cons, List.not_mem_nil, or_false] at hm; omega))
      have HKO := Lib.hid hko
      obtain ⟨⟨ad, va, dn, wt⟩, hx⟩ := getx (xs := ws) (k := n) (by have := HWL.out; omega)
      have HX := Lib.hid hx
      obtain ⟨gu, uc', hue, hgB, hgu⟩ := Own.addr OU.out (by have := HWL.out; omega)
      simp only [Value.slice.injEq] at hue
      obtain ⟨rfl, hue1, rfl⟩ := hue
      have hgo := OF3.out gu (mem_one rfl)
      have g1 : ¬ gu = wa.heap.size := hgo.1
      have g2 : ¬ wa.heap.size = gu := fun e => hgo.1 e.symm
      have g3 : ¬ gu = wa.heap.size + 1 := hgo.2
      have g4 : ¬ wa.heap.size + 1 = gu := fun e => hgo.2 e.symm
      have g5 : ¬ gu = w.heap.size + 1 + 1 := by omega
      have g6 : ¬ w.heap.size + 1 + 1 = gu := by omega
      have g7 : ¬ gu = w.heap.size + 1 + 1 + 1 := by omega
      have g8 : ¬ w.heap.size + 1 + 1 + 1 = gu := by omega
      obtain ⟨-, -, e0, d0, e1, d1, e2, d2', e3, d3⟩ := OwnWr.slot OU.out hx
      dsimp only at e0 e1 e2 e3
      have hst := wStep_at (k := k) (ph := ph1) (nx := nx1) hx
      have hadw := HAD.out n _ hx
      dsimp only at hadw
      have hsz2 := szK_wr k ⟨ad, va, dn, wt⟩
      have hda := wrW_ad k ⟨ad, va, dn, wt⟩
      have cp := fun W (h1 : KIn (w.heap.size + 1 + 1 + 1 + 1) W (wa.heap.size) ⟨⟨⟨.slice zco zvs.length zcc, .slice zuo k.m.f.used.length zuc, zvs⟩, .slice zeo k.m.ents.length zec⟩, .slice zro k.refuse.length zrc⟩ k) => s_l15StepT (w.heap.size + 1 + 1 + 1 + 1) (wa.heap.size) ⟨⟨⟨.slice zco zvs.length zcc, .slice zuo k.m.f.used.length zuc, zvs⟩, .slice zeo k.m.ents.length zec⟩, .slice zro k.refuse.length zrc⟩ k ad va dn wt hko (szM_le HSZ.out) hadw W h1
      obtain ⟨K2, hK2⟩ : ∃ q, wrK k ⟨ad, va, dn, wt⟩ = q := ⟨_, rfl⟩
      obtain ⟨X2, hX2⟩ : ∃ q, wrW k ⟨ad, va, dn, wt⟩ = q := ⟨_, rfl⟩
      rw [hK2] at cp hst hsz2
      rw [hX2] at cp hst hda
      obtain ⟨a2, v2, d2, t2⟩ := X2
      have HST := Lib.hid hst; have HDA := Lib.hid hda
      have HS2 : Hid (szK K2 ≤ 1048576) := Lib.hid (by rw [hsz2]; exact HSZ.out)
      have L15 := Lib.hid cp
      clear cp hst hda hsz2 hK2 hX2 hadw hgo hx hue1 hko
      go_wp2_with (first | (go_at_call 81; (refine (s_KernelOk ⟨⟨⟨.slice zco zvs.length zcc, .slice zuo k.m.f.used.length zuc, zvs⟩, .slice zeo k.m.ents.length zec⟩, .slice zro k.refuse.length zrc⟩ k _ HKO.out _ (KI.out.own.at.below (by exact bel))).mono ?_; rintro e w2 ⟨rfl, hb⟩; have HB5 := Lib.hid hb; obtain ⟨kwf_2_0, fwf_2_0, kwf_2_1, fwf_2_1, kwf_2_2, fwf_2_2, kwf_2_3, fwf_2_3, kwf_2_4, fwf_2_4⟩ := kf5 hb (w.heap.size + 1 + 1) (.slice none 0 0) (.slice none 0 0) (.slice none 0 0) (.int .i64 0) (.slice none 0 0); obtain ⟨kwf_3_0, fwf_3_0, kwf_3_1, fwf_3_1, kwf_3_2, fwf_3_2, kwf_3_3, fwf_3_3, kwf_3_4, fwf_3_4⟩ := kf5 hb (w.heap.size + 1 + 1 + 1) (.int .i64 0) (.int .i64 0) (.slice none 0 0) (.int .i64 0) (.int .i64 0); obtain ⟨kwf_O_0, fwf_O_0, kwf_O_1, fwf_O_1, kwf_O_2, fwf_O_2, kwf_O_3, fwf_O_3, kwf_O_4, fwf_O_4⟩ := kf5 hb (wa.heap.size) (.slice zco zvs.length zcc) (.slice zuo k.m.f.used.length zuc) (.slice zeo k.m.ents.length zec) (.int .i64 (k.calls)) (.slice zro k.refuse.length zrc); obtain ⟨kwf_Q_0, fwf_Q_0, kwf_Q_1, fwf_Q_1, kwf_Q_2, fwf_Q_2, kwf_Q_3, fwf_Q_3, kwf_Q_4, fwf_Q_4⟩ := kf5 hb (wa.heap.size + 1) (.int .i64 kp) (.int .i64 mv) (.slice vo cs.length vc) (.int .i64 ph1) (.int .i64 nx1); have kwf_E0 : w2.cell? ⟨gu, n * 4, none⟩ = some (.int .i64 ad) := kc hb; have fwf_E0 : w2.frozen? ⟨gu, n * 4, none⟩ = false := fc hb; have kwf_E1 : w2.cell? ⟨gu, n * 4 + 1, none⟩ = some (.int .i64 va) := kc hb; have fwf_E1 : w2.frozen? ⟨gu, n * 4 + 1, none⟩ = false := fc hb; have kwf_E2 : w2.cell? ⟨gu, n * 4 + 2, none⟩ = some (.bool dn) := kc hb; have fwf_E2 : w2.frozen? ⟨gu, n * 4 + 2, none⟩ = false := fc hb; have kwf_E3 : w2.cell? ⟨gu, n * 4 + 3, none⟩ = some (.int .i64 wt) := kc hb; have fwf_E3 : w2.frozen? ⟨gu, n * 4 + 3, none⟩ = false := fc hb; have xwf_2 : w.heap.size + 1 + 1 < w2.heap.size := xc hb; have xwf_3 : w.heap.size + 1 + 1 + 1 < w2.heap.size := xc hb; have xwf_O : wa.heap.size < w2.heap.size := xc hb; have xwf_Q : wa.heap.size + 1 < w2.heap.size := xc hb; have xwf_EX : gu < w2.heap.size := xc hb; have hzwf := hb.size; (try simp only [World.size_alloc, World.size_setCell, World.size_drew] at hzwf); obtain ⟨wf, rfl⟩ : ∃ x, x = w2 := ⟨_, rfl⟩)) | (go_at_call 82; ((with_reducible refine (L15.out _ (KI.out.below (by (have hb5 := HB5.out); exact bel))).mono ?_); rintro e w2 ⟨x, rfl, hki, hb, ht, hfr⟩; have hzg := ht.size; have KI2 := Lib.hid hki; have HFR := Lib.hid hfr; have HB6 := Lib.hid hb; (have hgk : gu ∉ [wa.heap.size] := fun hm => g1 (List.mem_singleton.1 hm)); have hguf := xwf_EX; have kwg_E0 : w2.cell? ⟨gu, n * 4, none⟩ = some (.int .i64 ad) := (ht.cell hguf hgk).trans kwf_E0; have fwg_E0 : w2.frozen? ⟨gu, n * 4, none⟩ = false := (ht.frozen hguf hgk).trans fwf_E0; have kwg_E1 : w2.cell? ⟨gu, n * 4 + 1, none⟩ = some (.int .i64 va) := (ht.cell hguf hgk).trans kwf_E1; have fwg_E1 : w2.frozen? ⟨gu, n * 4 + 1, none⟩ = false := (ht.frozen hguf hgk).trans fwf_E1; have kwg_E2 : w2.cell? ⟨gu, n * 4 + 2, none⟩ = some (.bool dn) := (ht.cell hguf hgk).trans kwf_E2; have fwg_E2 : w2.frozen? ⟨gu, n * 4 + 2, none⟩ = false := (ht.frozen hguf hgk).trans fwf_E2; have kwg_E3 : w2.cell? ⟨gu, n * 4 + 3, none⟩ = some (.int .i64 wt) := (ht.cell hguf hgk).trans kwf_E3; have fwg_E3 : w2.frozen? ⟨gu, n * 4 + 3, none⟩ = false := (ht.frozen hguf hgk).trans fwf_E3; have HTK := Lib.hid ht; clear hki hfr hb ht; (try simp only [Wr.val]); obtain ⟨wg, rfl⟩ : ∃ x, x = w2 := ⟨_, rfl⟩)))
      have HT4 := Lib.hid (show Touch [gu] wg (((((wg.setCell ⟨gu, n * 4, none⟩ (.int .i64 a2)).setCell ⟨gu, n * 4 + 1, none⟩ (.int .i64 v2)).setCell ⟨gu, n * 4 + 2, none⟩ (.bool d2)).setCell ⟨gu, n * 4 + 3, none⟩ (.int .i64 t2))) from (by repeat (first | (with_reducible refine touch_setC ?_ (by simp)) | (with_reducible exact Touch.refl _ _))))
      have HBF : Hid (Below we.heap.size we wf) := Lib.hid (by have hb5 := HB5.out; exact bel)
      have HBWG := Lib.hid ((BWE.out.trans (HBF.out.mono (by omega))).trans (HTK.out.toBelow (fun g hm => by have := List.mem_singleton.1 hm; omega) (by omega)))
      go_roundw
      case rel =>
        refine ⟨n + 1, K2, ws.set n ⟨a2, v2, d2, t2⟩, x, by go_num, by omega, ?_, HS2.out, HAD.out.set HX.out HDA.out, by rw [List.length_set]; exact HWL.out, ?_, (((BJ.out.below HBF.out).touch HTK.out (fun hm => by have := List.mem_singleton.1 hm; omega)).touch HT4.out (fun hm => by have := List.mem_singleton.1 hm; omega)), (((B2.out.below HBF.out).touch HTK.out (fun hm => by have := List.mem_singleton.1 hm; omega)).touch HT4.out (fun hm => by have := List.mem_singleton.1 hm; omega)), (((B3.out.below HBF.out).touch HTK.out (fun hm => by have := List.mem_singleton.1 hm; omega)).touch HT4.out (fun hm => by have := List.mem_singleton.1 hm; omega)), ?_, ?_, ?_, OF2.out, OF3.out, ?_, ?_, AP3.out, ?_⟩
        · rw [finTo, HT.out]; exact HST.out
        · exact KIn.after KI2.out HT4.out (fun b hb hm => by
            cases List.mem_singleton.1 hb
            rcases List.mem_cons.1 hm with e | hm
            · exact g1 e
            · rcases HFR.out _ hm with h | h
              · exact AP2.out _ h (mem_one rfl)
              · omega)
        · exact Own.touchs (Own.touchs (Own.below OW.out HBF.out) HTK.out (fun g hg hm => by have h1 := OF2.out g hg; exact h1.1 (List.mem_singleton.1 hm))) HT4.out (fun g hg hm => by cases List.mem_singleton.1 hm; exact AP3.out _ hg (mem_one rfl))
        · exact OwnWr.put (Own.touchs (Own.below OU.out HBF.out) HTK.out (fun g hg hm => by have h1 := OF3.out g hg; exact h1.1 (List.mem_singleton.1 hm))) (by have := HWL.out; omega) a2 v2 d2 t2
        · intro b hb; rcases HFR.out b hb with h | h; (focus exact OF1.out b h); (focus exact ⟨by omega, by omega⟩)
        · intro g hg hm; rcases HFR.out g hg with h | h; (focus exact AP1.out g h hm); (focus (have h2 := (Own.lts OW.out g hm).2; omega))
        · intro g hg hm; rcases HFR.out g hg with h | h; (focus exact AP2.out g h hm); (focus (have h2 := (Own.lts OU.out g hm).2; omega))
        · exact HBWG.out.trans (HT4.out.toBelow (fun g hm => by have := List.mem_singleton.1 hm; omega) (by omega))
      case measure => first | (simp [intOf]; done) | (simp [intOf]; omega)
    · have hltI : ¬ (n : Int) < xs.length := by omega
      obtain rfl : n = xs.length := by omega
      have e : TE = ⟨⟨k, ph1, nx1⟩, ws⟩ := HTE.out.symm.trans HT.out
      subst e
      have hwl := HWL.out
      go_wp2_with (fail)
      go_region_held3 (fun w' => w'.cell? ⟨wa.heap.size, 0, none⟩ = some (.slice zco zvs.length zcc) ∧ w'.cell? ⟨wa.heap.size, 1, none⟩ = some (.slice zuo k.m.f.used.length zuc) ∧ w'.cell? ⟨wa.heap.size, 2, none⟩ = some (.slice zeo k.m.ents.length zec) ∧ w'.cell? ⟨wa.heap.size, 3, none⟩ = some (.int .i64 (k.calls)) ∧ w'.cell? ⟨wa.heap.size, 4, none⟩ = some (.slice zro k.refuse.length zrc) ∧ w'.cell? ⟨wa.heap.size + 1, 0, none⟩ = some (.int .i64 kp) ∧ w'.cell? ⟨wa.heap.size + 1, 1, none⟩ = some (.int .i64 mv) ∧ w'.cell? ⟨wa.heap.size + 1, 2, none⟩ = some (.slice vo cs.length vc) ∧ w'.cell? ⟨wa.heap.size + 1, 3, none⟩ = some (.int .i64 ph1) ∧ w'.cell? ⟨wa.heap.size + 1, 4, none⟩ = some (.int .i64 nx1)) ((refine ⟨?_, ?_, ?_, ?_, ?_, ?_, ?_, ?_, ?_, ?_⟩ <;> (go_simp; done))) (fail)
      all_goals go_wp2_with fail
      all_goals (refine bodyPost_ret (v := .tuple #[.agg #[.slice zco zvs.length zcc, .slice zuo k.m.f.used.length zuc, .slice zeo k.m.ents.length zec, .int .i64 (k.calls), .slice zro k.refuse.length zrc], .agg #[.int .i64 kp, .int .i64 mv, .slice vo cs.length vc, .int .i64 ph1, .int .i64 nx1], .slice uo xs.length uc]) (by simp [results, Tryz.results44, go_sem, kwe_2_0, fwe_2_0, kwe_2_1, fwe_2_1, kwe_2_2, fwe_2_2, kwe_2_3, fwe_2_3, kwe_2_4, fwe_2_4, kwe_3_0, fwe_3_0, kwe_3_1, fwe_3_1, kwe_3_2, fwe_3_2, kwe_3_3, fwe_3_3, kwe_3_4, fwe_3_4, kwe_O_0, fwe_O_0, kwe_O_1, fwe_O_1, kwe_O_2, fwe_O_2, kwe_O_3, fwe_O_3, kwe_O_4, fwe_O_4, kwe_Q_0, fwe_Q_0, kwe_Q_1, fwe_Q_1, kwe_Q_2, fwe_Q_2, kwe_Q_3, fwe_Q_3, kwe_Q_4, fwe_Q_4]) rfl ?_; refine ⟨⟨⟨⟨.slice zco zvs.length zcc, .slice zuo k.m.f.used.length zuc, zvs⟩, .slice zeo k.m.ents.length zec⟩, .slice zro k.refuse.length zrc⟩, .slice vo cs.length vc, .slice uo xs.length uc, rfl, ?_⟩; exact kjw_fin (S := [w.heap.size + 1 + 1, w.heap.size + 1 + 1 + 1]) (wl := we) KI.out.own OW.out OU.out (by omega) (by omega) (by omega) (by repeat (first | (with_reducible refine touch_setC ?_ (by simp)) | (with_reducible refine touch_drewT ?_) | (with_reducible exact Touch.refl _ _))) (fun g hg hm => by have h1 := (KI.out.own.lts g hg).1; simp only [List.mem_cons, List.not_mem_nil, or_false] at hm; omega) (fun g hg hm => by have h1 := (Own.lts OW.out g hg).1; simp only [List.mem_cons, List.not_mem_nil, or_false] at hm; omega) (fun g hg hm => by have h1 := (Own.lts OU.out g hg).1; simp only [List.mem_cons, List.not_mem_nil, or_false] at hm; omega) AP1.out AP2.out AP3.out (by have hBW := BWE.out; exact bel) (fun g hm => by simp only [List.mem_cons, List.not_mem_nil, or_false] at hm; omega))

end Go.Proofs.YtmblkllijjlkoaaGreat
