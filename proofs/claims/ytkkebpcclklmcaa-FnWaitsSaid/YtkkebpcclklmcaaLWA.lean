/- 'laws.FnWaits' returns true, whatever the bytes: no condition. -/
import Derived.Test.YtkkebpcclklmcaaGWR2
import Derived.Test.YtkkebpcclklmcaaGWR3
import Derived.Test.YtkkebpcclklmcaaGB45
import Derived.Test.YtkkebpcclklmcaaGB28
import Derived.Test.YtkkebpcclklmcaaGWR4
import Derived.Test.YtkkebpcclklmcaaGB38
import Derived.Test.YtkkebpcclklmcaaGB24
set_option linter.unusedVariables false
set_option linter.unusedSimpArgs false
namespace Go.Proofs.Ytkkebpcclklmcaa
open Go.Deep Go.ChangeShapes Go.WideShapes Go.ChangeAt Go.RowKit
theorem i_InterS (x : KV) (K : Ker) (kp mv : Int) (v : Value) (cs : List Int) (u : Value) (xs : List Wr) (vr : Value) (order : List Int) (t : IS) (ht : interl kp mv cs order ⟨⟨K, 0, 0⟩, xs⟩ = t) (hs : szK K ≤ 1048576) (hc : cs.length ≤ 1048576) (hx : xs.length ≤ 1048576) (had : AdOk xs) (w : World) (ha : KAt w x K) (hv : IntsAt w v cs) (hu : WrAt w u xs) (hr : IntsAt w vr order) : Calls Try.prog 29 #[x.val K.calls, .agg #[.int .i64 kp, .int .i64 mv, v, .int .i64 0, .int .i64 0], u, vr] w (NewKJW w t kp mv cs) := by
  have := i_Interleave x K kp mv v cs 0 0 u xs vr order hs hc hx had w ha hv hu hr
  rwa [ht] at this

set_option maxRecDepth 20000 in
set_option maxHeartbeats 6400000 in
theorem w_FnWaits (v : Value) (n : Nat) (w : World) (hv : BytesAt w.heap.size w v n) : Calls Try.prog 7 #[v] w fun e w' => e = .returned (.bool true) ∧ Below w.heap.size w w' := by
  have HV := Lib.hid hv; clear hv
  by_cases hbig : (1048576 : Int) < n
  · (have hall := all_nil w; go_enter Try.func7, Try.ntmps7)
    go_wp2_with (go_at_call 8; refine (l_big _ n _ HV.out).mono ?_; rintro e w1 ⟨rfl, rfl⟩)
    all_goals (go_ret; refine ⟨by simp_all [], ?_⟩; exact bel)
  · (have hall := all_nil w; go_enter Try.func7, Try.ntmps7)
    go_wp2_with (go_at_call 8; refine (l_big _ n _ HV.out).mono ?_; rintro e w1 ⟨rfl, rfl⟩)
    refine (s_DrawWriters _ n _ HV.out).mono ?_; rintro e w2 ⟨y, K, kp, mv, v, cs, u, W0, r, order, rfl, hd, hcl, hk4, hm4, hw0, hw3, hko, hvo, hua, hra, hb⟩
    obtain ⟨yco, ycc, yuo, yuc, yvs, yeo, yec, yro, yrc, rfl⟩ := KOwn.shapes hko
    obtain ⟨vo, vc, rfl, -, -, -⟩ := Own.shape hvo
    obtain ⟨uo, uc, rfl, -, -⟩ := SlAt.shape hua
    obtain ⟨ro, rc, rfl, -, -⟩ := SlAt.shape hra
    have hml : (W0.map (wrOf kp mv cs)).length = W0.length := List.length_map ..
    rw [hml] at hua ⊢
    have HML : Hid ((W0.map (wrOf kp mv cs)).length ≤ 1048576) := Lib.hid (by rw [hml]; exact Nat.le_trans hw3 (by decide))
    have HAD := Lib.hid (w0_ad (cs := cs) hw0 hk4 hm4)
    have HD := Lib.hid hd; have OK := Lib.hid hko; have OV := Lib.hid hvo; have OU := Lib.hid hua; have OR := Lib.hid hra; have HW := Lib.hid hb; have HW0 := Lib.hid hw0; have HL3 := Lib.hid hw3
    have HSZ : Hid (szK K ≤ 1048576) := Lib.hid (by have h1 := mok_szK hd.ok; have h2 := hd.rl; omega)
    have H16 : Hid (cs.length ≤ 1048576) := Lib.hid (Nat.le_trans hd.c16 (by decide))
    obtain ⟨t1, ht1⟩ : ∃ t, interl kp mv cs order ⟨⟨K, 0, 0⟩, W0.map (wrOf kp mv cs)⟩ = t := ⟨_, rfl⟩
    have HT1 := Lib.hid ht1
    have HTL : Hid (t1.ws.length = W0.length) := Lib.hid (by rw [← ht1, interl_len]; exact hml)
    have HTS : Hid (szK t1.s.k ≤ 1048576) := Lib.hid (by rw [← ht1, interl_sz]; exact HSZ.out)
    have HTA : Hid (AdOk t1.ws) := Lib.hid (by rw [← ht1]; exact interl_ad _ _ _ _ HAD.out)
    clear hd hko hvo hua hra hb hcl hml hw0 ht1
    simp only [KV.val]
    go_wp2_with fail
    refine (s_JobNewOk (kp : Int) (mv : Int) _ cs HD.out.plan H16.out _ (SlAt.below (OV.out.at lenInt) (by exact bel))).mono ?_; rintro e w8 ⟨jv, rfl, hjo, hb⟩
    obtain ⟨jo, jc, rfl, -, -, -⟩ := Own.shape hjo
    have HB3 := Lib.hid (bx5 hb (w2.heap.size) (.slice yco yvs.length ycc) (.slice yuo K.m.f.used.length yuc) (.slice yeo K.m.ents.length yec) (.int .i64 K.calls) (.slice yro K.refuse.length yrc))
    have HB4 := Lib.hid (bx3 hb (w2.heap.size + 1) (.int .i64 (kp : Int)) (.int .i64 (mv : Int)) (.slice vo cs.length vc))
    have up := lstep (w := w2) hb
    replace OK := Lib.hid (OK.out.below up); replace OV := Lib.hid (Own.below OV.out up); replace HW := Lib.hid (HW.out.trans (up.mono HW.out.size)); replace OU := Lib.hid (SlAt.below OU.out up); replace OR := Lib.hid (SlAt.below OR.out up)
    have OJ := Lib.hid hjo
    clear up hb hjo
    generalize w2.heap.size = g3 at *
    have k3_0 := (HB3.out.cells 0 _ rfl).1; have k3_1 := (HB3.out.cells 1 _ rfl).1; have k3_2 := (HB3.out.cells 2 _ rfl).1; have k3_3 := (HB3.out.cells 3 _ rfl).1; have k3_4 := (HB3.out.cells 4 _ rfl).1; have x3 := HB3.out.lt
    go_wp2_with fail
    refine (i_InterS (⟨⟨⟨.slice yco yvs.length ycc, .slice yuo K.m.f.used.length yuc, yvs⟩, .slice yeo K.m.ents.length yec⟩, .slice yro K.refuse.length yrc⟩ : KV) K (kp : Int) (mv : Int) _ cs _ (W0.map (wrOf kp mv cs)) _ order t1 HT1.out HSZ.out H16.out HML.out HAD.out _ (KAt.below OK.out.at (by exact bel)) (SlAt.below (OJ.out.at lenInt) (by exact bel)) (SlAt.below OU.out (by exact bel)) (SlAt.below OR.out (by exact bel))).mono ?_; rintro e w9 ⟨z, zv, zu, rfl, hzo, hzv, hzu, -, -, -, hb⟩
    obtain ⟨zco, zcc, zuo, zuc, zvs, zeo, zec, zro, zrc, rfl⟩ := KOwn.shapes hzo
    obtain ⟨zjo, zjc, rfl, -, -, -⟩ := Own.shape hzv
    obtain ⟨zuo_, zuc_, rfl, -, -, -⟩ := Own.shape hzu
    have up := lstep (w := w8) hb
    replace HB4 := Lib.hid (HB4.out.below up); replace HW := Lib.hid (HW.out.trans (up.mono HW.out.size)); replace OU := Lib.hid (SlAt.below OU.out up)
    have OZ := Lib.hid hzo; have OZV := Lib.hid hzv; have OZU := Lib.hid hzu
    clear up hb hzo hzv hzu k3_0 k3_1 k3_2 k3_3 k3_4 x3 HB3 OK OV OR OJ
    simp only [KV.val]
    obtain ⟨hjo, hlen, heach⟩ := waits_all HD.out HW0.out order HT1.out
    have HJO := Lib.hid hjo; have HLN := Lib.hid hlen; have HEA := Lib.hid heach
    clear hjo hlen heach
    go_upto_region 6 with fail
    have upA : Below w9.heap.size w9 ((w9.alloc (.cells #[.slice zco zvs.length zcc, .slice zuo t1.s.k.m.f.used.length zuc, .slice zeo t1.s.k.m.ents.length zec, .int .i64 t1.s.k.calls, .slice zro t1.s.k.refuse.length zrc] 35)).alloc (.cells #[.int .i64 (kp : Int), .int .i64 (mv : Int), .slice zjo cs.length zjc, .int .i64 t1.s.ph, .int .i64 t1.s.nx] 42)) := ((Below.refl _ _).alloc (Nat.le_refl _) _).alloc (by simp only [World.size_alloc]; omega) _
    have UA : BoxAt ((w9.alloc (.cells #[.slice zco zvs.length zcc, .slice zuo t1.s.k.m.f.used.length zuc, .slice zeo t1.s.k.m.ents.length zec, .int .i64 t1.s.k.calls, .slice zro t1.s.k.refuse.length zrc] 35)).alloc (.cells #[.int .i64 (kp : Int), .int .i64 (mv : Int), .slice zjo cs.length zjc, .int .i64 t1.s.ph, .int .i64 t1.s.nx] 42)) w9.heap.size [.slice zco zvs.length zcc, .slice zuo t1.s.k.m.f.used.length zuc, .slice zeo t1.s.k.m.ents.length zec, .int .i64 t1.s.k.calls, .slice zro t1.s.k.refuse.length zrc] := (BoxAt.snoc (BoxAt.snoc (BoxAt.snoc (BoxAt.snoc (BoxAt.snoc (BoxAt.nil (w := ((w9.alloc (.cells #[.slice zco zvs.length zcc, .slice zuo t1.s.k.m.f.used.length zuc, .slice zeo t1.s.k.m.ents.length zec, .int .i64 t1.s.k.calls, .slice zro t1.s.k.refuse.length zrc] 35)).alloc (.cells #[.int .i64 (kp : Int), .int .i64 (mv : Int), .slice zjo cs.length zjc, .int .i64 t1.s.ph, .int .i64 t1.s.nx] 42))) (g := w9.heap.size) (by exact zo)) (v := .slice zco zvs.length zcc) (i := 0) rfl (by go_simp) (by go_simp)) (v := .slice zuo t1.s.k.m.f.used.length zuc) (i := 1) rfl (by go_simp) (by go_simp)) (v := .slice zeo t1.s.k.m.ents.length zec) (i := 2) rfl (by go_simp) (by go_simp)) (v := .int .i64 t1.s.k.calls) (i := 3) rfl (by go_simp) (by go_simp)) (v := .slice zro t1.s.k.refuse.length zrc) (i := 4) rfl (by go_simp) (by go_simp))
    have UB : BoxAt ((w9.alloc (.cells #[.slice zco zvs.length zcc, .slice zuo t1.s.k.m.f.used.length zuc, .slice zeo t1.s.k.m.ents.length zec, .int .i64 t1.s.k.calls, .slice zro t1.s.k.refuse.length zrc] 35)).alloc (.cells #[.int .i64 (kp : Int), .int .i64 (mv : Int), .slice zjo cs.length zjc, .int .i64 t1.s.ph, .int .i64 t1.s.nx] 42)) (w9.heap.size + 1) [.int .i64 (kp : Int), .int .i64 (mv : Int), .slice zjo cs.length zjc, .int .i64 t1.s.ph, .int .i64 t1.s.nx] := (BoxAt.snoc (BoxAt.snoc (BoxAt.snoc (BoxAt.snoc (BoxAt.snoc (BoxAt.nil (w := ((w9.alloc (.cells #[.slice zco zvs.length zcc, .slice zuo t1.s.k.m.f.used.length zuc, .slice zeo t1.s.k.m.ents.length zec, .int .i64 t1.s.k.calls, .slice zro t1.s.k.refuse.length zrc] 35)).alloc (.cells #[.int .i64 (kp : Int), .int .i64 (mv : Int), .slice zjo cs.length zjc, .int .i64 t1.s.ph, .int .i64 t1.s.nx] 42))) (g := w9.heap.size + 1) (by exact zo)) (v := .int .i64 (kp : Int)) (i := 0) rfl (by go_simp) (by go_simp)) (v := .int .i64 (mv : Int)) (i := 1) rfl (by go_simp) (by go_simp)) (v := .slice zjo cs.length zjc) (i := 2) rfl (by go_simp) (by go_simp)) (v := .int .i64 t1.s.ph) (i := 3) rfl (by go_simp) (by go_simp)) (v := .int .i64 t1.s.nx) (i := 4) rfl (by go_simp) (by go_simp))
    have HBA := Lib.hid UA; have HBB := Lib.hid UB
    replace HB4 := Lib.hid (HB4.out.below upA); replace OZ := Lib.hid (OZ.out.below upA); replace OZV := Lib.hid (Own.below OZV.out upA); replace OZU := Lib.hid (Own.below OZU.out upA); replace HW := Lib.hid (HW.out.trans (upA.mono HW.out.size)); replace OU := Lib.hid (SlAt.below OU.out upA)
    clear UA UB upA
    obtain ⟨wt, hwt⟩ : ∃ q, q = ((w9.alloc (.cells #[.slice zco zvs.length zcc, .slice zuo t1.s.k.m.f.used.length zuc, .slice zeo t1.s.k.m.ents.length zec, .int .i64 t1.s.k.calls, .slice zro t1.s.k.refuse.length zrc] 35)).alloc (.cells #[.int .i64 (kp : Int), .int .i64 (mv : Int), .slice zjo cs.length zjc, .int .i64 t1.s.ph, .int .i64 t1.s.nx] 42)) := ⟨_, rfl⟩
    rw [← hwt] at HBA HBB HB4 OZ OZV OZU OU HW ⊢
    clear hwt
    generalize w9.heap.size = gA at *
    go_wp2_with fail
    go_loopw [12] (fun i wr => ∃ j : Nat, j ≤ t1.ws.length ∧ i = .int .i64 (j : Nat) ∧ Below wt.heap.size wt wr) (fun i _ => t1.ws.length - (intOf i).toNat)
    case atStart => exact ⟨0, Nat.zero_le _, rfl, Below.refl _ _⟩
    case round =>
      obtain ⟨j, hj, rfl, hbel⟩ := hrel
      obtain ⟨w1, rfl⟩ : ∃ q, q = wr := ⟨_, rfl⟩
      have HX := Lib.hid hbel
      clear hbel
      have hl9 : t1.ws.length ≤ 99999 := by have h1 := HLN.out; have h2 := HL3.out; omega
      by_cases hlt : j < t1.ws.length
      · have hlt' : (j : Int) < (t1.ws.length : Nat) := by omega
        have hltW : (j : Int) < (W0.length : Nat) := by have h1 := HLN.out; omega
        have hj9 : j ≤ 99999 := by omega
        obtain ⟨x0, hx0⟩ := getx (xs := W0) (k := j) (by have h1 := HLN.out; omega)
        obtain ⟨⟨xa, xv, xd, xw⟩, hx, hwait⟩ := HEA.out j x0 hx0
        have hxa := HTA.out j _ hx
        have h016 := (HW0.out.rng x0 (List.mem_of_getElem? hx0)).1
        obtain ⟨dq, dd⟩ := live_tdiv (kp := kp) (mv := mv) (cs := cs) h016
        have hp4 := live_lt cs hk4 hm4 x0.1
        unfold waitOk at hwait
        rw [dd] at hwait
        dsimp only at hwait hxa
        obtain ⟨hwa, hwb⟩ := hwait
        have hx0m : (W0.map (wrOf kp mv cs))[j]? = some (wrOf kp mv cs x0) := by rw [List.getElem?_map, hx0]; rfl
        obtain ⟨lo, lcap, he, -, -, hrl⟩ := WrAt.open OU.out
        simp only [Value.slice.injEq] at he
        obtain ⟨rfl, -, rfl⟩ := he
        obtain ⟨gl, ol, rfl, hgl, l0, -, -, -⟩ := hrl j _ hx0m
        obtain ⟨ao, cap, he, -, -, hra⟩ := WrAt.open (OZU.out.at lenWr)
        simp only [Value.slice.injEq] at he
        obtain ⟨rfl, -, rfl⟩ := he
        obtain ⟨ga, oa, rfl, hga, c0, c1, c2, c3⟩ := hra j _ hx
        dsimp only at c0 c1 c2 c3
        obtain ⟨la, hla⟩ : ∃ q, q = (wrOf kp mv cs x0).ad := ⟨_, rfl⟩
        rw [← hla] at l0 dq
        obtain ⟨pg, hpg⟩ : ∃ q : Nat, q = livePg kp mv cs x0.1 := ⟨_, rfl⟩
        rw [← hpg] at dq hp4 hwa hwb
        have hpw : wrap64 (pg : Int) = pg := nat_wrap (by omega)
        clear hla hpg hx0 hx0m hrl hra dd hx h016
        have HDQ := Lib.hid dq; have HWA := Lib.hid hwa; have HWB := Lib.hid hwb; have HXA := Lib.hid hxa
        clear dq hwa hwb hxa
        have xl := Nat.lt_of_lt_of_le hgl HX.out.size; have xga := Nat.lt_of_lt_of_le hga HX.out.size
        have kl := (HX.out.cell (p := ⟨gl, ol + j * 4, none⟩) hgl).trans l0
        replace c0 := (HX.out.cell (p := ⟨ga, oa + j * 4, none⟩) hga).trans c0
        replace c1 := (HX.out.cell (p := ⟨ga, oa + j * 4 + 1, none⟩) hga).trans c1
        replace c2 := (HX.out.cell (p := ⟨ga, oa + j * 4 + 2, none⟩) hga).trans c2
        replace c3 := (HX.out.cell (p := ⟨ga, oa + j * 4 + 3, none⟩) hga).trans c3
        have HB4a := Lib.hid (HB4.out.below HX.out)
        have k4_1 := (HB4a.out.cells 1 _ rfl).1; have x4 := HB4a.out.lt
        have HL0 := Lib.hid (And.intro hgl l0)
        clear l0 hgl hga
        go_upto_region 9 with fail
        have hdq := HDQ.out
        go_cut [66] (fun ss66 wx => ss66 = .bool false ∧ Below w1.heap.size w1 wx)
        case first =>
          by_cases hpm : pg = mv
          · have hpm2 : (((pg : Nat) : Int) != ((mv : Nat) : Int)) = false := by rw [hpm]; simp
            clear hpm
            by_cases h0 : 0 < xw
            · with_reducible refine wp_region_grew2 (by kernel_rfl) (by kernel_rfl) ?_
              intro w5 hb5
              have d3 := (hb5.cell (p := ⟨ga, oa + j * 4 + 3, none⟩) xga).trans c3
              have d40 := (hb5.cell (p := ⟨g3 + 1, 1, none⟩) x4).trans k4_1
              have dl := (hb5.cell (p := ⟨gl, ol + j * 4, none⟩) xl).trans kl
              have y1 := Nat.lt_of_lt_of_le xga hb5.size; have y3 := Nat.lt_of_lt_of_le x4 hb5.size; have y4 := Nat.lt_of_lt_of_le xl hb5.size
              repeat (go_big_quiet_step (fail))
              refine wpQuiet_nil ?_
              intro w6 hw'
              have hb6 := hb5.trans ((grew_below hw').mono hb5.size)
              clear hw' d3 d40 dl y1 y3 y4 hb5
              go_wp2_with fail
              go_meet
              exact ⟨rfl, hb6⟩
            · with_reducible refine wp_region_grew2 (by kernel_rfl) (by kernel_rfl) ?_
              intro w5 hb5
              have d3 := (hb5.cell (p := ⟨ga, oa + j * 4 + 3, none⟩) xga).trans c3
              have d40 := (hb5.cell (p := ⟨g3 + 1, 1, none⟩) x4).trans k4_1
              have dl := (hb5.cell (p := ⟨gl, ol + j * 4, none⟩) xl).trans kl
              have y1 := Nat.lt_of_lt_of_le xga hb5.size; have y3 := Nat.lt_of_lt_of_le x4 hb5.size; have y4 := Nat.lt_of_lt_of_le xl hb5.size
              repeat (go_big_quiet_step (fail))
              refine wpQuiet_nil ?_
              intro w6 hw'
              have hb6 := hb5.trans ((grew_below hw').mono hb5.size)
              clear hw' d3 d40 dl y1 y3 y4 hb5
              go_wp2_with fail
              go_meet
              exact ⟨rfl, hb6⟩
          · have hpm2 : (((pg : Nat) : Int) != ((mv : Nat) : Int)) = true := bne_iff_ne.2 (fun e => hpm (Int.ofNat_inj.1 e))
            have h0n : ¬ 0 < xw := fun h => hpm (Int.ofNat_inj.1 (HWA.out h))
            clear hpm
            with_reducible refine wp_region_grew2 (by kernel_rfl) (by kernel_rfl) ?_
            intro w5 hb5
            have d3 := (hb5.cell (p := ⟨ga, oa + j * 4 + 3, none⟩) xga).trans c3
            have d40 := (hb5.cell (p := ⟨g3 + 1, 1, none⟩) x4).trans k4_1
            have dl := (hb5.cell (p := ⟨gl, ol + j * 4, none⟩) xl).trans kl
            have y1 := Nat.lt_of_lt_of_le xga hb5.size; have y3 := Nat.lt_of_lt_of_le x4 hb5.size; have y4 := Nat.lt_of_lt_of_le xl hb5.size
            repeat (go_big_quiet_step (fail))
            refine wpQuiet_nil ?_
            intro w6 hw'
            have hb6 := hb5.trans ((grew_below hw').mono hb5.size)
            clear hw' d3 d40 dl y1 y3 y4 hb5
            go_wp2_with fail
            go_meet
            exact ⟨rfl, hb6⟩
        obtain ⟨rfl, hb6⟩ := hcut
        obtain ⟨w6, rfl⟩ : ∃ x, x = wc := ⟨_, rfl⟩
        have b0 := (hb6.cell (p := ⟨ga, oa + j * 4, none⟩) xga).trans c0
        have b1 := (hb6.cell (p := ⟨ga, oa + j * 4 + 1, none⟩) xga).trans c1
        have b2 := (hb6.cell (p := ⟨ga, oa + j * 4 + 2, none⟩) xga).trans c2
        have b3 := (hb6.cell (p := ⟨ga, oa + j * 4 + 3, none⟩) xga).trans c3
        have xga6 := Nat.lt_of_lt_of_le xga hb6.size
        have HX6 := Lib.hid (HX.out.trans (hb6.mono HX.out.size))
        clear c0 c1 c2 c3 k4_1 x4 kl xl xga hb6
        cases xd
        rotate_left
        · go_wp2_with fail
          go_roundw
          case rel => exact ⟨j + 1, hlt, (by first | exact nat_next hj9 | go_num), HX6.out⟩
          case measure => first | exact nat_meas hl9 hlt | (simp [intOf]; omega)
        · go_upto_region 12 with fail
          have QC0 : Hid (w6.drew.cell? ⟨ga, oa + j * 4, none⟩ = some (.int .i64 xa)) := Lib.hid b0
          have QC1 : Hid (w6.drew.cell? ⟨ga, oa + j * 4 + 1, none⟩ = some (.int .i64 xv)) := Lib.hid b1
          have QC2 : Hid (w6.drew.cell? ⟨ga, oa + j * 4 + 2, none⟩ = some (.bool false)) := Lib.hid b2
          have QC3 : Hid (w6.drew.cell? ⟨ga, oa + j * 4 + 3, none⟩ = some (.int .i64 xw)) := Lib.hid b3
          have BA9 : Hid (BoxAt w6.drew gA [.slice zco zvs.length zcc, .slice zuo t1.s.k.m.f.used.length zuc, .slice zeo t1.s.k.m.ents.length zec, .int .i64 t1.s.k.calls, .slice zro t1.s.k.refuse.length zrc]) := Lib.hid ((HBA.out.below HX6.out).below (Below.drew (Below.refl _ _)))
          have HK6 := Lib.hid (KOwn.below OZ.out HX6.out).at
          obtain ⟨K2, hK2⟩ : ∃ q, q = wrK t1.s.k ⟨xa, xv, false, xw⟩ := ⟨_, rfl⟩
          obtain ⟨⟨xa2, xv2, dn2, xw2⟩, hw2⟩ : ∃ q, q = wrW t1.s.k ⟨xa, xv, false, xw⟩ := ⟨_, rfl⟩
          have CP := Lib.hid (fun W (h : KAt W (⟨⟨⟨.slice zco zvs.length zcc, .slice zuo t1.s.k.m.f.used.length zuc, zvs⟩, .slice zeo t1.s.k.m.ents.length zec⟩, .slice zro t1.s.k.refuse.length zrc⟩ : KV) t1.s.k) => by have h := i_WriterStep (⟨⟨⟨.slice zco zvs.length zcc, .slice zuo t1.s.k.m.f.used.length zuc, zvs⟩, .slice zeo t1.s.k.m.ents.length zec⟩, .slice zro t1.s.k.refuse.length zrc⟩ : KV) t1.s.k xa xv false xw HTS.out HXA.out W h; rwa [← hw2, ← hK2] at h : ∀ W (h : KAt W (⟨⟨⟨.slice zco zvs.length zcc, .slice zuo t1.s.k.m.f.used.length zuc, zvs⟩, .slice zeo t1.s.k.m.ents.length zec⟩, .slice zro t1.s.k.refuse.length zrc⟩ : KV) t1.s.k), Calls Try.prog 31 #[((⟨⟨⟨.slice zco zvs.length zcc, .slice zuo t1.s.k.m.f.used.length zuc, zvs⟩, .slice zeo t1.s.k.m.ents.length zec⟩, .slice zro t1.s.k.refuse.length zrc⟩ : KV)).val t1.s.k.calls, .agg #[.int .i64 xa, .int .i64 xv, .bool false, .int .i64 xw]] W (NewKW W K2 ⟨xa2, xv2, dn2, xw2⟩))
          obtain ⟨act, hact⟩ : ∃ q, q = jobActive (kp : Int) (mv : Int) cs t1.s.ph t1.s.nx := ⟨_, rfl⟩
          have HJA := Lib.hid (fun W (h : IntsAt W (.slice zjo cs.length zjc) cs) => by have h := i_JobActive (kp : Int) (mv : Int) _ cs t1.s.ph t1.s.nx W h; rwa [← hact] at h : ∀ W (h : IntsAt W (.slice zjo cs.length zjc) cs), Calls Try.prog 26 #[.agg #[.int .i64 (kp : Int), .int .i64 (mv : Int), .slice zjo cs.length zjc, .int .i64 t1.s.ph, .int .i64 t1.s.nx]] W fun e w' => e = .returned (.bool act) ∧ Below W.heap.size W w')
          have HAB : Hid (((pg : Nat) : Int) = ((mv : Nat) : Int) → dn2 = !act) := Lib.hid (fun e => by have h := HWB.out rfl e; rw [← hw2, ← hact] at h; exact h)
          clear hK2 hw2 hact b0 b1 b2 b3
          go_cut [14] (fun ss14 wx => ∃ gW, ss14 = .pointer (some ⟨gW, 0, none⟩) ∧ BoxAt wx gW [.int .i64 xa2, .int .i64 xv2, .bool dn2, .int .i64 xw2] ∧ Below (w6.drew).heap.size (w6.drew) wx)
          case first =>
            refine wp_gen (fun a0 ha0 => ?_)
            have hsz : a0.tmps.size = 107 := by rw [ha0]; rfl
            have hps : (w6.drew).heap.size = w6.heap.size := by first | rfl | simp only [World.size_alloc, World.size_drew]
            have X9 : ∀ u, (frAll a0 [74, 75, 76, 77, 78, 79, 73, 80, 81, 13, 14] u).tmps.getD 9 undef = .pointer (some ⟨gA, 0, none⟩) := fun u => (frAll_other (by decide)).trans (by rw [ha0]; rfl)
            have X11 : ∀ u, (frAll a0 [74, 75, 76, 77, 78, 79, 73, 80, 81, 13, 14] u).tmps.getD 11 undef = .slice (some ⟨ga, oa, none⟩) t1.ws.length zuc_ := fun u => (frAll_other (by decide)).trans (by rw [ha0]; rfl)
            have X12 : ∀ u, (frAll a0 [74, 75, 76, 77, 78, 79, 73, 80, 81, 13, 14] u).tmps.getD 12 undef = .int .i64 (j : Int) := fun u => (frAll_other (by decide)).trans (by rw [ha0]; rfl)
            have E74 : ∀ u, (frAll a0 [74, 75, 76, 77, 78, 79, 73, 80, 81, 13, 14] u).tmps.getD 74 undef = u 74 := fun u => frAll_eval (by decide) (by rw [hsz]; decide)
            have P74 : ∀ u v, (frAll a0 [74, 75, 76, 77, 78, 79, 73, 80, 81, 13, 14] u).put (some 74) v = frAll a0 [74, 75, 76, 77, 78, 79, 73, 80, 81, 13, 14] (frUpd u 74 v) := fun u v => frAll_put v (by decide)
            have E75 : ∀ u, (frAll a0 [74, 75, 76, 77, 78, 79, 73, 80, 81, 13, 14] u).tmps.getD 75 undef = u 75 := fun u => frAll_eval (by decide) (by rw [hsz]; decide)
            have P75 : ∀ u v, (frAll a0 [74, 75, 76, 77, 78, 79, 73, 80, 81, 13, 14] u).put (some 75) v = frAll a0 [74, 75, 76, 77, 78, 79, 73, 80, 81, 13, 14] (frUpd u 75 v) := fun u v => frAll_put v (by decide)
            have E76 : ∀ u, (frAll a0 [74, 75, 76, 77, 78, 79, 73, 80, 81, 13, 14] u).tmps.getD 76 undef = u 76 := fun u => frAll_eval (by decide) (by rw [hsz]; decide)
            have P76 : ∀ u v, (frAll a0 [74, 75, 76, 77, 78, 79, 73, 80, 81, 13, 14] u).put (some 76) v = frAll a0 [74, 75, 76, 77, 78, 79, 73, 80, 81, 13, 14] (frUpd u 76 v) := fun u v => frAll_put v (by decide)
            have E77 : ∀ u, (frAll a0 [74, 75, 76, 77, 78, 79, 73, 80, 81, 13, 14] u).tmps.getD 77 undef = u 77 := fun u => frAll_eval (by decide) (by rw [hsz]; decide)
            have P77 : ∀ u v, (frAll a0 [74, 75, 76, 77, 78, 79, 73, 80, 81, 13, 14] u).put (some 77) v = frAll a0 [74, 75, 76, 77, 78, 79, 73, 80, 81, 13, 14] (frUpd u 77 v) := fun u v => frAll_put v (by decide)
            have E78 : ∀ u, (frAll a0 [74, 75, 76, 77, 78, 79, 73, 80, 81, 13, 14] u).tmps.getD 78 undef = u 78 := fun u => frAll_eval (by decide) (by rw [hsz]; decide)
            have P78 : ∀ u v, (frAll a0 [74, 75, 76, 77, 78, 79, 73, 80, 81, 13, 14] u).put (some 78) v = frAll a0 [74, 75, 76, 77, 78, 79, 73, 80, 81, 13, 14] (frUpd u 78 v) := fun u v => frAll_put v (by decide)
            have E79 : ∀ u, (frAll a0 [74, 75, 76, 77, 78, 79, 73, 80, 81, 13, 14] u).tmps.getD 79 undef = u 79 := fun u => frAll_eval (by decide) (by rw [hsz]; decide)
            have P79 : ∀ u v, (frAll a0 [74, 75, 76, 77, 78, 79, 73, 80, 81, 13, 14] u).put (some 79) v = frAll a0 [74, 75, 76, 77, 78, 79, 73, 80, 81, 13, 14] (frUpd u 79 v) := fun u v => frAll_put v (by decide)
            have E73 : ∀ u, (frAll a0 [74, 75, 76, 77, 78, 79, 73, 80, 81, 13, 14] u).tmps.getD 73 undef = u 73 := fun u => frAll_eval (by decide) (by rw [hsz]; decide)
            have P73 : ∀ u v, (frAll a0 [74, 75, 76, 77, 78, 79, 73, 80, 81, 13, 14] u).put (some 73) v = frAll a0 [74, 75, 76, 77, 78, 79, 73, 80, 81, 13, 14] (frUpd u 73 v) := fun u v => frAll_put v (by decide)
            have E80 : ∀ u, (frAll a0 [74, 75, 76, 77, 78, 79, 73, 80, 81, 13, 14] u).tmps.getD 80 undef = u 80 := fun u => frAll_eval (by decide) (by rw [hsz]; decide)
            have P80 : ∀ u v, (frAll a0 [74, 75, 76, 77, 78, 79, 73, 80, 81, 13, 14] u).put (some 80) v = frAll a0 [74, 75, 76, 77, 78, 79, 73, 80, 81, 13, 14] (frUpd u 80 v) := fun u v => frAll_put v (by decide)
            have E81 : ∀ u, (frAll a0 [74, 75, 76, 77, 78, 79, 73, 80, 81, 13, 14] u).tmps.getD 81 undef = u 81 := fun u => frAll_eval (by decide) (by rw [hsz]; decide)
            have P81 : ∀ u v, (frAll a0 [74, 75, 76, 77, 78, 79, 73, 80, 81, 13, 14] u).put (some 81) v = frAll a0 [74, 75, 76, 77, 78, 79, 73, 80, 81, 13, 14] (frUpd u 81 v) := fun u v => frAll_put v (by decide)
            have E13 : ∀ u, (frAll a0 [74, 75, 76, 77, 78, 79, 73, 80, 81, 13, 14] u).tmps.getD 13 undef = u 13 := fun u => frAll_eval (by decide) (by rw [hsz]; decide)
            have P13 : ∀ u v, (frAll a0 [74, 75, 76, 77, 78, 79, 73, 80, 81, 13, 14] u).put (some 13) v = frAll a0 [74, 75, 76, 77, 78, 79, 73, 80, 81, 13, 14] (frUpd u 13 v) := fun u v => frAll_put v (by decide)
            have E14 : ∀ u, (frAll a0 [74, 75, 76, 77, 78, 79, 73, 80, 81, 13, 14] u).tmps.getD 14 undef = u 14 := fun u => frAll_eval (by decide) (by rw [hsz]; decide)
            have P14 : ∀ u v, (frAll a0 [74, 75, 76, 77, 78, 79, 73, 80, 81, 13, 14] u).put (some 14) v = frAll a0 [74, 75, 76, 77, 78, 79, 73, 80, 81, 13, 14] (frUpd u 14 v) := fun u v => frAll_put v (by decide)
            replace ha0 := Lib.hid ha0
            refine wp_region_frame [74, 75, 76, 77, 78, 79, 73, 80, 81, 13, 14] (fun D u wv => ∃ xco xcc xuo xuc xvs xeo xec xro xrc gK gW, Hid (Below (w6.drew).heap.size (w6.drew) wv) ∧ Hid (D 0 → u 74 = .agg #[.slice zco zvs.length zcc, .slice zuo t1.s.k.m.f.used.length zuc, .slice zeo t1.s.k.m.ents.length zec, .int .i64 t1.s.k.calls, .slice zro t1.s.k.refuse.length zrc]) ∧ Hid (D 1 → u 75 = .slice (some ⟨ga, oa, none⟩) t1.ws.length zuc_) ∧ Hid (D 2 → u 76 = .int .i64 (j : Int)) ∧ Hid (D 3 → u 77 = .pointer (some ⟨ga, oa + j * 4, none⟩)) ∧ Hid (D 4 → u 78 = .agg #[.int .i64 xa, .int .i64 xv, .bool false, .int .i64 xw]) ∧ Hid (D 5 → u 79 = .tuple #[.agg #[.slice xco xvs.length xcc, .slice xuo K2.m.f.used.length xuc, .slice xeo K2.m.ents.length xec, .int .i64 K2.calls, .slice xro K2.refuse.length xrc], .agg #[.int .i64 xa2, .int .i64 xv2, .bool dn2, .int .i64 xw2]]) ∧ Hid (D 6 → u 73 = .tuple #[.agg #[.slice xco xvs.length xcc, .slice xuo K2.m.f.used.length xuc, .slice xeo K2.m.ents.length xec, .int .i64 K2.calls, .slice xro K2.refuse.length xrc], .agg #[.int .i64 xa2, .int .i64 xv2, .bool dn2, .int .i64 xw2]]) ∧ Hid (D 7 → u 80 = .agg #[.slice xco xvs.length xcc, .slice xuo K2.m.f.used.length xuc, .slice xeo K2.m.ents.length xec, .int .i64 K2.calls, .slice xro K2.refuse.length xrc]) ∧ Hid (D 8 → u 81 = .agg #[.int .i64 xa2, .int .i64 xv2, .bool dn2, .int .i64 xw2]) ∧ Hid (D 9 → u 13 = .pointer (some ⟨gK, 0, none⟩)) ∧ Hid (D 10 → u 14 = .pointer (some ⟨gW, 0, none⟩)) ∧ Hid (D 5 → KOwn (w6.heap.size) wv (⟨⟨⟨.slice xco xvs.length xcc, .slice xuo K2.m.f.used.length xuc, xvs⟩, .slice xeo K2.m.ents.length xec⟩, .slice xro K2.refuse.length xrc⟩ : KV) K2) ∧ Hid (D 9 → w6.heap.size ≤ gK ∧ gK < wv.heap.size) ∧ Hid (D 9 → ¬ D 11 → BoxAt wv gK [.slice none 0 0, .slice none 0 0, .slice none 0 0, .int .i64 0, .slice none 0 0]) ∧ Hid (D 11 → BoxAt wv gK [.slice xco xvs.length xcc, .slice xuo K2.m.f.used.length xuc, .slice xeo K2.m.ents.length xec, .int .i64 K2.calls, .slice xro K2.refuse.length xrc]) ∧ Hid (D 9 → D 5 → gK ∉ blocks (KV.all (⟨⟨⟨.slice xco xvs.length xcc, .slice xuo K2.m.f.used.length xuc, xvs⟩, .slice xeo K2.m.ents.length xec⟩, .slice xro K2.refuse.length xrc⟩ : KV))) ∧ Hid (D 10 → w6.heap.size ≤ gW ∧ gW < wv.heap.size) ∧ Hid (D 10 → ¬ D 12 → BoxAt wv gW [.int .i64 0, .int .i64 0, .bool false, .int .i64 0]) ∧ Hid (D 12 → BoxAt wv gW [.int .i64 xa2, .int .i64 xv2, .bool dn2, .int .i64 xw2]) ∧ Hid (D 10 → D 5 → gW ∉ blocks (KV.all (⟨⟨⟨.slice xco xvs.length xcc, .slice xuo K2.m.f.used.length xuc, xvs⟩, .slice xeo K2.m.ents.length xec⟩, .slice xro K2.refuse.length xrc⟩ : KV))) ∧ Hid (D 9 → D 10 → gK ≠ gW)) (by kernel_rfl) (by kernel_rfl) ?_ ?_ ?_
            · exact ⟨default, default, default, default, default, default, default, default, default, default, default, Lib.hid (by exact bel), Lib.hid (fun h => h.elim), Lib.hid (fun h => h.elim), Lib.hid (fun h => h.elim), Lib.hid (fun h => h.elim), Lib.hid (fun h => h.elim), Lib.hid (fun h => h.elim), Lib.hid (fun h => h.elim), Lib.hid (fun h => h.elim), Lib.hid (fun h => h.elim), Lib.hid (fun h => h.elim), Lib.hid (fun h => h.elim), Lib.hid (fun h => h.elim), Lib.hid (fun h => h.elim), Lib.hid (fun h => h.elim), Lib.hid (fun h => h.elim), Lib.hid (fun h => h.elim), Lib.hid (fun h => h.elim), Lib.hid (fun h => h.elim), Lib.hid (fun h => h.elim), Lib.hid (fun h => h.elim), Lib.hid (fun h => h.elim)⟩
            · rintro D u wv ⟨xco, xcc, xuo, xuc, xvs, xeo, xec, xro, xrc, gK, gW, HBW, U0, U1, U2, U3, U4, U5, U6, U7, U8, U9, U10, OX, A2gK, A3gK, A4gK, A5gKX, A2gW, A3gW, A4gW, A5gWX, A6gKgW⟩ hcl i hi hn hw
              have hi9 : i < 13 := hi; clear hi
              replace hcl := Lib.hid hcl; replace hw := Lib.hid hw
              have hbw := HBW.out; have hlw := hbw.size; rw [hps] at hlw
              rcases (by omega : i = 0 ∨ i = 1 ∨ i = 2 ∨ i = 3 ∨ i = 4 ∨ i = 5 ∨ i = 6 ∨ i = 7 ∨ i = 8 ∨ i = 9 ∨ i = 10 ∨ i = 11 ∨ i = 12) with rfl | rfl | rfl | rfl | rfl | rfl | rfl | rfl | rfl | rfl | rfl | rfl | rfl
              · skip
                refine wpOp_step (o := _) rfl (fun KK hKK => ?_)
                rw [if_pos (wanted_nil _ rfl)]
                have E9_ := X9 u
                have bx := BA9.out.below hbw
                have c0 := (bx.cells 0 _ rfl).1
                have c1 := (bx.cells 1 _ rfl).1
                have c2 := (bx.cells 2 _ rfl).1
                have c3 := (bx.cells 3 _ rfl).1
                have c4 := (bx.cells 4 _ rfl).1
                skip
                go_simp
                exact hKK _ _ ⟨_, P74 u _, xco, xcc, xuo, xuc, xvs, xeo, xec, xro, xrc, gK, gW, HBW, Lib.hid (fun h0 => frUpd_self), (u10 U1), (u10 U2), (u10 U3), (u10 U4), (u10 U5), (u10 U6), (u10 U7), (u10 U8), (u10 U9), (u10 U10), (k10 OX), (k10 A2gK), (k11 A3gK), (k10 A4gK), (k20 A5gKX), (k10 A2gW), (k11 A3gW), (k10 A4gW), (k20 A5gWX), (k20 A6gKgW)⟩
              · skip
                refine wpOp_step (o := _) rfl (fun KK hKK => ?_)
                rw [if_pos (wanted_nil _ rfl)]
                have E11_ := X11 u
                skip
                go_simp
                exact hKK _ _ ⟨_, P75 u _, xco, xcc, xuo, xuc, xvs, xeo, xec, xro, xrc, gK, gW, HBW, (u10 U0), Lib.hid (fun h0 => frUpd_self), (u10 U2), (u10 U3), (u10 U4), (u10 U5), (u10 U6), (u10 U7), (u10 U8), (u10 U9), (u10 U10), (k10 OX), (k10 A2gK), (k11 A3gK), (k10 A4gK), (k20 A5gKX), (k10 A2gW), (k11 A3gW), (k10 A4gW), (k20 A5gWX), (k20 A6gKgW)⟩
              · skip
                refine wpOp_step (o := _) rfl (fun KK hKK => ?_)
                rw [if_pos (wanted_nil _ rfl)]
                have E12_ := X12 u
                skip
                go_simp
                exact hKK _ _ ⟨_, P76 u _, xco, xcc, xuo, xuc, xvs, xeo, xec, xro, xrc, gK, gW, HBW, (u10 U0), (u10 U1), Lib.hid (fun h0 => frUpd_self), (u10 U3), (u10 U4), (u10 U5), (u10 U6), (u10 U7), (u10 U8), (u10 U9), (u10 U10), (k10 OX), (k10 A2gK), (k11 A3gK), (k10 A4gK), (k20 A5gKX), (k10 A2gW), (k11 A3gW), (k10 A4gW), (k20 A5gWX), (k20 A6gKgW)⟩
              · skip
                refine wpOp_step (o := _) rfl (fun KK hKK => ?_)
                rw [if_pos (wanted_nil _ rfl)]
                have e75 := U1.out (hw.out 1 (by kernel_rfl)); have E75_ := (E75 u).trans e75
                have e76 := U2.out (hw.out 2 (by kernel_rfl)); have E76_ := (E76 u).trans e76
                skip
                go_simp
                exact hKK _ _ ⟨_, P77 u _, xco, xcc, xuo, xuc, xvs, xeo, xec, xro, xrc, gK, gW, HBW, (u10 U0), (u10 U1), (u10 U2), Lib.hid (fun h0 => frUpd_self), (u10 U4), (u10 U5), (u10 U6), (u10 U7), (u10 U8), (u10 U9), (u10 U10), (k10 OX), (k10 A2gK), (k11 A3gK), (k10 A4gK), (k20 A5gKX), (k10 A2gW), (k11 A3gW), (k10 A4gW), (k20 A5gWX), (k20 A6gKgW)⟩
              · skip
                refine wpOp_step (o := _) rfl (fun KK hKK => ?_)
                rw [if_pos (wanted_nil _ rfl)]
                have e77 := U3.out (hw.out 3 (by kernel_rfl)); have E77_ := (E77 u).trans e77
                have c0 := (hbw.cell (p := ⟨ga, oa + j * 4, none⟩) (show ga < _ by rw [hps]; exact xga6)).trans QC0.out
                have c1 := (hbw.cell (p := ⟨ga, oa + j * 4 + 1, none⟩) (show ga < _ by rw [hps]; exact xga6)).trans QC1.out
                have c2 := (hbw.cell (p := ⟨ga, oa + j * 4 + 2, none⟩) (show ga < _ by rw [hps]; exact xga6)).trans QC2.out
                have c3 := (hbw.cell (p := ⟨ga, oa + j * 4 + 3, none⟩) (show ga < _ by rw [hps]; exact xga6)).trans QC3.out
                skip
                go_simp
                exact hKK _ _ ⟨_, P78 u _, xco, xcc, xuo, xuc, xvs, xeo, xec, xro, xrc, gK, gW, HBW, (u10 U0), (u10 U1), (u10 U2), (u10 U3), Lib.hid (fun h0 => frUpd_self), (u10 U5), (u10 U6), (u10 U7), (u10 U8), (u10 U9), (u10 U10), (k10 OX), (k10 A2gK), (k11 A3gK), (k10 A4gK), (k20 A5gKX), (k10 A2gW), (k11 A3gW), (k10 A4gW), (k20 A5gWX), (k20 A6gKgW)⟩
              · skip
                refine wpOp_step (o := _) rfl (fun KK hKK => ?_)
                rw [if_pos (wanted_nil _ rfl)]
                have e74 := U0.out (hw.out 0 (by kernel_rfl)); have E74_ := (E74 u).trans e74
                have e78 := U4.out (hw.out 4 (by kernel_rfl)); have E78_ := (E78 u).trans e78
                skip
                go_simp
                refine (CP.out _ (HK6.out.below (by have hw0 := hbw; exact bel))).mono ?_; rintro e w2 ⟨x, rfl, OX, hb⟩
                obtain ⟨xco, xcc, xuo, xuc, xvs, xeo, xec, xro, xrc, rfl⟩ := KOwn.shapes OX
                simp only [KV.val]
                have hbn := hb.size
                try dsimp only
                exact hKK _ _ ⟨_, P79 u _, xco, xcc, xuo, xuc, xvs, xeo, xec, xro, xrc, gK, gW, (Lib.hid (hbw.trans (hb.mono (by rw [hps]; omega)))), (u10 U0), (u10 U1), (u10 U2), (u10 U3), (u10 U4), Lib.hid (fun h0 => frUpd_self), Lib.hid (fun h0 => absurd (hcl.out 6 5 (by kernel_rfl) (addD_of h0 (by decide))) hn), Lib.hid (fun h0 => absurd (hcl.out 6 5 (by kernel_rfl) (hcl.out 7 6 (by kernel_rfl) (addD_of h0 (by decide)))) hn), (u10 U8), (u10 U9), (u10 U10), Lib.hid (fun h0 => KOwn.mono OX (by omega)), (m10 (lt_grow hb.size) A2gK), (m11 (fun h => h.below hb) A3gK), Lib.hid (fun h0 => absurd (hcl.out 6 5 (by kernel_rfl) (hcl.out 7 6 (by kernel_rfl) (hcl.out 11 7 (by kernel_rfl) (addD_of h0 (by decide))))) hn), Lib.hid (fun h0 h1 => fun hm => Nat.lt_irrefl _ (Nat.lt_of_lt_of_le (A2gK.out (addD_of h0 (by decide))).2 (((OX).lts) _ hm).1)), (m10 (lt_grow hb.size) A2gW), (m11 (fun h => h.below hb) A3gW), (m10 (fun h => h.below hb) A4gW), Lib.hid (fun h0 h1 => fun hm => Nat.lt_irrefl _ (Nat.lt_of_lt_of_le (A2gW.out (addD_of h0 (by decide))).2 (((OX).lts) _ hm).1)), (k20 A6gKgW)⟩
              · skip
                refine wpOp_step (o := _) rfl (fun KK hKK => ?_)
                rw [if_pos (wanted_nil _ rfl)]
                have e79 := U5.out (hw.out 5 (by kernel_rfl)); have E79_ := (E79 u).trans e79
                skip
                go_simp
                exact hKK _ _ ⟨_, P73 u _, xco, xcc, xuo, xuc, xvs, xeo, xec, xro, xrc, gK, gW, HBW, (u10 U0), (u10 U1), (u10 U2), (u10 U3), (u10 U4), (u10 U5), Lib.hid (fun h0 => frUpd_self), (u10 U7), (u10 U8), (u10 U9), (u10 U10), (k10 OX), (k10 A2gK), (k11 A3gK), (k10 A4gK), (k20 A5gKX), (k10 A2gW), (k11 A3gW), (k10 A4gW), (k20 A5gWX), (k20 A6gKgW)⟩
              · skip
                refine wpOp_step (o := _) rfl (fun KK hKK => ?_)
                rw [if_pos (wanted_nil _ rfl)]
                have e73 := U6.out (hw.out 6 (by kernel_rfl)); have E73_ := (E73 u).trans e73
                skip
                go_simp
                exact hKK _ _ ⟨_, P80 u _, xco, xcc, xuo, xuc, xvs, xeo, xec, xro, xrc, gK, gW, HBW, (u10 U0), (u10 U1), (u10 U2), (u10 U3), (u10 U4), (u10 U5), (u10 U6), Lib.hid (fun h0 => frUpd_self), (u10 U8), (u10 U9), (u10 U10), (k10 OX), (k10 A2gK), (k11 A3gK), (k10 A4gK), (k20 A5gKX), (k10 A2gW), (k11 A3gW), (k10 A4gW), (k20 A5gWX), (k20 A6gKgW)⟩
              · skip
                refine wpOp_step (o := _) rfl (fun KK hKK => ?_)
                rw [if_pos (wanted_nil _ rfl)]
                have e73 := U6.out (hw.out 6 (by kernel_rfl)); have E73_ := (E73 u).trans e73
                skip
                go_simp
                exact hKK _ _ ⟨_, P81 u _, xco, xcc, xuo, xuc, xvs, xeo, xec, xro, xrc, gK, gW, HBW, (u10 U0), (u10 U1), (u10 U2), (u10 U3), (u10 U4), (u10 U5), (u10 U6), (u10 U7), Lib.hid (fun h0 => frUpd_self), (u10 U9), (u10 U10), (k10 OX), (k10 A2gK), (k11 A3gK), (k10 A4gK), (k20 A5gKX), (k10 A2gW), (k11 A3gW), (k10 A4gW), (k20 A5gWX), (k20 A6gKgW)⟩
              · skip
                refine wpOp_step (o := _) rfl (fun KK hKK => ?_)
                rw [if_pos (wanted_nil _ rfl)]
                skip
                go_simp
                have hb : Below wv.heap.size wv (wv.alloc (.cells #[.slice none 0 0, .slice none 0 0, .slice none 0 0, .int .i64 0, .slice none 0 0] 35)) := (Below.refl _ wv).alloc (Nat.le_refl _) (.cells #[.slice none 0 0, .slice none 0 0, .slice none 0 0, .int .i64 0, .slice none 0 0] 35)
                have hbn : wv.heap.size < (wv.alloc (.cells #[.slice none 0 0, .slice none 0 0, .slice none 0 0, .int .i64 0, .slice none 0 0] 35)).heap.size := by rw [World.size_alloc]; omega
                have BN : BoxAt (wv.alloc (.cells #[.slice none 0 0, .slice none 0 0, .slice none 0 0, .int .i64 0, .slice none 0 0] 35)) wv.heap.size [.slice none 0 0, .slice none 0 0, .slice none 0 0, .int .i64 0, .slice none 0 0] := (BoxAt.snoc (BoxAt.snoc (BoxAt.snoc (BoxAt.snoc (BoxAt.snoc (BoxAt.nil (w := (wv.alloc (.cells #[.slice none 0 0, .slice none 0 0, .slice none 0 0, .int .i64 0, .slice none 0 0] 35))) (g := wv.heap.size) (by go_simp)) (v := .slice none 0 0) (i := 0) rfl (by go_simp) (by go_simp)) (v := .slice none 0 0) (i := 1) rfl (by go_simp) (by go_simp)) (v := .slice none 0 0) (i := 2) rfl (by go_simp) (by go_simp)) (v := .int .i64 0) (i := 3) rfl (by go_simp) (by go_simp)) (v := .slice none 0 0) (i := 4) rfl (by go_simp) (by go_simp))
                exact hKK _ _ ⟨_, P13 u _, xco, xcc, xuo, xuc, xvs, xeo, xec, xro, xrc, wv.heap.size, gW, (Lib.hid (hbw.trans (hb.mono (by rw [hps]; omega)))), (u10 U0), (u10 U1), (u10 U2), (u10 U3), (u10 U4), (u10 U5), (u10 U6), (u10 U7), (u10 U8), Lib.hid (fun h0 => frUpd_self), (u10 U10), (m10 (fun h => KOwn.below h hb) OX), Lib.hid (fun h0 => ⟨by omega, hbn⟩), Lib.hid (fun h0 m0 => BN), Lib.hid (fun h0 => absurd (hcl.out 11 9 (by kernel_rfl) (addD_of h0 (by decide))) hn), Lib.hid (fun h0 h1 => fun hm => Nat.lt_irrefl _ ((((OX.out (addD_of h1 (by decide)))).lts) _ hm).2), (m10 (lt_grow hb.size) A2gW), (m11 (fun h => h.below hb) A3gW), (m10 (fun h => h.below hb) A4gW), (k20 A5gWX), Lib.hid (fun h0 h1 => Nat.ne_of_gt (A2gW.out (addD_of h1 (by decide))).2)⟩
              · skip
                refine wpOp_step (o := _) rfl (fun KK hKK => ?_)
                rw [if_pos (wanted_nil _ rfl)]
                skip
                go_simp
                have hb : Below wv.heap.size wv (wv.alloc (.cells #[.int .i64 0, .int .i64 0, .bool false, .int .i64 0] 65)) := (Below.refl _ wv).alloc (Nat.le_refl _) (.cells #[.int .i64 0, .int .i64 0, .bool false, .int .i64 0] 65)
                have hbn : wv.heap.size < (wv.alloc (.cells #[.int .i64 0, .int .i64 0, .bool false, .int .i64 0] 65)).heap.size := by rw [World.size_alloc]; omega
                have BN : BoxAt (wv.alloc (.cells #[.int .i64 0, .int .i64 0, .bool false, .int .i64 0] 65)) wv.heap.size [.int .i64 0, .int .i64 0, .bool false, .int .i64 0] := (BoxAt.snoc (BoxAt.snoc (BoxAt.snoc (BoxAt.snoc (BoxAt.nil (w := (wv.alloc (.cells #[.int .i64 0, .int .i64 0, .bool false, .int .i64 0] 65))) (g := wv.heap.size) (by go_simp)) (v := .int .i64 0) (i := 0) rfl (by go_simp) (by go_simp)) (v := .int .i64 0) (i := 1) rfl (by go_simp) (by go_simp)) (v := .bool false) (i := 2) rfl (by go_simp) (by go_simp)) (v := .int .i64 0) (i := 3) rfl (by go_simp) (by go_simp))
                exact hKK _ _ ⟨_, P14 u _, xco, xcc, xuo, xuc, xvs, xeo, xec, xro, xrc, gK, wv.heap.size, (Lib.hid (hbw.trans (hb.mono (by rw [hps]; omega)))), (u10 U0), (u10 U1), (u10 U2), (u10 U3), (u10 U4), (u10 U5), (u10 U6), (u10 U7), (u10 U8), (u10 U9), Lib.hid (fun h0 => frUpd_self), (m10 (fun h => KOwn.below h hb) OX), (m10 (lt_grow hb.size) A2gK), (m11 (fun h => h.below hb) A3gK), (m10 (fun h => h.below hb) A4gK), (k20 A5gKX), Lib.hid (fun h0 => ⟨by omega, hbn⟩), Lib.hid (fun h0 m0 => BN), Lib.hid (fun h0 => absurd (hcl.out 12 10 (by kernel_rfl) (addD_of h0 (by decide))) hn), Lib.hid (fun h0 h1 => fun hm => Nat.lt_irrefl _ ((((OX.out (addD_of h1 (by decide)))).lts) _ hm).2), Lib.hid (fun h0 h1 => Nat.ne_of_lt (A2gK.out (addD_of h0 (by decide))).2)⟩
              · skip
                refine wpOp_step (o := _) rfl (fun KK hKK => ?_)
                rw [if_pos (wanted_nil _ rfl)]
                have e13 := U9.out (hw.out 9 (by kernel_rfl)); have E13_ := (E13 u).trans e13
                have e80 := U7.out (hw.out 7 (by kernel_rfl)); have E80_ := (E80 u).trans e80
                have bx := A3gK.out (hw.out 9 (by kernel_rfl)) hn
                have c0 := (bx.cells 0 _ rfl).1; have f0 := (bx.cells 0 _ rfl).2
                have c1 := (bx.cells 1 _ rfl).1; have f1 := (bx.cells 1 _ rfl).2
                have c2 := (bx.cells 2 _ rfl).1; have f2 := (bx.cells 2 _ rfl).2
                have c3 := (bx.cells 3 _ rfl).1; have f3 := (bx.cells 3 _ rfl).2
                have c4 := (bx.cells 4 _ rfl).1; have f4 := (bx.cells 4 _ rfl).2
                have hgl := A2gK.out (hw.out 9 (by kernel_rfl))
                skip
                go_simp
                have ht : Touch [gK] wv (((((wv.setCell ⟨gK, 0, none⟩ (.slice xco xvs.length xcc)).setCell ⟨gK, 1, none⟩ (.slice xuo K2.m.f.used.length xuc)).setCell ⟨gK, 2, none⟩ (.slice xeo K2.m.ents.length xec)).setCell ⟨gK, 3, none⟩ (.int .i64 K2.calls)).setCell ⟨gK, 4, none⟩ (.slice xro K2.refuse.length xrc)) := touch_bx (touch_bx (touch_bx (touch_bx (touch_bx (Touch.refl [gK] wv)))))
                have hb := ht.toBelow (B := w6.heap.size) (fun g hg => by have := List.mem_singleton.1 hg; omega) (by omega)
                have BN : BoxAt (((((wv.setCell ⟨gK, 0, none⟩ (.slice xco xvs.length xcc)).setCell ⟨gK, 1, none⟩ (.slice xuo K2.m.f.used.length xuc)).setCell ⟨gK, 2, none⟩ (.slice xeo K2.m.ents.length xec)).setCell ⟨gK, 3, none⟩ (.int .i64 K2.calls)).setCell ⟨gK, 4, none⟩ (.slice xro K2.refuse.length xrc)) gK [.slice xco xvs.length xcc, .slice xuo K2.m.f.used.length xuc, .slice xeo K2.m.ents.length xec, .int .i64 K2.calls, .slice xro K2.refuse.length xrc] := (BoxAt.snoc (BoxAt.snoc (BoxAt.snoc (BoxAt.snoc (BoxAt.snoc (BoxAt.nil (w := (((((wv.setCell ⟨gK, 0, none⟩ (.slice xco xvs.length xcc)).setCell ⟨gK, 1, none⟩ (.slice xuo K2.m.f.used.length xuc)).setCell ⟨gK, 2, none⟩ (.slice xeo K2.m.ents.length xec)).setCell ⟨gK, 3, none⟩ (.int .i64 K2.calls)).setCell ⟨gK, 4, none⟩ (.slice xro K2.refuse.length xrc))) (g := gK) (by have := ht.size; omega)) (v := .slice xco xvs.length xcc) (i := 0) rfl (by go_simp) (by go_simp)) (v := .slice xuo K2.m.f.used.length xuc) (i := 1) rfl (by go_simp) (by go_simp)) (v := .slice xeo K2.m.ents.length xec) (i := 2) rfl (by go_simp) (by go_simp)) (v := .int .i64 K2.calls) (i := 3) rfl (by go_simp) (by go_simp)) (v := .slice xro K2.refuse.length xrc) (i := 4) rfl (by go_simp) (by go_simp))
                have HDM : D 5 := (hcl.out 6 5 (by kernel_rfl) (hcl.out 7 6 (by kernel_rfl) (hw.out 7 (by kernel_rfl))))
                exact hKK _ _ ⟨u, rfl, xco, xcc, xuo, xuc, xvs, xeo, xec, xro, xrc, gK, gW, (Lib.hid (hbw.trans (hb.mono (by rw [hps]; exact Nat.le_refl _)))), (k10 U0), (k10 U1), (k10 U2), (k10 U3), (k10 U4), (k10 U5), (k10 U6), (k10 U7), (k10 U8), (k10 U9), (k10 U10), (md10 (fun d h => KOwn.touch h ht (fun g hg hm => by cases List.mem_singleton.1 hm; exact A5gKX.out (hw.out 9 (by kernel_rfl)) d hg)) OX), (m10 (lt_grow ht.size) A2gK), x11, Lib.hid (fun h0 => BN), (k20 A5gKX), (m10 (lt_grow ht.size) A2gW), Lib.hid (fun h0 m0 => (A3gW.out (addD_of h0 (by decide)) (fun x => m0 (addD_mem x))).touch ht (fun hm => (A6gKgW.out (hw.out 9 (by kernel_rfl)) (addD_of h0 (by decide))) (List.mem_singleton.1 hm).symm)), Lib.hid (fun h0 => (A4gW.out (addD_of h0 (by decide))).touch ht (fun hm => (A6gKgW.out (hw.out 9 (by kernel_rfl)) (hcl.out 12 10 (by kernel_rfl) (addD_of h0 (by decide)))) (List.mem_singleton.1 hm).symm)), (k20 A5gWX), (k20 A6gKgW)⟩
              · skip
                refine wpOp_step (o := _) rfl (fun KK hKK => ?_)
                rw [if_pos (wanted_nil _ rfl)]
                have e14 := U10.out (hw.out 10 (by kernel_rfl)); have E14_ := (E14 u).trans e14
                have e81 := U8.out (hw.out 8 (by kernel_rfl)); have E81_ := (E81 u).trans e81
                have bx := A3gW.out (hw.out 10 (by kernel_rfl)) hn
                have c0 := (bx.cells 0 _ rfl).1; have f0 := (bx.cells 0 _ rfl).2
                have c1 := (bx.cells 1 _ rfl).1; have f1 := (bx.cells 1 _ rfl).2
                have c2 := (bx.cells 2 _ rfl).1; have f2 := (bx.cells 2 _ rfl).2
                have c3 := (bx.cells 3 _ rfl).1; have f3 := (bx.cells 3 _ rfl).2
                have hgl := A2gW.out (hw.out 10 (by kernel_rfl))
                skip
                go_simp
                have ht : Touch [gW] wv ((((wv.setCell ⟨gW, 0, none⟩ (.int .i64 xa2)).setCell ⟨gW, 1, none⟩ (.int .i64 xv2)).setCell ⟨gW, 2, none⟩ (.bool dn2)).setCell ⟨gW, 3, none⟩ (.int .i64 xw2)) := touch_bx (touch_bx (touch_bx (touch_bx (Touch.refl [gW] wv))))
                have hb := ht.toBelow (B := w6.heap.size) (fun g hg => by have := List.mem_singleton.1 hg; omega) (by omega)
                have BN : BoxAt ((((wv.setCell ⟨gW, 0, none⟩ (.int .i64 xa2)).setCell ⟨gW, 1, none⟩ (.int .i64 xv2)).setCell ⟨gW, 2, none⟩ (.bool dn2)).setCell ⟨gW, 3, none⟩ (.int .i64 xw2)) gW [.int .i64 xa2, .int .i64 xv2, .bool dn2, .int .i64 xw2] := (BoxAt.snoc (BoxAt.snoc (BoxAt.snoc (BoxAt.snoc (BoxAt.nil (w := ((((wv.setCell ⟨gW, 0, none⟩ (.int .i64 xa2)).setCell ⟨gW, 1, none⟩ (.int .i64 xv2)).setCell ⟨gW, 2, none⟩ (.bool dn2)).setCell ⟨gW, 3, none⟩ (.int .i64 xw2))) (g := gW) (by have := ht.size; omega)) (v := .int .i64 xa2) (i := 0) rfl (by go_simp) (by go_simp)) (v := .int .i64 xv2) (i := 1) rfl (by go_simp) (by go_simp)) (v := .bool dn2) (i := 2) rfl (by go_simp) (by go_simp)) (v := .int .i64 xw2) (i := 3) rfl (by go_simp) (by go_simp))
                have HDM : D 5 := (hcl.out 6 5 (by kernel_rfl) (hcl.out 8 6 (by kernel_rfl) (hw.out 8 (by kernel_rfl))))
                exact hKK _ _ ⟨u, rfl, xco, xcc, xuo, xuc, xvs, xeo, xec, xro, xrc, gK, gW, (Lib.hid (hbw.trans (hb.mono (by rw [hps]; exact Nat.le_refl _)))), (k10 U0), (k10 U1), (k10 U2), (k10 U3), (k10 U4), (k10 U5), (k10 U6), (k10 U7), (k10 U8), (k10 U9), (k10 U10), (md10 (fun d h => KOwn.touch h ht (fun g hg hm => by cases List.mem_singleton.1 hm; exact A5gWX.out (hw.out 10 (by kernel_rfl)) d hg)) OX), (m10 (lt_grow ht.size) A2gK), Lib.hid (fun h0 m0 => (A3gK.out (addD_of h0 (by decide)) (fun x => m0 (addD_mem x))).touch ht (fun hm => (A6gKgW.out (addD_of h0 (by decide)) (hw.out 10 (by kernel_rfl))) (List.mem_singleton.1 hm))), Lib.hid (fun h0 => (A4gK.out (addD_of h0 (by decide))).touch ht (fun hm => (A6gKgW.out (hcl.out 11 9 (by kernel_rfl) (addD_of h0 (by decide))) (hw.out 10 (by kernel_rfl))) (List.mem_singleton.1 hm))), (k20 A5gKX), (m10 (lt_grow ht.size) A2gW), x11, Lib.hid (fun h0 => BN), (k20 A5gWX), (k20 A6gKgW)⟩
            · rintro D u wv ⟨xco, xcc, xuo, xuc, xvs, xeo, xec, xro, xrc, gK, gW, HBW, U0, U1, U2, U3, U4, U5, U6, U7, U8, U9, U10, OX, A2gK, A3gK, A4gK, A5gKX, A2gW, A3gW, A4gW, A5gWX, A6gKgW⟩ hall
              have d0 := hall 0 (by show 0 < 13; decide)
              have d1 := hall 1 (by show 1 < 13; decide)
              have d2 := hall 2 (by show 2 < 13; decide)
              have d3 := hall 3 (by show 3 < 13; decide)
              have d4 := hall 4 (by show 4 < 13; decide)
              have d5 := hall 5 (by show 5 < 13; decide)
              have d6 := hall 6 (by show 6 < 13; decide)
              have d7 := hall 7 (by show 7 < 13; decide)
              have d8 := hall 8 (by show 8 < 13; decide)
              have d9 := hall 9 (by show 9 < 13; decide)
              have d10 := hall 10 (by show 10 < 13; decide)
              have d11 := hall 11 (by show 11 < 13; decide)
              have d12 := hall 12 (by show 12 < 13; decide)
              have ha1 := ha0.out; subst ha1
              simp only [frAll, frTo, List.setIfInBounds_toArray, List.set_cons_succ, List.set_cons_zero]
              go_wp2_with fail
              go_meet
              exact ⟨gW, (U10.out d10), (A4gW.out d12), HBW.out⟩
          obtain ⟨gW, rfl, bW, hbel⟩ := hcut
          obtain ⟨w7, rfl⟩ : ∃ x, x = wc := ⟨_, rfl⟩
          have HX7 := Lib.hid (HX6.out.trans (((Below.drew (Below.refl _ _)).trans hbel).mono HX6.out.size))
          clear hbel BA9 QC0 QC1 QC2 QC3 CP HK6
          have kW_2 := (bW.cells 2 _ rfl).1; have xW := bW.lt
          have HB7 := Lib.hid (HBB.out.below HX7.out); have HB47 := Lib.hid (HB4.out.below HX7.out)
          have kB_0 := (HB7.out.cells 0 _ rfl).1; have kB_1 := (HB7.out.cells 1 _ rfl).1; have kB_2 := (HB7.out.cells 2 _ rfl).1; have kB_3 := (HB7.out.cells 3 _ rfl).1; have kB_4 := (HB7.out.cells 4 _ rfl).1; have xB := HB7.out.lt
          have k4_1 := (HB47.out.cells 1 _ rfl).1; have x4 := HB47.out.lt
          have kl := (HX7.out.cell (p := ⟨gl, ol + j * 4, none⟩) HL0.out.1).trans HL0.out.2
          have xl := Nat.lt_of_lt_of_le HL0.out.1 HX7.out.size
          have HZ7 := Lib.hid ((Own.below OZV.out HX7.out).at lenInt)
          clear bW
          have hdq := HDQ.out
          go_upto_region 13 with fail
          go_cut [97] (fun ss97 wx => ss97 = .bool false ∧ Below w7.heap.size w7 wx)
          case first =>
            by_cases hpm : pg = mv
            · have hpm3 : (((pg : Nat) : Int) == ((mv : Nat) : Int)) = true := by rw [hpm]; exact beq_self_eq_true _
              have hab := HAB.out (by rw [hpm])
              clear hpm
              cases act
              · have hab2 : dn2 = true := hab
                clear hab; subst hab2
                with_reducible refine wp_region_grew2 (by kernel_rfl) (by kernel_rfl) ?_
                intro w8 hb8
                have e2 := (hb8.cell (p := ⟨gW, 2, none⟩) xW).trans kW_2
                have e10 := (hb8.cell (p := ⟨gA + 1, 0, none⟩) xB).trans kB_0; have e11 := (hb8.cell (p := ⟨gA + 1, 1, none⟩) xB).trans kB_1; have e12 := (hb8.cell (p := ⟨gA + 1, 2, none⟩) xB).trans kB_2; have e13 := (hb8.cell (p := ⟨gA + 1, 3, none⟩) xB).trans kB_3; have e14 := (hb8.cell (p := ⟨gA + 1, 4, none⟩) xB).trans kB_4
                have e40 := (hb8.cell (p := ⟨g3 + 1, 1, none⟩) x4).trans k4_1
                have el := (hb8.cell (p := ⟨gl, ol + j * 4, none⟩) xl).trans kl
                have y1 := Nat.lt_of_lt_of_le xW hb8.size; have y2 := Nat.lt_of_lt_of_le xB hb8.size; have y3 := Nat.lt_of_lt_of_le x4 hb8.size; have y4 := Nat.lt_of_lt_of_le xl hb8.size
                have HZ8 := Lib.hid (SlAt.below HZ7.out hb8)
                repeat (go_big_quiet_step ((go_at_call 26; exact calls_grew (HJA.out _ (SlAt.below HZ8.out (Grew.below _))))))
                refine wpQuiet_nil ?_
                intro w9_ hw'
                have hb9 := hb8.trans ((grew_below hw').mono hb8.size)
                clear hw'
                go_wp2_with fail
                go_meet
                exact ⟨rfl, hb9⟩
              · have hab2 : dn2 = false := hab
                clear hab; subst hab2
                with_reducible refine wp_region_grew2 (by kernel_rfl) (by kernel_rfl) ?_
                intro w8 hb8
                have e2 := (hb8.cell (p := ⟨gW, 2, none⟩) xW).trans kW_2
                have e10 := (hb8.cell (p := ⟨gA + 1, 0, none⟩) xB).trans kB_0; have e11 := (hb8.cell (p := ⟨gA + 1, 1, none⟩) xB).trans kB_1; have e12 := (hb8.cell (p := ⟨gA + 1, 2, none⟩) xB).trans kB_2; have e13 := (hb8.cell (p := ⟨gA + 1, 3, none⟩) xB).trans kB_3; have e14 := (hb8.cell (p := ⟨gA + 1, 4, none⟩) xB).trans kB_4
                have e40 := (hb8.cell (p := ⟨g3 + 1, 1, none⟩) x4).trans k4_1
                have el := (hb8.cell (p := ⟨gl, ol + j * 4, none⟩) xl).trans kl
                have y1 := Nat.lt_of_lt_of_le xW hb8.size; have y2 := Nat.lt_of_lt_of_le xB hb8.size; have y3 := Nat.lt_of_lt_of_le x4 hb8.size; have y4 := Nat.lt_of_lt_of_le xl hb8.size
                have HZ8 := Lib.hid (SlAt.below HZ7.out hb8)
                repeat (go_big_quiet_step ((go_at_call 26; exact calls_grew (HJA.out _ (SlAt.below HZ8.out (Grew.below _))))))
                refine wpQuiet_nil ?_
                intro w9_ hw'
                have hb9 := hb8.trans ((grew_below hw').mono hb8.size)
                clear hw'
                go_wp2_with fail
                go_meet
                exact ⟨rfl, hb9⟩
            · have hpm3 : (((pg : Nat) : Int) == ((mv : Nat) : Int)) = false := beq_false_of_ne (fun e => hpm (Int.ofNat_inj.1 e))
              clear hpm
              cases dn2
              · cases act
                · with_reducible refine wp_region_grew2 (by kernel_rfl) (by kernel_rfl) ?_
                  intro w8 hb8
                  have e2 := (hb8.cell (p := ⟨gW, 2, none⟩) xW).trans kW_2
                  have e10 := (hb8.cell (p := ⟨gA + 1, 0, none⟩) xB).trans kB_0; have e11 := (hb8.cell (p := ⟨gA + 1, 1, none⟩) xB).trans kB_1; have e12 := (hb8.cell (p := ⟨gA + 1, 2, none⟩) xB).trans kB_2; have e13 := (hb8.cell (p := ⟨gA + 1, 3, none⟩) xB).trans kB_3; have e14 := (hb8.cell (p := ⟨gA + 1, 4, none⟩) xB).trans kB_4
                  have e40 := (hb8.cell (p := ⟨g3 + 1, 1, none⟩) x4).trans k4_1
                  have el := (hb8.cell (p := ⟨gl, ol + j * 4, none⟩) xl).trans kl
                  have y1 := Nat.lt_of_lt_of_le xW hb8.size; have y2 := Nat.lt_of_lt_of_le xB hb8.size; have y3 := Nat.lt_of_lt_of_le x4 hb8.size; have y4 := Nat.lt_of_lt_of_le xl hb8.size
                  have HZ8 := Lib.hid (SlAt.below HZ7.out hb8)
                  repeat (go_big_quiet_step ((go_at_call 26; exact calls_grew (HJA.out _ (SlAt.below HZ8.out (Grew.below _))))))
                  refine wpQuiet_nil ?_
                  intro w9_ hw'
                  have hb9 := hb8.trans ((grew_below hw').mono hb8.size)
                  clear hw'
                  go_wp2_with fail
                  go_meet
                  exact ⟨rfl, hb9⟩
                · with_reducible refine wp_region_grew2 (by kernel_rfl) (by kernel_rfl) ?_
                  intro w8 hb8
                  have e2 := (hb8.cell (p := ⟨gW, 2, none⟩) xW).trans kW_2
                  have e10 := (hb8.cell (p := ⟨gA + 1, 0, none⟩) xB).trans kB_0; have e11 := (hb8.cell (p := ⟨gA + 1, 1, none⟩) xB).trans kB_1; have e12 := (hb8.cell (p := ⟨gA + 1, 2, none⟩) xB).trans kB_2; have e13 := (hb8.cell (p := ⟨gA + 1, 3, none⟩) xB).trans kB_3; have e14 := (hb8.cell (p := ⟨gA + 1, 4, none⟩) xB).trans kB_4
                  have e40 := (hb8.cell (p := ⟨g3 + 1, 1, none⟩) x4).trans k4_1
                  have el := (hb8.cell (p := ⟨gl, ol + j * 4, none⟩) xl).trans kl
                  have y1 := Nat.lt_of_lt_of_le xW hb8.size; have y2 := Nat.lt_of_lt_of_le xB hb8.size; have y3 := Nat.lt_of_lt_of_le x4 hb8.size; have y4 := Nat.lt_of_lt_of_le xl hb8.size
                  have HZ8 := Lib.hid (SlAt.below HZ7.out hb8)
                  repeat (go_big_quiet_step ((go_at_call 26; exact calls_grew (HJA.out _ (SlAt.below HZ8.out (Grew.below _))))))
                  refine wpQuiet_nil ?_
                  intro w9_ hw'
                  have hb9 := hb8.trans ((grew_below hw').mono hb8.size)
                  clear hw'
                  go_wp2_with fail
                  go_meet
                  exact ⟨rfl, hb9⟩
              · cases act
                · with_reducible refine wp_region_grew2 (by kernel_rfl) (by kernel_rfl) ?_
                  intro w8 hb8
                  have e2 := (hb8.cell (p := ⟨gW, 2, none⟩) xW).trans kW_2
                  have e10 := (hb8.cell (p := ⟨gA + 1, 0, none⟩) xB).trans kB_0; have e11 := (hb8.cell (p := ⟨gA + 1, 1, none⟩) xB).trans kB_1; have e12 := (hb8.cell (p := ⟨gA + 1, 2, none⟩) xB).trans kB_2; have e13 := (hb8.cell (p := ⟨gA + 1, 3, none⟩) xB).trans kB_3; have e14 := (hb8.cell (p := ⟨gA + 1, 4, none⟩) xB).trans kB_4
                  have e40 := (hb8.cell (p := ⟨g3 + 1, 1, none⟩) x4).trans k4_1
                  have el := (hb8.cell (p := ⟨gl, ol + j * 4, none⟩) xl).trans kl
                  have y1 := Nat.lt_of_lt_of_le xW hb8.size; have y2 := Nat.lt_of_lt_of_le xB hb8.size; have y3 := Nat.lt_of_lt_of_le x4 hb8.size; have y4 := Nat.lt_of_lt_of_le xl hb8.size
                  have HZ8 := Lib.hid (SlAt.below HZ7.out hb8)
                  repeat (go_big_quiet_step ((go_at_call 26; exact calls_grew (HJA.out _ (SlAt.below HZ8.out (Grew.below _))))))
                  refine wpQuiet_nil ?_
                  intro w9_ hw'
                  have hb9 := hb8.trans ((grew_below hw').mono hb8.size)
                  clear hw'
                  go_wp2_with fail
                  go_meet
                  exact ⟨rfl, hb9⟩
                · with_reducible refine wp_region_grew2 (by kernel_rfl) (by kernel_rfl) ?_
                  intro w8 hb8
                  have e2 := (hb8.cell (p := ⟨gW, 2, none⟩) xW).trans kW_2
                  have e10 := (hb8.cell (p := ⟨gA + 1, 0, none⟩) xB).trans kB_0; have e11 := (hb8.cell (p := ⟨gA + 1, 1, none⟩) xB).trans kB_1; have e12 := (hb8.cell (p := ⟨gA + 1, 2, none⟩) xB).trans kB_2; have e13 := (hb8.cell (p := ⟨gA + 1, 3, none⟩) xB).trans kB_3; have e14 := (hb8.cell (p := ⟨gA + 1, 4, none⟩) xB).trans kB_4
                  have e40 := (hb8.cell (p := ⟨g3 + 1, 1, none⟩) x4).trans k4_1
                  have el := (hb8.cell (p := ⟨gl, ol + j * 4, none⟩) xl).trans kl
                  have y1 := Nat.lt_of_lt_of_le xW hb8.size; have y2 := Nat.lt_of_lt_of_le xB hb8.size; have y3 := Nat.lt_of_lt_of_le x4 hb8.size; have y4 := Nat.lt_of_lt_of_le xl hb8.size
                  have HZ8 := Lib.hid (SlAt.below HZ7.out hb8)
                  repeat (go_big_quiet_step ((go_at_call 26; exact calls_grew (HJA.out _ (SlAt.below HZ8.out (Grew.below _))))))
                  refine wpQuiet_nil ?_
                  intro w9_ hw'
                  have hb9 := hb8.trans ((grew_below hw').mono hb8.size)
                  clear hw'
                  go_wp2_with fail
                  go_meet
                  exact ⟨rfl, hb9⟩
          obtain ⟨rfl, hb9⟩ := hcut
          obtain ⟨w9_, rfl⟩ : ∃ x, x = wc := ⟨_, rfl⟩
          have HX9 := Lib.hid (HX7.out.trans (hb9.mono HX7.out.size))
          clear hb9
          go_wp2_with fail
          go_roundw
          case rel => exact ⟨j + 1, hlt, (by first | exact nat_next hj9 | go_num), HX9.out⟩
          case measure => first | exact nat_meas hl9 hlt | (simp [intOf]; omega)
      · obtain rfl : j = t1.ws.length := by omega
        have hlt' : ¬ (t1.ws.length : Int) < (t1.ws.length : Nat) := by omega
        have hll : (((t1.ws.length : Nat) : Int) == ((W0.length : Nat) : Int)) = true := by rw [HLN.out]; exact beq_self_eq_true _
        have HBB1 := Lib.hid (HBB.out.below HX.out)
        replace HW := Lib.hid (HW.out.trans (HX.out.mono HW.out.size))
        have kB_0 := (HBB1.out.cells 0 _ rfl).1; have kB_1 := (HBB1.out.cells 1 _ rfl).1; have kB_2 := (HBB1.out.cells 2 _ rfl).1; have kB_3 := (HBB1.out.cells 3 _ rfl).1; have kB_4 := (HBB1.out.cells 4 _ rfl).1; have xB1 := HBB1.out.lt
        go_wp2_with fail
        refine (i_JobOk (kp : Int) (mv : Int) _ cs t1.s.ph t1.s.nx true HJO.out _ ((Own.below OZV.out HX.out).at lenInt)).mono ?_; rintro e wl ⟨rfl, hb⟩
        have hB := HW.out.trans (hb.mono HW.out.size)
        go_wp2_with fail
        go_ret
        exact ⟨by first | rfl | simp_all, by exact bel⟩

namespace fnWaits
set_option maxRecDepth 100000 in
theorem contract (H : Type) (enc : TypeId × Value → H) (W : World) (base : Nat) (args : Array Value) (ds gs : List (DataW H)) (before : List MemPlace)
    (hval : ∀ (j : Nat) t v, Try.f7.params[j]? = some t → args[j]? = some v → Value.okWide Try.prog W .any base t v)
    (hW : DataW.Whole enc Try.prog Try.f7.params.toList Rows.fnWaitsSpec.vars false W args.toList ds gs before) :
    Calls Try.prog 7 args W fun e W' => ∃ v, e = .returned v ∧ Rows.fnWaitsSpec.post enc Try.prog Try.f7 false true false false W args v W' := by
  have hW' := hW
  obtain ⟨p, q, hA0, hV, rfl, hfz, hnd⟩ := hW
  have hA : DataW.TrodAll enc Try.prog W 0 (fun _ => true) true Try.f7.params.toList args.toList ds p := hA0
  rw [Try.params7] at hA hval
  obtain ⟨v0, vs0, d0, ds0, p0, q0, hargs, rfl, rfl, h0, r0⟩ := trodAll_cons hA
  obtain ⟨rfl, rfl, rfl⟩ := trodAll_nil r0
  obtain rfl : args = #[v0] := by cases args; simp_all
  obtain ⟨rfl, rfl⟩ := trodVars_none hV
  obtain ⟨n, hv⟩ := bytes_open Try.underlying22 Try.underlying5 (by kernel_rfl) (hval 0 22 v0 rfl rfl) h0
  clear hA0
  refine (w_FnWaits v0 n W hv).mono fun e W' ⟨he, hg⟩ => ?_
  subst he
  exact ⟨_, rfl, law_post (tb := 4) laidOut (by kernel_rfl) rfl rfl Try.underlying4 hW' rfl rfl rfl hg⟩
set_option maxRecDepth 100000 in
theorem lifted (os : Os) (started : os.Started) (H : Type) (enc : TypeId × Value → H) :
    ReturnsInHanded {} Try.checked os 7 .any (Rows.fnWaitsSpec.pre6 enc Try.prog Try.f7 Rows.fnWaitsRow.domain false) (Rows.fnWaitsSpec.post enc Try.prog Try.f7 false true false false) := by
  refine returnsInHanded_of_change (C := Try.checked) own started (by kernel_rfl) Try.func7
    (ChangeSpec.witness6 (enc := enc) (C := Try.checked) false ⟨#[], #[.slice none 0 0], []⟩ 8 (by kernel_rfl) (by kernel_rfl) (by kernel_rfl) (by kernel_rfl)) ?_
  intro W base args ds gs before hval hW _ _
  exact contract H enc W base args ds gs before hval hW
/-- The statement. -/
theorem proved : Rows.FnWaitsSaid :=
  OpenClaim.holds_of_wide 7 Try.f7 rfl rfl rfl rfl rfl rfl rfl ⟨rfl, rfl, rfl, rfl, rfl⟩ rfl rfl rfl rfl rfl (by kernel_rfl) Try.func7 (by kernel_rfl)
    (of_decide_eq_true (by kernel_rfl)) (by unfold Func.isWrapper; first | (rw [if_pos (by decide +kernel)]; kernel_rfl) | (rw [if_neg (by decide +kernel)]; exact ⟨rfl, rfl⟩))
    (fun os started H enc _ => lifted os started H enc)
end fnWaits

end Go.Proofs.Ytkkebpcclklmcaa
