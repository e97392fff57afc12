/- 'laws.FnJobVisible' returns true, whatever the bytes: no condition. -/
import Derived.Test.YtkkebpcclklmcaaGB45
import Derived.Test.YtkkebpcclklmcaaGB44
import Derived.Test.YtkkebpcclklmcaaGB28
import Derived.Test.YtkkebpcclklmcaaGB30
import Derived.Test.YtkkebpcclklmcaaGB22
import Derived.Test.YtkkebpcclklmcaaGB24
set_option linter.unusedVariables false
set_option linter.unusedSimpArgs false
namespace Go.Proofs.Ytkkebpcclklmcaa
open Go.Deep Go.ChangeShapes Go.WideShapes Go.ChangeAt Go.RowKit
theorem vis_pack {K : Ker} {kp mv : Nat} {cs : List Int} {R : JS} (h : Vis K kp mv cs R) (hk4 : kp < 4) (hm4 : mv < 4) {i p : Nat} (hi : i < 16) (hp : p = livePg kp mv cs i) : ∃ va fa : Int,
    (∀ x W, MAt W x K.m → Calls Try.prog 13 #[x.val, .int .i64 (16 * (p : Int) + (i : Int))] W fun e w' => e = .returned (.tuple #[.int .i64 va, .int .i64 fa]) ∧ Below W.heap.size W w') ∧
    (∀ x W, MAt W x R.k.m → Calls Try.prog 14 #[x.val, .int .i64 (16 * (p : Int) + (i : Int))] W fun e w' => e = .returned (.tuple #[.int .i64 va, .int .i64 fa]) ∧ Below W.heap.size W w') := by
  have hp4 : p < 4 := by rw [hp, ← pgTo_all]; exact pgTo_lt hk4 hm4
  obtain ⟨l1, l2⟩ := h.load i hi
  rw [← hp] at l1 l2
  refine ⟨loadV K.m (16 * (p : Int) + (i : Int)), loadF K.m (16 * (p : Int) + (i : Int)), fun x W hx => s_Load x K.m _ (by omega) W hx, fun x W hx => ?_⟩
  have := i_Load x R.k.m (16 * (p : Int) + (i : Int)) (by omega) W hx
  rwa [l1, l2] at this
theorem vis_nums {q : Int} (h : 0 ≤ q ∧ q ≤ 9999) : ∃ a : Nat, q.tmod 30 = (a : Int) ∧ a < 30 ∧ wrap64 (a : Int) = a := by
  obtain ⟨a, h1, h2, -, h3⟩ := tmod_nat (m := 30) h.1 (by decide) (by decide)
  exact ⟨a, h1, h2, h3⟩
set_option maxRecDepth 20000 in
set_option maxHeartbeats 6400000 in
theorem w_FnJobVisible (v : Value) (n : Nat) (w : World) (hv : BytesAt w.heap.size w v n) : Calls Try.prog 3 #[v] w fun e w' => e = .returned (.bool true) ∧ Below w.heap.size w w' := by
  have HV := Lib.hid hv; clear hv
  by_cases hbig : (1048576 : Int) < n
  · (have hall := all_nil w; go_enter Try.func3, Try.ntmps3)
    go_wp2_with (go_at_call 8; refine (l_big _ n _ HV.out).mono ?_; rintro e w1 ⟨rfl, rfl⟩)
    all_goals (go_ret; refine ⟨by simp_all [], ?_⟩; exact bel)
  · (have hall := all_nil w; go_enter Try.func3, Try.ntmps3)
    go_wp2_with (go_at_call 8; refine (l_big _ n _ HV.out).mono ?_; rintro e w1 ⟨rfl, rfl⟩)
    refine (s_DrawPair _ n _ HV.out).mono ?_; rintro e w2 ⟨y, K, kp, mv, v, cs, rfl, hd, hcl, hk4, hm4, hko, hvo, hap, hb⟩
    obtain ⟨yco, ycc, yuo, yuc, yvs, yeo, yec, yro, yrc, rfl⟩ := KOwn.shapes hko
    obtain ⟨vo, vc, rfl, -, -, -⟩ := Own.shape hvo
    have HD := Lib.hid hd; have OK := Lib.hid hko; have OV := Lib.hid hvo; have HW := Lib.hid hb
    have HSZ : Hid (szK K ≤ 1048576) := Lib.hid (by have h1 := mok_szK hd.ok; have h2 := hd.rl; omega)
    have H16 : Hid (cs.length ≤ 1048576) := Lib.hid (Nat.le_trans hd.c16 (by decide))
    have hc16 := hd.c16
    clear hd hko hvo hap hb hcl
    simp only [KV.val]
    go_wp2_with fail
    refine (s_DrawPlaces _ n _ (BytesAt.grewN HV.out (by (have hW := HW.out; have hz := hW.size; exact bel)))).mono ?_; rintro e w4 ⟨pv, ps, rfl, hown, hxl, hxs, hb⟩
    obtain ⟨pg, pc, rfl, hgB, hg, hcell⟩ := places_at hown hxl
    have p0 := hcell 0 (by omega)
    have b0 := places_in hxl hxs 0 (by omega)
    have HB3 := Lib.hid (bx5 hb (w2.heap.size) (.slice yco yvs.length ycc) (.slice yuo K.m.f.used.length yuc) (.slice yeo K.m.ents.length yec) (.int .i64 K.calls) (.slice yro K.refuse.length yrc))
    have HB4 := Lib.hid (bx3 hb (w2.heap.size + 1) (.int .i64 (kp : Int)) (.int .i64 (mv : Int)) (.slice vo cs.length vc))
    have up := lstep (w := w2) hb
    replace OK := Lib.hid (OK.out.below up); replace OV := Lib.hid (Own.below OV.out up); replace HW := Lib.hid (HW.out.trans (up.mono HW.out.size))
    clear up hown hxl hxs hb hcell hgB
    generalize ps.getD 0 0 = q0 at *
    obtain ⟨a, ha, hal, haw⟩ := vis_nums b0
    generalize w2.heap.size = g3 at *
    have HP := Lib.hid p0
    have k4_0 := (HB4.out.cells 0 _ rfl).1; have k4_1 := (HB4.out.cells 1 _ rfl).1; have k4_2 := (HB4.out.cells 2 _ rfl).1; have x4 := HB4.out.lt
    clear p0 b0
    go_wp2_with fail
    refine (s_JobNewOk (kp : Int) (mv : Int) _ cs HD.out.plan H16.out _ (OV.out.at lenInt)).mono ?_; rintro e w5 ⟨jv, rfl, hjo, hb⟩
    obtain ⟨jo, jc, rfl, -, -, -⟩ := Own.shape hjo
    have up := lstep (w := w4) hb
    replace HB3 := Lib.hid (HB3.out.below up); replace HB4 := Lib.hid (HB4.out.below up); replace OK := Lib.hid (OK.out.below up); replace OV := Lib.hid (Own.below OV.out up); replace HW := Lib.hid (HW.out.trans (up.mono HW.out.size))
    have OJ := Lib.hid hjo
    have hp5 := (up.cell (p := ⟨pg, 0, none⟩) hg).trans HP.out
    have xp5 : pg < w5.heap.size := Nat.lt_of_lt_of_le hg up.size
    clear up hjo hb HP k4_0 k4_1 k4_2 x4
    go_upto_region 6 with fail
    have up : Below w5.heap.size w5 (w5.alloc (.cells #[.int .i64 (kp : Int), .int .i64 (mv : Int), .slice jo cs.length jc, .int .i64 0, .int .i64 0] 42)) := (Below.refl _ _).alloc (Nat.le_refl _) _
    have HB6 : Hid (BoxAt (w5.alloc (.cells #[.int .i64 (kp : Int), .int .i64 (mv : Int), .slice jo cs.length jc, .int .i64 0, .int .i64 0] 42)) w5.heap.size [.int .i64 (kp : Int), .int .i64 (mv : Int), .slice jo cs.length jc, .int .i64 0, .int .i64 0]) := Lib.hid (BoxAt.snoc (BoxAt.snoc (BoxAt.snoc (BoxAt.snoc (BoxAt.snoc (BoxAt.nil (w := (w5.alloc (.cells #[.int .i64 (kp : Int), .int .i64 (mv : Int), .slice jo cs.length jc, .int .i64 0, .int .i64 0] 42))) (g := w5.heap.size) (by exact zo)) (v := .int .i64 (kp : Int)) (i := 0) rfl (by go_simp) (by go_simp)) (v := .int .i64 (mv : Int)) (i := 1) rfl (by go_simp) (by go_simp)) (v := .slice jo cs.length jc) (i := 2) rfl (by go_simp) (by go_simp)) (v := .int .i64 0) (i := 3) rfl (by go_simp) (by go_simp)) (v := .int .i64 0) (i := 4) rfl (by go_simp) (by go_simp))
    replace HB3 := Lib.hid (HB3.out.below up); replace HB4 := Lib.hid (HB4.out.below up); replace OK := Lib.hid (OK.out.below up); replace OV := Lib.hid (Own.below OV.out up); replace OJ := Lib.hid (Own.below OJ.out up); replace HW := Lib.hid (HW.out.trans (up.mono HW.out.size))
    have hp6 := (up.cell (p := ⟨pg, 0, none⟩) xp5).trans hp5
    have xpg : pg < ((w5.alloc (.cells #[.int .i64 (kp : Int), .int .i64 (mv : Int), .slice jo cs.length jc, .int .i64 0, .int .i64 0] 42))).heap.size := Nat.lt_of_lt_of_le xp5 up.size
    clear up hp5
    obtain ⟨w6, hw6⟩ : ∃ q, q = (w5.alloc (.cells #[.int .i64 (kp : Int), .int .i64 (mv : Int), .slice jo cs.length jc, .int .i64 0, .int .i64 0] 42)) := ⟨_, rfl⟩
    rw [← hw6] at HB3 HB4 HB6 OK OV OJ HW hp6 xpg ⊢
    clear hw6
    generalize w5.heap.size = g6 at *
    obtain ⟨R, hR⟩ : ∃ R, runTo kp mv cs (a : Int) ⟨K, 0, 0⟩ = R := ⟨_, rfl⟩
    have VR := Lib.hid (show Vis K kp mv cs R from hR ▸ vis_run HD.out a (by omega))
    have H1 := Lib.hid hR
    clear hR
    have QC0 : Hid (w6.drew.cell? ⟨pg, 0, none⟩ = some (.int .i64 q0)) := Lib.hid hp6
    have BK9 : Hid (BoxAt w6.drew g3 [.slice yco yvs.length ycc, .slice yuo K.m.f.used.length yuc, .slice yeo K.m.ents.length yec, .int .i64 K.calls, .slice yro K.refuse.length yrc]) := Lib.hid (HB3.out.below (Below.drew (Below.refl _ _)))
    have BJ9 : Hid (BoxAt w6.drew g6 [.int .i64 (kp : Int), .int .i64 (mv : Int), .slice jo cs.length jc, .int .i64 0, .int .i64 0]) := Lib.hid (HB6.out.below (Below.drew (Below.refl _ _)))
    clear hp6
    go_cut [8, 9] (fun ss8 ss9 wx => ∃ zco zcc zuo zuc zvs zeo zec zro zrc zo zc gK gJ, ss8 = .pointer (some ⟨gK, 0, none⟩) ∧ ss9 = .pointer (some ⟨gJ, 0, none⟩) ∧ BoxAt wx gK [.slice zco zvs.length zcc, .slice zuo R.k.m.f.used.length zuc, .slice zeo R.k.m.ents.length zec, .int .i64 R.k.calls, .slice zro R.k.refuse.length zrc] ∧ BoxAt wx gJ [.int .i64 (kp : Int), .int .i64 (mv : Int), .slice zo cs.length zc, .int .i64 R.ph, .int .i64 R.nx] ∧ KOwn (w6.heap.size) wx (⟨⟨⟨.slice zco zvs.length zcc, .slice zuo R.k.m.f.used.length zuc, zvs⟩, .slice zeo R.k.m.ents.length zec⟩, .slice zro R.k.refuse.length zrc⟩ : KV) R.k ∧ OwnI (w6.heap.size) wx (.slice zo cs.length zc) cs ∧ Below (w6.drew).heap.size (w6.drew) wx)
    case first =>
      refine wp_gen (fun a0 ha0 => ?_)
      have hsz : a0.tmps.size = 97 := by rw [ha0]; rfl
      have hps : (w6.drew).heap.size = w6.heap.size := by first | rfl | simp only [World.size_alloc, World.size_drew]
      have X3 : ∀ u, (frAll a0 [32, 33, 34, 35, 36, 37, 38, 31, 39, 40, 8, 9] u).tmps.getD 3 undef = .pointer (some ⟨g3, 0, none⟩) := fun u => (frAll_other (by decide)).trans (by rw [ha0]; rfl)
      have X6 : ∀ u, (frAll a0 [32, 33, 34, 35, 36, 37, 38, 31, 39, 40, 8, 9] u).tmps.getD 6 undef = .pointer (some ⟨g6, 0, none⟩) := fun u => (frAll_other (by decide)).trans (by rw [ha0]; rfl)
      have X5 : ∀ u, (frAll a0 [32, 33, 34, 35, 36, 37, 38, 31, 39, 40, 8, 9] u).tmps.getD 5 undef = .slice (some ⟨pg, 0, none⟩) 12 pc := fun u => (frAll_other (by decide)).trans (by rw [ha0]; rfl)
      have E32 : ∀ u, (frAll a0 [32, 33, 34, 35, 36, 37, 38, 31, 39, 40, 8, 9] u).tmps.getD 32 undef = u 32 := fun u => frAll_eval (by decide) (by rw [hsz]; decide)
      have P32 : ∀ u v, (frAll a0 [32, 33, 34, 35, 36, 37, 38, 31, 39, 40, 8, 9] u).put (some 32) v = frAll a0 [32, 33, 34, 35, 36, 37, 38, 31, 39, 40, 8, 9] (frUpd u 32 v) := fun u v => frAll_put v (by decide)
      have E33 : ∀ u, (frAll a0 [32, 33, 34, 35, 36, 37, 38, 31, 39, 40, 8, 9] u).tmps.getD 33 undef = u 33 := fun u => frAll_eval (by decide) (by rw [hsz]; decide)
      have P33 : ∀ u v, (frAll a0 [32, 33, 34, 35, 36, 37, 38, 31, 39, 40, 8, 9] u).put (some 33) v = frAll a0 [32, 33, 34, 35, 36, 37, 38, 31, 39, 40, 8, 9] (frUpd u 33 v) := fun u v => frAll_put v (by decide)
      have E34 : ∀ u, (frAll a0 [32, 33, 34, 35, 36, 37, 38, 31, 39, 40, 8, 9] u).tmps.getD 34 undef = u 34 := fun u => frAll_eval (by decide) (by rw [hsz]; decide)
      have P34 : ∀ u v, (frAll a0 [32, 33, 34, 35, 36, 37, 38, 31, 39, 40, 8, 9] u).put (some 34) v = frAll a0 [32, 33, 34, 35, 36, 37, 38, 31, 39, 40, 8, 9] (frUpd u 34 v) := fun u v => frAll_put v (by decide)
      have E35 : ∀ u, (frAll a0 [32, 33, 34, 35, 36, 37, 38, 31, 39, 40, 8, 9] u).tmps.getD 35 undef = u 35 := fun u => frAll_eval (by decide) (by rw [hsz]; decide)
      have P35 : ∀ u v, (frAll a0 [32, 33, 34, 35, 36, 37, 38, 31, 39, 40, 8, 9] u).put (some 35) v = frAll a0 [32, 33, 34, 35, 36, 37, 38, 31, 39, 40, 8, 9] (frUpd u 35 v) := fun u v => frAll_put v (by decide)
      have E36 : ∀ u, (frAll a0 [32, 33, 34, 35, 36, 37, 38, 31, 39, 40, 8, 9] u).tmps.getD 36 undef = u 36 := fun u => frAll_eval (by decide) (by rw [hsz]; decide)
      have P36 : ∀ u v, (frAll a0 [32, 33, 34, 35, 36, 37, 38, 31, 39, 40, 8, 9] u).put (some 36) v = frAll a0 [32, 33, 34, 35, 36, 37, 38, 31, 39, 40, 8, 9] (frUpd u 36 v) := fun u v => frAll_put v (by decide)
      have E37 : ∀ u, (frAll a0 [32, 33, 34, 35, 36, 37, 38, 31, 39, 40, 8, 9] u).tmps.getD 37 undef = u 37 := fun u => frAll_eval (by decide) (by rw [hsz]; decide)
      have P37 : ∀ u v, (frAll a0 [32, 33, 34, 35, 36, 37, 38, 31, 39, 40, 8, 9] u).put (some 37) v = frAll a0 [32, 33, 34, 35, 36, 37, 38, 31, 39, 40, 8, 9] (frUpd u 37 v) := fun u v => frAll_put v (by decide)
      have E38 : ∀ u, (frAll a0 [32, 33, 34, 35, 36, 37, 38, 31, 39, 40, 8, 9] u).tmps.getD 38 undef = u 38 := fun u => frAll_eval (by decide) (by rw [hsz]; decide)
      have P38 : ∀ u v, (frAll a0 [32, 33, 34, 35, 36, 37, 38, 31, 39, 40, 8, 9] u).put (some 38) v = frAll a0 [32, 33, 34, 35, 36, 37, 38, 31, 39, 40, 8, 9] (frUpd u 38 v) := fun u v => frAll_put v (by decide)
      have E31 : ∀ u, (frAll a0 [32, 33, 34, 35, 36, 37, 38, 31, 39, 40, 8, 9] u).tmps.getD 31 undef = u 31 := fun u => frAll_eval (by decide) (by rw [hsz]; decide)
      have P31 : ∀ u v, (frAll a0 [32, 33, 34, 35, 36, 37, 38, 31, 39, 40, 8, 9] u).put (some 31) v = frAll a0 [32, 33, 34, 35, 36, 37, 38, 31, 39, 40, 8, 9] (frUpd u 31 v) := fun u v => frAll_put v (by decide)
      have E39 : ∀ u, (frAll a0 [32, 33, 34, 35, 36, 37, 38, 31, 39, 40, 8, 9] u).tmps.getD 39 undef = u 39 := fun u => frAll_eval (by decide) (by rw [hsz]; decide)
      have P39 : ∀ u v, (frAll a0 [32, 33, 34, 35, 36, 37, 38, 31, 39, 40, 8, 9] u).put (some 39) v = frAll a0 [32, 33, 34, 35, 36, 37, 38, 31, 39, 40, 8, 9] (frUpd u 39 v) := fun u v => frAll_put v (by decide)
      have E40 : ∀ u, (frAll a0 [32, 33, 34, 35, 36, 37, 38, 31, 39, 40, 8, 9] u).tmps.getD 40 undef = u 40 := fun u => frAll_eval (by decide) (by rw [hsz]; decide)
      have P40 : ∀ u v, (frAll a0 [32, 33, 34, 35, 36, 37, 38, 31, 39, 40, 8, 9] u).put (some 40) v = frAll a0 [32, 33, 34, 35, 36, 37, 38, 31, 39, 40, 8, 9] (frUpd u 40 v) := fun u v => frAll_put v (by decide)
      have E8 : ∀ u, (frAll a0 [32, 33, 34, 35, 36, 37, 38, 31, 39, 40, 8, 9] u).tmps.getD 8 undef = u 8 := fun u => frAll_eval (by decide) (by rw [hsz]; decide)
      have P8 : ∀ u v, (frAll a0 [32, 33, 34, 35, 36, 37, 38, 31, 39, 40, 8, 9] u).put (some 8) v = frAll a0 [32, 33, 34, 35, 36, 37, 38, 31, 39, 40, 8, 9] (frUpd u 8 v) := fun u v => frAll_put v (by decide)
      have E9 : ∀ u, (frAll a0 [32, 33, 34, 35, 36, 37, 38, 31, 39, 40, 8, 9] u).tmps.getD 9 undef = u 9 := fun u => frAll_eval (by decide) (by rw [hsz]; decide)
      have P9 : ∀ u v, (frAll a0 [32, 33, 34, 35, 36, 37, 38, 31, 39, 40, 8, 9] u).put (some 9) v = frAll a0 [32, 33, 34, 35, 36, 37, 38, 31, 39, 40, 8, 9] (frUpd u 9 v) := fun u v => frAll_put v (by decide)
      replace ha0 := Lib.hid ha0
      refine wp_region_frame [32, 33, 34, 35, 36, 37, 38, 31, 39, 40, 8, 9] (fun D u wv => ∃ zco zcc zuo zuc zvs zeo zec zro zrc zo zc gK gJ, Hid (Below (w6.drew).heap.size (w6.drew) wv) ∧ Hid (D 0 → u 32 = .agg #[.slice yco yvs.length ycc, .slice yuo K.m.f.used.length yuc, .slice yeo K.m.ents.length yec, .int .i64 K.calls, .slice yro K.refuse.length yrc]) ∧ Hid (D 1 → u 33 = .agg #[.int .i64 (kp : Int), .int .i64 (mv : Int), .slice jo cs.length jc, .int .i64 0, .int .i64 0]) ∧ Hid (D 2 → u 34 = .slice (some ⟨pg, 0, none⟩) 12 pc) ∧ Hid (D 3 → u 35 = .pointer (some ⟨pg, 0, none⟩)) ∧ Hid (D 4 → u 36 = .int .i64 q0) ∧ Hid (D 5 → u 37 = .int .i64 (a : Int)) ∧ Hid (D 6 → u 38 = .tuple #[.agg #[.slice zco zvs.length zcc, .slice zuo R.k.m.f.used.length zuc, .slice zeo R.k.m.ents.length zec, .int .i64 R.k.calls, .slice zro R.k.refuse.length zrc], .agg #[.int .i64 (kp : Int), .int .i64 (mv : Int), .slice zo cs.length zc, .int .i64 R.ph, .int .i64 R.nx]]) ∧ Hid (D 7 → u 31 = .tuple #[.agg #[.slice zco zvs.length zcc, .slice zuo R.k.m.f.used.length zuc, .slice zeo R.k.m.ents.length zec, .int .i64 R.k.calls, .slice zro R.k.refuse.length zrc], .agg #[.int .i64 (kp : Int), .int .i64 (mv : Int), .slice zo cs.length zc, .int .i64 R.ph, .int .i64 R.nx]]) ∧ Hid (D 8 → u 39 = .agg #[.slice zco zvs.length zcc, .slice zuo R.k.m.f.used.length zuc, .slice zeo R.k.m.ents.length zec, .int .i64 R.k.calls, .slice zro R.k.refuse.length zrc]) ∧ Hid (D 9 → u 40 = .agg #[.int .i64 (kp : Int), .int .i64 (mv : Int), .slice zo cs.length zc, .int .i64 R.ph, .int .i64 R.nx]) ∧ Hid (D 10 → u 8 = .pointer (some ⟨gK, 0, none⟩)) ∧ Hid (D 11 → u 9 = .pointer (some ⟨gJ, 0, none⟩)) ∧ Hid (D 6 → KOwn (w6.heap.size) wv (⟨⟨⟨.slice zco zvs.length zcc, .slice zuo R.k.m.f.used.length zuc, zvs⟩, .slice zeo R.k.m.ents.length zec⟩, .slice zro R.k.refuse.length zrc⟩ : KV) R.k) ∧ Hid (D 6 → OwnI (w6.heap.size) wv (.slice zo cs.length zc) cs) ∧ Hid (D 10 → w6.heap.size ≤ gK ∧ gK < wv.heap.size) ∧ Hid (D 10 → ¬ D 12 → BoxAt wv gK [.slice none 0 0, .slice none 0 0, .slice none 0 0, .int .i64 0, .slice none 0 0]) ∧ Hid (D 12 → BoxAt wv gK [.slice zco zvs.length zcc, .slice zuo R.k.m.f.used.length zuc, .slice zeo R.k.m.ents.length zec, .int .i64 R.k.calls, .slice zro R.k.refuse.length zrc]) ∧ Hid (D 10 → D 6 → gK ∉ blocks (KV.all (⟨⟨⟨.slice zco zvs.length zcc, .slice zuo R.k.m.f.used.length zuc, zvs⟩, .slice zeo R.k.m.ents.length zec⟩, .slice zro R.k.refuse.length zrc⟩ : KV))) ∧ Hid (D 10 → D 6 → gK ∉ blocks ([.slice zo cs.length zc])) ∧ Hid (D 11 → w6.heap.size ≤ gJ ∧ gJ < wv.heap.size) ∧ Hid (D 11 → ¬ D 13 → BoxAt wv gJ [.int .i64 0, .int .i64 0, .slice none 0 0, .int .i64 0, .int .i64 0]) ∧ Hid (D 13 → BoxAt wv gJ [.int .i64 (kp : Int), .int .i64 (mv : Int), .slice zo cs.length zc, .int .i64 R.ph, .int .i64 R.nx]) ∧ Hid (D 11 → D 6 → gJ ∉ blocks (KV.all (⟨⟨⟨.slice zco zvs.length zcc, .slice zuo R.k.m.f.used.length zuc, zvs⟩, .slice zeo R.k.m.ents.length zec⟩, .slice zro R.k.refuse.length zrc⟩ : KV))) ∧ Hid (D 11 → D 6 → gJ ∉ blocks ([.slice zo cs.length zc])) ∧ Hid (D 10 → D 11 → gK ≠ gJ)) (by kernel_rfl) (by kernel_rfl) ?_ ?_ ?_
      · exact ⟨default, default, default, default, default, default, default, default, default, default, default, default, default, Lib.hid (by exact bel), Lib.hid (fun h => h.elim), Lib.hid (fun h => h.elim), Lib.hid (fun h => h.elim), Lib.hid (fun h => h.elim), Lib.hid (fun h => h.elim), Lib.hid (fun h => h.elim), Lib.hid (fun h => h.elim), Lib.hid (fun h => h.elim), Lib.hid (fun h => h.elim), Lib.hid (fun h => h.elim), Lib.hid (fun h => h.elim), Lib.hid (fun h => h.elim), Lib.hid (fun h => h.elim), Lib.hid (fun h => h.elim), Lib.hid (fun h => h.elim), Lib.hid (fun h => h.elim), Lib.hid (fun h => h.elim), Lib.hid (fun h => h.elim), Lib.hid (fun h => h.elim), Lib.hid (fun h => h.elim), Lib.hid (fun h => h.elim), Lib.hid (fun h => h.elim), Lib.hid (fun h => h.elim), Lib.hid (fun h => h.elim), Lib.hid (fun h => h.elim)⟩
      · rintro D u wv ⟨zco, zcc, zuo, zuc, zvs, zeo, zec, zro, zrc, zo, zc, gK, gJ, HBW, U0, U1, U2, U3, U4, U5, U6, U7, U8, U9, U10, U11, OZ, OU, A2gK, A3gK, A4gK, A5gKZ, A5gKU, A2gJ, A3gJ, A4gJ, A5gJZ, A5gJU, A6gKgJ⟩ hcl i hi hn hw
        have hi9 : i < 14 := hi; clear hi
        replace hcl := Lib.hid hcl; replace hw := Lib.hid hw
        have hbw := HBW.out; have hlw := hbw.size; rw [hps] at hlw
        rcases (by omega : i = 0 ∨ i = 1 ∨ i = 2 ∨ i = 3 ∨ i = 4 ∨ i = 5 ∨ i = 6 ∨ i = 7 ∨ i = 8 ∨ i = 9 ∨ i = 10 ∨ i = 11 ∨ i = 12 ∨ i = 13) with rfl | rfl | rfl | rfl | rfl | rfl | rfl | rfl | rfl | rfl | rfl | rfl | rfl | rfl
        · skip
          refine wpOp_step (o := _) rfl (fun KK hKK => ?_)
          rw [if_pos (wanted_nil _ rfl)]
          have E3_ := X3 u
          have bx := BK9.out.below hbw
          have c0 := (bx.cells 0 _ rfl).1
          have c1 := (bx.cells 1 _ rfl).1
          have c2 := (bx.cells 2 _ rfl).1
          have c3 := (bx.cells 3 _ rfl).1
          have c4 := (bx.cells 4 _ rfl).1
          skip
          go_simp
          exact hKK _ _ ⟨_, P32 u _, zco, zcc, zuo, zuc, zvs, zeo, zec, zro, zrc, zo, zc, gK, gJ, HBW, Lib.hid (fun h0 => frUpd_self), (u10 U1), (u10 U2), (u10 U3), (u10 U4), (u10 U5), (u10 U6), (u10 U7), (u10 U8), (u10 U9), (u10 U10), (u10 U11), (k10 OZ), (k10 OU), (k10 A2gK), (k11 A3gK), (k10 A4gK), (k20 A5gKZ), (k20 A5gKU), (k10 A2gJ), (k11 A3gJ), (k10 A4gJ), (k20 A5gJZ), (k20 A5gJU), (k20 A6gKgJ)⟩
        · skip
          refine wpOp_step (o := _) rfl (fun KK hKK => ?_)
          rw [if_pos (wanted_nil _ rfl)]
          have E6_ := X6 u
          have bx := BJ9.out.below hbw
          have c0 := (bx.cells 0 _ rfl).1
          have c1 := (bx.cells 1 _ rfl).1
          have c2 := (bx.cells 2 _ rfl).1
          have c3 := (bx.cells 3 _ rfl).1
          have c4 := (bx.cells 4 _ rfl).1
          skip
          go_simp
          exact hKK _ _ ⟨_, P33 u _, zco, zcc, zuo, zuc, zvs, zeo, zec, zro, zrc, zo, zc, gK, gJ, HBW, (u10 U0), Lib.hid (fun h0 => frUpd_self), (u10 U2), (u10 U3), (u10 U4), (u10 U5), (u10 U6), (u10 U7), (u10 U8), (u10 U9), (u10 U10), (u10 U11), (k10 OZ), (k10 OU), (k10 A2gK), (k11 A3gK), (k10 A4gK), (k20 A5gKZ), (k20 A5gKU), (k10 A2gJ), (k11 A3gJ), (k10 A4gJ), (k20 A5gJZ), (k20 A5gJU), (k20 A6gKgJ)⟩
        · skip
          refine wpOp_step (o := _) rfl (fun KK hKK => ?_)
          rw [if_pos (wanted_nil _ rfl)]
          have E5_ := X5 u
          skip
          go_simp
          exact hKK _ _ ⟨_, P34 u _, zco, zcc, zuo, zuc, zvs, zeo, zec, zro, zrc, zo, zc, gK, gJ, HBW, (u10 U0), (u10 U1), Lib.hid (fun h0 => frUpd_self), (u10 U3), (u10 U4), (u10 U5), (u10 U6), (u10 U7), (u10 U8), (u10 U9), (u10 U10), (u10 U11), (k10 OZ), (k10 OU), (k10 A2gK), (k11 A3gK), (k10 A4gK), (k20 A5gKZ), (k20 A5gKU), (k10 A2gJ), (k11 A3gJ), (k10 A4gJ), (k20 A5gJZ), (k20 A5gJU), (k20 A6gKgJ)⟩
        · skip
          refine wpOp_step (o := _) rfl (fun KK hKK => ?_)
          rw [if_pos (wanted_nil _ rfl)]
          have e34 := U2.out (hw.out 2 (by kernel_rfl)); have E34_ := (E34 u).trans e34
          skip
          go_simp
          exact hKK _ _ ⟨_, P35 u _, zco, zcc, zuo, zuc, zvs, zeo, zec, zro, zrc, zo, zc, gK, gJ, HBW, (u10 U0), (u10 U1), (u10 U2), Lib.hid (fun h0 => frUpd_self), (u10 U4), (u10 U5), (u10 U6), (u10 U7), (u10 U8), (u10 U9), (u10 U10), (u10 U11), (k10 OZ), (k10 OU), (k10 A2gK), (k11 A3gK), (k10 A4gK), (k20 A5gKZ), (k20 A5gKU), (k10 A2gJ), (k11 A3gJ), (k10 A4gJ), (k20 A5gJZ), (k20 A5gJU), (k20 A6gKgJ)⟩
        · skip
          refine wpOp_step (o := _) rfl (fun KK hKK => ?_)
          rw [if_pos (wanted_nil _ rfl)]
          have e35 := U3.out (hw.out 3 (by kernel_rfl)); have E35_ := (E35 u).trans e35
          have c0 := (hbw.cell (p := ⟨pg, 0, none⟩) (show pg < _ by rw [hps]; exact xpg)).trans QC0.out
          skip
          go_simp
          exact hKK _ _ ⟨_, P36 u _, zco, zcc, zuo, zuc, zvs, zeo, zec, zro, zrc, zo, zc, gK, gJ, HBW, (u10 U0), (u10 U1), (u10 U2), (u10 U3), Lib.hid (fun h0 => frUpd_self), (u10 U5), (u10 U6), (u10 U7), (u10 U8), (u10 U9), (u10 U10), (u10 U11), (k10 OZ), (k10 OU), (k10 A2gK), (k11 A3gK), (k10 A4gK), (k20 A5gKZ), (k20 A5gKU), (k10 A2gJ), (k11 A3gJ), (k10 A4gJ), (k20 A5gJZ), (k20 A5gJU), (k20 A6gKgJ)⟩
        · skip
          refine wpOp_step (o := _) rfl (fun KK hKK => ?_)
          rw [if_pos (wanted_nil _ rfl)]
          have e36 := U4.out (hw.out 4 (by kernel_rfl)); have E36_ := (E36 u).trans e36
          skip
          go_simp
          exact hKK _ _ ⟨_, P37 u _, zco, zcc, zuo, zuc, zvs, zeo, zec, zro, zrc, zo, zc, gK, gJ, HBW, (u10 U0), (u10 U1), (u10 U2), (u10 U3), (u10 U4), Lib.hid (fun h0 => frUpd_self), (u10 U6), (u10 U7), (u10 U8), (u10 U9), (u10 U10), (u10 U11), (k10 OZ), (k10 OU), (k10 A2gK), (k11 A3gK), (k10 A4gK), (k20 A5gKZ), (k20 A5gKU), (k10 A2gJ), (k11 A3gJ), (k10 A4gJ), (k20 A5gJZ), (k20 A5gJU), (k20 A6gKgJ)⟩
        · skip
          refine wpOp_step (o := _) rfl (fun KK hKK => ?_)
          rw [if_pos (wanted_nil _ rfl)]
          have e32 := U0.out (hw.out 0 (by kernel_rfl)); have E32_ := (E32 u).trans e32
          have e33 := U1.out (hw.out 1 (by kernel_rfl)); have E33_ := (E33 u).trans e33
          have e37 := U5.out (hw.out 5 (by kernel_rfl)); have E37_ := (E37 u).trans e37
          skip
          go_simp
          refine (i_JobRunS (⟨⟨⟨.slice yco yvs.length ycc, .slice yuo K.m.f.used.length yuc, yvs⟩, .slice yeo K.m.ents.length yec⟩, .slice yro K.refuse.length yrc⟩ : KV) ⟨K, 0, 0⟩ (kp : Int) (mv : Int) _ cs (a : Int) R H1.out HSZ.out H16.out _ (KAt.below OK.out.at (by have hw0 := hbw; exact bel)) (SlAt.below (OJ.out.at lenInt) (by have hw0 := hbw; exact bel))).mono ?_; rintro e w2 ⟨z, zv, rfl, OZ, OU, DZU, hb⟩
          obtain ⟨zco, zcc, zuo, zuc, zvs, zeo, zec, zro, zrc, rfl⟩ := KOwn.shapes OZ
          obtain ⟨zo, zc, rfl, -, -, -⟩ := Own.shape OU
          simp only [KV.val]
          have hbn := hb.size
          try dsimp only
          exact hKK _ _ ⟨_, P38 u _, zco, zcc, zuo, zuc, zvs, zeo, zec, zro, zrc, zo, zc, gK, gJ, (Lib.hid (hbw.trans (hb.mono (by rw [hps]; omega)))), (u10 U0), (u10 U1), (u10 U2), (u10 U3), (u10 U4), (u10 U5), Lib.hid (fun h0 => frUpd_self), Lib.hid (fun h0 => absurd (hcl.out 7 6 (by kernel_rfl) (addD_of h0 (by decide))) hn), Lib.hid (fun h0 => absurd (hcl.out 7 6 (by kernel_rfl) (hcl.out 8 7 (by kernel_rfl) (addD_of h0 (by decide)))) hn), Lib.hid (fun h0 => absurd (hcl.out 7 6 (by kernel_rfl) (hcl.out 9 7 (by kernel_rfl) (addD_of h0 (by decide)))) hn), (u10 U10), (u10 U11), Lib.hid (fun h0 => KOwn.mono OZ (by omega)), Lib.hid (fun h0 => Own.mono OU (by omega)), (m10 (lt_grow hb.size) A2gK), (m11 (fun h => h.below hb) A3gK), Lib.hid (fun h0 => absurd (hcl.out 7 6 (by kernel_rfl) (hcl.out 8 7 (by kernel_rfl) (hcl.out 12 8 (by kernel_rfl) (addD_of h0 (by decide))))) hn), Lib.hid (fun h0 h1 => fun hm => Nat.lt_irrefl _ (Nat.lt_of_lt_of_le (A2gK.out (addD_of h0 (by decide))).2 (((OZ).lts) _ hm).1)), Lib.hid (fun h0 h1 => fun hm => Nat.lt_irrefl _ (Nat.lt_of_lt_of_le (A2gK.out (addD_of h0 (by decide))).2 ((Own.lts (OU)) _ hm).1)), (m10 (lt_grow hb.size) A2gJ), (m11 (fun h => h.below hb) A3gJ), Lib.hid (fun h0 => absurd (hcl.out 7 6 (by kernel_rfl) (hcl.out 9 7 (by kernel_rfl) (hcl.out 13 9 (by kernel_rfl) (addD_of h0 (by decide))))) hn), Lib.hid (fun h0 h1 => fun hm => Nat.lt_irrefl _ (Nat.lt_of_lt_of_le (A2gJ.out (addD_of h0 (by decide))).2 (((OZ).lts) _ hm).1)), Lib.hid (fun h0 h1 => fun hm => Nat.lt_irrefl _ (Nat.lt_of_lt_of_le (A2gJ.out (addD_of h0 (by decide))).2 ((Own.lts (OU)) _ hm).1)), (k20 A6gKgJ)⟩
        · skip
          refine wpOp_step (o := _) rfl (fun KK hKK => ?_)
          rw [if_pos (wanted_nil _ rfl)]
          have e38 := U6.out (hw.out 6 (by kernel_rfl)); have E38_ := (E38 u).trans e38
          skip
          go_simp
          exact hKK _ _ ⟨_, P31 u _, zco, zcc, zuo, zuc, zvs, zeo, zec, zro, zrc, zo, zc, gK, gJ, HBW, (u10 U0), (u10 U1), (u10 U2), (u10 U3), (u10 U4), (u10 U5), (u10 U6), Lib.hid (fun h0 => frUpd_self), (u10 U8), (u10 U9), (u10 U10), (u10 U11), (k10 OZ), (k10 OU), (k10 A2gK), (k11 A3gK), (k10 A4gK), (k20 A5gKZ), (k20 A5gKU), (k10 A2gJ), (k11 A3gJ), (k10 A4gJ), (k20 A5gJZ), (k20 A5gJU), (k20 A6gKgJ)⟩
        · skip
          refine wpOp_step (o := _) rfl (fun KK hKK => ?_)
          rw [if_pos (wanted_nil _ rfl)]
          have e31 := U7.out (hw.out 7 (by kernel_rfl)); have E31_ := (E31 u).trans e31
          skip
          go_simp
          exact hKK _ _ ⟨_, P39 u _, zco, zcc, zuo, zuc, zvs, zeo, zec, zro, zrc, zo, zc, gK, gJ, HBW, (u10 U0), (u10 U1), (u10 U2), (u10 U3), (u10 U4), (u10 U5), (u10 U6), (u10 U7), Lib.hid (fun h0 => frUpd_self), (u10 U9), (u10 U10), (u10 U11), (k10 OZ), (k10 OU), (k10 A2gK), (k11 A3gK), (k10 A4gK), (k20 A5gKZ), (k20 A5gKU), (k10 A2gJ), (k11 A3gJ), (k10 A4gJ), (k20 A5gJZ), (k20 A5gJU), (k20 A6gKgJ)⟩
        · skip
          refine wpOp_step (o := _) rfl (fun KK hKK => ?_)
          rw [if_pos (wanted_nil _ rfl)]
          have e31 := U7.out (hw.out 7 (by kernel_rfl)); have E31_ := (E31 u).trans e31
          skip
          go_simp
          exact hKK _ _ ⟨_, P40 u _, zco, zcc, zuo, zuc, zvs, zeo, zec, zro, zrc, zo, zc, gK, gJ, HBW, (u10 U0), (u10 U1), (u10 U2), (u10 U3), (u10 U4), (u10 U5), (u10 U6), (u10 U7), (u10 U8), Lib.hid (fun h0 => frUpd_self), (u10 U10), (u10 U11), (k10 OZ), (k10 OU), (k10 A2gK), (k11 A3gK), (k10 A4gK), (k20 A5gKZ), (k20 A5gKU), (k10 A2gJ), (k11 A3gJ), (k10 A4gJ), (k20 A5gJZ), (k20 A5gJU), (k20 A6gKgJ)⟩
        · skip
          refine wpOp_step (o := _) rfl (fun KK hKK => ?_)
          rw [if_pos (wanted_nil _ rfl)]
          skip
          go_simp
          have hb : Below wv.heap.size wv (wv.alloc (.cells #[.slice none 0 0, .slice none 0 0, .slice none 0 0, .int .i64 0, .slice none 0 0] 35)) := (Below.refl _ wv).alloc (Nat.le_refl _) (.cells #[.slice none 0 0, .slice none 0 0, .slice none 0 0, .int .i64 0, .slice none 0 0] 35)
          have hbn : wv.heap.size < (wv.alloc (.cells #[.slice none 0 0, .slice none 0 0, .slice none 0 0, .int .i64 0, .slice none 0 0] 35)).heap.size := by rw [World.size_alloc]; omega
          have BN : BoxAt (wv.alloc (.cells #[.slice none 0 0, .slice none 0 0, .slice none 0 0, .int .i64 0, .slice none 0 0] 35)) wv.heap.size [.slice none 0 0, .slice none 0 0, .slice none 0 0, .int .i64 0, .slice none 0 0] := (BoxAt.snoc (BoxAt.snoc (BoxAt.snoc (BoxAt.snoc (BoxAt.snoc (BoxAt.nil (w := (wv.alloc (.cells #[.slice none 0 0, .slice none 0 0, .slice none 0 0, .int .i64 0, .slice none 0 0] 35))) (g := wv.heap.size) (by go_simp)) (v := .slice none 0 0) (i := 0) rfl (by go_simp) (by go_simp)) (v := .slice none 0 0) (i := 1) rfl (by go_simp) (by go_simp)) (v := .slice none 0 0) (i := 2) rfl (by go_simp) (by go_simp)) (v := .int .i64 0) (i := 3) rfl (by go_simp) (by go_simp)) (v := .slice none 0 0) (i := 4) rfl (by go_simp) (by go_simp))
          exact hKK _ _ ⟨_, P8 u _, zco, zcc, zuo, zuc, zvs, zeo, zec, zro, zrc, zo, zc, wv.heap.size, gJ, (Lib.hid (hbw.trans (hb.mono (by rw [hps]; omega)))), (u10 U0), (u10 U1), (u10 U2), (u10 U3), (u10 U4), (u10 U5), (u10 U6), (u10 U7), (u10 U8), (u10 U9), Lib.hid (fun h0 => frUpd_self), (u10 U11), (m10 (fun h => KOwn.below h hb) OZ), (m10 (fun h => Own.below h hb) OU), Lib.hid (fun h0 => ⟨by omega, hbn⟩), Lib.hid (fun h0 m0 => BN), Lib.hid (fun h0 => absurd (hcl.out 12 10 (by kernel_rfl) (addD_of h0 (by decide))) hn), Lib.hid (fun h0 h1 => fun hm => Nat.lt_irrefl _ ((((OZ.out (addD_of h1 (by decide)))).lts) _ hm).2), Lib.hid (fun h0 h1 => fun hm => Nat.lt_irrefl _ ((Own.lts ((OU.out (addD_of h1 (by decide))))) _ hm).2), (m10 (lt_grow hb.size) A2gJ), (m11 (fun h => h.below hb) A3gJ), (m10 (fun h => h.below hb) A4gJ), (k20 A5gJZ), (k20 A5gJU), Lib.hid (fun h0 h1 => Nat.ne_of_gt (A2gJ.out (addD_of h1 (by decide))).2)⟩
        · skip
          refine wpOp_step (o := _) rfl (fun KK hKK => ?_)
          rw [if_pos (wanted_nil _ rfl)]
          skip
          go_simp
          have hb : Below wv.heap.size wv (wv.alloc (.cells #[.int .i64 0, .int .i64 0, .slice none 0 0, .int .i64 0, .int .i64 0] 42)) := (Below.refl _ wv).alloc (Nat.le_refl _) (.cells #[.int .i64 0, .int .i64 0, .slice none 0 0, .int .i64 0, .int .i64 0] 42)
          have hbn : wv.heap.size < (wv.alloc (.cells #[.int .i64 0, .int .i64 0, .slice none 0 0, .int .i64 0, .int .i64 0] 42)).heap.size := by rw [World.size_alloc]; omega
          have BN : BoxAt (wv.alloc (.cells #[.int .i64 0, .int .i64 0, .slice none 0 0, .int .i64 0, .int .i64 0] 42)) wv.heap.size [.int .i64 0, .int .i64 0, .slice none 0 0, .int .i64 0, .int .i64 0] := (BoxAt.snoc (BoxAt.snoc (BoxAt.snoc (BoxAt.snoc (BoxAt.snoc (BoxAt.nil (w := (wv.alloc (.cells #[.int .i64 0, .int .i64 0, .slice none 0 0, .int .i64 0, .int .i64 0] 42))) (g := wv.heap.size) (by go_simp)) (v := .int .i64 0) (i := 0) rfl (by go_simp) (by go_simp)) (v := .int .i64 0) (i := 1) rfl (by go_simp) (by go_simp)) (v := .slice none 0 0) (i := 2) rfl (by go_simp) (by go_simp)) (v := .int .i64 0) (i := 3) rfl (by go_simp) (by go_simp)) (v := .int .i64 0) (i := 4) rfl (by go_simp) (by go_simp))
          exact hKK _ _ ⟨_, P9 u _, zco, zcc, zuo, zuc, zvs, zeo, zec, zro, zrc, zo, zc, gK, wv.heap.size, (Lib.hid (hbw.trans (hb.mono (by rw [hps]; omega)))), (u10 U0), (u10 U1), (u10 U2), (u10 U3), (u10 U4), (u10 U5), (u10 U6), (u10 U7), (u10 U8), (u10 U9), (u10 U10), Lib.hid (fun h0 => frUpd_self), (m10 (fun h => KOwn.below h hb) OZ), (m10 (fun h => Own.below h hb) OU), (m10 (lt_grow hb.size) A2gK), (m11 (fun h => h.below hb) A3gK), (m10 (fun h => h.below hb) A4gK), (k20 A5gKZ), (k20 A5gKU), Lib.hid (fun h0 => ⟨by omega, hbn⟩), Lib.hid (fun h0 m0 => BN), Lib.hid (fun h0 => absurd (hcl.out 13 11 (by kernel_rfl) (addD_of h0 (by decide))) hn), Lib.hid (fun h0 h1 => fun hm => Nat.lt_irrefl _ ((((OZ.out (addD_of h1 (by decide)))).lts) _ hm).2), Lib.hid (fun h0 h1 => fun hm => Nat.lt_irrefl _ ((Own.lts ((OU.out (addD_of h1 (by decide))))) _ hm).2), Lib.hid (fun h0 h1 => Nat.ne_of_lt (A2gK.out (addD_of h0 (by decide))).2)⟩
        · skip
          refine wpOp_step (o := _) rfl (fun KK hKK => ?_)
          rw [if_pos (wanted_nil _ rfl)]
          have e8 := U10.out (hw.out 10 (by kernel_rfl)); have E8_ := (E8 u).trans e8
          have e39 := U8.out (hw.out 8 (by kernel_rfl)); have E39_ := (E39 u).trans e39
          have bx := A3gK.out (hw.out 10 (by kernel_rfl)) hn
          have c0 := (bx.cells 0 _ rfl).1; have f0 := (bx.cells 0 _ rfl).2
          have c1 := (bx.cells 1 _ rfl).1; have f1 := (bx.cells 1 _ rfl).2
          have c2 := (bx.cells 2 _ rfl).1; have f2 := (bx.cells 2 _ rfl).2
          have c3 := (bx.cells 3 _ rfl).1; have f3 := (bx.cells 3 _ rfl).2
          have c4 := (bx.cells 4 _ rfl).1; have f4 := (bx.cells 4 _ rfl).2
          have hgl := A2gK.out (hw.out 10 (by kernel_rfl))
          skip
          go_simp
          have ht : Touch [gK] wv (((((wv.setCell ⟨gK, 0, none⟩ (.slice zco zvs.length zcc)).setCell ⟨gK, 1, none⟩ (.slice zuo R.k.m.f.used.length zuc)).setCell ⟨gK, 2, none⟩ (.slice zeo R.k.m.ents.length zec)).setCell ⟨gK, 3, none⟩ (.int .i64 R.k.calls)).setCell ⟨gK, 4, none⟩ (.slice zro R.k.refuse.length zrc)) := touch_bx (touch_bx (touch_bx (touch_bx (touch_bx (Touch.refl [gK] wv)))))
          have hb := ht.toBelow (B := w6.heap.size) (fun g hg => by have := List.mem_singleton.1 hg; omega) (by omega)
          have BN : BoxAt (((((wv.setCell ⟨gK, 0, none⟩ (.slice zco zvs.length zcc)).setCell ⟨gK, 1, none⟩ (.slice zuo R.k.m.f.used.length zuc)).setCell ⟨gK, 2, none⟩ (.slice zeo R.k.m.ents.length zec)).setCell ⟨gK, 3, none⟩ (.int .i64 R.k.calls)).setCell ⟨gK, 4, none⟩ (.slice zro R.k.refuse.length zrc)) gK [.slice zco zvs.length zcc, .slice zuo R.k.m.f.used.length zuc, .slice zeo R.k.m.ents.length zec, .int .i64 R.k.calls, .slice zro R.k.refuse.length zrc] := (BoxAt.snoc (BoxAt.snoc (BoxAt.snoc (BoxAt.snoc (BoxAt.snoc (BoxAt.nil (w := (((((wv.setCell ⟨gK, 0, none⟩ (.slice zco zvs.length zcc)).setCell ⟨gK, 1, none⟩ (.slice zuo R.k.m.f.used.length zuc)).setCell ⟨gK, 2, none⟩ (.slice zeo R.k.m.ents.length zec)).setCell ⟨gK, 3, none⟩ (.int .i64 R.k.calls)).setCell ⟨gK, 4, none⟩ (.slice zro R.k.refuse.length zrc))) (g := gK) (by have := ht.size; omega)) (v := .slice zco zvs.length zcc) (i := 0) rfl (by go_simp) (by go_simp)) (v := .slice zuo R.k.m.f.used.length zuc) (i := 1) rfl (by go_simp) (by go_simp)) (v := .slice zeo R.k.m.ents.length zec) (i := 2) rfl (by go_simp) (by go_simp)) (v := .int .i64 R.k.calls) (i := 3) rfl (by go_simp) (by go_simp)) (v := .slice zro R.k.refuse.length zrc) (i := 4) rfl (by go_simp) (by go_simp))
          have HDM : D 6 := (hcl.out 7 6 (by kernel_rfl) (hcl.out 8 7 (by kernel_rfl) (hw.out 8 (by kernel_rfl))))
          exact hKK _ _ ⟨u, rfl, zco, zcc, zuo, zuc, zvs, zeo, zec, zro, zrc, zo, zc, gK, gJ, (Lib.hid (hbw.trans (hb.mono (by rw [hps]; exact Nat.le_refl _)))), (k10 U0), (k10 U1), (k10 U2), (k10 U3), (k10 U4), (k10 U5), (k10 U6), (k10 U7), (k10 U8), (k10 U9), (k10 U10), (k10 U11), (md10 (fun d h => KOwn.touch h ht (fun g hg hm => by cases List.mem_singleton.1 hm; exact A5gKZ.out (hw.out 10 (by kernel_rfl)) d hg)) OZ), (md10 (fun d h => Own.touchs h ht (fun g hg hm => by cases List.mem_singleton.1 hm; exact A5gKU.out (hw.out 10 (by kernel_rfl)) d hg)) OU), (m10 (lt_grow ht.size) A2gK), x11, Lib.hid (fun h0 => BN), (k20 A5gKZ), (k20 A5gKU), (m10 (lt_grow ht.size) A2gJ), Lib.hid (fun h0 m0 => (A3gJ.out (addD_of h0 (by decide)) (fun x => m0 (addD_mem x))).touch ht (fun hm => (A6gKgJ.out (hw.out 10 (by kernel_rfl)) (addD_of h0 (by decide))) (List.mem_singleton.1 hm).symm)), Lib.hid (fun h0 => (A4gJ.out (addD_of h0 (by decide))).touch ht (fun hm => (A6gKgJ.out (hw.out 10 (by kernel_rfl)) (hcl.out 13 11 (by kernel_rfl) (addD_of h0 (by decide)))) (List.mem_singleton.1 hm).symm)), (k20 A5gJZ), (k20 A5gJU), (k20 A6gKgJ)⟩
        · skip
          refine wpOp_step (o := _) rfl (fun KK hKK => ?_)
          rw [if_pos (wanted_nil _ rfl)]
          have e9 := U11.out (hw.out 11 (by kernel_rfl)); have E9_ := (E9 u).trans e9
          have e40 := U9.out (hw.out 9 (by kernel_rfl)); have E40_ := (E40 u).trans e40
          have bx := A3gJ.out (hw.out 11 (by kernel_rfl)) hn
          have c0 := (bx.cells 0 _ rfl).1; have f0 := (bx.cells 0 _ rfl).2
          have c1 := (bx.cells 1 _ rfl).1; have f1 := (bx.cells 1 _ rfl).2
          have c2 := (bx.cells 2 _ rfl).1; have f2 := (bx.cells 2 _ rfl).2
          have c3 := (bx.cells 3 _ rfl).1; have f3 := (bx.cells 3 _ rfl).2
          have c4 := (bx.cells 4 _ rfl).1; have f4 := (bx.cells 4 _ rfl).2
          have hgl := A2gJ.out (hw.out 11 (by kernel_rfl))
          skip
          go_simp
          have ht : Touch [gJ] wv (((((wv.setCell ⟨gJ, 0, none⟩ (.int .i64 (kp : Int))).setCell ⟨gJ, 1, none⟩ (.int .i64 (mv : Int))).setCell ⟨gJ, 2, none⟩ (.slice zo cs.length zc)).setCell ⟨gJ, 3, none⟩ (.int .i64 R.ph)).setCell ⟨gJ, 4, none⟩ (.int .i64 R.nx)) := touch_bx (touch_bx (touch_bx (touch_bx (touch_bx (Touch.refl [gJ] wv)))))
          have hb := ht.toBelow (B := w6.heap.size) (fun g hg => by have := List.mem_singleton.1 hg; omega) (by omega)
          have BN : BoxAt (((((wv.setCell ⟨gJ, 0, none⟩ (.int .i64 (kp : Int))).setCell ⟨gJ, 1, none⟩ (.int .i64 (mv : Int))).setCell ⟨gJ, 2, none⟩ (.slice zo cs.length zc)).setCell ⟨gJ, 3, none⟩ (.int .i64 R.ph)).setCell ⟨gJ, 4, none⟩ (.int .i64 R.nx)) gJ [.int .i64 (kp : Int), .int .i64 (mv : Int), .slice zo cs.length zc, .int .i64 R.ph, .int .i64 R.nx] := (BoxAt.snoc (BoxAt.snoc (BoxAt.snoc (BoxAt.snoc (BoxAt.snoc (BoxAt.nil (w := (((((wv.setCell ⟨gJ, 0, none⟩ (.int .i64 (kp : Int))).setCell ⟨gJ, 1, none⟩ (.int .i64 (mv : Int))).setCell ⟨gJ, 2, none⟩ (.slice zo cs.length zc)).setCell ⟨gJ, 3, none⟩ (.int .i64 R.ph)).setCell ⟨gJ, 4, none⟩ (.int .i64 R.nx))) (g := gJ) (by have := ht.size; omega)) (v := .int .i64 (kp : Int)) (i := 0) rfl (by go_simp) (by go_simp)) (v := .int .i64 (mv : Int)) (i := 1) rfl (by go_simp) (by go_simp)) (v := .slice zo cs.length zc) (i := 2) rfl (by go_simp) (by go_simp)) (v := .int .i64 R.ph) (i := 3) rfl (by go_simp) (by go_simp)) (v := .int .i64 R.nx) (i := 4) rfl (by go_simp) (by go_simp))
          have HDM : D 6 := (hcl.out 7 6 (by kernel_rfl) (hcl.out 9 7 (by kernel_rfl) (hw.out 9 (by kernel_rfl))))
          exact hKK _ _ ⟨u, rfl, zco, zcc, zuo, zuc, zvs, zeo, zec, zro, zrc, zo, zc, gK, gJ, (Lib.hid (hbw.trans (hb.mono (by rw [hps]; exact Nat.le_refl _)))), (k10 U0), (k10 U1), (k10 U2), (k10 U3), (k10 U4), (k10 U5), (k10 U6), (k10 U7), (k10 U8), (k10 U9), (k10 U10), (k10 U11), (md10 (fun d h => KOwn.touch h ht (fun g hg hm => by cases List.mem_singleton.1 hm; exact A5gJZ.out (hw.out 11 (by kernel_rfl)) d hg)) OZ), (md10 (fun d h => Own.touchs h ht (fun g hg hm => by cases List.mem_singleton.1 hm; exact A5gJU.out (hw.out 11 (by kernel_rfl)) d hg)) OU), (m10 (lt_grow ht.size) A2gK), Lib.hid (fun h0 m0 => (A3gK.out (addD_of h0 (by decide)) (fun x => m0 (addD_mem x))).touch ht (fun hm => (A6gKgJ.out (addD_of h0 (by decide)) (hw.out 11 (by kernel_rfl))) (List.mem_singleton.1 hm))), Lib.hid (fun h0 => (A4gK.out (addD_of h0 (by decide))).touch ht (fun hm => (A6gKgJ.out (hcl.out 12 10 (by kernel_rfl) (addD_of h0 (by decide))) (hw.out 11 (by kernel_rfl))) (List.mem_singleton.1 hm))), (k20 A5gKZ), (k20 A5gKU), (m10 (lt_grow ht.size) A2gJ), x11, Lib.hid (fun h0 => BN), (k20 A5gJZ), (k20 A5gJU), (k20 A6gKgJ)⟩
      · rintro D u wv ⟨zco, zcc, zuo, zuc, zvs, zeo, zec, zro, zrc, zo, zc, gK, gJ, HBW, U0, U1, U2, U3, U4, U5, U6, U7, U8, U9, U10, U11, OZ, OU, A2gK, A3gK, A4gK, A5gKZ, A5gKU, A2gJ, A3gJ, A4gJ, A5gJZ, A5gJU, A6gKgJ⟩ hall
        have d0 := hall 0 (by show 0 < 14; decide)
        have d1 := hall 1 (by show 1 < 14; decide)
        have d2 := hall 2 (by show 2 < 14; decide)
        have d3 := hall 3 (by show 3 < 14; decide)
        have d4 := hall 4 (by show 4 < 14; decide)
        have d5 := hall 5 (by show 5 < 14; decide)
        have d6 := hall 6 (by show 6 < 14; decide)
        have d7 := hall 7 (by show 7 < 14; decide)
        have d8 := hall 8 (by show 8 < 14; decide)
        have d9 := hall 9 (by show 9 < 14; decide)
        have d10 := hall 10 (by show 10 < 14; decide)
        have d11 := hall 11 (by show 11 < 14; decide)
        have d12 := hall 12 (by show 12 < 14; decide)
        have d13 := hall 13 (by show 13 < 14; decide)
        have ha1 := ha0.out; subst ha1
        simp only [frAll, frTo, List.setIfInBounds_toArray, List.set_cons_succ, List.set_cons_zero]
        go_wp2_with fail
        go_meet
        exact ⟨zco, zcc, zuo, zuc, zvs, zeo, zec, zro, zrc, zo, zc, gK, gJ, (U10.out d10), (U11.out d11), (A4gK.out d12), (A4gJ.out d13), (OZ.out d6), (OU.out d6), HBW.out⟩
    obtain ⟨zco, zcc, zuo, zuc, zvs, zeo, zec, zro, zrc, zo, zc, gK, gJ, rfl, rfl, bK2, bJ2, oZ, oU, hbel⟩ := hcut
    obtain ⟨w8, rfl⟩ : ∃ x, x = wc := ⟨_, rfl⟩
    have up : Below w6.heap.size w6 w8 := (Below.drew (Below.refl _ _)).trans hbel
    replace HB3 := Lib.hid (HB3.out.below up); replace HB4 := Lib.hid (HB4.out.below up); replace OK := Lib.hid (OK.out.below up); replace OV := Lib.hid (Own.below OV.out up); replace HW := Lib.hid (HW.out.trans (up.mono HW.out.size))
    have HB8 := Lib.hid bK2; have HB9 := Lib.hid bJ2; have OZ := Lib.hid oZ; have OU := Lib.hid oU
    clear up bK2 bJ2 oZ oU hbel BK9 BJ9 QC0 HB6 OJ H1 xpg xp5 hg ha hal haw
    go_wp2_with fail
    go_loopw [10] (fun i wr => ∃ j : Nat, j ≤ 16 ∧ i = .int .i64 (j : Nat) ∧ Below w8.heap.size w8 wr) (fun i _ => 16 - (intOf i).toNat)
    case atStart => exact ⟨0, Nat.zero_le _, rfl, Below.refl _ _⟩
    case round =>
      obtain ⟨i, hi, rfl, hbel⟩ := hrel
      obtain ⟨w1, rfl⟩ : ∃ q, q = wr := ⟨_, rfl⟩
      have HX := Lib.hid hbel
      clear hbel
      by_cases hlt : i < 16
      · have hlt' : (i : Int) < 16 := by omega
        have hi9 : i ≤ 99999 := by omega
        have HB4a := Lib.hid (HB4.out.below HX.out)
        have k4_0 := (HB4a.out.cells 0 _ rfl).1; have x4 := HB4a.out.lt
        go_wp2_with fail
        clear k4_0 x4
        go_loopw [11, 12] (fun pv nv wr => ∃ j : Nat, j ≤ cs.length ∧ nv = .int .i64 (j : Nat) ∧ pv = .int .i64 (pgTo kp mv cs i j : Nat) ∧ Below w8.heap.size w8 wr) (fun _ nv _ => cs.length - (intOf nv).toNat)
        case atStart => exact ⟨0, Nat.zero_le _, rfl, by rw [pgTo_zero], HX.out⟩
        case round =>
          obtain ⟨j, hj, rfl, rfl, hbel⟩ := hrel
          obtain ⟨w1, rfl⟩ : ∃ q, q = wr := ⟨_, rfl⟩
          clear HX HB4a
          have HX := Lib.hid hbel
          clear hbel
          have HB4a := Lib.hid (HB4.out.below HX.out)
          have k4_1 := (HB4a.out.cells 1 _ rfl).1; have k4_2 := (HB4a.out.cells 2 _ rfl).1; have x4 := HB4a.out.lt
          by_cases hjl : j < cs.length
          · have hjI : (j : Int) < (cs.length : Nat) := by omega
            obtain ⟨c, hc⟩ := getx hjl
            obtain ⟨ao, cap, he, -, -, hra⟩ := IntsAt.open ((Own.below OV.out HX.out).at lenInt)
            simp only [Value.slice.injEq] at he
            obtain ⟨rfl, -, rfl⟩ := he
            obtain ⟨ga, oa, rfl, hga, c1⟩ := hra j c hc
            clear hra
            have hj16 : j ≤ 99999 := by omega
            have hl9 : cs.length ≤ 99999 := by omega
            by_cases hci : c = (i : Int)
            · have hy := pgTo_yes (kp := kp) (mv := mv) (hci ▸ hc)
              subst hci
              have hee : ((i : Int) == (i : Int)) = true := beq_self_eq_true _
              clear hc
              go_wp2_with fail
              go_roundw
              case rel => exact ⟨j + 1, hjl, (by go_num), by rw [hy], HX.out⟩
              case measure => simp [intOf]; omega
            · have hy := pgTo_no (kp := kp) (mv := mv) hc hci
              have hee : (c == (i : Int)) = false := beq_false_of_ne hci
              clear hc
              go_wp2_with fail
              go_roundw
              case rel => exact ⟨j + 1, hjl, (by go_num), by rw [hy], HX.out⟩
              case measure => simp [intOf]; omega
          · obtain rfl : j = cs.length := by omega
            have hjI : ¬ (cs.length : Int) < (cs.length : Nat) := by omega
            obtain ⟨p, hp⟩ : ∃ p, p = pgTo kp mv cs i cs.length := ⟨_, rfl⟩
            rw [← hp]
            have hp4 : p < 4 := by rw [hp]; exact pgTo_lt hk4 hm4
            obtain ⟨m1, m2, m3, m4⟩ := pg_wraps hp4 hlt
            obtain ⟨va, fa, LS, LI⟩ := vis_pack VR.out hk4 hm4 hlt (hp.trans (pgTo_all ..))
            have HLS := Lib.hid LS; have HLI := Lib.hid LI
            clear LS LI hp
            have HB3a := Lib.hid (HB3.out.below HX.out)
            have k3_0 := (HB3a.out.cells 0 _ rfl).1; have k3_1 := (HB3a.out.cells 1 _ rfl).1; have k3_2 := (HB3a.out.cells 2 _ rfl).1; have x3 := HB3a.out.lt
            go_wp2_with fail
            refine (HLS.out ((⟨⟨⟨.slice yco yvs.length ycc, .slice yuo K.m.f.used.length yuc, yvs⟩, .slice yeo K.m.ents.length yec⟩, .slice yro K.refuse.length yrc⟩ : KV)).m w1 (OK.out.below HX.out).at.m).mono ?_; rintro e wl ⟨rfl, hb⟩
            have HX2 := Lib.hid (HX.out.trans (hb.mono HX.out.size))
            clear hb k3_0 k3_1 k3_2 x3
            have HB8a := Lib.hid (HB8.out.below HX2.out)
            have k8_0 := (HB8a.out.cells 0 _ rfl).1; have k8_1 := (HB8a.out.cells 1 _ rfl).1; have k8_2 := (HB8a.out.cells 2 _ rfl).1; have x8 := HB8a.out.lt
            go_wp2_with fail
            refine (HLI.out ((⟨⟨⟨.slice zco zvs.length zcc, .slice zuo R.k.m.f.used.length zuc, zvs⟩, .slice zeo R.k.m.ents.length zec⟩, .slice zro R.k.refuse.length zrc⟩ : KV)).m wl (OZ.out.below HX2.out).at.m).mono ?_; rintro e wm ⟨rfl, hb⟩
            have HX3 := Lib.hid (HX2.out.trans (hb.mono HX2.out.size))
            clear hb k8_0 k8_1 k8_2 x8
            have v1 : (va != va) = false := by simp
            have v2 : (fa != fa) = false := by simp
            go_wp2_with fail
            go_roundw
            case rel => exact ⟨i + 1, hlt, nat_next hi9, HX3.out⟩
            case measure => exact nat_meas (by decide) hlt
      · obtain rfl : i = 16 := by omega
        have HB8a := Lib.hid (HB8.out.below HX.out); have HB9a := Lib.hid (HB9.out.below HX.out)
        have k8_0 := (HB8a.out.cells 0 _ rfl).1; have k8_1 := (HB8a.out.cells 1 _ rfl).1; have k8_2 := (HB8a.out.cells 2 _ rfl).1; have k8_3 := (HB8a.out.cells 3 _ rfl).1; have k8_4 := (HB8a.out.cells 4 _ rfl).1; have x8 := HB8a.out.lt
        have k9_0 := (HB9a.out.cells 0 _ rfl).1; have k9_1 := (HB9a.out.cells 1 _ rfl).1; have k9_2 := (HB9a.out.cells 2 _ rfl).1; have k9_3 := (HB9a.out.cells 3 _ rfl).1; have k9_4 := (HB9a.out.cells 4 _ rfl).1; have x9 := HB9a.out.lt
        go_wp2_with fail
        refine (i_JobOk (kp : Int) (mv : Int) _ cs R.ph R.nx true VR.out.job _ ((Own.below OU.out HX.out).at lenInt)).mono ?_; rintro e wl ⟨rfl, hb⟩
        have HX2 := Lib.hid (HX.out.trans (hb.mono HX.out.size))
        clear hb k8_0 k8_1 k8_2 k8_3 k8_4 x8 k9_0 k9_1 k9_2 k9_3 k9_4 x9
        have HB8b := Lib.hid (HB8.out.below HX2.out)
        have k8_0 := (HB8b.out.cells 0 _ rfl).1; have k8_1 := (HB8b.out.cells 1 _ rfl).1; have k8_2 := (HB8b.out.cells 2 _ rfl).1; have k8_3 := (HB8b.out.cells 3 _ rfl).1; have k8_4 := (HB8b.out.cells 4 _ rfl).1; have x8 := HB8b.out.lt
        go_wp2_with fail
        refine (i_KernelOk (⟨⟨⟨.slice zco zvs.length zcc, .slice zuo R.k.m.f.used.length zuc, zvs⟩, .slice zeo R.k.m.ents.length zec⟩, .slice zro R.k.refuse.length zrc⟩ : KV) R.k true VR.out.kok _ (OZ.out.below HX2.out).at).mono ?_; rintro e wm ⟨rfl, hb⟩
        have hB := HW.out.trans ((HX2.out.trans (hb.mono HX2.out.size)).mono HW.out.size)
        go_wp2_with fail
        go_ret
        exact ⟨by first | rfl | simp_all, by exact bel⟩

namespace fnJobVisible
set_option maxRecDepth 100000 in
theorem contract (H : Type) (enc : TypeId × Value → H) (W : World) (base : Nat) (args : Array Value) (ds gs : List (DataW H)) (before : List MemPlace)
    (hval : ∀ (j : Nat) t v, Try.f3.params[j]? = some t → args[j]? = some v → Value.okWide Try.prog W .any base t v)
    (hW : DataW.Whole enc Try.prog Try.f3.params.toList Rows.fnJobVisibleSpec.vars false W args.toList ds gs before) :
    Calls Try.prog 3 args W fun e W' => ∃ v, e = .returned v ∧ Rows.fnJobVisibleSpec.post enc Try.prog Try.f3 false true false false W args v W' := by
  have hW' := hW
  obtain ⟨p, q, hA0, hV, rfl, hfz, hnd⟩ := hW
  have hA : DataW.TrodAll enc Try.prog W 0 (fun _ => true) true Try.f3.params.toList args.toList ds p := hA0
  rw [Try.params3] at hA hval
  obtain ⟨v0, vs0, d0, ds0, p0, q0, hargs, rfl, rfl, h0, r0⟩ := trodAll_cons hA
  obtain ⟨rfl, rfl, rfl⟩ := trodAll_nil r0
  obtain rfl : args = #[v0] := by cases args; simp_all
  obtain ⟨rfl, rfl⟩ := trodVars_none hV
  obtain ⟨n, hv⟩ := bytes_open Try.underlying22 Try.underlying5 (by kernel_rfl) (hval 0 22 v0 rfl rfl) h0
  clear hA0
  refine (w_FnJobVisible v0 n W hv).mono fun e W' ⟨he, hg⟩ => ?_
  subst he
  exact ⟨_, rfl, law_post (tb := 4) laidOut (by kernel_rfl) rfl rfl Try.underlying4 hW' rfl rfl rfl hg⟩
set_option maxRecDepth 100000 in
theorem lifted (os : Os) (started : os.Started) (H : Type) (enc : TypeId × Value → H) :
    ReturnsInHanded {} Try.checked os 3 .any (Rows.fnJobVisibleSpec.pre6 enc Try.prog Try.f3 Rows.fnJobVisibleRow.domain false) (Rows.fnJobVisibleSpec.post enc Try.prog Try.f3 false true false false) := by
  refine returnsInHanded_of_change (C := Try.checked) own started (by kernel_rfl) Try.func3
    (ChangeSpec.witness6 (enc := enc) (C := Try.checked) false ⟨#[], #[.slice none 0 0], []⟩ 8 (by kernel_rfl) (by kernel_rfl) (by kernel_rfl) (by kernel_rfl)) ?_
  intro W base args ds gs before hval hW _ _
  exact contract H enc W base args ds gs before hval hW
/-- The statement. -/
theorem proved : Rows.FnJobVisibleSaid :=
  OpenClaim.holds_of_wide 3 Try.f3 rfl rfl rfl rfl rfl rfl rfl ⟨rfl, rfl, rfl, rfl, rfl⟩ rfl rfl rfl rfl rfl (by kernel_rfl) Try.func3 (by kernel_rfl)
    (of_decide_eq_true (by kernel_rfl)) (by unfold Func.isWrapper; first | (rw [if_pos (by decide +kernel)]; kernel_rfl) | (rw [if_neg (by decide +kernel)]; exact ⟨rfl, rfl⟩))
    (fun os started H enc _ => lifted os started H enc)
end fnJobVisible

end Go.Proofs.Ytkkebpcclklmcaa
