/- 'laws.FnLate' returns true, whatever the bytes: no condition. -/
import Derived.Test.YtobechjagckdfaaGLT17
import Derived.Test.YtobechjagckdfaaGLT19
import Derived.Test.YtobechjagckdfaaGLT20
set_option linter.unusedVariables false
set_option linter.unusedSimpArgs false
namespace Go.Proofs.Ytobechjagckdfaa
open Go.ChangeShapes Go.WideShapes Go.ChangeAt Go.RowKit
set_option maxRecDepth 20000 in
set_option maxHeartbeats 6400000 in
theorem w_FnLate (v : Value) (n : Nat) (w : World) (hv : BytesAt w.heap.size w v n) : Calls Try.prog 3 #[v] w fun e w' => e = .returned (.bool true) ∧ Below w.heap.size w w' := by
  have HV := Lib.hid hv; clear hv
  by_cases hbig : (1048576 : Int) < n
  · (have hall := all_nil w; go_enter Try.func3, Try.ntmps3)
    go_wp2_with (go_at_call 5; refine (l_big _ n _ HV.out).mono ?_; rintro e w1 ⟨rfl, rfl⟩)
    all_goals (go_ret; refine ⟨by simp_all [], ?_⟩; exact bel)
  · (have hall := all_nil w; go_enter Try.func3, Try.ntmps3)
    go_wp2_with (go_at_call 5; refine (l_big _ n _ HV.out).mono ?_; rintro e w1 ⟨rfl, rfl⟩)
    refine (s_DrawPages _ n _ HV.out).mono ?_; rintro e w2 ⟨y, K, lv, sp, c, rfl, hinv, hcl, hsp, hko, hso, hap, hb⟩
    obtain ⟨yco, ycc, yuo, yuc, yvs, yeo, yec, yro, yrc, rfl⟩ := KOwn.shapes hko
    obtain ⟨so, scp, rfl, -, -, -⟩ := Own.shape hso
    have HI := Lib.hid hinv; have HW := Lib.hid hb; have HKO := Lib.hid hko; have HSO := Lib.hid hso
    have hz2 := hb.size
    have HSZ : Hid (szK K ≤ 1048576) := Lib.hid (by have h1 := mok_sz hinv.ok; have h2 := hinv.rl; have := mok_szK hinv.ok; omega)
    clear hinv hko hso hap hb
    simp only [KV.val]
    go_wp2_with fail
    have up4 : Below w2.heap.size w2 ((w2.alloc (.cells #[.slice yco yvs.length ycc, .slice yuo K.m.f.used.length yuc, .slice yeo K.m.ents.length yec, .int .i64 K.calls, .slice yro K.refuse.length yrc] 35)).alloc (.cells #[] 43)) := ((Below.refl _ _).alloc (Nat.le_refl _) _).alloc (by simp only [World.size_alloc]; omega) _
    have B4 : BoxAt ((w2.alloc (.cells #[.slice yco yvs.length ycc, .slice yuo K.m.f.used.length yuc, .slice yeo K.m.ents.length yec, .int .i64 K.calls, .slice yro K.refuse.length yrc] 35)).alloc (.cells #[] 43)) w2.heap.size [.slice yco yvs.length ycc, .slice yuo K.m.f.used.length yuc, .slice yeo K.m.ents.length yec, .int .i64 K.calls, .slice yro K.refuse.length yrc] := BoxAt.snoc (BoxAt.snoc (BoxAt.snoc (BoxAt.snoc (BoxAt.snoc (BoxAt.nil (w := ((w2.alloc (.cells #[.slice yco yvs.length ycc, .slice yuo K.m.f.used.length yuc, .slice yeo K.m.ents.length yec, .int .i64 K.calls, .slice yro K.refuse.length yrc] 35)).alloc (.cells #[] 43))) (g := w2.heap.size) (by go_simp)) rfl (by go_simp) (by go_simp)) rfl (by go_simp) (by go_simp)) rfl (by go_simp) (by go_simp)) rfl (by go_simp) (by go_simp)) rfl (by go_simp) (by go_simp)
    have O4 : OwnLt w2.heap.size ((w2.alloc (.cells #[.slice yco yvs.length ycc, .slice yuo K.m.f.used.length yuc, .slice yeo K.m.ents.length yec, .int .i64 K.calls, .slice yro K.refuse.length yrc] 35)).alloc (.cells #[] 43)) (.slice (some ⟨w2.heap.size + 1, 0, none⟩) 0 0) [] := Own.empty' _ _ _ _ _ _ (by simp only [World.size_alloc]) (by simp only [World.size_alloc]; omega)
    have HW4 := Lib.hid (HW.out.trans (up4.mono hz2)); have HB4 := Lib.hid B4; have HL4 := Lib.hid (O4.at lenLt); have HK4 := Lib.hid (HKO.out.below up4); have HS4 := Lib.hid (Own.below HSO.out up4)
    have xb4 := B4.lt
    clear up4 B4 O4 HW HKO HSO
    obtain ⟨w4, hw4⟩ : ∃ q, q = ((w2.alloc (.cells #[.slice yco yvs.length ycc, .slice yuo K.m.f.used.length yuc, .slice yeo K.m.ents.length yec, .int .i64 K.calls, .slice yro K.refuse.length yrc] 35)).alloc (.cells #[] 43)) := ⟨_, rfl⟩
    rw [← hw4] at HW4 HB4 HL4 HK4 HS4 xb4 ⊢
    clear hw4
    generalize w2.heap.size = g3 at *
    go_loopw [5, 6] (fun l i wr => ∃ (k : Nat) (vo : Option Addr) (vc : Nat), k ≤ sp.length ∧ i = .int .i64 (k : Nat) ∧ l = .slice vo (lateTo (4 * k)).length vc ∧ LtAt wr (.slice vo (lateTo (4 * k)).length vc) (lateTo (4 * k)) ∧ Below w4.heap.size w4 wr) (fun _ i _ => sp.length - (intOf i).toNat)
    case atStart => exact ⟨0, _, _, Nat.zero_le _, rfl, rfl, HL4.out, Below.refl _ _⟩
    case round =>
      obtain ⟨k, vo, vc, hk, rfl, rfl, hlt_, hbel⟩ := hrel
      have HL := Lib.hid hlt_; have HB := Lib.hid hbel
      clear hlt_ hbel HL4
      obtain ⟨w1, rfl⟩ : ∃ q, q = wr := ⟨_, rfl⟩
      by_cases hlt : k < sp.length
      · have hlt' : (k : Int) < (sp.length : Nat) := by omega
        go_wp2_with fail
        go_loopw [5, 7] (fun l i wr => ∃ (m : Nat) (vo : Option Addr) (vc : Nat), m ≤ 4 ∧ i = .int .i64 (m : Nat) ∧ l = .slice vo (lateTo (4 * k + m)).length vc ∧ LtAt wr (.slice vo (lateTo (4 * k + m)).length vc) (lateTo (4 * k + m)) ∧ Below w4.heap.size w4 wr) (fun _ i _ => 4 - (intOf i).toNat)
        case atStart => exact ⟨0, _, _, Nat.zero_le _, rfl, rfl, HL.out, HB.out⟩
        case round =>
          obtain ⟨m, vo, vc, hm, rfl, rfl, hlt_, hbel⟩ := hrel
          have HL2 := Lib.hid hlt_; have HB2 := Lib.hid hbel
          clear hlt_ hbel HL HB
          obtain ⟨w1, rfl⟩ : ∃ q, q = wr := ⟨_, rfl⟩
          by_cases hm4 : m < 4
          · have hm4' : (m : Int) < 4 := by omega
            go_wp2_with fail
            have LAD := i_LateAdd _ (lateTo (4 * k + m)) (k : Int) (m : Int) (by rw [lateTo_len]; omega) w1 HL2.out
            rw [late_step (by omega) hm4] at LAD
            refine LAD.mono ?_; rintro e w5 ⟨v5, rfl, ho5, hb5⟩
            obtain ⟨vo5, vc5, rfl, -, -, -⟩ := Own.shape ho5
            have HL5 := Lib.hid (Own.at ho5 lenLt); have HB5 := Lib.hid (HB2.out.trans (hb5.mono HB2.out.size))
            clear LAD ho5 hb5
            go_wp2_with fail
            go_roundw
            case rel => exact ⟨m + 1, vo5, vc5, by omega, by go_num, rfl, HL5.out, HB5.out⟩
            case measure => simp [intOf]; omega
          · obtain rfl : m = 4 := by omega
            go_wp2_with fail
            go_roundw
            case rel => exact ⟨k + 1, vo, vc, by omega, by go_num, rfl, HL2.out, HB2.out⟩
            case measure => simp [intOf]; omega
      · obtain rfl : k = sp.length := by omega
        have hlt' : ¬ (sp.length : Int) < (sp.length : Nat) := by omega
        go_upto_region 12 with fail
        have HK1 := Lib.hid (HK4.out.below HB.out); have HS1 := Lib.hid (Own.below HS4.out HB.out); have HB1 := Lib.hid (HB4.out.below HB.out); have HW1 := Lib.hid (HW4.out.trans (HB.out.mono HW4.out.size))
        clear HK4 HS4 HB4 HW4 HB xb4
        have bx := HB1.out
        have k0 := (bx.cells 0 _ rfl).1; have k1 := (bx.cells 1 _ rfl).1; have k2 := (bx.cells 2 _ rfl).1; have k3 := (bx.cells 3 _ rfl).1; have k4 := (bx.cells 4 _ rfl).1; have xb := bx.lt
        clear bx
        have O6 : OwnLt w1.heap.size (w1.alloc (.cells #[.int .i64 1, .int .i64 0] 43)) (.slice (some ⟨w1.heap.size, 0, none⟩) 1 1) [⟨1, 0⟩] := World.ownsRow_lit w1 #[.int .i64 1, .int .i64 0] 1 (Nat.le_refl _) (by decide) (by simp [fLt])
        go_wp2_with fail
        have LTW := i_LateAdd _ [⟨1, 0⟩] 1 0 (by decide) _ (O6.at lenLt)
        rw [late_twice] at LTW
        refine LTW.mono ?_; rintro e w6 ⟨v6, rfl, ho6, hb6⟩
        obtain ⟨vo6, vc6, rfl, -, -, -⟩ := Own.shape ho6
        have up6 : Below w1.heap.size w1 w6 := ((Below.refl _ _).alloc (Nat.le_refl _) _).trans (hb6.mono (by simp only [World.size_alloc]; omega))
        have HK6 := Lib.hid (HK1.out.below up6); have HS6 := Lib.hid (Own.below HS1.out up6); have HB6 := Lib.hid (HB1.out.below up6); have HW6 := Lib.hid (HW1.out.trans (up6.mono HW1.out.size)); have HL6 := Lib.hid (HL.out.below up6)
        clear LTW ho6 hb6 up6 O6 HK1 HS1 HB1 HW1 HL k0 k1 k2 k3 k4 xb
        have bx := HB6.out
        have k0 := (bx.cells 0 _ rfl).1; have k1 := (bx.cells 1 _ rfl).1; have k2 := (bx.cells 2 _ rfl).1; have k3 := (bx.cells 3 _ rfl).1; have k4 := (bx.cells 4 _ rfl).1; have xb := bx.lt
        clear bx
        go_wp2_with fail
        obtain ⟨t1, ht1⟩ : ∃ q, q = laRun (lateTo (4 * sp.length)) K sp := ⟨_, rfl⟩
        have LAP := i_LateApply (⟨⟨⟨.slice yco yvs.length ycc, .slice yuo K.m.f.used.length yuc, yvs⟩, .slice yeo K.m.ents.length yec⟩, .slice yro K.refuse.length yrc⟩ : KV) K _ sp _ (lateTo (4 * sp.length)) HSZ.out (by omega) (by rw [lateTo_len]; omega) w6 HK6.out.at (OwnSp.at HS6.out) HL6.out
        rw [← ht1] at LAP
        refine LAP.mono ?_; rintro e w7 ⟨z, v7, u7, rfl, hzo, hvo, huo, -, -, -, hb7⟩
        obtain ⟨zco, zcc, zuo, zuc, zvs, zeo, zec, zro, zrc, rfl⟩ := KOwn.shapes hzo
        obtain ⟨vo7, vc7, rfl, -, -, -⟩ := Own.shape hvo
        obtain ⟨uo7, uc7, rfl, -, -, -⟩ := Own.shape huo
        have HT1 := Lib.hid ht1
        clear LAP ht1 k0 k1 k2 k3 k4 xb
        simp only [KV.val]
        go_wp2_with fail
        have up8 : Below w7.heap.size w7 (w7.alloc (.cells #[.slice zco zvs.length zcc, .slice zuo t1.k.m.f.used.length zuc, .slice zeo t1.k.m.ents.length zec, .int .i64 t1.k.calls, .slice zro t1.k.refuse.length zrc] 35)) := (Below.refl _ _).alloc (Nat.le_refl _) _
        have K8 : KIn w6.heap.size (w7.alloc (.cells #[.slice zco zvs.length zcc, .slice zuo t1.k.m.f.used.length zuc, .slice zeo t1.k.m.ents.length zec, .int .i64 t1.k.calls, .slice zro t1.k.refuse.length zrc] 35)) w7.heap.size (⟨⟨⟨.slice zco zvs.length zcc, .slice zuo t1.k.m.f.used.length zuc, zvs⟩, .slice zeo t1.k.m.ents.length zec⟩, .slice zro t1.k.refuse.length zrc⟩ : KV) t1.k := ⟨⟨(by go_simp), (by go_simp), (by go_simp), (by go_simp), (by go_simp), (by go_simp), (by go_simp), (by go_simp), (by go_simp), (by go_simp), (by go_simp)⟩, hzo.below up8, hb7.size, fun hm => by have := (hzo.lts _ hm).2; omega⟩
        have HK8 := Lib.hid K8; have HV8 := Lib.hid (Own.below hvo up8); have HU8 := Lib.hid (Own.below huo up8); have HS8 := Lib.hid (Own.below (Own.below HS6.out hb7) up8)
        have HW8 := Lib.hid ((HW6.out.trans (hb7.mono HW6.out.size)).trans (up8.mono (Nat.le_trans HW6.out.size hb7.size)))
        have hz78 := up8.size
        have hw67 : w6.heap.size ≤ w7.heap.size := hb7.size
        have hw06 : w.heap.size ≤ w6.heap.size := HW6.out.size
        have hv7 : ∀ b ∈ blocks [(.slice vo7 t1.sp.length vc7 : Value)], b ≠ w7.heap.size := fun b hb e => by have := (Own.lts hvo b hb).2; omega
        have hu7 : ∀ b ∈ blocks [(.slice uo7 t1.left.length uc7 : Value)], b ≠ w7.heap.size := fun b hb e => by have := (Own.lts huo b hb).2; omega
        have hs7 : ∀ b ∈ blocks [(.slice so sp.length scp : Value)], b ≠ w7.heap.size := fun b hb e => by have := (Own.lts HS6.out b hb).2; omega
        have HNV := Lib.hid hv7; have HNU := Lib.hid hu7; have HNS := Lib.hid hs7
        have MID := Lib.hid (late_mid HI.out HT1.out)
        obtain ⟨w8, hw8⟩ : ∃ q, q = (w7.alloc (.cells #[.slice zco zvs.length zcc, .slice zuo t1.k.m.f.used.length zuc, .slice zeo t1.k.m.ents.length zec, .int .i64 t1.k.calls, .slice zro t1.k.refuse.length zrc] 35)) := ⟨_, rfl⟩
        rw [← hw8] at HK8 HV8 HU8 HS8 HW8 hz78 ⊢
        clear hw8 up8 K8 hzo hvo huo hb7 HK6 HS6 HB6 HW6 HL6 hv7 hu7 hs7
        generalize w7.heap.size = g10 at *
        generalize w6.heap.size = n0 at *
        go_loopw [13] (fun i wr => ∃ (q : Nat) (y : KV), q ≤ sp.length ∧ i = .int .i64 (q : Nat) ∧ KIn n0 wr g10 y (setTwo sp q t1.k) ∧ Touch [g10] w8 wr) (fun i _ => sp.length - (intOf i).toNat)
        case atStart => exact ⟨0, _, Nat.zero_le _, rfl, HK8.out, Touch.refl _ _⟩
        case round =>
          obtain ⟨q, y, hq, rfl, hkin, htch⟩ := hrel
          have HK := Lib.hid hkin; have HTC := Lib.hid htch
          clear hkin htch HK8
          obtain ⟨w1, rfl⟩ : ∃ q, q = wr := ⟨_, rfl⟩
          by_cases hql : q < sp.length
          · have hqI : (q : Int) < (sp.length : Nat) := by omega
            have HQL := Lib.hid hqI
            obtain ⟨-, -, SK, PS⟩ := MID.out
            obtain ⟨p, en, s1, hs1, hsp1, hen, hef, hpe, heq⟩ := late_set (SK q hq) PS hql
            have hel := (SK q hq).ok.e1.2
            obtain ⟨K, hK⟩ : ∃ q', q' = setTwo sp q t1.k := ⟨_, rfl⟩
            rw [← hK] at HK hen hpe heq hel
            have HPE := Lib.hid (fun W (h : EntAt W y.m.e K.m.ents) => by have := s_PageEntry _ K.m.ents (p : Int) W h; rwa [hpe] at this : ∀ W (h : EntAt W y.m.e K.m.ents), Calls Try.prog 10 #[.agg #[y.m.e], .int .i64 (p : Int)] W fun e w' => e = .returned (.agg #[.int .i64 en.m, .int .i64 en.f]) ∧ Below W.heap.size W w')
            have HKE := Lib.hid hK
            clear hK
            have HEN := Lib.hid hen; have HEF := Lib.hid hef; have HEL := Lib.hid hel; have HEQ := Lib.hid heq
            obtain ⟨gsp, gspc, he, -, -⟩ := Own.addr HS8.out (by omega)
            simp only [Value.slice.injEq] at he
            obtain ⟨rfl, -, rfl⟩ := he
            obtain ⟨-, hgs, -, ecx⟩ := Own.slot HS8.out lenSpan hs1
            have hgne : gsp ∉ [g10] := fun hm => HNS.out gsp (mem_one rfl) (List.mem_singleton.1 hm)
            have HCX : Hid (w1.cell? ⟨gsp, q * 3, none⟩ = some (.int .i64 (p : Int))) := Lib.hid ((HTC.out.cell hgs hgne).trans (by have := ecx 0 _ rfl; rw [hsp1] at this; simpa using this))
            have HGX : Hid (gsp < w1.heap.size ∧ gsp ∉ [g10]) := Lib.hid ⟨Nat.lt_of_lt_of_le hgs HTC.out.size, hgne⟩
            clear hs1 hsp1 hen hef hpe heq hel ecx hgne hgs PS SK
            go_upto_region 17 with fail
            refine wp_gen (fun a0 ha0 => ?_)
            have hsz : a0.tmps.size = 133 := by rw [ha0]; rfl
            have X4 : ∀ u, (frAll a0 [64, 65, 66, 67, 68, 69, 70, 71, 72, 73, 74, 75, 76, 77, 78, 79, 80, 81, 82, 83, 63, 84, 85, 86, 87] u).tmps.getD 4 undef = .slice (some ⟨gsp, 0, none⟩) sp.length scp := fun u => (frAll_other (by decide)).trans (by rw [ha0]; rfl)
            have X10 : ∀ u, (frAll a0 [64, 65, 66, 67, 68, 69, 70, 71, 72, 73, 74, 75, 76, 77, 78, 79, 80, 81, 82, 83, 63, 84, 85, 86, 87] u).tmps.getD 10 undef = .pointer (some ⟨g10, 0, none⟩) := fun u => (frAll_other (by decide)).trans (by rw [ha0]; rfl)
            have X13 : ∀ u, (frAll a0 [64, 65, 66, 67, 68, 69, 70, 71, 72, 73, 74, 75, 76, 77, 78, 79, 80, 81, 82, 83, 63, 84, 85, 86, 87] u).tmps.getD 13 undef = .int .i64 (q : Int) := fun u => (frAll_other (by decide)).trans (by rw [ha0]; rfl)
            have E64 : ∀ u, (frAll a0 [64, 65, 66, 67, 68, 69, 70, 71, 72, 73, 74, 75, 76, 77, 78, 79, 80, 81, 82, 83, 63, 84, 85, 86, 87] u).tmps.getD 64 undef = u 64 := fun u => frAll_eval (by decide) (by rw [hsz]; decide)
            have P64 : ∀ u v, (frAll a0 [64, 65, 66, 67, 68, 69, 70, 71, 72, 73, 74, 75, 76, 77, 78, 79, 80, 81, 82, 83, 63, 84, 85, 86, 87] u).put (some 64) v = frAll a0 [64, 65, 66, 67, 68, 69, 70, 71, 72, 73, 74, 75, 76, 77, 78, 79, 80, 81, 82, 83, 63, 84, 85, 86, 87] (frUpd u 64 v) := fun u v => frAll_put v (by decide)
            have E65 : ∀ u, (frAll a0 [64, 65, 66, 67, 68, 69, 70, 71, 72, 73, 74, 75, 76, 77, 78, 79, 80, 81, 82, 83, 63, 84, 85, 86, 87] u).tmps.getD 65 undef = u 65 := fun u => frAll_eval (by decide) (by rw [hsz]; decide)
            have P65 : ∀ u v, (frAll a0 [64, 65, 66, 67, 68, 69, 70, 71, 72, 73, 74, 75, 76, 77, 78, 79, 80, 81, 82, 83, 63, 84, 85, 86, 87] u).put (some 65) v = frAll a0 [64, 65, 66, 67, 68, 69, 70, 71, 72, 73, 74, 75, 76, 77, 78, 79, 80, 81, 82, 83, 63, 84, 85, 86, 87] (frUpd u 65 v) := fun u v => frAll_put v (by decide)
            have E66 : ∀ u, (frAll a0 [64, 65, 66, 67, 68, 69, 70, 71, 72, 73, 74, 75, 76, 77, 78, 79, 80, 81, 82, 83, 63, 84, 85, 86, 87] u).tmps.getD 66 undef = u 66 := fun u => frAll_eval (by decide) (by rw [hsz]; decide)
            have P66 : ∀ u v, (frAll a0 [64, 65, 66, 67, 68, 69, 70, 71, 72, 73, 74, 75, 76, 77, 78, 79, 80, 81, 82, 83, 63, 84, 85, 86, 87] u).put (some 66) v = frAll a0 [64, 65, 66, 67, 68, 69, 70, 71, 72, 73, 74, 75, 76, 77, 78, 79, 80, 81, 82, 83, 63, 84, 85, 86, 87] (frUpd u 66 v) := fun u v => frAll_put v (by decide)
            have E67 : ∀ u, (frAll a0 [64, 65, 66, 67, 68, 69, 70, 71, 72, 73, 74, 75, 76, 77, 78, 79, 80, 81, 82, 83, 63, 84, 85, 86, 87] u).tmps.getD 67 undef = u 67 := fun u => frAll_eval (by decide) (by rw [hsz]; decide)
            have P67 : ∀ u v, (frAll a0 [64, 65, 66, 67, 68, 69, 70, 71, 72, 73, 74, 75, 76, 77, 78, 79, 80, 81, 82, 83, 63, 84, 85, 86, 87] u).put (some 67) v = frAll a0 [64, 65, 66, 67, 68, 69, 70, 71, 72, 73, 74, 75, 76, 77, 78, 79, 80, 81, 82, 83, 63, 84, 85, 86, 87] (frUpd u 67 v) := fun u v => frAll_put v (by decide)
            have E68 : ∀ u, (frAll a0 [64, 65, 66, 67, 68, 69, 70, 71, 72, 73, 74, 75, 76, 77, 78, 79, 80, 81, 82, 83, 63, 84, 85, 86, 87] u).tmps.getD 68 undef = u 68 := fun u => frAll_eval (by decide) (by rw [hsz]; decide)
            have P68 : ∀ u v, (frAll a0 [64, 65, 66, 67, 68, 69, 70, 71, 72, 73, 74, 75, 76, 77, 78, 79, 80, 81, 82, 83, 63, 84, 85, 86, 87] u).put (some 68) v = frAll a0 [64, 65, 66, 67, 68, 69, 70, 71, 72, 73, 74, 75, 76, 77, 78, 79, 80, 81, 82, 83, 63, 84, 85, 86, 87] (frUpd u 68 v) := fun u v => frAll_put v (by decide)
            have E69 : ∀ u, (frAll a0 [64, 65, 66, 67, 68, 69, 70, 71, 72, 73, 74, 75, 76, 77, 78, 79, 80, 81, 82, 83, 63, 84, 85, 86, 87] u).tmps.getD 69 undef = u 69 := fun u => frAll_eval (by decide) (by rw [hsz]; decide)
            have P69 : ∀ u v, (frAll a0 [64, 65, 66, 67, 68, 69, 70, 71, 72, 73, 74, 75, 76, 77, 78, 79, 80, 81, 82, 83, 63, 84, 85, 86, 87] u).put (some 69) v = frAll a0 [64, 65, 66, 67, 68, 69, 70, 71, 72, 73, 74, 75, 76, 77, 78, 79, 80, 81, 82, 83, 63, 84, 85, 86, 87] (frUpd u 69 v) := fun u v => frAll_put v (by decide)
            have E70 : ∀ u, (frAll a0 [64, 65, 66, 67, 68, 69, 70, 71, 72, 73, 74, 75, 76, 77, 78, 79, 80, 81, 82, 83, 63, 84, 85, 86, 87] u).tmps.getD 70 undef = u 70 := fun u => frAll_eval (by decide) (by rw [hsz]; decide)
            have P70 : ∀ u v, (frAll a0 [64, 65, 66, 67, 68, 69, 70, 71, 72, 73, 74, 75, 76, 77, 78, 79, 80, 81, 82, 83, 63, 84, 85, 86, 87] u).put (some 70) v = frAll a0 [64, 65, 66, 67, 68, 69, 70, 71, 72, 73, 74, 75, 76, 77, 78, 79, 80, 81, 82, 83, 63, 84, 85, 86, 87] (frUpd u 70 v) := fun u v => frAll_put v (by decide)
            have E71 : ∀ u, (frAll a0 [64, 65, 66, 67, 68, 69, 70, 71, 72, 73, 74, 75, 76, 77, 78, 79, 80, 81, 82, 83, 63, 84, 85, 86, 87] u).tmps.getD 71 undef = u 71 := fun u => frAll_eval (by decide) (by rw [hsz]; decide)
            have P71 : ∀ u v, (frAll a0 [64, 65, 66, 67, 68, 69, 70, 71, 72, 73, 74, 75, 76, 77, 78, 79, 80, 81, 82, 83, 63, 84, 85, 86, 87] u).put (some 71) v = frAll a0 [64, 65, 66, 67, 68, 69, 70, 71, 72, 73, 74, 75, 76, 77, 78, 79, 80, 81, 82, 83, 63, 84, 85, 86, 87] (frUpd u 71 v) := fun u v => frAll_put v (by decide)
            have E72 : ∀ u, (frAll a0 [64, 65, 66, 67, 68, 69, 70, 71, 72, 73, 74, 75, 76, 77, 78, 79, 80, 81, 82, 83, 63, 84, 85, 86, 87] u).tmps.getD 72 undef = u 72 := fun u => frAll_eval (by decide) (by rw [hsz]; decide)
            have P72 : ∀ u v, (frAll a0 [64, 65, 66, 67, 68, 69, 70, 71, 72, 73, 74, 75, 76, 77, 78, 79, 80, 81, 82, 83, 63, 84, 85, 86, 87] u).put (some 72) v = frAll a0 [64, 65, 66, 67, 68, 69, 70, 71, 72, 73, 74, 75, 76, 77, 78, 79, 80, 81, 82, 83, 63, 84, 85, 86, 87] (frUpd u 72 v) := fun u v => frAll_put v (by decide)
            have E73 : ∀ u, (frAll a0 [64, 65, 66, 67, 68, 69, 70, 71, 72, 73, 74, 75, 76, 77, 78, 79, 80, 81, 82, 83, 63, 84, 85, 86, 87] u).tmps.getD 73 undef = u 73 := fun u => frAll_eval (by decide) (by rw [hsz]; decide)
            have P73 : ∀ u v, (frAll a0 [64, 65, 66, 67, 68, 69, 70, 71, 72, 73, 74, 75, 76, 77, 78, 79, 80, 81, 82, 83, 63, 84, 85, 86, 87] u).put (some 73) v = frAll a0 [64, 65, 66, 67, 68, 69, 70, 71, 72, 73, 74, 75, 76, 77, 78, 79, 80, 81, 82, 83, 63, 84, 85, 86, 87] (frUpd u 73 v) := fun u v => frAll_put v (by decide)
            have E74 : ∀ u, (frAll a0 [64, 65, 66, 67, 68, 69, 70, 71, 72, 73, 74, 75, 76, 77, 78, 79, 80, 81, 82, 83, 63, 84, 85, 86, 87] u).tmps.getD 74 undef = u 74 := fun u => frAll_eval (by decide) (by rw [hsz]; decide)
            have P74 : ∀ u v, (frAll a0 [64, 65, 66, 67, 68, 69, 70, 71, 72, 73, 74, 75, 76, 77, 78, 79, 80, 81, 82, 83, 63, 84, 85, 86, 87] u).put (some 74) v = frAll a0 [64, 65, 66, 67, 68, 69, 70, 71, 72, 73, 74, 75, 76, 77, 78, 79, 80, 81, 82, 83, 63, 84, 85, 86, 87] (frUpd u 74 v) := fun u v => frAll_put v (by decide)
            have E75 : ∀ u, (frAll a0 [64, 65, 66, 67, 68, 69, 70, 71, 72, 73, 74, 75, 76, 77, 78, 79, 80, 81, 82, 83, 63, 84, 85, 86, 87] u).tmps.getD 75 undef = u 75 := fun u => frAll_eval (by decide) (by rw [hsz]; decide)
            have P75 : ∀ u v, (frAll a0 [64, 65, 66, 67, 68, 69, 70, 71, 72, 73, 74, 75, 76, 77, 78, 79, 80, 81, 82, 83, 63, 84, 85, 86, 87] u).put (some 75) v = frAll a0 [64, 65, 66, 67, 68, 69, 70, 71, 72, 73, 74, 75, 76, 77, 78, 79, 80, 81, 82, 83, 63, 84, 85, 86, 87] (frUpd u 75 v) := fun u v => frAll_put v (by decide)
            have E76 : ∀ u, (frAll a0 [64, 65, 66, 67, 68, 69, 70, 71, 72, 73, 74, 75, 76, 77, 78, 79, 80, 81, 82, 83, 63, 84, 85, 86, 87] u).tmps.getD 76 undef = u 76 := fun u => frAll_eval (by decide) (by rw [hsz]; decide)
            have P76 : ∀ u v, (frAll a0 [64, 65, 66, 67, 68, 69, 70, 71, 72, 73, 74, 75, 76, 77, 78, 79, 80, 81, 82, 83, 63, 84, 85, 86, 87] u).put (some 76) v = frAll a0 [64, 65, 66, 67, 68, 69, 70, 71, 72, 73, 74, 75, 76, 77, 78, 79, 80, 81, 82, 83, 63, 84, 85, 86, 87] (frUpd u 76 v) := fun u v => frAll_put v (by decide)
            have E77 : ∀ u, (frAll a0 [64, 65, 66, 67, 68, 69, 70, 71, 72, 73, 74, 75, 76, 77, 78, 79, 80, 81, 82, 83, 63, 84, 85, 86, 87] u).tmps.getD 77 undef = u 77 := fun u => frAll_eval (by decide) (by rw [hsz]; decide)
            have P77 : ∀ u v, (frAll a0 [64, 65, 66, 67, 68, 69, 70, 71, 72, 73, 74, 75, 76, 77, 78, 79, 80, 81, 82, 83, 63, 84, 85, 86, 87] u).put (some 77) v = frAll a0 [64, 65, 66, 67, 68, 69, 70, 71, 72, 73, 74, 75, 76, 77, 78, 79, 80, 81, 82, 83, 63, 84, 85, 86, 87] (frUpd u 77 v) := fun u v => frAll_put v (by decide)
            have E78 : ∀ u, (frAll a0 [64, 65, 66, 67, 68, 69, 70, 71, 72, 73, 74, 75, 76, 77, 78, 79, 80, 81, 82, 83, 63, 84, 85, 86, 87] u).tmps.getD 78 undef = u 78 := fun u => frAll_eval (by decide) (by rw [hsz]; decide)
            have P78 : ∀ u v, (frAll a0 [64, 65, 66, 67, 68, 69, 70, 71, 72, 73, 74, 75, 76, 77, 78, 79, 80, 81, 82, 83, 63, 84, 85, 86, 87] u).put (some 78) v = frAll a0 [64, 65, 66, 67, 68, 69, 70, 71, 72, 73, 74, 75, 76, 77, 78, 79, 80, 81, 82, 83, 63, 84, 85, 86, 87] (frUpd u 78 v) := fun u v => frAll_put v (by decide)
            have E79 : ∀ u, (frAll a0 [64, 65, 66, 67, 68, 69, 70, 71, 72, 73, 74, 75, 76, 77, 78, 79, 80, 81, 82, 83, 63, 84, 85, 86, 87] u).tmps.getD 79 undef = u 79 := fun u => frAll_eval (by decide) (by rw [hsz]; decide)
            have P79 : ∀ u v, (frAll a0 [64, 65, 66, 67, 68, 69, 70, 71, 72, 73, 74, 75, 76, 77, 78, 79, 80, 81, 82, 83, 63, 84, 85, 86, 87] u).put (some 79) v = frAll a0 [64, 65, 66, 67, 68, 69, 70, 71, 72, 73, 74, 75, 76, 77, 78, 79, 80, 81, 82, 83, 63, 84, 85, 86, 87] (frUpd u 79 v) := fun u v => frAll_put v (by decide)
            have E80 : ∀ u, (frAll a0 [64, 65, 66, 67, 68, 69, 70, 71, 72, 73, 74, 75, 76, 77, 78, 79, 80, 81, 82, 83, 63, 84, 85, 86, 87] u).tmps.getD 80 undef = u 80 := fun u => frAll_eval (by decide) (by rw [hsz]; decide)
            have P80 : ∀ u v, (frAll a0 [64, 65, 66, 67, 68, 69, 70, 71, 72, 73, 74, 75, 76, 77, 78, 79, 80, 81, 82, 83, 63, 84, 85, 86, 87] u).put (some 80) v = frAll a0 [64, 65, 66, 67, 68, 69, 70, 71, 72, 73, 74, 75, 76, 77, 78, 79, 80, 81, 82, 83, 63, 84, 85, 86, 87] (frUpd u 80 v) := fun u v => frAll_put v (by decide)
            have E81 : ∀ u, (frAll a0 [64, 65, 66, 67, 68, 69, 70, 71, 72, 73, 74, 75, 76, 77, 78, 79, 80, 81, 82, 83, 63, 84, 85, 86, 87] u).tmps.getD 81 undef = u 81 := fun u => frAll_eval (by decide) (by rw [hsz]; decide)
            have P81 : ∀ u v, (frAll a0 [64, 65, 66, 67, 68, 69, 70, 71, 72, 73, 74, 75, 76, 77, 78, 79, 80, 81, 82, 83, 63, 84, 85, 86, 87] u).put (some 81) v = frAll a0 [64, 65, 66, 67, 68, 69, 70, 71, 72, 73, 74, 75, 76, 77, 78, 79, 80, 81, 82, 83, 63, 84, 85, 86, 87] (frUpd u 81 v) := fun u v => frAll_put v (by decide)
            have E82 : ∀ u, (frAll a0 [64, 65, 66, 67, 68, 69, 70, 71, 72, 73, 74, 75, 76, 77, 78, 79, 80, 81, 82, 83, 63, 84, 85, 86, 87] u).tmps.getD 82 undef = u 82 := fun u => frAll_eval (by decide) (by rw [hsz]; decide)
            have P82 : ∀ u v, (frAll a0 [64, 65, 66, 67, 68, 69, 70, 71, 72, 73, 74, 75, 76, 77, 78, 79, 80, 81, 82, 83, 63, 84, 85, 86, 87] u).put (some 82) v = frAll a0 [64, 65, 66, 67, 68, 69, 70, 71, 72, 73, 74, 75, 76, 77, 78, 79, 80, 81, 82, 83, 63, 84, 85, 86, 87] (frUpd u 82 v) := fun u v => frAll_put v (by decide)
            have E83 : ∀ u, (frAll a0 [64, 65, 66, 67, 68, 69, 70, 71, 72, 73, 74, 75, 76, 77, 78, 79, 80, 81, 82, 83, 63, 84, 85, 86, 87] u).tmps.getD 83 undef = u 83 := fun u => frAll_eval (by decide) (by rw [hsz]; decide)
            have P83 : ∀ u v, (frAll a0 [64, 65, 66, 67, 68, 69, 70, 71, 72, 73, 74, 75, 76, 77, 78, 79, 80, 81, 82, 83, 63, 84, 85, 86, 87] u).put (some 83) v = frAll a0 [64, 65, 66, 67, 68, 69, 70, 71, 72, 73, 74, 75, 76, 77, 78, 79, 80, 81, 82, 83, 63, 84, 85, 86, 87] (frUpd u 83 v) := fun u v => frAll_put v (by decide)
            have E63 : ∀ u, (frAll a0 [64, 65, 66, 67, 68, 69, 70, 71, 72, 73, 74, 75, 76, 77, 78, 79, 80, 81, 82, 83, 63, 84, 85, 86, 87] u).tmps.getD 63 undef = u 63 := fun u => frAll_eval (by decide) (by rw [hsz]; decide)
            have P63 : ∀ u v, (frAll a0 [64, 65, 66, 67, 68, 69, 70, 71, 72, 73, 74, 75, 76, 77, 78, 79, 80, 81, 82, 83, 63, 84, 85, 86, 87] u).put (some 63) v = frAll a0 [64, 65, 66, 67, 68, 69, 70, 71, 72, 73, 74, 75, 76, 77, 78, 79, 80, 81, 82, 83, 63, 84, 85, 86, 87] (frUpd u 63 v) := fun u v => frAll_put v (by decide)
            have E84 : ∀ u, (frAll a0 [64, 65, 66, 67, 68, 69, 70, 71, 72, 73, 74, 75, 76, 77, 78, 79, 80, 81, 82, 83, 63, 84, 85, 86, 87] u).tmps.getD 84 undef = u 84 := fun u => frAll_eval (by decide) (by rw [hsz]; decide)
            have P84 : ∀ u v, (frAll a0 [64, 65, 66, 67, 68, 69, 70, 71, 72, 73, 74, 75, 76, 77, 78, 79, 80, 81, 82, 83, 63, 84, 85, 86, 87] u).put (some 84) v = frAll a0 [64, 65, 66, 67, 68, 69, 70, 71, 72, 73, 74, 75, 76, 77, 78, 79, 80, 81, 82, 83, 63, 84, 85, 86, 87] (frUpd u 84 v) := fun u v => frAll_put v (by decide)
            have E85 : ∀ u, (frAll a0 [64, 65, 66, 67, 68, 69, 70, 71, 72, 73, 74, 75, 76, 77, 78, 79, 80, 81, 82, 83, 63, 84, 85, 86, 87] u).tmps.getD 85 undef = u 85 := fun u => frAll_eval (by decide) (by rw [hsz]; decide)
            have P85 : ∀ u v, (frAll a0 [64, 65, 66, 67, 68, 69, 70, 71, 72, 73, 74, 75, 76, 77, 78, 79, 80, 81, 82, 83, 63, 84, 85, 86, 87] u).put (some 85) v = frAll a0 [64, 65, 66, 67, 68, 69, 70, 71, 72, 73, 74, 75, 76, 77, 78, 79, 80, 81, 82, 83, 63, 84, 85, 86, 87] (frUpd u 85 v) := fun u v => frAll_put v (by decide)
            have E86 : ∀ u, (frAll a0 [64, 65, 66, 67, 68, 69, 70, 71, 72, 73, 74, 75, 76, 77, 78, 79, 80, 81, 82, 83, 63, 84, 85, 86, 87] u).tmps.getD 86 undef = u 86 := fun u => frAll_eval (by decide) (by rw [hsz]; decide)
            have P86 : ∀ u v, (frAll a0 [64, 65, 66, 67, 68, 69, 70, 71, 72, 73, 74, 75, 76, 77, 78, 79, 80, 81, 82, 83, 63, 84, 85, 86, 87] u).put (some 86) v = frAll a0 [64, 65, 66, 67, 68, 69, 70, 71, 72, 73, 74, 75, 76, 77, 78, 79, 80, 81, 82, 83, 63, 84, 85, 86, 87] (frUpd u 86 v) := fun u v => frAll_put v (by decide)
            have E87 : ∀ u, (frAll a0 [64, 65, 66, 67, 68, 69, 70, 71, 72, 73, 74, 75, 76, 77, 78, 79, 80, 81, 82, 83, 63, 84, 85, 86, 87] u).tmps.getD 87 undef = u 87 := fun u => frAll_eval (by decide) (by rw [hsz]; decide)
            have P87 : ∀ u v, (frAll a0 [64, 65, 66, 67, 68, 69, 70, 71, 72, 73, 74, 75, 76, 77, 78, 79, 80, 81, 82, 83, 63, 84, 85, 86, 87] u).put (some 87) v = frAll a0 [64, 65, 66, 67, 68, 69, 70, 71, 72, 73, 74, 75, 76, 77, 78, 79, 80, 81, 82, 83, 63, 84, 85, 86, 87] (frUpd u 87 v) := fun u v => frAll_put v (by decide)
            replace ha0 := Lib.hid ha0
            refine wp_region_frame [64, 65, 66, 67, 68, 69, 70, 71, 72, 73, 74, 75, 76, 77, 78, 79, 80, 81, 82, 83, 63, 84, 85, 86, 87] (fun D u wv => ∃ (vso : Option Addr) (vsc : Nat), Hid (D 0 → u 64 = .pointer (some ⟨g10, 0, none⟩)) ∧ Hid (D 1 → u 65 = .pointer (some ⟨g10, 2, none⟩)) ∧ Hid (D 2 → u 66 = .agg #[y.m.e]) ∧ Hid (D 3 → u 67 = .slice (some ⟨gsp, 0, none⟩) sp.length scp) ∧ Hid (D 4 → u 68 = .int .i64 (q : Int)) ∧ Hid (D 5 → u 69 = .pointer (some ⟨gsp, q * 3, none⟩)) ∧ Hid (D 6 → u 70 = .pointer (some ⟨gsp, q * 3, none⟩)) ∧ Hid (D 7 → u 71 = .int .i64 (p : Int)) ∧ Hid (D 8 → u 72 = .pointer (some ⟨g10, 0, none⟩)) ∧ Hid (D 9 → u 73 = .pointer (some ⟨g10, 2, none⟩)) ∧ Hid (D 10 → u 74 = .agg #[y.m.e]) ∧ Hid (D 11 → u 75 = .slice (some ⟨gsp, 0, none⟩) sp.length scp) ∧ Hid (D 12 → u 76 = .int .i64 (q : Int)) ∧ Hid (D 13 → u 77 = .pointer (some ⟨gsp, q * 3, none⟩)) ∧ Hid (D 14 → u 78 = .pointer (some ⟨gsp, q * 3, none⟩)) ∧ Hid (D 15 → u 79 = .int .i64 (p : Int)) ∧ Hid (D 16 → u 80 = .agg #[.int .i64 en.m, .int .i64 en.f]) ∧ Hid (D 17 → u 81 = .int .i64 en.f) ∧ Hid (D 18 → u 82 = .agg #[.int .i64 2, .int .i64 en.f]) ∧ Hid (D 19 → u 83 = .tuple #[.agg #[(.slice vso K.m.ents.length vsc)], .bool true]) ∧ Hid (D 20 → u 63 = .tuple #[.agg #[(.slice vso K.m.ents.length vsc)], .bool true]) ∧ Hid (D 21 → u 84 = .agg #[(.slice vso K.m.ents.length vsc)]) ∧ Hid (D 22 → u 85 = .bool true) ∧ Hid (D 23 → u 86 = .pointer (some ⟨g10, 0, none⟩)) ∧ Hid (D 24 → u 87 = .pointer (some ⟨g10, 2, none⟩)) ∧ Hid (¬ D 25 → Below w1.heap.size w1 wv) ∧ Hid (Touch [g10] w1 wv) ∧ Hid (D 19 → OwnEnt w1.heap.size wv (.slice vso K.m.ents.length vsc) (K.m.ents.set p ⟨2, en.f⟩)) ∧ Hid (D 25 → KIn n0 wv g10 ⟨⟨y.m.f, (.slice vso K.m.ents.length vsc)⟩, y.r⟩ ⟨⟨K.m.f, (K.m.ents.set p ⟨2, en.f⟩)⟩, K.calls, K.refuse⟩)) (by kernel_rfl) (by kernel_rfl) ?_ ?_ ?_
            · exact ⟨default, default, Lib.hid (fun h => h.elim), Lib.hid (fun h => h.elim), Lib.hid (fun h => h.elim), Lib.hid (fun h => h.elim), Lib.hid (fun h => h.elim), Lib.hid (fun h => h.elim), Lib.hid (fun h => h.elim), Lib.hid (fun h => h.elim), Lib.hid (fun h => h.elim), Lib.hid (fun h => h.elim), Lib.hid (fun h => h.elim), Lib.hid (fun h => h.elim), Lib.hid (fun h => h.elim), Lib.hid (fun h => h.elim), Lib.hid (fun h => h.elim), Lib.hid (fun h => h.elim), Lib.hid (fun h => h.elim), Lib.hid (fun h => h.elim), Lib.hid (fun h => h.elim), Lib.hid (fun h => h.elim), Lib.hid (fun h => h.elim), Lib.hid (fun h => h.elim), Lib.hid (fun h => h.elim), Lib.hid (fun h => h.elim), Lib.hid (fun h => h.elim), Lib.hid (fun _ => Below.drew (Below.refl _ _)), Lib.hid (touch_of_below (Below.drew (Below.refl _ _)) _), Lib.hid (fun h => h.elim), Lib.hid (fun h => h.elim)⟩
            · rintro D u wv ⟨vso, vsc, U0, U1, U2, U3, U4, U5, U6, U7, U8, U9, U10, U11, U12, U13, U14, U15, U16, U17, U18, U19, U20, U21, U22, U23, U24, F1, F2, F4, F6⟩ hcl i hi hn hw
              have hi9 : i < 26 := hi; clear hi
              replace hcl := Lib.hid hcl; replace hw := Lib.hid hw
              rcases (by omega : i = 0 ∨ i = 1 ∨ i = 2 ∨ i = 3 ∨ i = 4 ∨ i = 5 ∨ i = 6 ∨ i = 7 ∨ i = 8 ∨ i = 9 ∨ i = 10 ∨ i = 11 ∨ i = 12 ∨ i = 13 ∨ i = 14 ∨ i = 15 ∨ i = 16 ∨ i = 17 ∨ i = 18 ∨ i = 19 ∨ i = 20 ∨ i = 21 ∨ i = 22 ∨ i = 23 ∨ i = 24 ∨ i = 25) with rfl | rfl | rfl | rfl | rfl | rfl | rfl | rfl | rfl | rfl | rfl | rfl | rfl | rfl | rfl | rfl | rfl | rfl | rfl | rfl | rfl | rfl | rfl | rfl | rfl | rfl
              · skip
                refine wpOp_step (o := _) rfl (fun KK hKK => ?_)
                rw [if_pos (wanted_nil _ rfl)]
                have E10_ := X10 u
                go_simp
                exact hKK _ _ ⟨_, P64 u _, vso, vsc, Lib.hid (fun _ => frUpd_self), (_root_.Go.Proofs.Ytobechjagckdfaa.u10 U1), (_root_.Go.Proofs.Ytobechjagckdfaa.u10 U2), (_root_.Go.Proofs.Ytobechjagckdfaa.u10 U3), (_root_.Go.Proofs.Ytobechjagckdfaa.u10 U4), (_root_.Go.Proofs.Ytobechjagckdfaa.u10 U5), (_root_.Go.Proofs.Ytobechjagckdfaa.u10 U6), (_root_.Go.Proofs.Ytobechjagckdfaa.u10 U7), (_root_.Go.Proofs.Ytobechjagckdfaa.u10 U8), (_root_.Go.Proofs.Ytobechjagckdfaa.u10 U9), (_root_.Go.Proofs.Ytobechjagckdfaa.u10 U10), (_root_.Go.Proofs.Ytobechjagckdfaa.u10 U11), (_root_.Go.Proofs.Ytobechjagckdfaa.u10 U12), (_root_.Go.Proofs.Ytobechjagckdfaa.u10 U13), (_root_.Go.Proofs.Ytobechjagckdfaa.u10 U14), (_root_.Go.Proofs.Ytobechjagckdfaa.u10 U15), (_root_.Go.Proofs.Ytobechjagckdfaa.u10 U16), (_root_.Go.Proofs.Ytobechjagckdfaa.u10 U17), (_root_.Go.Proofs.Ytobechjagckdfaa.u10 U18), (_root_.Go.Proofs.Ytobechjagckdfaa.u10 U19), (_root_.Go.Proofs.Ytobechjagckdfaa.u10 U20), (_root_.Go.Proofs.Ytobechjagckdfaa.u10 U21), (_root_.Go.Proofs.Ytobechjagckdfaa.u10 U22), (_root_.Go.Proofs.Ytobechjagckdfaa.u10 U23), (_root_.Go.Proofs.Ytobechjagckdfaa.u10 U24), Lib.hid (fun m => F1.out (fun h => m (addD_mem h))), F2, (_root_.Go.Proofs.Ytobechjagckdfaa.k10 F4), (_root_.Go.Proofs.Ytobechjagckdfaa.k10 F6)⟩
              · skip
                refine wpOp_step (o := _) rfl (fun KK hKK => ?_)
                rw [if_pos (wanted_nil _ rfl)]
                have e64 := U0.out (hw.out 0 (by kernel_rfl)); have E64_ := (E64 u).trans e64
                go_simp
                exact hKK _ _ ⟨_, P65 u _, vso, vsc, (_root_.Go.Proofs.Ytobechjagckdfaa.u10 U0), Lib.hid (fun _ => frUpd_self), (_root_.Go.Proofs.Ytobechjagckdfaa.u10 U2), (_root_.Go.Proofs.Ytobechjagckdfaa.u10 U3), (_root_.Go.Proofs.Ytobechjagckdfaa.u10 U4), (_root_.Go.Proofs.Ytobechjagckdfaa.u10 U5), (_root_.Go.Proofs.Ytobechjagckdfaa.u10 U6), (_root_.Go.Proofs.Ytobechjagckdfaa.u10 U7), (_root_.Go.Proofs.Ytobechjagckdfaa.u10 U8), (_root_.Go.Proofs.Ytobechjagckdfaa.u10 U9), (_root_.Go.Proofs.Ytobechjagckdfaa.u10 U10), (_root_.Go.Proofs.Ytobechjagckdfaa.u10 U11), (_root_.Go.Proofs.Ytobechjagckdfaa.u10 U12), (_root_.Go.Proofs.Ytobechjagckdfaa.u10 U13), (_root_.Go.Proofs.Ytobechjagckdfaa.u10 U14), (_root_.Go.Proofs.Ytobechjagckdfaa.u10 U15), (_root_.Go.Proofs.Ytobechjagckdfaa.u10 U16), (_root_.Go.Proofs.Ytobechjagckdfaa.u10 U17), (_root_.Go.Proofs.Ytobechjagckdfaa.u10 U18), (_root_.Go.Proofs.Ytobechjagckdfaa.u10 U19), (_root_.Go.Proofs.Ytobechjagckdfaa.u10 U20), (_root_.Go.Proofs.Ytobechjagckdfaa.u10 U21), (_root_.Go.Proofs.Ytobechjagckdfaa.u10 U22), (_root_.Go.Proofs.Ytobechjagckdfaa.u10 U23), (_root_.Go.Proofs.Ytobechjagckdfaa.u10 U24), Lib.hid (fun m => F1.out (fun h => m (addD_mem h))), F2, (_root_.Go.Proofs.Ytobechjagckdfaa.k10 F4), (_root_.Go.Proofs.Ytobechjagckdfaa.k10 F6)⟩
              · skip
                refine wpOp_step (o := _) rfl (fun KK hKK => ?_)
                rw [if_pos (wanted_nil _ rfl)]
                have hz : ¬ D 25 := fun h => hn (hcl.out 19 2 (by kernel_rfl) (hcl.out 20 19 (by kernel_rfl) (hcl.out 21 20 (by kernel_rfl) (hcl.out 25 21 (by kernel_rfl) h))))
                have KI : Hid (KIn n0 wv g10 y K) := Lib.hid (HK.out.below (F1.out hz))
                have hbx := KI.out.box; have c2 := hbx.c2; have f2 := hbx.f2; have xg := hbx.lt; clear hbx
                have e65 := U1.out (hw.out 1 (by kernel_rfl)); have E65_ := (E65 u).trans e65
                go_simp
                exact hKK _ _ ⟨_, P66 u _, vso, vsc, (_root_.Go.Proofs.Ytobechjagckdfaa.u10 U0), (_root_.Go.Proofs.Ytobechjagckdfaa.u10 U1), Lib.hid (fun _ => frUpd_self), (_root_.Go.Proofs.Ytobechjagckdfaa.u10 U3), (_root_.Go.Proofs.Ytobechjagckdfaa.u10 U4), (_root_.Go.Proofs.Ytobechjagckdfaa.u10 U5), (_root_.Go.Proofs.Ytobechjagckdfaa.u10 U6), (_root_.Go.Proofs.Ytobechjagckdfaa.u10 U7), (_root_.Go.Proofs.Ytobechjagckdfaa.u10 U8), (_root_.Go.Proofs.Ytobechjagckdfaa.u10 U9), (_root_.Go.Proofs.Ytobechjagckdfaa.u10 U10), (_root_.Go.Proofs.Ytobechjagckdfaa.u10 U11), (_root_.Go.Proofs.Ytobechjagckdfaa.u10 U12), (_root_.Go.Proofs.Ytobechjagckdfaa.u10 U13), (_root_.Go.Proofs.Ytobechjagckdfaa.u10 U14), (_root_.Go.Proofs.Ytobechjagckdfaa.u10 U15), (_root_.Go.Proofs.Ytobechjagckdfaa.u10 U16), (_root_.Go.Proofs.Ytobechjagckdfaa.u10 U17), (_root_.Go.Proofs.Ytobechjagckdfaa.u10 U18), (_root_.Go.Proofs.Ytobechjagckdfaa.u10 U19), (_root_.Go.Proofs.Ytobechjagckdfaa.u10 U20), (_root_.Go.Proofs.Ytobechjagckdfaa.u10 U21), (_root_.Go.Proofs.Ytobechjagckdfaa.u10 U22), (_root_.Go.Proofs.Ytobechjagckdfaa.u10 U23), (_root_.Go.Proofs.Ytobechjagckdfaa.u10 U24), Lib.hid (fun m => F1.out (fun h => m (addD_mem h))), F2, (_root_.Go.Proofs.Ytobechjagckdfaa.k10 F4), (_root_.Go.Proofs.Ytobechjagckdfaa.k10 F6)⟩
              · skip
                refine wpOp_step (o := _) rfl (fun KK hKK => ?_)
                rw [if_pos (wanted_nil _ rfl)]
                have E4_ := X4 u
                go_simp
                exact hKK _ _ ⟨_, P67 u _, vso, vsc, (_root_.Go.Proofs.Ytobechjagckdfaa.u10 U0), (_root_.Go.Proofs.Ytobechjagckdfaa.u10 U1), (_root_.Go.Proofs.Ytobechjagckdfaa.u10 U2), Lib.hid (fun _ => frUpd_self), (_root_.Go.Proofs.Ytobechjagckdfaa.u10 U4), (_root_.Go.Proofs.Ytobechjagckdfaa.u10 U5), (_root_.Go.Proofs.Ytobechjagckdfaa.u10 U6), (_root_.Go.Proofs.Ytobechjagckdfaa.u10 U7), (_root_.Go.Proofs.Ytobechjagckdfaa.u10 U8), (_root_.Go.Proofs.Ytobechjagckdfaa.u10 U9), (_root_.Go.Proofs.Ytobechjagckdfaa.u10 U10), (_root_.Go.Proofs.Ytobechjagckdfaa.u10 U11), (_root_.Go.Proofs.Ytobechjagckdfaa.u10 U12), (_root_.Go.Proofs.Ytobechjagckdfaa.u10 U13), (_root_.Go.Proofs.Ytobechjagckdfaa.u10 U14), (_root_.Go.Proofs.Ytobechjagckdfaa.u10 U15), (_root_.Go.Proofs.Ytobechjagckdfaa.u10 U16), (_root_.Go.Proofs.Ytobechjagckdfaa.u10 U17), (_root_.Go.Proofs.Ytobechjagckdfaa.u10 U18), (_root_.Go.Proofs.Ytobechjagckdfaa.u10 U19), (_root_.Go.Proofs.Ytobechjagckdfaa.u10 U20), (_root_.Go.Proofs.Ytobechjagckdfaa.u10 U21), (_root_.Go.Proofs.Ytobechjagckdfaa.u10 U22), (_root_.Go.Proofs.Ytobechjagckdfaa.u10 U23), (_root_.Go.Proofs.Ytobechjagckdfaa.u10 U24), Lib.hid (fun m => F1.out (fun h => m (addD_mem h))), F2, (_root_.Go.Proofs.Ytobechjagckdfaa.k10 F4), (_root_.Go.Proofs.Ytobechjagckdfaa.k10 F6)⟩
              · skip
                refine wpOp_step (o := _) rfl (fun KK hKK => ?_)
                rw [if_pos (wanted_nil _ rfl)]
                have E13_ := X13 u
                go_simp
                exact hKK _ _ ⟨_, P68 u _, vso, vsc, (_root_.Go.Proofs.Ytobechjagckdfaa.u10 U0), (_root_.Go.Proofs.Ytobechjagckdfaa.u10 U1), (_root_.Go.Proofs.Ytobechjagckdfaa.u10 U2), (_root_.Go.Proofs.Ytobechjagckdfaa.u10 U3), Lib.hid (fun _ => frUpd_self), (_root_.Go.Proofs.Ytobechjagckdfaa.u10 U5), (_root_.Go.Proofs.Ytobechjagckdfaa.u10 U6), (_root_.Go.Proofs.Ytobechjagckdfaa.u10 U7), (_root_.Go.Proofs.Ytobechjagckdfaa.u10 U8), (_root_.Go.Proofs.Ytobechjagckdfaa.u10 U9), (_root_.Go.Proofs.Ytobechjagckdfaa.u10 U10), (_root_.Go.Proofs.Ytobechjagckdfaa.u10 U11), (_root_.Go.Proofs.Ytobechjagckdfaa.u10 U12), (_root_.Go.Proofs.Ytobechjagckdfaa.u10 U13), (_root_.Go.Proofs.Ytobechjagckdfaa.u10 U14), (_root_.Go.Proofs.Ytobechjagckdfaa.u10 U15), (_root_.Go.Proofs.Ytobechjagckdfaa.u10 U16), (_root_.Go.Proofs.Ytobechjagckdfaa.u10 U17), (_root_.Go.Proofs.Ytobechjagckdfaa.u10 U18), (_root_.Go.Proofs.Ytobechjagckdfaa.u10 U19), (_root_.Go.Proofs.Ytobechjagckdfaa.u10 U20), (_root_.Go.Proofs.Ytobechjagckdfaa.u10 U21), (_root_.Go.Proofs.Ytobechjagckdfaa.u10 U22), (_root_.Go.Proofs.Ytobechjagckdfaa.u10 U23), (_root_.Go.Proofs.Ytobechjagckdfaa.u10 U24), Lib.hid (fun m => F1.out (fun h => m (addD_mem h))), F2, (_root_.Go.Proofs.Ytobechjagckdfaa.k10 F4), (_root_.Go.Proofs.Ytobechjagckdfaa.k10 F6)⟩
              · skip
                refine wpOp_step (o := _) rfl (fun KK hKK => ?_)
                rw [if_pos (wanted_nil _ rfl)]
                have e67 := U3.out (hw.out 3 (by kernel_rfl)); have E67_ := (E67 u).trans e67
                have e68 := U4.out (hw.out 4 (by kernel_rfl)); have E68_ := (E68 u).trans e68
                have b1 := HQL.out
                go_simp
                exact hKK _ _ ⟨_, P69 u _, vso, vsc, (_root_.Go.Proofs.Ytobechjagckdfaa.u10 U0), (_root_.Go.Proofs.Ytobechjagckdfaa.u10 U1), (_root_.Go.Proofs.Ytobechjagckdfaa.u10 U2), (_root_.Go.Proofs.Ytobechjagckdfaa.u10 U3), (_root_.Go.Proofs.Ytobechjagckdfaa.u10 U4), Lib.hid (fun _ => frUpd_self), (_root_.Go.Proofs.Ytobechjagckdfaa.u10 U6), (_root_.Go.Proofs.Ytobechjagckdfaa.u10 U7), (_root_.Go.Proofs.Ytobechjagckdfaa.u10 U8), (_root_.Go.Proofs.Ytobechjagckdfaa.u10 U9), (_root_.Go.Proofs.Ytobechjagckdfaa.u10 U10), (_root_.Go.Proofs.Ytobechjagckdfaa.u10 U11), (_root_.Go.Proofs.Ytobechjagckdfaa.u10 U12), (_root_.Go.Proofs.Ytobechjagckdfaa.u10 U13), (_root_.Go.Proofs.Ytobechjagckdfaa.u10 U14), (_root_.Go.Proofs.Ytobechjagckdfaa.u10 U15), (_root_.Go.Proofs.Ytobechjagckdfaa.u10 U16), (_root_.Go.Proofs.Ytobechjagckdfaa.u10 U17), (_root_.Go.Proofs.Ytobechjagckdfaa.u10 U18), (_root_.Go.Proofs.Ytobechjagckdfaa.u10 U19), (_root_.Go.Proofs.Ytobechjagckdfaa.u10 U20), (_root_.Go.Proofs.Ytobechjagckdfaa.u10 U21), (_root_.Go.Proofs.Ytobechjagckdfaa.u10 U22), (_root_.Go.Proofs.Ytobechjagckdfaa.u10 U23), (_root_.Go.Proofs.Ytobechjagckdfaa.u10 U24), Lib.hid (fun m => F1.out (fun h => m (addD_mem h))), F2, (_root_.Go.Proofs.Ytobechjagckdfaa.k10 F4), (_root_.Go.Proofs.Ytobechjagckdfaa.k10 F6)⟩
              · skip
                refine wpOp_step (o := _) rfl (fun KK hKK => ?_)
                rw [if_pos (wanted_nil _ rfl)]
                have e69 := U5.out (hw.out 5 (by kernel_rfl)); have E69_ := (E69 u).trans e69
                go_simp
                exact hKK _ _ ⟨_, P70 u _, vso, vsc, (_root_.Go.Proofs.Ytobechjagckdfaa.u10 U0), (_root_.Go.Proofs.Ytobechjagckdfaa.u10 U1), (_root_.Go.Proofs.Ytobechjagckdfaa.u10 U2), (_root_.Go.Proofs.Ytobechjagckdfaa.u10 U3), (_root_.Go.Proofs.Ytobechjagckdfaa.u10 U4), (_root_.Go.Proofs.Ytobechjagckdfaa.u10 U5), Lib.hid (fun _ => frUpd_self), (_root_.Go.Proofs.Ytobechjagckdfaa.u10 U7), (_root_.Go.Proofs.Ytobechjagckdfaa.u10 U8), (_root_.Go.Proofs.Ytobechjagckdfaa.u10 U9), (_root_.Go.Proofs.Ytobechjagckdfaa.u10 U10), (_root_.Go.Proofs.Ytobechjagckdfaa.u10 U11), (_root_.Go.Proofs.Ytobechjagckdfaa.u10 U12), (_root_.Go.Proofs.Ytobechjagckdfaa.u10 U13), (_root_.Go.Proofs.Ytobechjagckdfaa.u10 U14), (_root_.Go.Proofs.Ytobechjagckdfaa.u10 U15), (_root_.Go.Proofs.Ytobechjagckdfaa.u10 U16), (_root_.Go.Proofs.Ytobechjagckdfaa.u10 U17), (_root_.Go.Proofs.Ytobechjagckdfaa.u10 U18), (_root_.Go.Proofs.Ytobechjagckdfaa.u10 U19), (_root_.Go.Proofs.Ytobechjagckdfaa.u10 U20), (_root_.Go.Proofs.Ytobechjagckdfaa.u10 U21), (_root_.Go.Proofs.Ytobechjagckdfaa.u10 U22), (_root_.Go.Proofs.Ytobechjagckdfaa.u10 U23), (_root_.Go.Proofs.Ytobechjagckdfaa.u10 U24), Lib.hid (fun m => F1.out (fun h => m (addD_mem h))), F2, (_root_.Go.Proofs.Ytobechjagckdfaa.k10 F4), (_root_.Go.Proofs.Ytobechjagckdfaa.k10 F6)⟩
              · skip
                refine wpOp_step (o := _) rfl (fun KK hKK => ?_)
                rw [if_pos (wanted_nil _ rfl)]
                have hz : ¬ D 25 := fun h => hn (hcl.out 19 7 (by kernel_rfl) (hcl.out 20 19 (by kernel_rfl) (hcl.out 21 20 (by kernel_rfl) (hcl.out 25 21 (by kernel_rfl) h))))
                have KI : Hid (KIn n0 wv g10 y K) := Lib.hid (HK.out.below (F1.out hz))
                have e70 := U6.out (hw.out 6 (by kernel_rfl)); have E70_ := (E70 u).trans e70
                have cx : wv.cell? ⟨gsp, q * 3, none⟩ = some (.int .i64 (p : Int)) := (F2.out.cell HGX.out.1 HGX.out.2).trans HCX.out
                go_simp
                exact hKK _ _ ⟨_, P71 u _, vso, vsc, (_root_.Go.Proofs.Ytobechjagckdfaa.u10 U0), (_root_.Go.Proofs.Ytobechjagckdfaa.u10 U1), (_root_.Go.Proofs.Ytobechjagckdfaa.u10 U2), (_root_.Go.Proofs.Ytobechjagckdfaa.u10 U3), (_root_.Go.Proofs.Ytobechjagckdfaa.u10 U4), (_root_.Go.Proofs.Ytobechjagckdfaa.u10 U5), (_root_.Go.Proofs.Ytobechjagckdfaa.u10 U6), Lib.hid (fun _ => frUpd_self), (_root_.Go.Proofs.Ytobechjagckdfaa.u10 U8), (_root_.Go.Proofs.Ytobechjagckdfaa.u10 U9), (_root_.Go.Proofs.Ytobechjagckdfaa.u10 U10), (_root_.Go.Proofs.Ytobechjagckdfaa.u10 U11), (_root_.Go.Proofs.Ytobechjagckdfaa.u10 U12), (_root_.Go.Proofs.Ytobechjagckdfaa.u10 U13), (_root_.Go.Proofs.Ytobechjagckdfaa.u10 U14), (_root_.Go.Proofs.Ytobechjagckdfaa.u10 U15), (_root_.Go.Proofs.Ytobechjagckdfaa.u10 U16), (_root_.Go.Proofs.Ytobechjagckdfaa.u10 U17), (_root_.Go.Proofs.Ytobechjagckdfaa.u10 U18), (_root_.Go.Proofs.Ytobechjagckdfaa.u10 U19), (_root_.Go.Proofs.Ytobechjagckdfaa.u10 U20), (_root_.Go.Proofs.Ytobechjagckdfaa.u10 U21), (_root_.Go.Proofs.Ytobechjagckdfaa.u10 U22), (_root_.Go.Proofs.Ytobechjagckdfaa.u10 U23), (_root_.Go.Proofs.Ytobechjagckdfaa.u10 U24), Lib.hid (fun m => F1.out (fun h => m (addD_mem h))), F2, (_root_.Go.Proofs.Ytobechjagckdfaa.k10 F4), (_root_.Go.Proofs.Ytobechjagckdfaa.k10 F6)⟩
              · skip
                refine wpOp_step (o := _) rfl (fun KK hKK => ?_)
                rw [if_pos (wanted_nil _ rfl)]
                have E10_ := X10 u
                go_simp
                exact hKK _ _ ⟨_, P72 u _, vso, vsc, (_root_.Go.Proofs.Ytobechjagckdfaa.u10 U0), (_root_.Go.Proofs.Ytobechjagckdfaa.u10 U1), (_root_.Go.Proofs.Ytobechjagckdfaa.u10 U2), (_root_.Go.Proofs.Ytobechjagckdfaa.u10 U3), (_root_.Go.Proofs.Ytobechjagckdfaa.u10 U4), (_root_.Go.Proofs.Ytobechjagckdfaa.u10 U5), (_root_.Go.Proofs.Ytobechjagckdfaa.u10 U6), (_root_.Go.Proofs.Ytobechjagckdfaa.u10 U7), Lib.hid (fun _ => frUpd_self), (_root_.Go.Proofs.Ytobechjagckdfaa.u10 U9), (_root_.Go.Proofs.Ytobechjagckdfaa.u10 U10), (_root_.Go.Proofs.Ytobechjagckdfaa.u10 U11), (_root_.Go.Proofs.Ytobechjagckdfaa.u10 U12), (_root_.Go.Proofs.Ytobechjagckdfaa.u10 U13), (_root_.Go.Proofs.Ytobechjagckdfaa.u10 U14), (_root_.Go.Proofs.Ytobechjagckdfaa.u10 U15), (_root_.Go.Proofs.Ytobechjagckdfaa.u10 U16), (_root_.Go.Proofs.Ytobechjagckdfaa.u10 U17), (_root_.Go.Proofs.Ytobechjagckdfaa.u10 U18), (_root_.Go.Proofs.Ytobechjagckdfaa.u10 U19), (_root_.Go.Proofs.Ytobechjagckdfaa.u10 U20), (_root_.Go.Proofs.Ytobechjagckdfaa.u10 U21), (_root_.Go.Proofs.Ytobechjagckdfaa.u10 U22), (_root_.Go.Proofs.Ytobechjagckdfaa.u10 U23), (_root_.Go.Proofs.Ytobechjagckdfaa.u10 U24), Lib.hid (fun m => F1.out (fun h => m (addD_mem h))), F2, (_root_.Go.Proofs.Ytobechjagckdfaa.k10 F4), (_root_.Go.Proofs.Ytobechjagckdfaa.k10 F6)⟩
              · skip
                refine wpOp_step (o := _) rfl (fun KK hKK => ?_)
                rw [if_pos (wanted_nil _ rfl)]
                have e72 := U8.out (hw.out 8 (by kernel_rfl)); have E72_ := (E72 u).trans e72
                go_simp
                exact hKK _ _ ⟨_, P73 u _, vso, vsc, (_root_.Go.Proofs.Ytobechjagckdfaa.u10 U0), (_root_.Go.Proofs.Ytobechjagckdfaa.u10 U1), (_root_.Go.Proofs.Ytobechjagckdfaa.u10 U2), (_root_.Go.Proofs.Ytobechjagckdfaa.u10 U3), (_root_.Go.Proofs.Ytobechjagckdfaa.u10 U4), (_root_.Go.Proofs.Ytobechjagckdfaa.u10 U5), (_root_.Go.Proofs.Ytobechjagckdfaa.u10 U6), (_root_.Go.Proofs.Ytobechjagckdfaa.u10 U7), (_root_.Go.Proofs.Ytobechjagckdfaa.u10 U8), Lib.hid (fun _ => frUpd_self), (_root_.Go.Proofs.Ytobechjagckdfaa.u10 U10), (_root_.Go.Proofs.Ytobechjagckdfaa.u10 U11), (_root_.Go.Proofs.Ytobechjagckdfaa.u10 U12), (_root_.Go.Proofs.Ytobechjagckdfaa.u10 U13), (_root_.Go.Proofs.Ytobechjagckdfaa.u10 U14), (_root_.Go.Proofs.Ytobechjagckdfaa.u10 U15), (_root_.Go.Proofs.Ytobechjagckdfaa.u10 U16), (_root_.Go.Proofs.Ytobechjagckdfaa.u10 U17), (_root_.Go.Proofs.Ytobechjagckdfaa.u10 U18), (_root_.Go.Proofs.Ytobechjagckdfaa.u10 U19), (_root_.Go.Proofs.Ytobechjagckdfaa.u10 U20), (_root_.Go.Proofs.Ytobechjagckdfaa.u10 U21), (_root_.Go.Proofs.Ytobechjagckdfaa.u10 U22), (_root_.Go.Proofs.Ytobechjagckdfaa.u10 U23), (_root_.Go.Proofs.Ytobechjagckdfaa.u10 U24), Lib.hid (fun m => F1.out (fun h => m (addD_mem h))), F2, (_root_.Go.Proofs.Ytobechjagckdfaa.k10 F4), (_root_.Go.Proofs.Ytobechjagckdfaa.k10 F6)⟩
              · skip
                refine wpOp_step (o := _) rfl (fun KK hKK => ?_)
                rw [if_pos (wanted_nil _ rfl)]
                have hz : ¬ D 25 := fun h => hn (hcl.out 16 10 (by kernel_rfl) (hcl.out 17 16 (by kernel_rfl) (hcl.out 18 17 (by kernel_rfl) (hcl.out 19 18 (by kernel_rfl) (hcl.out 20 19 (by kernel_rfl) (hcl.out 21 20 (by kernel_rfl) (hcl.out 25 21 (by kernel_rfl) h)))))))
                have KI : Hid (KIn n0 wv g10 y K) := Lib.hid (HK.out.below (F1.out hz))
                have hbx := KI.out.box; have c2 := hbx.c2; have f2 := hbx.f2; have xg := hbx.lt; clear hbx
                have e73 := U9.out (hw.out 9 (by kernel_rfl)); have E73_ := (E73 u).trans e73
                go_simp
                exact hKK _ _ ⟨_, P74 u _, vso, vsc, (_root_.Go.Proofs.Ytobechjagckdfaa.u10 U0), (_root_.Go.Proofs.Ytobechjagckdfaa.u10 U1), (_root_.Go.Proofs.Ytobechjagckdfaa.u10 U2), (_root_.Go.Proofs.Ytobechjagckdfaa.u10 U3), (_root_.Go.Proofs.Ytobechjagckdfaa.u10 U4), (_root_.Go.Proofs.Ytobechjagckdfaa.u10 U5), (_root_.Go.Proofs.Ytobechjagckdfaa.u10 U6), (_root_.Go.Proofs.Ytobechjagckdfaa.u10 U7), (_root_.Go.Proofs.Ytobechjagckdfaa.u10 U8), (_root_.Go.Proofs.Ytobechjagckdfaa.u10 U9), Lib.hid (fun _ => frUpd_self), (_root_.Go.Proofs.Ytobechjagckdfaa.u10 U11), (_root_.Go.Proofs.Ytobechjagckdfaa.u10 U12), (_root_.Go.Proofs.Ytobechjagckdfaa.u10 U13), (_root_.Go.Proofs.Ytobechjagckdfaa.u10 U14), (_root_.Go.Proofs.Ytobechjagckdfaa.u10 U15), (_root_.Go.Proofs.Ytobechjagckdfaa.u10 U16), (_root_.Go.Proofs.Ytobechjagckdfaa.u10 U17), (_root_.Go.Proofs.Ytobechjagckdfaa.u10 U18), (_root_.Go.Proofs.Ytobechjagckdfaa.u10 U19), (_root_.Go.Proofs.Ytobechjagckdfaa.u10 U20), (_root_.Go.Proofs.Ytobechjagckdfaa.u10 U21), (_root_.Go.Proofs.Ytobechjagckdfaa.u10 U22), (_root_.Go.Proofs.Ytobechjagckdfaa.u10 U23), (_root_.Go.Proofs.Ytobechjagckdfaa.u10 U24), Lib.hid (fun m => F1.out (fun h => m (addD_mem h))), F2, (_root_.Go.Proofs.Ytobechjagckdfaa.k10 F4), (_root_.Go.Proofs.Ytobechjagckdfaa.k10 F6)⟩
              · skip
                refine wpOp_step (o := _) rfl (fun KK hKK => ?_)
                rw [if_pos (wanted_nil _ rfl)]
                have E4_ := X4 u
                go_simp
                exact hKK _ _ ⟨_, P75 u _, vso, vsc, (_root_.Go.Proofs.Ytobechjagckdfaa.u10 U0), (_root_.Go.Proofs.Ytobechjagckdfaa.u10 U1), (_root_.Go.Proofs.Ytobechjagckdfaa.u10 U2), (_root_.Go.Proofs.Ytobechjagckdfaa.u10 U3), (_root_.Go.Proofs.Ytobechjagckdfaa.u10 U4), (_root_.Go.Proofs.Ytobechjagckdfaa.u10 U5), (_root_.Go.Proofs.Ytobechjagckdfaa.u10 U6), (_root_.Go.Proofs.Ytobechjagckdfaa.u10 U7), (_root_.Go.Proofs.Ytobechjagckdfaa.u10 U8), (_root_.Go.Proofs.Ytobechjagckdfaa.u10 U9), (_root_.Go.Proofs.Ytobechjagckdfaa.u10 U10), Lib.hid (fun _ => frUpd_self), (_root_.Go.Proofs.Ytobechjagckdfaa.u10 U12), (_root_.Go.Proofs.Ytobechjagckdfaa.u10 U13), (_root_.Go.Proofs.Ytobechjagckdfaa.u10 U14), (_root_.Go.Proofs.Ytobechjagckdfaa.u10 U15), (_root_.Go.Proofs.Ytobechjagckdfaa.u10 U16), (_root_.Go.Proofs.Ytobechjagckdfaa.u10 U17), (_root_.Go.Proofs.Ytobechjagckdfaa.u10 U18), (_root_.Go.Proofs.Ytobechjagckdfaa.u10 U19), (_root_.Go.Proofs.Ytobechjagckdfaa.u10 U20), (_root_.Go.Proofs.Ytobechjagckdfaa.u10 U21), (_root_.Go.Proofs.Ytobechjagckdfaa.u10 U22), (_root_.Go.Proofs.Ytobechjagckdfaa.u10 U23), (_root_.Go.Proofs.Ytobechjagckdfaa.u10 U24), Lib.hid (fun m => F1.out (fun h => m (addD_mem h))), F2, (_root_.Go.Proofs.Ytobechjagckdfaa.k10 F4), (_root_.Go.Proofs.Ytobechjagckdfaa.k10 F6)⟩
              · skip
                refine wpOp_step (o := _) rfl (fun KK hKK => ?_)
                rw [if_pos (wanted_nil _ rfl)]
                have E13_ := X13 u
                go_simp
                exact hKK _ _ ⟨_, P76 u _, vso, vsc, (_root_.Go.Proofs.Ytobechjagckdfaa.u10 U0), (_root_.Go.Proofs.Ytobechjagckdfaa.u10 U1), (_root_.Go.Proofs.Ytobechjagckdfaa.u10 U2), (_root_.Go.Proofs.Ytobechjagckdfaa.u10 U3), (_root_.Go.Proofs.Ytobechjagckdfaa.u10 U4), (_root_.Go.Proofs.Ytobechjagckdfaa.u10 U5), (_root_.Go.Proofs.Ytobechjagckdfaa.u10 U6), (_root_.Go.Proofs.Ytobechjagckdfaa.u10 U7), (_root_.Go.Proofs.Ytobechjagckdfaa.u10 U8), (_root_.Go.Proofs.Ytobechjagckdfaa.u10 U9), (_root_.Go.Proofs.Ytobechjagckdfaa.u10 U10), (_root_.Go.Proofs.Ytobechjagckdfaa.u10 U11), Lib.hid (fun _ => frUpd_self), (_root_.Go.Proofs.Ytobechjagckdfaa.u10 U13), (_root_.Go.Proofs.Ytobechjagckdfaa.u10 U14), (_root_.Go.Proofs.Ytobechjagckdfaa.u10 U15), (_root_.Go.Proofs.Ytobechjagckdfaa.u10 U16), (_root_.Go.Proofs.Ytobechjagckdfaa.u10 U17), (_root_.Go.Proofs.Ytobechjagckdfaa.u10 U18), (_root_.Go.Proofs.Ytobechjagckdfaa.u10 U19), (_root_.Go.Proofs.Ytobechjagckdfaa.u10 U20), (_root_.Go.Proofs.Ytobechjagckdfaa.u10 U21), (_root_.Go.Proofs.Ytobechjagckdfaa.u10 U22), (_root_.Go.Proofs.Ytobechjagckdfaa.u10 U23), (_root_.Go.Proofs.Ytobechjagckdfaa.u10 U24), Lib.hid (fun m => F1.out (fun h => m (addD_mem h))), F2, (_root_.Go.Proofs.Ytobechjagckdfaa.k10 F4), (_root_.Go.Proofs.Ytobechjagckdfaa.k10 F6)⟩
              · skip
                refine wpOp_step (o := _) rfl (fun KK hKK => ?_)
                rw [if_pos (wanted_nil _ rfl)]
                have e75 := U11.out (hw.out 11 (by kernel_rfl)); have E75_ := (E75 u).trans e75
                have e76 := U12.out (hw.out 12 (by kernel_rfl)); have E76_ := (E76 u).trans e76
                have b1 := HQL.out
                go_simp
                exact hKK _ _ ⟨_, P77 u _, vso, vsc, (_root_.Go.Proofs.Ytobechjagckdfaa.u10 U0), (_root_.Go.Proofs.Ytobechjagckdfaa.u10 U1), (_root_.Go.Proofs.Ytobechjagckdfaa.u10 U2), (_root_.Go.Proofs.Ytobechjagckdfaa.u10 U3), (_root_.Go.Proofs.Ytobechjagckdfaa.u10 U4), (_root_.Go.Proofs.Ytobechjagckdfaa.u10 U5), (_root_.Go.Proofs.Ytobechjagckdfaa.u10 U6), (_root_.Go.Proofs.Ytobechjagckdfaa.u10 U7), (_root_.Go.Proofs.Ytobechjagckdfaa.u10 U8), (_root_.Go.Proofs.Ytobechjagckdfaa.u10 U9), (_root_.Go.Proofs.Ytobechjagckdfaa.u10 U10), (_root_.Go.Proofs.Ytobechjagckdfaa.u10 U11), (_root_.Go.Proofs.Ytobechjagckdfaa.u10 U12), Lib.hid (fun _ => frUpd_self), (_root_.Go.Proofs.Ytobechjagckdfaa.u10 U14), (_root_.Go.Proofs.Ytobechjagckdfaa.u10 U15), (_root_.Go.Proofs.Ytobechjagckdfaa.u10 U16), (_root_.Go.Proofs.Ytobechjagckdfaa.u10 U17), (_root_.Go.Proofs.Ytobechjagckdfaa.u10 U18), (_root_.Go.Proofs.Ytobechjagckdfaa.u10 U19), (_root_.Go.Proofs.Ytobechjagckdfaa.u10 U20), (_root_.Go.Proofs.Ytobechjagckdfaa.u10 U21), (_root_.Go.Proofs.Ytobechjagckdfaa.u10 U22), (_root_.Go.Proofs.Ytobechjagckdfaa.u10 U23), (_root_.Go.Proofs.Ytobechjagckdfaa.u10 U24), Lib.hid (fun m => F1.out (fun h => m (addD_mem h))), F2, (_root_.Go.Proofs.Ytobechjagckdfaa.k10 F4), (_root_.Go.Proofs.Ytobechjagckdfaa.k10 F6)⟩
              · skip
                refine wpOp_step (o := _) rfl (fun KK hKK => ?_)
                rw [if_pos (wanted_nil _ rfl)]
                have e77 := U13.out (hw.out 13 (by kernel_rfl)); have E77_ := (E77 u).trans e77
                go_simp
                exact hKK _ _ ⟨_, P78 u _, vso, vsc, (_root_.Go.Proofs.Ytobechjagckdfaa.u10 U0), (_root_.Go.Proofs.Ytobechjagckdfaa.u10 U1), (_root_.Go.Proofs.Ytobechjagckdfaa.u10 U2), (_root_.Go.Proofs.Ytobechjagckdfaa.u10 U3), (_root_.Go.Proofs.Ytobechjagckdfaa.u10 U4), (_root_.Go.Proofs.Ytobechjagckdfaa.u10 U5), (_root_.Go.Proofs.Ytobechjagckdfaa.u10 U6), (_root_.Go.Proofs.Ytobechjagckdfaa.u10 U7), (_root_.Go.Proofs.Ytobechjagckdfaa.u10 U8), (_root_.Go.Proofs.Ytobechjagckdfaa.u10 U9), (_root_.Go.Proofs.Ytobechjagckdfaa.u10 U10), (_root_.Go.Proofs.Ytobechjagckdfaa.u10 U11), (_root_.Go.Proofs.Ytobechjagckdfaa.u10 U12), (_root_.Go.Proofs.Ytobechjagckdfaa.u10 U13), Lib.hid (fun _ => frUpd_self), (_root_.Go.Proofs.Ytobechjagckdfaa.u10 U15), (_root_.Go.Proofs.Ytobechjagckdfaa.u10 U16), (_root_.Go.Proofs.Ytobechjagckdfaa.u10 U17), (_root_.Go.Proofs.Ytobechjagckdfaa.u10 U18), (_root_.Go.Proofs.Ytobechjagckdfaa.u10 U19), (_root_.Go.Proofs.Ytobechjagckdfaa.u10 U20), (_root_.Go.Proofs.Ytobechjagckdfaa.u10 U21), (_root_.Go.Proofs.Ytobechjagckdfaa.u10 U22), (_root_.Go.Proofs.Ytobechjagckdfaa.u10 U23), (_root_.Go.Proofs.Ytobechjagckdfaa.u10 U24), Lib.hid (fun m => F1.out (fun h => m (addD_mem h))), F2, (_root_.Go.Proofs.Ytobechjagckdfaa.k10 F4), (_root_.Go.Proofs.Ytobechjagckdfaa.k10 F6)⟩
              · skip
                refine wpOp_step (o := _) rfl (fun KK hKK => ?_)
                rw [if_pos (wanted_nil _ rfl)]
                have hz : ¬ D 25 := fun h => hn (hcl.out 16 15 (by kernel_rfl) (hcl.out 17 16 (by kernel_rfl) (hcl.out 18 17 (by kernel_rfl) (hcl.out 19 18 (by kernel_rfl) (hcl.out 20 19 (by kernel_rfl) (hcl.out 21 20 (by kernel_rfl) (hcl.out 25 21 (by kernel_rfl) h)))))))
                have KI : Hid (KIn n0 wv g10 y K) := Lib.hid (HK.out.below (F1.out hz))
                have e78 := U14.out (hw.out 14 (by kernel_rfl)); have E78_ := (E78 u).trans e78
                have cx : wv.cell? ⟨gsp, q * 3, none⟩ = some (.int .i64 (p : Int)) := (F2.out.cell HGX.out.1 HGX.out.2).trans HCX.out
                go_simp
                exact hKK _ _ ⟨_, P79 u _, vso, vsc, (_root_.Go.Proofs.Ytobechjagckdfaa.u10 U0), (_root_.Go.Proofs.Ytobechjagckdfaa.u10 U1), (_root_.Go.Proofs.Ytobechjagckdfaa.u10 U2), (_root_.Go.Proofs.Ytobechjagckdfaa.u10 U3), (_root_.Go.Proofs.Ytobechjagckdfaa.u10 U4), (_root_.Go.Proofs.Ytobechjagckdfaa.u10 U5), (_root_.Go.Proofs.Ytobechjagckdfaa.u10 U6), (_root_.Go.Proofs.Ytobechjagckdfaa.u10 U7), (_root_.Go.Proofs.Ytobechjagckdfaa.u10 U8), (_root_.Go.Proofs.Ytobechjagckdfaa.u10 U9), (_root_.Go.Proofs.Ytobechjagckdfaa.u10 U10), (_root_.Go.Proofs.Ytobechjagckdfaa.u10 U11), (_root_.Go.Proofs.Ytobechjagckdfaa.u10 U12), (_root_.Go.Proofs.Ytobechjagckdfaa.u10 U13), (_root_.Go.Proofs.Ytobechjagckdfaa.u10 U14), Lib.hid (fun _ => frUpd_self), (_root_.Go.Proofs.Ytobechjagckdfaa.u10 U16), (_root_.Go.Proofs.Ytobechjagckdfaa.u10 U17), (_root_.Go.Proofs.Ytobechjagckdfaa.u10 U18), (_root_.Go.Proofs.Ytobechjagckdfaa.u10 U19), (_root_.Go.Proofs.Ytobechjagckdfaa.u10 U20), (_root_.Go.Proofs.Ytobechjagckdfaa.u10 U21), (_root_.Go.Proofs.Ytobechjagckdfaa.u10 U22), (_root_.Go.Proofs.Ytobechjagckdfaa.u10 U23), (_root_.Go.Proofs.Ytobechjagckdfaa.u10 U24), Lib.hid (fun m => F1.out (fun h => m (addD_mem h))), F2, (_root_.Go.Proofs.Ytobechjagckdfaa.k10 F4), (_root_.Go.Proofs.Ytobechjagckdfaa.k10 F6)⟩
              · skip
                refine wpOp_step (o := _) rfl (fun KK hKK => ?_)
                rw [if_pos (wanted_nil _ rfl)]
                have hz : ¬ D 25 := fun h => hn (hcl.out 17 16 (by kernel_rfl) (hcl.out 18 17 (by kernel_rfl) (hcl.out 19 18 (by kernel_rfl) (hcl.out 20 19 (by kernel_rfl) (hcl.out 21 20 (by kernel_rfl) (hcl.out 25 21 (by kernel_rfl) h))))))
                have KI : Hid (KIn n0 wv g10 y K) := Lib.hid (HK.out.below (F1.out hz))
                have e74 := U10.out (hw.out 10 (by kernel_rfl)); have E74_ := (E74 u).trans e74
                have e79 := U15.out (hw.out 15 (by kernel_rfl)); have E79_ := (E79 u).trans e79
                go_simp
                (refine (HPE.out _ (KI.out.own.m.ents.at lenEnt)).mono ?_); rintro e w2 ⟨rfl, hb⟩; try dsimp only
                exact hKK _ _ ⟨_, P80 u _, vso, vsc, (_root_.Go.Proofs.Ytobechjagckdfaa.u10 U0), (_root_.Go.Proofs.Ytobechjagckdfaa.u10 U1), (_root_.Go.Proofs.Ytobechjagckdfaa.u10 U2), (_root_.Go.Proofs.Ytobechjagckdfaa.u10 U3), (_root_.Go.Proofs.Ytobechjagckdfaa.u10 U4), (_root_.Go.Proofs.Ytobechjagckdfaa.u10 U5), (_root_.Go.Proofs.Ytobechjagckdfaa.u10 U6), (_root_.Go.Proofs.Ytobechjagckdfaa.u10 U7), (_root_.Go.Proofs.Ytobechjagckdfaa.u10 U8), (_root_.Go.Proofs.Ytobechjagckdfaa.u10 U9), (_root_.Go.Proofs.Ytobechjagckdfaa.u10 U10), (_root_.Go.Proofs.Ytobechjagckdfaa.u10 U11), (_root_.Go.Proofs.Ytobechjagckdfaa.u10 U12), (_root_.Go.Proofs.Ytobechjagckdfaa.u10 U13), (_root_.Go.Proofs.Ytobechjagckdfaa.u10 U14), (_root_.Go.Proofs.Ytobechjagckdfaa.u10 U15), Lib.hid (fun _ => frUpd_self), (_root_.Go.Proofs.Ytobechjagckdfaa.u10 U17), (_root_.Go.Proofs.Ytobechjagckdfaa.u10 U18), (_root_.Go.Proofs.Ytobechjagckdfaa.u10 U19), (_root_.Go.Proofs.Ytobechjagckdfaa.u10 U20), (_root_.Go.Proofs.Ytobechjagckdfaa.u10 U21), (_root_.Go.Proofs.Ytobechjagckdfaa.u10 U22), (_root_.Go.Proofs.Ytobechjagckdfaa.u10 U23), (_root_.Go.Proofs.Ytobechjagckdfaa.u10 U24), Lib.hid (fun m => (F1.out (fun h => m (addD_mem h))).trans (hb.mono (F1.out (fun h => m (addD_mem h))).size)), Lib.hid (F2.out.trans (touch_of_below hb _)), Lib.hid (fun h => absurd (hcl.out 17 16 (by kernel_rfl) (hcl.out 18 17 (by kernel_rfl) (hcl.out 19 18 (by kernel_rfl) (addD_of h (by decide))))) hn), Lib.hid (fun h => absurd (hcl.out 17 16 (by kernel_rfl) (hcl.out 18 17 (by kernel_rfl) (hcl.out 19 18 (by kernel_rfl) (hcl.out 20 19 (by kernel_rfl) (hcl.out 21 20 (by kernel_rfl) (hcl.out 25 21 (by kernel_rfl) (addD_of h (by decide)))))))) hn)⟩
              · skip
                refine wpOp_step (o := _) rfl (fun KK hKK => ?_)
                rw [if_pos (wanted_nil _ rfl)]
                have e80 := U16.out (hw.out 16 (by kernel_rfl)); have E80_ := (E80 u).trans e80
                go_simp
                exact hKK _ _ ⟨_, P81 u _, vso, vsc, (_root_.Go.Proofs.Ytobechjagckdfaa.u10 U0), (_root_.Go.Proofs.Ytobechjagckdfaa.u10 U1), (_root_.Go.Proofs.Ytobechjagckdfaa.u10 U2), (_root_.Go.Proofs.Ytobechjagckdfaa.u10 U3), (_root_.Go.Proofs.Ytobechjagckdfaa.u10 U4), (_root_.Go.Proofs.Ytobechjagckdfaa.u10 U5), (_root_.Go.Proofs.Ytobechjagckdfaa.u10 U6), (_root_.Go.Proofs.Ytobechjagckdfaa.u10 U7), (_root_.Go.Proofs.Ytobechjagckdfaa.u10 U8), (_root_.Go.Proofs.Ytobechjagckdfaa.u10 U9), (_root_.Go.Proofs.Ytobechjagckdfaa.u10 U10), (_root_.Go.Proofs.Ytobechjagckdfaa.u10 U11), (_root_.Go.Proofs.Ytobechjagckdfaa.u10 U12), (_root_.Go.Proofs.Ytobechjagckdfaa.u10 U13), (_root_.Go.Proofs.Ytobechjagckdfaa.u10 U14), (_root_.Go.Proofs.Ytobechjagckdfaa.u10 U15), (_root_.Go.Proofs.Ytobechjagckdfaa.u10 U16), Lib.hid (fun _ => frUpd_self), (_root_.Go.Proofs.Ytobechjagckdfaa.u10 U18), (_root_.Go.Proofs.Ytobechjagckdfaa.u10 U19), (_root_.Go.Proofs.Ytobechjagckdfaa.u10 U20), (_root_.Go.Proofs.Ytobechjagckdfaa.u10 U21), (_root_.Go.Proofs.Ytobechjagckdfaa.u10 U22), (_root_.Go.Proofs.Ytobechjagckdfaa.u10 U23), (_root_.Go.Proofs.Ytobechjagckdfaa.u10 U24), Lib.hid (fun m => F1.out (fun h => m (addD_mem h))), F2, (_root_.Go.Proofs.Ytobechjagckdfaa.k10 F4), (_root_.Go.Proofs.Ytobechjagckdfaa.k10 F6)⟩
              · skip
                refine wpOp_step (o := _) rfl (fun KK hKK => ?_)
                rw [if_pos (wanted_nil _ rfl)]
                have e81 := U17.out (hw.out 17 (by kernel_rfl)); have E81_ := (E81 u).trans e81
                have G81_ : (frAll a0 [64, 65, 66, 67, 68, 69, 70, 71, 72, 73, 74, 75, 76, 77, 78, 79, 80, 81, 82, 83, 63, 84, 85, 86, 87] u).tmps[81]?.getD undef = _ := (Array.getD_eq_getD_getElem? ..).symm.trans E81_
                go_simp
                exact hKK _ _ ⟨_, P82 u _, vso, vsc, (_root_.Go.Proofs.Ytobechjagckdfaa.u10 U0), (_root_.Go.Proofs.Ytobechjagckdfaa.u10 U1), (_root_.Go.Proofs.Ytobechjagckdfaa.u10 U2), (_root_.Go.Proofs.Ytobechjagckdfaa.u10 U3), (_root_.Go.Proofs.Ytobechjagckdfaa.u10 U4), (_root_.Go.Proofs.Ytobechjagckdfaa.u10 U5), (_root_.Go.Proofs.Ytobechjagckdfaa.u10 U6), (_root_.Go.Proofs.Ytobechjagckdfaa.u10 U7), (_root_.Go.Proofs.Ytobechjagckdfaa.u10 U8), (_root_.Go.Proofs.Ytobechjagckdfaa.u10 U9), (_root_.Go.Proofs.Ytobechjagckdfaa.u10 U10), (_root_.Go.Proofs.Ytobechjagckdfaa.u10 U11), (_root_.Go.Proofs.Ytobechjagckdfaa.u10 U12), (_root_.Go.Proofs.Ytobechjagckdfaa.u10 U13), (_root_.Go.Proofs.Ytobechjagckdfaa.u10 U14), (_root_.Go.Proofs.Ytobechjagckdfaa.u10 U15), (_root_.Go.Proofs.Ytobechjagckdfaa.u10 U16), (_root_.Go.Proofs.Ytobechjagckdfaa.u10 U17), Lib.hid (fun _ => frUpd_self), (_root_.Go.Proofs.Ytobechjagckdfaa.u10 U19), (_root_.Go.Proofs.Ytobechjagckdfaa.u10 U20), (_root_.Go.Proofs.Ytobechjagckdfaa.u10 U21), (_root_.Go.Proofs.Ytobechjagckdfaa.u10 U22), (_root_.Go.Proofs.Ytobechjagckdfaa.u10 U23), (_root_.Go.Proofs.Ytobechjagckdfaa.u10 U24), Lib.hid (fun m => F1.out (fun h => m (addD_mem h))), F2, (_root_.Go.Proofs.Ytobechjagckdfaa.k10 F4), (_root_.Go.Proofs.Ytobechjagckdfaa.k10 F6)⟩
              · skip
                refine wpOp_step (o := _) rfl (fun KK hKK => ?_)
                rw [if_pos (wanted_nil _ rfl)]
                have hz : ¬ D 25 := fun h => hn (hcl.out 20 19 (by kernel_rfl) (hcl.out 21 20 (by kernel_rfl) (hcl.out 25 21 (by kernel_rfl) h)))
                have KI : Hid (KIn n0 wv g10 y K) := Lib.hid (HK.out.below (F1.out hz))
                have e66 := U2.out (hw.out 2 (by kernel_rfl)); have E66_ := (E66 u).trans e66
                have e71 := U7.out (hw.out 7 (by kernel_rfl)); have E71_ := (E71 u).trans e71
                have e82 := U18.out (hw.out 18 (by kernel_rfl)); have E82_ := (E82 u).trans e82
                go_simp
                (refine (s_SetPage y.m.e K.m.ents p en.f en HEN.out HEF.out HEL.out _ (KI.out.own.m.ents.at lenEnt)).mono ?_); rintro e w2 ⟨nv, rfl, hno, hb⟩
                obtain ⟨zo, zc, rfl, -, -, -⟩ := Own.shape hno; simp only [List.length_set] at hno ⊢
                exact hKK _ _ ⟨_, P83 u _, zo, zc, (_root_.Go.Proofs.Ytobechjagckdfaa.u10 U0), (_root_.Go.Proofs.Ytobechjagckdfaa.u10 U1), (_root_.Go.Proofs.Ytobechjagckdfaa.u10 U2), (_root_.Go.Proofs.Ytobechjagckdfaa.u10 U3), (_root_.Go.Proofs.Ytobechjagckdfaa.u10 U4), (_root_.Go.Proofs.Ytobechjagckdfaa.u10 U5), (_root_.Go.Proofs.Ytobechjagckdfaa.u10 U6), (_root_.Go.Proofs.Ytobechjagckdfaa.u10 U7), (_root_.Go.Proofs.Ytobechjagckdfaa.u10 U8), (_root_.Go.Proofs.Ytobechjagckdfaa.u10 U9), (_root_.Go.Proofs.Ytobechjagckdfaa.u10 U10), (_root_.Go.Proofs.Ytobechjagckdfaa.u10 U11), (_root_.Go.Proofs.Ytobechjagckdfaa.u10 U12), (_root_.Go.Proofs.Ytobechjagckdfaa.u10 U13), (_root_.Go.Proofs.Ytobechjagckdfaa.u10 U14), (_root_.Go.Proofs.Ytobechjagckdfaa.u10 U15), (_root_.Go.Proofs.Ytobechjagckdfaa.u10 U16), (_root_.Go.Proofs.Ytobechjagckdfaa.u10 U17), (_root_.Go.Proofs.Ytobechjagckdfaa.u10 U18), Lib.hid (fun _ => frUpd_self), Lib.hid (fun h => absurd (hcl.out 20 19 (by kernel_rfl) (addD_of h (by decide))) hn), Lib.hid (fun h => absurd (hcl.out 20 19 (by kernel_rfl) (hcl.out 21 20 (by kernel_rfl) (addD_of h (by decide)))) hn), (_root_.Go.Proofs.Ytobechjagckdfaa.u10 U22), (_root_.Go.Proofs.Ytobechjagckdfaa.u10 U23), (_root_.Go.Proofs.Ytobechjagckdfaa.u10 U24), Lib.hid (fun m => (F1.out (fun h => m (addD_mem h))).trans (hb.mono (F1.out (fun h => m (addD_mem h))).size)), Lib.hid (F2.out.trans (touch_of_below hb _)), Lib.hid (fun _ => Own.mono hno F2.out.size), Lib.hid (fun h => absurd (hcl.out 20 19 (by kernel_rfl) (hcl.out 21 20 (by kernel_rfl) (hcl.out 25 21 (by kernel_rfl) (addD_of h (by decide))))) hn)⟩
              · skip
                refine wpOp_step (o := _) rfl (fun KK hKK => ?_)
                rw [if_pos (wanted_nil _ rfl)]
                have e83 := U19.out (hw.out 19 (by kernel_rfl)); have E83_ := (E83 u).trans e83
                go_simp
                exact hKK _ _ ⟨_, P63 u _, vso, vsc, (_root_.Go.Proofs.Ytobechjagckdfaa.u10 U0), (_root_.Go.Proofs.Ytobechjagckdfaa.u10 U1), (_root_.Go.Proofs.Ytobechjagckdfaa.u10 U2), (_root_.Go.Proofs.Ytobechjagckdfaa.u10 U3), (_root_.Go.Proofs.Ytobechjagckdfaa.u10 U4), (_root_.Go.Proofs.Ytobechjagckdfaa.u10 U5), (_root_.Go.Proofs.Ytobechjagckdfaa.u10 U6), (_root_.Go.Proofs.Ytobechjagckdfaa.u10 U7), (_root_.Go.Proofs.Ytobechjagckdfaa.u10 U8), (_root_.Go.Proofs.Ytobechjagckdfaa.u10 U9), (_root_.Go.Proofs.Ytobechjagckdfaa.u10 U10), (_root_.Go.Proofs.Ytobechjagckdfaa.u10 U11), (_root_.Go.Proofs.Ytobechjagckdfaa.u10 U12), (_root_.Go.Proofs.Ytobechjagckdfaa.u10 U13), (_root_.Go.Proofs.Ytobechjagckdfaa.u10 U14), (_root_.Go.Proofs.Ytobechjagckdfaa.u10 U15), (_root_.Go.Proofs.Ytobechjagckdfaa.u10 U16), (_root_.Go.Proofs.Ytobechjagckdfaa.u10 U17), (_root_.Go.Proofs.Ytobechjagckdfaa.u10 U18), (_root_.Go.Proofs.Ytobechjagckdfaa.u10 U19), Lib.hid (fun _ => frUpd_self), (_root_.Go.Proofs.Ytobechjagckdfaa.u10 U21), (_root_.Go.Proofs.Ytobechjagckdfaa.u10 U22), (_root_.Go.Proofs.Ytobechjagckdfaa.u10 U23), (_root_.Go.Proofs.Ytobechjagckdfaa.u10 U24), Lib.hid (fun m => F1.out (fun h => m (addD_mem h))), F2, (_root_.Go.Proofs.Ytobechjagckdfaa.k10 F4), (_root_.Go.Proofs.Ytobechjagckdfaa.k10 F6)⟩
              · skip
                refine wpOp_step (o := _) rfl (fun KK hKK => ?_)
                rw [if_pos (wanted_nil _ rfl)]
                have e63 := U20.out (hw.out 20 (by kernel_rfl)); have E63_ := (E63 u).trans e63
                go_simp
                exact hKK _ _ ⟨_, P84 u _, vso, vsc, (_root_.Go.Proofs.Ytobechjagckdfaa.u10 U0), (_root_.Go.Proofs.Ytobechjagckdfaa.u10 U1), (_root_.Go.Proofs.Ytobechjagckdfaa.u10 U2), (_root_.Go.Proofs.Ytobechjagckdfaa.u10 U3), (_root_.Go.Proofs.Ytobechjagckdfaa.u10 U4), (_root_.Go.Proofs.Ytobechjagckdfaa.u10 U5), (_root_.Go.Proofs.Ytobechjagckdfaa.u10 U6), (_root_.Go.Proofs.Ytobechjagckdfaa.u10 U7), (_root_.Go.Proofs.Ytobechjagckdfaa.u10 U8), (_root_.Go.Proofs.Ytobechjagckdfaa.u10 U9), (_root_.Go.Proofs.Ytobechjagckdfaa.u10 U10), (_root_.Go.Proofs.Ytobechjagckdfaa.u10 U11), (_root_.Go.Proofs.Ytobechjagckdfaa.u10 U12), (_root_.Go.Proofs.Ytobechjagckdfaa.u10 U13), (_root_.Go.Proofs.Ytobechjagckdfaa.u10 U14), (_root_.Go.Proofs.Ytobechjagckdfaa.u10 U15), (_root_.Go.Proofs.Ytobechjagckdfaa.u10 U16), (_root_.Go.Proofs.Ytobechjagckdfaa.u10 U17), (_root_.Go.Proofs.Ytobechjagckdfaa.u10 U18), (_root_.Go.Proofs.Ytobechjagckdfaa.u10 U19), (_root_.Go.Proofs.Ytobechjagckdfaa.u10 U20), Lib.hid (fun _ => frUpd_self), (_root_.Go.Proofs.Ytobechjagckdfaa.u10 U22), (_root_.Go.Proofs.Ytobechjagckdfaa.u10 U23), (_root_.Go.Proofs.Ytobechjagckdfaa.u10 U24), Lib.hid (fun m => F1.out (fun h => m (addD_mem h))), F2, (_root_.Go.Proofs.Ytobechjagckdfaa.k10 F4), (_root_.Go.Proofs.Ytobechjagckdfaa.k10 F6)⟩
              · skip
                refine wpOp_step (o := _) rfl (fun KK hKK => ?_)
                rw [if_pos (wanted_nil _ rfl)]
                have e63 := U20.out (hw.out 20 (by kernel_rfl)); have E63_ := (E63 u).trans e63
                go_simp
                exact hKK _ _ ⟨_, P85 u _, vso, vsc, (_root_.Go.Proofs.Ytobechjagckdfaa.u10 U0), (_root_.Go.Proofs.Ytobechjagckdfaa.u10 U1), (_root_.Go.Proofs.Ytobechjagckdfaa.u10 U2), (_root_.Go.Proofs.Ytobechjagckdfaa.u10 U3), (_root_.Go.Proofs.Ytobechjagckdfaa.u10 U4), (_root_.Go.Proofs.Ytobechjagckdfaa.u10 U5), (_root_.Go.Proofs.Ytobechjagckdfaa.u10 U6), (_root_.Go.Proofs.Ytobechjagckdfaa.u10 U7), (_root_.Go.Proofs.Ytobechjagckdfaa.u10 U8), (_root_.Go.Proofs.Ytobechjagckdfaa.u10 U9), (_root_.Go.Proofs.Ytobechjagckdfaa.u10 U10), (_root_.Go.Proofs.Ytobechjagckdfaa.u10 U11), (_root_.Go.Proofs.Ytobechjagckdfaa.u10 U12), (_root_.Go.Proofs.Ytobechjagckdfaa.u10 U13), (_root_.Go.Proofs.Ytobechjagckdfaa.u10 U14), (_root_.Go.Proofs.Ytobechjagckdfaa.u10 U15), (_root_.Go.Proofs.Ytobechjagckdfaa.u10 U16), (_root_.Go.Proofs.Ytobechjagckdfaa.u10 U17), (_root_.Go.Proofs.Ytobechjagckdfaa.u10 U18), (_root_.Go.Proofs.Ytobechjagckdfaa.u10 U19), (_root_.Go.Proofs.Ytobechjagckdfaa.u10 U20), (_root_.Go.Proofs.Ytobechjagckdfaa.u10 U21), Lib.hid (fun _ => frUpd_self), (_root_.Go.Proofs.Ytobechjagckdfaa.u10 U23), (_root_.Go.Proofs.Ytobechjagckdfaa.u10 U24), Lib.hid (fun m => F1.out (fun h => m (addD_mem h))), F2, (_root_.Go.Proofs.Ytobechjagckdfaa.k10 F4), (_root_.Go.Proofs.Ytobechjagckdfaa.k10 F6)⟩
              · skip
                refine wpOp_step (o := _) rfl (fun KK hKK => ?_)
                rw [if_pos (wanted_nil _ rfl)]
                have E10_ := X10 u
                go_simp
                exact hKK _ _ ⟨_, P86 u _, vso, vsc, (_root_.Go.Proofs.Ytobechjagckdfaa.u10 U0), (_root_.Go.Proofs.Ytobechjagckdfaa.u10 U1), (_root_.Go.Proofs.Ytobechjagckdfaa.u10 U2), (_root_.Go.Proofs.Ytobechjagckdfaa.u10 U3), (_root_.Go.Proofs.Ytobechjagckdfaa.u10 U4), (_root_.Go.Proofs.Ytobechjagckdfaa.u10 U5), (_root_.Go.Proofs.Ytobechjagckdfaa.u10 U6), (_root_.Go.Proofs.Ytobechjagckdfaa.u10 U7), (_root_.Go.Proofs.Ytobechjagckdfaa.u10 U8), (_root_.Go.Proofs.Ytobechjagckdfaa.u10 U9), (_root_.Go.Proofs.Ytobechjagckdfaa.u10 U10), (_root_.Go.Proofs.Ytobechjagckdfaa.u10 U11), (_root_.Go.Proofs.Ytobechjagckdfaa.u10 U12), (_root_.Go.Proofs.Ytobechjagckdfaa.u10 U13), (_root_.Go.Proofs.Ytobechjagckdfaa.u10 U14), (_root_.Go.Proofs.Ytobechjagckdfaa.u10 U15), (_root_.Go.Proofs.Ytobechjagckdfaa.u10 U16), (_root_.Go.Proofs.Ytobechjagckdfaa.u10 U17), (_root_.Go.Proofs.Ytobechjagckdfaa.u10 U18), (_root_.Go.Proofs.Ytobechjagckdfaa.u10 U19), (_root_.Go.Proofs.Ytobechjagckdfaa.u10 U20), (_root_.Go.Proofs.Ytobechjagckdfaa.u10 U21), (_root_.Go.Proofs.Ytobechjagckdfaa.u10 U22), Lib.hid (fun _ => frUpd_self), (_root_.Go.Proofs.Ytobechjagckdfaa.u10 U24), Lib.hid (fun m => F1.out (fun h => m (addD_mem h))), F2, (_root_.Go.Proofs.Ytobechjagckdfaa.k10 F4), (_root_.Go.Proofs.Ytobechjagckdfaa.k10 F6)⟩
              · skip
                refine wpOp_step (o := _) rfl (fun KK hKK => ?_)
                rw [if_pos (wanted_nil _ rfl)]
                have e86 := U23.out (hw.out 23 (by kernel_rfl)); have E86_ := (E86 u).trans e86
                go_simp
                exact hKK _ _ ⟨_, P87 u _, vso, vsc, (_root_.Go.Proofs.Ytobechjagckdfaa.u10 U0), (_root_.Go.Proofs.Ytobechjagckdfaa.u10 U1), (_root_.Go.Proofs.Ytobechjagckdfaa.u10 U2), (_root_.Go.Proofs.Ytobechjagckdfaa.u10 U3), (_root_.Go.Proofs.Ytobechjagckdfaa.u10 U4), (_root_.Go.Proofs.Ytobechjagckdfaa.u10 U5), (_root_.Go.Proofs.Ytobechjagckdfaa.u10 U6), (_root_.Go.Proofs.Ytobechjagckdfaa.u10 U7), (_root_.Go.Proofs.Ytobechjagckdfaa.u10 U8), (_root_.Go.Proofs.Ytobechjagckdfaa.u10 U9), (_root_.Go.Proofs.Ytobechjagckdfaa.u10 U10), (_root_.Go.Proofs.Ytobechjagckdfaa.u10 U11), (_root_.Go.Proofs.Ytobechjagckdfaa.u10 U12), (_root_.Go.Proofs.Ytobechjagckdfaa.u10 U13), (_root_.Go.Proofs.Ytobechjagckdfaa.u10 U14), (_root_.Go.Proofs.Ytobechjagckdfaa.u10 U15), (_root_.Go.Proofs.Ytobechjagckdfaa.u10 U16), (_root_.Go.Proofs.Ytobechjagckdfaa.u10 U17), (_root_.Go.Proofs.Ytobechjagckdfaa.u10 U18), (_root_.Go.Proofs.Ytobechjagckdfaa.u10 U19), (_root_.Go.Proofs.Ytobechjagckdfaa.u10 U20), (_root_.Go.Proofs.Ytobechjagckdfaa.u10 U21), (_root_.Go.Proofs.Ytobechjagckdfaa.u10 U22), (_root_.Go.Proofs.Ytobechjagckdfaa.u10 U23), Lib.hid (fun _ => frUpd_self), Lib.hid (fun m => F1.out (fun h => m (addD_mem h))), F2, (_root_.Go.Proofs.Ytobechjagckdfaa.k10 F4), (_root_.Go.Proofs.Ytobechjagckdfaa.k10 F6)⟩
              · skip
                refine wpOp_step (o := _) rfl (fun KK hKK => ?_)
                rw [if_pos (wanted_nil _ rfl)]
                have hz : ¬ D 25 := fun h => hn h
                have KI : Hid (KIn n0 wv g10 y K) := Lib.hid (HK.out.below (F1.out hz))
                have hbx := KI.out.box; have c2 := hbx.c2; have f2 := hbx.f2; have xg := hbx.lt; clear hbx
                have e87 := U24.out (hw.out 24 (by kernel_rfl)); have E87_ := (E87 u).trans e87
                have e84 := U21.out (hw.out 21 (by kernel_rfl)); have E84_ := (E84 u).trans e84
                go_simp
                have HM := Lib.hid (F4.out (hcl.out 20 19 (by kernel_rfl) (hcl.out 21 20 (by kernel_rfl) (hw.out 21 (by kernel_rfl)))))
                have hzz := F2.out.size
                exact hKK _ _ ⟨u, rfl, vso, vsc, (_root_.Go.Proofs.Ytobechjagckdfaa.k10 U0), (_root_.Go.Proofs.Ytobechjagckdfaa.k10 U1), (_root_.Go.Proofs.Ytobechjagckdfaa.k10 U2), (_root_.Go.Proofs.Ytobechjagckdfaa.k10 U3), (_root_.Go.Proofs.Ytobechjagckdfaa.k10 U4), (_root_.Go.Proofs.Ytobechjagckdfaa.k10 U5), (_root_.Go.Proofs.Ytobechjagckdfaa.k10 U6), (_root_.Go.Proofs.Ytobechjagckdfaa.k10 U7), (_root_.Go.Proofs.Ytobechjagckdfaa.k10 U8), (_root_.Go.Proofs.Ytobechjagckdfaa.k10 U9), (_root_.Go.Proofs.Ytobechjagckdfaa.k10 U10), (_root_.Go.Proofs.Ytobechjagckdfaa.k10 U11), (_root_.Go.Proofs.Ytobechjagckdfaa.k10 U12), (_root_.Go.Proofs.Ytobechjagckdfaa.k10 U13), (_root_.Go.Proofs.Ytobechjagckdfaa.k10 U14), (_root_.Go.Proofs.Ytobechjagckdfaa.k10 U15), (_root_.Go.Proofs.Ytobechjagckdfaa.k10 U16), (_root_.Go.Proofs.Ytobechjagckdfaa.k10 U17), (_root_.Go.Proofs.Ytobechjagckdfaa.k10 U18), (_root_.Go.Proofs.Ytobechjagckdfaa.k10 U19), (_root_.Go.Proofs.Ytobechjagckdfaa.k10 U20), (_root_.Go.Proofs.Ytobechjagckdfaa.k10 U21), (_root_.Go.Proofs.Ytobechjagckdfaa.k10 U22), (_root_.Go.Proofs.Ytobechjagckdfaa.k10 U23), (_root_.Go.Proofs.Ytobechjagckdfaa.k10 U24), Lib.hid (fun m => absurd (addD_self 25) m), Lib.hid (touch_setC F2.out (by simp)), Lib.hid (fun _ => Own.touch (S := [g10]) HM.out (touch_bx (Touch.refl _ _)) (fun b hb hm => by have h1 := (HM.out.lt b hb).1; have h2 := HK.out.box.lt; have h3 := List.mem_singleton.1 hm; omega)), Lib.hid (fun _ => KIn.setE KI.out HM.out HK.out.box.lt (fun b hb => (HK.out.own.lts b hb).2) (Nat.le_trans HK.out.hB (Nat.le_of_lt HK.out.box.lt)))⟩
            · rintro D u wv ⟨vso, vsc, U0, U1, U2, U3, U4, U5, U6, U7, U8, U9, U10, U11, U12, U13, U14, U15, U16, U17, U18, U19, U20, U21, U22, U23, U24, F1, F2, F4, F6⟩ hall9
              have HKN := Lib.hid (F6.out (hall9 25 (by show 25 < 26; decide)))
              have ha1 := ha0.out; subst ha1
              clear hall9 ha0 hsz U0 U1 U2 U3 U4 U5 U6 U7 U8 U9 U10 U11 U12 U13 U14 U15 U16 U17 U18 U19 U20 U21 U22 U23 U24 E64 P64 E65 P65 E66 P66 E67 P67 E68 P68 E69 P69 E70 P70 E71 P71 E72 P72 E73 P73 E74 P74 E75 P75 E76 P76 E77 P77 E78 P78 E79 P79 E80 P80 E81 P81 E82 P82 E83 P83 E63 P63 E84 P84 E85 P85 E86 P86 E87 P87 X4 X10 X13 F1 F4 F6
              obtain ⟨wn, rfl⟩ : ∃ q, q = wv := ⟨_, rfl⟩
              simp only [frAll, frTo, List.setIfInBounds_toArray, List.set_cons_succ, List.set_cons_zero]
              have KN := HKN.out
              rw [← HEQ.out] at KN
              have hT := HTC.out.trans F2.out
              go_wp2_with fail
              go_roundw
              case rel => exact ⟨q + 1, _, by omega, by go_num, KN, hT⟩
              case measure => simp [intOf]; omega
          · obtain rfl : q = sp.length := by omega
            have hqI : ¬ (sp.length : Int) < (sp.length : Nat) := by omega
            obtain ⟨hlen1, hleft1, SK, -⟩ := MID.out
            have SK1 := SK sp.length (Nat.le_refl _)
            obtain ⟨t2, ht2⟩ : ∃ q, q = laRun t1.left (setTwo sp sp.length t1.k) t1.sp := ⟨_, rfl⟩
            obtain ⟨a1, a2, a3, a4⟩ := late_all HI.out HT1.out ht2
            obtain ⟨K, hK⟩ : ∃ q', q' = setTwo sp sp.length t1.k := ⟨_, rfl⟩
            rw [← hK] at HK SK1 ht2
            have SZ2 : szK K ≤ 1048576 := by have h1 := SK1.rl; have := mok_szK SK1.ok; omega
            have SZ := Lib.hid SZ2
            have HA4 := Lib.hid a4; have HA3 := Lib.hid a3; have HHK := Lib.hid hK; have HT2 := Lib.hid ht2
            obtain ⟨aco, acc, auo, auc, avs, aeo, aec, aro, arc, rfl⟩ := KOwn.shapes HK.out.own
            have HV1 := Lib.hid (Own.touch HV8.out HTC.out (fun b hb hm => HNV.out b (mem_one hb) (List.mem_singleton.1 hm)))
            have HU1 := Lib.hid (Own.touch HU8.out HTC.out (fun b hb hm => HNU.out b (mem_one hb) (List.mem_singleton.1 hm)))
            have LAP := i_LateApply (⟨⟨⟨.slice aco avs.length acc, .slice auo K.m.f.used.length auc, avs⟩, .slice aeo K.m.ents.length aec⟩, .slice aro K.refuse.length arc⟩ : KV) K _ t1.sp _ t1.left SZ.out (by omega) (by omega) w1 HK.out.own.at (OwnSp.at HV1.out) (HU1.out.at lenLt)
            rw [← HT2.out, hlen1] at LAP
            have LAH := Lib.hid LAP
            have hbx := HK.out.box
            have c0 := hbx.c0; have c1 := hbx.c1; have c2 := hbx.c2; have c3 := hbx.c3; have c4 := hbx.c4; have xg := hbx.lt
            have hw1 : w.heap.size ≤ w8.heap.size := HW8.out.size
            have hg10 : w.heap.size ≤ g10 := Nat.le_trans hw06 hw67
            have HW1 := Lib.hid (HW8.out.trans (HTC.out.toBelow (B := w.heap.size) (fun b hb => by rw [List.mem_singleton.1 hb]; exact hg10) hw1))
            clear hbx hK ht2 a3 a4 SK1 SK SZ2 LAP
            dsimp only at c0 c1 c2 c3 c4
            go_wp2_with fail
            refine LAH.out.mono ?_; rintro e w9 ⟨z2, v9, u9, rfl, hzo, hvo, huo, -, -, -, hb9⟩
            obtain ⟨bco, bcc, buo, buc, bvs, beo, bec, bro, brc, rfl⟩ := KOwn.shapes hzo
            obtain ⟨bo, bc, hv9, -, -, -⟩ := Own.shape hvo
            rw [a1] at hv9
            subst hv9
            obtain ⟨ro9, rc9, hu9, -, -, -⟩ := Own.shape huo
            rw [a2, List.length_nil] at hu9
            subst hu9
            have bx9 := HK.out.box.below hb9
            have d0 := bx9.c0; have d1 := bx9.c1; have d2 := bx9.c2; have d3 := bx9.c3; have d4 := bx9.c4; have f0 := bx9.f0; have f1 := bx9.f1; have f2 := bx9.f2; have f3 := bx9.f3; have f4 := bx9.f4; have xg9 := bx9.lt
            dsimp only at d0 d1 d2 d3 d4
            have hll := lateTo_len (4 * sp.length)
            have m1 : wrap64 (4 * ((sp.length : Nat) : Int)) = 4 * ((sp.length : Nat) : Int) := IntWalk.wrap64_in _ (by omega)
            have m2 : IntKind.i64.wrap (4 * ((sp.length : Nat) : Int)) = 4 * ((sp.length : Nat) : Int) := IntWalk.i64_in _ (by omega)
            have HZO := Lib.hid hzo; have HVO := Lib.hid hvo
            have HW9 := Lib.hid (HW1.out.trans (hb9.mono HW1.out.size))
            have hw91 := hb9.size
            clear bx9 hzo hvo huo hb9 LAH c0 c1 c2 c3 c4
            simp only [KV.val]
            go_upto_region 21 with fail
            have hgz : g10 ∉ blocks (⟨⟨⟨.slice bco bvs.length bcc, .slice buo t2.k.m.f.used.length buc, bvs⟩, .slice beo t2.k.m.ents.length bec⟩, .slice bro t2.k.refuse.length brc⟩ : KV).all := fun hm => by have h1 := (HZO.out.lts _ hm).1; omega
            have hgv : ∀ b ∈ blocks [(.slice bo sp.length bc : Value)], b ∉ [g10] := fun b hb hm => by have h1 := (Own.lts HVO.out b hb).1; have := List.mem_singleton.1 hm; omega
            have tS : Touch [g10] w9 (((((w9.setCell ⟨g10, 0, none⟩ (.slice bco bvs.length bcc)).setCell ⟨g10, 1, none⟩ (.slice buo t2.k.m.f.used.length buc)).setCell ⟨g10, 2, none⟩ (.slice beo t2.k.m.ents.length bec)).setCell ⟨g10, 3, none⟩ (.int .i64 t2.k.calls)).setCell ⟨g10, 4, none⟩ (.slice bro t2.k.refuse.length brc)) := touch_bx (touch_bx (touch_bx (touch_bx (touch_bx (Touch.refl _ _)))))
            have HZT := Lib.hid (HZO.out.touch tS (fun b hb hm => hgz (by rw [← List.mem_singleton.1 hm]; exact hb)))
            have HVT := Lib.hid (Own.touch HVO.out tS (fun b hb => hgv b (mem_one hb)))
            have HWT := Lib.hid (HW9.out.trans (tS.toBelow (B := w.heap.size) (fun b hb => by rw [List.mem_singleton.1 hb]; exact hg10) HW9.out.size))
            have BXT : BoxAt (((((w9.setCell ⟨g10, 0, none⟩ (.slice bco bvs.length bcc)).setCell ⟨g10, 1, none⟩ (.slice buo t2.k.m.f.used.length buc)).setCell ⟨g10, 2, none⟩ (.slice beo t2.k.m.ents.length bec)).setCell ⟨g10, 3, none⟩ (.int .i64 t2.k.calls)).setCell ⟨g10, 4, none⟩ (.slice bro t2.k.refuse.length brc)) g10 [.slice bco bvs.length bcc, .slice buo t2.k.m.f.used.length buc, .slice beo t2.k.m.ents.length bec, .int .i64 t2.k.calls, .slice bro t2.k.refuse.length brc] := (BoxAt.snoc (BoxAt.snoc (BoxAt.snoc (BoxAt.snoc (BoxAt.snoc (BoxAt.nil (w := (((((w9.setCell ⟨g10, 0, none⟩ (.slice bco bvs.length bcc)).setCell ⟨g10, 1, none⟩ (.slice buo t2.k.m.f.used.length buc)).setCell ⟨g10, 2, none⟩ (.slice beo t2.k.m.ents.length bec)).setCell ⟨g10, 3, none⟩ (.int .i64 t2.k.calls)).setCell ⟨g10, 4, none⟩ (.slice bro t2.k.refuse.length brc))) (g := g10) (by simp only [World.size_setCell]; exact xg9)) (v := .slice bco bvs.length bcc) (i := 0) rfl (by go_simp) (by go_simp)) (v := .slice buo t2.k.m.f.used.length buc) (i := 1) rfl (by go_simp) (by go_simp)) (v := .slice beo t2.k.m.ents.length bec) (i := 2) rfl (by go_simp) (by go_simp)) (v := .int .i64 t2.k.calls) (i := 3) rfl (by go_simp) (by go_simp)) (v := .slice bro t2.k.refuse.length brc) (i := 4) rfl (by go_simp) (by go_simp))
            have HBX := Lib.hid BXT
            obtain ⟨wt, hwt⟩ : ∃ q, q = (((((w9.setCell ⟨g10, 0, none⟩ (.slice bco bvs.length bcc)).setCell ⟨g10, 1, none⟩ (.slice buo t2.k.m.f.used.length buc)).setCell ⟨g10, 2, none⟩ (.slice beo t2.k.m.ents.length bec)).setCell ⟨g10, 3, none⟩ (.int .i64 t2.k.calls)).setCell ⟨g10, 4, none⟩ (.slice bro t2.k.refuse.length brc)) := ⟨_, rfl⟩
            rw [← hwt] at HZT HVT HWT HBX ⊢
            clear hwt BXT tS hgz hgv d0 d1 d2 d3 d4 f0 f1 f2 f3 f4 HZO HVO HW9
            go_wp2_with fail
            go_loopw [15] (fun i wr => ∃ j : Nat, j ≤ sp.length ∧ i = .int .i64 (j : Nat) ∧ Below wt.heap.size wt wr) (fun i _ => sp.length - (intOf i).toNat)
            case atStart => exact ⟨0, Nat.zero_le _, rfl, Below.refl _ _⟩
            case round =>
              obtain ⟨j, hj, rfl, hbel⟩ := hrel
              have HBJ := Lib.hid hbel
              clear hbel
              obtain ⟨w1, rfl⟩ : ∃ q, q = wr := ⟨_, rfl⟩
              by_cases hjl : j < sp.length
              · have hjI : (j : Int) < (sp.length : Nat) := by omega
                obtain ⟨s2, hs2⟩ := getx (xs := t2.sp) (k := j) (by omega)
                obtain ⟨gv, gvc, he, -, -⟩ := Own.addr HVT.out (by omega)
                simp only [Value.slice.injEq] at he
                obtain ⟨rfl, -, rfl⟩ := he
                obtain ⟨-, hgs, -, ecx⟩ := Own.slot HVT.out lenSpan hs2
                have cx : w1.cell? ⟨gv, j * 3 + 2, none⟩ = some (.int .i64 s2.b) := (HBJ.out.cell (p := ⟨gv, j * 3 + 2, none⟩) hgs).trans (ecx 2 _ rfl)
                have xgv : gv < w1.heap.size := Nat.lt_of_lt_of_le hgs HBJ.out.size
                have hand := HA4.out j s2 hs2
                clear ecx hs2 hgs
                go_wp2_with fail
                go_roundw
                case rel => exact ⟨j + 1, by omega, by go_num, HBJ.out⟩
                case measure => simp [intOf]; omega
              · obtain rfl : j = sp.length := by omega
                have hjI : ¬ (sp.length : Int) < (sp.length : Nat) := by omega
                have bj := HBX.out.below HBJ.out
                have e0 := (bj.cells 0 _ rfl).1; have e1 := (bj.cells 1 _ rfl).1; have e2 := (bj.cells 2 _ rfl).1; have e3 := (bj.cells 3 _ rfl).1; have e4 := (bj.cells 4 _ rfl).1; have xj := bj.lt
                clear bj
                go_wp2_with (first | (go_at_call 11; (refine (i_KernelOk ⟨⟨⟨.slice bco bvs.length bcc, .slice buo t2.k.m.f.used.length buc, bvs⟩, .slice beo t2.k.m.ents.length bec⟩, .slice bro t2.k.refuse.length brc⟩ t2.k true HA3.out _ (KAt.below (KOwn.at HZT.out) HBJ.out)).mono ?_; rintro e w2 ⟨rfl, hb⟩; have HBK := Lib.hid hb; clear hb)))
                skip
                have hB := HWT.out; have hBJ := HBJ.out; have hBK := HBK.out; have hzt := hB.size; have hzj := hBJ.size
                go_ret
                exact ⟨by first | rfl | simp_all, by exact bel⟩

namespace fnLate
set_option maxRecDepth 100000 in
theorem contract (H : Type) (enc : TypeId × Value → H) (W : World) (base : Nat) (args : Array Value) (ds gs : List (DataW H)) (before : List MemPlace)
    (hval : ∀ (j : Nat) t v, Try.f3.params[j]? = some t → args[j]? = some v → Value.okWide Try.prog W .any base t v)
    (hW : DataW.Whole enc Try.prog Try.f3.params.toList Rows.fnLateSpec.vars false W args.toList ds gs before) :
    Calls Try.prog 3 args W fun e W' => ∃ v, e = .returned v ∧ Rows.fnLateSpec.post enc Try.prog Try.f3 false true false false W args v W' := by
  have hW' := hW
  obtain ⟨p, q, hA0, hV, rfl, hfz, hnd⟩ := hW
  have hA : DataW.TrodAll enc Try.prog W 0 (fun _ => true) true Try.f3.params.toList args.toList ds p := hA0
  rw [Try.params3] at hA hval
  obtain ⟨v0, vs0, d0, ds0, p0, q0, hargs, rfl, rfl, h0, r0⟩ := trodAll_cons hA
  obtain ⟨rfl, rfl, rfl⟩ := trodAll_nil r0
  obtain rfl : args = #[v0] := by cases args; simp_all
  obtain ⟨rfl, rfl⟩ := trodVars_none hV
  obtain ⟨n, hv⟩ := bytes_open Try.underlying22 Try.underlying5 (by kernel_rfl) (hval 0 22 v0 rfl rfl) h0
  clear hA0
  refine (w_FnLate v0 n W hv).mono fun e W' ⟨he, hg⟩ => ?_
  subst he
  exact ⟨_, rfl, law_post (tb := 4) laidOut (by kernel_rfl) rfl rfl Try.underlying4 hW' rfl rfl rfl hg⟩
set_option maxRecDepth 100000 in
theorem lifted (os : Os) (started : os.Started) (H : Type) (enc : TypeId × Value → H) :
    ReturnsInHanded {} Try.checked os 3 .any (Rows.fnLateSpec.pre6 enc Try.prog Try.f3 Rows.fnLateRow.domain false) (Rows.fnLateSpec.post enc Try.prog Try.f3 false true false false) := by
  refine returnsInHanded_of_change (C := Try.checked) own started (by kernel_rfl) Try.func3
    (ChangeSpec.witness6 (enc := enc) (C := Try.checked) false ⟨#[], #[.slice none 0 0], []⟩ 8 (by kernel_rfl) (by kernel_rfl) (by kernel_rfl) (by kernel_rfl)) ?_
  intro W base args ds gs before hval hW _ _
  exact contract H enc W base args ds gs before hval hW
/-- The statement. -/
theorem proved : Rows.FnLateSaid :=
  OpenClaim.holds_of_wide 3 Try.f3 rfl rfl rfl rfl rfl rfl rfl ⟨rfl, rfl, rfl, rfl, rfl⟩ rfl rfl rfl rfl rfl (by kernel_rfl) Try.func3 (by kernel_rfl)
    (of_decide_eq_true (by kernel_rfl)) (by unfold Func.isWrapper; first | (rw [if_pos (by decide +kernel)]; kernel_rfl) | (rw [if_neg (by decide +kernel)]; exact ⟨rfl, rfl⟩))
    (fun os started H enc _ => lifted os started H enc)
end fnLate

end Go.Proofs.Ytobechjagckdfaa
