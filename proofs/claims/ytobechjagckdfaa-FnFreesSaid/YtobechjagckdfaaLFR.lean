/- 'laws.FnFrees' returns true, whatever the bytes: no condition. -/
import Derived.Test.YtobechjagckdfaaGFR17
import Derived.Test.YtobechjagckdfaaGFR11
import Derived.Test.YtobechjagckdfaaGFR18
import Derived.Deep.RegionHeld3
set_option linter.unusedVariables false
set_option linter.unusedSimpArgs false
namespace Go.Proofs.Ytobechjagckdfaa
open Go.Deep Go.ChangeShapes Go.WideShapes Go.ChangeAt Go.RowKit
structure FrP (K K2 : Ker) (p b b' s : Nat) (o z oz c va fa vb q2 : Int) : Prop where
  free : ∀ x, szK K ≤ 1048576 → ∀ W, KAt W x K → Calls Try.prog 13 #[x.val K.calls, .agg #[.int .i64 (p : Int), .int .i64 c, .int .i64 (b : Int)], .int .i64 (s : Int)] W (NewKS W K2 (p : Int) c (b' : Int) 0)
  no : hasSlot (b' : Int) (s : Int) = false
  tq : q2.tmod 16 = o
  ldA : ∀ x W, MAt W x K.m → Calls Try.prog 17 #[x.val, .int .i64 (16 * (p : Int) + o)] W fun e w' => e = .returned (.tuple #[.int .i64 va, .int .i64 fa]) ∧ Below W.heap.size W w'
  ldB : ∀ x W, MAt W x K2.m → Calls Try.prog 18 #[x.val, .int .i64 (16 * (p : Int) + o)] W fun e w' => e = .returned (.tuple #[.int .i64 vb, .int .i64 0]) ∧ Below W.heap.size W w'
  clr : ∀ x W, KAt W x K2 → Calls Try.prog 19 #[x.val K2.calls, .agg #[.int .i64 (p : Int), .int .i64 c, .int .i64 (b : Int)], .int .i64 (s : Int)] W fun e w' => e = .returned (.bool true) ∧ Below W.heap.size W w'
  cls : ∀ W, Calls Try.prog 20 #[.int .i64 c] W fun e w' => e = .returned (.int .i64 z) ∧ W = w'
  zI : ¬ z = 0
  m1 : wrap64 (16 * (p : Int)) = 16 * (p : Int)
  m2 : IntKind.i64.wrap (16 * (p : Int)) = 16 * (p : Int)
  m3 : wrap64 (16 * (p : Int) + o) = 16 * (p : Int) + o
  m4 : IntKind.i64.wrap (16 * (p : Int) + o) = 16 * (p : Int) + o
  m5 : wrap64 o = o
  dq : o.tdiv z = oz
  wq : wrap64 oz = oz
  or : (oz == (s : Int)) = true ∨ ((oz == (s : Int)) = false ∧ (va == vb) = true)
theorem frees_pack {K : Ker} {sp : List Sp} {c : Int} {n i p b s : Nat} {ef q2 : Int} (h : SInv K sp c n) (hs : sp[i]? = some ⟨(p : Int), c, (b : Int)⟩) (he : K.m.ents[p]? = some ⟨2, ef⟩) (hs16 : s < 16) (hbit : b.testBit s = true) (b2 : 0 ≤ q2 ∧ q2 ≤ 9999) :
    ∃ (K2 : Ker) (b' : Nat) (o z oz va fa vb : Int), FrP K K2 p b b' s o z oz c va fa vb q2 := by
  obtain ⟨FC, b', FB, hb'lt, hbits, -⟩ := free_done h hs he rfl hs16 hbit
  have hb'65 := pow_slots h.cls hb'lt
  have SC := slotClear_done h hs he rfl hs16 hbit
  obtain ⟨o, ho, ho16, -, how⟩ := tmod_nat (m := 16) b2.1 (by decide) (by decide)
  have HO := Lib.hid ho
  clear ho b2
  obtain ⟨LF1, LF2⟩ := free_load h hs he rfl hs16 hbit (j := o) ho16
  obtain ⟨z, hz⟩ := Int.eq_ofNat_of_zero_le (classSize_bound c).1
  have hz1 : 1 ≤ z ∧ z ≤ 8 := by rcases slots_cases h.cls with h | h | h | h <;> have := h.2 <;> omega
  have hzz : (classSize c).toNat = z := by rw [hz]; rfl
  obtain ⟨p1, b1, hsp, hpn, -, -⟩ := h.span i _ hs
  have hpp : p = p1 := by simp only [Sp.mk.injEq] at hsp; omega
  have hp31 : p ≤ 31 := by have := h.n31; omega
  rw [hzz] at LF2
  have hq : o / z ≤ o := Nat.div_le_self o z
  refine ⟨freeK K p c b s, b', (o : Int), (z : Int), ((o / z : Nat) : Int), loadV K.m (16 * (p : Int) + (o : Int)), loadF K.m (16 * (p : Int) + (o : Int)), loadV (freeK K p c b s).m (16 * (p : Int) + (o : Int)), ⟨?_, ?_, HO.out, ?_, ?_, ?_, ?_, by omega, ?_, ?_, ?_, ?_, how, ?_, ?_, ?_⟩⟩
  · intro x hsz W hx
    have := i_FreeSlot x K (p : Int) c (b : Int) (s : Int) hsz W hx
    rwa [FC, FB] at this
  · rw [hasSlot_bit b' s hb'65 hs16, hbits s]; simp
  · intro x W hx; exact s_Load x K.m _ (by omega) W hx
  · intro x W hx
    have := i_Load x (freeK K p c b s).m (16 * (p : Int) + (o : Int)) (by omega) W hx
    rwa [LF1] at this
  · intro x W hx
    have := i_SlotClear x (freeK K p c b s) (p : Int) c (b : Int) (s : Int) W hx
    rwa [SC] at this
  · intro W
    have := s_ClassSize c W
    rwa [hz] at this
  · exact IntWalk.wrap64_in _ (by omega)
  · exact IntWalk.i64_in _ (by omega)
  · exact IntWalk.wrap64_in _ (by omega)
  · exact IntWalk.i64_in _ (by omega)
  · rw [← Int.ofNat_tdiv]
  · exact nat_wrap (Nat.le_trans hq (by omega))
  · by_cases e : o / z = s
    · exact .inl (by rw [e]; exact beq_self_eq_true _)
    · exact .inr ⟨beq_false_of_ne (fun h => e (Int.ofNat_inj.1 h)), by rw [LF2, if_neg e]; exact beq_self_eq_true _⟩
theorem eqlSp (w : World) (a b c d e f : Int) : (binOp .eql 49 (.agg #[.int .i64 a, .int .i64 b, .int .i64 c]) (.agg #[.int .i64 d, .int .i64 e, .int .i64 f])).run Try.prog w = .ok (.bool ((a == d) && ((b == e) && (c == f)))) w := by
  rw [run_eql_struct, run_equalIn_agg (P := Try.prog) w 9999 _ _ _ (by kernel_rfl) (by kernel_rfl)]
  by_cases h1 : a = d
  · subst h1
    by_cases h2 : b = e
    · subst h2
      by_cases h3 : c = f
      · subst h3
        simp [go_sem]
      · simp [go_sem, h3]
    · simp [go_sem, h2]
  · simp [go_sem, h1]
attribute [go_sem ↓] eqlSp
set_option maxRecDepth 20000 in
set_option maxHeartbeats 6400000 in
theorem w_FnFrees (v : Value) (n : Nat) (w : World) (hv : BytesAt w.heap.size w v n) : Calls Try.prog 4 #[v] w fun e w' => e = .returned (.bool true) ∧ Below w.heap.size w w' := by
  have HV := Lib.hid hv; clear hv
  by_cases hbig : (1048576 : Int) < n
  · (have hall := all_nil w; go_enter Try.func4, Try.ntmps4)
    go_wp2_with (go_at_call 5; refine (l_big _ n _ HV.out).mono ?_; rintro e w1 ⟨rfl, rfl⟩)
    all_goals (go_ret; refine ⟨by simp_all [], ?_⟩; exact bel)
  · (have hall := all_nil w; go_enter Try.func4, Try.ntmps4)
    go_wp2_with (go_at_call 5; refine (l_big _ n _ HV.out).mono ?_; rintro e w1 ⟨rfl, rfl⟩)
    refine (s_DrawPages _ n _ HV.out).mono ?_; rintro e w2 ⟨y, K, lv, sp, c, rfl, hinv, hcl, hsp, hko, hso, hap, hb⟩
    obtain ⟨yco, ycc, yuo, yuc, yvs, yeo, yec, yro, yrc, rfl⟩ := KOwn.shapes hko
    obtain ⟨so, scp, rfl, -, -, -⟩ := Own.shape hso
    have HI := Lib.hid hinv; have HKA := Lib.hid hko.at; have HSA := Lib.hid (OwnSp.at hso); have HW := Lib.hid hb
    have hz2 := hb.size
    have HSZ : Hid (szK K ≤ 1048576) := Lib.hid (by have h1 := mok_sz hinv.ok; have h2 := hinv.rl; have := mok_szK hinv.ok; omega)
    clear hinv hko hso hap hb
    simp only [KV.val]
    go_wp2_with fail
    have up3 : Below w2.heap.size w2 (w2.alloc (.cells #[.slice yco yvs.length ycc, .slice yuo K.m.f.used.length yuc, .slice yeo K.m.ents.length yec, .int .i64 K.calls, .slice yro K.refuse.length yrc] 35)) := (Below.refl _ _).alloc (Nat.le_refl _) _
    have BX3 : BoxAt (w2.alloc (.cells #[.slice yco yvs.length ycc, .slice yuo K.m.f.used.length yuc, .slice yeo K.m.ents.length yec, .int .i64 K.calls, .slice yro K.refuse.length yrc] 35)) w2.heap.size [.slice yco yvs.length ycc, .slice yuo K.m.f.used.length yuc, .slice yeo K.m.ents.length yec, .int .i64 K.calls, .slice yro K.refuse.length yrc] := BoxAt.snoc (BoxAt.snoc (BoxAt.snoc (BoxAt.snoc (BoxAt.snoc (BoxAt.nil (by go_simp)) rfl (by go_simp) (by go_simp)) rfl (by go_simp) (by go_simp)) rfl (by go_simp) (by go_simp)) rfl (by go_simp) (by go_simp)) rfl (by go_simp) (by go_simp)
    refine (s_DrawPlaces _ n _ (BytesAt.grewN HV.out (HW.out.trans (up3.mono hz2)))).mono ?_; rintro e w4 ⟨pv, ps, rfl, hown, hxl, hxs, hb4⟩
    obtain ⟨pg, pc, rfl, hgB, hg, hcell⟩ := places_at hown hxl
    have p0 := hcell 0 (by omega); have p1 := hcell 1 (by omega); have p2 := hcell 2 (by omega)
    have b0 := places_in hxl hxs 0 (by omega); have b1 := places_in hxl hxs 1 (by omega); have b2 := places_in hxl hxs 2 (by omega)
    have up4 : Below w2.heap.size w2 w4 := up3.trans (hb4.mono up3.size)
    have HK4 := Lib.hid (HKA.out.below up4); have HS4 := Lib.hid (HSA.out.below up4); have HB4 := Lib.hid (BX3.below hb4); have HW4 := Lib.hid (HW.out.trans (up4.mono hz2))
    clear up3 up4 BX3 hown hxl hxs hb4 hcell HKA HSA HW hgB
    generalize ps.getD 0 0 = q0 at *; generalize ps.getD 1 0 = q1 at *; generalize ps.getD 2 0 = q2 at *
    generalize w2.heap.size = g3 at *
    have bx := HB4.out
    have k0 := (bx.cells 0 _ rfl).1; have k1 := (bx.cells 1 _ rfl).1; have k2 := (bx.cells 2 _ rfl).1; have k3 := (bx.cells 3 _ rfl).1; have k4 := (bx.cells 4 _ rfl).1; have xb := bx.lt
    clear bx
    rcases Nat.eq_zero_or_pos sp.length with h0 | hpos
    · obtain rfl : sp = [] := List.length_eq_zero_iff.1 h0
      have FN := Lib.hid (free_none HI.out)
      go_wp2_with (first | (go_at_call 13; (refine (i_FreeSlot (⟨⟨⟨.slice yco yvs.length ycc, .slice yuo K.m.f.used.length yuc, yvs⟩, .slice yeo K.m.ents.length yec⟩, .slice yro K.refuse.length yrc⟩ : KV) K 0 0 1 0 HSZ.out _ HK4.out).mono ?_; rintro e w9 ⟨z, rfl, hyo5, hb5⟩; (obtain ⟨zco, zcc, zuo, zuc, zvs, zeo, zec, zro, zrc, rfl⟩ := KOwn.shapes hyo5); rw [FN.out]; simp only [KV.val]; have HB5 := Lib.hid hb5; have hz5 := hb5.size; clear hyo5 hb5; obtain ⟨w5, rfl⟩ : ∃ q, q = w9 := ⟨_, rfl⟩)))
      have hB := HW4.out; have hB5 := HB5.out; have hzz := hB.size
      go_ret
      exact ⟨rfl, by exact bel⟩
    · have hpI : ¬ ((sp.length : Nat) : Int) = 0 := by omega
      obtain ⟨i0, hi0, hil, hiI, hi0w⟩ := tmod_nat b0.1 hpos (by omega)
      have HI0 := Lib.hid hi0
      clear hi0
      obtain ⟨s0, hs0⟩ := getx hil
      obtain ⟨p, b, rfl, hpn, hblt, ⟨em, ef⟩, hen, hem⟩ := HI.out.span i0 s0 hs0
      obtain ⟨ao, ca, he, -, -, hry⟩ := HS4.out.open
      simp only [Value.slice.injEq] at he
      obtain ⟨rfl, -, rfl⟩ := he
      obtain ⟨gy, oy, rfl, hgy, y0, y1, y2⟩ := hry i0 hil
      rw [getD_of hs0] at y0 y1 y2
      dsimp only at y0 y1 y2
      clear hry
      obtain ⟨m, hm⟩ := Int.eq_ofNat_of_zero_le (slotsOf_bound c).1
      have hmp : 0 < m ∧ m ≤ 16 := by rcases slots_cases HI.out.cls with h | h | h | h <;> have := h.1 <;> omega
      obtain ⟨s, hsv, hsm, hsI, hsw⟩ := tmod_nat b1.1 hmp.1 (by omega)
      have HSV := Lib.hid hsv; have HM := Lib.hid hm
      have hmI : ¬ (m : Int) = 0 := by omega
      have HSL := Lib.hid (fun W => by have := s_SlotsOf c W; rwa [hm] at this : ∀ W, Calls Try.prog 14 #[.int .i64 c] W fun e w' => e = .returned (.int .i64 (m : Int)) ∧ W = w')
      clear hm hsv
      have hmB : ((m : Int) == 0) = false := by simpa using hmI
      have hmP : (0 : Int) < (m : Int) := Int.natCast_pos.2 hmp.1
      have hsw2 : IntKind.i64.wrap (s : Int) = s := nat_wrapI (Nat.le_trans (Nat.le_of_lt hsm) (Nat.le_trans hmp.2 (by decide)))
      have hi0 := HI0.out
      go_wp2_with fail
      clear hi0
      have hsv := HSV.out
      with_reducible refine wp_region_grew2 (by kernel_rfl) (by kernel_rfl) ?_
      intro w5 hb5
      have p15 : w5.cell? ⟨pg, 1, none⟩ = some (.int .i64 q1) := (hb5.cell (p := ⟨pg, 1, none⟩) (by simp only [World.size_alloc]; exact Nat.lt_succ_of_lt hg)).trans (by go_simp)
      have r15 : w5.cell? ⟨w4.heap.size, 1, none⟩ = some (.int .i64 c) := (hb5.cell (p := ⟨w4.heap.size, 1, none⟩) (by simp only [World.size_alloc]; exact Nat.lt_succ_self _)).trans (by go_simp)
      have xq0 := hb5.size
      simp only [World.size_alloc] at xq0
      have xq9 : w4.heap.size < w5.heap.size := xq0
      have xqp : pg < w5.heap.size := Nat.lt_trans hg xq9
      repeat (go_big_quiet_step ((go_at_call 14; exact calls_same (HSL.out _))))
      refine wpQuiet_nil ?_
      intro w6 hw'
      have hb6 := grew_below hw'
      clear hw' hsv p15 r15 xq0 xq9 xqp
      have upA : Below w4.heap.size w4 (w4.alloc (.cells #[.int .i64 (p : Int), .int .i64 c, .int .i64 (b : Int)] 49)) := (Below.refl _ _).alloc (Nat.le_refl _) _
      have hb56 := hb5.trans (hb6.mono hb5.size)
      have up6 : Below w4.heap.size w4 w6 := upA.trans (hb56.mono upA.size)
      have BX9 : BoxAt w6 w4.heap.size [.int .i64 (p : Int), .int .i64 c, .int .i64 (b : Int)] := (BoxAt.snoc (BoxAt.snoc (BoxAt.snoc (BoxAt.nil (w := w4.alloc (.cells #[.int .i64 (p : Int), .int .i64 c, .int .i64 (b : Int)] 49)) (by go_simp)) rfl (by go_simp) (by go_simp)) rfl (by go_simp) (by go_simp)) rfl (by go_simp) (by go_simp)).below hb56
      have hz4 : w4.heap.size < w6.heap.size := BX9.lt
      have HK6 := Lib.hid (HK4.out.below up6); have HB6 := Lib.hid (HB4.out.below up6); have HW6 := Lib.hid (HW4.out.trans (up6.mono HW4.out.size))
      have HB9 := Lib.hid BX9
      have hpg6 : pg < w6.heap.size := Nat.lt_trans hg hz4
      have p26 : w6.cell? ⟨pg, 2, none⟩ = some (.int .i64 q2) := (up6.cell (p := ⟨pg, 2, none⟩) hg).trans p2
      have HP2 := Lib.hid p26
      clear p0 p1 p2 k0 k1 k2 k3 k4 y0 y1 y2 up6 upA hb5 hb6 hb56 BX9 HK4 HB4 HW4 HS4 p26 HI0 HSV HSL hi0w hsw hsw2 hpI
      have hzw := HW6.out.size
      generalize w4.heap.size = g9 at *
      have FREE := Lib.hid (fun W (h : KAt W (⟨⟨⟨.slice yco yvs.length ycc, .slice yuo K.m.f.used.length yuc, yvs⟩, .slice yeo K.m.ents.length yec⟩, .slice yro K.refuse.length yrc⟩ : KV) K) => i_FreeSlot (⟨⟨⟨.slice yco yvs.length ycc, .slice yuo K.m.f.used.length yuc, yvs⟩, .slice yeo K.m.ents.length yec⟩, .slice yro K.refuse.length yrc⟩ : KV) K (p : Int) c (b : Int) (s : Int) HSZ.out W h)
      have hs16 : s < 16 := by omega
      have hcode := free_code HI.out hs0 hen s hs16
      have hb65 := pow_slots HI.out.cls hblt
      cases hbit : b.testBit s
      · have FC : freeCode K (p : Int) c (b : Int) (s : Int) = 1 := by rw [hcode, hbit]; rfl
        have FK : freeK K (p : Int) c (b : Int) (s : Int) = K := by unfold freeK; rw [FC]; rfl
        have FB : freeB K (p : Int) c (b : Int) (s : Int) = (b : Int) := by unfold freeB; rw [FC]; rfl
        have FR := FREE.out
        rw [FC, FK, FB] at FR
        replace FREE := Lib.hid FR
        have hhs : hasSlot (b : Int) (s : Int) = false := by rw [hasSlot_bit b s hb65 hs16]; exact hbit
        clear FC FK FB FR hcode
        have x1 : ((p : Int) == (p : Int)) = true := beq_self_eq_true _; have x2 : (c == c) = true := beq_self_eq_true _; have x3 : ((b : Int) == (b : Int)) = true := beq_self_eq_true _
        have xb3 := HB6.out.lt; have xb9 := HB9.out.lt; have m0 := (HB6.out.cells 0 _ rfl).1; have m1 := (HB6.out.cells 1 _ rfl).1; have m2 := (HB6.out.cells 2 _ rfl).1; have m3 := (HB6.out.cells 3 _ rfl).1; have m4 := (HB6.out.cells 4 _ rfl).1; have r0 := (HB9.out.cells 0 _ rfl).1; have r1 := (HB9.out.cells 1 _ rfl).1; have r2 := (HB9.out.cells 2 _ rfl).1; have p2 := HP2.out
        go_wp2_with (first | (go_at_call 13; (refine (FREE.out _ HK6.out).mono ?_; rintro e w2 ⟨z, rfl, hyo5, hb⟩; (obtain ⟨zco, zcc, zuo, zuc, zvs, zeo, zec, zro, zrc, rfl⟩ := KOwn.shapes hyo5); simp only [KV.val]; have OZ := Lib.hid hyo5; have HB5 := Lib.hid hb; obtain ⟨kw9_g3_0, kw9_g3_1, kw9_g3_2, kw9_g3_3, kw9_g3_4⟩ := kp5 hb (g3) (.slice yco yvs.length ycc) (.slice yuo K.m.f.used.length yuc) (.slice yeo K.m.ents.length yec) (.int .i64 K.calls) (.slice yro K.refuse.length yrc); obtain ⟨kw9_g9_0, kw9_g9_1, kw9_g9_2⟩ := kp3 hb (g9) (.int .i64 (p : Int)) (.int .i64 c) (.int .i64 (b : Int)); have kw9_pg_2 : w2.cell? ⟨pg, 2, none⟩ = some (.int .i64 q2) := kc hb; have xw9_g3 : g3 < w2.heap.size := xc hb; have xw9_g9 : g9 < w2.heap.size := xc hb; have xw9_pg : pg < w2.heap.size := xc hb; have hzw9 := hb.size; (try simp only [World.size_alloc, World.size_setCell, World.size_drew] at hzw9); clear hyo5; obtain ⟨w9, rfl⟩ : ∃ x, x = w2 := ⟨_, rfl⟩)) | (go_at_call 15; (refine (s_HasSlot (b : Int) (s : Int) false hhs _).mono ?_); rintro e w2 ⟨rfl, rfl⟩))
        skip
        have hB := HW6.out; have hB5 := HB5.out
        go_ret
        exact ⟨by simp_all, by exact bel⟩
      · have hhs : hasSlot (b : Int) (s : Int) = true := by rw [hasSlot_bit b s hb65 hs16]; exact hbit
        have PE : pageEntry K.m.ents (p : Int) = ⟨em, ef⟩ := pageEntry_at hen
        have HPE := Lib.hid (fun W (h : EntAt W (.slice yeo K.m.ents.length yec) K.m.ents) => by have := s_PageEntry _ K.m.ents (p : Int) W h; rwa [PE] at this : ∀ W (h : EntAt W (.slice yeo K.m.ents.length yec) K.m.ents), Calls Try.prog 10 #[.agg #[.slice yeo K.m.ents.length yec], .int .i64 (p : Int)] W fun e w' => e = .returned (.agg #[.int .i64 em, .int .i64 ef]) ∧ Below W.heap.size W w')
        rcases hem with h1 | h2
        · (try dsimp only at h1)
          subst h1
          have FC : freeCode K (p : Int) c (b : Int) (s : Int) = 2 := by rw [hcode, hbit]; rfl
          have FK : freeK K (p : Int) c (b : Int) (s : Int) = K := by unfold freeK; rw [FC]; rfl
          have FB : freeB K (p : Int) c (b : Int) (s : Int) = (b : Int) := by unfold freeB; rw [FC]; rfl
          have FR := FREE.out
          rw [FC, FK, FB] at FR
          replace FREE := Lib.hid FR
          clear FC FK FB FR hcode
          have x1 : ((p : Int) == (p : Int)) = true := beq_self_eq_true _; have x2 : (c == c) = true := beq_self_eq_true _; have x3 : ((b : Int) == (b : Int)) = true := beq_self_eq_true _
          have xb3 := HB6.out.lt; have xb9 := HB9.out.lt; have m0 := (HB6.out.cells 0 _ rfl).1; have m1 := (HB6.out.cells 1 _ rfl).1; have m2 := (HB6.out.cells 2 _ rfl).1; have m3 := (HB6.out.cells 3 _ rfl).1; have m4 := (HB6.out.cells 4 _ rfl).1; have r0 := (HB9.out.cells 0 _ rfl).1; have r1 := (HB9.out.cells 1 _ rfl).1; have r2 := (HB9.out.cells 2 _ rfl).1; have p2 := HP2.out
          go_wp2_with (first | (go_at_call 13; (refine (FREE.out _ HK6.out).mono ?_; rintro e w2 ⟨z, rfl, hyo5, hb⟩; (obtain ⟨zco, zcc, zuo, zuc, zvs, zeo, zec, zro, zrc, rfl⟩ := KOwn.shapes hyo5); simp only [KV.val]; have OZ := Lib.hid hyo5; have HB5 := Lib.hid hb; obtain ⟨kw9_g3_0, kw9_g3_1, kw9_g3_2, kw9_g3_3, kw9_g3_4⟩ := kp5 hb (g3) (.slice yco yvs.length ycc) (.slice yuo K.m.f.used.length yuc) (.slice yeo K.m.ents.length yec) (.int .i64 K.calls) (.slice yro K.refuse.length yrc); obtain ⟨kw9_g9_0, kw9_g9_1, kw9_g9_2⟩ := kp3 hb (g9) (.int .i64 (p : Int)) (.int .i64 c) (.int .i64 (b : Int)); have kw9_pg_2 : w2.cell? ⟨pg, 2, none⟩ = some (.int .i64 q2) := kc hb; have xw9_g3 : g3 < w2.heap.size := xc hb; have xw9_g9 : g9 < w2.heap.size := xc hb; have xw9_pg : pg < w2.heap.size := xc hb; have hzw9 := hb.size; (try simp only [World.size_alloc, World.size_setCell, World.size_drew] at hzw9); clear hyo5; obtain ⟨w9, rfl⟩ : ∃ x, x = w2 := ⟨_, rfl⟩)) | (go_at_call 15; (refine (s_HasSlot (b : Int) (s : Int) true hhs _).mono ?_); rintro e w2 ⟨rfl, rfl⟩) | (go_at_call 10; (refine (HPE.out _ ((HK6.out.below (by (have hB5 := HB5.out; exact bel))).m.ents)).mono ?_; rintro e w2 ⟨rfl, hb⟩; have HB7 := Lib.hid hb; obtain ⟨kwp_g3_0, kwp_g3_1, kwp_g3_2, kwp_g3_3, kwp_g3_4⟩ := kp5 hb (g3) (.slice yco yvs.length ycc) (.slice yuo K.m.f.used.length yuc) (.slice yeo K.m.ents.length yec) (.int .i64 K.calls) (.slice yro K.refuse.length yrc); obtain ⟨kwp_g9_0, kwp_g9_1, kwp_g9_2⟩ := kp3 hb (g9) (.int .i64 (p : Int)) (.int .i64 c) (.int .i64 (b : Int)); have kwp_pg_2 : w2.cell? ⟨pg, 2, none⟩ = some (.int .i64 q2) := kc hb; obtain ⟨kwp_X_0, kwp_X_1, kwp_X_2, kwp_X_3, kwp_X_4⟩ := kp5 hb (w9.heap.size) (.slice zco zvs.length zcc) (.slice zuo K.m.f.used.length zuc) (.slice zeo K.m.ents.length zec) (.int .i64 K.calls) (.slice zro K.refuse.length zrc); obtain ⟨kwp_T_0, kwp_T_1, kwp_T_2⟩ := kp3 hb (w9.heap.size + 1) (.int .i64 (p : Int)) (.int .i64 c) (.int .i64 (b : Int)); have xwp_g3 : g3 < w2.heap.size := xc hb; have xwp_g9 : g9 < w2.heap.size := xc hb; have xwp_pg : pg < w2.heap.size := xc hb; have xwp_X : w9.heap.size < w2.heap.size := xc hb; have xwp_T : w9.heap.size + 1 < w2.heap.size := xc hb; have hzwp := hb.size; (try simp only [World.size_alloc, World.size_setCell, World.size_drew] at hzwp); obtain ⟨wp, rfl⟩ : ∃ x, x = w2 := ⟨_, rfl⟩)) | (go_at_call 16; (refine (l_sameMachine (⟨⟨⟨.slice zco zvs.length zcc, .slice zuo K.m.f.used.length zuc, zvs⟩, .slice zeo K.m.ents.length zec⟩, .slice zro K.refuse.length zrc⟩ : KV).m (⟨⟨⟨.slice yco yvs.length ycc, .slice yuo K.m.f.used.length yuc, yvs⟩, .slice yeo K.m.ents.length yec⟩, .slice yro K.refuse.length yrc⟩ : KV).m K.m _ (MAt.below (KAt.m (KOwn.at OZ.out)) (by (have hB7 := HB7.out; exact bel))) ((HK6.out.below (by (have hB5 := HB5.out; have hB7 := HB7.out; exact bel))).m)).mono ?_; rintro e w2 ⟨rfl, hb⟩; have HB8 := Lib.hid hb; obtain ⟨kwr_g3_0, kwr_g3_1, kwr_g3_2, kwr_g3_3, kwr_g3_4⟩ := kp5 hb (g3) (.slice yco yvs.length ycc) (.slice yuo K.m.f.used.length yuc) (.slice yeo K.m.ents.length yec) (.int .i64 K.calls) (.slice yro K.refuse.length yrc); obtain ⟨kwr_g9_0, kwr_g9_1, kwr_g9_2⟩ := kp3 hb (g9) (.int .i64 (p : Int)) (.int .i64 c) (.int .i64 (b : Int)); have kwr_pg_2 : w2.cell? ⟨pg, 2, none⟩ = some (.int .i64 q2) := kc hb; obtain ⟨kwr_X_0, kwr_X_1, kwr_X_2, kwr_X_3, kwr_X_4⟩ := kp5 hb (w9.heap.size) (.slice zco zvs.length zcc) (.slice zuo K.m.f.used.length zuc) (.slice zeo K.m.ents.length zec) (.int .i64 K.calls) (.slice zro K.refuse.length zrc); obtain ⟨kwr_T_0, kwr_T_1, kwr_T_2⟩ := kp3 hb (w9.heap.size + 1) (.int .i64 (p : Int)) (.int .i64 c) (.int .i64 (b : Int)); have xwr_g3 : g3 < w2.heap.size := xc hb; have xwr_g9 : g9 < w2.heap.size := xc hb; have xwr_pg : pg < w2.heap.size := xc hb; have xwr_X : w9.heap.size < w2.heap.size := xc hb; have xwr_T : w9.heap.size + 1 < w2.heap.size := xc hb; have hzwr := hb.size; (try simp only [World.size_alloc, World.size_setCell, World.size_drew] at hzwr); obtain ⟨wr, rfl⟩ : ∃ x, x = w2 := ⟨_, rfl⟩)))
          skip
          have hB := HW6.out; have hB5 := HB5.out; have hB7 := HB7.out; have hB8 := HB8.out
          go_ret
          exact ⟨by simp_all, by exact bel⟩
        · (try dsimp only at h2)
          subst h2
          obtain ⟨K2, b', o, z, oz, va, fa, vb, P⟩ := frees_pack HI.out hs0 hen hs16 hbit b2
          have HP := Lib.hid P
          clear P FREE hcode PE HI hen hs0 hbit hblt hb65 b0 b1 b2
          have xb3 := HB6.out.lt; have xb9 := HB9.out.lt; have m0 := (HB6.out.cells 0 _ rfl).1; have m1 := (HB6.out.cells 1 _ rfl).1; have m2 := (HB6.out.cells 2 _ rfl).1; have m3 := (HB6.out.cells 3 _ rfl).1; have m4 := (HB6.out.cells 4 _ rfl).1; have r0 := (HB9.out.cells 0 _ rfl).1; have r1 := (HB9.out.cells 1 _ rfl).1; have r2 := (HB9.out.cells 2 _ rfl).1; have p2 := HP2.out
          have m1 := HP.out.m1; have m2 := HP.out.m2; have m3 := HP.out.m3; have m4 := HP.out.m4; have m5 := HP.out.m5; have hzI := HP.out.zI; have dq := HP.out.dq; have wq := HP.out.wq; have hno := HP.out.no; have tq := HP.out.tq
          go_upto_region 11 with (first | (go_at_call 13; (refine (HP.out.free (⟨⟨⟨.slice yco yvs.length ycc, .slice yuo K.m.f.used.length yuc, yvs⟩, .slice yeo K.m.ents.length yec⟩, .slice yro K.refuse.length yrc⟩ : KV) HSZ.out _ HK6.out).mono ?_; rintro e w2 ⟨z, rfl, hyo5, hb⟩; (obtain ⟨zco, zcc, zuo, zuc, zvs, zeo, zec, zro, zrc, rfl⟩ := KOwn.shapes hyo5); simp only [KV.val]; have OZ := Lib.hid hyo5; have HB5 := Lib.hid hb; obtain ⟨kw9_g3_0, kw9_g3_1, kw9_g3_2, kw9_g3_3, kw9_g3_4⟩ := kp5 hb (g3) (.slice yco yvs.length ycc) (.slice yuo K.m.f.used.length yuc) (.slice yeo K.m.ents.length yec) (.int .i64 K.calls) (.slice yro K.refuse.length yrc); obtain ⟨kw9_g9_0, kw9_g9_1, kw9_g9_2⟩ := kp3 hb (g9) (.int .i64 (p : Int)) (.int .i64 c) (.int .i64 (b : Int)); have kw9_pg_2 : w2.cell? ⟨pg, 2, none⟩ = some (.int .i64 q2) := kc hb; have xw9_g3 : g3 < w2.heap.size := xc hb; have xw9_g9 : g9 < w2.heap.size := xc hb; have xw9_pg : pg < w2.heap.size := xc hb; have hzw9 := hb.size; (try simp only [World.size_alloc, World.size_setCell, World.size_drew] at hzw9); clear hyo5; obtain ⟨w9, rfl⟩ : ∃ x, x = w2 := ⟨_, rfl⟩)))
          go_upto_region 13 with (first | (go_at_call 15; (refine (s_HasSlot (b : Int) (s : Int) true hhs _).mono ?_); rintro e w2 ⟨rfl, rfl⟩))
          go_upto_region 16 with (first | (go_at_call 10; (refine (HPE.out _ ((HK6.out.below (by (have hB5 := HB5.out; exact bel))).m.ents)).mono ?_; rintro e w2 ⟨rfl, hb⟩; have HB7 := Lib.hid hb; obtain ⟨kwp_g3_0, kwp_g3_1, kwp_g3_2, kwp_g3_3, kwp_g3_4⟩ := kp5 hb (g3) (.slice yco yvs.length ycc) (.slice yuo K.m.f.used.length yuc) (.slice yeo K.m.ents.length yec) (.int .i64 K.calls) (.slice yro K.refuse.length yrc); obtain ⟨kwp_g9_0, kwp_g9_1, kwp_g9_2⟩ := kp3 hb (g9) (.int .i64 (p : Int)) (.int .i64 c) (.int .i64 (b : Int)); have kwp_pg_2 : w2.cell? ⟨pg, 2, none⟩ = some (.int .i64 q2) := kc hb; obtain ⟨kwp_X_0, kwp_X_1, kwp_X_2, kwp_X_3, kwp_X_4⟩ := kp5 hb (w9.heap.size) (.slice zco zvs.length zcc) (.slice zuo K2.m.f.used.length zuc) (.slice zeo K2.m.ents.length zec) (.int .i64 K2.calls) (.slice zro K2.refuse.length zrc); obtain ⟨kwp_T_0, kwp_T_1, kwp_T_2⟩ := kp3 hb (w9.heap.size + 1) (.int .i64 (p : Int)) (.int .i64 c) (.int .i64 (b' : Int)); have xwp_g3 : g3 < w2.heap.size := xc hb; have xwp_g9 : g9 < w2.heap.size := xc hb; have xwp_pg : pg < w2.heap.size := xc hb; have xwp_X : w9.heap.size < w2.heap.size := xc hb; have xwp_T : w9.heap.size + 1 < w2.heap.size := xc hb; have hzwp := hb.size; (try simp only [World.size_alloc, World.size_setCell, World.size_drew] at hzwp); obtain ⟨wp, rfl⟩ : ∃ x, x = w2 := ⟨_, rfl⟩)))
          go_upto_region 17 with (first | (go_at_call 17; (refine (HP.out.ldA (⟨⟨⟨.slice yco yvs.length ycc, .slice yuo K.m.f.used.length yuc, yvs⟩, .slice yeo K.m.ents.length yec⟩, .slice yro K.refuse.length yrc⟩ : KV).m _ ((HK6.out.below (by (have hB5 := HB5.out; have hB7 := HB7.out; exact bel))).m)).mono ?_; rintro e w2 ⟨rfl, hb⟩; have HB8 := Lib.hid hb; obtain ⟨kwr_g3_0, kwr_g3_1, kwr_g3_2, kwr_g3_3, kwr_g3_4⟩ := kp5 hb (g3) (.slice yco yvs.length ycc) (.slice yuo K.m.f.used.length yuc) (.slice yeo K.m.ents.length yec) (.int .i64 K.calls) (.slice yro K.refuse.length yrc); obtain ⟨kwr_g9_0, kwr_g9_1, kwr_g9_2⟩ := kp3 hb (g9) (.int .i64 (p : Int)) (.int .i64 c) (.int .i64 (b : Int)); have kwr_pg_2 : w2.cell? ⟨pg, 2, none⟩ = some (.int .i64 q2) := kc hb; obtain ⟨kwr_X_0, kwr_X_1, kwr_X_2, kwr_X_3, kwr_X_4⟩ := kp5 hb (w9.heap.size) (.slice zco zvs.length zcc) (.slice zuo K2.m.f.used.length zuc) (.slice zeo K2.m.ents.length zec) (.int .i64 K2.calls) (.slice zro K2.refuse.length zrc); obtain ⟨kwr_T_0, kwr_T_1, kwr_T_2⟩ := kp3 hb (w9.heap.size + 1) (.int .i64 (p : Int)) (.int .i64 c) (.int .i64 (b' : Int)); have xwr_g3 : g3 < w2.heap.size := xc hb; have xwr_g9 : g9 < w2.heap.size := xc hb; have xwr_pg : pg < w2.heap.size := xc hb; have xwr_X : w9.heap.size < w2.heap.size := xc hb; have xwr_T : w9.heap.size + 1 < w2.heap.size := xc hb; have hzwr := hb.size; (try simp only [World.size_alloc, World.size_setCell, World.size_drew] at hzwr); obtain ⟨wr, rfl⟩ : ∃ x, x = w2 := ⟨_, rfl⟩)))
          go_upto_region 18 with (first | (go_at_call 18; (refine (HP.out.ldB (⟨⟨⟨.slice zco zvs.length zcc, .slice zuo K2.m.f.used.length zuc, zvs⟩, .slice zeo K2.m.ents.length zec⟩, .slice zro K2.refuse.length zrc⟩ : KV).m _ (MAt.below (KAt.m (KOwn.at OZ.out)) (by (have hB7 := HB7.out; have hB8 := HB8.out; exact bel)))).mono ?_; rintro e w2 ⟨rfl, hb⟩; have HBL := Lib.hid hb; obtain ⟨kwt_g3_0, kwt_g3_1, kwt_g3_2, kwt_g3_3, kwt_g3_4⟩ := kp5 hb (g3) (.slice yco yvs.length ycc) (.slice yuo K.m.f.used.length yuc) (.slice yeo K.m.ents.length yec) (.int .i64 K.calls) (.slice yro K.refuse.length yrc); obtain ⟨kwt_g9_0, kwt_g9_1, kwt_g9_2⟩ := kp3 hb (g9) (.int .i64 (p : Int)) (.int .i64 c) (.int .i64 (b : Int)); have kwt_pg_2 : w2.cell? ⟨pg, 2, none⟩ = some (.int .i64 q2) := kc hb; obtain ⟨kwt_X_0, kwt_X_1, kwt_X_2, kwt_X_3, kwt_X_4⟩ := kp5 hb (w9.heap.size) (.slice zco zvs.length zcc) (.slice zuo K2.m.f.used.length zuc) (.slice zeo K2.m.ents.length zec) (.int .i64 K2.calls) (.slice zro K2.refuse.length zrc); obtain ⟨kwt_T_0, kwt_T_1, kwt_T_2⟩ := kp3 hb (w9.heap.size + 1) (.int .i64 (p : Int)) (.int .i64 c) (.int .i64 (b' : Int)); have xwt_g3 : g3 < w2.heap.size := xc hb; have xwt_g9 : g9 < w2.heap.size := xc hb; have xwt_pg : pg < w2.heap.size := xc hb; have xwt_X : w9.heap.size < w2.heap.size := xc hb; have xwt_T : w9.heap.size + 1 < w2.heap.size := xc hb; have hzwt := hb.size; (try simp only [World.size_alloc, World.size_setCell, World.size_drew] at hzwt); obtain ⟨wt, rfl⟩ : ∃ x, x = w2 := ⟨_, rfl⟩)))
          have hB := HW6.out; have hB5 := HB5.out; have hB7 := HB7.out; have hB8 := HB8.out; have hBL := HBL.out
          rcases HP.out.or with xo | ⟨xo, xv⟩
          · go_wp2_with (first | (go_at_call 15; (refine (s_HasSlot (b' : Int) (s : Int) false hno _).mono ?_); rintro e w2 ⟨rfl, rfl⟩))
            go_wp2_with (first | (go_at_call 19; (refine (HP.out.clr (⟨⟨⟨.slice zco zvs.length zcc, .slice zuo K2.m.f.used.length zuc, zvs⟩, .slice zeo K2.m.ents.length zec⟩, .slice zro K2.refuse.length zrc⟩ : KV) _ (KAt.below (KOwn.at OZ.out) (by (have hB7 := HB7.out; have hB8 := HB8.out; have hBL := HBL.out; exact bel)))).mono ?_; rintro e w2 ⟨rfl, hb⟩; have HBA := Lib.hid hb; obtain ⟨kwu_g3_0, kwu_g3_1, kwu_g3_2, kwu_g3_3, kwu_g3_4⟩ := kp5 hb (g3) (.slice yco yvs.length ycc) (.slice yuo K.m.f.used.length yuc) (.slice yeo K.m.ents.length yec) (.int .i64 K.calls) (.slice yro K.refuse.length yrc); obtain ⟨kwu_g9_0, kwu_g9_1, kwu_g9_2⟩ := kp3 hb (g9) (.int .i64 (p : Int)) (.int .i64 c) (.int .i64 (b : Int)); have kwu_pg_2 : w2.cell? ⟨pg, 2, none⟩ = some (.int .i64 q2) := kc hb; obtain ⟨kwu_X_0, kwu_X_1, kwu_X_2, kwu_X_3, kwu_X_4⟩ := kp5 hb (w9.heap.size) (.slice zco zvs.length zcc) (.slice zuo K2.m.f.used.length zuc) (.slice zeo K2.m.ents.length zec) (.int .i64 K2.calls) (.slice zro K2.refuse.length zrc); obtain ⟨kwu_T_0, kwu_T_1, kwu_T_2⟩ := kp3 hb (w9.heap.size + 1) (.int .i64 (p : Int)) (.int .i64 c) (.int .i64 (b' : Int)); have xwu_g3 : g3 < w2.heap.size := xc hb; have xwu_g9 : g9 < w2.heap.size := xc hb; have xwu_pg : pg < w2.heap.size := xc hb; have xwu_X : w9.heap.size < w2.heap.size := xc hb; have xwu_T : w9.heap.size + 1 < w2.heap.size := xc hb; have hzwu := hb.size; (try simp only [World.size_alloc, World.size_setCell, World.size_drew] at hzwu); obtain ⟨wu, rfl⟩ : ∃ x, x = w2 := ⟨_, rfl⟩)))
            go_wp2_with (first | (go_at_call 20; (refine (HP.out.cls _).mono ?_); rintro e w2 ⟨rfl, rfl⟩))
            skip
            have hBA := HBA.out
            go_ret
            exact ⟨by first | rfl | simp_all, by exact bel⟩
          · go_wp2_with (first | (go_at_call 15; (refine (s_HasSlot (b' : Int) (s : Int) false hno _).mono ?_); rintro e w2 ⟨rfl, rfl⟩) | (go_at_call 19; (refine (HP.out.clr (⟨⟨⟨.slice zco zvs.length zcc, .slice zuo K2.m.f.used.length zuc, zvs⟩, .slice zeo K2.m.ents.length zec⟩, .slice zro K2.refuse.length zrc⟩ : KV) _ (KAt.below (KOwn.at OZ.out) (by (have hB7 := HB7.out; have hB8 := HB8.out; have hBL := HBL.out; exact bel)))).mono ?_; rintro e w2 ⟨rfl, hb⟩; have HBA := Lib.hid hb; obtain ⟨kwu_g3_0, kwu_g3_1, kwu_g3_2, kwu_g3_3, kwu_g3_4⟩ := kp5 hb (g3) (.slice yco yvs.length ycc) (.slice yuo K.m.f.used.length yuc) (.slice yeo K.m.ents.length yec) (.int .i64 K.calls) (.slice yro K.refuse.length yrc); obtain ⟨kwu_g9_0, kwu_g9_1, kwu_g9_2⟩ := kp3 hb (g9) (.int .i64 (p : Int)) (.int .i64 c) (.int .i64 (b : Int)); have kwu_pg_2 : w2.cell? ⟨pg, 2, none⟩ = some (.int .i64 q2) := kc hb; obtain ⟨kwu_X_0, kwu_X_1, kwu_X_2, kwu_X_3, kwu_X_4⟩ := kp5 hb (w9.heap.size) (.slice zco zvs.length zcc) (.slice zuo K2.m.f.used.length zuc) (.slice zeo K2.m.ents.length zec) (.int .i64 K2.calls) (.slice zro K2.refuse.length zrc); obtain ⟨kwu_T_0, kwu_T_1, kwu_T_2⟩ := kp3 hb (w9.heap.size + 1) (.int .i64 (p : Int)) (.int .i64 c) (.int .i64 (b' : Int)); have xwu_g3 : g3 < w2.heap.size := xc hb; have xwu_g9 : g9 < w2.heap.size := xc hb; have xwu_pg : pg < w2.heap.size := xc hb; have xwu_X : w9.heap.size < w2.heap.size := xc hb; have xwu_T : w9.heap.size + 1 < w2.heap.size := xc hb; have hzwu := hb.size; (try simp only [World.size_alloc, World.size_setCell, World.size_drew] at hzwu); obtain ⟨wu, rfl⟩ : ∃ x, x = w2 := ⟨_, rfl⟩)) | (go_at_call 20; (refine (HP.out.cls _).mono ?_); rintro e w2 ⟨rfl, rfl⟩))
            have hBA := HBA.out
            go_ret
            exact ⟨by first | rfl | simp_all, by exact bel⟩

namespace fnFrees
set_option maxRecDepth 100000 in
theorem contract (H : Type) (enc : TypeId × Value → H) (W : World) (base : Nat) (args : Array Value) (ds gs : List (DataW H)) (before : List MemPlace)
    (hval : ∀ (j : Nat) t v, Try.f4.params[j]? = some t → args[j]? = some v → Value.okWide Try.prog W .any base t v)
    (hW : DataW.Whole enc Try.prog Try.f4.params.toList Rows.fnFreesSpec.vars false W args.toList ds gs before) :
    Calls Try.prog 4 args W fun e W' => ∃ v, e = .returned v ∧ Rows.fnFreesSpec.post enc Try.prog Try.f4 false true false false W args v W' := by
  have hW' := hW
  obtain ⟨p, q, hA0, hV, rfl, hfz, hnd⟩ := hW
  have hA : DataW.TrodAll enc Try.prog W 0 (fun _ => true) true Try.f4.params.toList args.toList ds p := hA0
  rw [Try.params4] at hA hval
  obtain ⟨v0, vs0, d0, ds0, p0, q0, hargs, rfl, rfl, h0, r0⟩ := trodAll_cons hA
  obtain ⟨rfl, rfl, rfl⟩ := trodAll_nil r0
  obtain rfl : args = #[v0] := by cases args; simp_all
  obtain ⟨rfl, rfl⟩ := trodVars_none hV
  obtain ⟨n, hv⟩ := bytes_open Try.underlying22 Try.underlying5 (by kernel_rfl) (hval 0 22 v0 rfl rfl) h0
  clear hA0
  refine (w_FnFrees v0 n W hv).mono fun e W' ⟨he, hg⟩ => ?_
  subst he
  exact ⟨_, rfl, law_post (tb := 4) laidOut (by kernel_rfl) rfl rfl Try.underlying4 hW' rfl rfl rfl hg⟩
set_option maxRecDepth 100000 in
theorem lifted (os : Os) (started : os.Started) (H : Type) (enc : TypeId × Value → H) :
    ReturnsInHanded {} Try.checked os 4 .any (Rows.fnFreesSpec.pre6 enc Try.prog Try.f4 Rows.fnFreesRow.domain false) (Rows.fnFreesSpec.post enc Try.prog Try.f4 false true false false) := by
  refine returnsInHanded_of_change (C := Try.checked) own started (by kernel_rfl) Try.func4
    (ChangeSpec.witness6 (enc := enc) (C := Try.checked) false ⟨#[], #[.slice none 0 0], []⟩ 8 (by kernel_rfl) (by kernel_rfl) (by kernel_rfl) (by kernel_rfl)) ?_
  intro W base args ds gs before hval hW _ _
  exact contract H enc W base args ds gs before hval hW
/-- The statement. -/
theorem proved : Rows.FnFreesSaid :=
  OpenClaim.holds_of_wide 4 Try.f4 rfl rfl rfl rfl rfl rfl rfl ⟨rfl, rfl, rfl, rfl, rfl⟩ rfl rfl rfl rfl rfl (by kernel_rfl) Try.func4 (by kernel_rfl)
    (of_decide_eq_true (by kernel_rfl)) (by unfold Func.isWrapper; first | (rw [if_pos (by decide +kernel)]; kernel_rfl) | (rw [if_neg (by decide +kernel)]; exact ⟨rfl, rfl⟩))
    (fun os started H enc _ => lifted os started H enc)
end fnFrees

end Go.Proofs.Ytobechjagckdfaa
