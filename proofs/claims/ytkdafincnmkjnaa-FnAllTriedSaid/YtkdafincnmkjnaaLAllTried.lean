/- 'laws.FnAllTried' returns true, whatever the bytes: no condition. -/
import Derived.Test.YtkdafincnmkjnaaTriedLaw
set_option linter.unusedVariables false
set_option linter.unusedSimpArgs false
namespace Go.Proofs.Ytkdafincnmkjnaa
open Go.ChangeShapes Go.WideShapes Go.ChangeAt Go.RowKit
set_option maxRecDepth 20000 in
set_option maxHeartbeats 3200000 in
theorem w_FnAllTried (v : Value) (n : Nat) (w : World) (hv : BytesAt w.heap.size w v n) : Calls Try.prog 8 #[v] w fun e w' => e = .returned (.bool true) ∧ Below w.heap.size w w' := by
  have HV := Lib.hid hv; clear hv
  by_cases hbig : (1048576 : Int) < n
  · (have hall := all_nil w; go_enter Try.func8, Try.ntmps8)
    go_wp2_with (go_at_call 15; refine (l_big _ n _ HV.out).mono ?_; rintro e w1 ⟨rfl, rfl⟩)
    all_goals (go_ret; refine ⟨by simp_all [], ?_⟩; exact bel)
  · (have hall := all_nil w; go_enter Try.func8, Try.ntmps8)
    go_wp2_with (go_at_call 15; refine (l_big _ n _ HV.out).mono ?_; rintro e w1 ⟨rfl, rfl⟩)
    refine (s_DrawSpans _ n _ HV.out).mono ?_; rintro e w2 ⟨lv, xs, rfl, hl8, hown, hb⟩
    obtain ⟨vo, vc, rfl, hvc, hvm, -⟩ := hown.shape
    have HS := Lib.hid hown.at
    have HB := Lib.hid hb
    obtain ⟨w1, rfl⟩ : ∃ x, x = w2 := ⟨_, rfl⟩
    clear hown hvm hb
    go_wp2_with fail
    refine (s_DrawPlaces _ n _ (HV.out.grew HB.out)).mono ?_; rintro e w2 ⟨pv, ps, rfl, hown, hxl, hxs, hb⟩
    obtain ⟨pg, pc, rfl, hgB, hg, hcell⟩ := places_at hown hxl
    have p0 := hcell 0 (by omega)
    have b0 := places_in hxl hxs 0 (by omega)
    replace HS := Lib.hid (HS.out.below hb)
    replace HB := Lib.hid (HB.out.trans (hb.mono HB.out.size))
    clear hcell hxs hown hxl hb hgB
    generalize ps.getD 0 0 = seed at *
    obtain ⟨w1, rfl⟩ : ∃ x, x = w2 := ⟨_, rfl⟩
    have c2 : between seed 0 1073741823 = true := between_iff.2 (by omega)
    have hok : splitOk xs seed 16 = true := by unfold splitOk; rw [c2]; simp [between]; omega
    have HSP : Hid (splitP xs seed 16 = spAll xs (shufL seed xs.length) 16) := by unfold Hid splitP; rw [hok]; rfl
    go_wp2_with fail
    refine (i_SplitPairs _ xs seed 16 _ HS.out).mono ?_; rintro e w2 ⟨av, rfl, hown, hb⟩
    rw [HSP.out] at hown
    obtain ⟨ao, ac, rfl, -, -, -⟩ := hown.shape
    replace p0 := (hb.cell (p := ⟨pg, 0, none⟩) hg).trans p0
    replace hg : pg < w2.heap.size := Nat.lt_of_lt_of_le hg hb.size
    replace HS := Lib.hid (HS.out.below hb)
    replace HB := Lib.hid (HB.out.trans (hb.mono HB.out.size))
    clear hown hb
    obtain ⟨w1, rfl⟩ : ∃ x, x = w2 := ⟨_, rfl⟩
    have hol := shufL_len c2 (show xs.length ≤ 64 by omega)
    have hoi := shufL_in c2 (show xs.length ≤ 64 by omega)
    have HOL := Lib.hid hol; have HOI := Lib.hid hoi
    have HLW := Lib.hid (tried_law (xs := xs) (o := shufL seed xs.length) (by rw [hol]; exact hl8))
    have hle5 := spAll_le xs (shufL seed xs.length) (by rw [hol]; omega) 16
    obtain ⟨na, hna⟩ : ∃ x, x = (spAll xs (shufL seed xs.length) 16).length := ⟨_, rfl⟩
    rw [← hna] at HLW hle5 ⊢
    clear hol hoi hok hna HSP
    go_wp2_with fail
    refine (s_Shuffled _ _ _).mono ?_; rintro e w2 ⟨ov, rfl, hown, hb⟩
    obtain ⟨qo, qc, rfl, hql, -, hqb⟩ := hown.shape
    rw [HOL.out] at hql ⊢
    replace HS := Lib.hid (HS.out.below hb)
    replace HB := Lib.hid (HB.out.trans (hb.mono HB.out.size))
    have HQQ := Lib.hid hown
    clear hown hb p0 hg
    obtain ⟨wb, rfl⟩ : ∃ x, x = w2 := ⟨_, rfl⟩
    obtain ⟨hv, hhv⟩ : ∃ h, h = xs.length / 2 := ⟨_, rfl⟩
    have e2 : ((xs.length : Nat) : Int) / 2 = (hv : Int) := by omega
    have hv8 : hv ≤ 8 := by omega
    have HHV := Lib.hid hhv; clear hhv
    obtain ⟨_, _, hse, -, -, hsr⟩ := HS.out.open
    simp only [Value.slice.injEq] at hse
    have HA := Lib.hid hsr
    have HSE := Lib.hid hse
    clear hsr hse
    rw [← HSE.out.1] at HA
    go_wp2_with fail
    have hqb2 := hqb
    clear hqb2
    obtain ⟨O, hO⟩ : ∃ O, O = shufL seed xs.length := ⟨_, rfl⟩
    rw [← hO] at HQQ HOL HOI HLW
    clear hO
    have hwb := HB.out.size
    go_loopw [10, 11] (fun y i wr => ∃ k : Nat, k ≤ hv ∧ i = .int .i64 k ∧ y = .bool (anyTo xs O k) ∧ Below wb.heap.size wb wr) (fun _ i _ => hv - (intOf i).toNat)
    case atStart => exact ⟨0, Nat.zero_le _, rfl, rfl, Below.refl _ _⟩
    case round =>
      obtain ⟨k, hk, rfl, rfl, hbel⟩ := hrel
      have HL := Lib.hid hbel; have hsz := hbel.size; clear hbel
      by_cases hlt : k < hv
      · have hlt' : (k : Int) < hv := by omega
        have hpos : 0 < xs.length := by have := HHV.out; omega
        obtain ⟨g, gc, he, hgB, hg⟩ := Own.addr HQQ.out (by rw [HOL.out]; exact hpos)
        rw [HOL.out] at he
        simp only [Value.slice.injEq] at he
        obtain ⟨rfl, -, rfl⟩ := he
        go_wp2_with fail
        go_loopw [10, 12] (fun y i wr => ∃ m : Nat, hv + m ≤ xs.length ∧ i = .int .i64 ((hv : Int) + m) ∧ y = .bool (anyTo xs O k || anyK xs O k m) ∧ Below wb.heap.size wb wr) (fun _ i _ => xs.length - (intOf i).toNat)
        case atStart => exact ⟨0, by have := HHV.out; omega, by simp, by simp [anyK], HL.out⟩
        case round =>
          obtain ⟨m, hm, rfl, rfl, hbel⟩ := hrel
          have HL2 := Lib.hid hbel; have hsz2 := hbel.size; clear hbel
          by_cases hlm : hv + m < xs.length
          · have hlm' : (hv : Int) + m < ((xs.length : Nat) : Int) := by omega
            have hlk : (k : Int) < ((xs.length : Nat) : Int) := by omega
            obtain ⟨ya, hya⟩ := getx (xs := O) (k := k) (by rw [HOL.out]; omega)
            obtain ⟨yb, hyb⟩ := getx (xs := O) (k := hv + m) (by rw [HOL.out]; omega)
            have ia := HOI.out ya (List.mem_of_getElem? hya); have ib := HOI.out yb (List.mem_of_getElem? hyb)
            obtain ⟨ka, rfl⟩ := Int.eq_ofNat_of_zero_le ia.1
            obtain ⟨kb, rfl⟩ := Int.eq_ofNat_of_zero_le ib.1
            obtain ⟨-, -, f1, -⟩ := OwnI.slotI HQQ.out hya
            obtain ⟨-, -, f2, -⟩ := OwnI.slotI HQQ.out hyb
            replace f1 := (HL2.out.cell (p := ⟨g, k, none⟩) hg).trans f1
            replace f2 := (HL2.out.cell (p := ⟨g, hv + m, none⟩) hg).trans f2
            have hka : ka < xs.length := by omega
            have hkb : kb < xs.length := by omega
            have hka' : (ka : Int) < ((xs.length : Nat) : Int) := by omega
            have hkb' : (kb : Int) < ((xs.length : Nat) : Int) := by omega
            have HN : Hid (anyK xs O k (m + 1) = (anyK xs O k m || meshS (xs.getD ka default) (xs.getD kb default))) := by
              unfold Hid; rw [anyK, HOL.out, ← HHV.out, getD_of hya, getD_of hyb, Int.toNat_natCast, Int.toNat_natCast]
            have hgr : g < wr.heap.size := by omega
            clear hya hyb ia ib
            obtain ⟨gaa, oaa, haoaa, hgaa, aa0, aa1, aa2⟩ := HA.out ka hka
            subst haoaa
            replace aa0 := (HL2.out.cell (p := ⟨gaa, oaa + ka * 3, none⟩) (by first | exact hgaa | assumption)).trans aa0
            replace aa1 := (HL2.out.cell (p := ⟨gaa, oaa + ka * 3 + 1, none⟩) (by first | exact hgaa | assumption)).trans aa1
            replace aa2 := (HL2.out.cell (p := ⟨gaa, oaa + ka * 3 + 2, none⟩) (by first | exact hgaa | assumption)).trans aa2
            obtain ⟨aa, heaa⟩ : ∃ x, x = xs.getD ka default := ⟨_, rfl⟩
            rw [← heaa] at aa0 aa1 aa2
            have Haa := Lib.hid heaa; clear heaa
            obtain ⟨gb, ob, haob, hgb, b0, b1, b2⟩ := HA.out kb hkb
            (simp only [Option.some.injEq, Addr.mk.injEq, and_true] at haob; obtain ⟨rfl, rfl⟩ := haob)
            replace b0 := (HL2.out.cell (p := ⟨gaa, oaa + kb * 3, none⟩) (by first | exact hgb | assumption)).trans b0
            replace b1 := (HL2.out.cell (p := ⟨gaa, oaa + kb * 3 + 1, none⟩) (by first | exact hgb | assumption)).trans b1
            replace b2 := (HL2.out.cell (p := ⟨gaa, oaa + kb * 3 + 2, none⟩) (by first | exact hgb | assumption)).trans b2
            obtain ⟨b, heb⟩ : ∃ x, x = xs.getD kb default := ⟨_, rfl⟩
            rw [← heb] at b0 b1 b2
            have Hb := Lib.hid heb; clear heb
            (obtain ⟨w1, rfl⟩ : ∃ x, x = wr := ⟨_, rfl⟩; have hall : allLt [g, gaa] w1.heap.size := ⟨by omega, by omega, trivial⟩; have hx := hall; (try simp only [allLt, and_true] at hx))
            cases hy : (anyTo xs O k || anyK xs O k m)
            · cases hmm : meshS aa b
              · have hm2 : meshable aa.p aa.c aa.b b.p b.c b.b = false := hmm
                go_wp2_with (first | (with_reducible refine wp_region_grew2 (by kernel_rfl) (by kernel_rfl) ?_; intro w2 hb; have hb0 := hb; (first | have hn := nw4 hb hall (by exact zo) | have hn := nw3 hb hall (by exact zo) | have hn := nw2 hb hall (by exact zo) | have hn := nw1 hb hall (by exact zo) | have hn := nw0 hb hall (by exact zo)); obtain ⟨hc, hf, hn, hc0⟩ := hn; replace hall := hn; clear hn; have hz := hb.size; (try simp only [World.size_alloc, World.size_setCell, World.size_drew] at hz); have hx := hall; (try simp only [allLt, and_true] at hx); obtain ⟨w1, rfl⟩ : ∃ x, x = w2 := ⟨_, rfl⟩; skip; (repeat (go_big_quiet_step ((first | (go_at_call 43; (exact calls_grew (s_Meshable _ _ _ _ _ _ _ hm2 _))))))); refine wpQuiet_nil ?_; intro w2 hw'; have hb := grew_below hw'; clear hw'; (first | have hn := nw4 hb hall (by exact zo) | have hn := nw3 hb hall (by exact zo) | have hn := nw2 hb hall (by exact zo) | have hn := nw1 hb hall (by exact zo) | have hn := nw0 hb hall (by exact zo)); obtain ⟨hc, hf, hn, hc0⟩ := hn; replace hall := hn; clear hn; have hz := hb.size; (try simp only [World.size_alloc, World.size_setCell, World.size_drew] at hz); have hx := hall; (try simp only [allLt, and_true] at hx); obtain ⟨w1, rfl⟩ : ∃ x, x = w2 := ⟨_, rfl⟩) | (with_reducible refine wp_region_grew2 (by kernel_rfl) (by kernel_rfl) ?_; intro w2 hb; (first | have hn := nw4 hb hall (by exact zo) | have hn := nw3 hb hall (by exact zo) | have hn := nw2 hb hall (by exact zo) | have hn := nw1 hb hall (by exact zo) | have hn := nw0 hb hall (by exact zo)); obtain ⟨hc, hf, hn, hc0⟩ := hn; replace hall := hn; clear hn; have hz := hb.size; (try simp only [World.size_alloc, World.size_setCell, World.size_drew] at hz); have hx := hall; (try simp only [allLt, and_true] at hx); obtain ⟨w1, rfl⟩ : ∃ x, x = w2 := ⟨_, rfl⟩; (repeat (go_big_quiet_step (fail))); refine wpQuiet_nil ?_; intro w2 hw'; have hb := grew_below hw'; clear hw'; (first | have hn := nw4 hb hall (by exact zo) | have hn := nw3 hb hall (by exact zo) | have hn := nw2 hb hall (by exact zo) | have hn := nw1 hb hall (by exact zo) | have hn := nw0 hb hall (by exact zo)); obtain ⟨hc, hf, hn, hc0⟩ := hn; replace hall := hn; clear hn; have hz := hb.size; (try simp only [World.size_alloc, World.size_setCell, World.size_drew] at hz); have hx := hall; (try simp only [allLt, and_true] at hx); obtain ⟨w1, rfl⟩ : ∃ x, x = w2 := ⟨_, rfl⟩))
                go_roundw
                case rel =>
                  have hL := HL2.out; have hLs := hL.size
                  exact ⟨m + 1, by omega, by go_num, by rw [HN.out, ← Haa.out, ← Hb.out, hmm, Bool.or_false, hy], by exact bel⟩
                case measure => simp [intOf]; omega
              · have hm2 : meshable aa.p aa.c aa.b b.p b.c b.b = true := hmm
                go_wp2_with (first | (with_reducible refine wp_region_grew2 (by kernel_rfl) (by kernel_rfl) ?_; intro w2 hb; have hb0 := hb; (first | have hn := nw4 hb hall (by exact zo) | have hn := nw3 hb hall (by exact zo) | have hn := nw2 hb hall (by exact zo) | have hn := nw1 hb hall (by exact zo) | have hn := nw0 hb hall (by exact zo)); obtain ⟨hc, hf, hn, hc0⟩ := hn; replace hall := hn; clear hn; have hz := hb.size; (try simp only [World.size_alloc, World.size_setCell, World.size_drew] at hz); have hx := hall; (try simp only [allLt, and_true] at hx); obtain ⟨w1, rfl⟩ : ∃ x, x = w2 := ⟨_, rfl⟩; skip; (repeat (go_big_quiet_step ((first | (go_at_call 43; (exact calls_grew (s_Meshable _ _ _ _ _ _ _ hm2 _))))))); refine wpQuiet_nil ?_; intro w2 hw'; have hb := grew_below hw'; clear hw'; (first | have hn := nw4 hb hall (by exact zo) | have hn := nw3 hb hall (by exact zo) | have hn := nw2 hb hall (by exact zo) | have hn := nw1 hb hall (by exact zo) | have hn := nw0 hb hall (by exact zo)); obtain ⟨hc, hf, hn, hc0⟩ := hn; replace hall := hn; clear hn; have hz := hb.size; (try simp only [World.size_alloc, World.size_setCell, World.size_drew] at hz); have hx := hall; (try simp only [allLt, and_true] at hx); obtain ⟨w1, rfl⟩ : ∃ x, x = w2 := ⟨_, rfl⟩) | (with_reducible refine wp_region_grew2 (by kernel_rfl) (by kernel_rfl) ?_; intro w2 hb; (first | have hn := nw4 hb hall (by exact zo) | have hn := nw3 hb hall (by exact zo) | have hn := nw2 hb hall (by exact zo) | have hn := nw1 hb hall (by exact zo) | have hn := nw0 hb hall (by exact zo)); obtain ⟨hc, hf, hn, hc0⟩ := hn; replace hall := hn; clear hn; have hz := hb.size; (try simp only [World.size_alloc, World.size_setCell, World.size_drew] at hz); have hx := hall; (try simp only [allLt, and_true] at hx); obtain ⟨w1, rfl⟩ : ∃ x, x = w2 := ⟨_, rfl⟩; (repeat (go_big_quiet_step (fail))); refine wpQuiet_nil ?_; intro w2 hw'; have hb := grew_below hw'; clear hw'; (first | have hn := nw4 hb hall (by exact zo) | have hn := nw3 hb hall (by exact zo) | have hn := nw2 hb hall (by exact zo) | have hn := nw1 hb hall (by exact zo) | have hn := nw0 hb hall (by exact zo)); obtain ⟨hc, hf, hn, hc0⟩ := hn; replace hall := hn; clear hn; have hz := hb.size; (try simp only [World.size_alloc, World.size_setCell, World.size_drew] at hz); have hx := hall; (try simp only [allLt, and_true] at hx); obtain ⟨w1, rfl⟩ : ∃ x, x = w2 := ⟨_, rfl⟩))
                go_roundw
                case rel =>
                  have hL := HL2.out; have hLs := hL.size
                  exact ⟨m + 1, by omega, by go_num, by rw [HN.out, ← Haa.out, ← Hb.out, hmm, Bool.or_true, Bool.or_true], by exact bel⟩
                case measure => simp [intOf]; omega
            · go_wp2_with (first | (with_reducible refine wp_region_grew2 (by kernel_rfl) (by kernel_rfl) ?_; intro w2 hb; have hb0 := hb; (first | have hn := nw4 hb hall (by exact zo) | have hn := nw3 hb hall (by exact zo) | have hn := nw2 hb hall (by exact zo) | have hn := nw1 hb hall (by exact zo) | have hn := nw0 hb hall (by exact zo)); obtain ⟨hc, hf, hn, hc0⟩ := hn; replace hall := hn; clear hn; have hz := hb.size; (try simp only [World.size_alloc, World.size_setCell, World.size_drew] at hz); have hx := hall; (try simp only [allLt, and_true] at hx); obtain ⟨w1, rfl⟩ : ∃ x, x = w2 := ⟨_, rfl⟩; skip; (repeat (go_big_quiet_step (fail))); refine wpQuiet_nil ?_; intro w2 hw'; have hb := grew_below hw'; clear hw'; (first | have hn := nw4 hb hall (by exact zo) | have hn := nw3 hb hall (by exact zo) | have hn := nw2 hb hall (by exact zo) | have hn := nw1 hb hall (by exact zo) | have hn := nw0 hb hall (by exact zo)); obtain ⟨hc, hf, hn, hc0⟩ := hn; replace hall := hn; clear hn; have hz := hb.size; (try simp only [World.size_alloc, World.size_setCell, World.size_drew] at hz); have hx := hall; (try simp only [allLt, and_true] at hx); obtain ⟨w1, rfl⟩ : ∃ x, x = w2 := ⟨_, rfl⟩) | (with_reducible refine wp_region_grew2 (by kernel_rfl) (by kernel_rfl) ?_; intro w2 hb; (first | have hn := nw4 hb hall (by exact zo) | have hn := nw3 hb hall (by exact zo) | have hn := nw2 hb hall (by exact zo) | have hn := nw1 hb hall (by exact zo) | have hn := nw0 hb hall (by exact zo)); obtain ⟨hc, hf, hn, hc0⟩ := hn; replace hall := hn; clear hn; have hz := hb.size; (try simp only [World.size_alloc, World.size_setCell, World.size_drew] at hz); have hx := hall; (try simp only [allLt, and_true] at hx); obtain ⟨w1, rfl⟩ : ∃ x, x = w2 := ⟨_, rfl⟩; (repeat (go_big_quiet_step (fail))); refine wpQuiet_nil ?_; intro w2 hw'; have hb := grew_below hw'; clear hw'; (first | have hn := nw4 hb hall (by exact zo) | have hn := nw3 hb hall (by exact zo) | have hn := nw2 hb hall (by exact zo) | have hn := nw1 hb hall (by exact zo) | have hn := nw0 hb hall (by exact zo)); obtain ⟨hc, hf, hn, hc0⟩ := hn; replace hall := hn; clear hn; have hz := hb.size; (try simp only [World.size_alloc, World.size_setCell, World.size_drew] at hz); have hx := hall; (try simp only [allLt, and_true] at hx); obtain ⟨w1, rfl⟩ : ∃ x, x = w2 := ⟨_, rfl⟩))
              go_roundw
              case rel =>
                have hL := HL2.out; have hLs := hL.size
                exact ⟨m + 1, by omega, by go_num, by rw [HN.out, ← Bool.or_assoc, hy, Bool.true_or], by exact bel⟩
              case measure => simp [intOf]; omega
          · have hlm' : ¬ (hv : Int) + m < ((xs.length : Nat) : Int) := by omega
            go_wp2_with (first | (with_reducible refine wp_region_grew2 (by kernel_rfl) (by kernel_rfl) ?_; intro w2 hb; (first | have hn := nw4 hb hall (by exact zo) | have hn := nw3 hb hall (by exact zo) | have hn := nw2 hb hall (by exact zo) | have hn := nw1 hb hall (by exact zo) | have hn := nw0 hb hall (by exact zo)); obtain ⟨hc, hf, hn, hc0⟩ := hn; replace hall := hn; clear hn; have hz := hb.size; (try simp only [World.size_alloc, World.size_setCell, World.size_drew] at hz); have hx := hall; (try simp only [allLt, and_true] at hx); obtain ⟨w1, rfl⟩ : ∃ x, x = w2 := ⟨_, rfl⟩; (repeat (go_big_quiet_step (fail))); refine wpQuiet_nil ?_; intro w2 hw'; have hb := grew_below hw'; clear hw'; (first | have hn := nw4 hb hall (by exact zo) | have hn := nw3 hb hall (by exact zo) | have hn := nw2 hb hall (by exact zo) | have hn := nw1 hb hall (by exact zo) | have hn := nw0 hb hall (by exact zo)); obtain ⟨hc, hf, hn, hc0⟩ := hn; replace hall := hn; clear hn; have hz := hb.size; (try simp only [World.size_alloc, World.size_setCell, World.size_drew] at hz); have hx := hall; (try simp only [allLt, and_true] at hx); obtain ⟨w1, rfl⟩ : ∃ x, x = w2 := ⟨_, rfl⟩))
            go_roundw
            case rel =>
              have hL := HL2.out; have hLs := hL.size
              exact ⟨k + 1, by omega, by go_num, by rw [anyTo, HOL.out, ← HHV.out, show xs.length - hv = m by omega], by exact bel⟩
            case measure => simp [intOf]; omega
      · have hlt' : ¬ (k : Int) < hv := by omega
        obtain rfl : k = hv := by omega
        have hlw := HLW.out
        rw [HOL.out, ← HHV.out] at hlw
        have HLX := Lib.hid hlw; clear hlw
        obtain ⟨w1, rfl⟩ : ∃ x, x = wr := ⟨_, rfl⟩
        rcases Nat.eq_zero_or_pos na with h0 | hpos
        · subst h0
          have hz : anyTo xs O k = false := HLX.out
          go_wp2_with (first | (go_at_call 34; refine (i_gtwo w1.heap.size _ (by simp) ⟨by go_simp, by go_simp, by go_simp, by go_simp, by go_simp, by go_simp⟩).mono ?_; rintro e w2 ⟨vo2, vc2, rfl, hb⟩; (first | have hn := nw4 hb hall (by exact zo) | have hn := nw3 hb hall (by exact zo) | have hn := nw2 hb hall (by exact zo) | have hn := nw1 hb hall (by exact zo) | have hn := nw0 hb hall (by exact zo)); obtain ⟨hc, hf, hn, hc0⟩ := hn; replace hall := hn; clear hn; have hz := hb.size; (try simp only [World.size_alloc, World.size_setCell, World.size_drew] at hz); have hx := hall; (try simp only [allLt, and_true] at hx); obtain ⟨w1, rfl⟩ : ∃ x, x = w2 := ⟨_, rfl⟩))
          all_goals (have hL := HL.out; have hLs := hL.size; have hB := HB.out; have hBs := hB.size)
          all_goals (go_ret; refine ⟨by simp_all [], ?_⟩; exact bel)
        · have hz : anyTo xs O k = true := HLX.out.trans (decide_eq_true hpos)
          have hpI : (0 : Int) < (na : Int) := by omega
          go_wp2_with (first | (go_at_call 34; refine (i_gtwo w1.heap.size _ (by simp) ⟨by go_simp, by go_simp, by go_simp, by go_simp, by go_simp, by go_simp⟩).mono ?_; rintro e w2 ⟨vo2, vc2, rfl, hb⟩; (first | have hn := nw4 hb hall (by exact zo) | have hn := nw3 hb hall (by exact zo) | have hn := nw2 hb hall (by exact zo) | have hn := nw1 hb hall (by exact zo) | have hn := nw0 hb hall (by exact zo)); obtain ⟨hc, hf, hn, hc0⟩ := hn; replace hall := hn; clear hn; have hz := hb.size; (try simp only [World.size_alloc, World.size_setCell, World.size_drew] at hz); have hx := hall; (try simp only [allLt, and_true] at hx); obtain ⟨w1, rfl⟩ : ∃ x, x = w2 := ⟨_, rfl⟩))
          all_goals (have hL := HL.out; have hLs := hL.size; have hB := HB.out; have hBs := hB.size)
          all_goals (go_ret; refine ⟨by simp_all [], ?_⟩; exact bel)
namespace fnAllTried
set_option maxRecDepth 100000 in
theorem contract (H : Type) (enc : TypeId × Value → H) (W : World) (base : Nat) (args : Array Value) (ds gs : List (DataW H)) (before : List MemPlace)
    (hval : ∀ (j : Nat) t v, Try.f8.params[j]? = some t → args[j]? = some v → Value.okWide Try.prog W .any base t v)
    (hW : DataW.Whole enc Try.prog Try.f8.params.toList Rows.fnAllTriedSpec.vars false W args.toList ds gs before) :
    Calls Try.prog 8 args W fun e W' => ∃ v, e = .returned v ∧ Rows.fnAllTriedSpec.post enc Try.prog Try.f8 false true false false W args v W' := by
  have hW' := hW
  obtain ⟨p, q, hA0, hV, rfl, hfz, hnd⟩ := hW
  have hA : DataW.TrodAll enc Try.prog W 0 (fun _ => true) true Try.f8.params.toList args.toList ds p := hA0
  rw [Try.params8] at hA hval
  obtain ⟨v0, vs0, d0, ds0, p0, q0, hargs, rfl, rfl, h0, r0⟩ := trodAll_cons hA
  obtain ⟨rfl, rfl, rfl⟩ := trodAll_nil r0
  obtain rfl : args = #[v0] := by cases args; simp_all
  obtain ⟨rfl, rfl⟩ := trodVars_none hV
  obtain ⟨n, hv⟩ := bytes_open Try.underlying22 Try.underlying5 (by kernel_rfl) (hval 0 22 v0 rfl rfl) h0
  clear hA0
  refine (w_FnAllTried v0 n W hv).mono fun e W' ⟨he, hg⟩ => ?_
  subst he
  exact ⟨_, rfl, law_post (tb := 4) laidOut (by kernel_rfl) rfl rfl Try.underlying4 hW' rfl rfl rfl hg⟩
set_option maxRecDepth 100000 in
theorem lifted (os : Os) (started : os.Started) (H : Type) (enc : TypeId × Value → H) :
    ReturnsInHanded {} Try.checked os 8 .any (Rows.fnAllTriedSpec.pre6 enc Try.prog Try.f8 Rows.fnAllTriedRow.domain false) (Rows.fnAllTriedSpec.post enc Try.prog Try.f8 false true false false) := by
  refine returnsInHanded_of_change (C := Try.checked) own started (by kernel_rfl) Try.func8
    (ChangeSpec.witness6 (enc := enc) (C := Try.checked) false ⟨#[], #[.slice none 0 0], []⟩ 8 (by kernel_rfl) (by kernel_rfl) (by kernel_rfl) (by kernel_rfl)) ?_
  intro W base args ds gs before hval hW _ _
  exact contract H enc W base args ds gs before hval hW
/-- The statement. -/
theorem proved : Rows.FnAllTriedSaid :=
  OpenClaim.holds_of_wide 8 Try.f8 rfl rfl rfl rfl rfl rfl rfl ⟨rfl, rfl, rfl, rfl, rfl⟩ rfl rfl rfl rfl rfl (by kernel_rfl) Try.func8 (by kernel_rfl)
    (of_decide_eq_true (by kernel_rfl)) (by unfold Func.isWrapper; first | (rw [if_pos (by decide +kernel)]; kernel_rfl) | (rw [if_neg (by decide +kernel)]; exact ⟨rfl, rfl⟩))
    (fun os started H enc _ => lifted os started H enc)
end fnAllTried

end Go.Proofs.Ytkdafincnmkjnaa
