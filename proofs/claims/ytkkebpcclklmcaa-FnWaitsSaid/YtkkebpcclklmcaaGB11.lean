/-
  Texts put together: KOk5, KOk6.
-/
import Derived.Test.YtkkebpcclklmcaaGB10
import Derived.Deep.RegionHeld3
/-
  Machines that are valid, by the reference.
-/
set_option linter.unusedVariables false
set_option linter.unusedSimpArgs false
namespace Go.Proofs.Ytkkebpcclklmcaa
open Go.RowKit
theorem s_MachineOk (x : MV) (M : Mac) (r : Bool) (hr : machineOk M = r) (w : World) (ha : MAt w x M) : Calls Try.prog 42 #[x.val] w fun e w' => e = .returned (.bool r) ∧ Below w.heap.size w w' := by
  subst hr
  obtain ⟨⟨c, u, vs⟩, e⟩ := x
  obtain ⟨uo, uc, hu, hu1, hu2⟩ := ha.f.used.shape
  dsimp only at hu
  subst hu
  obtain ⟨co, cc, hc, _, _⟩ := RowsAt.shape ha.f.rows
  dsimp only at hc
  subst hc
  have HF := Lib.hid ha.f; have HE := Lib.hid ha.ents
  have hm : M.f.used.length ≤ 9223372036854775807 := by unfold maxLen at hu2; omega
  clear ha hu1 hu2
  simp only [MV.val]
  dsimp only at HF HE
  cases h1 : framesOk M.f
  · have H1 := Lib.hid h1
    (have hall := all_nil w; go_enter Try.func42, Try.ntmps42)
    go_wp2_with ((go_at_call 52; (refine (s_FramesOk ⟨_, _, vs⟩ M.f _ H1.out _ (HF.out.below (by exact bel))).mono ?_; rintro e w2 ⟨rfl, hb⟩; obtain ⟨kwa_0_0, kwa_0_1, kwa_0_2⟩ := kp3 hb (w.heap.size) (.slice co M.f.cells.length cc) (.slice uo M.f.used.length uc) (e); have xwa_0 : w.heap.size < w2.heap.size := xc hb; have hzwa := hb.size; (try simp only [World.size_alloc, World.size_setCell, World.size_drew] at hzwa); obtain ⟨wa, rfl⟩ : ∃ x, x = w2 := ⟨_, rfl⟩)))
    go_ret
    exact ⟨ret_bool (a := false) (by unfold machineOk; rw [h1]; rfl), by exact bel⟩
  cases h2 : tableOk M.ents M.f.used.length
  · have H1 := Lib.hid h1; have H2 := Lib.hid h2; rw [framesOk_len h1] at H2
    (have hall := all_nil w; go_enter Try.func42, Try.ntmps42)
    go_wp2_with (first | (go_at_call 52; (refine (s_FramesOk ⟨_, _, vs⟩ M.f _ H1.out _ (HF.out.below (by exact bel))).mono ?_; rintro e w2 ⟨rfl, hb⟩; obtain ⟨kwa_0_0, kwa_0_1, kwa_0_2⟩ := kp3 hb (w.heap.size) (.slice co M.f.cells.length cc) (.slice uo M.f.used.length uc) (e); have xwa_0 : w.heap.size < w2.heap.size := xc hb; have hzwa := hb.size; (try simp only [World.size_alloc, World.size_setCell, World.size_drew] at hzwa); obtain ⟨wa, rfl⟩ : ∃ x, x = w2 := ⟨_, rfl⟩)) | (go_at_call 71; (refine (s_TableOk _ M.ents _ _ H2.out _ (HE.out.below (by exact bel))).mono ?_; rintro e w2 ⟨rfl, hb⟩; obtain ⟨kwb_0_0, kwb_0_1, kwb_0_2⟩ := kp3 hb (w.heap.size) (.slice co M.f.cells.length cc) (.slice uo M.f.used.length uc) (e); have xwb_0 : w.heap.size < w2.heap.size := xc hb; have hzwb := hb.size; (try simp only [World.size_alloc, World.size_setCell, World.size_drew] at hzwb); obtain ⟨wb, rfl⟩ : ∃ x, x = w2 := ⟨_, rfl⟩)))
    go_ret
    exact ⟨ret_bool (a := false) (by unfold machineOk; rw [h1, h2]; rfl), by exact bel⟩
  · have H1 := Lib.hid h1; have H2 := Lib.hid h2; rw [framesOk_len h1] at H2
    (have hall := all_nil w; go_enter Try.func42, Try.ntmps42)
    go_wp2_with (first | (go_at_call 52; (refine (s_FramesOk ⟨_, _, vs⟩ M.f _ H1.out _ (HF.out.below (by exact bel))).mono ?_; rintro e w2 ⟨rfl, hb⟩; obtain ⟨kwa_0_0, kwa_0_1, kwa_0_2⟩ := kp3 hb (w.heap.size) (.slice co M.f.cells.length cc) (.slice uo M.f.used.length uc) (e); have xwa_0 : w.heap.size < w2.heap.size := xc hb; have hzwa := hb.size; (try simp only [World.size_alloc, World.size_setCell, World.size_drew] at hzwa); obtain ⟨wa, rfl⟩ : ∃ x, x = w2 := ⟨_, rfl⟩)) | (go_at_call 71; (refine (s_TableOk _ M.ents _ _ H2.out _ (HE.out.below (by exact bel))).mono ?_; rintro e w2 ⟨rfl, hb⟩; obtain ⟨kwb_0_0, kwb_0_1, kwb_0_2⟩ := kp3 hb (w.heap.size) (.slice co M.f.cells.length cc) (.slice uo M.f.used.length uc) (e); have xwb_0 : w.heap.size < w2.heap.size := xc hb; have hzwb := hb.size; (try simp only [World.size_alloc, World.size_setCell, World.size_drew] at hzwb); obtain ⟨wb, rfl⟩ : ∃ x, x = w2 := ⟨_, rfl⟩)))
    have hn32 := tableOk_len h2
    go_loopw [3] (fun i wr => ∃ k : Nat, k ≤ M.f.used.length ∧ i = .int .i64 k ∧ allTo (usedOk M) k = true ∧ Below w.heap.size w wr ∧ wr.cell? ⟨w.heap.size, 0, none⟩ = some (.slice co M.f.cells.length cc) ∧ wr.cell? ⟨w.heap.size, 1, none⟩ = some (.slice uo M.f.used.length uc) ∧ wr.cell? ⟨w.heap.size, 2, none⟩ = some e ∧ w.heap.size < wr.heap.size) (fun i _ => M.f.used.length - (intOf i).toNat)
    case atStart => exact ⟨0, Nat.zero_le _, rfl, rfl, by exact bel, by assumption, by assumption, by assumption, by assumption⟩
    case round =>
      obtain ⟨k, hk, rfl, hok, hbel, k0, k1, k2, xb⟩ := hrel
      have HK := Lib.hid hok; have HB := Lib.hid hbel; have hsz := hbel.size; clear hok
      by_cases hlt : k < M.f.used.length
      · have hlt' : (k : Int) < M.f.used.length := by omega
        obtain ⟨uk, huk⟩ := getx hlt
        obtain ⟨uo', uc', hue, _, _, hur⟩ := BoolsAt.open HF.out.used
        simp only [Value.slice.injEq] at hue
        obtain ⟨rfl, -, rfl⟩ := hue
        obtain ⟨gu, ou, rfl, hgu, hcu⟩ := hur k uk huk
        replace hcu := (hbel.cell (p := ⟨gu, ou + k, none⟩) hgu).trans hcu
        have HU := Lib.hid (usedOk_of huk)
        clear huk hur
        obtain ⟨w1, rfl⟩ : ∃ x, x = wr := ⟨_, rfl⟩
        have xg : gu < w1.heap.size := by omega
        have HL := Lib.hid (pagesOn_le M.ents k)
        obtain ⟨nn, hnn⟩ : ∃ nn, nn = (pagesOn M.ents k).length := ⟨_, rfl⟩
        have P1 := Lib.hid (fun W (hW : Below w1.heap.size w1 W) => pages_n (s_PagesOn e M.ents k (by omega) W (HE.out.below (HB.out.trans (hW.mono hsz)))))
        rw [← hnn] at P1 HU HL
        have hnn32 : nn ≤ 32 := by have := HL.out; omega
        clear hnn
        clear hbel
        rcases ltc 0 nn with ⟨b1, b2, b3⟩ | ⟨b1, b2, b3⟩
        all_goals have b4 : 0 < nn ↔ (0 : Int) < nn := by omega
        · have b5 : 0 < nn := by omega
          have b6 : ((nn : Int) == 0) = false := by simp; omega
          clear b4
          cases uk
          · go_wp2
            go_region_held3 (fun w' => w'.cell? ⟨w.heap.size, 0, none⟩ = some (.slice co M.f.cells.length cc) ∧ w'.cell? ⟨w.heap.size, 1, none⟩ = some (.slice (some ⟨gu, ou, none⟩) M.f.used.length uc) ∧ w'.cell? ⟨w.heap.size, 2, none⟩ = some e ∧ w'.cell? ⟨gu, ou + k, none⟩ = some (.bool false)) ((refine ⟨?_, ?_, ?_, ?_⟩ <;> (go_simp; done))) ((go_at_call 72; refine (P1.out _ (by exact bel)).mono ?_; rintro e2 w2 ⟨ao, cap, rfl, hb⟩; obtain ⟨kwc_0_0, kwc_0_1, kwc_0_2⟩ := kp3 hb (w.heap.size) (.slice co M.f.cells.length cc) (.slice (some ⟨gu, ou, none⟩) M.f.used.length uc) (e); have kwc_gu : w2.cell? ⟨gu, ou + k, none⟩ = some (.bool false) := kc hb; have xwc_0 : w.heap.size < w2.heap.size := xc hb; have xwc_gu : gu < w2.heap.size := xc hb; have hzwc := hb.size; (try simp only [World.size_alloc, World.size_setCell, World.size_drew] at hzwc); obtain ⟨wc, rfl⟩ : ∃ x, x = w2 := ⟨_, rfl⟩))
            all_goals go_wp2
            all_goals (go_ret; exact ⟨ret_bool (a := false) (by rw [machineOk, h1, h2, allTo_false hlt (by rw [HU.out, b1]; rfl)]; rfl), by (have hB := HB.out; exact bel)⟩)
          · go_wp2
            go_region_held3 (fun w' => w'.cell? ⟨w.heap.size, 0, none⟩ = some (.slice co M.f.cells.length cc) ∧ w'.cell? ⟨w.heap.size, 1, none⟩ = some (.slice (some ⟨gu, ou, none⟩) M.f.used.length uc) ∧ w'.cell? ⟨w.heap.size, 2, none⟩ = some e ∧ w'.cell? ⟨gu, ou + k, none⟩ = some (.bool true)) ((refine ⟨?_, ?_, ?_, ?_⟩ <;> (go_simp; done))) ((go_at_call 72; refine (P1.out _ (by exact bel)).mono ?_; rintro e2 w2 ⟨ao, cap, rfl, hb⟩; obtain ⟨kwc_0_0, kwc_0_1, kwc_0_2⟩ := kp3 hb (w.heap.size) (.slice co M.f.cells.length cc) (.slice (some ⟨gu, ou, none⟩) M.f.used.length uc) (e); have kwc_gu : w2.cell? ⟨gu, ou + k, none⟩ = some (.bool true) := kc hb; have xwc_0 : w.heap.size < w2.heap.size := xc hb; have xwc_gu : gu < w2.heap.size := xc hb; have hzwc := hb.size; (try simp only [World.size_alloc, World.size_setCell, World.size_drew] at hzwc); obtain ⟨wc, rfl⟩ : ∃ x, x = w2 := ⟨_, rfl⟩))
            all_goals go_wp2
            all_goals go_roundw
            case rel => exact ⟨k + 1, by omega, by go_num, by rw [allTo, HK.out, HU.out, b1]; rfl, by (have hB := HB.out; exact bel), by go_simp, by go_simp, by go_simp, by omega⟩
            case measure => simp [intOf]; omega
        · have b5 : ¬ 0 < nn := by omega
          obtain rfl : nn = 0 := by omega
          clear b4
          cases uk
          · go_wp2
            go_region_held3 (fun w' => w'.cell? ⟨w.heap.size, 0, none⟩ = some (.slice co M.f.cells.length cc) ∧ w'.cell? ⟨w.heap.size, 1, none⟩ = some (.slice (some ⟨gu, ou, none⟩) M.f.used.length uc) ∧ w'.cell? ⟨w.heap.size, 2, none⟩ = some e ∧ w'.cell? ⟨gu, ou + k, none⟩ = some (.bool false)) ((refine ⟨?_, ?_, ?_, ?_⟩ <;> (go_simp; done))) ((go_at_call 72; refine (P1.out _ (by exact bel)).mono ?_; rintro e2 w2 ⟨ao, cap, rfl, hb⟩; obtain ⟨kwc_0_0, kwc_0_1, kwc_0_2⟩ := kp3 hb (w.heap.size) (.slice co M.f.cells.length cc) (.slice (some ⟨gu, ou, none⟩) M.f.used.length uc) (e); have kwc_gu : w2.cell? ⟨gu, ou + k, none⟩ = some (.bool false) := kc hb; have xwc_0 : w.heap.size < w2.heap.size := xc hb; have xwc_gu : gu < w2.heap.size := xc hb; have hzwc := hb.size; (try simp only [World.size_alloc, World.size_setCell, World.size_drew] at hzwc); obtain ⟨wc, rfl⟩ : ∃ x, x = w2 := ⟨_, rfl⟩))
            all_goals go_wp2
            all_goals go_roundw
            case rel => exact ⟨k + 1, by omega, by go_num, by rw [allTo, HK.out, HU.out, b1]; rfl, by (have hB := HB.out; exact bel), by go_simp, by go_simp, by go_simp, by omega⟩
            case measure => simp [intOf]; omega
          · go_wp2
            go_region_held3 (fun w' => w'.cell? ⟨w.heap.size, 0, none⟩ = some (.slice co M.f.cells.length cc) ∧ w'.cell? ⟨w.heap.size, 1, none⟩ = some (.slice (some ⟨gu, ou, none⟩) M.f.used.length uc) ∧ w'.cell? ⟨w.heap.size, 2, none⟩ = some e ∧ w'.cell? ⟨gu, ou + k, none⟩ = some (.bool true)) ((refine ⟨?_, ?_, ?_, ?_⟩ <;> (go_simp; done))) ((go_at_call 72; refine (P1.out _ (by exact bel)).mono ?_; rintro e2 w2 ⟨ao, cap, rfl, hb⟩; obtain ⟨kwc_0_0, kwc_0_1, kwc_0_2⟩ := kp3 hb (w.heap.size) (.slice co M.f.cells.length cc) (.slice (some ⟨gu, ou, none⟩) M.f.used.length uc) (e); have kwc_gu : w2.cell? ⟨gu, ou + k, none⟩ = some (.bool true) := kc hb; have xwc_0 : w.heap.size < w2.heap.size := xc hb; have xwc_gu : gu < w2.heap.size := xc hb; have hzwc := hb.size; (try simp only [World.size_alloc, World.size_setCell, World.size_drew] at hzwc); obtain ⟨wc, rfl⟩ : ∃ x, x = w2 := ⟨_, rfl⟩))
            all_goals go_wp2
            all_goals (go_ret; exact ⟨ret_bool (a := false) (by rw [machineOk, h1, h2, allTo_false hlt (by rw [HU.out, b1]; rfl)]; rfl), by (have hB := HB.out; exact bel)⟩)
      · have hlt' : ¬ (k : Int) < M.f.used.length := by omega
        obtain rfl : k = M.f.used.length := by omega
        clear hbel
        go_wp2
        go_ret
        exact ⟨ret_bool (a := true) (by rw [machineOk, h1, h2, HK.out]; rfl), HB.out⟩

end Go.Proofs.Ytkkebpcclklmcaa
/-
  Kernels that are valid.
-/
set_option linter.unusedVariables false
set_option linter.unusedSimpArgs false
namespace Go.Proofs.Ytkkebpcclklmcaa
open Go.RowKit
def refOk (K : Ker) (k : Nat) : Bool := allTo (fun i => decide (0 ≤ K.refuse.getD i 0)) k
theorem kernelOk_eq (K : Ker) : kernelOk K = (refOk K K.refuse.length && between K.calls 0 100000 && decide ((K.refuse.length : Int) ≤ 40) && machineOk K.m) := rfl
theorem refOk_succ {K : Ker} {k : Nat} {x : Int} (h : K.refuse[k]? = some x) : refOk K (k + 1) = (refOk K k && decide (0 ≤ x)) := by unfold refOk; rw [allTo, getD_of h]
theorem refOk_not {K : Ker} {k n : Nat} {x : Int} (hk : k < n) (h : K.refuse[k]? = some x) (bad : decide (0 ≤ x) = false) : refOk K n = false := allTo_false hk (by rw [getD_of h]; exact bad)
theorem i_KernelOk (x : KV) (K : Ker) (r : Bool) (hr : kernelOk K = r) (w : World) (ha : KAt w x K) : Calls Try.prog 16 #[x.val K.calls] w fun e w' => e = .returned (.bool r) ∧ Below w.heap.size w w' := by
  subst hr
  obtain ⟨m, rv⟩ := x
  have HM := Lib.hid ha.m
  obtain ⟨ro, rc, hr, hr1, hr2, hrd⟩ := IntsAt.open ha.ref
  dsimp only at hr HM
  subst hr
  have HR := Lib.hid hrd
  have hm : K.refuse.length ≤ 9223372036854775807 := by unfold maxLen at hr2; omega
  clear ha hr1 hr2 hrd
  simp only [KV.val]
  (have hall := all_nil w; go_enter Try.func16, Try.ntmps16)
  go_wp2_with (fail)
  go_loop [8] (fun i => ∃ k : Nat, k ≤ K.refuse.length ∧ i = .int .i64 k ∧ refOk K k = true) (fun i => K.refuse.length - (intOf i).toNat)
  case atStart => exact ⟨0, Nat.zero_le _, rfl, rfl⟩
  case round =>
    obtain ⟨k, hk, rfl, hok⟩ := hrel
    have HK := Lib.hid hok; clear hok
    by_cases hlt : k < K.refuse.length
    · have hlt' : (k : Int) < K.refuse.length := by omega
      obtain ⟨y, hy⟩ := getx hlt
      obtain ⟨g, o, rfl, hg, c0⟩ := HR.out k y hy
      have HS := Lib.hid (refOk_succ hy)
      have HN := Lib.hid (fun bad => refOk_not hlt hy bad)
      clear hy
      rcases ltc y 0 with ⟨b1, b2, -⟩ | ⟨b1, b2, -⟩
      · go_wp2_with (fail)
        go_ret
        exact ⟨ret_bool (a := false) (by rw [kernelOk_eq, HN.out b2]; rfl), by exact bel⟩
      · go_wp2_with (fail)
        go_round
        case rel => exact ⟨k + 1, by omega, by go_num, by rw [HS.out, HK.out, b2]; rfl⟩
        case measure => simp [intOf]; omega
    · have hlt' : ¬ (k : Int) < K.refuse.length := by omega
      obtain rfl : k = K.refuse.length := by omega
      cases h1 : between K.calls 0 100000
      all_goals cases h3 : machineOk K.m
      all_goals have HO := Lib.hid h3
      all_goals rcases lec K.refuse.length 40 with ⟨h4, h5, -⟩ | ⟨h4, h5, -⟩
      all_goals go_wp2_with (first | (go_at_call 45; (refine (i_MachineOk m K.m _ HO.out _ (HM.out.below (by exact bel))).mono ?_; rintro e w2 ⟨rfl, hb⟩; obtain ⟨kwa_0_0, kwa_0_1, kwa_0_2, kwa_0_3, kwa_0_4⟩ := kp5 hb (w.heap.size) (m.f.c) (m.f.u) (m.e) (.int .i64 K.calls) (.slice ro K.refuse.length rc); have xwa_0 : w.heap.size < w2.heap.size := xc hb; have hzwa := hb.size; (try simp only [World.size_alloc, World.size_setCell, World.size_drew] at hzwa); obtain ⟨wa, rfl⟩ : ∃ x, x = w2 := ⟨_, rfl⟩)) | (go_at_call 39; (first | (refine (i_between _ _ _ true (by assumption) _).mono ?_) | (refine (i_between _ _ _ false (by assumption) _).mono ?_)); rintro e w2 ⟨rfl, rfl⟩))
      all_goals go_ret
      all_goals exact ⟨by rw [kernelOk_eq, HK.out, h1, h3, h5]; rfl, by exact bel⟩

theorem s_KernelOk (x : KV) (K : Ker) (r : Bool) (hr : kernelOk K = r) (w : World) (ha : KAt w x K) : Calls Try.prog 81 #[x.val K.calls] w fun e w' => e = .returned (.bool r) ∧ Below w.heap.size w w' := by
  subst hr
  obtain ⟨m, rv⟩ := x
  have HM := Lib.hid ha.m
  obtain ⟨ro, rc, hr, hr1, hr2, hrd⟩ := IntsAt.open ha.ref
  dsimp only at hr HM
  subst hr
  have HR := Lib.hid hrd
  have hm : K.refuse.length ≤ 9223372036854775807 := by unfold maxLen at hr2; omega
  clear ha hr1 hr2 hrd
  simp only [KV.val]
  (have hall := all_nil w; go_enter Try.func81, Try.ntmps81)
  go_wp2_with (fail)
  go_loop [3] (fun i => ∃ k : Nat, k ≤ K.refuse.length ∧ i = .int .i64 k ∧ refOk K k = true) (fun i => K.refuse.length - (intOf i).toNat)
  case atStart => exact ⟨0, Nat.zero_le _, rfl, rfl⟩
  case round =>
    obtain ⟨k, hk, rfl, hok⟩ := hrel
    have HK := Lib.hid hok; clear hok
    by_cases hlt : k < K.refuse.length
    · have hlt' : (k : Int) < K.refuse.length := by omega
      obtain ⟨y, hy⟩ := getx hlt
      obtain ⟨g, o, rfl, hg, c0⟩ := HR.out k y hy
      have HS := Lib.hid (refOk_succ hy)
      have HN := Lib.hid (fun bad => refOk_not hlt hy bad)
      clear hy
      rcases ltc y 0 with ⟨b1, b2, -⟩ | ⟨b1, b2, -⟩
      · go_wp2_with (fail)
        go_ret
        exact ⟨ret_bool (a := false) (by rw [kernelOk_eq, HN.out b2]; rfl), by exact bel⟩
      · go_wp2_with (fail)
        go_round
        case rel => exact ⟨k + 1, by omega, by go_num, by rw [HS.out, HK.out, b2]; rfl⟩
        case measure => simp [intOf]; omega
    · have hlt' : ¬ (k : Int) < K.refuse.length := by omega
      obtain rfl : k = K.refuse.length := by omega
      cases h1 : between K.calls 0 100000
      all_goals cases h3 : machineOk K.m
      all_goals have HO := Lib.hid h3
      all_goals rcases lec K.refuse.length 40 with ⟨h4, h5, -⟩ | ⟨h4, h5, -⟩
      all_goals go_wp2_with (first | (go_at_call 42; (refine (s_MachineOk m K.m _ HO.out _ (HM.out.below (by exact bel))).mono ?_; rintro e w2 ⟨rfl, hb⟩; obtain ⟨kwa_0_0, kwa_0_1, kwa_0_2, kwa_0_3, kwa_0_4⟩ := kp5 hb (w.heap.size) (m.f.c) (m.f.u) (m.e) (.int .i64 K.calls) (.slice ro K.refuse.length rc); have xwa_0 : w.heap.size < w2.heap.size := xc hb; have hzwa := hb.size; (try simp only [World.size_alloc, World.size_setCell, World.size_drew] at hzwa); obtain ⟨wa, rfl⟩ : ∃ x, x = w2 := ⟨_, rfl⟩)) | (go_at_call 47; (first | (refine (s_l01In _ _ _ true (by assumption) _).mono ?_) | (refine (s_l01In _ _ _ false (by assumption) _).mono ?_)); rintro e w2 ⟨rfl, rfl⟩))
      all_goals go_ret
      all_goals exact ⟨by rw [kernelOk_eq, HK.out, h1, h3, h5]; rfl, by exact bel⟩

end Go.Proofs.Ytkkebpcclklmcaa
