/-
  Texts put together: KOk5, KOk6, KRead, KCopy.
-/
import Derived.Test.YtobechjagckdfaaGLT6
import Derived.Deep.RegionHeld3
import Derived.Test.YtobechjagckdfaaGLT2
import Derived.Test.YtobechjagckdfaaGLT3
/-
  Machines that are valid, by the reference.
-/
set_option linter.unusedVariables false
set_option linter.unusedSimpArgs false
namespace Go.Proofs.Ytobechjagckdfaa
open Go.RowKit
theorem s_MachineOk (x : MV) (M : Mac) (r : Bool) (hr : machineOk M = r) (w : World) (ha : MAt w x M) : Calls Try.prog 41 #[x.val] w fun e w' => e = .returned (.bool r) ∧ Below w.heap.size w w' := by
  subst hr
  obtain ⟨⟨c, u, vs⟩, e⟩ := x
  obtain ⟨uo, uc, hu, hu1, hu2⟩ := ha.f.used.shape
  dsimp only at hu
  subst hu
  obtain ⟨co, cc, hc, _, _⟩ := RowsAt.shape ha.f.rows
  dsimp only at hc
  subst hc
  have HF := Lib.hid ha.f; have HE := Lib.hid ha.ents
  have hm : M.f.used.length ≤ 9223372036854775807 := by unfold maxLen at hu2; omega
  clear ha hu1 hu2
  simp only [MV.val]
  dsimp only at HF HE
  cases h1 : framesOk M.f
  · have H1 := Lib.hid h1
    (have hall := all_nil w; go_enter Try.func41, Try.ntmps41)
    go_wp2_with (first | (go_at_call 65; (refine (s_FramesOk ⟨_, _, vs⟩ M.f _ H1.out _ (HF.out.below (by exact bel))).mono ?_; rintro e w2 ⟨rfl, hb⟩; obtain ⟨kwa_0_0, kwa_0_1, kwa_0_2⟩ := kp3 hb (w.heap.size) (.slice co M.f.cells.length cc) (.slice uo M.f.used.length uc) (e); have xwa_0 : w.heap.size < w2.heap.size := xc hb; have hzwa := hb.size; (try simp only [World.size_alloc, World.size_setCell, World.size_drew] at hzwa); obtain ⟨wa, rfl⟩ : ∃ x, x = w2 := ⟨_, rfl⟩)) | (with_reducible refine wp_region_grew2 (by kernel_rfl) (by kernel_rfl) ?_; intro w2 hb; (first | have hn := nw4 hb hall (by exact zo) | have hn := nw3 hb hall (by exact zo) | have hn := nw2 hb hall (by exact zo) | have hn := nw1 hb hall (by exact zo) | have hn := nw0 hb hall (by exact zo)); obtain ⟨hc, hf, hn, hc0⟩ := hn; replace hall := hn; clear hn; have hz := hb.size; (try simp only [World.size_alloc, World.size_setCell, World.size_drew] at hz); have hx := hall; (try simp only [allLt, and_true] at hx); obtain ⟨w1, rfl⟩ : ∃ x, x = w2 := ⟨_, rfl⟩; (repeat (go_big_quiet_step (fail))); refine wpQuiet_nil ?_; intro w2 hw'; have hb := grew_below hw'; clear hw'; (first | have hn := nw4 hb hall (by exact zo) | have hn := nw3 hb hall (by exact zo) | have hn := nw2 hb hall (by exact zo) | have hn := nw1 hb hall (by exact zo) | have hn := nw0 hb hall (by exact zo)); obtain ⟨hc, hf, hn, hc0⟩ := hn; replace hall := hn; clear hn; have hz := hb.size; (try simp only [World.size_alloc, World.size_setCell, World.size_drew] at hz); have hx := hall; (try simp only [allLt, and_true] at hx); obtain ⟨w1, rfl⟩ : ∃ x, x = w2 := ⟨_, rfl⟩))
    go_ret
    exact ⟨ret_bool (a := false) (by unfold machineOk; rw [h1]; rfl), by exact bel⟩
  cases h2 : tableOk M.ents M.f.used.length
  · have H1 := Lib.hid h1; have H2 := Lib.hid h2; rw [framesOk_len h1] at H2
    (have hall := all_nil w; go_enter Try.func41, Try.ntmps41)
    go_wp2_with (first | (go_at_call 65; (refine (s_FramesOk ⟨_, _, vs⟩ M.f _ H1.out _ (HF.out.below (by exact bel))).mono ?_; rintro e w2 ⟨rfl, hb⟩; obtain ⟨kwa_0_0, kwa_0_1, kwa_0_2⟩ := kp3 hb (w.heap.size) (.slice co M.f.cells.length cc) (.slice uo M.f.used.length uc) (e); have xwa_0 : w.heap.size < w2.heap.size := xc hb; have hzwa := hb.size; (try simp only [World.size_alloc, World.size_setCell, World.size_drew] at hzwa); obtain ⟨wa, rfl⟩ : ∃ x, x = w2 := ⟨_, rfl⟩)) | (go_at_call 66; (refine (s_TableOk _ M.ents _ _ H2.out _ (HE.out.below (by exact bel))).mono ?_; rintro e w2 ⟨rfl, hb⟩; obtain ⟨kwb_0_0, kwb_0_1, kwb_0_2⟩ := kp3 hb (w.heap.size) (.slice co M.f.cells.length cc) (.slice uo M.f.used.length uc) (e); have xwb_0 : w.heap.size < w2.heap.size := xc hb; have hzwb := hb.size; (try simp only [World.size_alloc, World.size_setCell, World.size_drew] at hzwb); obtain ⟨wb, rfl⟩ : ∃ x, x = w2 := ⟨_, rfl⟩)) | (with_reducible refine wp_region_grew2 (by kernel_rfl) (by kernel_rfl) ?_; intro w2 hb; (first | have hn := nw4 hb hall (by exact zo) | have hn := nw3 hb hall (by exact zo) | have hn := nw2 hb hall (by exact zo) | have hn := nw1 hb hall (by exact zo) | have hn := nw0 hb hall (by exact zo)); obtain ⟨hc, hf, hn, hc0⟩ := hn; replace hall := hn; clear hn; have hz := hb.size; (try simp only [World.size_alloc, World.size_setCell, World.size_drew] at hz); have hx := hall; (try simp only [allLt, and_true] at hx); obtain ⟨w1, rfl⟩ : ∃ x, x = w2 := ⟨_, rfl⟩; (repeat (go_big_quiet_step (fail))); refine wpQuiet_nil ?_; intro w2 hw'; have hb := grew_below hw'; clear hw'; (first | have hn := nw4 hb hall (by exact zo) | have hn := nw3 hb hall (by exact zo) | have hn := nw2 hb hall (by exact zo) | have hn := nw1 hb hall (by exact zo) | have hn := nw0 hb hall (by exact zo)); obtain ⟨hc, hf, hn, hc0⟩ := hn; replace hall := hn; clear hn; have hz := hb.size; (try simp only [World.size_alloc, World.size_setCell, World.size_drew] at hz); have hx := hall; (try simp only [allLt, and_true] at hx); obtain ⟨w1, rfl⟩ : ∃ x, x = w2 := ⟨_, rfl⟩))
    go_ret
    exact ⟨ret_bool (a := false) (by unfold machineOk; rw [h1, h2]; rfl), by exact bel⟩
  · have H1 := Lib.hid h1; have H2 := Lib.hid h2; rw [framesOk_len h1] at H2
    (have hall := all_nil w; go_enter Try.func41, Try.ntmps41)
    go_wp2_with (first | (go_at_call 65; (refine (s_FramesOk ⟨_, _, vs⟩ M.f _ H1.out _ (HF.out.below (by exact bel))).mono ?_; rintro e w2 ⟨rfl, hb⟩; obtain ⟨kwa_0_0, kwa_0_1, kwa_0_2⟩ := kp3 hb (w.heap.size) (.slice co M.f.cells.length cc) (.slice uo M.f.used.length uc) (e); have xwa_0 : w.heap.size < w2.heap.size := xc hb; have hzwa := hb.size; (try simp only [World.size_alloc, World.size_setCell, World.size_drew] at hzwa); obtain ⟨wa, rfl⟩ : ∃ x, x = w2 := ⟨_, rfl⟩)) | (go_at_call 66; (refine (s_TableOk _ M.ents _ _ H2.out _ (HE.out.below (by exact bel))).mono ?_; rintro e w2 ⟨rfl, hb⟩; obtain ⟨kwb_0_0, kwb_0_1, kwb_0_2⟩ := kp3 hb (w.heap.size) (.slice co M.f.cells.length cc) (.slice uo M.f.used.length uc) (e); have xwb_0 : w.heap.size < w2.heap.size := xc hb; have hzwb := hb.size; (try simp only [World.size_alloc, World.size_setCell, World.size_drew] at hzwb); obtain ⟨wb, rfl⟩ : ∃ x, x = w2 := ⟨_, rfl⟩)) | (with_reducible refine wp_region_grew2 (by kernel_rfl) (by kernel_rfl) ?_; intro w2 hb; (first | have hn := nw4 hb hall (by exact zo) | have hn := nw3 hb hall (by exact zo) | have hn := nw2 hb hall (by exact zo) | have hn := nw1 hb hall (by exact zo) | have hn := nw0 hb hall (by exact zo)); obtain ⟨hc, hf, hn, hc0⟩ := hn; replace hall := hn; clear hn; have hz := hb.size; (try simp only [World.size_alloc, World.size_setCell, World.size_drew] at hz); have hx := hall; (try simp only [allLt, and_true] at hx); obtain ⟨w1, rfl⟩ : ∃ x, x = w2 := ⟨_, rfl⟩; (repeat (go_big_quiet_step (fail))); refine wpQuiet_nil ?_; intro w2 hw'; have hb := grew_below hw'; clear hw'; (first | have hn := nw4 hb hall (by exact zo) | have hn := nw3 hb hall (by exact zo) | have hn := nw2 hb hall (by exact zo) | have hn := nw1 hb hall (by exact zo) | have hn := nw0 hb hall (by exact zo)); obtain ⟨hc, hf, hn, hc0⟩ := hn; replace hall := hn; clear hn; have hz := hb.size; (try simp only [World.size_alloc, World.size_setCell, World.size_drew] at hz); have hx := hall; (try simp only [allLt, and_true] at hx); obtain ⟨w1, rfl⟩ : ∃ x, x = w2 := ⟨_, rfl⟩))
    have hn32 := tableOk_len h2
    go_loopw [3] (fun i wr => ∃ k : Nat, k ≤ M.f.used.length ∧ i = .int .i64 k ∧ allTo (usedOk M) k = true ∧ Below w.heap.size w wr ∧ wr.cell? ⟨w.heap.size, 0, none⟩ = some (.slice co M.f.cells.length cc) ∧ wr.cell? ⟨w.heap.size, 1, none⟩ = some (.slice uo M.f.used.length uc) ∧ wr.cell? ⟨w.heap.size, 2, none⟩ = some e ∧ w.heap.size < wr.heap.size) (fun i _ => M.f.used.length - (intOf i).toNat)
    case atStart => exact ⟨0, Nat.zero_le _, rfl, rfl, by exact bel, by assumption, by assumption, by assumption, by assumption⟩
    case round =>
      obtain ⟨k, hk, rfl, hok, hbel, k0, k1, k2, xb⟩ := hrel
      have HK := Lib.hid hok; have HB := Lib.hid hbel; have hsz := hbel.size; clear hok
      by_cases hlt : k < M.f.used.length
      · have hlt' : (k : Int) < M.f.used.length := by omega
        obtain ⟨uk, huk⟩ := getx hlt
        obtain ⟨uo', uc', hue, _, _, hur⟩ := BoolsAt.open HF.out.used
        simp only [Value.slice.injEq] at hue
        obtain ⟨rfl, -, rfl⟩ := hue
        obtain ⟨gu, ou, rfl, hgu, hcu⟩ := hur k uk huk
        replace hcu := (hbel.cell (p := ⟨gu, ou + k, none⟩) hgu).trans hcu
        have HU := Lib.hid (usedOk_of huk)
        clear huk hur
        obtain ⟨w1, rfl⟩ : ∃ x, x = wr := ⟨_, rfl⟩
        have xg : gu < w1.heap.size := by omega
        have HL := Lib.hid (pagesOn_le M.ents k)
        obtain ⟨nn, hnn⟩ : ∃ nn, nn = (pagesOn M.ents k).length := ⟨_, rfl⟩
        have P1 := Lib.hid (fun W (hW : Below w1.heap.size w1 W) => pages_n (s_PagesOn e M.ents k (by omega) W (HE.out.below (HB.out.trans (hW.mono hsz)))))
        rw [← hnn] at P1 HU HL
        have hnn32 : nn ≤ 32 := by have := HL.out; omega
        clear hnn
        clear hbel
        rcases ltc 0 nn with ⟨b1, b2, b3⟩ | ⟨b1, b2, b3⟩
        all_goals have b4 : 0 < nn ↔ (0 : Int) < nn := by omega
        · have b5 : 0 < nn := by omega
          have b6 : ((nn : Int) == 0) = false := by simp; omega
          clear b4
          cases uk
          · go_wp2
            go_region_held3 (fun w' => w'.cell? ⟨w.heap.size, 0, none⟩ = some (.slice co M.f.cells.length cc) ∧ w'.cell? ⟨w.heap.size, 1, none⟩ = some (.slice (some ⟨gu, ou, none⟩) M.f.used.length uc) ∧ w'.cell? ⟨w.heap.size, 2, none⟩ = some e ∧ w'.cell? ⟨gu, ou + k, none⟩ = some (.bool false)) (first | (refine ⟨?_, ?_, ?_, ?_⟩ <;> (go_simp; done)) | go_keep) (first | (go_at_call 67; refine (P1.out _ (by exact bel)).mono ?_; rintro e2 w2 ⟨ao, cap, rfl, hb⟩; obtain ⟨kwc_0_0, kwc_0_1, kwc_0_2⟩ := kp3 hb (w.heap.size) (.slice co M.f.cells.length cc) (.slice (some ⟨gu, ou, none⟩) M.f.used.length uc) (e); have kwc_gu : w2.cell? ⟨gu, ou + k, none⟩ = some (.bool false) := kc hb; have xwc_0 : w.heap.size < w2.heap.size := xc hb; have xwc_gu : gu < w2.heap.size := xc hb; have hzwc := hb.size; (try simp only [World.size_alloc, World.size_setCell, World.size_drew] at hzwc); obtain ⟨wc, rfl⟩ : ∃ x, x = w2 := ⟨_, rfl⟩))
            all_goals go_wp2
            all_goals (go_ret; exact ⟨ret_bool (a := false) (by rw [machineOk, h1, h2, allTo_false hlt (by rw [HU.out, b1]; rfl)]; rfl), by (have hB := HB.out; exact bel)⟩)
          · go_wp2
            go_region_held3 (fun w' => w'.cell? ⟨w.heap.size, 0, none⟩ = some (.slice co M.f.cells.length cc) ∧ w'.cell? ⟨w.heap.size, 1, none⟩ = some (.slice (some ⟨gu, ou, none⟩) M.f.used.length uc) ∧ w'.cell? ⟨w.heap.size, 2, none⟩ = some e ∧ w'.cell? ⟨gu, ou + k, none⟩ = some (.bool true)) (first | (refine ⟨?_, ?_, ?_, ?_⟩ <;> (go_simp; done)) | go_keep) (first | (go_at_call 67; refine (P1.out _ (by exact bel)).mono ?_; rintro e2 w2 ⟨ao, cap, rfl, hb⟩; obtain ⟨kwc_0_0, kwc_0_1, kwc_0_2⟩ := kp3 hb (w.heap.size) (.slice co M.f.cells.length cc) (.slice (some ⟨gu, ou, none⟩) M.f.used.length uc) (e); have kwc_gu : w2.cell? ⟨gu, ou + k, none⟩ = some (.bool true) := kc hb; have xwc_0 : w.heap.size < w2.heap.size := xc hb; have xwc_gu : gu < w2.heap.size := xc hb; have hzwc := hb.size; (try simp only [World.size_alloc, World.size_setCell, World.size_drew] at hzwc); obtain ⟨wc, rfl⟩ : ∃ x, x = w2 := ⟨_, rfl⟩))
            all_goals go_wp2
            all_goals go_roundw
            case rel => exact ⟨k + 1, by omega, by go_num, by rw [allTo, HK.out, HU.out, b1]; rfl, by (have hB := HB.out; exact bel), by go_simp, by go_simp, by go_simp, by omega⟩
            case measure => simp [intOf]; omega
        · have b5 : ¬ 0 < nn := by omega
          obtain rfl : nn = 0 := by omega
          clear b4
          cases uk
          · go_wp2
            go_region_held3 (fun w' => w'.cell? ⟨w.heap.size, 0, none⟩ = some (.slice co M.f.cells.length cc) ∧ w'.cell? ⟨w.heap.size, 1, none⟩ = some (.slice (some ⟨gu, ou, none⟩) M.f.used.length uc) ∧ w'.cell? ⟨w.heap.size, 2, none⟩ = some e ∧ w'.cell? ⟨gu, ou + k, none⟩ = some (.bool false)) (first | (refine ⟨?_, ?_, ?_, ?_⟩ <;> (go_simp; done)) | go_keep) (first | (go_at_call 67; refine (P1.out _ (by exact bel)).mono ?_; rintro e2 w2 ⟨ao, cap, rfl, hb⟩; obtain ⟨kwc_0_0, kwc_0_1, kwc_0_2⟩ := kp3 hb (w.heap.size) (.slice co M.f.cells.length cc) (.slice (some ⟨gu, ou, none⟩) M.f.used.length uc) (e); have kwc_gu : w2.cell? ⟨gu, ou + k, none⟩ = some (.bool false) := kc hb; have xwc_0 : w.heap.size < w2.heap.size := xc hb; have xwc_gu : gu < w2.heap.size := xc hb; have hzwc := hb.size; (try simp only [World.size_alloc, World.size_setCell, World.size_drew] at hzwc); obtain ⟨wc, rfl⟩ : ∃ x, x = w2 := ⟨_, rfl⟩))
            all_goals go_wp2
            all_goals go_roundw
            case rel => exact ⟨k + 1, by omega, by go_num, by rw [allTo, HK.out, HU.out, b1]; rfl, by (have hB := HB.out; exact bel), by go_simp, by go_simp, by go_simp, by omega⟩
            case measure => simp [intOf]; omega
          · go_wp2
            go_region_held3 (fun w' => w'.cell? ⟨w.heap.size, 0, none⟩ = some (.slice co M.f.cells.length cc) ∧ w'.cell? ⟨w.heap.size, 1, none⟩ = some (.slice (some ⟨gu, ou, none⟩) M.f.used.length uc) ∧ w'.cell? ⟨w.heap.size, 2, none⟩ = some e ∧ w'.cell? ⟨gu, ou + k, none⟩ = some (.bool true)) (first | (refine ⟨?_, ?_, ?_, ?_⟩ <;> (go_simp; done)) | go_keep) (first | (go_at_call 67; refine (P1.out _ (by exact bel)).mono ?_; rintro e2 w2 ⟨ao, cap, rfl, hb⟩; obtain ⟨kwc_0_0, kwc_0_1, kwc_0_2⟩ := kp3 hb (w.heap.size) (.slice co M.f.cells.length cc) (.slice (some ⟨gu, ou, none⟩) M.f.used.length uc) (e); have kwc_gu : w2.cell? ⟨gu, ou + k, none⟩ = some (.bool true) := kc hb; have xwc_0 : w.heap.size < w2.heap.size := xc hb; have xwc_gu : gu < w2.heap.size := xc hb; have hzwc := hb.size; (try simp only [World.size_alloc, World.size_setCell, World.size_drew] at hzwc); obtain ⟨wc, rfl⟩ : ∃ x, x = w2 := ⟨_, rfl⟩))
            all_goals go_wp2
            all_goals (go_ret; exact ⟨ret_bool (a := false) (by rw [machineOk, h1, h2, allTo_false hlt (by rw [HU.out, b1]; rfl)]; rfl), by (have hB := HB.out; exact bel)⟩)
      · have hlt' : ¬ (k : Int) < M.f.used.length := by omega
        obtain rfl : k = M.f.used.length := by omega
        clear hbel
        go_wp2
        go_ret
        exact ⟨ret_bool (a := true) (by rw [machineOk, h1, h2, HK.out]; rfl), HB.out⟩

end Go.Proofs.Ytobechjagckdfaa
/-
  Kernels that are valid.
-/
set_option linter.unusedVariables false
set_option linter.unusedSimpArgs false
namespace Go.Proofs.Ytobechjagckdfaa
open Go.RowKit
def refOk (K : Ker) (k : Nat) : Bool := allTo (fun i => decide (0 ≤ K.refuse.getD i 0)) k
theorem kernelOk_eq (K : Ker) : kernelOk K = (refOk K K.refuse.length && between K.calls 0 100000 && decide ((K.refuse.length : Int) ≤ 40) && machineOk K.m) := rfl
theorem refOk_succ {K : Ker} {k : Nat} {x : Int} (h : K.refuse[k]? = some x) : refOk K (k + 1) = (refOk K k && decide (0 ≤ x)) := by unfold refOk; rw [allTo, getD_of h]
theorem refOk_not {K : Ker} {k n : Nat} {x : Int} (hk : k < n) (h : K.refuse[k]? = some x) (bad : decide (0 ≤ x) = false) : refOk K n = false := allTo_false hk (by rw [getD_of h]; exact bad)
theorem i_KernelOk (x : KV) (K : Ker) (r : Bool) (hr : kernelOk K = r) (w : World) (ha : KAt w x K) : Calls Try.prog 11 #[x.val K.calls] w fun e w' => e = .returned (.bool r) ∧ Below w.heap.size w w' := by
  subst hr
  obtain ⟨m, rv⟩ := x
  have HM := Lib.hid ha.m
  obtain ⟨ro, rc, hr, hr1, hr2, hrd⟩ := IntsAt.open ha.ref
  dsimp only at hr HM
  subst hr
  have HR := Lib.hid hrd
  have hm : K.refuse.length ≤ 9223372036854775807 := by unfold maxLen at hr2; omega
  clear ha hr1 hr2 hrd
  simp only [KV.val]
  (have hall := all_nil w; go_enter Try.func11, Try.ntmps11)
  go_wp2_with (first | (with_reducible refine wp_region_grew2 (by kernel_rfl) (by kernel_rfl) ?_; intro w2 hb; (first | have hn := nw4 hb hall (by exact zo) | have hn := nw3 hb hall (by exact zo) | have hn := nw2 hb hall (by exact zo) | have hn := nw1 hb hall (by exact zo) | have hn := nw0 hb hall (by exact zo)); obtain ⟨hc, hf, hn, hc0⟩ := hn; replace hall := hn; clear hn; have hz := hb.size; (try simp only [World.size_alloc, World.size_setCell, World.size_drew] at hz); have hx := hall; (try simp only [allLt, and_true] at hx); (try (have hO := HO.out; replace HO := Lib.hid (Own.below hO (w' := w2) (by exact bel)); clear hO)); obtain ⟨w1, rfl⟩ : ∃ x, x = w2 := ⟨_, rfl⟩; (repeat (go_big_quiet_step (fail))); refine wpQuiet_nil ?_; intro w2 hw'; have hb := grew_below hw'; clear hw'; (first | have hn := nw4 hb hall (by exact zo) | have hn := nw3 hb hall (by exact zo) | have hn := nw2 hb hall (by exact zo) | have hn := nw1 hb hall (by exact zo) | have hn := nw0 hb hall (by exact zo)); obtain ⟨hc, hf, hn, hc0⟩ := hn; replace hall := hn; clear hn; have hz := hb.size; (try simp only [World.size_alloc, World.size_setCell, World.size_drew] at hz); have hx := hall; (try simp only [allLt, and_true] at hx); (try (have hO := HO.out; replace HO := Lib.hid (Own.below hO (w' := w2) (by exact bel)); clear hO)); obtain ⟨w1, rfl⟩ : ∃ x, x = w2 := ⟨_, rfl⟩))
  go_loop [8] (fun i => ∃ k : Nat, k ≤ K.refuse.length ∧ i = .int .i64 k ∧ refOk K k = true) (fun i => K.refuse.length - (intOf i).toNat)
  case atStart => exact ⟨0, Nat.zero_le _, rfl, rfl⟩
  case round =>
    obtain ⟨k, hk, rfl, hok⟩ := hrel
    have HK := Lib.hid hok; clear hok
    by_cases hlt : k < K.refuse.length
    · have hlt' : (k : Int) < K.refuse.length := by omega
      obtain ⟨y, hy⟩ := getx hlt
      obtain ⟨g, o, rfl, hg, c0⟩ := HR.out k y hy
      have HS := Lib.hid (refOk_succ hy)
      have HN := Lib.hid (fun bad => refOk_not hlt hy bad)
      clear hy
      rcases ltc y 0 with ⟨b1, b2, -⟩ | ⟨b1, b2, -⟩
      · go_wp2_with (first | (with_reducible refine wp_region_grew2 (by kernel_rfl) (by kernel_rfl) ?_; intro w2 hb; (first | have hn := nw4 hb hall (by exact zo) | have hn := nw3 hb hall (by exact zo) | have hn := nw2 hb hall (by exact zo) | have hn := nw1 hb hall (by exact zo) | have hn := nw0 hb hall (by exact zo)); obtain ⟨hc, hf, hn, hc0⟩ := hn; replace hall := hn; clear hn; have hz := hb.size; (try simp only [World.size_alloc, World.size_setCell, World.size_drew] at hz); have hx := hall; (try simp only [allLt, and_true] at hx); (try (have hO := HO.out; replace HO := Lib.hid (Own.below hO (w' := w2) (by exact bel)); clear hO)); obtain ⟨w1, rfl⟩ : ∃ x, x = w2 := ⟨_, rfl⟩; (repeat (go_big_quiet_step (fail))); refine wpQuiet_nil ?_; intro w2 hw'; have hb := grew_below hw'; clear hw'; (first | have hn := nw4 hb hall (by exact zo) | have hn := nw3 hb hall (by exact zo) | have hn := nw2 hb hall (by exact zo) | have hn := nw1 hb hall (by exact zo) | have hn := nw0 hb hall (by exact zo)); obtain ⟨hc, hf, hn, hc0⟩ := hn; replace hall := hn; clear hn; have hz := hb.size; (try simp only [World.size_alloc, World.size_setCell, World.size_drew] at hz); have hx := hall; (try simp only [allLt, and_true] at hx); (try (have hO := HO.out; replace HO := Lib.hid (Own.below hO (w' := w2) (by exact bel)); clear hO)); obtain ⟨w1, rfl⟩ : ∃ x, x = w2 := ⟨_, rfl⟩))
        go_ret
        exact ⟨ret_bool (a := false) (by rw [kernelOk_eq, HN.out b2]; rfl), by exact bel⟩
      · go_wp2_with (first | (with_reducible refine wp_region_grew2 (by kernel_rfl) (by kernel_rfl) ?_; intro w2 hb; (first | have hn := nw4 hb hall (by exact zo) | have hn := nw3 hb hall (by exact zo) | have hn := nw2 hb hall (by exact zo) | have hn := nw1 hb hall (by exact zo) | have hn := nw0 hb hall (by exact zo)); obtain ⟨hc, hf, hn, hc0⟩ := hn; replace hall := hn; clear hn; have hz := hb.size; (try simp only [World.size_alloc, World.size_setCell, World.size_drew] at hz); have hx := hall; (try simp only [allLt, and_true] at hx); (try (have hO := HO.out; replace HO := Lib.hid (Own.below hO (w' := w2) (by exact bel)); clear hO)); obtain ⟨w1, rfl⟩ : ∃ x, x = w2 := ⟨_, rfl⟩; (repeat (go_big_quiet_step (fail))); refine wpQuiet_nil ?_; intro w2 hw'; have hb := grew_below hw'; clear hw'; (first | have hn := nw4 hb hall (by exact zo) | have hn := nw3 hb hall (by exact zo) | have hn := nw2 hb hall (by exact zo) | have hn := nw1 hb hall (by exact zo) | have hn := nw0 hb hall (by exact zo)); obtain ⟨hc, hf, hn, hc0⟩ := hn; replace hall := hn; clear hn; have hz := hb.size; (try simp only [World.size_alloc, World.size_setCell, World.size_drew] at hz); have hx := hall; (try simp only [allLt, and_true] at hx); (try (have hO := HO.out; replace HO := Lib.hid (Own.below hO (w' := w2) (by exact bel)); clear hO)); obtain ⟨w1, rfl⟩ : ∃ x, x = w2 := ⟨_, rfl⟩))
        go_round
        case rel => exact ⟨k + 1, by omega, by go_num, by rw [HS.out, HK.out, b2]; rfl⟩
        case measure => simp [intOf]; omega
    · have hlt' : ¬ (k : Int) < K.refuse.length := by omega
      obtain rfl : k = K.refuse.length := by omega
      cases h1 : between K.calls 0 100000
      all_goals cases h3 : machineOk K.m
      all_goals have HO := Lib.hid h3
      all_goals rcases lec K.refuse.length 40 with ⟨h4, h5, -⟩ | ⟨h4, h5, -⟩
      all_goals go_wp2_with (first | (go_at_call 29; (refine (i_MachineOk m K.m _ HO.out _ (HM.out.below (by exact bel))).mono ?_; rintro e w2 ⟨rfl, hb⟩; obtain ⟨kwa_0_0, kwa_0_1, kwa_0_2, kwa_0_3, kwa_0_4⟩ := kp5 hb (w.heap.size) (m.f.c) (m.f.u) (m.e) (.int .i64 K.calls) (.slice ro K.refuse.length rc); have xwa_0 : w.heap.size < w2.heap.size := xc hb; have hzwa := hb.size; (try simp only [World.size_alloc, World.size_setCell, World.size_drew] at hzwa); obtain ⟨wa, rfl⟩ : ∃ x, x = w2 := ⟨_, rfl⟩)) | (go_at_call 26; (first | (refine (i_between _ _ _ true (by assumption) _).mono ?_) | (refine (i_between _ _ _ false (by assumption) _).mono ?_) | (refine (i_between _ _ _ _ rfl _).mono ?_)); rintro e w2 ⟨rfl, rfl⟩) | (with_reducible refine wp_region_grew2 (by kernel_rfl) (by kernel_rfl) ?_; intro w2 hb; (first | have hn := nw4 hb hall (by exact zo) | have hn := nw3 hb hall (by exact zo) | have hn := nw2 hb hall (by exact zo) | have hn := nw1 hb hall (by exact zo) | have hn := nw0 hb hall (by exact zo)); obtain ⟨hc, hf, hn, hc0⟩ := hn; replace hall := hn; clear hn; have hz := hb.size; (try simp only [World.size_alloc, World.size_setCell, World.size_drew] at hz); have hx := hall; (try simp only [allLt, and_true] at hx); (try (have hO := HO.out; replace HO := Lib.hid (Own.below hO (w' := w2) (by exact bel)); clear hO)); obtain ⟨w1, rfl⟩ : ∃ x, x = w2 := ⟨_, rfl⟩; (repeat (go_big_quiet_step (first | (go_at_call 26; first | exact calls_same (i_between _ _ _ true (by assumption) _) | exact calls_same (i_between _ _ _ false (by assumption) _) | exact calls_same (i_between _ _ _ _ rfl _))))); refine wpQuiet_nil ?_; intro w2 hw'; have hb := grew_below hw'; clear hw'; (first | have hn := nw4 hb hall (by exact zo) | have hn := nw3 hb hall (by exact zo) | have hn := nw2 hb hall (by exact zo) | have hn := nw1 hb hall (by exact zo) | have hn := nw0 hb hall (by exact zo)); obtain ⟨hc, hf, hn, hc0⟩ := hn; replace hall := hn; clear hn; have hz := hb.size; (try simp only [World.size_alloc, World.size_setCell, World.size_drew] at hz); have hx := hall; (try simp only [allLt, and_true] at hx); (try (have hO := HO.out; replace HO := Lib.hid (Own.below hO (w' := w2) (by exact bel)); clear hO)); obtain ⟨w1, rfl⟩ : ∃ x, x = w2 := ⟨_, rfl⟩))
      all_goals go_ret
      all_goals exact ⟨by rw [kernelOk_eq, HK.out, h1, h3, h5]; rfl, by exact bel⟩

theorem s_KernelOk (x : KV) (K : Ker) (r : Bool) (hr : kernelOk K = r) (w : World) (ha : KAt w x K) : Calls Try.prog 69 #[x.val K.calls] w fun e w' => e = .returned (.bool r) ∧ Below w.heap.size w w' := by
  subst hr
  obtain ⟨m, rv⟩ := x
  have HM := Lib.hid ha.m
  obtain ⟨ro, rc, hr, hr1, hr2, hrd⟩ := IntsAt.open ha.ref
  dsimp only at hr HM
  subst hr
  have HR := Lib.hid hrd
  have hm : K.refuse.length ≤ 9223372036854775807 := by unfold maxLen at hr2; omega
  clear ha hr1 hr2 hrd
  simp only [KV.val]
  (have hall := all_nil w; go_enter Try.func69, Try.ntmps69)
  go_wp2_with (first | (with_reducible refine wp_region_grew2 (by kernel_rfl) (by kernel_rfl) ?_; intro w2 hb; (first | have hn := nw4 hb hall (by exact zo) | have hn := nw3 hb hall (by exact zo) | have hn := nw2 hb hall (by exact zo) | have hn := nw1 hb hall (by exact zo) | have hn := nw0 hb hall (by exact zo)); obtain ⟨hc, hf, hn, hc0⟩ := hn; replace hall := hn; clear hn; have hz := hb.size; (try simp only [World.size_alloc, World.size_setCell, World.size_drew] at hz); have hx := hall; (try simp only [allLt, and_true] at hx); (try (have hO := HO.out; replace HO := Lib.hid (Own.below hO (w' := w2) (by exact bel)); clear hO)); obtain ⟨w1, rfl⟩ : ∃ x, x = w2 := ⟨_, rfl⟩; (repeat (go_big_quiet_step (fail))); refine wpQuiet_nil ?_; intro w2 hw'; have hb := grew_below hw'; clear hw'; (first | have hn := nw4 hb hall (by exact zo) | have hn := nw3 hb hall (by exact zo) | have hn := nw2 hb hall (by exact zo) | have hn := nw1 hb hall (by exact zo) | have hn := nw0 hb hall (by exact zo)); obtain ⟨hc, hf, hn, hc0⟩ := hn; replace hall := hn; clear hn; have hz := hb.size; (try simp only [World.size_alloc, World.size_setCell, World.size_drew] at hz); have hx := hall; (try simp only [allLt, and_true] at hx); (try (have hO := HO.out; replace HO := Lib.hid (Own.below hO (w' := w2) (by exact bel)); clear hO)); obtain ⟨w1, rfl⟩ : ∃ x, x = w2 := ⟨_, rfl⟩))
  go_loop [3] (fun i => ∃ k : Nat, k ≤ K.refuse.length ∧ i = .int .i64 k ∧ refOk K k = true) (fun i => K.refuse.length - (intOf i).toNat)
  case atStart => exact ⟨0, Nat.zero_le _, rfl, rfl⟩
  case round =>
    obtain ⟨k, hk, rfl, hok⟩ := hrel
    have HK := Lib.hid hok; clear hok
    by_cases hlt : k < K.refuse.length
    · have hlt' : (k : Int) < K.refuse.length := by omega
      obtain ⟨y, hy⟩ := getx hlt
      obtain ⟨g, o, rfl, hg, c0⟩ := HR.out k y hy
      have HS := Lib.hid (refOk_succ hy)
      have HN := Lib.hid (fun bad => refOk_not hlt hy bad)
      clear hy
      rcases ltc y 0 with ⟨b1, b2, -⟩ | ⟨b1, b2, -⟩
      · go_wp2_with (first | (with_reducible refine wp_region_grew2 (by kernel_rfl) (by kernel_rfl) ?_; intro w2 hb; (first | have hn := nw4 hb hall (by exact zo) | have hn := nw3 hb hall (by exact zo) | have hn := nw2 hb hall (by exact zo) | have hn := nw1 hb hall (by exact zo) | have hn := nw0 hb hall (by exact zo)); obtain ⟨hc, hf, hn, hc0⟩ := hn; replace hall := hn; clear hn; have hz := hb.size; (try simp only [World.size_alloc, World.size_setCell, World.size_drew] at hz); have hx := hall; (try simp only [allLt, and_true] at hx); (try (have hO := HO.out; replace HO := Lib.hid (Own.below hO (w' := w2) (by exact bel)); clear hO)); obtain ⟨w1, rfl⟩ : ∃ x, x = w2 := ⟨_, rfl⟩; (repeat (go_big_quiet_step (fail))); refine wpQuiet_nil ?_; intro w2 hw'; have hb := grew_below hw'; clear hw'; (first | have hn := nw4 hb hall (by exact zo) | have hn := nw3 hb hall (by exact zo) | have hn := nw2 hb hall (by exact zo) | have hn := nw1 hb hall (by exact zo) | have hn := nw0 hb hall (by exact zo)); obtain ⟨hc, hf, hn, hc0⟩ := hn; replace hall := hn; clear hn; have hz := hb.size; (try simp only [World.size_alloc, World.size_setCell, World.size_drew] at hz); have hx := hall; (try simp only [allLt, and_true] at hx); (try (have hO := HO.out; replace HO := Lib.hid (Own.below hO (w' := w2) (by exact bel)); clear hO)); obtain ⟨w1, rfl⟩ : ∃ x, x = w2 := ⟨_, rfl⟩))
        go_ret
        exact ⟨ret_bool (a := false) (by rw [kernelOk_eq, HN.out b2]; rfl), by exact bel⟩
      · go_wp2_with (first | (with_reducible refine wp_region_grew2 (by kernel_rfl) (by kernel_rfl) ?_; intro w2 hb; (first | have hn := nw4 hb hall (by exact zo) | have hn := nw3 hb hall (by exact zo) | have hn := nw2 hb hall (by exact zo) | have hn := nw1 hb hall (by exact zo) | have hn := nw0 hb hall (by exact zo)); obtain ⟨hc, hf, hn, hc0⟩ := hn; replace hall := hn; clear hn; have hz := hb.size; (try simp only [World.size_alloc, World.size_setCell, World.size_drew] at hz); have hx := hall; (try simp only [allLt, and_true] at hx); (try (have hO := HO.out; replace HO := Lib.hid (Own.below hO (w' := w2) (by exact bel)); clear hO)); obtain ⟨w1, rfl⟩ : ∃ x, x = w2 := ⟨_, rfl⟩; (repeat (go_big_quiet_step (fail))); refine wpQuiet_nil ?_; intro w2 hw'; have hb := grew_below hw'; clear hw'; (first | have hn := nw4 hb hall (by exact zo) | have hn := nw3 hb hall (by exact zo) | have hn := nw2 hb hall (by exact zo) | have hn := nw1 hb hall (by exact zo) | have hn := nw0 hb hall (by exact zo)); obtain ⟨hc, hf, hn, hc0⟩ := hn; replace hall := hn; clear hn; have hz := hb.size; (try simp only [World.size_alloc, World.size_setCell, World.size_drew] at hz); have hx := hall; (try simp only [allLt, and_true] at hx); (try (have hO := HO.out; replace HO := Lib.hid (Own.below hO (w' := w2) (by exact bel)); clear hO)); obtain ⟨w1, rfl⟩ : ∃ x, x = w2 := ⟨_, rfl⟩))
        go_round
        case rel => exact ⟨k + 1, by omega, by go_num, by rw [HS.out, HK.out, b2]; rfl⟩
        case measure => simp [intOf]; omega
    · have hlt' : ¬ (k : Int) < K.refuse.length := by omega
      obtain rfl : k = K.refuse.length := by omega
      cases h1 : between K.calls 0 100000
      all_goals cases h3 : machineOk K.m
      all_goals have HO := Lib.hid h3
      all_goals rcases lec K.refuse.length 40 with ⟨h4, h5, -⟩ | ⟨h4, h5, -⟩
      all_goals go_wp2_with (first | (go_at_call 41; (refine (s_MachineOk m K.m _ HO.out _ (HM.out.below (by exact bel))).mono ?_; rintro e w2 ⟨rfl, hb⟩; obtain ⟨kwa_0_0, kwa_0_1, kwa_0_2, kwa_0_3, kwa_0_4⟩ := kp5 hb (w.heap.size) (m.f.c) (m.f.u) (m.e) (.int .i64 K.calls) (.slice ro K.refuse.length rc); have xwa_0 : w.heap.size < w2.heap.size := xc hb; have hzwa := hb.size; (try simp only [World.size_alloc, World.size_setCell, World.size_drew] at hzwa); obtain ⟨wa, rfl⟩ : ∃ x, x = w2 := ⟨_, rfl⟩)) | (go_at_call 28; (first | (refine (s_l01In _ _ _ true (by assumption) _).mono ?_) | (refine (s_l01In _ _ _ false (by assumption) _).mono ?_) | (refine (s_l01In _ _ _ _ rfl _).mono ?_)); rintro e w2 ⟨rfl, rfl⟩) | (with_reducible refine wp_region_grew2 (by kernel_rfl) (by kernel_rfl) ?_; intro w2 hb; (first | have hn := nw4 hb hall (by exact zo) | have hn := nw3 hb hall (by exact zo) | have hn := nw2 hb hall (by exact zo) | have hn := nw1 hb hall (by exact zo) | have hn := nw0 hb hall (by exact zo)); obtain ⟨hc, hf, hn, hc0⟩ := hn; replace hall := hn; clear hn; have hz := hb.size; (try simp only [World.size_alloc, World.size_setCell, World.size_drew] at hz); have hx := hall; (try simp only [allLt, and_true] at hx); (try (have hO := HO.out; replace HO := Lib.hid (Own.below hO (w' := w2) (by exact bel)); clear hO)); obtain ⟨w1, rfl⟩ : ∃ x, x = w2 := ⟨_, rfl⟩; (repeat (go_big_quiet_step (first | (go_at_call 28; first | exact calls_same (s_l01In _ _ _ true (by assumption) _) | exact calls_same (s_l01In _ _ _ false (by assumption) _) | exact calls_same (s_l01In _ _ _ _ rfl _))))); refine wpQuiet_nil ?_; intro w2 hw'; have hb := grew_below hw'; clear hw'; (first | have hn := nw4 hb hall (by exact zo) | have hn := nw3 hb hall (by exact zo) | have hn := nw2 hb hall (by exact zo) | have hn := nw1 hb hall (by exact zo) | have hn := nw0 hb hall (by exact zo)); obtain ⟨hc, hf, hn, hc0⟩ := hn; replace hall := hn; clear hn; have hz := hb.size; (try simp only [World.size_alloc, World.size_setCell, World.size_drew] at hz); have hx := hall; (try simp only [allLt, and_true] at hx); (try (have hO := HO.out; replace HO := Lib.hid (Own.below hO (w' := w2) (by exact bel)); clear hO)); obtain ⟨w1, rfl⟩ : ∃ x, x = w2 := ⟨_, rfl⟩))
      all_goals go_ret
      all_goals exact ⟨by rw [kernelOk_eq, HK.out, h1, h3, h5]; rfl, by exact bel⟩

end Go.Proofs.Ytobechjagckdfaa
/-
  May a kernel be called? Is a page mapped?
-/
set_option linter.unusedVariables false
set_option linter.unusedSimpArgs false
namespace Go.Proofs.Ytobechjagckdfaa
open Go.RowKit
theorem field_ent0 (w : World) (a b : Int) : (Instr.field 51 (.agg #[.int .i64 a, .int .i64 b]) 0).run Try.prog w = .ok (.int .i64 a) w := by kernel_rfl
theorem field_ent1 (w : World) (a b : Int) : (Instr.field 51 (.agg #[.int .i64 a, .int .i64 b]) 1).run Try.prog w = .ok (.int .i64 b) w := by kernel_rfl
attribute [go_sem] field_ent0 field_ent1
def mappedB (es : List Ent) (p : Int) : Bool := (pageEntry es p).m != 0
theorem canCall_lt {K : Ker} (h : kernelOk K = true) : canCall K = decide (K.calls < 100000) := by
  have hc : 0 ≤ K.calls ∧ K.calls ≤ 100000 := by
    rw [kernelOk_eq] at h; simp only [Bool.and_eq_true, between_iff] at h; exact h.1.1.2
  unfold canCall
  rw [h, Bool.and_true]
  by_cases e : K.calls = 100000
  · simp [e]
  · have : K.calls < 100000 := by omega
    simp [e, this]
theorem canCall_not {K : Ker} (h : kernelOk K = false) : canCall K = false := by unfold canCall; rw [h, Bool.and_false]
theorem i_mapped (x : KV) (K : Ker) (p : Int) (r : Bool) (hr : mappedB K.m.ents p = r) (w : World) (ha : KAt w x K) : Calls Try.prog 32 #[x.val K.calls, .int .i64 p] w fun e w' => e = .returned (.bool r) ∧ Below w.heap.size w w' := by
  subst hr
  have PE := Lib.hid (fun W (hW : Below w.heap.size w W) => i_PageEntry x.m.e K.m.ents p W (ha.m.ents.below hW))
  clear ha
  simp only [KV.val]
  unfold mappedB
  generalize pageEntry K.m.ents p = pe at *
  obtain ⟨pm, pf⟩ := pe
  dsimp only at PE ⊢
  rcases eqc pm 0 with ⟨b1, b2⟩ | ⟨b1, b2⟩
  all_goals (have hall := all_nil w; go_enter Try.func32, Try.ntmps32)
  all_goals go_wp2_with (first | (go_at_call 33; (refine (PE.out _ (by exact bel)).mono ?_; rintro e w2 ⟨rfl, hb⟩; (first | have hn := nw4 hb hall (by exact zo) | have hn := nw3 hb hall (by exact zo) | have hn := nw2 hb hall (by exact zo) | have hn := nw1 hb hall (by exact zo) | have hn := nw0 hb hall (by exact zo)); obtain ⟨hc, hf, hn, hc0⟩ := hn; replace hall := hn; clear hn; have hz := hb.size; (try simp only [World.size_alloc, World.size_setCell, World.size_drew] at hz); have hx := hall; (try simp only [allLt, and_true] at hx); obtain ⟨w1, rfl⟩ : ∃ x, x = w2 := ⟨_, rfl⟩)) | (with_reducible refine wp_region_grew2 (by kernel_rfl) (by kernel_rfl) ?_; intro w2 hb; (first | have hn := nw4 hb hall (by exact zo) | have hn := nw3 hb hall (by exact zo) | have hn := nw2 hb hall (by exact zo) | have hn := nw1 hb hall (by exact zo) | have hn := nw0 hb hall (by exact zo)); obtain ⟨hc, hf, hn, hc0⟩ := hn; replace hall := hn; clear hn; have hz := hb.size; (try simp only [World.size_alloc, World.size_setCell, World.size_drew] at hz); have hx := hall; (try simp only [allLt, and_true] at hx); obtain ⟨w1, rfl⟩ : ∃ x, x = w2 := ⟨_, rfl⟩; (repeat (go_big_quiet_step (fail))); refine wpQuiet_nil ?_; intro w2 hw'; have hb := grew_below hw'; clear hw'; (first | have hn := nw4 hb hall (by exact zo) | have hn := nw3 hb hall (by exact zo) | have hn := nw2 hb hall (by exact zo) | have hn := nw1 hb hall (by exact zo) | have hn := nw0 hb hall (by exact zo)); obtain ⟨hc, hf, hn, hc0⟩ := hn; replace hall := hn; clear hn; have hz := hb.size; (try simp only [World.size_alloc, World.size_setCell, World.size_drew] at hz); have hx := hall; (try simp only [allLt, and_true] at hx); obtain ⟨w1, rfl⟩ : ∃ x, x = w2 := ⟨_, rfl⟩))
  all_goals go_ret
  all_goals exact ⟨by rw [b2]; rfl, by exact bel⟩
theorem s_l08Mode (g : Nat) (e : Value) (es : List Ent) (p : Int) (w : World) (hg : g < w.heap.size) (h2 : w.cell? ⟨g, 2, none⟩ = some e) (ha : EntAt w e es) : Calls Try.prog 72 #[.pointer (some ⟨g, 0, none⟩), .int .i64 p] w fun e w' => e = .returned (.int .i64 (pageEntry es p).m) ∧ Below w.heap.size w w' := by
  have PE := Lib.hid (fun W (hW : Below w.heap.size w W) => s_PageEntry e es p W (ha.below hW))
  clear ha
  generalize pageEntry es p = pe at *
  obtain ⟨pm, pf⟩ := pe
  dsimp only at PE ⊢
  (have hall := all_nil w; go_enter Try.func72, Try.ntmps72)
  go_wp2_with (first | (go_at_call 10; (refine (PE.out _ (by exact bel)).mono ?_; rintro e w2 ⟨rfl, hb⟩; (first | have hn := nw4 hb hall (by exact zo) | have hn := nw3 hb hall (by exact zo) | have hn := nw2 hb hall (by exact zo) | have hn := nw1 hb hall (by exact zo) | have hn := nw0 hb hall (by exact zo)); obtain ⟨hc, hf, hn, hc0⟩ := hn; replace hall := hn; clear hn; have hz := hb.size; (try simp only [World.size_alloc, World.size_setCell, World.size_drew] at hz); have hx := hall; (try simp only [allLt, and_true] at hx); obtain ⟨w1, rfl⟩ : ∃ x, x = w2 := ⟨_, rfl⟩)) | (with_reducible refine wp_region_grew2 (by kernel_rfl) (by kernel_rfl) ?_; intro w2 hb; (first | have hn := nw4 hb hall (by exact zo) | have hn := nw3 hb hall (by exact zo) | have hn := nw2 hb hall (by exact zo) | have hn := nw1 hb hall (by exact zo) | have hn := nw0 hb hall (by exact zo)); obtain ⟨hc, hf, hn, hc0⟩ := hn; replace hall := hn; clear hn; have hz := hb.size; (try simp only [World.size_alloc, World.size_setCell, World.size_drew] at hz); have hx := hall; (try simp only [allLt, and_true] at hx); obtain ⟨w1, rfl⟩ : ∃ x, x = w2 := ⟨_, rfl⟩; (repeat (go_big_quiet_step (fail))); refine wpQuiet_nil ?_; intro w2 hw'; have hb := grew_below hw'; clear hw'; (first | have hn := nw4 hb hall (by exact zo) | have hn := nw3 hb hall (by exact zo) | have hn := nw2 hb hall (by exact zo) | have hn := nw1 hb hall (by exact zo) | have hn := nw0 hb hall (by exact zo)); obtain ⟨hc, hf, hn, hc0⟩ := hn; replace hall := hn; clear hn; have hz := hb.size; (try simp only [World.size_alloc, World.size_setCell, World.size_drew] at hz); have hx := hall; (try simp only [allLt, and_true] at hx); obtain ⟨w1, rfl⟩ : ∃ x, x = w2 := ⟨_, rfl⟩))
  go_ret
  exact ⟨rfl, by exact bel⟩
end Go.Proofs.Ytobechjagckdfaa
/-
  Copies of frames, tables, machines, kernels.
-/
set_option linter.unusedVariables false
set_option linter.unusedSimpArgs false
namespace Go.Proofs.Ytobechjagckdfaa
open Go.RowKit
theorem i_copyInts (v : Value) (xs : List Int) (hs : xs.length ≤ 1048576) (w : World) (ha : IntsAt w v xs) : Calls Try.prog 53 #[v] w (NewInts w xs) := by
  have HA := Lib.hid ha
  obtain ⟨ao, ca, rfl, _, _⟩ := ha.shape
  clear ha
  (have hall := all_nil w; go_enter Try.func53, Try.ntmps53)
  go_wp2_with (first | (at_builtin; refine wpList_appendAll elemInt rfl _ _ rfl lenInt oneInt rfl (Own.empty' _ _ _ (w.heap.size) _ _ (by simp) (by exact zt)) (by exact zt) rfl (HA.out.below (by exact bel)) (by simp only [List.length_nil, maxLen]; omega) ?_; intro v2 w2 hown2 hgr2 hat2 hb; (try simp only [List.nil_append] at hown2); obtain ⟨v2o, v2c, rfl, -, -⟩ := hown2.shape; skip))
  go_ret
  exact ⟨_, rfl, hown2, by exact bel⟩
theorem i_copyTable (v : Value) (es : List Ent) (hs : es.length ≤ 1048576) (w : World) (ha : EntAt w v es) : Calls Try.prog 76 #[.agg #[v]] w (NewT w es) := by
  have HA := Lib.hid ha
  obtain ⟨ao, ca, rfl, _, _⟩ := ha.shape
  clear ha
  (have hall := all_nil w; go_enter Try.func76, Try.ntmps76)
  go_wp2_with (first | (at_builtin; refine wpList_appendAll elemEnt rfl _ _ rfl lenEnt oneEnt rfl (Own.empty' _ _ _ (w.heap.size + 1 + 1) _ _ (by simp) (by exact zt)) (by exact zt) rfl (HA.out.below (by exact bel)) (by simp only [List.length_nil, maxLen]; omega) ?_; intro v2 w2 hown2 hgr2 hat2 hb; (try simp only [List.nil_append] at hown2); obtain ⟨v2o, v2c, rfl, -, -⟩ := hown2.shape; have OE := Lib.hid hown2; clear hown2 hgr2 hat2; have kwa_1_0 : w2.cell? ⟨w.heap.size + 1, 0, none⟩ = some (.slice none 0 0) := kc hb; have fwa_1_0 : w2.frozen? ⟨w.heap.size + 1, 0, none⟩ = false := fc hb; have xwa_1 : w.heap.size + 1 < w2.heap.size := xc hb; have hzwa := hb.size; (try simp only [World.size_alloc, World.size_setCell, World.size_drew] at hzwa); obtain ⟨wa, rfl⟩ : ∃ x, x = w2 := ⟨_, rfl⟩))
  refine bodyPost_ret (v := .agg #[.slice v2o es.length v2c]) (by simp [results, Try.results76, go_sem, kwa_1_0, fwa_1_0, xwa_1]) rfl ?_
  exact ⟨_, rfl, by (have hm := Own.mono (B' := w.heap.size + 1 + 1) (OE.out) (by exact zt); refine Own.mono (B := w.heap.size + 1 + 1) ?_ (by exact zt); (repeat (first | with_reducible exact hm | (with_reducible refine Own.offb ?_ (by omega) _) | (with_reducible refine Own.below ?_ ((Below.refl _ _).alloc (Nat.le_refl _) _)) | (with_reducible refine Own.below ?_ (Below.drew (Below.refl _ _))) | (refine Own.below ?_ (by with_reducible assumption))))), by exact bel⟩

theorem s_l06Copy (v : Value) (es : List Ent) (hs : es.length ≤ 1048576) (w : World) (ha : EntAt w v es) : Calls Try.prog 27 #[.agg #[v]] w (NewT w es) := by
  have HA := Lib.hid ha
  obtain ⟨ao, ca, rfl, _, _⟩ := ha.shape
  clear ha
  (have hall := all_nil w; go_enter Try.func27, Try.ntmps27)
  go_wp2_with (first | (at_builtin; refine wpList_appendAll elemEnt rfl _ _ rfl lenEnt oneEnt rfl (Own.empty' _ _ _ (w.heap.size + 1 + 1) _ _ (by simp) (by exact zt)) (by exact zt) rfl (HA.out.below (by exact bel)) (by simp only [List.length_nil, maxLen]; omega) ?_; intro v2 w2 hown2 hgr2 hat2 hb; (try simp only [List.nil_append] at hown2); obtain ⟨v2o, v2c, rfl, -, -⟩ := hown2.shape; have OE := Lib.hid hown2; clear hown2 hgr2 hat2; have kwa_1_0 : w2.cell? ⟨w.heap.size + 1, 0, none⟩ = some (.slice none 0 0) := kc hb; have fwa_1_0 : w2.frozen? ⟨w.heap.size + 1, 0, none⟩ = false := fc hb; have xwa_1 : w.heap.size + 1 < w2.heap.size := xc hb; have hzwa := hb.size; (try simp only [World.size_alloc, World.size_setCell, World.size_drew] at hzwa); obtain ⟨wa, rfl⟩ : ∃ x, x = w2 := ⟨_, rfl⟩))
  refine bodyPost_ret (v := .agg #[.slice v2o es.length v2c]) (by simp [results, Try.results27, go_sem, kwa_1_0, fwa_1_0, xwa_1]) rfl ?_
  exact ⟨_, rfl, by (have hm := Own.mono (B' := w.heap.size + 1 + 1) (OE.out) (by exact zt); refine Own.mono (B := w.heap.size + 1 + 1) ?_ (by exact zt); (repeat (first | with_reducible exact hm | (with_reducible refine Own.offb ?_ (by omega) _) | (with_reducible refine Own.below ?_ ((Below.refl _ _).alloc (Nat.le_refl _) _)) | (with_reducible refine Own.below ?_ (Below.drew (Below.refl _ _))) | (refine Own.below ?_ (by with_reducible assumption))))), by exact bel⟩

end Go.Proofs.Ytobechjagckdfaa
