/-
  Texts put together: Merged.
-/
import Derived.Test.YtkkebpcclklmcaaGB8
import Derived.Test.YtkkebpcclklmcaaGB18
import Derived.Test.YtkkebpcclklmcaaGB12
import Derived.Test.YtkkebpcclklmcaaGB4
/-
  The text of a page into which another is merged, both sides.
-/
set_option linter.unusedVariables false
set_option linter.unusedSimpArgs false
namespace Go.Proofs.Ytkkebpcclklmcaa
open Go.RowKit
def mergedText (kp mv : Int) (cs ks ms : List Int) : List Int := if (planOk kp mv cs && ks.length == 16 && ms.length == 16) = true then copyRow ms ks cs else []
theorem planOk_cell {kp mv : Int} {cs : List Int} {j : Nat} {c : Int} (h : planOk kp mv cs = true) (hc : cs[j]? = some c) : between c 0 15 = true := by
  rw [planOk_eq] at h
  simp only [Bool.and_eq_true] at h
  have := allTo_iff.1 h.1 j (getx_lt hc)
  rw [getD_of hc] at this
  unfold cellOkP at this
  simp only [Bool.and_eq_true] at this
  exact this.1

set_option maxRecDepth 20000 in
set_option maxHeartbeats 1600000 in
theorem s_MergedText (kp mv : Int) (vk vm vc : Value) (ks ms cs : List Int) (w : World) (hk : IntsAt w vk ks) (hm : IntsAt w vm ms) (hc : IntsAt w vc cs) : Calls Try.prog 23 #[vk, vm, .agg #[.int .i64 kp, .int .i64 mv, vc]] w (NewInts w (mergedText kp mv cs ks ms)) := by
  obtain ⟨kso, ksc, rfl, _, hkm⟩ := hk.shape
  obtain ⟨mso, msc, rfl, _, hmm⟩ := hm.shape
  obtain ⟨co, cc, rfl, _, hcm⟩ := hc.shape
  have HK := Lib.hid hk; have HM := Lib.hid hm; have HC := Lib.hid hc
  have hk9 : ks.length ≤ 9223372036854775807 := by unfold maxLen at hkm; omega
  have hm9 : ms.length ≤ 9223372036854775807 := by unfold maxLen at hmm; omega
  have hc9 : cs.length ≤ 9223372036854775807 := by unfold maxLen at hcm; omega
  clear hk hm hc hkm hmm hcm
  cases hp : planOk kp mv cs
  · have HP := Lib.hid hp
    have e : mergedText kp mv cs ks ms = [] := by unfold mergedText; rw [hp]; rfl
    rw [e]; clear e
    (have hall := all_nil w; go_enter Try.func23, Try.ntmps23)
    go_wp2_with (first | (go_at_call 35; (refine (s_PlanOk kp mv _ cs false HP.out _ (HC.out.below (by exact bel))).mono ?_; rintro e w2 ⟨rfl, hb⟩; have HB1 := Lib.hid hb; obtain ⟨kwa_0_0, kwa_0_1, kwa_0_2⟩ := kp3 hb (w.heap.size) (.int .i64 kp) (.int .i64 mv) (.slice co cs.length cc); have xwa_0 : w.heap.size < w2.heap.size := xc hb; have hzwa := hb.size; (try simp only [World.size_alloc, World.size_setCell, World.size_drew] at hzwa); obtain ⟨wa, rfl⟩ : ∃ x, x = w2 := ⟨_, rfl⟩)))
    skip
    go_ret
    exact ⟨_, rfl, (Own.empty _ _ _ _ _ (Nat.le_refl _)).mono (by first | omega | (have := HB1.out.size; simp only [World.size_alloc] at this; omega)), by exact bel⟩
  have HP := Lib.hid hp
  by_cases h1 : ks.length = 16
  rotate_left
  · have h1' : ((ks.length : Int) != 16) = true := by simp; omega
    have e : mergedText kp mv cs ks ms = [] := by unfold mergedText; rw [if_neg (by simp [h1])]
    rw [e]; clear e
    (have hall := all_nil w; go_enter Try.func23, Try.ntmps23)
    go_wp2_with (first | (go_at_call 35; (refine (s_PlanOk kp mv _ cs true HP.out _ (HC.out.below (by exact bel))).mono ?_; rintro e w2 ⟨rfl, hb⟩; have HB1 := Lib.hid hb; obtain ⟨kwa_0_0, kwa_0_1, kwa_0_2⟩ := kp3 hb (w.heap.size) (.int .i64 kp) (.int .i64 mv) (.slice co cs.length cc); have xwa_0 : w.heap.size < w2.heap.size := xc hb; have hzwa := hb.size; (try simp only [World.size_alloc, World.size_setCell, World.size_drew] at hzwa); obtain ⟨wa, rfl⟩ : ∃ x, x = w2 := ⟨_, rfl⟩)))
    go_ret
    exact ⟨_, rfl, (Own.empty _ _ _ _ _ (Nat.le_refl _)).mono (by first | omega | (have := HB1.out.size; simp only [World.size_alloc] at this; omega)), by exact bel⟩
  have h1' : ((ks.length : Int) != 16) = false := by simp; omega
  by_cases h2 : ms.length = 16
  rotate_left
  · have h2' : ((ms.length : Int) != 16) = true := by simp; omega
    have e : mergedText kp mv cs ks ms = [] := by unfold mergedText; rw [if_neg (by simp [h2])]
    rw [e]; clear e
    (have hall := all_nil w; go_enter Try.func23, Try.ntmps23)
    go_wp2_with (first | (go_at_call 35; (refine (s_PlanOk kp mv _ cs true HP.out _ (HC.out.below (by exact bel))).mono ?_; rintro e w2 ⟨rfl, hb⟩; have HB1 := Lib.hid hb; obtain ⟨kwa_0_0, kwa_0_1, kwa_0_2⟩ := kp3 hb (w.heap.size) (.int .i64 kp) (.int .i64 mv) (.slice co cs.length cc); have xwa_0 : w.heap.size < w2.heap.size := xc hb; have hzwa := hb.size; (try simp only [World.size_alloc, World.size_setCell, World.size_drew] at hzwa); obtain ⟨wa, rfl⟩ : ∃ x, x = w2 := ⟨_, rfl⟩)))
    go_ret
    exact ⟨_, rfl, (Own.empty _ _ _ _ _ (Nat.le_refl _)).mono (by first | omega | (have := HB1.out.size; simp only [World.size_alloc] at this; omega)), by exact bel⟩
  have h2' : ((ms.length : Int) != 16) = false := by simp; omega
  have HE : Hid (mergedText kp mv cs ks ms = copyRow ms ks cs) := by unfold Hid mergedText; rw [if_pos (by rw [hp, h1, h2]; rfl)]
  rw [HE.out]
  have HL1 := Lib.hid h1; have HL2 := Lib.hid h2
  have hk16 : ks.length ≤ 16 := by omega
  clear h1 h2 hp
  (have hall := all_nil w; go_enter Try.func23, Try.ntmps23)
  go_wp2_with (first | (go_at_call 35; (refine (s_PlanOk kp mv _ cs true HP.out _ (HC.out.below (by exact bel))).mono ?_; rintro e w2 ⟨rfl, hb⟩; have HB1 := Lib.hid hb; obtain ⟨kwa_0_0, kwa_0_1, kwa_0_2⟩ := kp3 hb (w.heap.size) (.int .i64 kp) (.int .i64 mv) (.slice co cs.length cc); have xwa_0 : w.heap.size < w2.heap.size := xc hb; have hzwa := hb.size; (try simp only [World.size_alloc, World.size_setCell, World.size_drew] at hzwa); obtain ⟨wa, rfl⟩ : ∃ x, x = w2 := ⟨_, rfl⟩)) | (at_builtin; refine wpList_appendAll elemInt rfl _ _ rfl lenInt oneInt rfl (Own.empty' _ _ _ (wa.heap.size) _ _ (by first | rfl | simp) (by exact zt)) (by exact zt) rfl (HK.out.below (by exact bel)) (by simp only [List.length_nil, maxLen]; omega) ?_; intro v w2 hown2 hgr2 hat2 hb; (try simp only [List.nil_append] at hown2); obtain ⟨vo, vc, rfl, -, -⟩ := hown2.shape; have OV := Lib.hid hown2; have HB2 := Lib.hid hb; clear hown2 hgr2 hat2; obtain ⟨kwb_0_0, kwb_0_1, kwb_0_2⟩ := kp3 hb (w.heap.size) (.int .i64 kp) (.int .i64 mv) (.slice co cs.length cc); have xwb_0 : w.heap.size < w2.heap.size := xc hb; have hzwb := hb.size; (try simp only [World.size_alloc, World.size_setCell, World.size_drew] at hzwb); obtain ⟨wb, rfl⟩ : ∃ x, x = w2 := ⟨_, rfl⟩))
  have hbb : Below w.heap.size w wb := by (have hB1 := HB1.out; have hB2 := HB2.out; exact bel)
  have HBB := Lib.hid hbb
  have OW : OwnI (w.heap.size + 1) wb (.slice vo ks.length vc) ks := Own.mono OV.out (by (try simp only [World.size_alloc]); omega)
  have HOW := Lib.hid OW
  clear OW hbb
  go_loopw [8] (fun i wr => ∃ j : Nat, j ≤ cs.length ∧ i = .int .i64 j ∧ OwnI (w.heap.size + 1) wr (.slice vo ks.length vc) (copyRow ms ks (cs.take j)) ∧ Below (w.heap.size + 1) wb wr) (fun i _ => cs.length - (intOf i).toNat)
  case atStart => exact ⟨0, Nat.zero_le _, rfl, HOW.out, Below.refl _ _⟩
  case round =>
    obtain ⟨j, hj, rfl, hown, hbel⟩ := hrel
    have HO := Lib.hid hown; have HL := Lib.hid hbel
    have hsz := hbel.size
    have hall2 := HBB.out.trans (hbel.mono (by omega))
    have HA := Lib.hid hall2
    have q2 := (hbel.cell (p := ⟨w.heap.size, 2, none⟩) (Nat.lt_succ_self _)).trans kwb_0_2
    obtain ⟨w1, rfl⟩ : ∃ x, x = wr := ⟨_, rfl⟩
    have xw : w.heap.size < w1.heap.size := by omega
    by_cases hlt : j < cs.length
    · have hlt' : (j : Int) < cs.length := by omega
      obtain ⟨c, hc⟩ := getx hlt
      have bb := between_iff.1 (planOk_cell HP.out hc)
      obtain ⟨cn, rfl⟩ := Int.eq_ofNat_of_zero_le bb.1
      have hcnN : cn < 16 := by omega
      obtain ⟨_, _, hse, -, -, hsr⟩ := IntsAt.open (HC.out.below hall2)
      obtain ⟨gs, os, hso, hgs, hcc⟩ := hsr j _ hc
      simp only [Value.slice.injEq] at hse
      rw [← hse.1] at hso
      subst hso
      obtain ⟨mx, hmx⟩ := getx (xs := ms) (k := cn) (by rw [HL2.out]; omega)
      obtain ⟨_, _, hme, -, -, hmr⟩ := IntsAt.open (HM.out.below hall2)
      obtain ⟨gm, om, hmo, hgm, hcm⟩ := hmr cn _ hmx
      simp only [Value.slice.injEq] at hme
      rw [← hme.1] at hmo
      subst hmo
      have hln : (copyRow ms ks (cs.take j)).length = 16 := by rw [copyRow_len, HL1.out]
      obtain ⟨oy, hoy⟩ := getx (xs := copyRow ms ks (cs.take j)) (k := cn) (by omega)
      obtain ⟨gw, gwc, hgw, -, -⟩ := Own.addr hown (by omega)
      simp only [Value.slice.injEq] at hgw
      obtain ⟨rfl, -, rfl⟩ := hgw
      obtain ⟨hBo, xo, eo, zo_⟩ := OwnI.slotI hown hoy
      have hcl1 : (cn : Int) < ms.length := by have := HL2.out; omega
      have hcl2 : (cn : Int) < ks.length := by have := HL1.out; omega
      have HCJ := Lib.hid hc; have HMX := Lib.hid (getD_of (d := 0) hmx); have HCN := Lib.hid hcnN; have HLN := Lib.hid hln
      clear hc bb hse hsr hme hmr hmx hoy hown hbel hln hall2
      go_wp2_with (first | (with_reducible refine wp_region_grew_tail2 (id := 7) 15 (by kernel_rfl) (by kernel_rfl) ?_; intro w2 hb; have kwt_P_2 : w2.cell? ⟨w.heap.size, 2, none⟩ = some (.slice (some ⟨gs, os, none⟩) cs.length cc) := kc hb; have kwt_S : w2.cell? ⟨gs, os + j, none⟩ = some (.int .i64 cn) := kc hb; have kwt_M : w2.cell? ⟨gm, om + cn, none⟩ = some (.int .i64 mx) := kc hb; have kwt_O : w2.cell? ⟨gw, cn, none⟩ = some (.int .i64 oy) := kc hb; have fwt_O : w2.frozen? ⟨gw, cn, none⟩ = false := fc hb; have xwt_P : w.heap.size < w2.heap.size := xc hb; have xwt_GS : gs < w2.heap.size := xc hb; have xwt_GM : gm < w2.heap.size := xc hb; have xwt_GO : gw < w2.heap.size := xc hb; have hzwt := hb.size; (try simp only [World.size_alloc, World.size_setCell, World.size_drew] at hzwt); have HBT := Lib.hid hb; obtain ⟨wt, rfl⟩ : ∃ x, x = w2 := ⟨_, rfl⟩; simp only [List.take_succ_cons, List.take_zero, List.drop_succ_cons, List.drop_zero]; (repeat (go_big_quiet_step (fail))); refine wpQuiet_nil ?_; intro w2 hw'; have hb := grew_below hw'; clear hw'; have kwu_P_2 : w2.cell? ⟨w.heap.size, 2, none⟩ = some (.slice (some ⟨gs, os, none⟩) cs.length cc) := kc hb; have kwu_S : w2.cell? ⟨gs, os + j, none⟩ = some (.int .i64 cn) := kc hb; have kwu_M : w2.cell? ⟨gm, om + cn, none⟩ = some (.int .i64 mx) := kc hb; have kwu_O : w2.cell? ⟨gw, cn, none⟩ = some (.int .i64 oy) := kc hb; have fwu_O : w2.frozen? ⟨gw, cn, none⟩ = false := fc hb; have xwu_P : w.heap.size < w2.heap.size := xc hb; have xwu_GS : gs < w2.heap.size := xc hb; have xwu_GM : gm < w2.heap.size := xc hb; have xwu_GO : gw < w2.heap.size := xc hb; have hzwu := hb.size; (try simp only [World.size_alloc, World.size_setCell, World.size_drew] at hzwu); obtain ⟨wu, rfl⟩ : ∃ x, x = w2 := ⟨_, rfl⟩) | (with_reducible refine wp_region_grew2 (by kernel_rfl) (by kernel_rfl) ?_; intro w2 hb; (first | have hn := nw4 hb hall (by exact zo) | have hn := nw3 hb hall (by exact zo) | have hn := nw2 hb hall (by exact zo) | have hn := nw1 hb hall (by exact zo) | have hn := nw0 hb hall (by exact zo)); obtain ⟨hc, hf, hn, hc0⟩ := hn; replace hall := hn; clear hn; have hz := hb.size; (try simp only [World.size_alloc, World.size_setCell, World.size_drew] at hz); have hx := hall; (try simp only [allLt, and_true] at hx); (try (have hO := HO.out; replace HO := Lib.hid (Own.below hO (w' := w2) (by exact bel)); clear hO)); obtain ⟨w1, rfl⟩ : ∃ x, x = w2 := ⟨_, rfl⟩; (repeat (go_big_quiet_step (fail))); refine wpQuiet_nil ?_; intro w2 hw'; have hb := grew_below hw'; clear hw'; (first | have hn := nw4 hb hall (by exact zo) | have hn := nw3 hb hall (by exact zo) | have hn := nw2 hb hall (by exact zo) | have hn := nw1 hb hall (by exact zo) | have hn := nw0 hb hall (by exact zo)); obtain ⟨hc, hf, hn, hc0⟩ := hn; replace hall := hn; clear hn; have hz := hb.size; (try simp only [World.size_alloc, World.size_setCell, World.size_drew] at hz); have hx := hall; (try simp only [allLt, and_true] at hx); (try (have hO := HO.out; replace HO := Lib.hid (Own.below hO (w' := w2) (by exact bel)); clear hO)); obtain ⟨w1, rfl⟩ : ∃ x, x = w2 := ⟨_, rfl⟩))
      skip
      go_roundw
      case rel =>
        have O1 : OwnI (w.heap.size + 1) wu _ _ := Own.below HO.out (by have hbt := HBT.out; exact bel)
        have S := Own.set1 lenInt O1 rfl cn (.int .i64 mx) mx rfl
        have e := copyRow_snoc (ra := ms) (rb := ks) HCJ.out
        rw [Int.toNat_natCast, HMX.out] at e
        have hL := HL.out
        exact ⟨j + 1, by omega, by go_num, by rw [e]; exact S.1, by have hbt := HBT.out; exact bel⟩
      case measure => simp [intOf]; omega
    · have hlt' : ¬ (j : Int) < cs.length := by omega
      obtain rfl : j = cs.length := by omega
      clear hown hbel hall2
      go_wp2
      go_ret
      exact ⟨_, rfl, by have h := HO.out; rw [List.take_length] at h; exact h.mono (by omega), HA.out⟩

end Go.Proofs.Ytkkebpcclklmcaa
