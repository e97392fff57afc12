/-
  Texts put together: KCells.
-/
import Derived.Test.YtkkebpcclklmcaaGB18
import Derived.Test.YtkkebpcclklmcaaGB4
/-
  Cells of a frame are copied to another: plain lists, and what a step leaves.
-/
set_option linter.unusedVariables false
set_option linter.unusedSimpArgs false
namespace Go.Proofs.Ytkkebpcclklmcaa
open Go.RowKit
def copyF (F : Frm) (fa fb : Nat) (cs : List Int) : Frm := ⟨F.cells.set fb (copyRow (F.cells.getD fa []) (F.cells.getD fb []) cs), F.used⟩
def cellsOkB (cs : List Int) (k : Nat) : Bool := allTo (fun i => between (cs.getD i 0) 0 15) k
def copyB (K : Ker) (a b : Int) (cs : List Int) : Bool := mappedB K.m.ents a && mappedB K.m.ents b && cellsOkB cs cs.length
def copyS (K : Ker) (a b : Int) (cs : List Int) : Ker := if copyB K a b cs then withF K (copyF K.m.f (pageEntry K.m.ents a).f.toNat (pageEntry K.m.ents b).f.toNat cs) else K
def copyC (K : Ker) (fa fb : Nat) (cs : List Int) : Ker := if cellsOkB cs cs.length then withF K (copyF K.m.f fa fb cs) else K
def kCopyK (K : Ker) (a b : Int) (cs : List Int) : Ker := if canCall K then copyS K a b cs else K
theorem copyF_zero (F : Frm) (fa fb : Nat) : copyF F fa fb [] = F := by
  obtain ⟨cs, us⟩ := F
  unfold copyF copyRow
  simp only [List.foldl_nil, Frm.mk.injEq, and_true]
  by_cases h : fb < cs.length
  · rw [List.getD_eq_getElem?_getD, List.getElem?_eq_getElem h, Option.getD_some, List.set_getElem_self]
  · rw [List.set_eq_of_length_le (by omega)]
theorem copyF_len (F : Frm) (fa fb : Nat) (cs : List Int) : (copyF F fa fb cs).cells.length = F.cells.length := by simp [copyF]
theorem copyF_b {F : Frm} {fa fb : Nat} {cs : List Int} (h : fb < F.cells.length) : (copyF F fa fb cs).cells[fb]? = some (copyRow (F.cells.getD fa []) (F.cells.getD fb []) cs) := by
  unfold copyF; rw [List.getElem?_set_self h]
theorem copyF_a {F : Frm} {fa fb : Nat} {cs : List Int} (h : fa < F.cells.length) : ∃ r, (copyF F fa fb cs).cells[fa]? = some r ∧ r = F.cells.getD fa [] ∨ (copyF F fa fb cs).cells[fa]? = some r ∧ fa = fb ∧ r = F.cells.getD fa [] := by
  by_cases e : fa = fb
  · subst e
    exact ⟨_, .inr ⟨copyF_b h, rfl, copyRow_self _ _⟩⟩
  · obtain ⟨r, hr⟩ := getx h
    refine ⟨r, .inl ⟨?_, (getD_of hr).symm⟩⟩
    unfold copyF; rw [List.getElem?_set_ne (fun h => e h.symm)]; exact hr
theorem copyF_a' {F : Frm} {fa fb : Nat} {cs : List Int} (h : fa < F.cells.length) : (copyF F fa fb cs).cells[fa]? = some (F.cells.getD fa []) := by
  obtain ⟨r, h1 | h1⟩ := copyF_a (fb := fb) (cs := cs) h
  · rw [h1.1, h1.2]
  · rw [h1.1, h1.2.2]
theorem copyF_step {F : Frm} {fa fb : Nat} {cs : List Int} {j : Nat} {c : Int} (h : cs[j]? = some c) : (⟨(copyF F fa fb (cs.take j)).cells.set fb ((copyRow (F.cells.getD fa []) (F.cells.getD fb []) (cs.take j)).set c.toNat ((F.cells.getD fa []).getD c.toNat 0)), (copyF F fa fb (cs.take j)).used⟩ : Frm) = copyF F fa fb (cs.take (j + 1)) := by
  unfold copyF; simp only [List.set_set]; rw [copyRow_snoc h]
theorem cellsOk_succ' {cs : List Int} {k : Nat} {c : Int} (h : cs[k]? = some c) : cellsOkB cs (k + 1) = (cellsOkB cs k && between c 0 15) := by unfold cellsOkB; rw [allTo, getD_of h]
theorem cellsOk_bad {cs : List Int} {k n : Nat} {c : Int} (hk : k < n) (h : cs[k]? = some c) (hb : between c 0 15 = false) : cellsOkB cs n = false := allTo_false hk (by rw [getD_of h]; exact hb)
theorem cellsOk_at {cs : List Int} {k n : Nat} {c : Int} (hn : cellsOkB cs n = true) (hk : k < n) (h : cs[k]? = some c) : between c 0 15 = true := by
  have := allTo_iff.1 hn k hk
  rwa [getD_of h] at this
theorem row16 {K : Ker} (h : canCall K = true) {i : Nat} (hi : i < K.m.f.cells.length) : (K.m.f.cells.getD i []).length = 16 := by
  have h1 := (can_ok h).1
  unfold framesOk at h1
  simp only [Bool.and_eq_true] at h1
  have h2 := allTo_iff.1 h1.2 i hi
  unfold rowOk at h2
  simp only [Bool.and_eq_true, beq_iff_eq] at h2
  exact h2.1
theorem KIn.setCell {B : Nat} {w : World} {g gv n cap i : Nat} {y : KV} {K : Ker} {v : Value} {r : List Int} (h : KIn B w g y K) (hi : y.m.f.vs[i]? = some v) (hr : K.m.f.cells[i]? = some r) (hv : v = .slice (some ⟨gv, 0, none⟩) n cap) (j : Nat) (x : Int) :
    KIn B (w.setCell ⟨gv, j, none⟩ (.int .i64 x)) g y (withF K ⟨K.m.f.cells.set i (r.set j x), K.m.f.used⟩) ∧ Touch (blocks y.m.f.all) w (w.setCell ⟨gv, j, none⟩ (.int .i64 x)) := by
  have S := FOwn.setCell h.own.m.f hi hr hv j x
  exact ⟨KIn.setF (f' := y.m.f) h S.2 (mem_v hi) S.1 (fun b hb => .inl hb) rfl rfl, S.2.mono (mem_v hi)⟩
/-- What can be read of a row of the call's own, and that it may be written. -/
theorem KIn.row {B : Nat} {w : World} {g : Nat} {y : KV} {K : Ker} (h : KIn B w g y K) {i : Nat} {r : List Int} (hr : K.m.f.cells[i]? = some r) (hpos : 0 < r.length) :
    ∃ gv vc, y.m.f.vs[i]? = some (.slice (some ⟨gv, 0, none⟩) r.length vc) ∧ B ≤ gv ∧ gv < w.heap.size := by
  obtain ⟨v, hv⟩ := getx (show i < y.m.f.vs.length by rw [h.own.m.f.rows.len]; exact getx_lt hr)
  obtain ⟨gv, vc, rfl, h1, h2⟩ := Own.addr (h.own.m.f.rows.row i v r hv hr) hpos
  exact ⟨gv, vc, hv, h1, h2⟩
theorem i_cellOk2 (n : Int) (r : Bool) (hr : between n 0 15 = r) (w : World) : Calls Try.prog 73 #[.int .i64 n] w fun e w' => e = .returned (.bool r) ∧ w = w' := by
  subst hr
  cases h : between n 0 15
  · (have hall := all_nil w; go_enter Try.func73, Try.ntmps73)
    go_wp2_with ((go_at_call 39; ((refine (i_between _ _ _ false (by assumption) _).mono ?_)); rintro e w2 ⟨rfl, rfl⟩))
    go_ret
    exact ⟨rfl, rfl⟩
  · (have hall := all_nil w; go_enter Try.func73, Try.ntmps73)
    go_wp2_with ((go_at_call 39; ((refine (i_between _ _ _ true (by assumption) _).mono ?_)); rintro e w2 ⟨rfl, rfl⟩))
    go_ret
    exact ⟨rfl, rfl⟩

set_option maxRecDepth 20000 in
set_option maxHeartbeats 6400000 in
theorem i_KCopy (x : KV) (K : Ker) (a b : Int) (v : Value) (cs : List Int) (hs : szK K ≤ 1048576) (w : World) (ha : KAt w x K) (hv : IntsAt w v cs) : Calls Try.prog 69 #[x.val K.calls, .int .i64 a, .int .i64 b, v] w (NewKB w (kCopyK K a b cs) (canCall K && copyB K a b cs)) := by
  obtain ⟨co, cc, hxc, _, hxm⟩ := RowsAt.shape ha.m.f.rows
  obtain ⟨so, sc, rfl, hs1, hs2⟩ := hv.shape
  have hcl : cs.length ≤ 9223372036854775807 := by unfold maxLen at hs2; omega
  have hkl : K.m.f.cells.length ≤ 9223372036854775807 := by unfold maxLen at hxm; omega
  obtain ⟨⟨⟨xc, xu, xvs⟩, xe⟩, xr⟩ := x
  dsimp only at hxc
  subst hxc
  have HK := Lib.hid ha; have HV := Lib.hid hv
  have H1 := Lib.hid hs
  clear ha hs hv hxm hs1 hs2
  simp only [KV.val]
  cases h1 : canCall K
  · have H2 := Lib.hid h1
    have HE : Hid (kCopyK K a b cs = K) := by unfold Hid kCopyK; rw [h1]; rfl
    rw [HE.out, Bool.false_and]
    (have hall := all_nil w; go_enter Try.func69, Try.ntmps69)
    go_wp2_with (first | (go_at_call 37; (refine (i_copyKernel (⟨⟨⟨.slice co K.m.f.cells.length cc, xu, xvs⟩, xe⟩, xr⟩ : KV) K H1.out _ (HK.out.below (by exact bel))).mono ?_; rintro e w2 ⟨y, rfl, hyo, hb⟩; (obtain ⟨yco, ycc, yuo, yuc, yvs, yeo, yec, yro, yrc, rfl⟩ := KOwn.shapes hyo); have OK := Lib.hid hyo; have HB1 := Lib.hid hb; obtain ⟨kwa_0_0, kwa_0_1, kwa_0_2, kwa_0_3, kwa_0_4⟩ := kp5 hb (w.heap.size) (.slice co K.m.f.cells.length cc) (xu) (xe) (.int .i64 K.calls) (xr); obtain ⟨kwa_1_0, fwa_1_0, kwa_1_1, fwa_1_1, kwa_1_2, fwa_1_2, kwa_1_3, fwa_1_3, kwa_1_4, fwa_1_4⟩ := kf5 hb (w.heap.size + 1) (.slice none 0 0) (.slice none 0 0) (.slice none 0 0) (.int .i64 0) (.slice none 0 0); have xwa_0 : w.heap.size < w2.heap.size := xc hb; have xwa_1 : w.heap.size + 1 < w2.heap.size := xc hb; have hzwa := hb.size; (try simp only [World.size_alloc, World.size_setCell, World.size_drew] at hzwa); clear hyo; simp only [KV.val]; obtain ⟨wa, rfl⟩ : ∃ x, x = w2 := ⟨_, rfl⟩)) | (go_at_call 66; (refine (i_canCall (⟨⟨⟨.slice co K.m.f.cells.length cc, xu, xvs⟩, xe⟩, xr⟩ : KV) K _ H2.out _ (HK.out.below (by exact bel))).mono ?_; rintro e w2 ⟨rfl, hb⟩; have HB2 := Lib.hid hb; obtain ⟨kwb_0_0, kwb_0_1, kwb_0_2, kwb_0_3, kwb_0_4⟩ := kp5 hb (w.heap.size) (.slice co K.m.f.cells.length cc) (xu) (xe) (.int .i64 K.calls) (xr); obtain ⟨kwb_1_0, fwb_1_0, kwb_1_1, fwb_1_1, kwb_1_2, fwb_1_2, kwb_1_3, fwb_1_3, kwb_1_4, fwb_1_4⟩ := kf5 hb (w.heap.size + 1) (.slice none 0 0) (.slice none 0 0) (.slice none 0 0) (.int .i64 0) (.slice none 0 0); obtain ⟨kwb_O_0, fwb_O_0, kwb_O_1, fwb_O_1, kwb_O_2, fwb_O_2, kwb_O_3, fwb_O_3, kwb_O_4, fwb_O_4⟩ := kf5 hb (wa.heap.size) (.slice yco yvs.length ycc) (.slice yuo K.m.f.used.length yuc) (.slice yeo K.m.ents.length yec) (.int .i64 (K.calls)) (.slice yro K.refuse.length yrc); have xwb_0 : w.heap.size < w2.heap.size := xc hb; have xwb_1 : w.heap.size + 1 < w2.heap.size := xc hb; have xwb_O : wa.heap.size < w2.heap.size := xc hb; have hzwb := hb.size; (try simp only [World.size_alloc, World.size_setCell, World.size_drew] at hzwb); obtain ⟨wb, rfl⟩ : ∃ x, x = w2 := ⟨_, rfl⟩)))
    (refine bodyPost_ret (v := .tuple #[.agg #[.slice yco yvs.length ycc, .slice yuo K.m.f.used.length yuc, .slice yeo K.m.ents.length yec, .int .i64 (K.calls), .slice yro K.refuse.length yrc], .bool false]) (by simp [results, Try.results69, go_sem, kwb_1_0, fwb_1_0, kwb_1_1, fwb_1_1, kwb_1_2, fwb_1_2, kwb_1_3, fwb_1_3, kwb_1_4, fwb_1_4, xwb_1, kwb_O_0, kwb_O_1, kwb_O_2, kwb_O_3, kwb_O_4]) rfl ?_; exact ⟨⟨⟨⟨_, _, yvs⟩, _⟩, _⟩, rfl, by (have hm := KOwn.mono (B' := w.heap.size + 1 + 1) (OK.out) (by exact zt); refine KOwn.mono (B := w.heap.size + 1 + 1) ?_ (by exact zt); (repeat (first | with_reducible exact hm | (with_reducible refine KOwn.offb ?_ (by omega) _) | (with_reducible refine KOwn.below ?_ ((Below.refl _ _).alloc (Nat.le_refl _) _)) | (refine KOwn.below ?_ (by with_reducible assumption))))), by exact bel⟩)
  · have H2 := Lib.hid h1
    rw [Bool.true_and]
    cases h3 : mappedB K.m.ents a
    · have HM := Lib.hid h3
      have m0 := fun W (hW : Below w.heap.size w W) => i_mapped (⟨⟨⟨.slice co K.m.f.cells.length cc, xu, xvs⟩, xe⟩, xr⟩ : KV) K a _ HM.out W (HK.out.below hW)
      simp only [KV.val] at m0
      have MHM := Lib.hid m0
      clear m0
      have HE : Hid (kCopyK K a b cs = K ∧ copyB K a b cs = false) := by unfold Hid kCopyK copyS copyB; rw [h1, h3]; exact ⟨rfl, rfl⟩
      rw [HE.out.1, HE.out.2]
      (have hall := all_nil w; go_enter Try.func69, Try.ntmps69)
      go_wp2_with (first | (go_at_call 37; (refine (i_copyKernel (⟨⟨⟨.slice co K.m.f.cells.length cc, xu, xvs⟩, xe⟩, xr⟩ : KV) K H1.out _ (HK.out.below (by exact bel))).mono ?_; rintro e w2 ⟨y, rfl, hyo, hb⟩; (obtain ⟨yco, ycc, yuo, yuc, yvs, yeo, yec, yro, yrc, rfl⟩ := KOwn.shapes hyo); have OK := Lib.hid hyo; have HB1 := Lib.hid hb; obtain ⟨kwa_0_0, kwa_0_1, kwa_0_2, kwa_0_3, kwa_0_4⟩ := kp5 hb (w.heap.size) (.slice co K.m.f.cells.length cc) (xu) (xe) (.int .i64 K.calls) (xr); obtain ⟨kwa_1_0, fwa_1_0, kwa_1_1, fwa_1_1, kwa_1_2, fwa_1_2, kwa_1_3, fwa_1_3, kwa_1_4, fwa_1_4⟩ := kf5 hb (w.heap.size + 1) (.slice none 0 0) (.slice none 0 0) (.slice none 0 0) (.int .i64 0) (.slice none 0 0); have xwa_0 : w.heap.size < w2.heap.size := xc hb; have xwa_1 : w.heap.size + 1 < w2.heap.size := xc hb; have hzwa := hb.size; (try simp only [World.size_alloc, World.size_setCell, World.size_drew] at hzwa); clear hyo; simp only [KV.val]; obtain ⟨wa, rfl⟩ : ∃ x, x = w2 := ⟨_, rfl⟩)) | (go_at_call 66; (refine (i_canCall (⟨⟨⟨.slice co K.m.f.cells.length cc, xu, xvs⟩, xe⟩, xr⟩ : KV) K _ H2.out _ (HK.out.below (by exact bel))).mono ?_; rintro e w2 ⟨rfl, hb⟩; have HB2 := Lib.hid hb; obtain ⟨kwb_0_0, kwb_0_1, kwb_0_2, kwb_0_3, kwb_0_4⟩ := kp5 hb (w.heap.size) (.slice co K.m.f.cells.length cc) (xu) (xe) (.int .i64 K.calls) (xr); obtain ⟨kwb_1_0, fwb_1_0, kwb_1_1, fwb_1_1, kwb_1_2, fwb_1_2, kwb_1_3, fwb_1_3, kwb_1_4, fwb_1_4⟩ := kf5 hb (w.heap.size + 1) (.slice none 0 0) (.slice none 0 0) (.slice none 0 0) (.int .i64 0) (.slice none 0 0); obtain ⟨kwb_O_0, fwb_O_0, kwb_O_1, fwb_O_1, kwb_O_2, fwb_O_2, kwb_O_3, fwb_O_3, kwb_O_4, fwb_O_4⟩ := kf5 hb (wa.heap.size) (.slice yco yvs.length ycc) (.slice yuo K.m.f.used.length yuc) (.slice yeo K.m.ents.length yec) (.int .i64 (K.calls)) (.slice yro K.refuse.length yrc); have xwb_0 : w.heap.size < w2.heap.size := xc hb; have xwb_1 : w.heap.size + 1 < w2.heap.size := xc hb; have xwb_O : wa.heap.size < w2.heap.size := xc hb; have hzwb := hb.size; (try simp only [World.size_alloc, World.size_setCell, World.size_drew] at hzwb); obtain ⟨wb, rfl⟩ : ∃ x, x = w2 := ⟨_, rfl⟩)) | (go_at_call 67; ((with_reducible refine (MHM.out _ (by exact bel)).mono ?_); rintro e w2 ⟨rfl, hb⟩; have HB3 := Lib.hid hb; obtain ⟨kwc_0_0, kwc_0_1, kwc_0_2, kwc_0_3, kwc_0_4⟩ := kp5 hb (w.heap.size) (.slice co K.m.f.cells.length cc) (xu) (xe) (.int .i64 K.calls) (xr); obtain ⟨kwc_1_0, fwc_1_0, kwc_1_1, fwc_1_1, kwc_1_2, fwc_1_2, kwc_1_3, fwc_1_3, kwc_1_4, fwc_1_4⟩ := kf5 hb (w.heap.size + 1) (.slice none 0 0) (.slice none 0 0) (.slice none 0 0) (.int .i64 0) (.slice none 0 0); obtain ⟨kwc_O_0, fwc_O_0, kwc_O_1, fwc_O_1, kwc_O_2, fwc_O_2, kwc_O_3, fwc_O_3, kwc_O_4, fwc_O_4⟩ := kf5 hb (wa.heap.size) (.slice yco yvs.length ycc) (.slice yuo K.m.f.used.length yuc) (.slice yeo K.m.ents.length yec) (.int .i64 (K.calls)) (.slice yro K.refuse.length yrc); have xwc_0 : w.heap.size < w2.heap.size := xc hb; have xwc_1 : w.heap.size + 1 < w2.heap.size := xc hb; have xwc_O : wa.heap.size < w2.heap.size := xc hb; have hzwc := hb.size; (try simp only [World.size_alloc, World.size_setCell, World.size_drew] at hzwc); obtain ⟨wc, rfl⟩ : ∃ x, x = w2 := ⟨_, rfl⟩)))
      (refine bodyPost_ret (v := .tuple #[.agg #[.slice yco yvs.length ycc, .slice yuo K.m.f.used.length yuc, .slice yeo K.m.ents.length yec, .int .i64 (K.calls), .slice yro K.refuse.length yrc], .bool false]) (by simp [results, Try.results69, go_sem, kwc_1_0, fwc_1_0, kwc_1_1, fwc_1_1, kwc_1_2, fwc_1_2, kwc_1_3, fwc_1_3, kwc_1_4, fwc_1_4, xwc_1, kwc_O_0, kwc_O_1, kwc_O_2, kwc_O_3, kwc_O_4]) rfl ?_; exact ⟨⟨⟨⟨_, _, yvs⟩, _⟩, _⟩, rfl, by (have hm := KOwn.mono (B' := w.heap.size + 1 + 1) (OK.out) (by exact zt); refine KOwn.mono (B := w.heap.size + 1 + 1) ?_ (by exact zt); (repeat (first | with_reducible exact hm | (with_reducible refine KOwn.offb ?_ (by omega) _) | (with_reducible refine KOwn.below ?_ ((Below.refl _ _).alloc (Nat.le_refl _) _)) | (refine KOwn.below ?_ (by with_reducible assumption))))), by exact bel⟩)
    · obtain ⟨ka, ea, fa, rfl, hena, hpa, -, hfa, -⟩ := mapped_frame h1 h3
      have HM := Lib.hid h3
      have m0 := fun W (hW : Below w.heap.size w W) => i_mapped (⟨⟨⟨.slice co K.m.f.cells.length cc, xu, xvs⟩, xe⟩, xr⟩ : KV) K ka _ HM.out W (HK.out.below hW)
      simp only [KV.val] at m0
      have MHM := Lib.hid m0
      clear m0
      cases h4 : mappedB K.m.ents b
      · have HMo := Lib.hid h4
        have m0 := fun W (hW : Below w.heap.size w W) => i_mapped (⟨⟨⟨.slice co K.m.f.cells.length cc, xu, xvs⟩, xe⟩, xr⟩ : KV) K b _ HMo.out W (HK.out.below hW)
        simp only [KV.val] at m0
        have MHMo := Lib.hid m0
        clear m0
        have HE : Hid (kCopyK K ka b cs = K ∧ copyB K ka b cs = false) := by unfold Hid kCopyK copyS copyB; rw [h1, h3, h4]; exact ⟨rfl, rfl⟩
        rw [HE.out.1, HE.out.2]
        clear hena hpa hfa
        (have hall := all_nil w; go_enter Try.func69, Try.ntmps69)
        go_wp2_with (first | (go_at_call 37; (refine (i_copyKernel (⟨⟨⟨.slice co K.m.f.cells.length cc, xu, xvs⟩, xe⟩, xr⟩ : KV) K H1.out _ (HK.out.below (by exact bel))).mono ?_; rintro e w2 ⟨y, rfl, hyo, hb⟩; (obtain ⟨yco, ycc, yuo, yuc, yvs, yeo, yec, yro, yrc, rfl⟩ := KOwn.shapes hyo); have OK := Lib.hid hyo; have HB1 := Lib.hid hb; obtain ⟨kwa_0_0, kwa_0_1, kwa_0_2, kwa_0_3, kwa_0_4⟩ := kp5 hb (w.heap.size) (.slice co K.m.f.cells.length cc) (xu) (xe) (.int .i64 K.calls) (xr); obtain ⟨kwa_1_0, fwa_1_0, kwa_1_1, fwa_1_1, kwa_1_2, fwa_1_2, kwa_1_3, fwa_1_3, kwa_1_4, fwa_1_4⟩ := kf5 hb (w.heap.size + 1) (.slice none 0 0) (.slice none 0 0) (.slice none 0 0) (.int .i64 0) (.slice none 0 0); have xwa_0 : w.heap.size < w2.heap.size := xc hb; have xwa_1 : w.heap.size + 1 < w2.heap.size := xc hb; have hzwa := hb.size; (try simp only [World.size_alloc, World.size_setCell, World.size_drew] at hzwa); clear hyo; simp only [KV.val]; obtain ⟨wa, rfl⟩ : ∃ x, x = w2 := ⟨_, rfl⟩)) | (go_at_call 66; (refine (i_canCall (⟨⟨⟨.slice co K.m.f.cells.length cc, xu, xvs⟩, xe⟩, xr⟩ : KV) K _ H2.out _ (HK.out.below (by exact bel))).mono ?_; rintro e w2 ⟨rfl, hb⟩; have HB2 := Lib.hid hb; obtain ⟨kwb_0_0, kwb_0_1, kwb_0_2, kwb_0_3, kwb_0_4⟩ := kp5 hb (w.heap.size) (.slice co K.m.f.cells.length cc) (xu) (xe) (.int .i64 K.calls) (xr); obtain ⟨kwb_1_0, fwb_1_0, kwb_1_1, fwb_1_1, kwb_1_2, fwb_1_2, kwb_1_3, fwb_1_3, kwb_1_4, fwb_1_4⟩ := kf5 hb (w.heap.size + 1) (.slice none 0 0) (.slice none 0 0) (.slice none 0 0) (.int .i64 0) (.slice none 0 0); obtain ⟨kwb_O_0, fwb_O_0, kwb_O_1, fwb_O_1, kwb_O_2, fwb_O_2, kwb_O_3, fwb_O_3, kwb_O_4, fwb_O_4⟩ := kf5 hb (wa.heap.size) (.slice yco yvs.length ycc) (.slice yuo K.m.f.used.length yuc) (.slice yeo K.m.ents.length yec) (.int .i64 (K.calls)) (.slice yro K.refuse.length yrc); have xwb_0 : w.heap.size < w2.heap.size := xc hb; have xwb_1 : w.heap.size + 1 < w2.heap.size := xc hb; have xwb_O : wa.heap.size < w2.heap.size := xc hb; have hzwb := hb.size; (try simp only [World.size_alloc, World.size_setCell, World.size_drew] at hzwb); obtain ⟨wb, rfl⟩ : ∃ x, x = w2 := ⟨_, rfl⟩)) | (go_at_call 67; ((with_reducible refine (MHM.out _ (by exact bel)).mono ?_); rintro e w2 ⟨rfl, hb⟩; have HB3 := Lib.hid hb; obtain ⟨kwc_0_0, kwc_0_1, kwc_0_2, kwc_0_3, kwc_0_4⟩ := kp5 hb (w.heap.size) (.slice co K.m.f.cells.length cc) (xu) (xe) (.int .i64 K.calls) (xr); obtain ⟨kwc_1_0, fwc_1_0, kwc_1_1, fwc_1_1, kwc_1_2, fwc_1_2, kwc_1_3, fwc_1_3, kwc_1_4, fwc_1_4⟩ := kf5 hb (w.heap.size + 1) (.slice none 0 0) (.slice none 0 0) (.slice none 0 0) (.int .i64 0) (.slice none 0 0); obtain ⟨kwc_O_0, fwc_O_0, kwc_O_1, fwc_O_1, kwc_O_2, fwc_O_2, kwc_O_3, fwc_O_3, kwc_O_4, fwc_O_4⟩ := kf5 hb (wa.heap.size) (.slice yco yvs.length ycc) (.slice yuo K.m.f.used.length yuc) (.slice yeo K.m.ents.length yec) (.int .i64 (K.calls)) (.slice yro K.refuse.length yrc); have xwc_0 : w.heap.size < w2.heap.size := xc hb; have xwc_1 : w.heap.size + 1 < w2.heap.size := xc hb; have xwc_O : wa.heap.size < w2.heap.size := xc hb; have hzwc := hb.size; (try simp only [World.size_alloc, World.size_setCell, World.size_drew] at hzwc); obtain ⟨wc, rfl⟩ : ∃ x, x = w2 := ⟨_, rfl⟩)) | (go_at_call 67; ((with_reducible refine (MHMo.out _ (by exact bel)).mono ?_); rintro e w2 ⟨rfl, hb⟩; have HB4 := Lib.hid hb; obtain ⟨kwd_0_0, kwd_0_1, kwd_0_2, kwd_0_3, kwd_0_4⟩ := kp5 hb (w.heap.size) (.slice co K.m.f.cells.length cc) (xu) (xe) (.int .i64 K.calls) (xr); obtain ⟨kwd_1_0, fwd_1_0, kwd_1_1, fwd_1_1, kwd_1_2, fwd_1_2, kwd_1_3, fwd_1_3, kwd_1_4, fwd_1_4⟩ := kf5 hb (w.heap.size + 1) (.slice none 0 0) (.slice none 0 0) (.slice none 0 0) (.int .i64 0) (.slice none 0 0); obtain ⟨kwd_O_0, fwd_O_0, kwd_O_1, fwd_O_1, kwd_O_2, fwd_O_2, kwd_O_3, fwd_O_3, kwd_O_4, fwd_O_4⟩ := kf5 hb (wa.heap.size) (.slice yco yvs.length ycc) (.slice yuo K.m.f.used.length yuc) (.slice yeo K.m.ents.length yec) (.int .i64 (K.calls)) (.slice yro K.refuse.length yrc); have xwd_0 : w.heap.size < w2.heap.size := xc hb; have xwd_1 : w.heap.size + 1 < w2.heap.size := xc hb; have xwd_O : wa.heap.size < w2.heap.size := xc hb; have hzwd := hb.size; (try simp only [World.size_alloc, World.size_setCell, World.size_drew] at hzwd); obtain ⟨wd, rfl⟩ : ∃ x, x = w2 := ⟨_, rfl⟩)))
        (refine bodyPost_ret (v := .tuple #[.agg #[.slice yco yvs.length ycc, .slice yuo K.m.f.used.length yuc, .slice yeo K.m.ents.length yec, .int .i64 (K.calls), .slice yro K.refuse.length yrc], .bool false]) (by simp [results, Try.results69, go_sem, kwd_1_0, fwd_1_0, kwd_1_1, fwd_1_1, kwd_1_2, fwd_1_2, kwd_1_3, fwd_1_3, kwd_1_4, fwd_1_4, xwd_1, kwd_O_0, kwd_O_1, kwd_O_2, kwd_O_3, kwd_O_4]) rfl ?_; exact ⟨⟨⟨⟨_, _, yvs⟩, _⟩, _⟩, rfl, by (have hm := KOwn.mono (B' := w.heap.size + 1 + 1) (OK.out) (by exact zt); refine KOwn.mono (B := w.heap.size + 1 + 1) ?_ (by exact zt); (repeat (first | with_reducible exact hm | (with_reducible refine KOwn.offb ?_ (by omega) _) | (with_reducible refine KOwn.below ?_ ((Below.refl _ _).alloc (Nat.le_refl _) _)) | (refine KOwn.below ?_ (by with_reducible assumption))))), by exact bel⟩)
      · obtain ⟨kb, eb, fb, rfl, henb, hpb, -, hfb, -⟩ := mapped_frame h1 h4
        have HMo := Lib.hid h4
        have m0 := fun W (hW : Below w.heap.size w W) => i_mapped (⟨⟨⟨.slice co K.m.f.cells.length cc, xu, xvs⟩, xe⟩, xr⟩ : KV) K kb _ HMo.out W (HK.out.below hW)
        simp only [KV.val] at m0
        have MHMo := Lib.hid m0
        clear m0
        have HEC : Hid (kCopyK K ka kb cs = copyC K fa fb cs ∧ copyB K ka kb cs = cellsOkB cs cs.length) := by
          have e : copyB K ka kb cs = cellsOkB cs cs.length := by unfold copyB; rw [h3, h4]; rfl
          refine ⟨?_, e⟩
          unfold kCopyK copyS copyC; rw [h1, e, hpa, hpb, Int.toNat_natCast, Int.toNat_natCast, if_pos rfl]
        rw [HEC.out.1, HEC.out.2]
        have HFA := Lib.hid hfa; have HFB := Lib.hid hfb
        have R16a := Lib.hid (row16 h1 hfa); have R16b := Lib.hid (row16 h1 hfb)
        have pea := fun W (hW : Below w.heap.size w W) => i_PageEntry xe K.m.ents ka W (SlAt.below HK.out.m.ents hW)
        have peb := fun W (hW : Below w.heap.size w W) => i_PageEntry xe K.m.ents kb W (SlAt.below HK.out.m.ents hW)
        rw [hpa] at pea; rw [hpb] at peb
        dsimp only at pea peb
        have PEA := Lib.hid pea; have PEB := Lib.hid peb
        obtain ⟨gx, ox, ao', al, av, ra', cap, he, hgx, hra', hral, -, hccx, -, hatx⟩ := rowAt HK.out.m.f.rows hfa
        simp only [Value.slice.injEq] at he
        obtain ⟨rfl, -, rfl⟩ := he
        have hra16 : ra' = K.m.f.cells.getD fa [] := (getD_of hra').symm
        rw [hral, hra16, R16a.out] at hccx
        have HCX := Lib.hid hccx; have HAX := Lib.hid hatx; have HRX := Lib.hid hra16
        have hfal : (fa : Int) < K.m.f.cells.length := by omega
        have hfbl : (fb : Int) < K.m.f.cells.length := by omega
        have R1 := Lib.hid hral
        clear hena hpa hfa henb hpb hfb pea peb hccx hatx hra' hra16 hral
        (have hall := all_nil w; go_enter Try.func69, Try.ntmps69)
        go_wp2_with (first | (go_at_call 37; (refine (i_copyKernel (⟨⟨⟨.slice (some ⟨gx, ox, none⟩) K.m.f.cells.length cc, xu, xvs⟩, xe⟩, xr⟩ : KV) K H1.out _ (HK.out.below (by exact bel))).mono ?_; rintro e w2 ⟨y, rfl, hyo, hb⟩; (obtain ⟨yco, ycc, yuo, yuc, yvs, yeo, yec, yro, yrc, rfl⟩ := KOwn.shapes hyo); have OK := Lib.hid hyo; have HB1 := Lib.hid hb; obtain ⟨kwa_0_0, kwa_0_1, kwa_0_2, kwa_0_3, kwa_0_4⟩ := kp5 hb (w.heap.size) (.slice (some ⟨gx, ox, none⟩) K.m.f.cells.length cc) (xu) (xe) (.int .i64 K.calls) (xr); obtain ⟨kwa_1_0, fwa_1_0, kwa_1_1, fwa_1_1, kwa_1_2, fwa_1_2, kwa_1_3, fwa_1_3, kwa_1_4, fwa_1_4⟩ := kf5 hb (w.heap.size + 1) (.slice none 0 0) (.slice none 0 0) (.slice none 0 0) (.int .i64 0) (.slice none 0 0); have xwa_0 : w.heap.size < w2.heap.size := xc hb; have xwa_1 : w.heap.size + 1 < w2.heap.size := xc hb; have hzwa := hb.size; (try simp only [World.size_alloc, World.size_setCell, World.size_drew] at hzwa); clear hyo; simp only [KV.val]; obtain ⟨wa, rfl⟩ : ∃ x, x = w2 := ⟨_, rfl⟩)) | (go_at_call 66; (refine (i_canCall (⟨⟨⟨.slice (some ⟨gx, ox, none⟩) K.m.f.cells.length cc, xu, xvs⟩, xe⟩, xr⟩ : KV) K _ H2.out _ (HK.out.below (by exact bel))).mono ?_; rintro e w2 ⟨rfl, hb⟩; have HB2 := Lib.hid hb; obtain ⟨kwb_0_0, kwb_0_1, kwb_0_2, kwb_0_3, kwb_0_4⟩ := kp5 hb (w.heap.size) (.slice (some ⟨gx, ox, none⟩) K.m.f.cells.length cc) (xu) (xe) (.int .i64 K.calls) (xr); obtain ⟨kwb_1_0, fwb_1_0, kwb_1_1, fwb_1_1, kwb_1_2, fwb_1_2, kwb_1_3, fwb_1_3, kwb_1_4, fwb_1_4⟩ := kf5 hb (w.heap.size + 1) (.slice none 0 0) (.slice none 0 0) (.slice none 0 0) (.int .i64 0) (.slice none 0 0); obtain ⟨kwb_O_0, fwb_O_0, kwb_O_1, fwb_O_1, kwb_O_2, fwb_O_2, kwb_O_3, fwb_O_3, kwb_O_4, fwb_O_4⟩ := kf5 hb (wa.heap.size) (.slice yco yvs.length ycc) (.slice yuo K.m.f.used.length yuc) (.slice yeo K.m.ents.length yec) (.int .i64 (K.calls)) (.slice yro K.refuse.length yrc); have xwb_0 : w.heap.size < w2.heap.size := xc hb; have xwb_1 : w.heap.size + 1 < w2.heap.size := xc hb; have xwb_O : wa.heap.size < w2.heap.size := xc hb; have hzwb := hb.size; (try simp only [World.size_alloc, World.size_setCell, World.size_drew] at hzwb); obtain ⟨wb, rfl⟩ : ∃ x, x = w2 := ⟨_, rfl⟩)) | (go_at_call 67; ((with_reducible refine (MHM.out _ (by exact bel)).mono ?_); rintro e w2 ⟨rfl, hb⟩; have HB3 := Lib.hid hb; obtain ⟨kwc_0_0, kwc_0_1, kwc_0_2, kwc_0_3, kwc_0_4⟩ := kp5 hb (w.heap.size) (.slice (some ⟨gx, ox, none⟩) K.m.f.cells.length cc) (xu) (xe) (.int .i64 K.calls) (xr); obtain ⟨kwc_1_0, fwc_1_0, kwc_1_1, fwc_1_1, kwc_1_2, fwc_1_2, kwc_1_3, fwc_1_3, kwc_1_4, fwc_1_4⟩ := kf5 hb (w.heap.size + 1) (.slice none 0 0) (.slice none 0 0) (.slice none 0 0) (.int .i64 0) (.slice none 0 0); obtain ⟨kwc_O_0, fwc_O_0, kwc_O_1, fwc_O_1, kwc_O_2, fwc_O_2, kwc_O_3, fwc_O_3, kwc_O_4, fwc_O_4⟩ := kf5 hb (wa.heap.size) (.slice yco yvs.length ycc) (.slice yuo K.m.f.used.length yuc) (.slice yeo K.m.ents.length yec) (.int .i64 (K.calls)) (.slice yro K.refuse.length yrc); have xwc_0 : w.heap.size < w2.heap.size := xc hb; have xwc_1 : w.heap.size + 1 < w2.heap.size := xc hb; have xwc_O : wa.heap.size < w2.heap.size := xc hb; have hzwc := hb.size; (try simp only [World.size_alloc, World.size_setCell, World.size_drew] at hzwc); obtain ⟨wc, rfl⟩ : ∃ x, x = w2 := ⟨_, rfl⟩)) | (go_at_call 67; ((with_reducible refine (MHMo.out _ (by exact bel)).mono ?_); rintro e w2 ⟨rfl, hb⟩; have HB4 := Lib.hid hb; obtain ⟨kwd_0_0, kwd_0_1, kwd_0_2, kwd_0_3, kwd_0_4⟩ := kp5 hb (w.heap.size) (.slice (some ⟨gx, ox, none⟩) K.m.f.cells.length cc) (xu) (xe) (.int .i64 K.calls) (xr); obtain ⟨kwd_1_0, fwd_1_0, kwd_1_1, fwd_1_1, kwd_1_2, fwd_1_2, kwd_1_3, fwd_1_3, kwd_1_4, fwd_1_4⟩ := kf5 hb (w.heap.size + 1) (.slice none 0 0) (.slice none 0 0) (.slice none 0 0) (.int .i64 0) (.slice none 0 0); obtain ⟨kwd_O_0, fwd_O_0, kwd_O_1, fwd_O_1, kwd_O_2, fwd_O_2, kwd_O_3, fwd_O_3, kwd_O_4, fwd_O_4⟩ := kf5 hb (wa.heap.size) (.slice yco yvs.length ycc) (.slice yuo K.m.f.used.length yuc) (.slice yeo K.m.ents.length yec) (.int .i64 (K.calls)) (.slice yro K.refuse.length yrc); have xwd_0 : w.heap.size < w2.heap.size := xc hb; have xwd_1 : w.heap.size + 1 < w2.heap.size := xc hb; have xwd_O : wa.heap.size < w2.heap.size := xc hb; have hzwd := hb.size; (try simp only [World.size_alloc, World.size_setCell, World.size_drew] at hzwd); obtain ⟨wd, rfl⟩ : ∃ x, x = w2 := ⟨_, rfl⟩)) | (with_reducible refine wp_region_grew2 (by kernel_rfl) (by kernel_rfl) ?_; intro w2 hb; obtain ⟨kwe_0_0, kwe_0_1, kwe_0_2, kwe_0_3, kwe_0_4⟩ := kp5 hb (w.heap.size) (.slice (some ⟨gx, ox, none⟩) K.m.f.cells.length cc) (xu) (xe) (.int .i64 K.calls) (xr); obtain ⟨kwe_1_0, fwe_1_0, kwe_1_1, fwe_1_1, kwe_1_2, fwe_1_2, kwe_1_3, fwe_1_3, kwe_1_4, fwe_1_4⟩ := kf5 hb (w.heap.size + 1) (.slice none 0 0) (.slice none 0 0) (.slice none 0 0) (.int .i64 0) (.slice none 0 0); obtain ⟨kwe_O_0, fwe_O_0, kwe_O_1, fwe_O_1, kwe_O_2, fwe_O_2, kwe_O_3, fwe_O_3, kwe_O_4, fwe_O_4⟩ := kf5 hb (wa.heap.size) (.slice yco yvs.length ycc) (.slice yuo K.m.f.used.length yuc) (.slice yeo K.m.ents.length yec) (.int .i64 (K.calls)) (.slice yro K.refuse.length yrc); have xwe_0 : w.heap.size < w2.heap.size := xc hb; have xwe_1 : w.heap.size + 1 < w2.heap.size := xc hb; have xwe_O : wa.heap.size < w2.heap.size := xc hb; have hzwe := hb.size; (try simp only [World.size_alloc, World.size_setCell, World.size_drew] at hzwe); have HB5 := Lib.hid hb; obtain ⟨we, rfl⟩ : ∃ x, x = w2 := ⟨_, rfl⟩; have hwe : Below w.heap.size w we := (by exact bel); have PEG := Lib.hid (fun g : Grew we => hwe.trans (g.below.mono hwe.size)); clear hwe; (repeat (go_big_quiet_step (first | (go_at_call 50; ((with_reducible exact calls_grew (PEA.out _ (PEG.out _))))) | (go_at_call 50; ((with_reducible exact calls_grew (PEB.out _ (PEG.out _)))))))); refine wpQuiet_nil ?_; intro w2 hw'; have hb := grew_below hw'; clear hw'; obtain ⟨kwf_0_0, kwf_0_1, kwf_0_2, kwf_0_3, kwf_0_4⟩ := kp5 hb (w.heap.size) (.slice (some ⟨gx, ox, none⟩) K.m.f.cells.length cc) (xu) (xe) (.int .i64 K.calls) (xr); obtain ⟨kwf_1_0, fwf_1_0, kwf_1_1, fwf_1_1, kwf_1_2, fwf_1_2, kwf_1_3, fwf_1_3, kwf_1_4, fwf_1_4⟩ := kf5 hb (w.heap.size + 1) (.slice none 0 0) (.slice none 0 0) (.slice none 0 0) (.int .i64 0) (.slice none 0 0); obtain ⟨kwf_O_0, fwf_O_0, kwf_O_1, fwf_O_1, kwf_O_2, fwf_O_2, kwf_O_3, fwf_O_3, kwf_O_4, fwf_O_4⟩ := kf5 hb (wa.heap.size) (.slice yco yvs.length ycc) (.slice yuo K.m.f.used.length yuc) (.slice yeo K.m.ents.length yec) (.int .i64 (K.calls)) (.slice yro K.refuse.length yrc); have xwf_0 : w.heap.size < w2.heap.size := xc hb; have xwf_1 : w.heap.size + 1 < w2.heap.size := xc hb; have xwf_O : wa.heap.size < w2.heap.size := xc hb; have hzwf := hb.size; (try simp only [World.size_alloc, World.size_setCell, World.size_drew] at hzwf); have HB6 := Lib.hid hb; obtain ⟨wf, rfl⟩ : ∃ x, x = w2 := ⟨_, rfl⟩))
        obtain ⟨gc, gcc, hgc, -, -⟩ := Own.addr OK.out.m.f.rows.out (show 0 < yvs.length by have := OK.out.m.f.rows.len; dsimp only at this; omega)
        simp only [Value.slice.injEq] at hgc
        obtain ⟨rfl, -, rfl⟩ := hgc
        have KJ0 := (⟨⟨by assumption, by assumption, by assumption, by assumption, by assumption, by assumption, by assumption, by assumption, by assumption, by assumption, by assumption⟩, (KOwn.below (w' := wf) OK.out (by exact bel)).mono (B' := w.heap.size + 1 + 1) (by exact zt), by omega, fun hm => by have := (OK.out.lts _ hm).2; omega⟩ : KIn (w.heap.size + 1 + 1) wf wa.heap.size ⟨⟨⟨.slice (some ⟨gc, 0, none⟩) yvs.length ycc, .slice yuo K.m.f.used.length yuc, yvs⟩, .slice yeo K.m.ents.length yec⟩, .slice yro K.refuse.length yrc⟩ K)
        have KI := Lib.hid KJ0
        clear KJ0
        have hvl : yvs.length = K.m.f.cells.length := KI.out.own.m.f.rows.len
        have hfbv : (fb : Int) < yvs.length := by omega
        obtain ⟨gb, vb, hvb, -, -⟩ := KI.out.row (i := fb) (r := K.m.f.cells.getD fb []) (by (obtain ⟨r, hr⟩ := getx HFB.out); rw [getD_of hr]; exact hr) (by rw [R16b.out]; omega)
        rw [R16b.out] at hvb
        dsimp only at hvb
        have HVB := Lib.hid hvb
        have hBw : Below w.heap.size w wf := by (have hB1 := HB1.out; have hB2 := HB2.out; have hB3 := HB3.out; have hB4 := HB4.out; have hB5 := HB5.out; have hB6 := HB6.out; exact bel)
        have HBW := Lib.hid hBw
        have hszf : w.heap.size + 1 < wf.heap.size := by assumption
        clear hvb hvl hBw
        go_loopw [47] (fun i wr => ∃ j : Nat, j ≤ cs.length ∧ i = .int .i64 j ∧ cellsOkB cs j = true ∧ KIn (w.heap.size + 1 + 1) wr wa.heap.size ⟨⟨⟨.slice (some ⟨gc, 0, none⟩) yvs.length ycc, .slice yuo K.m.f.used.length yuc, yvs⟩, .slice yeo K.m.ents.length yec⟩, .slice yro K.refuse.length yrc⟩ (withF K (copyF K.m.f fa fb (cs.take j))) ∧ Touch (blocks (FV.mk (.slice (some ⟨gc, 0, none⟩) yvs.length ycc) (.slice yuo K.m.f.used.length yuc) yvs).all) wf wr) (fun i _ => cs.length - (intOf i).toNat)
        case atStart => exact ⟨0, Nat.zero_le _, rfl, rfl, by rw [List.take_zero, copyF_zero]; exact KI.out, Touch.refl _ _⟩
        case round =>
          obtain ⟨j, hj, rfl, hok, hk, ht⟩ := hrel
          have hBJ : Below (w.heap.size + 1 + 1) wf wr := ht.toBelow (fun b hb => (KI.out.own.lts b (mem_all hb)).1) (by omega)
          have hB0 : Below w.heap.size w wr := HBW.out.trans (hBJ.mono (by omega))
          have hszr := hBJ.size
          have q0 := (hBJ.cell (p := ⟨w.heap.size, 0, none⟩) (Nat.lt_succ_of_lt (Nat.lt_succ_self _))).trans kwf_0_0; have q1 := (hBJ.cell (p := ⟨w.heap.size, 1, none⟩) (Nat.lt_succ_of_lt (Nat.lt_succ_self _))).trans kwf_0_1; have q2 := (hBJ.cell (p := ⟨w.heap.size, 2, none⟩) (Nat.lt_succ_of_lt (Nat.lt_succ_self _))).trans kwf_0_2; have q3 := (hBJ.cell (p := ⟨w.heap.size, 3, none⟩) (Nat.lt_succ_of_lt (Nat.lt_succ_self _))).trans kwf_0_3; have q4 := (hBJ.cell (p := ⟨w.heap.size, 4, none⟩) (Nat.lt_succ_of_lt (Nat.lt_succ_self _))).trans kwf_0_4
          have r0 := (hBJ.cell (p := ⟨w.heap.size + 1, 0, none⟩) (Nat.lt_succ_self _)).trans kwf_1_0; have s0 := (hBJ.frozen (p := ⟨w.heap.size + 1, 0, none⟩) (Nat.lt_succ_self _)).trans fwf_1_0; have r1 := (hBJ.cell (p := ⟨w.heap.size + 1, 1, none⟩) (Nat.lt_succ_self _)).trans kwf_1_1; have s1 := (hBJ.frozen (p := ⟨w.heap.size + 1, 1, none⟩) (Nat.lt_succ_self _)).trans fwf_1_1; have r2 := (hBJ.cell (p := ⟨w.heap.size + 1, 2, none⟩) (Nat.lt_succ_self _)).trans kwf_1_2; have s2 := (hBJ.frozen (p := ⟨w.heap.size + 1, 2, none⟩) (Nat.lt_succ_self _)).trans fwf_1_2; have r3 := (hBJ.cell (p := ⟨w.heap.size + 1, 3, none⟩) (Nat.lt_succ_self _)).trans kwf_1_3; have s3 := (hBJ.frozen (p := ⟨w.heap.size + 1, 3, none⟩) (Nat.lt_succ_self _)).trans fwf_1_3; have r4 := (hBJ.cell (p := ⟨w.heap.size + 1, 4, none⟩) (Nat.lt_succ_self _)).trans kwf_1_4; have s4 := (hBJ.frozen (p := ⟨w.heap.size + 1, 4, none⟩) (Nat.lt_succ_self _)).trans fwf_1_4
          have HK2 := Lib.hid hk; have HTJ := Lib.hid ht; have HJ := Lib.hid hok
          have HBJ := Lib.hid hBJ; have HB0 := Lib.hid hB0
          obtain ⟨_, _, hse, -, -, hsr⟩ := IntsAt.open (HV.out.below hB0)
          simp only [Value.slice.injEq] at hse
          have HSR := Lib.hid hsr; have HSE := Lib.hid hse
          obtain ⟨w1, rfl⟩ : ∃ x, x = wr := ⟨_, rfl⟩
          have xw0 : w.heap.size < w1.heap.size := by omega
          have xw1 : w.heap.size + 1 < w1.heap.size := by omega
          clear hk ht hok hBJ hB0 hsr hse
          by_cases hlt : j < cs.length
          · have hlt' : (j : Int) < cs.length := by omega
            obtain ⟨c, hc⟩ := getx hlt
            obtain ⟨gs, os, hso, hgs, hcc⟩ := HSR.out j c hc
            rw [← HSE.out.1] at hso
            subst hso
            have HCJ := Lib.hid hc
            clear hc
            cases b1 : between c 0 15
            · go_wp2_with (first | (go_at_call 37; (refine (i_copyKernel (⟨⟨⟨.slice (some ⟨gx, ox, none⟩) K.m.f.cells.length cc, xu, xvs⟩, xe⟩, xr⟩ : KV) K H1.out _ (HK.out.below HB0.out)).mono ?_; rintro e w2 ⟨z, rfl, hzo, hb⟩; (obtain ⟨zco, zcc, zuo, zuc, zvs, zeo, zec, zro, zrc, rfl⟩ := KOwn.shapes hzo); have OZ := Lib.hid hzo; have HBZ := Lib.hid hb; obtain ⟨kwz_1_0, fwz_1_0, kwz_1_1, fwz_1_1, kwz_1_2, fwz_1_2, kwz_1_3, fwz_1_3, kwz_1_4, fwz_1_4⟩ := kf5 hb (w.heap.size + 1) (.slice none 0 0) (.slice none 0 0) (.slice none 0 0) (.int .i64 0) (.slice none 0 0); have xwz_1 : w.heap.size + 1 < w2.heap.size := xc hb; have hzwz := hb.size; (try simp only [World.size_alloc, World.size_setCell, World.size_drew] at hzwz); clear hzo; simp only [KV.val]; obtain ⟨wz, rfl⟩ : ∃ x, x = w2 := ⟨_, rfl⟩)) | (go_at_call 73; ((refine (i_cellOk2 _ false (by assumption) _).mono ?_)); rintro e w2 ⟨rfl, rfl⟩))
              have hbad := cellsOk_bad hlt HCJ.out b1
              have hcc' : copyC K fa fb cs = K := by unfold copyC; rw [hbad]; rfl
              rw [hcc', hbad]
              have hBZ := HBZ.out; have hB0 := HB0.out
              (refine bodyPost_ret (v := .tuple #[.agg #[.slice zco zvs.length zcc, .slice zuo K.m.f.used.length zuc, .slice zeo K.m.ents.length zec, .int .i64 (K.calls), .slice zro K.refuse.length zrc], .bool false]) (by simp [results, Try.results69, go_sem, kwz_1_0, fwz_1_0, kwz_1_1, fwz_1_1, kwz_1_2, fwz_1_2, kwz_1_3, fwz_1_3, kwz_1_4, fwz_1_4, xwz_1]) rfl ?_; exact ⟨⟨⟨⟨_, _, zvs⟩, _⟩, _⟩, rfl, by (have hm := KOwn.mono (B' := w.heap.size + 1 + 1) (OZ.out) (by exact zt); refine KOwn.mono (B := w.heap.size + 1 + 1) ?_ (by exact zt); (repeat (first | with_reducible exact hm | (with_reducible refine KOwn.offb ?_ (by omega) _)))), by exact bel⟩)
            · have bb := between_iff.1 b1
              obtain ⟨cn, rfl⟩ := Int.eq_ofNat_of_zero_le bb.1
              have hcn : (cn : Int) < 16 := by omega
              have hcnN : cn < 16 := by omega
              obtain ⟨xg, c0, c1, c2, c3, c4, f0, f1, f2, f3, f4⟩ := HK2.out.box
              dsimp only at c0
              have hrb := copyF_b (fa := fa) (cs := cs.take j) HFB.out
              obtain ⟨-, xgc, -, eb'⟩ := Own.slot HK2.out.own.m.f.rows.out lenVal HVB.out
              have ecB := eb' 0 _ rfl
              simp only [Nat.mul_one, Nat.add_zero] at ecB
              have ecA := (HB0.out.cell (p := ⟨gx, ox + fa, none⟩) hgx).trans HCX.out
              obtain ⟨rx, hrx⟩ := getx (xs := K.m.f.cells.getD fa []) (k := cn) (by rw [R16a.out]; omega)
              obtain ⟨_, _, hae, -, -, har⟩ := IntsAt.open (SlAt.below HAX.out HB0.out)
              obtain ⟨ga, oa, hao, hga, eA⟩ := har cn rx (by rw [HRX.out]; exact hrx)
              simp only [Value.slice.injEq] at hae
              rw [← hae.1] at hao
              subst hao
              obtain ⟨ry, hry⟩ := getx (xs := copyRow (K.m.f.cells.getD fa []) (K.m.f.cells.getD fb []) (cs.take j)) (k := cn) (by rw [copyRow_len, R16b.out]; omega)
              obtain ⟨-, xgb, eB, zB⟩ := OwnI.slotI (HK2.out.own.m.f.rows.row fb _ _ HVB.out hrb) hry
              have xgx : gx < w1.heap.size := by have := HB0.out.size; omega
              have HRB := Lib.hid hrb; have HRY := Lib.hid (getD_of (d := 0) hrx)
              clear hrb eb' hrx hry bb har hae c1 c2 c3 c4 f0 f1 f2 f3 f4
              go_wp2_with ((go_at_call 73; ((refine (i_cellOk2 _ true (by assumption) _).mono ?_)); rintro e w2 ⟨rfl, rfl⟩))
              (with_reducible refine wp_region_grew_tail2 (id := 10) 19 (by kernel_rfl) (by kernel_rfl) ?_; intro w2 hb; have kwt_P_0 : w2.cell? ⟨w.heap.size, 0, none⟩ = some (.slice (some ⟨gx, ox, none⟩) K.m.f.cells.length cc) := kc hb; have kwt_O_0 : w2.cell? ⟨wa.heap.size, 0, none⟩ = some (.slice (some ⟨gc, 0, none⟩) yvs.length ycc) := kc hb; have kwt_A : w2.cell? ⟨gx, ox + fa, none⟩ = some (.slice (some ⟨ga, oa, none⟩) 16 av) := kc hb; have kwt_C : w2.cell? ⟨ga, oa + cn, none⟩ = some (.int .i64 rx) := kc hb; have kwt_Bb : w2.cell? ⟨gc, fb, none⟩ = some (.slice (some ⟨gb, 0, none⟩) 16 vb) := kc hb; have kwt_D : w2.cell? ⟨gb, cn, none⟩ = some (.int .i64 ry) := kc hb; have fwt_D : w2.frozen? ⟨gb, cn, none⟩ = false := fc hb; have xwt_P : w.heap.size < w2.heap.size := xc hb; have xwt_O : wa.heap.size < w2.heap.size := xc hb; have xwt_GX : gx < w2.heap.size := xc hb; have xwt_GA : ga < w2.heap.size := xc hb; have xwt_GC : gc < w2.heap.size := xc hb; have xwt_GB : gb < w2.heap.size := xc hb; have hzwt := hb.size; (try simp only [World.size_alloc, World.size_setCell, World.size_drew] at hzwt); have HBT := Lib.hid hb; obtain ⟨wt, rfl⟩ : ∃ x, x = w2 := ⟨_, rfl⟩; simp only [List.take_succ_cons, List.take_zero, List.drop_succ_cons, List.drop_zero]; (repeat (go_big_quiet_step (fail))); refine wpQuiet_nil ?_; intro w2 hw'; have hb := grew_below hw'; clear hw'; have kwu_P_0 : w2.cell? ⟨w.heap.size, 0, none⟩ = some (.slice (some ⟨gx, ox, none⟩) K.m.f.cells.length cc) := kc hb; have kwu_O_0 : w2.cell? ⟨wa.heap.size, 0, none⟩ = some (.slice (some ⟨gc, 0, none⟩) yvs.length ycc) := kc hb; have kwu_A : w2.cell? ⟨gx, ox + fa, none⟩ = some (.slice (some ⟨ga, oa, none⟩) 16 av) := kc hb; have kwu_C : w2.cell? ⟨ga, oa + cn, none⟩ = some (.int .i64 rx) := kc hb; have kwu_Bb : w2.cell? ⟨gc, fb, none⟩ = some (.slice (some ⟨gb, 0, none⟩) 16 vb) := kc hb; have kwu_D : w2.cell? ⟨gb, cn, none⟩ = some (.int .i64 ry) := kc hb; have fwu_D : w2.frozen? ⟨gb, cn, none⟩ = false := fc hb; have xwu_P : w.heap.size < w2.heap.size := xc hb; have xwu_O : wa.heap.size < w2.heap.size := xc hb; have xwu_GX : gx < w2.heap.size := xc hb; have xwu_GA : ga < w2.heap.size := xc hb; have xwu_GC : gc < w2.heap.size := xc hb; have xwu_GB : gb < w2.heap.size := xc hb; have hzwu := hb.size; (try simp only [World.size_alloc, World.size_setCell, World.size_drew] at hzwu); obtain ⟨wu, rfl⟩ : ∃ x, x = w2 := ⟨_, rfl⟩)
              go_wp2_with fail
              skip
              go_roundw
              case rel =>
                have hbt := HBT.out
                have K1 := HK2.out.below (w' := wu) (by exact bel)
                have S := KIn.setCell K1 HVB.out HRB.out rfl cn rx
                have ts : Touch (blocks (FV.mk (.slice (some ⟨gc, 0, none⟩) yvs.length ycc) (.slice yuo K.m.f.used.length yuc) yvs).all) w1 wu := touch_of_below (by exact bel) _
                have e := copyF_step (F := K.m.f) (fa := fa) (fb := fb) HCJ.out
                rw [Int.toNat_natCast, HRY.out] at e
                refine ⟨j + 1, by omega, by go_num, by rw [cellsOk_succ' HCJ.out, HJ.out, b1]; rfl, ?_, (HTJ.out.trans ts).trans S.2⟩
                rw [← e]
                exact S.1
              case measure => simp [intOf]; omega
          · have hlt' : ¬ (j : Int) < cs.length := by omega
            obtain rfl : j = cs.length := by omega
            obtain ⟨xg, c0, c1, c2, c3, c4, f0, f1, f2, f3, f4⟩ := HK2.out.box
            dsimp only at c0 c1 c2 c3 c4
            change w1.cell? ⟨wa.heap.size, 3, none⟩ = some (.int .i64 K.calls) at c3
            go_wp2_with fail
            have hok := HJ.out
            have hcc' : copyC K fa fb cs = withF K (copyF K.m.f fa fb cs) := by unfold copyC; rw [hok]; rfl
            have HFI := HK2.out
            rw [List.take_length] at HFI
            rw [hcc', hok]
            have hB0 := HB0.out
            (refine bodyPost_ret (v := .tuple #[.agg #[.slice (some ⟨gc, 0, none⟩) yvs.length ycc, .slice yuo K.m.f.used.length yuc, .slice yeo K.m.ents.length yec, .int .i64 K.calls, .slice yro K.refuse.length yrc], .bool true]) (by simp [results, Try.results69, go_sem, r0, r1, r2, r3, r4, s0, s1, s2, s3, s4, c0, c1, c2, c3, c4]) rfl ?_; exact ⟨⟨⟨⟨_, _, yvs⟩, _⟩, _⟩, rfl, by (have hm := KOwn.mono (B' := w.heap.size + 1 + 1) (HFI.own) (by exact zt); refine KOwn.mono (B := w.heap.size + 1 + 1) ?_ (by exact zt); (repeat (first | with_reducible exact hm | (with_reducible refine KOwn.offb ?_ (by omega) _)))), by exact bel⟩)

end Go.Proofs.Ytkkebpcclklmcaa
