/-
  Texts put together: KProt.
-/
import Derived.Test.YtkkebpcclklmcaaGB14
/-
  A page is protected: the kernel behind it.
-/
set_option linter.unusedVariables false
set_option linter.unusedSimpArgs false
namespace Go.Proofs.Ytkkebpcclklmcaa
open Go.RowKit
def setEnt (K : Ker) (p : Int) (e : Ent) : Ker := ⟨⟨K.m.f, K.m.ents.set p.toNat e⟩, K.calls, K.refuse⟩
theorem flat_set2 : ∀ (xs : List Ent) (i : Nat) (x : Ent), xs[i]? = some x → ∀ m : Int, (xs.flatMap fEnt).set (i * 2) (.int .i64 m) = (xs.set i ⟨m, x.f⟩).flatMap fEnt
  | [], i, x, hi, m => by simp at hi
  | y :: ys, 0, x, hi, m => by
    simp only [List.getElem?_cons_zero, Option.some.injEq] at hi
    subst hi
    simp [fEnt]
  | y :: ys, i + 1, x, hi, m => by
    simp only [List.getElem?_cons_succ] at hi
    have ih := flat_set2 ys i x hi m
    simp only [List.flatMap_cons, fEnt, List.set_cons_succ]
    rw [show (i + 1) * 2 = i * 2 + 1 + 1 by omega]
    simp only [List.cons_append, List.nil_append, List.set_cons_succ]
    rw [← ih]
theorem OwnEnt.setMode {B : Nat} {w : World} {v : Value} {xs : List Ent} {g n cap i : Nat} {x : Ent} (h : OwnEnt B w v xs) (hv : v = .slice (some ⟨g, 0, none⟩) n cap) (hi : xs[i]? = some x) (m : Int) :
    OwnEnt B (w.setCell ⟨g, i * 2, none⟩ (.int .i64 m)) v (xs.set i ⟨m, x.f⟩) ∧ w.grownBy (w.setCell ⟨g, i * 2, none⟩ (.int .i64 m)) v.ownBlock := by
  have hn : n = xs.length := by
    obtain ⟨ao, cap', he, _⟩ := h.shape
    rw [hv] at he; simp at he; exact he.2.1
  subst hv
  subst hn
  unfold OwnEnt Own at h
  obtain ⟨h1, h2⟩ := World.ownsRow.stored h (i * 2) (.int .i64 m)
  refine ⟨?_, h2⟩
  unfold OwnEnt Own
  rw [List.length_set, ← flat_set2 xs i x hi m]
  exact h1
/-- The entries have been written: all else stays. -/
theorem KOwn.setEnts {B : Nat} {w w' : World} {y : KV} {K : Ker} {es : List Ent} (h : KOwn B w y K) (hgr : w.grownBy w' y.m.e.ownBlock) (he : OwnEnt B w' y.m.e es) : KOwn B w' y ⟨⟨K.m.f, es⟩, K.calls, K.refuse⟩ := by
  have ap1 := nodup_apart (l := [y.m.e]) h.m.nd
  have ap2 := nodup_apart (l := [y.r]) h.nd
  have ht : Touch (blocks [y.m.e]) w w' := grown_touch hgr fun g hg => mem_one hg
  refine ⟨⟨h.m.f.touch ht (fun g hg hm => ap1 g hm hg), he, h.m.nd⟩, h.ref.touch ht fun g hg hm => ?_, h.nd⟩
  exact ap2 g (mem_one hg) (sub_left [y.m.e] _ g hm)
theorem KOwn.setMode {B : Nat} {w : World} {y : KV} {K : Ker} {g n cap i : Nat} {x : Ent} (h : KOwn B w y K) (hv : y.m.e = .slice (some ⟨g, 0, none⟩) n cap) (hi : K.m.ents[i]? = some x) (m : Int) :
    KOwn B (w.setCell ⟨g, i * 2, none⟩ (.int .i64 m)) y (setEnt K i ⟨m, x.f⟩) := by
  have S := OwnEnt.setMode h.m.ents hv hi m
  have := h.setEnts S.2 S.1
  unfold setEnt
  rw [Int.toNat_natCast]
  exact this
theorem mode_in {m : Int} (h1 : (m != 1) = true) (h2 : (m != 2) = true) : between m 1 2 = false := by
  simp at h1 h2
  rw [between_not]; omega
theorem mode_1 {m : Int} (h : (m == 1) = true) : between m 1 2 = true := by simp at h; subst h; rfl
theorem mode_2 {m : Int} (h : (m == 2) = true) : between m 1 2 = true := by simp at h; subst h; rfl
def protB (K : Ker) (p mode : Int) : Bool := grantedB K && mappedB K.m.ents p && between mode 1 2
def kProtK (K : Ker) (p mode : Int) : Ker := if canCall K then (if protB K p mode then setEnt (countedK K) p ⟨mode, (pageEntry K.m.ents p).f⟩ else countedK K) else K
theorem canCall_calls {K : Ker} (h : canCall K = true) : 0 ≤ K.calls ∧ K.calls ≤ 100000 := by
  unfold canCall at h
  rw [kernelOk_eq] at h; simp only [Bool.and_eq_true, between_iff] at h; exact h.2.1.1.2
theorem mapped_in {es : List Ent} {p : Int} (h : mappedB es p = true) : ∃ (k : Nat) (x : Ent), p = k ∧ es[k]? = some x ∧ pageEntry es p = x := by
  unfold mappedB at h
  by_cases hb : between p 0 (es.length - 1) = true
  · have hbb := between_iff.1 hb
    obtain ⟨k, rfl⟩ := Int.eq_ofNat_of_zero_le hbb.1
    obtain ⟨x, hx⟩ := getx (show k < es.length by omega)
    exact ⟨k, x, rfl, hx, by unfold pageEntry; rw [if_pos hb, Int.toNat_natCast, getD_of hx]⟩
  · unfold pageEntry at h
    rw [if_neg hb] at h
    simp at h
set_option maxRecDepth 20000 in
set_option maxHeartbeats 1600000 in
theorem i_KProtect (x : KV) (K : Ker) (p mode : Int) (hs : szK K ≤ 1048576) (w : World) (ha : KAt w x K) : Calls Try.prog 68 #[x.val K.calls, .int .i64 p, .int .i64 mode] w (NewKB w (kProtK K p mode) (canCall K && protB K p mode)) := by
  have HK := Lib.hid ha
  have H1 := Lib.hid hs
  simp only [KV.val]
  clear ha hs
  cases h1 : canCall K
  · have H2 := Lib.hid h1
    have HE : Hid (kProtK K p mode = K) := by unfold Hid kProtK; rw [h1]; rfl
    rw [HE.out, Bool.false_and]
    (have hall := all_nil w; go_enter Try.func68, Try.ntmps68)
    go_wp2_with (first | (go_at_call 66; (refine (i_canCall x K _ H2.out _ (HK.out.below (by exact bel))).mono ?_; rintro e w2 ⟨rfl, hb⟩; have HB1 := Lib.hid hb; obtain ⟨kwa_0_0, kwa_0_1, kwa_0_2, kwa_0_3, kwa_0_4⟩ := kp5 hb (w.heap.size) (x.m.f.c) (x.m.f.u) (x.m.e) (.int .i64 K.calls) (x.r); obtain ⟨kwa_1_0, fwa_1_0, kwa_1_1, fwa_1_1, kwa_1_2, fwa_1_2, kwa_1_3, fwa_1_3, kwa_1_4, fwa_1_4⟩ := kf5 hb (w.heap.size + 1) (.slice none 0 0) (.slice none 0 0) (.slice none 0 0) (.int .i64 0) (.slice none 0 0); have xwa_0 : w.heap.size < w2.heap.size := xc hb; have xwa_1 : w.heap.size + 1 < w2.heap.size := xc hb; have hzwa := hb.size; (try simp only [World.size_alloc, World.size_setCell, World.size_drew] at hzwa); obtain ⟨wa, rfl⟩ : ∃ x, x = w2 := ⟨_, rfl⟩)) | (go_at_call 37; (refine (i_copyKernel x K H1.out _ (HK.out.below (by exact bel))).mono ?_; rintro e w2 ⟨y, rfl, hyo, hb⟩; (obtain ⟨yco, ycc, yuo, yuc, yvs, yeo, yec, yro, yrc, rfl⟩ := KOwn.shapes hyo); have OK := Lib.hid hyo; have HB2 := Lib.hid hb; obtain ⟨kwb_0_0, kwb_0_1, kwb_0_2, kwb_0_3, kwb_0_4⟩ := kp5 hb (w.heap.size) (x.m.f.c) (x.m.f.u) (x.m.e) (.int .i64 K.calls) (x.r); obtain ⟨kwb_1_0, fwb_1_0, kwb_1_1, fwb_1_1, kwb_1_2, fwb_1_2, kwb_1_3, fwb_1_3, kwb_1_4, fwb_1_4⟩ := kf5 hb (w.heap.size + 1) (.slice none 0 0) (.slice none 0 0) (.slice none 0 0) (.int .i64 0) (.slice none 0 0); have xwb_0 : w.heap.size < w2.heap.size := xc hb; have xwb_1 : w.heap.size + 1 < w2.heap.size := xc hb; have hzwb := hb.size; (try simp only [World.size_alloc, World.size_setCell, World.size_drew] at hzwb); clear hyo; simp only [KV.val]; obtain ⟨wb, rfl⟩ : ∃ x, x = w2 := ⟨_, rfl⟩)))
    (refine bodyPost_ret (v := .tuple #[.agg #[.slice yco yvs.length ycc, .slice yuo K.m.f.used.length yuc, .slice yeo K.m.ents.length yec, .int .i64 (K.calls), .slice yro K.refuse.length yrc], .bool false]) (by simp [results, Try.results68, go_sem, kwb_1_0, fwb_1_0, kwb_1_1, fwb_1_1, kwb_1_2, fwb_1_2, kwb_1_3, fwb_1_3, kwb_1_4, fwb_1_4, xwb_1]) rfl ?_; exact ⟨⟨⟨⟨_, _, yvs⟩, _⟩, _⟩, rfl, by (have hm := KOwn.mono (B' := w.heap.size + 1 + 1) (OK.out) (by exact zt); refine KOwn.mono (B := w.heap.size + 1 + 1) ?_ (by exact zt); (repeat (first | with_reducible exact hm | (with_reducible refine KOwn.offb ?_ (by omega) _)))), by exact bel⟩)
  · have H2 := Lib.hid h1
    have HC := Lib.hid (canCall_calls h1)
    rw [Bool.true_and]
    cases h2 : grantedB K
    · have HG := Lib.hid h2
      have HE : Hid (kProtK K p mode = countedK K ∧ protB K p mode = false) := by unfold Hid kProtK protB; rw [h1, h2]; exact ⟨rfl, rfl⟩
      rw [HE.out.1, HE.out.2]
      (have hall := all_nil w; go_enter Try.func68, Try.ntmps68)
      go_wp2_with (first | (go_at_call 66; (refine (i_canCall x K _ H2.out _ (HK.out.below (by exact bel))).mono ?_; rintro e w2 ⟨rfl, hb⟩; have HB1 := Lib.hid hb; obtain ⟨kwa_0_0, kwa_0_1, kwa_0_2, kwa_0_3, kwa_0_4⟩ := kp5 hb (w.heap.size) (x.m.f.c) (x.m.f.u) (x.m.e) (.int .i64 K.calls) (x.r); obtain ⟨kwa_1_0, fwa_1_0, kwa_1_1, fwa_1_1, kwa_1_2, fwa_1_2, kwa_1_3, fwa_1_3, kwa_1_4, fwa_1_4⟩ := kf5 hb (w.heap.size + 1) (.slice none 0 0) (.slice none 0 0) (.slice none 0 0) (.int .i64 0) (.slice none 0 0); have xwa_0 : w.heap.size < w2.heap.size := xc hb; have xwa_1 : w.heap.size + 1 < w2.heap.size := xc hb; have hzwa := hb.size; (try simp only [World.size_alloc, World.size_setCell, World.size_drew] at hzwa); obtain ⟨wa, rfl⟩ : ∃ x, x = w2 := ⟨_, rfl⟩)) | (go_at_call 88; (refine (i_counted x K H1.out HC.out _ (HK.out.below (by exact bel))).mono ?_; rintro e w2 ⟨y, rfl, hyo, hb⟩; (obtain ⟨yco, ycc, yuo, yuc, yvs, yeo, yec, yro, yrc, rfl⟩ := KOwn.shapes hyo); have OK := Lib.hid hyo; have HB2 := Lib.hid hb; obtain ⟨kwb_0_0, kwb_0_1, kwb_0_2, kwb_0_3, kwb_0_4⟩ := kp5 hb (w.heap.size) (x.m.f.c) (x.m.f.u) (x.m.e) (.int .i64 K.calls) (x.r); obtain ⟨kwb_1_0, fwb_1_0, kwb_1_1, fwb_1_1, kwb_1_2, fwb_1_2, kwb_1_3, fwb_1_3, kwb_1_4, fwb_1_4⟩ := kf5 hb (w.heap.size + 1) (.slice none 0 0) (.slice none 0 0) (.slice none 0 0) (.int .i64 0) (.slice none 0 0); have xwb_0 : w.heap.size < w2.heap.size := xc hb; have xwb_1 : w.heap.size + 1 < w2.heap.size := xc hb; have hzwb := hb.size; (try simp only [World.size_alloc, World.size_setCell, World.size_drew] at hzwb); clear hyo; simp only [KV.val, countedK]; (try rw [HG.out]); obtain ⟨wb, rfl⟩ : ∃ x, x = w2 := ⟨_, rfl⟩)))
      (refine bodyPost_ret (v := .tuple #[.agg #[.slice yco yvs.length ycc, .slice yuo K.m.f.used.length yuc, .slice yeo K.m.ents.length yec, .int .i64 (K.calls + 1), .slice yro K.refuse.length yrc], .bool false]) (by simp [results, Try.results68, go_sem, kwb_1_0, fwb_1_0, kwb_1_1, fwb_1_1, kwb_1_2, fwb_1_2, kwb_1_3, fwb_1_3, kwb_1_4, fwb_1_4, xwb_1]) rfl ?_; exact ⟨⟨⟨⟨_, _, yvs⟩, _⟩, _⟩, rfl, by (have hm := KOwn.mono (B' := w.heap.size + 1 + 1) (OK.out) (by exact zt); refine KOwn.mono (B := w.heap.size + 1 + 1) ?_ (by exact zt); (repeat (first | with_reducible exact hm | (with_reducible refine KOwn.offb ?_ (by omega) _) | (with_reducible refine KOwn.below ?_ ((Below.refl _ _).alloc (Nat.le_refl _) _))))), by exact bel⟩)
    · have HG := Lib.hid h2
      cases h3 : mappedB K.m.ents p
      · have HM := Lib.hid h3
        have HE : Hid (kProtK K p mode = countedK K ∧ protB K p mode = false) := by unfold Hid kProtK protB; rw [h1, h2, h3]; exact ⟨rfl, rfl⟩
        rw [HE.out.1, HE.out.2]
        (have hall := all_nil w; go_enter Try.func68, Try.ntmps68)
        go_wp2_with (first | (go_at_call 66; (refine (i_canCall x K _ H2.out _ (HK.out.below (by exact bel))).mono ?_; rintro e w2 ⟨rfl, hb⟩; have HB1 := Lib.hid hb; obtain ⟨kwa_0_0, kwa_0_1, kwa_0_2, kwa_0_3, kwa_0_4⟩ := kp5 hb (w.heap.size) (x.m.f.c) (x.m.f.u) (x.m.e) (.int .i64 K.calls) (x.r); obtain ⟨kwa_1_0, fwa_1_0, kwa_1_1, fwa_1_1, kwa_1_2, fwa_1_2, kwa_1_3, fwa_1_3, kwa_1_4, fwa_1_4⟩ := kf5 hb (w.heap.size + 1) (.slice none 0 0) (.slice none 0 0) (.slice none 0 0) (.int .i64 0) (.slice none 0 0); have xwa_0 : w.heap.size < w2.heap.size := xc hb; have xwa_1 : w.heap.size + 1 < w2.heap.size := xc hb; have hzwa := hb.size; (try simp only [World.size_alloc, World.size_setCell, World.size_drew] at hzwa); obtain ⟨wa, rfl⟩ : ∃ x, x = w2 := ⟨_, rfl⟩)) | (go_at_call 88; (refine (i_counted x K H1.out HC.out _ (HK.out.below (by exact bel))).mono ?_; rintro e w2 ⟨y, rfl, hyo, hb⟩; (obtain ⟨yco, ycc, yuo, yuc, yvs, yeo, yec, yro, yrc, rfl⟩ := KOwn.shapes hyo); have OK := Lib.hid hyo; have HB2 := Lib.hid hb; obtain ⟨kwb_0_0, kwb_0_1, kwb_0_2, kwb_0_3, kwb_0_4⟩ := kp5 hb (w.heap.size) (x.m.f.c) (x.m.f.u) (x.m.e) (.int .i64 K.calls) (x.r); obtain ⟨kwb_1_0, fwb_1_0, kwb_1_1, fwb_1_1, kwb_1_2, fwb_1_2, kwb_1_3, fwb_1_3, kwb_1_4, fwb_1_4⟩ := kf5 hb (w.heap.size + 1) (.slice none 0 0) (.slice none 0 0) (.slice none 0 0) (.int .i64 0) (.slice none 0 0); have xwb_0 : w.heap.size < w2.heap.size := xc hb; have xwb_1 : w.heap.size + 1 < w2.heap.size := xc hb; have hzwb := hb.size; (try simp only [World.size_alloc, World.size_setCell, World.size_drew] at hzwb); clear hyo; simp only [KV.val, countedK]; (try rw [HG.out]); obtain ⟨wb, rfl⟩ : ∃ x, x = w2 := ⟨_, rfl⟩)) | (go_at_call 67; (refine (i_mapped x K p _ HM.out _ (HK.out.below (by exact bel))).mono ?_; rintro e w2 ⟨rfl, hb⟩; have HB3 := Lib.hid hb; obtain ⟨kwc_0_0, kwc_0_1, kwc_0_2, kwc_0_3, kwc_0_4⟩ := kp5 hb (w.heap.size) (x.m.f.c) (x.m.f.u) (x.m.e) (.int .i64 K.calls) (x.r); obtain ⟨kwc_1_0, fwc_1_0, kwc_1_1, fwc_1_1, kwc_1_2, fwc_1_2, kwc_1_3, fwc_1_3, kwc_1_4, fwc_1_4⟩ := kf5 hb (w.heap.size + 1) (.slice none 0 0) (.slice none 0 0) (.slice none 0 0) (.int .i64 0) (.slice none 0 0); obtain ⟨kwc_O_0, fwc_O_0, kwc_O_1, fwc_O_1, kwc_O_2, fwc_O_2, kwc_O_3, fwc_O_3, kwc_O_4, fwc_O_4⟩ := kf5 hb (wb.heap.size) (.slice yco yvs.length ycc) (.slice yuo K.m.f.used.length yuc) (.slice yeo K.m.ents.length yec) (.int .i64 (K.calls + 1)) (.slice yro K.refuse.length yrc); have xwc_0 : w.heap.size < w2.heap.size := xc hb; have xwc_1 : w.heap.size + 1 < w2.heap.size := xc hb; have xwc_O : wb.heap.size < w2.heap.size := xc hb; have hzwc := hb.size; (try simp only [World.size_alloc, World.size_setCell, World.size_drew] at hzwc); obtain ⟨wc, rfl⟩ : ∃ x, x = w2 := ⟨_, rfl⟩)))
        (refine bodyPost_ret (v := .tuple #[.agg #[.slice yco yvs.length ycc, .slice yuo K.m.f.used.length yuc, .slice yeo K.m.ents.length yec, .int .i64 (K.calls + 1), .slice yro K.refuse.length yrc], .bool false]) (by simp [results, Try.results68, go_sem, kwc_1_0, fwc_1_0, kwc_1_1, fwc_1_1, kwc_1_2, fwc_1_2, kwc_1_3, fwc_1_3, kwc_1_4, fwc_1_4, xwc_1]) rfl ?_; exact ⟨⟨⟨⟨_, _, yvs⟩, _⟩, _⟩, rfl, by (have hm := KOwn.mono (B' := w.heap.size + 1 + 1) (OK.out) (by exact zt); refine KOwn.mono (B := w.heap.size + 1 + 1) ?_ (by exact zt); (repeat (first | with_reducible exact hm | (with_reducible refine KOwn.offb ?_ (by omega) _) | (with_reducible refine KOwn.below ?_ ((Below.refl _ _).alloc (Nat.le_refl _) _)) | (refine KOwn.below ?_ (by with_reducible assumption))))), by exact bel⟩)
      · have HM := Lib.hid h3
        obtain ⟨k, en, rfl, hen, hpe⟩ := mapped_in h3
        have HN := Lib.hid hen
        have HKL := Lib.hid (getx_lt hen)
        have good : ∀ (hb : between mode 1 2 = true), Hid (kProtK K k mode = setEnt (countedK K) k ⟨mode, en.f⟩ ∧ protB K k mode = true) := fun hb => by unfold Hid kProtK protB; rw [h1, h2, h3, hb, hpe]; exact ⟨rfl, rfl⟩
        have bad : ∀ (hb : between mode 1 2 = false), Hid (kProtK K k mode = countedK K ∧ protB K k mode = false) := fun hb => by unfold Hid kProtK protB; rw [h1, h2, h3, hb]; exact ⟨rfl, rfl⟩
        have GOOD := Lib.hid good; have BAD := Lib.hid bad
        clear good bad hen hpe
        rcases eqc mode 1 with ⟨b1, b2⟩ | ⟨b1, b2⟩
        · have HE := GOOD.out (mode_1 b1)
          rw [HE.out.1, HE.out.2]
          (have hall := all_nil w; go_enter Try.func68, Try.ntmps68)
          go_wp2_with (first | (go_at_call 66; (refine (i_canCall x K _ H2.out _ (HK.out.below (by exact bel))).mono ?_; rintro e w2 ⟨rfl, hb⟩; have HB1 := Lib.hid hb; obtain ⟨kwa_0_0, kwa_0_1, kwa_0_2, kwa_0_3, kwa_0_4⟩ := kp5 hb (w.heap.size) (x.m.f.c) (x.m.f.u) (x.m.e) (.int .i64 K.calls) (x.r); obtain ⟨kwa_1_0, fwa_1_0, kwa_1_1, fwa_1_1, kwa_1_2, fwa_1_2, kwa_1_3, fwa_1_3, kwa_1_4, fwa_1_4⟩ := kf5 hb (w.heap.size + 1) (.slice none 0 0) (.slice none 0 0) (.slice none 0 0) (.int .i64 0) (.slice none 0 0); have xwa_0 : w.heap.size < w2.heap.size := xc hb; have xwa_1 : w.heap.size + 1 < w2.heap.size := xc hb; have hzwa := hb.size; (try simp only [World.size_alloc, World.size_setCell, World.size_drew] at hzwa); obtain ⟨wa, rfl⟩ : ∃ x, x = w2 := ⟨_, rfl⟩)) | (go_at_call 88; (refine (i_counted x K H1.out HC.out _ (HK.out.below (by exact bel))).mono ?_; rintro e w2 ⟨y, rfl, hyo, hb⟩; (obtain ⟨yco, ycc, yuo, yuc, yvs, yeo, yec, yro, yrc, rfl⟩ := KOwn.shapes hyo); (obtain ⟨ge, gec, hge, -, -⟩ := Own.addr hyo.m.ents (show 0 < K.m.ents.length by have := HKL.out; omega)); simp only [Value.slice.injEq] at hge; (obtain ⟨rfl, -, rfl⟩ := hge); (obtain ⟨hBge, xge, e0, z0, e1, z1⟩ := OwnEnt.slot hyo.m.ents HN.out); have OK := Lib.hid hyo; have HB2 := Lib.hid hb; obtain ⟨kwb_0_0, kwb_0_1, kwb_0_2, kwb_0_3, kwb_0_4⟩ := kp5 hb (w.heap.size) (x.m.f.c) (x.m.f.u) (x.m.e) (.int .i64 K.calls) (x.r); obtain ⟨kwb_1_0, fwb_1_0, kwb_1_1, fwb_1_1, kwb_1_2, fwb_1_2, kwb_1_3, fwb_1_3, kwb_1_4, fwb_1_4⟩ := kf5 hb (w.heap.size + 1) (.slice none 0 0) (.slice none 0 0) (.slice none 0 0) (.int .i64 0) (.slice none 0 0); have xwb_0 : w.heap.size < w2.heap.size := xc hb; have xwb_1 : w.heap.size + 1 < w2.heap.size := xc hb; have hzwb := hb.size; (try simp only [World.size_alloc, World.size_setCell, World.size_drew] at hzwb); clear hyo; simp only [KV.val, countedK]; (try rw [HG.out]); obtain ⟨wb, rfl⟩ : ∃ x, x = w2 := ⟨_, rfl⟩)) | (go_at_call 67; (refine (i_mapped x K k _ HM.out _ (HK.out.below (by exact bel))).mono ?_; rintro e w2 ⟨rfl, hb⟩; have HB3 := Lib.hid hb; obtain ⟨kwc_0_0, kwc_0_1, kwc_0_2, kwc_0_3, kwc_0_4⟩ := kp5 hb (w.heap.size) (x.m.f.c) (x.m.f.u) (x.m.e) (.int .i64 K.calls) (x.r); obtain ⟨kwc_1_0, fwc_1_0, kwc_1_1, fwc_1_1, kwc_1_2, fwc_1_2, kwc_1_3, fwc_1_3, kwc_1_4, fwc_1_4⟩ := kf5 hb (w.heap.size + 1) (.slice none 0 0) (.slice none 0 0) (.slice none 0 0) (.int .i64 0) (.slice none 0 0); obtain ⟨kwc_O_0, fwc_O_0, kwc_O_1, fwc_O_1, kwc_O_2, fwc_O_2, kwc_O_3, fwc_O_3, kwc_O_4, fwc_O_4⟩ := kf5 hb (wb.heap.size) (.slice yco yvs.length ycc) (.slice yuo K.m.f.used.length yuc) (.slice (some ⟨ge, 0, none⟩) K.m.ents.length yec) (.int .i64 (K.calls + 1)) (.slice yro K.refuse.length yrc); have kwc_G : w2.cell? ⟨ge, k * 2, none⟩ = some (.int .i64 en.m) := kc hb; have fwc_G : w2.frozen? ⟨ge, k * 2, none⟩ = false := fc hb; have xwc_0 : w.heap.size < w2.heap.size := xc hb; have xwc_1 : w.heap.size + 1 < w2.heap.size := xc hb; have xwc_O : wb.heap.size < w2.heap.size := xc hb; have xwc_G : ge < w2.heap.size := xc hb; have hzwc := hb.size; (try simp only [World.size_alloc, World.size_setCell, World.size_drew] at hzwc); obtain ⟨wc, rfl⟩ : ∃ x, x = w2 := ⟨_, rfl⟩)))
          have hB2 := HB2.out; have hB3 := HB3.out
          have S := KOwn.setMode (KOwn.below (w' := wc) OK.out (by exact bel)) rfl HN.out mode
          (refine bodyPost_ret (v := .tuple #[.agg #[.slice yco yvs.length ycc, .slice yuo K.m.f.used.length yuc, .slice (some ⟨ge, 0, none⟩) K.m.ents.length yec, .int .i64 (K.calls + 1), .slice yro K.refuse.length yrc], .bool true]) (by simp [results, Try.results68, go_sem, kwc_1_0, fwc_1_0, kwc_1_1, fwc_1_1, kwc_1_2, fwc_1_2, kwc_1_3, fwc_1_3, kwc_1_4, fwc_1_4, xwc_1]) rfl ?_; exact ⟨⟨⟨⟨_, _, yvs⟩, _⟩, _⟩, rfl, by (have hm := KOwn.mono (B' := w.heap.size + 1 + 1) (S) (by exact zt); refine KOwn.mono (B := w.heap.size + 1 + 1) ?_ (by exact zt); (repeat (first | with_reducible exact hm | (with_reducible refine KOwn.offb ?_ (by omega) _)))), by exact bel⟩)
        · rcases eqc mode 2 with ⟨b3, b4⟩ | ⟨b3, b4⟩
          · have HE := GOOD.out (mode_2 b3)
            rw [HE.out.1, HE.out.2]
            (have hall := all_nil w; go_enter Try.func68, Try.ntmps68)
            go_wp2_with (first | (go_at_call 66; (refine (i_canCall x K _ H2.out _ (HK.out.below (by exact bel))).mono ?_; rintro e w2 ⟨rfl, hb⟩; have HB1 := Lib.hid hb; obtain ⟨kwa_0_0, kwa_0_1, kwa_0_2, kwa_0_3, kwa_0_4⟩ := kp5 hb (w.heap.size) (x.m.f.c) (x.m.f.u) (x.m.e) (.int .i64 K.calls) (x.r); obtain ⟨kwa_1_0, fwa_1_0, kwa_1_1, fwa_1_1, kwa_1_2, fwa_1_2, kwa_1_3, fwa_1_3, kwa_1_4, fwa_1_4⟩ := kf5 hb (w.heap.size + 1) (.slice none 0 0) (.slice none 0 0) (.slice none 0 0) (.int .i64 0) (.slice none 0 0); have xwa_0 : w.heap.size < w2.heap.size := xc hb; have xwa_1 : w.heap.size + 1 < w2.heap.size := xc hb; have hzwa := hb.size; (try simp only [World.size_alloc, World.size_setCell, World.size_drew] at hzwa); obtain ⟨wa, rfl⟩ : ∃ x, x = w2 := ⟨_, rfl⟩)) | (go_at_call 88; (refine (i_counted x K H1.out HC.out _ (HK.out.below (by exact bel))).mono ?_; rintro e w2 ⟨y, rfl, hyo, hb⟩; (obtain ⟨yco, ycc, yuo, yuc, yvs, yeo, yec, yro, yrc, rfl⟩ := KOwn.shapes hyo); (obtain ⟨ge, gec, hge, -, -⟩ := Own.addr hyo.m.ents (show 0 < K.m.ents.length by have := HKL.out; omega)); simp only [Value.slice.injEq] at hge; (obtain ⟨rfl, -, rfl⟩ := hge); (obtain ⟨hBge, xge, e0, z0, e1, z1⟩ := OwnEnt.slot hyo.m.ents HN.out); have OK := Lib.hid hyo; have HB2 := Lib.hid hb; obtain ⟨kwb_0_0, kwb_0_1, kwb_0_2, kwb_0_3, kwb_0_4⟩ := kp5 hb (w.heap.size) (x.m.f.c) (x.m.f.u) (x.m.e) (.int .i64 K.calls) (x.r); obtain ⟨kwb_1_0, fwb_1_0, kwb_1_1, fwb_1_1, kwb_1_2, fwb_1_2, kwb_1_3, fwb_1_3, kwb_1_4, fwb_1_4⟩ := kf5 hb (w.heap.size + 1) (.slice none 0 0) (.slice none 0 0) (.slice none 0 0) (.int .i64 0) (.slice none 0 0); have xwb_0 : w.heap.size < w2.heap.size := xc hb; have xwb_1 : w.heap.size + 1 < w2.heap.size := xc hb; have hzwb := hb.size; (try simp only [World.size_alloc, World.size_setCell, World.size_drew] at hzwb); clear hyo; simp only [KV.val, countedK]; (try rw [HG.out]); obtain ⟨wb, rfl⟩ : ∃ x, x = w2 := ⟨_, rfl⟩)) | (go_at_call 67; (refine (i_mapped x K k _ HM.out _ (HK.out.below (by exact bel))).mono ?_; rintro e w2 ⟨rfl, hb⟩; have HB3 := Lib.hid hb; obtain ⟨kwc_0_0, kwc_0_1, kwc_0_2, kwc_0_3, kwc_0_4⟩ := kp5 hb (w.heap.size) (x.m.f.c) (x.m.f.u) (x.m.e) (.int .i64 K.calls) (x.r); obtain ⟨kwc_1_0, fwc_1_0, kwc_1_1, fwc_1_1, kwc_1_2, fwc_1_2, kwc_1_3, fwc_1_3, kwc_1_4, fwc_1_4⟩ := kf5 hb (w.heap.size + 1) (.slice none 0 0) (.slice none 0 0) (.slice none 0 0) (.int .i64 0) (.slice none 0 0); obtain ⟨kwc_O_0, fwc_O_0, kwc_O_1, fwc_O_1, kwc_O_2, fwc_O_2, kwc_O_3, fwc_O_3, kwc_O_4, fwc_O_4⟩ := kf5 hb (wb.heap.size) (.slice yco yvs.length ycc) (.slice yuo K.m.f.used.length yuc) (.slice (some ⟨ge, 0, none⟩) K.m.ents.length yec) (.int .i64 (K.calls + 1)) (.slice yro K.refuse.length yrc); have kwc_G : w2.cell? ⟨ge, k * 2, none⟩ = some (.int .i64 en.m) := kc hb; have fwc_G : w2.frozen? ⟨ge, k * 2, none⟩ = false := fc hb; have xwc_0 : w.heap.size < w2.heap.size := xc hb; have xwc_1 : w.heap.size + 1 < w2.heap.size := xc hb; have xwc_O : wb.heap.size < w2.heap.size := xc hb; have xwc_G : ge < w2.heap.size := xc hb; have hzwc := hb.size; (try simp only [World.size_alloc, World.size_setCell, World.size_drew] at hzwc); obtain ⟨wc, rfl⟩ : ∃ x, x = w2 := ⟨_, rfl⟩)))
            have hB2 := HB2.out; have hB3 := HB3.out
            have S := KOwn.setMode (KOwn.below (w' := wc) OK.out (by exact bel)) rfl HN.out mode
            (refine bodyPost_ret (v := .tuple #[.agg #[.slice yco yvs.length ycc, .slice yuo K.m.f.used.length yuc, .slice (some ⟨ge, 0, none⟩) K.m.ents.length yec, .int .i64 (K.calls + 1), .slice yro K.refuse.length yrc], .bool true]) (by simp [results, Try.results68, go_sem, kwc_1_0, fwc_1_0, kwc_1_1, fwc_1_1, kwc_1_2, fwc_1_2, kwc_1_3, fwc_1_3, kwc_1_4, fwc_1_4, xwc_1]) rfl ?_; exact ⟨⟨⟨⟨_, _, yvs⟩, _⟩, _⟩, rfl, by (have hm := KOwn.mono (B' := w.heap.size + 1 + 1) (S) (by exact zt); refine KOwn.mono (B := w.heap.size + 1 + 1) ?_ (by exact zt); (repeat (first | with_reducible exact hm | (with_reducible refine KOwn.offb ?_ (by omega) _)))), by exact bel⟩)
          · have HE := BAD.out (mode_in b2 b4)
            rw [HE.out.1, HE.out.2]
            (have hall := all_nil w; go_enter Try.func68, Try.ntmps68)
            go_wp2_with (first | (go_at_call 66; (refine (i_canCall x K _ H2.out _ (HK.out.below (by exact bel))).mono ?_; rintro e w2 ⟨rfl, hb⟩; have HB1 := Lib.hid hb; obtain ⟨kwa_0_0, kwa_0_1, kwa_0_2, kwa_0_3, kwa_0_4⟩ := kp5 hb (w.heap.size) (x.m.f.c) (x.m.f.u) (x.m.e) (.int .i64 K.calls) (x.r); obtain ⟨kwa_1_0, fwa_1_0, kwa_1_1, fwa_1_1, kwa_1_2, fwa_1_2, kwa_1_3, fwa_1_3, kwa_1_4, fwa_1_4⟩ := kf5 hb (w.heap.size + 1) (.slice none 0 0) (.slice none 0 0) (.slice none 0 0) (.int .i64 0) (.slice none 0 0); have xwa_0 : w.heap.size < w2.heap.size := xc hb; have xwa_1 : w.heap.size + 1 < w2.heap.size := xc hb; have hzwa := hb.size; (try simp only [World.size_alloc, World.size_setCell, World.size_drew] at hzwa); obtain ⟨wa, rfl⟩ : ∃ x, x = w2 := ⟨_, rfl⟩)) | (go_at_call 88; (refine (i_counted x K H1.out HC.out _ (HK.out.below (by exact bel))).mono ?_; rintro e w2 ⟨y, rfl, hyo, hb⟩; (obtain ⟨yco, ycc, yuo, yuc, yvs, yeo, yec, yro, yrc, rfl⟩ := KOwn.shapes hyo); have OK := Lib.hid hyo; have HB2 := Lib.hid hb; obtain ⟨kwb_0_0, kwb_0_1, kwb_0_2, kwb_0_3, kwb_0_4⟩ := kp5 hb (w.heap.size) (x.m.f.c) (x.m.f.u) (x.m.e) (.int .i64 K.calls) (x.r); obtain ⟨kwb_1_0, fwb_1_0, kwb_1_1, fwb_1_1, kwb_1_2, fwb_1_2, kwb_1_3, fwb_1_3, kwb_1_4, fwb_1_4⟩ := kf5 hb (w.heap.size + 1) (.slice none 0 0) (.slice none 0 0) (.slice none 0 0) (.int .i64 0) (.slice none 0 0); have xwb_0 : w.heap.size < w2.heap.size := xc hb; have xwb_1 : w.heap.size + 1 < w2.heap.size := xc hb; have hzwb := hb.size; (try simp only [World.size_alloc, World.size_setCell, World.size_drew] at hzwb); clear hyo; simp only [KV.val, countedK]; (try rw [HG.out]); obtain ⟨wb, rfl⟩ : ∃ x, x = w2 := ⟨_, rfl⟩)) | (go_at_call 67; (refine (i_mapped x K k _ HM.out _ (HK.out.below (by exact bel))).mono ?_; rintro e w2 ⟨rfl, hb⟩; have HB3 := Lib.hid hb; obtain ⟨kwc_0_0, kwc_0_1, kwc_0_2, kwc_0_3, kwc_0_4⟩ := kp5 hb (w.heap.size) (x.m.f.c) (x.m.f.u) (x.m.e) (.int .i64 K.calls) (x.r); obtain ⟨kwc_1_0, fwc_1_0, kwc_1_1, fwc_1_1, kwc_1_2, fwc_1_2, kwc_1_3, fwc_1_3, kwc_1_4, fwc_1_4⟩ := kf5 hb (w.heap.size + 1) (.slice none 0 0) (.slice none 0 0) (.slice none 0 0) (.int .i64 0) (.slice none 0 0); obtain ⟨kwc_O_0, fwc_O_0, kwc_O_1, fwc_O_1, kwc_O_2, fwc_O_2, kwc_O_3, fwc_O_3, kwc_O_4, fwc_O_4⟩ := kf5 hb (wb.heap.size) (.slice yco yvs.length ycc) (.slice yuo K.m.f.used.length yuc) (.slice yeo K.m.ents.length yec) (.int .i64 (K.calls + 1)) (.slice yro K.refuse.length yrc); have xwc_0 : w.heap.size < w2.heap.size := xc hb; have xwc_1 : w.heap.size + 1 < w2.heap.size := xc hb; have xwc_O : wb.heap.size < w2.heap.size := xc hb; have hzwc := hb.size; (try simp only [World.size_alloc, World.size_setCell, World.size_drew] at hzwc); obtain ⟨wc, rfl⟩ : ∃ x, x = w2 := ⟨_, rfl⟩)))
            (refine bodyPost_ret (v := .tuple #[.agg #[.slice yco yvs.length ycc, .slice yuo K.m.f.used.length yuc, .slice yeo K.m.ents.length yec, .int .i64 (K.calls + 1), .slice yro K.refuse.length yrc], .bool false]) (by simp [results, Try.results68, go_sem, kwc_1_0, fwc_1_0, kwc_1_1, fwc_1_1, kwc_1_2, fwc_1_2, kwc_1_3, fwc_1_3, kwc_1_4, fwc_1_4, xwc_1]) rfl ?_; exact ⟨⟨⟨⟨_, _, yvs⟩, _⟩, _⟩, rfl, by (have hm := KOwn.mono (B' := w.heap.size + 1 + 1) (OK.out) (by exact zt); refine KOwn.mono (B := w.heap.size + 1 + 1) ?_ (by exact zt); (repeat (first | with_reducible exact hm | (with_reducible refine KOwn.offb ?_ (by omega) _) | (with_reducible refine KOwn.below ?_ ((Below.refl _ _).alloc (Nat.le_refl _) _)) | (refine KOwn.below ?_ (by with_reducible assumption))))), by exact bel⟩)

end Go.Proofs.Ytkkebpcclklmcaa
