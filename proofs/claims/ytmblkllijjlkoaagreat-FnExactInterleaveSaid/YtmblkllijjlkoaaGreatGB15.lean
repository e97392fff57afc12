/-
  Texts put together: Job, KEq.
-/
import Derived.Test.YtmblkllijjlkoaaGreatGB14
import Derived.Test.YtmblkllijjlkoaaGreatGB13
/-
  Jobs: the laws' functions, JobOk and JobActive.
-/
set_option linter.unusedVariables false
set_option linter.unusedSimpArgs false
namespace Go.Proofs.YtmblkllijjlkoaaGreat
open Go.RowKit
def jobOk (kp mv : Int) (cs : List Int) (ph nx : Int) : Bool := planOk kp mv cs && between ph 0 5 && between nx 0 cs.length
def jobActive (kp mv : Int) (cs : List Int) (ph nx : Int) : Bool := jobOk kp mv cs ph nx && between ph 1 3
theorem i_JobOk (kp mv : Int) (v : Value) (cs : List Int) (ph nx : Int) (r : Bool) (hr : jobOk kp mv cs ph nx = r) (w : World) (ha : IntsAt w v cs) : Calls Tryz.prog 70 #[.agg #[.int .i64 kp, .int .i64 mv, v, .int .i64 ph, .int .i64 nx]] w fun e w' => e = .returned (.bool r) ∧ Below w.heap.size w w' := by
  subst hr
  obtain ⟨ao, ca, rfl, h1, h2⟩ := ha.shape
  have hm : cs.length ≤ 9223372036854775807 := by unfold maxLen at h2; omega
  have HA := Lib.hid ha
  clear ha h1 h2
  cases hp : planOk kp mv cs
  · (have hall := all_nil w; go_enter Tryz.func70, Tryz.ntmps70)
    go_wp2_with ((go_at_call 117; (refine (i_PlanOk kp mv _ cs false hp _ (HA.out.below (by exact bel))).mono ?_; rintro e w2 ⟨rfl, hb⟩; obtain ⟨kwa_0_0, kwa_0_1, kwa_0_2, kwa_0_3, kwa_0_4⟩ := kp5 hb (w.heap.size) (.int .i64 kp) (.int .i64 mv) (.slice ao cs.length ca) (.int .i64 ph) (.int .i64 nx); have xwa_0 : w.heap.size < w2.heap.size := xc hb; have hzwa := hb.size; (try simp only [World.size_alloc, World.size_setCell, World.size_drew] at hzwa); have HB := Lib.hid hb; clear hb; obtain ⟨wa, rfl⟩ : ∃ x, x = w2 := ⟨_, rfl⟩)))
    all_goals (have hB := HB.out; go_ret; refine ⟨by simp_all [jobOk], by exact bel⟩)
  · cases b1 : between ph 0 5
    · (have hall := all_nil w; go_enter Tryz.func70, Tryz.ntmps70)
      go_wp2_with (first | (go_at_call 117; (refine (i_PlanOk kp mv _ cs true hp _ (HA.out.below (by exact bel))).mono ?_; rintro e w2 ⟨rfl, hb⟩; obtain ⟨kwa_0_0, kwa_0_1, kwa_0_2, kwa_0_3, kwa_0_4⟩ := kp5 hb (w.heap.size) (.int .i64 kp) (.int .i64 mv) (.slice ao cs.length ca) (.int .i64 ph) (.int .i64 nx); have xwa_0 : w.heap.size < w2.heap.size := xc hb; have hzwa := hb.size; (try simp only [World.size_alloc, World.size_setCell, World.size_drew] at hzwa); have HB := Lib.hid hb; clear hb; obtain ⟨wa, rfl⟩ : ∃ x, x = w2 := ⟨_, rfl⟩)) | (go_at_call 55; ((refine (i_between _ _ _ false (by assumption) _).mono ?_)); rintro e w2 ⟨rfl, rfl⟩))
      all_goals (have hB := HB.out; go_ret; refine ⟨by simp_all [jobOk], by exact bel⟩)
    · cases b2 : between nx 0 cs.length
      · (have hall := all_nil w; go_enter Tryz.func70, Tryz.ntmps70)
        go_wp2_with (first | (go_at_call 117; (refine (i_PlanOk kp mv _ cs true hp _ (HA.out.below (by exact bel))).mono ?_; rintro e w2 ⟨rfl, hb⟩; obtain ⟨kwa_0_0, kwa_0_1, kwa_0_2, kwa_0_3, kwa_0_4⟩ := kp5 hb (w.heap.size) (.int .i64 kp) (.int .i64 mv) (.slice ao cs.length ca) (.int .i64 ph) (.int .i64 nx); have xwa_0 : w.heap.size < w2.heap.size := xc hb; have hzwa := hb.size; (try simp only [World.size_alloc, World.size_setCell, World.size_drew] at hzwa); have HB := Lib.hid hb; clear hb; obtain ⟨wa, rfl⟩ : ∃ x, x = w2 := ⟨_, rfl⟩)) | (go_at_call 55; (first | (refine (i_between _ _ _ true (by assumption) _).mono ?_) | (refine (i_between _ _ _ false (by assumption) _).mono ?_)); rintro e w2 ⟨rfl, rfl⟩))
        all_goals (have hB := HB.out; go_ret; refine ⟨by simp_all [jobOk], by exact bel⟩)
      · (have hall := all_nil w; go_enter Tryz.func70, Tryz.ntmps70)
        go_wp2_with (first | (go_at_call 117; (refine (i_PlanOk kp mv _ cs true hp _ (HA.out.below (by exact bel))).mono ?_; rintro e w2 ⟨rfl, hb⟩; obtain ⟨kwa_0_0, kwa_0_1, kwa_0_2, kwa_0_3, kwa_0_4⟩ := kp5 hb (w.heap.size) (.int .i64 kp) (.int .i64 mv) (.slice ao cs.length ca) (.int .i64 ph) (.int .i64 nx); have xwa_0 : w.heap.size < w2.heap.size := xc hb; have hzwa := hb.size; (try simp only [World.size_alloc, World.size_setCell, World.size_drew] at hzwa); have HB := Lib.hid hb; clear hb; obtain ⟨wa, rfl⟩ : ∃ x, x = w2 := ⟨_, rfl⟩)) | (go_at_call 55; ((refine (i_between _ _ _ true (by assumption) _).mono ?_)); rintro e w2 ⟨rfl, rfl⟩))
        all_goals (have hB := HB.out; go_ret; refine ⟨by simp_all [jobOk], by exact bel⟩)

theorem s_JobOk (kp mv : Int) (v : Value) (cs : List Int) (ph nx : Int) (r : Bool) (hr : jobOk kp mv cs ph nx = r) (w : World) (ha : IntsAt w v cs) : Calls Tryz.prog 110 #[.agg #[.int .i64 kp, .int .i64 mv, v, .int .i64 ph, .int .i64 nx]] w fun e w' => e = .returned (.bool r) ∧ Below w.heap.size w w' := by
  subst hr
  obtain ⟨ao, ca, rfl, h1, h2⟩ := ha.shape
  have hm : cs.length ≤ 9223372036854775807 := by unfold maxLen at h2; omega
  have HA := Lib.hid ha
  clear ha h1 h2
  cases hp : planOk kp mv cs
  · (have hall := all_nil w; go_enter Tryz.func110, Tryz.ntmps110)
    go_wp2_with ((go_at_call 153; (refine (s_PlanOk kp mv _ cs false hp _ (HA.out.below (by exact bel))).mono ?_; rintro e w2 ⟨rfl, hb⟩; obtain ⟨kwa_0_0, kwa_0_1, kwa_0_2, kwa_0_3, kwa_0_4⟩ := kp5 hb (w.heap.size) (.int .i64 kp) (.int .i64 mv) (.slice ao cs.length ca) (.int .i64 ph) (.int .i64 nx); have xwa_0 : w.heap.size < w2.heap.size := xc hb; have hzwa := hb.size; (try simp only [World.size_alloc, World.size_setCell, World.size_drew] at hzwa); have HB := Lib.hid hb; clear hb; obtain ⟨wa, rfl⟩ : ∃ x, x = w2 := ⟨_, rfl⟩)))
    all_goals (have hB := HB.out; go_ret; refine ⟨by simp_all [jobOk], by exact bel⟩)
  · cases b1 : between ph 0 5
    · (have hall := all_nil w; go_enter Tryz.func110, Tryz.ntmps110)
      go_wp2_with (first | (go_at_call 153; (refine (s_PlanOk kp mv _ cs true hp _ (HA.out.below (by exact bel))).mono ?_; rintro e w2 ⟨rfl, hb⟩; obtain ⟨kwa_0_0, kwa_0_1, kwa_0_2, kwa_0_3, kwa_0_4⟩ := kp5 hb (w.heap.size) (.int .i64 kp) (.int .i64 mv) (.slice ao cs.length ca) (.int .i64 ph) (.int .i64 nx); have xwa_0 : w.heap.size < w2.heap.size := xc hb; have hzwa := hb.size; (try simp only [World.size_alloc, World.size_setCell, World.size_drew] at hzwa); have HB := Lib.hid hb; clear hb; obtain ⟨wa, rfl⟩ : ∃ x, x = w2 := ⟨_, rfl⟩)) | (go_at_call 49; ((refine (s_l01In _ _ _ false (by assumption) _).mono ?_)); rintro e w2 ⟨rfl, rfl⟩))
      all_goals (have hB := HB.out; go_ret; refine ⟨by simp_all [jobOk], by exact bel⟩)
    · cases b2 : between nx 0 cs.length
      · (have hall := all_nil w; go_enter Tryz.func110, Tryz.ntmps110)
        go_wp2_with (first | (go_at_call 153; (refine (s_PlanOk kp mv _ cs true hp _ (HA.out.below (by exact bel))).mono ?_; rintro e w2 ⟨rfl, hb⟩; obtain ⟨kwa_0_0, kwa_0_1, kwa_0_2, kwa_0_3, kwa_0_4⟩ := kp5 hb (w.heap.size) (.int .i64 kp) (.int .i64 mv) (.slice ao cs.length ca) (.int .i64 ph) (.int .i64 nx); have xwa_0 : w.heap.size < w2.heap.size := xc hb; have hzwa := hb.size; (try simp only [World.size_alloc, World.size_setCell, World.size_drew] at hzwa); have HB := Lib.hid hb; clear hb; obtain ⟨wa, rfl⟩ : ∃ x, x = w2 := ⟨_, rfl⟩)) | (go_at_call 49; (first | (refine (s_l01In _ _ _ true (by assumption) _).mono ?_) | (refine (s_l01In _ _ _ false (by assumption) _).mono ?_)); rintro e w2 ⟨rfl, rfl⟩))
        all_goals (have hB := HB.out; go_ret; refine ⟨by simp_all [jobOk], by exact bel⟩)
      · (have hall := all_nil w; go_enter Tryz.func110, Tryz.ntmps110)
        go_wp2_with (first | (go_at_call 153; (refine (s_PlanOk kp mv _ cs true hp _ (HA.out.below (by exact bel))).mono ?_; rintro e w2 ⟨rfl, hb⟩; obtain ⟨kwa_0_0, kwa_0_1, kwa_0_2, kwa_0_3, kwa_0_4⟩ := kp5 hb (w.heap.size) (.int .i64 kp) (.int .i64 mv) (.slice ao cs.length ca) (.int .i64 ph) (.int .i64 nx); have xwa_0 : w.heap.size < w2.heap.size := xc hb; have hzwa := hb.size; (try simp only [World.size_alloc, World.size_setCell, World.size_drew] at hzwa); have HB := Lib.hid hb; clear hb; obtain ⟨wa, rfl⟩ : ∃ x, x = w2 := ⟨_, rfl⟩)) | (go_at_call 49; ((refine (s_l01In _ _ _ true (by assumption) _).mono ?_)); rintro e w2 ⟨rfl, rfl⟩))
        all_goals (have hB := HB.out; go_ret; refine ⟨by simp_all [jobOk], by exact bel⟩)



theorem l_szJob (kp mv : Int) (v : Value) (cs : List Int) (ph nx : Int) (left : Int) (hl : 0 ≤ left ∧ left ≤ 1048576) (w : World) (ha : IntsAt w v cs) : Calls Tryz.prog 25 #[.agg #[.int .i64 kp, .int .i64 mv, v, .int .i64 ph, .int .i64 nx], .int .i64 left] w fun e w' => e = .returned (.int .i64 (szRes left cs.length)) ∧ Below w.heap.size w w' := by
  obtain ⟨eo, ec, rfl, h1, h2⟩ := ha.shape
  have HA := Lib.hid ha
  clear ha h1 h2
  by_cases c1 : left - ((cs.length : Nat) : Int) < 0
  · (have hall := all_nil w; go_enter Tryz.func25, Tryz.ntmps25)
    go_wp2_with ((go_at_call 63; refine (l_szPlan kp mv _ cs _ (by omega) _ (HA.out.below (by exact bel))).mono ?_; rintro e w2 ⟨rfl, hb⟩; ((rw [szRes_neg (by omega)])); ((have hn := nw1 hb hall (by exact zo))); obtain ⟨hc, hf, hn, hc0⟩ := hn; replace hall := hn; clear hn; have hz := hb.size; (try simp only [World.size_alloc, World.size_setCell, World.size_drew] at hz); have hx := hall; (try simp only [allLt, and_true] at hx); obtain ⟨w1, rfl⟩ : ∃ x, x = w2 := ⟨_, rfl⟩))
    go_ret
    exact ⟨by rw [szRes_neg (by omega)]; rfl, by exact bel⟩
  (have hall := all_nil w; go_enter Tryz.func25, Tryz.ntmps25)
  go_wp2_with ((go_at_call 63; refine (l_szPlan kp mv _ cs _ (by omega) _ (HA.out.below (by exact bel))).mono ?_; rintro e w2 ⟨rfl, hb⟩; ((rw [szRes_pos (by omega)])); ((have hn := nw1 hb hall (by exact zo))); obtain ⟨hc, hf, hn, hc0⟩ := hn; replace hall := hn; clear hn; have hz := hb.size; (try simp only [World.size_alloc, World.size_setCell, World.size_drew] at hz); have hx := hall; (try simp only [allLt, and_true] at hx); obtain ⟨w1, rfl⟩ : ∃ x, x = w2 := ⟨_, rfl⟩))
  go_ret
  exact ⟨by rw [szRes_pos (by omega)]; go_num, by exact bel⟩

/-- What a call that hands back a job of its own leaves. -/
def NewJ (w : World) (kp mv : Int) (cs : List Int) (ph nx : Int) (e : Ending) (w' : World) : Prop := ∃ v : Value, e = .returned (.agg #[.int .i64 kp, .int .i64 mv, v, .int .i64 ph, .int .i64 nx]) ∧ OwnI w.heap.size w' v cs ∧ Below w.heap.size w w'
theorem l_toJob (kp mv : Int) (e : Value) (es : List Int) (ph nx : Int) (hs : es.length ≤ 1048576) (w : World) (ha : IntsAt w e es) : Calls Tryz.prog 27 #[.agg #[.int .i64 kp, .int .i64 mv, e, .int .i64 ph, .int .i64 nx]] w (NewJ w kp mv es ph nx) := by
  have HE := Lib.hid ha; have H1 := Lib.hid hs
  clear ha hs
  (have hall := all_nil w; go_enter Tryz.func27, Tryz.ntmps27)
  go_wp2_with ((go_at_call 67; (refine (l_toPlan kp mv _ es H1.out _ (HE.out.below (by exact bel))).mono ?_; rintro e w2 ⟨e', rfl, heo, hb⟩; obtain ⟨eo, ec, rfl, -, -⟩ := heo.shape; have OE := Lib.hid heo; have HB1 := Lib.hid hb; have kwa_0_3 : w2.cell? ⟨w.heap.size, 3, none⟩ = some (.int .i64 ph) := kc hb; have kwa_0_4 : w2.cell? ⟨w.heap.size, 4, none⟩ = some (.int .i64 nx) := kc hb; obtain ⟨kwa_1_0, fwa_1_0, kwa_1_1, fwa_1_1, kwa_1_2, fwa_1_2, kwa_1_3, fwa_1_3, kwa_1_4, fwa_1_4⟩ := kf5 hb (w.heap.size + 1) (.int .i64 0) (.int .i64 0) (.slice none 0 0) (.int .i64 0) (.int .i64 0); obtain ⟨kwa_2_0, fwa_2_0, kwa_2_1, fwa_2_1, kwa_2_2, fwa_2_2, kwa_2_3, fwa_2_3, kwa_2_4, fwa_2_4⟩ := kf5 hb (w.heap.size + 1 + 1) (.int .i64 0) (.int .i64 0) (.slice none 0 0) (.int .i64 0) (.int .i64 0); have xwa_0 : w.heap.size < w2.heap.size := xc hb; have xwa_1 : w.heap.size + 1 < w2.heap.size := xc hb; have xwa_2 : w.heap.size + 1 + 1 < w2.heap.size := xc hb; have hzwa := hb.size; (try simp only [World.size_alloc, World.size_setCell, World.size_drew] at hzwa); clear heo; obtain ⟨wa, rfl⟩ : ∃ x, x = w2 := ⟨_, rfl⟩)))
  refine bodyPost_ret (v := .agg #[.int .i64 kp, .int .i64 mv, .slice eo es.length ec, .int .i64 ph, .int .i64 nx]) (by simp [results, Tryz.results27, go_sem, kwa_1_0, fwa_1_0, kwa_1_1, fwa_1_1, kwa_1_2, fwa_1_2, kwa_1_3, fwa_1_3, kwa_1_4, fwa_1_4, xwa_1, kwa_2_0, fwa_2_0, kwa_2_1, fwa_2_1, kwa_2_2, fwa_2_2, kwa_2_3, fwa_2_3, kwa_2_4, fwa_2_4, xwa_2]) rfl ?_
  have hB1 := HB1.out
  exact ⟨_, rfl, by (have hm := Own.mono (B' := w.heap.size + 1 + 1 + 1) (OE.out) (by exact zt); refine Own.mono (B := w.heap.size + 1 + 1 + 1) ?_ (by exact zt); (repeat (first | with_reducible exact hm | (with_reducible refine Own.offb ?_ (by omega) _)))), by exact bel⟩
theorem l_eqJob (B B2 : Nat) (kp mv : Int) (x y : Value) (es : List Int) (ph nx : Int) (w : World) (ha : OwnI B w x es) (hb : OwnI B2 w y es) : Calls Tryz.prog 29 #[.agg #[.int .i64 kp, .int .i64 mv, x, .int .i64 ph, .int .i64 nx], .agg #[.int .i64 kp, .int .i64 mv, y, .int .i64 ph, .int .i64 nx]] w fun e w' => e = .returned (.bool true) ∧ Below w.heap.size w w' := by
  have HA := Lib.hid ha; have HB := Lib.hid hb; clear ha hb
  (have hall := all_nil w; go_enter Tryz.func29, Tryz.ntmps29)
  go_wp2_with ((go_at_call 77; refine (l_eqPlan _ _ kp mv _ _ _ _ (Own.below HA.out (by exact bel)) (Own.below HB.out (by exact bel))).mono ?_; rintro e w2 ⟨rfl, hb⟩; ((have hn := nw2 hb hall (by exact zo))); obtain ⟨hc, hf, hn, hc0⟩ := hn; replace hall := hn; clear hn; have hz := hb.size; (try simp only [World.size_alloc, World.size_setCell, World.size_drew] at hz); have hx := hall; (try simp only [allLt, and_true] at hx); obtain ⟨w1, rfl⟩ : ∃ x, x = w2 := ⟨_, rfl⟩))
  skip
  go_ret
  exact ⟨rfl, by exact bel⟩

end Go.Proofs.YtmblkllijjlkoaaGreat
/-
  The laws' functions on frames, tables, machines, kernels: equal.
-/
set_option linter.unusedVariables false
set_option linter.unusedSimpArgs false
namespace Go.Proofs.YtmblkllijjlkoaaGreat
open Go.RowKit
theorem l_eqFrames (B B2 : Nat) (x y : FV) (F : Frm) (w : World) (ha : FOwn B w x F) (hb : FOwn B2 w y F) : Calls Tryz.prog 103 #[x.val, y.val] w fun e w' => e = .returned (.bool true) ∧ Below w.heap.size w w' := by
  have HA := Lib.hid ha; have HB := Lib.hid hb; clear ha hb
  simp only [FV.val]
  (have hall := all_nil w; go_enter Tryz.func103, Tryz.ntmps103)
  go_wp2_with (first | (go_at_call 144; refine (l_eqIntSS _ _ _ _ _ _ _ _ (HA.out.rows.below (by exact bel)) (HB.out.rows.below (by exact bel))).mono ?_; rintro e w2 ⟨rfl, hb⟩; ((have hn := nw2 hb hall (by exact zo))); obtain ⟨hc, hf, hn, hc0⟩ := hn; replace hall := hn; clear hn; have hz := hb.size; (try simp only [World.size_alloc, World.size_setCell, World.size_drew] at hz); have hx := hall; (try simp only [allLt, and_true] at hx); obtain ⟨w1, rfl⟩ : ∃ x, x = w2 := ⟨_, rfl⟩) | (go_at_call 145; refine (l_eqBoolS _ _ _ _ (Own.at (Own.below HA.out.used (by exact bel)) lenBool) (Own.at (Own.below HB.out.used (by exact bel)) lenBool)).mono ?_; rintro e w2 ⟨rfl, hb⟩; ((have hn := nw0 hb hall (by exact zo))); obtain ⟨hc, hf, hn, hc0⟩ := hn; replace hall := hn; clear hn; have hz := hb.size; (try simp only [World.size_alloc, World.size_setCell, World.size_drew] at hz); have hx := hall; (try simp only [allLt, and_true] at hx); obtain ⟨w1, rfl⟩ : ∃ x, x = w2 := ⟨_, rfl⟩))
  skip
  go_ret
  exact ⟨rfl, by exact bel⟩

theorem l_eqTable (B B2 : Nat) (x y : Value) (es : List Ent) (w : World) (ha : OwnEnt B w x es) (hb : OwnEnt B2 w y es) : Calls Tryz.prog 104 #[.agg #[x], .agg #[y]] w fun e w' => e = .returned (.bool true) ∧ Below w.heap.size w w' := by
  have HA := Lib.hid ha; have HB := Lib.hid hb; clear ha hb
  (have hall := all_nil w; go_enter Tryz.func104, Tryz.ntmps104)
  go_wp2_with ((go_at_call 146; refine (l_eqEntryS _ _ _ _ (Own.at (Own.below HA.out (by exact bel)) lenEnt) (Own.at (Own.below HB.out (by exact bel)) lenEnt)).mono ?_; rintro e w2 ⟨rfl, hb⟩; ((have hn := nw2 hb hall (by exact zo))); obtain ⟨hc, hf, hn, hc0⟩ := hn; replace hall := hn; clear hn; have hz := hb.size; (try simp only [World.size_alloc, World.size_setCell, World.size_drew] at hz); have hx := hall; (try simp only [allLt, and_true] at hx); obtain ⟨w1, rfl⟩ : ∃ x, x = w2 := ⟨_, rfl⟩))
  skip
  go_ret
  exact ⟨rfl, by exact bel⟩

theorem l_eqMachine (B B2 : Nat) (x y : MV) (M : Mac) (w : World) (ha : MOwn B w x M) (hb : MOwn B2 w y M) : Calls Tryz.prog 57 #[x.val, y.val] w fun e w' => e = .returned (.bool true) ∧ Below w.heap.size w w' := by
  have HA := Lib.hid ha; have HB := Lib.hid hb; clear ha hb
  simp only [MV.val]
  (have hall := all_nil w; go_enter Tryz.func57, Tryz.ntmps57)
  go_wp2_with (first | (go_at_call 103; refine (l_eqFrames _ _ x.f y.f _ _ (HA.out.f.below (by exact bel)) (HB.out.f.below (by exact bel))).mono ?_; rintro e w2 ⟨rfl, hb⟩; ((have hn := nw2 hb hall (by exact zo))); obtain ⟨hc, hf, hn, hc0⟩ := hn; replace hall := hn; clear hn; have hz := hb.size; (try simp only [World.size_alloc, World.size_setCell, World.size_drew] at hz); have hx := hall; (try simp only [allLt, and_true] at hx); obtain ⟨w1, rfl⟩ : ∃ x, x = w2 := ⟨_, rfl⟩) | (go_at_call 104; refine (l_eqTable _ _ _ _ _ _ (Own.below HA.out.ents (by exact bel)) (Own.below HB.out.ents (by exact bel))).mono ?_; rintro e w2 ⟨rfl, hb⟩; ((have hn := nw0 hb hall (by exact zo))); obtain ⟨hc, hf, hn, hc0⟩ := hn; replace hall := hn; clear hn; have hz := hb.size; (try simp only [World.size_alloc, World.size_setCell, World.size_drew] at hz); have hx := hall; (try simp only [allLt, and_true] at hx); obtain ⟨w1, rfl⟩ : ∃ x, x = w2 := ⟨_, rfl⟩))
  skip
  go_ret
  exact ⟨rfl, by exact bel⟩

theorem l_eqKernel (B B2 : Nat) (x y : KV) (K : Ker) (w : World) (ha : KOwn B w x K) (hb : KOwn B2 w y K) : Calls Tryz.prog 16 #[x.val K.calls, y.val K.calls] w fun e w' => e = .returned (.bool true) ∧ Below w.heap.size w w' := by
  have HA := Lib.hid ha; have HB := Lib.hid hb; clear ha hb
  simp only [KV.val]
  (have hall := all_nil w; go_enter Tryz.func16, Tryz.ntmps16)
  go_wp2_with (first | (go_at_call 57; refine (l_eqMachine _ _ x.m y.m _ _ (HA.out.m.below (by exact bel)) (HB.out.m.below (by exact bel))).mono ?_; rintro e w2 ⟨rfl, hb⟩; ((have hn := nw2 hb hall (by exact zo))); obtain ⟨hc, hf, hn, hc0⟩ := hn; replace hall := hn; clear hn; have hz := hb.size; (try simp only [World.size_alloc, World.size_setCell, World.size_drew] at hz); have hx := hall; (try simp only [allLt, and_true] at hx); obtain ⟨w1, rfl⟩ : ∃ x, x = w2 := ⟨_, rfl⟩) | (go_at_call 40; refine (l_eqIntS _ _ _ _ _ _ (Own.below HA.out.ref (by exact bel)) (Own.below HB.out.ref (by exact bel))).mono ?_; rintro e w2 ⟨rfl, hb⟩; ((have hn := nw0 hb hall (by exact zo))); obtain ⟨hc, hf, hn, hc0⟩ := hn; replace hall := hn; clear hn; have hz := hb.size; (try simp only [World.size_alloc, World.size_setCell, World.size_drew] at hz); have hx := hall; (try simp only [allLt, and_true] at hx); obtain ⟨w1, rfl⟩ : ∃ x, x = w2 := ⟨_, rfl⟩))
  skip
  go_ret
  exact ⟨rfl, by exact bel⟩

end Go.Proofs.YtmblkllijjlkoaaGreat
