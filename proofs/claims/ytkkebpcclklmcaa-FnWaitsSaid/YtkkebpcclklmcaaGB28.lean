/-
  Texts put together: JobNew, JobRunS, KTake.
-/
import Derived.Test.YtkkebpcclklmcaaGB12
import Derived.Test.YtkkebpcclklmcaaGB27
import Derived.Test.YtkkebpcclklmcaaGB17
/-
  JobNew, both sides.
-/
set_option linter.unusedVariables false
set_option linter.unusedSimpArgs false
namespace Go.Proofs.Ytkkebpcclklmcaa
open Go.RowKit
/-- What JobNew leaves. -/
def JNew (w : World) (kp mv : Int) (cs : List Int) (e : Ending) (w' : World) : Prop := ∃ v : Value, e = .returned (.tuple #[.agg #[.int .i64 (if planOk kp mv cs then kp else 0), .int .i64 (if planOk kp mv cs then mv else 0), v, .int .i64 0, .int .i64 0], .bool (planOk kp mv cs)]) ∧ OwnI w.heap.size w' v (if planOk kp mv cs then cs else []) ∧ Below w.heap.size w w'
theorem i_JobNew (kp mv : Int) (v : Value) (cs : List Int) (hs : cs.length ≤ 1048576) (w : World) (ha : IntsAt w v cs) : Calls Try.prog 17 #[.agg #[.int .i64 kp, .int .i64 mv, v]] w (JNew w kp mv cs) := by
  have HA := Lib.hid ha
  obtain ⟨ao, ca, rfl, _, _⟩ := ha.shape
  clear ha
  unfold JNew
  cases hp : planOk kp mv cs
  · (have hall := all_nil w; go_enter Try.func17, Try.ntmps17)
    go_wp2_with ((go_at_call 44; (refine (i_PlanOk kp mv _ cs false hp _ (HA.out.below (by exact bel))).mono ?_; rintro e w2 ⟨rfl, hb⟩; have HB1 := Lib.hid hb; obtain ⟨kwa_0_0, fwa_0_0, kwa_0_1, fwa_0_1, kwa_0_2, fwa_0_2⟩ := kf3 hb (w.heap.size) (.int .i64 kp) (.int .i64 mv) (.slice ao cs.length ca); obtain ⟨kwa_1_0, fwa_1_0, kwa_1_1, fwa_1_1, kwa_1_2, fwa_1_2, kwa_1_3, fwa_1_3, kwa_1_4, fwa_1_4⟩ := kf5 hb (w.heap.size + 1) (.int .i64 0) (.int .i64 0) (.slice none 0 0) (.int .i64 0) (.int .i64 0); have xwa_0 : w.heap.size < w2.heap.size := xc hb; have xwa_1 : w.heap.size + 1 < w2.heap.size := xc hb; have hzwa := hb.size; (try simp only [World.size_alloc, World.size_setCell, World.size_drew] at hzwa); clear hb; obtain ⟨wa, rfl⟩ : ∃ x, x = w2 := ⟨_, rfl⟩)))
    refine bodyPost_ret (v := .tuple #[.agg #[.int .i64 0, .int .i64 0, .slice none 0 0, .int .i64 0, .int .i64 0], .bool false]) (by simp [results, Try.results17, go_sem, kwa_1_0, fwa_1_0, kwa_1_1, fwa_1_1, kwa_1_2, fwa_1_2, kwa_1_3, fwa_1_3, kwa_1_4, fwa_1_4, xwa_1]) rfl ?_
    have hB1 := HB1.out
    exact ⟨_, rfl, Own.nil _ _ _ _ _, by exact bel⟩
  · (have hall := all_nil w; go_enter Try.func17, Try.ntmps17)
    go_wp2_with (first | (go_at_call 44; (refine (i_PlanOk kp mv _ cs true hp _ (HA.out.below (by exact bel))).mono ?_; rintro e w2 ⟨rfl, hb⟩; have HB1 := Lib.hid hb; obtain ⟨kwa_0_0, fwa_0_0, kwa_0_1, fwa_0_1, kwa_0_2, fwa_0_2⟩ := kf3 hb (w.heap.size) (.int .i64 kp) (.int .i64 mv) (.slice ao cs.length ca); obtain ⟨kwa_1_0, fwa_1_0, kwa_1_1, fwa_1_1, kwa_1_2, fwa_1_2, kwa_1_3, fwa_1_3, kwa_1_4, fwa_1_4⟩ := kf5 hb (w.heap.size + 1) (.int .i64 0) (.int .i64 0) (.slice none 0 0) (.int .i64 0) (.int .i64 0); have xwa_0 : w.heap.size < w2.heap.size := xc hb; have xwa_1 : w.heap.size + 1 < w2.heap.size := xc hb; have hzwa := hb.size; (try simp only [World.size_alloc, World.size_setCell, World.size_drew] at hzwa); clear hb; obtain ⟨wa, rfl⟩ : ∃ x, x = w2 := ⟨_, rfl⟩)) | (go_at_call 46; (refine (i_copyPlan kp mv _ cs hs _ (HA.out.below (by (have hB1 := HB1.out; exact bel)))).mono ?_; rintro e w2 ⟨e', rfl, heo, hb⟩; obtain ⟨eo, ec, rfl, -, -⟩ := heo.shape; have OE := Lib.hid heo; have HB2 := Lib.hid hb; obtain ⟨kwb_1_0, fwb_1_0, kwb_1_1, fwb_1_1, kwb_1_2, fwb_1_2, kwb_1_3, fwb_1_3, kwb_1_4, fwb_1_4⟩ := kf5 hb (w.heap.size + 1) (.int .i64 0) (.int .i64 0) (.slice none 0 0) (.int .i64 0) (.int .i64 0); have xwb_1 : w.heap.size + 1 < w2.heap.size := xc hb; have hzwb := hb.size; (try simp only [World.size_alloc, World.size_setCell, World.size_drew] at hzwb); clear heo hb; obtain ⟨wb, rfl⟩ : ∃ x, x = w2 := ⟨_, rfl⟩)))
    refine bodyPost_ret (v := .tuple #[.agg #[.int .i64 kp, .int .i64 mv, .slice eo cs.length ec, .int .i64 0, .int .i64 0], .bool true]) (by simp [results, Try.results17, go_sem, kwb_1_0, fwb_1_0, kwb_1_1, fwb_1_1, kwb_1_2, fwb_1_2, kwb_1_3, fwb_1_3, kwb_1_4, fwb_1_4, xwb_1]) rfl ?_
    have hB1 := HB1.out; have hB2 := HB2.out
    exact ⟨_, rfl, by (have hm := Own.mono (B' := w.heap.size + 1 + 1) (OE.out) (by exact zt); refine Own.mono (B := w.heap.size + 1 + 1) ?_ (by exact zt); (repeat (first | with_reducible exact hm | (with_reducible refine Own.offb ?_ (by omega) _)))), by exact bel⟩
theorem s_JobNew (kp mv : Int) (v : Value) (cs : List Int) (hs : cs.length ≤ 1048576) (w : World) (ha : IntsAt w v cs) : Calls Try.prog 11 #[.agg #[.int .i64 kp, .int .i64 mv, v]] w (JNew w kp mv cs) := by
  have HA := Lib.hid ha
  obtain ⟨ao, ca, rfl, _, _⟩ := ha.shape
  clear ha
  unfold JNew
  cases hp : planOk kp mv cs
  · (have hall := all_nil w; go_enter Try.func11, Try.ntmps11)
    go_wp2_with ((go_at_call 35; (refine (s_PlanOk kp mv _ cs false hp _ (HA.out.below (by exact bel))).mono ?_; rintro e w2 ⟨rfl, hb⟩; have HB1 := Lib.hid hb; obtain ⟨kwa_0_0, fwa_0_0, kwa_0_1, fwa_0_1, kwa_0_2, fwa_0_2⟩ := kf3 hb (w.heap.size) (.int .i64 kp) (.int .i64 mv) (.slice ao cs.length ca); obtain ⟨kwa_1_0, fwa_1_0, kwa_1_1, fwa_1_1, kwa_1_2, fwa_1_2, kwa_1_3, fwa_1_3, kwa_1_4, fwa_1_4⟩ := kf5 hb (w.heap.size + 1) (.int .i64 0) (.int .i64 0) (.slice none 0 0) (.int .i64 0) (.int .i64 0); have xwa_0 : w.heap.size < w2.heap.size := xc hb; have xwa_1 : w.heap.size + 1 < w2.heap.size := xc hb; have hzwa := hb.size; (try simp only [World.size_alloc, World.size_setCell, World.size_drew] at hzwa); clear hb; obtain ⟨wa, rfl⟩ : ∃ x, x = w2 := ⟨_, rfl⟩)))
    refine bodyPost_ret (v := .tuple #[.agg #[.int .i64 0, .int .i64 0, .slice none 0 0, .int .i64 0, .int .i64 0], .bool false]) (by simp [results, Try.results11, go_sem, kwa_1_0, fwa_1_0, kwa_1_1, fwa_1_1, kwa_1_2, fwa_1_2, kwa_1_3, fwa_1_3, kwa_1_4, fwa_1_4, xwa_1]) rfl ?_
    have hB1 := HB1.out
    exact ⟨_, rfl, Own.nil _ _ _ _ _, by exact bel⟩
  · (have hall := all_nil w; go_enter Try.func11, Try.ntmps11)
    go_wp2_with (first | (go_at_call 35; (refine (s_PlanOk kp mv _ cs true hp _ (HA.out.below (by exact bel))).mono ?_; rintro e w2 ⟨rfl, hb⟩; have HB1 := Lib.hid hb; obtain ⟨kwa_0_0, fwa_0_0, kwa_0_1, fwa_0_1, kwa_0_2, fwa_0_2⟩ := kf3 hb (w.heap.size) (.int .i64 kp) (.int .i64 mv) (.slice ao cs.length ca); obtain ⟨kwa_1_0, fwa_1_0, kwa_1_1, fwa_1_1, kwa_1_2, fwa_1_2, kwa_1_3, fwa_1_3, kwa_1_4, fwa_1_4⟩ := kf5 hb (w.heap.size + 1) (.int .i64 0) (.int .i64 0) (.slice none 0 0) (.int .i64 0) (.int .i64 0); have xwa_0 : w.heap.size < w2.heap.size := xc hb; have xwa_1 : w.heap.size + 1 < w2.heap.size := xc hb; have hzwa := hb.size; (try simp only [World.size_alloc, World.size_setCell, World.size_drew] at hzwa); clear hb; obtain ⟨wa, rfl⟩ : ∃ x, x = w2 := ⟨_, rfl⟩)) | (go_at_call 36; (refine (s_l14Copy kp mv _ cs 0 0 hs _ (HA.out.below (by (have hB1 := HB1.out; exact bel)))).mono ?_; rintro e w2 ⟨e', rfl, heo, hb⟩; obtain ⟨eo, ec, rfl, -, -⟩ := heo.shape; have OE := Lib.hid heo; have HB2 := Lib.hid hb; obtain ⟨kwb_1_0, fwb_1_0, kwb_1_1, fwb_1_1, kwb_1_2, fwb_1_2, kwb_1_3, fwb_1_3, kwb_1_4, fwb_1_4⟩ := kf5 hb (w.heap.size + 1) (.int .i64 0) (.int .i64 0) (.slice none 0 0) (.int .i64 0) (.int .i64 0); have xwb_1 : w.heap.size + 1 < w2.heap.size := xc hb; have hzwb := hb.size; (try simp only [World.size_alloc, World.size_setCell, World.size_drew] at hzwb); clear heo hb; obtain ⟨wb, rfl⟩ : ∃ x, x = w2 := ⟨_, rfl⟩)))
    refine bodyPost_ret (v := .tuple #[.agg #[.int .i64 kp, .int .i64 mv, .slice eo cs.length ec, .int .i64 0, .int .i64 0], .bool true]) (by simp [results, Try.results11, go_sem, kwb_1_0, fwb_1_0, kwb_1_1, fwb_1_1, kwb_1_2, fwb_1_2, kwb_1_3, fwb_1_3, kwb_1_4, fwb_1_4, xwb_1]) rfl ?_
    have hB1 := HB1.out; have hB2 := HB2.out
    exact ⟨_, rfl, by (have hm := Own.mono (B' := w.heap.size + 1 + 1) (OE.out) (by exact zt); refine Own.mono (B := w.heap.size + 1 + 1) ?_ (by exact zt); (repeat (first | with_reducible exact hm | (with_reducible refine Own.offb ?_ (by omega) _)))), by exact bel⟩
end Go.Proofs.Ytkkebpcclklmcaa
/-
  JobRun of a state; JobNew of a plan that is in order.
-/
set_option linter.unusedVariables false
set_option linter.unusedSimpArgs false
namespace Go.Proofs.Ytkkebpcclklmcaa
open Go.RowKit
/-- JobRun of a state. -/
theorem i_JobRunS (x : KV) (s : JS) (kp mv : Int) (v : Value) (cs : List Int) (most : Int) (R : JS) (hR : runTo kp mv cs most s = R) (hs : szK s.k ≤ 1048576) (hc : cs.length ≤ 1048576) (w : World) (ha : KAt w x s.k) (hv : IntsAt w v cs) : Calls Try.prog 12 #[x.val s.k.calls, .agg #[.int .i64 kp, .int .i64 mv, v, .int .i64 s.ph, .int .i64 s.nx], .int .i64 most] w (NewKJ w R.k kp mv cs R.ph R.nx) := by
  have := i_JobRun x s.k kp mv v cs s.ph s.nx most hs hc w ha hv
  rw [show (⟨s.k, s.ph, s.nx⟩ : JS) = s from rfl, hR] at this
  exact this
theorem s_JobNewOk (kp mv : Int) (v : Value) (cs : List Int) (hp : planOk kp mv cs = true) (hs : cs.length ≤ 1048576) (w : World) (ha : IntsAt w v cs) : Calls Try.prog 11 #[.agg #[.int .i64 kp, .int .i64 mv, v]] w fun e w' => ∃ v : Value, e = .returned (.tuple #[.agg #[.int .i64 kp, .int .i64 mv, v, .int .i64 0, .int .i64 0], .bool true]) ∧ OwnI w.heap.size w' v cs ∧ Below w.heap.size w w' := by
  have := s_JobNew kp mv v cs hs w ha
  unfold JNew at this
  rw [hp] at this
  exact this

end Go.Proofs.Ytkkebpcclklmcaa
/-
  The first free frame, and frames with it taken.
-/
set_option linter.unusedVariables false
set_option linter.unusedSimpArgs false
namespace Go.Proofs.Ytkkebpcclklmcaa
open Go.RowKit
def takeF (F : Frm) : Frm := if 0 ≤ freeIx F.used then ⟨F.cells, F.used.set (freeIx F.used).toNat true⟩ else F
def NewTake (w : World) (F : Frm) (e : Ending) (w' : World) : Prop := ∃ y : FV, e = .returned (.tuple #[y.val, .int .i64 (freeIx F.used), .bool (decide (0 ≤ freeIx F.used))]) ∧ FOwn w.heap.size w' y (takeF F) ∧ Below w.heap.size w w'
section
variable {w : World} {B : Nat}
theorem KIn.setUsed {gb g n cap : Nat} {y : KV} {K : Ker} (h : KIn B w gb y K) (hu : y.m.f.u = .slice (some ⟨g, 0, none⟩) n cap) (i : Nat) (b : Bool) : KIn B (w.setCell ⟨g, i, none⟩ (.bool b)) gb y (withF K ⟨K.m.f.cells, K.m.f.used.set i b⟩) := by
  have S := FOwn.setUsed h.own.m.f hu i b
  exact KIn.setF (f' := y.m.f) h S.2 (fun b hb => sub_left [y.m.f.u] _ b hb) S.1 (fun b hb => .inl hb) rfl rfl
theorem KOwn.newF {B' g : Nat} {y : KV} {K : Ker} {z : FV} {F : Frm} (h : KOwn B w y K) (hz : FOwn B' w z F) (hB : B ≤ B') (hy : ∀ b ∈ blocks y.all, b < g) (hz' : ∀ b ∈ blocks z.all, g < b) : KOwn B w ⟨⟨z, y.m.e⟩, y.r⟩ (withF K F) ∧ g ∉ blocks (KV.mk ⟨z, y.m.e⟩ y.r).all := by
  refine ⟨KOwn.setF h (Touch.refl [] w) (by simp) (hz.mono hB) fun b hb => .inr fun hm => by have := hy b hm; have := hz' b hb; omega, fun hm => ?_⟩
  rw [show (KV.mk ⟨z, y.m.e⟩ y.r).all = [y.r] ++ ([y.m.e] ++ z.all) from rfl, blocks_append, blocks_append, List.mem_append, List.mem_append] at hm
  rcases hm with hm | hm | hm
  · have := hy g (sub_left [y.r] _ g hm); omega
  · have := hy g (sub_right [y.r] _ g (sub_left [y.m.e] _ g hm)); omega
  · have := hz' g hm; omega
theorem neUE {b n c b' n' c' : Nat} {y : KV} {K : Ker} (h : KOwn B w y K) (hu : y.m.f.u = .slice (some ⟨b, 0, none⟩) n c) (he : y.m.e = .slice (some ⟨b', 0, none⟩) n' c') : b ≠ b' ∧ b' ≠ b := by
  have : b' ≠ b := fun e => nodup_apart (l := [y.m.e]) h.m.nd b' (mem_one (Own.mem he)) (sub_left [y.m.f.u] _ b' (mem_one (by rw [e]; exact Own.mem hu)))
  exact ⟨this.symm, this⟩
end
theorem s_l05Free (c : Value) (v : Value) (us : List Bool) (w : World) (ha : BoolsAt w v us) : Calls Try.prog 82 #[.agg #[c, v]] w fun e w' => e = .returned (.int .i64 (freeIx us)) ∧ Below w.heap.size w w' := by
  obtain ⟨uo, uc, rfl, h1, h2, hur⟩ := BoolsAt.open ha
  have hm1 : us.length ≤ 9223372036854775807 := by unfold maxLen at h2; omega
  have HU := Lib.hid hur
  clear ha h1 h2 hur
  (have hall := all_nil w; go_enter Try.func82, Try.ntmps82)
  go_wp2
  go_loop [3] (fun i => ∃ k : Nat, k ≤ us.length ∧ i = .int .i64 k ∧ allTo (fun j => us.getD j false) k = true) (fun i => us.length - (intOf i).toNat)
  case atStart => exact ⟨0, Nat.zero_le _, rfl, rfl⟩
  case round =>
    obtain ⟨k, hk, rfl, hall2⟩ := hrel
    have HA := Lib.hid hall2; clear hall2
    by_cases hlt : k < us.length
    · have hlt' : (k : Int) < us.length := by omega
      obtain ⟨uk, huk⟩ := getx hlt
      obtain ⟨gu, ou, rfl, hgu, hcu⟩ := HU.out k uk huk
      have HK := Lib.hid huk
      clear huk
      cases uk
      · go_wp2
        go_ret
        exact ⟨ret_int (freeIx_at HA.out HK.out).symm, by exact bel⟩
      · go_wp2
        go_round
        case rel => exact ⟨k + 1, by omega, by go_num, by rw [allTo, HA.out, getD_of HK.out]; rfl⟩
        case measure => simp [intOf]; omega
    · have hlt' : ¬ (k : Int) < us.length := by omega
      obtain rfl : k = us.length := by omega
      go_wp2
      go_ret
      exact ⟨ret_int (freeIx_none HA.out).symm, by exact bel⟩


end Go.Proofs.Ytkkebpcclklmcaa
