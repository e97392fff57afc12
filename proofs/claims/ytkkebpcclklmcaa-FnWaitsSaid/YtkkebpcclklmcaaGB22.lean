/-
  Texts put together: KLoad.
-/
import Derived.Test.YtkkebpcclklmcaaGB18
import Derived.Test.YtkkebpcclklmcaaGB21
/-
  A cell of a machine is read at its address; is a slot clear?
-/
set_option linter.unusedVariables false
set_option linter.unusedSimpArgs false
namespace Go.Proofs.Ytkkebpcclklmcaa
open Go.RowKit
def entAt (M : Mac) (a : Int) : Ent := if (decide (0 ≤ a) && machineOk M) = true then pageEntry M.ents (a / 16) else ⟨0, 0⟩
def entA (M : Mac) (a : Int) : Ent := if a < 0 then ⟨0, 0⟩ else pageEntry M.ents (a / 16)
def loadOkB (M : Mac) (a : Int) : Bool := decide (0 ≤ a) && machineOk M && mappedB M.ents (a / 16)
def loadV (M : Mac) (a : Int) : Int := if loadOkB M a then (M.f.cells.getD (pageEntry M.ents (a / 16)).f.toNat []).getD (a % 16).toNat 0 else 0
def loadF (M : Mac) (a : Int) : Int := if loadOkB M a then 0 else 1
theorem loadV_no {M : Mac} {a : Int} (h : loadOkB M a = false) : loadV M a = 0 := by unfold loadV; rw [h]; rfl
theorem loadF_no {M : Mac} {a : Int} (h : loadOkB M a = false) : loadF M a = 1 := by unfold loadF; rw [h]; rfl
theorem entAt_in {M : Mac} {a : Int} (h : 0 ≤ a) (hm : machineOk M = true) : entAt M a = pageEntry M.ents (a / 16) := by unfold entAt; rw [hm, decide_eq_true h]; rfl
theorem entA_in {M : Mac} {a : Int} (h : 0 ≤ a) : entA M a = pageEntry M.ents (a / 16) := by unfold entA; rw [if_neg (by omega)]
theorem entAt_zero {M : Mac} {a : Int} (h : loadOkB M a = false) : entAt M a = ⟨0, (entAt M a).f⟩ := by
  have h0 : (entAt M a).m = 0 := by
    unfold loadOkB at h
    unfold entAt
    cases hd : (decide (0 ≤ a) && machineOk M) with
    | false => rfl
    | true => rw [hd, Bool.true_and] at h; rw [if_pos rfl]; exact mapped_not h
  rw [← h0]
theorem entA_zero {M : Mac} {a : Int} (h : loadOkB M a = false) (hm : machineOk M = true) : (entA M a).m = 0 := by
  unfold loadOkB at h
  unfold entA
  by_cases h0 : a < 0
  · rw [if_pos h0]
  · rw [if_neg h0]; rw [hm, decide_eq_true (by omega), Bool.true_and, Bool.true_and] at h; exact mapped_not h
/-- Where a mapped page lies. -/
theorem mapped_mac {M : Mac} {p : Int} (h : machineOk M = true) (hm : mappedB M.ents p = true) : ∃ (em : Int) (fr : Nat), pageEntry M.ents p = ⟨em, fr⟩ ∧ (em == 0) = false ∧ fr < M.f.used.length ∧ fr < M.f.cells.length ∧ (M.f.cells.getD fr []).length = 16 := by
  obtain ⟨k, en, rfl, hen, hpe⟩ := mapped_in hm
  unfold machineOk at h
  simp only [Bool.and_eq_true] at h
  have ht := h.1.2
  have hf := h.1.1
  unfold tableOk at ht
  unfold framesOk at hf
  simp only [Bool.and_eq_true, beq_iff_eq] at ht hf
  have he := allTo_iff.1 ht.1 k (getx_lt hen)
  rw [getD_of hen] at he
  have hm' : (en.m != 0) = true := by unfold mappedB at hm; rw [hpe] at hm; exact hm
  unfold entOk at he
  simp only [Bool.and_eq_true, Bool.not_eq_true', Bool.and_eq_false_iff, decide_eq_true_eq, decide_eq_false_iff_not, between_iff] at he
  obtain ⟨m, f⟩ := en
  dsimp only at *
  have hf1 : f < M.f.used.length := by
    rcases he.2 with h5 | h5
    · rw [hm'] at h5; cases h5
    · omega
  obtain ⟨fr, rfl⟩ := Int.eq_ofNat_of_zero_le he.1.1.2
  have hfl : fr < M.f.cells.length := by omega
  have hr := allTo_iff.1 hf.2 fr hfl
  unfold rowOk at hr
  simp only [Bool.and_eq_true, beq_iff_eq] at hr
  exact ⟨m, fr, hpe, by simpa using hm', by omega, hfl, hr.1⟩
theorem load_in {M : Mac} {a : Int} (h : loadOkB M a = true) : ∃ (em : Int) (fr d : Nat) (r : List Int) (z : Int), 0 ≤ a ∧ a % 16 = d ∧ d < 16 ∧ pageEntry M.ents (a / 16) = ⟨em, fr⟩ ∧ (em == 0) = false ∧ M.f.cells[fr]? = some r ∧ r.length = 16 ∧ r[d]? = some z ∧ loadV M a = z ∧ loadF M a = 0 ∧ machineOk M = true := by
  have h0 := h
  unfold loadOkB at h
  simp only [Bool.and_eq_true, decide_eq_true_eq] at h
  obtain ⟨em, fr, hpe, hem, -, hfc, h16⟩ := mapped_mac h.1.2 h.2
  obtain ⟨d, hd⟩ := Int.eq_ofNat_of_zero_le (show 0 ≤ a % 16 by omega)
  have hd16 : d < 16 := by omega
  obtain ⟨r, hr⟩ := getx hfc
  rw [getD_of hr] at h16
  obtain ⟨z, hz⟩ := getx (xs := r) (k := d) (by omega)
  refine ⟨em, fr, d, r, z, h.1.1, hd, hd16, hpe, hem, hr, h16, hz, ?_, by unfold loadF; rw [h0]; rfl, h.1.2⟩
  unfold loadV
  rw [h0, if_pos rfl, hpe, hd, Int.toNat_natCast, Int.toNat_natCast, getD_of hr, getD_of hz]
def clearTo (M : Mac) (a : Int) : Nat → Bool
  | 0 => true
  | k + 1 => clearTo M a k && ((loadV M (a + k) == 0) && (loadF M (a + k) == 0))
theorem clearTo_not {M : Mac} {a : Int} {j n : Nat} (h : j < n) (hb : ((loadV M (a + j) == 0) && (loadF M (a + j) == 0)) = false) : clearTo M a n = false := by
  induction n with
  | zero => omega
  | succ n ih =>
    rw [clearTo]
    rcases Nat.lt_or_ge j n with h1 | h1
    · rw [ih h1]; rfl
    · obtain rfl : j = n := by omega
      rw [hb, Bool.and_false]
def slotClear (K : Ker) (p c b slot : Int) : Bool := decide (0 ≤ spanAddr p c b slot) && clearTo K.m (spanAddr p c b slot) (classSize c).toNat
theorem spanAddr_le (p c b slot : Int) : spanAddr p c b slot ≤ 10000 := by
  unfold spanAddr
  split
  · rename_i h
    simp only [Bool.and_eq_true] at h
    have hs := spanOk_parts h.1
    have hz := classSize_bound c
    have hn := slotsOf_bound c
    have hb := between_iff.1 h.2
    have h1 : slot * classSize c ≤ 16 * 8 := Int.mul_le_mul (by omega) hz.2 hz.1 (by omega)
    omega
  · omega
set_option maxRecDepth 20000 in
theorem i_entryAt (x : MV) (M : Mac) (a : Int) (ha9 : a ≤ 9223372036854775807) (w : World) (ha : MAt w x M) : Calls Try.prog 43 #[x.val, .int .i64 a] w fun e w' => e = .returned (.agg #[.int .i64 (entAt M a).m, .int .i64 (entAt M a).f]) ∧ Below w.heap.size w w' := by
  have HA := Lib.hid ha
  simp only [MV.val]
  clear ha
  by_cases h0 : a < 0
  · have e : entAt M a = ⟨0, 0⟩ := by unfold entAt; rw [if_neg (by simp; omega)]
    rw [e]; clear e
    (have hall := all_nil w; go_enter Try.func43, Try.ntmps43)
    go_wp2
    (refine bodyPost_ret (v := .agg #[.int .i64 0, .int .i64 0]) (by simp [results, Try.results43, go_sem]) rfl ⟨rfl, ?_⟩; exact bel)
  · have hd : decide (a < 0) = false := by simpa using h0
    have hge : 0 ≤ a := by omega
    cases h1 : machineOk M
    · have HM := Lib.hid h1
      have e : entAt M a = ⟨0, 0⟩ := by unfold entAt; rw [if_neg (by rw [h1]; simp)]
      rw [e]; clear e
      (have hall := all_nil w; go_enter Try.func43, Try.ntmps43)
      go_wp2_with ((go_at_call 45; (refine (i_MachineOk x M _ HM.out _ (HA.out.below (by exact bel))).mono ?_; rintro e w2 ⟨rfl, hb⟩; have HB1 := Lib.hid hb; obtain ⟨kwa_0_0, kwa_0_1, kwa_0_2⟩ := kp3 hb (w.heap.size) (x.f.c) (x.f.u) (x.e); obtain ⟨kwa_1_0, fwa_1_0, kwa_1_1, fwa_1_1⟩ := kf2 hb (w.heap.size + 1) (.int .i64 0) (.int .i64 0); have xwa_0 : w.heap.size < w2.heap.size := xc hb; have xwa_1 : w.heap.size + 1 < w2.heap.size := xc hb; have hzwa := hb.size; (try simp only [World.size_alloc, World.size_setCell, World.size_drew] at hzwa); obtain ⟨wa, rfl⟩ : ∃ x, x = w2 := ⟨_, rfl⟩)))
      refine bodyPost_ret (v := .agg #[.int .i64 0, .int .i64 0]) (by simp [results, Try.results43, go_sem, kwa_1_0, fwa_1_0, kwa_1_1, fwa_1_1, xwa_1]) rfl ⟨?_, by exact bel⟩
      rfl
    · have HM := Lib.hid h1
      have e : entAt M a = pageEntry M.ents (a / 16) := by unfold entAt; rw [if_pos (by rw [h1]; simp; omega)]
      rw [e]; clear e
      obtain ⟨q, hq⟩ : ∃ q, q = pageEntry M.ents (a / 16) := ⟨_, rfl⟩
      have HQ := Lib.hid hq.symm
      rw [← hq]
      obtain ⟨qm, qf⟩ := q
      clear hq
      (have hall := all_nil w; go_enter Try.func43, Try.ntmps43)
      go_wp2_with (first | (go_at_call 45; (refine (i_MachineOk x M _ HM.out _ (HA.out.below (by exact bel))).mono ?_; rintro e w2 ⟨rfl, hb⟩; have HB1 := Lib.hid hb; obtain ⟨kwa_0_0, kwa_0_1, kwa_0_2⟩ := kp3 hb (w.heap.size) (x.f.c) (x.f.u) (x.e); obtain ⟨kwa_1_0, fwa_1_0, kwa_1_1, fwa_1_1⟩ := kf2 hb (w.heap.size + 1) (.int .i64 0) (.int .i64 0); have xwa_0 : w.heap.size < w2.heap.size := xc hb; have xwa_1 : w.heap.size + 1 < w2.heap.size := xc hb; have hzwa := hb.size; (try simp only [World.size_alloc, World.size_setCell, World.size_drew] at hzwa); obtain ⟨wa, rfl⟩ : ∃ x, x = w2 := ⟨_, rfl⟩)) | (go_at_call 50; (refine (i_PageEntry _ M.ents _ _ (SlAt.below HA.out.ents (by exact bel))).mono ?_; rintro e w2 ⟨rfl, hb⟩; rw [HQ.out]; have HB2 := Lib.hid hb; obtain ⟨kwb_0_0, kwb_0_1, kwb_0_2⟩ := kp3 hb (w.heap.size) (x.f.c) (x.f.u) (x.e); obtain ⟨kwb_1_0, fwb_1_0, kwb_1_1, fwb_1_1⟩ := kf2 hb (w.heap.size + 1) (.int .i64 0) (.int .i64 0); have xwb_0 : w.heap.size < w2.heap.size := xc hb; have xwb_1 : w.heap.size + 1 < w2.heap.size := xc hb; have hzwb := hb.size; (try simp only [World.size_alloc, World.size_setCell, World.size_drew] at hzwb); obtain ⟨wb, rfl⟩ : ∃ x, x = w2 := ⟨_, rfl⟩)))
      refine bodyPost_ret (v := .agg #[.int .i64 qm, .int .i64 qf]) (by simp [results, Try.results43, go_sem, kwb_1_0, fwb_1_0, kwb_1_1, fwb_1_1, xwb_1]) rfl ⟨?_, by exact bel⟩
      rfl

set_option maxRecDepth 20000 in
theorem s_l07Entry (x : MV) (M : Mac) (a : Int) (ha9 : a ≤ 9223372036854775807) (w : World) (ha : MAt w x M) : Calls Try.prog 41 #[x.val, .int .i64 a] w fun e w' => e = .returned (.tuple #[.agg #[.int .i64 (entA M a).m, .int .i64 (entA M a).f], .int .i64 (if a < 0 then 0 else a % 16)]) ∧ Below w.heap.size w w' := by
  have HA := Lib.hid ha
  simp only [MV.val]
  clear ha
  by_cases h0 : a < 0
  · have e : entA M a = ⟨0, 0⟩ := by unfold entA; rw [if_pos h0]
    rw [e, if_pos h0]; clear e
    (have hall := all_nil w; go_enter Try.func41, Try.ntmps41)
    go_wp2
    (refine bodyPost_ret (v := .tuple #[.agg #[.int .i64 0, .int .i64 0], .int .i64 0]) (by simp [results, Try.results41, go_sem]) rfl ⟨rfl, ?_⟩; exact bel)
  · have hge : 0 ≤ a := by omega
    have e : entA M a = pageEntry M.ents (a / 16) := by unfold entA; rw [if_neg h0]
    rw [e, if_neg h0]; clear e
    obtain ⟨q, hq⟩ : ∃ q, q = pageEntry M.ents (a / 16) := ⟨_, rfl⟩
    have HQ := Lib.hid hq.symm
    rw [← hq]
    obtain ⟨qm, qf⟩ := q
    clear hq
    (have hall := all_nil w; go_enter Try.func41, Try.ntmps41)
    go_wp2_with ((go_at_call 18; (refine (s_PageEntry _ M.ents _ _ (SlAt.below HA.out.ents (by exact bel))).mono ?_; rintro e w2 ⟨rfl, hb⟩; rw [HQ.out]; have HB2 := Lib.hid hb; obtain ⟨kwb_0_0, kwb_0_1, kwb_0_2⟩ := kp3 hb (w.heap.size) (x.f.c) (x.f.u) (x.e); obtain ⟨kwb_1_0, fwb_1_0, kwb_1_1, fwb_1_1⟩ := kf2 hb (w.heap.size + 1) (.int .i64 0) (.int .i64 0); have xwb_0 : w.heap.size < w2.heap.size := xc hb; have xwb_1 : w.heap.size + 1 < w2.heap.size := xc hb; have hzwb := hb.size; (try simp only [World.size_alloc, World.size_setCell, World.size_drew] at hzwb); obtain ⟨wb, rfl⟩ : ∃ x, x = w2 := ⟨_, rfl⟩)))
    refine bodyPost_ret (v := .tuple #[.agg #[.int .i64 qm, .int .i64 qf], .int .i64 (a % 16)]) (by simp [results, Try.results41, go_sem, kwb_1_0, fwb_1_0, kwb_1_1, fwb_1_1, xwb_1]) rfl ⟨?_, by exact bel⟩
    rfl

set_option maxRecDepth 20000 in
set_option maxHeartbeats 800000 in
theorem i_Load (x : MV) (M : Mac) (a : Int) (ha9 : a ≤ 9223372036854775807) (w : World) (ha : MAt w x M) : Calls Try.prog 14 #[x.val, .int .i64 a] w fun e w' => e = .returned (.tuple #[.int .i64 (loadV M a), .int .i64 (loadF M a)]) ∧ Below w.heap.size w w' := by
  obtain ⟨⟨xc, xu, xvs⟩, xe⟩ := x
  obtain ⟨co, cc, hc, _, hcm⟩ := RowsAt.shape ha.f.rows
  dsimp only at hc
  subst hc
  have HA := Lib.hid ha
  simp only [MV.val]
  have hcl : M.f.cells.length ≤ 9223372036854775807 := by unfold maxLen at hcm; omega
  clear ha hcm
  cases hl : loadOkB M a
  · have hq := entAt_zero hl
    obtain ⟨qf, hqf⟩ : ∃ qf, qf = (entAt M a).f := ⟨_, rfl⟩
    rw [← hqf] at hq
    have HQ := Lib.hid hq
    clear hq hqf
    rw [loadV_no hl, loadF_no hl]
    (have hall := all_nil w; go_enter Try.func14, Try.ntmps14)
    go_wp2_with ((go_at_call 43; (refine (i_entryAt (⟨⟨.slice co M.f.cells.length cc, xu, xvs⟩, xe⟩ : MV) M a ha9 _ (HA.out.below (by exact bel))).mono ?_; rintro e w2 ⟨rfl, hb⟩; rw [HQ.out]; have HB1 := Lib.hid hb; obtain ⟨kwa_0_0, kwa_0_1, kwa_0_2⟩ := kp3 hb (w.heap.size) (.slice co M.f.cells.length cc) (xu) (xe); have xwa_0 : w.heap.size < w2.heap.size := xc hb; have hzwa := hb.size; (try simp only [World.size_alloc, World.size_setCell, World.size_drew] at hzwa); obtain ⟨wa, rfl⟩ : ∃ x, x = w2 := ⟨_, rfl⟩)))
    go_ret2
    exact ⟨rfl, by exact bel⟩
  · obtain ⟨em, fr, d, r, z, h0a, hd, hd16, hpe, hem, hr, hr16, hz, hv, hf, hM⟩ := load_in hl
    rw [hv, hf]
    have h0 : ¬ a < 0 := by omega
    have HM := Lib.hid hM
    have HQ : Hid (entAt M a = ⟨em, fr⟩) := by unfold Hid; rw [← hpe]; exact entAt_in h0a hM
    obtain ⟨g, o, ro', rl, rc, r', cap, he, hg, hr', hrl, -, hcc, -, hat⟩ := rowAt HA.out.f.rows (getx_lt hr)
    obtain rfl : r' = r := by rw [hr] at hr'; exact (Option.some.inj hr').symm
    simp only [Value.slice.injEq] at he
    obtain ⟨rfl, -, rfl⟩ := he
    obtain ⟨_, _, hro, -, -, hrd⟩ := IntsAt.open hat
    obtain ⟨gr, ro, hgo, hgr, hcd⟩ := hrd d z hz
    simp only [Value.slice.injEq] at hro
    rw [hgo] at hro
    obtain ⟨rfl, -, rfl⟩ := hro
    rw [hrl, hr16] at hcc
    have hfl : (fr : Int) < M.f.cells.length := by have := getx_lt hr; omega
    have hd16' : (d : Int) < 16 := by omega
    clear hl hpe hr hz hv hf hM hr' hrl hat hrd hgo hr16
    (have hall := all_nil w; go_enter Try.func14, Try.ntmps14)
    go_wp2_with ((go_at_call 43; (refine (i_entryAt (⟨⟨.slice (some ⟨g, o, none⟩) M.f.cells.length cc, xu, xvs⟩, xe⟩ : MV) M a ha9 _ (HA.out.below (by exact bel))).mono ?_; rintro e w2 ⟨rfl, hb⟩; rw [HQ.out]; have HB1 := Lib.hid hb; obtain ⟨kwa_0_0, kwa_0_1, kwa_0_2⟩ := kp3 hb (w.heap.size) (.slice (some ⟨g, o, none⟩) M.f.cells.length cc) (xu) (xe); have kwa_R0 : w2.cell? ⟨g, o + fr, none⟩ = some (.slice (some ⟨gr, ro, none⟩) 16 rc) := kc hb; have kwa_R1 : w2.cell? ⟨gr, ro + d, none⟩ = some (.int .i64 z) := kc hb; have xwa_0 : w.heap.size < w2.heap.size := xc hb; have xwa_RG : g < w2.heap.size := xc hb; have xwa_RR : gr < w2.heap.size := xc hb; have hzwa := hb.size; (try simp only [World.size_alloc, World.size_setCell, World.size_drew] at hzwa); obtain ⟨wa, rfl⟩ : ∃ x, x = w2 := ⟨_, rfl⟩)))
    skip
    go_ret2
    exact ⟨rfl, by exact bel⟩

set_option maxRecDepth 20000 in
set_option maxHeartbeats 800000 in
theorem s_Load (x : MV) (M : Mac) (a : Int) (ha9 : a ≤ 9223372036854775807) (w : World) (ha : MAt w x M) : Calls Try.prog 13 #[x.val, .int .i64 a] w fun e w' => e = .returned (.tuple #[.int .i64 (loadV M a), .int .i64 (loadF M a)]) ∧ Below w.heap.size w w' := by
  obtain ⟨⟨xc, xu, xvs⟩, xe⟩ := x
  obtain ⟨co, cc, hc, _, hcm⟩ := RowsAt.shape ha.f.rows
  dsimp only at hc
  subst hc
  have HA := Lib.hid ha
  simp only [MV.val]
  have hcl : M.f.cells.length ≤ 9223372036854775807 := by unfold maxLen at hcm; omega
  clear ha hcm
  cases hl : loadOkB M a
  · obtain ⟨q, hq⟩ : ∃ q, q = entA M a := ⟨_, rfl⟩
    obtain ⟨qm, qf⟩ := q
    have HQ := Lib.hid hq.symm
    cases hM : machineOk M
    · have HM := Lib.hid hM
      by_cases h0 : a < 0
      · have h0' : 0 ≤ a ∨ a < 0 := .inr h0
        skip
        rw [loadV_no hl, loadF_no hl]
        (have hall := all_nil w; go_enter Try.func13, Try.ntmps13)
        go_wp2_with (first | (go_at_call 41; (refine (s_l07Entry (⟨⟨.slice co M.f.cells.length cc, xu, xvs⟩, xe⟩ : MV) M a ha9 _ (HA.out.below (by exact bel))).mono ?_; rintro e w2 ⟨rfl, hb⟩; rw [HQ.out]; (try rw [if_neg h0]); (try rw [if_pos h0]); have HB1 := Lib.hid hb; obtain ⟨kwa_0_0, kwa_0_1, kwa_0_2⟩ := kp3 hb (w.heap.size) (.slice co M.f.cells.length cc) (xu) (xe); have xwa_0 : w.heap.size < w2.heap.size := xc hb; have hzwa := hb.size; (try simp only [World.size_alloc, World.size_setCell, World.size_drew] at hzwa); obtain ⟨wa, rfl⟩ : ∃ x, x = w2 := ⟨_, rfl⟩)) | (go_at_call 42; (refine (s_MachineOk (⟨⟨.slice co M.f.cells.length cc, xu, xvs⟩, xe⟩ : MV) M _ HM.out _ (HA.out.below (by exact bel))).mono ?_; rintro e w2 ⟨rfl, hb⟩; have HB2 := Lib.hid hb; obtain ⟨kwb_0_0, kwb_0_1, kwb_0_2⟩ := kp3 hb (w.heap.size) (.slice co M.f.cells.length cc) (xu) (xe); obtain ⟨kwb_E_0, kwb_E_1⟩ := kp2 hb (wa.heap.size) (.int .i64 qm) (.int .i64 qf); have xwb_0 : w.heap.size < w2.heap.size := xc hb; have xwb_E : wa.heap.size < w2.heap.size := xc hb; have hzwb := hb.size; (try simp only [World.size_alloc, World.size_setCell, World.size_drew] at hzwb); obtain ⟨wb, rfl⟩ : ∃ x, x = w2 := ⟨_, rfl⟩)))
        go_ret2
        exact ⟨rfl, by exact bel⟩
      · skip
        rw [loadV_no hl, loadF_no hl]
        (have hall := all_nil w; go_enter Try.func13, Try.ntmps13)
        go_wp2_with (first | (go_at_call 41; (refine (s_l07Entry (⟨⟨.slice co M.f.cells.length cc, xu, xvs⟩, xe⟩ : MV) M a ha9 _ (HA.out.below (by exact bel))).mono ?_; rintro e w2 ⟨rfl, hb⟩; rw [HQ.out]; (try rw [if_neg h0]); (try rw [if_pos h0]); have HB1 := Lib.hid hb; obtain ⟨kwa_0_0, kwa_0_1, kwa_0_2⟩ := kp3 hb (w.heap.size) (.slice co M.f.cells.length cc) (xu) (xe); have xwa_0 : w.heap.size < w2.heap.size := xc hb; have hzwa := hb.size; (try simp only [World.size_alloc, World.size_setCell, World.size_drew] at hzwa); obtain ⟨wa, rfl⟩ : ∃ x, x = w2 := ⟨_, rfl⟩)) | (go_at_call 42; (refine (s_MachineOk (⟨⟨.slice co M.f.cells.length cc, xu, xvs⟩, xe⟩ : MV) M _ HM.out _ (HA.out.below (by exact bel))).mono ?_; rintro e w2 ⟨rfl, hb⟩; have HB2 := Lib.hid hb; obtain ⟨kwb_0_0, kwb_0_1, kwb_0_2⟩ := kp3 hb (w.heap.size) (.slice co M.f.cells.length cc) (xu) (xe); obtain ⟨kwb_E_0, kwb_E_1⟩ := kp2 hb (wa.heap.size) (.int .i64 qm) (.int .i64 qf); have xwb_0 : w.heap.size < w2.heap.size := xc hb; have xwb_E : wa.heap.size < w2.heap.size := xc hb; have hzwb := hb.size; (try simp only [World.size_alloc, World.size_setCell, World.size_drew] at hzwb); obtain ⟨wb, rfl⟩ : ∃ x, x = w2 := ⟨_, rfl⟩)))
        go_ret2
        exact ⟨rfl, by exact bel⟩
    · have HM := Lib.hid hM
      have hz := entA_zero hl hM
      rw [← hq] at hz
      dsimp only at hz
      subst hz
      by_cases h0 : a < 0
      · skip
        rw [loadV_no hl, loadF_no hl]
        (have hall := all_nil w; go_enter Try.func13, Try.ntmps13)
        go_wp2_with (first | (go_at_call 41; (refine (s_l07Entry (⟨⟨.slice co M.f.cells.length cc, xu, xvs⟩, xe⟩ : MV) M a ha9 _ (HA.out.below (by exact bel))).mono ?_; rintro e w2 ⟨rfl, hb⟩; rw [HQ.out]; (try rw [if_neg h0]); (try rw [if_pos h0]); have HB1 := Lib.hid hb; obtain ⟨kwa_0_0, kwa_0_1, kwa_0_2⟩ := kp3 hb (w.heap.size) (.slice co M.f.cells.length cc) (xu) (xe); have xwa_0 : w.heap.size < w2.heap.size := xc hb; have hzwa := hb.size; (try simp only [World.size_alloc, World.size_setCell, World.size_drew] at hzwa); obtain ⟨wa, rfl⟩ : ∃ x, x = w2 := ⟨_, rfl⟩)) | (go_at_call 42; (refine (s_MachineOk (⟨⟨.slice co M.f.cells.length cc, xu, xvs⟩, xe⟩ : MV) M _ HM.out _ (HA.out.below (by exact bel))).mono ?_; rintro e w2 ⟨rfl, hb⟩; have HB2 := Lib.hid hb; obtain ⟨kwb_0_0, kwb_0_1, kwb_0_2⟩ := kp3 hb (w.heap.size) (.slice co M.f.cells.length cc) (xu) (xe); obtain ⟨kwb_E_0, kwb_E_1⟩ := kp2 hb (wa.heap.size) (.int .i64 0) (.int .i64 qf); have xwb_0 : w.heap.size < w2.heap.size := xc hb; have xwb_E : wa.heap.size < w2.heap.size := xc hb; have hzwb := hb.size; (try simp only [World.size_alloc, World.size_setCell, World.size_drew] at hzwb); obtain ⟨wb, rfl⟩ : ∃ x, x = w2 := ⟨_, rfl⟩)))
        go_ret2
        exact ⟨rfl, by exact bel⟩
      · skip
        rw [loadV_no hl, loadF_no hl]
        (have hall := all_nil w; go_enter Try.func13, Try.ntmps13)
        go_wp2_with (first | (go_at_call 41; (refine (s_l07Entry (⟨⟨.slice co M.f.cells.length cc, xu, xvs⟩, xe⟩ : MV) M a ha9 _ (HA.out.below (by exact bel))).mono ?_; rintro e w2 ⟨rfl, hb⟩; rw [HQ.out]; (try rw [if_neg h0]); (try rw [if_pos h0]); have HB1 := Lib.hid hb; obtain ⟨kwa_0_0, kwa_0_1, kwa_0_2⟩ := kp3 hb (w.heap.size) (.slice co M.f.cells.length cc) (xu) (xe); have xwa_0 : w.heap.size < w2.heap.size := xc hb; have hzwa := hb.size; (try simp only [World.size_alloc, World.size_setCell, World.size_drew] at hzwa); obtain ⟨wa, rfl⟩ : ∃ x, x = w2 := ⟨_, rfl⟩)) | (go_at_call 42; (refine (s_MachineOk (⟨⟨.slice co M.f.cells.length cc, xu, xvs⟩, xe⟩ : MV) M _ HM.out _ (HA.out.below (by exact bel))).mono ?_; rintro e w2 ⟨rfl, hb⟩; have HB2 := Lib.hid hb; obtain ⟨kwb_0_0, kwb_0_1, kwb_0_2⟩ := kp3 hb (w.heap.size) (.slice co M.f.cells.length cc) (xu) (xe); obtain ⟨kwb_E_0, kwb_E_1⟩ := kp2 hb (wa.heap.size) (.int .i64 0) (.int .i64 qf); have xwb_0 : w.heap.size < w2.heap.size := xc hb; have xwb_E : wa.heap.size < w2.heap.size := xc hb; have hzwb := hb.size; (try simp only [World.size_alloc, World.size_setCell, World.size_drew] at hzwb); obtain ⟨wb, rfl⟩ : ∃ x, x = w2 := ⟨_, rfl⟩)))
        go_ret2
        exact ⟨rfl, by exact bel⟩
  · obtain ⟨em, fr, d, r, z, h0a, hd, hd16, hpe, hem, hr, hr16, hz, hv, hf, hM⟩ := load_in hl
    rw [hv, hf]
    have h0 : ¬ a < 0 := by omega
    have HM := Lib.hid hM
    have HQ : Hid (entA M a = ⟨em, fr⟩) := by unfold Hid; rw [← hpe]; exact entA_in h0a
    obtain ⟨g, o, ro', rl, rc, r', cap, he, hg, hr', hrl, -, hcc, -, hat⟩ := rowAt HA.out.f.rows (getx_lt hr)
    obtain rfl : r' = r := by rw [hr] at hr'; exact (Option.some.inj hr').symm
    simp only [Value.slice.injEq] at he
    obtain ⟨rfl, -, rfl⟩ := he
    obtain ⟨_, _, hro, -, -, hrd⟩ := IntsAt.open hat
    obtain ⟨gr, ro, hgo, hgr, hcd⟩ := hrd d z hz
    simp only [Value.slice.injEq] at hro
    rw [hgo] at hro
    obtain ⟨rfl, -, rfl⟩ := hro
    rw [hrl, hr16] at hcc
    have hfl : (fr : Int) < M.f.cells.length := by have := getx_lt hr; omega
    have hd16' : (d : Int) < 16 := by omega
    clear hl hpe hr hz hv hf hM hr' hrl hat hrd hgo hr16
    (have hall := all_nil w; go_enter Try.func13, Try.ntmps13)
    go_wp2_with (first | (go_at_call 41; (refine (s_l07Entry (⟨⟨.slice (some ⟨g, o, none⟩) M.f.cells.length cc, xu, xvs⟩, xe⟩ : MV) M a ha9 _ (HA.out.below (by exact bel))).mono ?_; rintro e w2 ⟨rfl, hb⟩; rw [HQ.out]; (try rw [if_neg h0]); (try rw [if_pos h0]); have HB1 := Lib.hid hb; obtain ⟨kwa_0_0, kwa_0_1, kwa_0_2⟩ := kp3 hb (w.heap.size) (.slice (some ⟨g, o, none⟩) M.f.cells.length cc) (xu) (xe); have kwa_R0 : w2.cell? ⟨g, o + fr, none⟩ = some (.slice (some ⟨gr, ro, none⟩) 16 rc) := kc hb; have kwa_R1 : w2.cell? ⟨gr, ro + d, none⟩ = some (.int .i64 z) := kc hb; have xwa_0 : w.heap.size < w2.heap.size := xc hb; have xwa_RG : g < w2.heap.size := xc hb; have xwa_RR : gr < w2.heap.size := xc hb; have hzwa := hb.size; (try simp only [World.size_alloc, World.size_setCell, World.size_drew] at hzwa); obtain ⟨wa, rfl⟩ : ∃ x, x = w2 := ⟨_, rfl⟩)) | (go_at_call 42; (refine (s_MachineOk (⟨⟨.slice (some ⟨g, o, none⟩) M.f.cells.length cc, xu, xvs⟩, xe⟩ : MV) M _ HM.out _ (HA.out.below (by exact bel))).mono ?_; rintro e w2 ⟨rfl, hb⟩; have HB2 := Lib.hid hb; obtain ⟨kwb_0_0, kwb_0_1, kwb_0_2⟩ := kp3 hb (w.heap.size) (.slice (some ⟨g, o, none⟩) M.f.cells.length cc) (xu) (xe); have kwb_R0 : w2.cell? ⟨g, o + fr, none⟩ = some (.slice (some ⟨gr, ro, none⟩) 16 rc) := kc hb; have kwb_R1 : w2.cell? ⟨gr, ro + d, none⟩ = some (.int .i64 z) := kc hb; obtain ⟨kwb_E_0, kwb_E_1⟩ := kp2 hb (wa.heap.size) (.int .i64 em) (.int .i64 fr); have xwb_0 : w.heap.size < w2.heap.size := xc hb; have xwb_RG : g < w2.heap.size := xc hb; have xwb_RR : gr < w2.heap.size := xc hb; have xwb_E : wa.heap.size < w2.heap.size := xc hb; have hzwb := hb.size; (try simp only [World.size_alloc, World.size_setCell, World.size_drew] at hzwb); obtain ⟨wb, rfl⟩ : ∃ x, x = w2 := ⟨_, rfl⟩)))
    skip
    go_ret2
    exact ⟨rfl, by exact bel⟩



end Go.Proofs.Ytkkebpcclklmcaa
