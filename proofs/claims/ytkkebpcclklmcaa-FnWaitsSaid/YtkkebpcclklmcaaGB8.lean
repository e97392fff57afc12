/-
  Texts put together: Plan.
-/
import Derived.Test.YtkkebpcclklmcaaGB7
/-
  Plans: the laws' functions, are they valid?
-/
set_option linter.unusedVariables false
set_option linter.unusedSimpArgs false
namespace Go.Proofs.Ytkkebpcclklmcaa
open Go.RowKit
theorem wrapI (n : Int) : IntKind.i64.wrap n = wrap64 n := by rw [IntKind.wrap_i64]; unfold wrap64; rfl
def prevOf (cs : List Int) (k : Nat) : Int := cs.getD (k - 1) 0
def cellOkP (k : Nat) (p x : Int) : Bool := between x 0 15 && !(decide (0 < (k : Int)) && decide (x ≤ p))
def plOk (cs : List Int) (k : Nat) : Bool := allTo (fun i => cellOkP i (prevOf cs i) (cs.getD i 0)) k
def planOk (kp mv : Int) (cs : List Int) : Bool := plOk cs cs.length && (between kp 0 31 && between mv 0 31 && (kp != mv))
theorem planOk_eq (kp mv : Int) (cs : List Int) : planOk kp mv cs = (plOk cs cs.length && (between kp 0 31 && between mv 0 31 && (kp != mv))) := rfl
theorem prevOf_eq {cs : List Int} {k j : Nat} {y : Int} (h : k = j + 1) (hy : cs[j]? = some y) : prevOf cs k = y := by
  subst h
  exact getD_of hy
theorem plOk_succ {cs : List Int} {k : Nat} {x : Int} (h : cs[k]? = some x) : plOk cs (k + 1) = (plOk cs k && cellOkP k (prevOf cs k) x) := by unfold plOk; rw [allTo, getD_of h]
theorem plOk_not {cs : List Int} {k m : Nat} {x : Int} (hk : k < m) (h : cs[k]? = some x) (bad : cellOkP k (prevOf cs k) x = false) : plOk cs m = false := allTo_false hk (by rw [getD_of h]; exact bad)
theorem i_cellOk (n : Int) (r : Bool) (hr : between n 0 15 = r) (w : World) : Calls Try.prog 73 #[.int .i64 n] w fun e w' => e = .returned (.bool r) ∧ w = w' := by
  subst hr
  cases h : between n 0 15
  · (have hall := all_nil w; go_enter Try.func73, Try.ntmps73)
    go_wp2_with ((go_at_call 39; ((refine (i_between _ _ _ false (by assumption) _).mono ?_)); rintro e w2 ⟨rfl, rfl⟩))
    go_ret
    exact ⟨rfl, rfl⟩
  · (have hall := all_nil w; go_enter Try.func73, Try.ntmps73)
    go_wp2_with ((go_at_call 39; ((refine (i_between _ _ _ true (by assumption) _).mono ?_)); rintro e w2 ⟨rfl, rfl⟩))
    go_ret
    exact ⟨rfl, rfl⟩
set_option maxHeartbeats 1600000 in
theorem i_PlanOk (kp mv : Int) (v : Value) (cs : List Int) (r : Bool) (hr : planOk kp mv cs = r) (w : World) (ha : IntsAt w v cs) : Calls Try.prog 44 #[.agg #[.int .i64 kp, .int .i64 mv, v]] w fun e w' => e = .returned (.bool r) ∧ Below w.heap.size w w' := by
  subst hr
  obtain ⟨ao, ca, rfl, _, h2, hrd⟩ := IntsAt.open ha
  have hm : cs.length ≤ 9223372036854775807 := by unfold maxLen at h2; omega
  have HE := Lib.hid hrd
  clear ha h2 hrd
  (have hall := all_nil w; go_enter Try.func44, Try.ntmps44)
  go_wp2_with (fail)
  go_loopw [8] (fun i wr => ∃ k : Nat, k ≤ cs.length ∧ i = .int .i64 k ∧ plOk cs k = true ∧ Below w.heap.size w wr ∧ wr.cell? ⟨w.heap.size, 0, none⟩ = some (.int .i64 kp) ∧ wr.cell? ⟨w.heap.size, 1, none⟩ = some (.int .i64 mv) ∧ wr.cell? ⟨w.heap.size, 2, none⟩ = some (.slice ao cs.length ca) ∧ w.heap.size < wr.heap.size) (fun i _ => cs.length - (intOf i).toNat)
  case atStart => exact ⟨0, Nat.zero_le _, rfl, rfl, by exact bel, by go_simp, by go_simp, by go_simp, by go_simp⟩
  case round =>
    obtain ⟨k, hk, rfl, hok, hbel, kbox0, kbox1, kbox2, xbox⟩ := hrel
    have HK := Lib.hid hok; have HB := Lib.hid hbel; have hsz := hbel.size; clear hok
    by_cases hlt : k < cs.length
    · have hlt' : (k : Int) < cs.length := by omega
      obtain ⟨x, hx⟩ := getx hlt
      by_cases hk0 : 0 < k
      · have hk1 : decide (0 < (k : Int)) = true := by simp; omega
        obtain ⟨j, hj⟩ : ∃ j, k = j + 1 := ⟨k - 1, by omega⟩
        have e1 : wrap64 ((k : Int) - 1) = (j : Int) := by rw [IntWalk.wrap64_in _ ⟨by omega, by omega⟩]; omega
        have e2 : IntKind.i64.wrap ((k : Int) - 1) = (j : Int) := (wrapI _).trans e1
        obtain ⟨y, hy⟩ := getx (xs := cs) (k := j) (by omega)
        obtain ⟨g, o, rfl, hg, c0⟩ := HE.out k x hx
        obtain ⟨g', o', hgo, hg', c1⟩ := HE.out j y hy
        simp only [Option.some.injEq, Addr.mk.injEq, and_true] at hgo
        obtain ⟨rfl, rfl⟩ := hgo
        have HPV := Lib.hid (prevOf_eq hj hy)
        have HS := Lib.hid (plOk_succ hx)
        have HN := Lib.hid (fun bad => plOk_not hlt hx bad)
        replace c0 := (hbel.cell (p := ⟨g, o + k, none⟩) hg).trans c0
        replace c1 := (hbel.cell (p := ⟨g, o + j, none⟩) hg).trans c1
        have hjl : (j : Int) < cs.length := by omega
        clear hx hy hbel hg' hj
        (obtain ⟨w1, rfl⟩ : ∃ x, x = wr := ⟨_, rfl⟩; have hall : allLt [g, w.heap.size] w1.heap.size := ⟨by omega, by omega, trivial⟩; have hx := hall; (try simp only [allLt, and_true] at hx))
        cases b1 : between x 0 15
        · (go_wp2_with ((go_at_call 73; ((refine (i_cellOk _ false (by assumption) _).mono ?_)); rintro e w2 ⟨rfl, rfl⟩)); all_goals (go_ret; exact ⟨ret_bool (a := false) (by rw [planOk_eq, HN.out (by simp only [cellOkP, HPV.out, b1]; simp)]; rfl), by (have hB := HB.out; exact bel)⟩))
        · rcases lec x y with ⟨b2, b3, b4⟩ | ⟨b2, b3, b4⟩
          · (go_wp2_with ((go_at_call 73; ((refine (i_cellOk _ true (by assumption) _).mono ?_)); rintro e w2 ⟨rfl, rfl⟩)); all_goals (go_ret; exact ⟨ret_bool (a := false) (by rw [planOk_eq, HN.out (by simp only [cellOkP, HPV.out, b1, b3, hk1]; simp)]; rfl), by (have hB := HB.out; exact bel)⟩))
          · (go_wp2_with ((go_at_call 73; ((refine (i_cellOk _ true (by assumption) _).mono ?_)); rintro e w2 ⟨rfl, rfl⟩)); all_goals (go_roundw; (case rel => exact ⟨k + 1, by omega, by go_num, by rw [HS.out, HK.out]; simp only [cellOkP, HPV.out, b1, b3, hk1]; simp, by (have hB := HB.out; exact bel), by go_simp, by go_simp, by go_simp, by (try simp only [World.size_alloc]); omega⟩); (case measure => (simp [intOf]; omega))))
      · have hk1 : decide (0 < (k : Int)) = false := by simp; omega
        obtain ⟨g, o, rfl, hg, c0⟩ := HE.out k x hx
        have HPV := Lib.hid (rfl : prevOf cs k = prevOf cs k)
        have HS := Lib.hid (plOk_succ hx)
        have HN := Lib.hid (fun bad => plOk_not hlt hx bad)
        replace c0 := (hbel.cell (p := ⟨g, o + k, none⟩) hg).trans c0
        clear hx hbel
        (obtain ⟨w1, rfl⟩ : ∃ x, x = wr := ⟨_, rfl⟩; have hall : allLt [g, w.heap.size] w1.heap.size := ⟨by omega, by omega, trivial⟩; have hx := hall; (try simp only [allLt, and_true] at hx))
        cases b1 : between x 0 15
        · (go_wp2_with ((go_at_call 73; ((refine (i_cellOk _ false (by assumption) _).mono ?_)); rintro e w2 ⟨rfl, rfl⟩)); all_goals (go_ret; exact ⟨ret_bool (a := false) (by rw [planOk_eq, HN.out (by simp only [cellOkP, HPV.out, b1, hk1]; simp)]; rfl), by (have hB := HB.out; exact bel)⟩))
        · (go_wp2_with ((go_at_call 73; ((refine (i_cellOk _ true (by assumption) _).mono ?_)); rintro e w2 ⟨rfl, rfl⟩)); all_goals (go_roundw; (case rel => exact ⟨k + 1, by omega, by go_num, by rw [HS.out, HK.out]; simp only [cellOkP, HPV.out, b1, hk1]; simp, by (have hB := HB.out; exact bel), by go_simp, by go_simp, by go_simp, by (try simp only [World.size_alloc]); omega⟩); (case measure => (simp [intOf]; omega))))
    · have hlt' : ¬ (k : Int) < cs.length := by omega
      obtain rfl : k = cs.length := by omega
      clear hbel
      cases b1 : between kp 0 31
      · go_wp2_with ((go_at_call 39; ((refine (i_between _ _ _ false (by assumption) _).mono ?_)); rintro e w2 ⟨rfl, rfl⟩))
        all_goals (go_ret; exact ⟨ret_bool (by rw [planOk_eq, HK.out]; simp [b1]), by (have hB := HB.out; exact bel)⟩)
      · cases b2 : between mv 0 31
        · go_wp2_with ((go_at_call 39; (first | (refine (i_between _ _ _ true (by assumption) _).mono ?_) | (refine (i_between _ _ _ false (by assumption) _).mono ?_)); rintro e w2 ⟨rfl, rfl⟩))
          all_goals (go_ret; exact ⟨ret_bool (by rw [planOk_eq, HK.out]; simp [b1, b2]), by (have hB := HB.out; exact bel)⟩)
        · rcases eqc kp mv with ⟨b3, b4⟩ | ⟨b3, b4⟩
          · go_wp2_with ((go_at_call 39; ((refine (i_between _ _ _ true (by assumption) _).mono ?_)); rintro e w2 ⟨rfl, rfl⟩))
            all_goals (go_ret; exact ⟨ret_bool (by rw [planOk_eq, HK.out]; simp [b1, b2, b4]), by (have hB := HB.out; exact bel)⟩)
          · go_wp2_with ((go_at_call 39; ((refine (i_between _ _ _ true (by assumption) _).mono ?_)); rintro e w2 ⟨rfl, rfl⟩))
            all_goals (go_ret; exact ⟨ret_bool (by rw [planOk_eq, HK.out]; simp [b1, b2, b4]), by (have hB := HB.out; exact bel)⟩)

set_option maxHeartbeats 1600000 in
theorem s_PlanOk (kp mv : Int) (v : Value) (cs : List Int) (r : Bool) (hr : planOk kp mv cs = r) (w : World) (ha : IntsAt w v cs) : Calls Try.prog 35 #[.agg #[.int .i64 kp, .int .i64 mv, v]] w fun e w' => e = .returned (.bool r) ∧ Below w.heap.size w w' := by
  subst hr
  obtain ⟨ao, ca, rfl, _, h2, hrd⟩ := IntsAt.open ha
  have hm : cs.length ≤ 9223372036854775807 := by unfold maxLen at h2; omega
  have HE := Lib.hid hrd
  clear ha h2 hrd
  (have hall := all_nil w; go_enter Try.func35, Try.ntmps35)
  go_wp2_with (fail)
  go_loopw [3] (fun i wr => ∃ k : Nat, k ≤ cs.length ∧ i = .int .i64 k ∧ plOk cs k = true ∧ Below w.heap.size w wr ∧ wr.cell? ⟨w.heap.size, 0, none⟩ = some (.int .i64 kp) ∧ wr.cell? ⟨w.heap.size, 1, none⟩ = some (.int .i64 mv) ∧ wr.cell? ⟨w.heap.size, 2, none⟩ = some (.slice ao cs.length ca) ∧ w.heap.size < wr.heap.size) (fun i _ => cs.length - (intOf i).toNat)
  case atStart => exact ⟨0, Nat.zero_le _, rfl, rfl, by exact bel, by go_simp, by go_simp, by go_simp, by go_simp⟩
  case round =>
    obtain ⟨k, hk, rfl, hok, hbel, kbox0, kbox1, kbox2, xbox⟩ := hrel
    have HK := Lib.hid hok; have HB := Lib.hid hbel; have hsz := hbel.size; clear hok
    by_cases hlt : k < cs.length
    · have hlt' : (k : Int) < cs.length := by omega
      obtain ⟨x, hx⟩ := getx hlt
      by_cases hk0 : 0 < k
      · have hk1 : decide (0 < (k : Int)) = true := by simp; omega
        obtain ⟨j, hj⟩ : ∃ j, k = j + 1 := ⟨k - 1, by omega⟩
        have e1 : wrap64 ((k : Int) - 1) = (j : Int) := by rw [IntWalk.wrap64_in _ ⟨by omega, by omega⟩]; omega
        have e2 : IntKind.i64.wrap ((k : Int) - 1) = (j : Int) := (wrapI _).trans e1
        obtain ⟨y, hy⟩ := getx (xs := cs) (k := j) (by omega)
        obtain ⟨g, o, rfl, hg, c0⟩ := HE.out k x hx
        obtain ⟨g', o', hgo, hg', c1⟩ := HE.out j y hy
        simp only [Option.some.injEq, Addr.mk.injEq, and_true] at hgo
        obtain ⟨rfl, rfl⟩ := hgo
        have HPV := Lib.hid (prevOf_eq hj hy)
        have HS := Lib.hid (plOk_succ hx)
        have HN := Lib.hid (fun bad => plOk_not hlt hx bad)
        replace c0 := (hbel.cell (p := ⟨g, o + k, none⟩) hg).trans c0
        replace c1 := (hbel.cell (p := ⟨g, o + j, none⟩) hg).trans c1
        have hjl : (j : Int) < cs.length := by omega
        clear hx hy hbel hg' hj
        (obtain ⟨w1, rfl⟩ : ∃ x, x = wr := ⟨_, rfl⟩; have hall : allLt [g, w.heap.size] w1.heap.size := ⟨by omega, by omega, trivial⟩; have hx := hall; (try simp only [allLt, and_true] at hx))
        cases b1 : between x 0 15
        · (go_wp2_with ((with_reducible refine wp_region_grew2 (by kernel_rfl) (by kernel_rfl) ?_; intro w2 hb; ((have hn := nw0 hb hall (by exact zo))); obtain ⟨hc, hf, hn, hc0⟩ := hn; replace hall := hn; clear hn; have hz := hb.size; (try simp only [World.size_alloc, World.size_setCell, World.size_drew] at hz); have hx := hall; (try simp only [allLt, and_true] at hx); obtain ⟨w1, rfl⟩ : ∃ x, x = w2 := ⟨_, rfl⟩; (repeat (go_big_quiet_step ((go_at_call 47; first | exact calls_same (s_l01In _ _ _ true (by assumption) _) | exact calls_same (s_l01In _ _ _ false (by assumption) _) | exact calls_same (s_l01In _ _ _ _ rfl _))))); refine wpQuiet_nil ?_; intro w2 hw'; have hb := grew_below hw'; clear hw'; ((have hn := nw0 hb hall (by exact zo))); obtain ⟨hc, hf, hn, hc0⟩ := hn; replace hall := hn; clear hn; have hz := hb.size; (try simp only [World.size_alloc, World.size_setCell, World.size_drew] at hz); have hx := hall; (try simp only [allLt, and_true] at hx); obtain ⟨w1, rfl⟩ : ∃ x, x = w2 := ⟨_, rfl⟩)); all_goals (go_ret; exact ⟨ret_bool (a := false) (by rw [planOk_eq, HN.out (by simp only [cellOkP, HPV.out, b1]; simp)]; rfl), by (have hB := HB.out; exact bel)⟩))
        · rcases lec x y with ⟨b2, b3, b4⟩ | ⟨b2, b3, b4⟩
          · (go_wp2_with ((with_reducible refine wp_region_grew2 (by kernel_rfl) (by kernel_rfl) ?_; intro w2 hb; ((have hn := nw0 hb hall (by exact zo))); obtain ⟨hc, hf, hn, hc0⟩ := hn; replace hall := hn; clear hn; have hz := hb.size; (try simp only [World.size_alloc, World.size_setCell, World.size_drew] at hz); have hx := hall; (try simp only [allLt, and_true] at hx); obtain ⟨w1, rfl⟩ : ∃ x, x = w2 := ⟨_, rfl⟩; (repeat (go_big_quiet_step ((go_at_call 47; first | exact calls_same (s_l01In _ _ _ true (by assumption) _) | exact calls_same (s_l01In _ _ _ false (by assumption) _) | exact calls_same (s_l01In _ _ _ _ rfl _))))); refine wpQuiet_nil ?_; intro w2 hw'; have hb := grew_below hw'; clear hw'; ((have hn := nw0 hb hall (by exact zo))); obtain ⟨hc, hf, hn, hc0⟩ := hn; replace hall := hn; clear hn; have hz := hb.size; (try simp only [World.size_alloc, World.size_setCell, World.size_drew] at hz); have hx := hall; (try simp only [allLt, and_true] at hx); obtain ⟨w1, rfl⟩ : ∃ x, x = w2 := ⟨_, rfl⟩)); all_goals (go_ret; exact ⟨ret_bool (a := false) (by rw [planOk_eq, HN.out (by simp only [cellOkP, HPV.out, b1, b3, hk1]; simp)]; rfl), by (have hB := HB.out; exact bel)⟩))
          · (go_wp2_with ((with_reducible refine wp_region_grew2 (by kernel_rfl) (by kernel_rfl) ?_; intro w2 hb; ((have hn := nw0 hb hall (by exact zo))); obtain ⟨hc, hf, hn, hc0⟩ := hn; replace hall := hn; clear hn; have hz := hb.size; (try simp only [World.size_alloc, World.size_setCell, World.size_drew] at hz); have hx := hall; (try simp only [allLt, and_true] at hx); obtain ⟨w1, rfl⟩ : ∃ x, x = w2 := ⟨_, rfl⟩; (repeat (go_big_quiet_step ((go_at_call 47; first | exact calls_same (s_l01In _ _ _ true (by assumption) _) | exact calls_same (s_l01In _ _ _ false (by assumption) _) | exact calls_same (s_l01In _ _ _ _ rfl _))))); refine wpQuiet_nil ?_; intro w2 hw'; have hb := grew_below hw'; clear hw'; ((have hn := nw0 hb hall (by exact zo))); obtain ⟨hc, hf, hn, hc0⟩ := hn; replace hall := hn; clear hn; have hz := hb.size; (try simp only [World.size_alloc, World.size_setCell, World.size_drew] at hz); have hx := hall; (try simp only [allLt, and_true] at hx); obtain ⟨w1, rfl⟩ : ∃ x, x = w2 := ⟨_, rfl⟩)); all_goals (go_roundw; (case rel => exact ⟨k + 1, by omega, by go_num, by rw [HS.out, HK.out]; simp only [cellOkP, HPV.out, b1, b3, hk1]; simp, by (have hB := HB.out; exact bel), by go_simp, by go_simp, by go_simp, by (try simp only [World.size_alloc]); omega⟩); (case measure => (simp [intOf]; omega))))
      · have hk1 : decide (0 < (k : Int)) = false := by simp; omega
        obtain ⟨g, o, rfl, hg, c0⟩ := HE.out k x hx
        have HPV := Lib.hid (rfl : prevOf cs k = prevOf cs k)
        have HS := Lib.hid (plOk_succ hx)
        have HN := Lib.hid (fun bad => plOk_not hlt hx bad)
        replace c0 := (hbel.cell (p := ⟨g, o + k, none⟩) hg).trans c0
        clear hx hbel
        (obtain ⟨w1, rfl⟩ : ∃ x, x = wr := ⟨_, rfl⟩; have hall : allLt [g, w.heap.size] w1.heap.size := ⟨by omega, by omega, trivial⟩; have hx := hall; (try simp only [allLt, and_true] at hx))
        cases b1 : between x 0 15
        · (go_wp2_with ((with_reducible refine wp_region_grew2 (by kernel_rfl) (by kernel_rfl) ?_; intro w2 hb; ((have hn := nw0 hb hall (by exact zo))); obtain ⟨hc, hf, hn, hc0⟩ := hn; replace hall := hn; clear hn; have hz := hb.size; (try simp only [World.size_alloc, World.size_setCell, World.size_drew] at hz); have hx := hall; (try simp only [allLt, and_true] at hx); obtain ⟨w1, rfl⟩ : ∃ x, x = w2 := ⟨_, rfl⟩; (repeat (go_big_quiet_step ((go_at_call 47; first | exact calls_same (s_l01In _ _ _ true (by assumption) _) | exact calls_same (s_l01In _ _ _ false (by assumption) _) | exact calls_same (s_l01In _ _ _ _ rfl _))))); refine wpQuiet_nil ?_; intro w2 hw'; have hb := grew_below hw'; clear hw'; ((have hn := nw0 hb hall (by exact zo))); obtain ⟨hc, hf, hn, hc0⟩ := hn; replace hall := hn; clear hn; have hz := hb.size; (try simp only [World.size_alloc, World.size_setCell, World.size_drew] at hz); have hx := hall; (try simp only [allLt, and_true] at hx); obtain ⟨w1, rfl⟩ : ∃ x, x = w2 := ⟨_, rfl⟩)); all_goals (go_ret; exact ⟨ret_bool (a := false) (by rw [planOk_eq, HN.out (by simp only [cellOkP, HPV.out, b1, hk1]; simp)]; rfl), by (have hB := HB.out; exact bel)⟩))
        · (go_wp2_with ((with_reducible refine wp_region_grew2 (by kernel_rfl) (by kernel_rfl) ?_; intro w2 hb; ((have hn := nw0 hb hall (by exact zo))); obtain ⟨hc, hf, hn, hc0⟩ := hn; replace hall := hn; clear hn; have hz := hb.size; (try simp only [World.size_alloc, World.size_setCell, World.size_drew] at hz); have hx := hall; (try simp only [allLt, and_true] at hx); obtain ⟨w1, rfl⟩ : ∃ x, x = w2 := ⟨_, rfl⟩; (repeat (go_big_quiet_step ((go_at_call 47; first | exact calls_same (s_l01In _ _ _ true (by assumption) _) | exact calls_same (s_l01In _ _ _ false (by assumption) _) | exact calls_same (s_l01In _ _ _ _ rfl _))))); refine wpQuiet_nil ?_; intro w2 hw'; have hb := grew_below hw'; clear hw'; ((have hn := nw0 hb hall (by exact zo))); obtain ⟨hc, hf, hn, hc0⟩ := hn; replace hall := hn; clear hn; have hz := hb.size; (try simp only [World.size_alloc, World.size_setCell, World.size_drew] at hz); have hx := hall; (try simp only [allLt, and_true] at hx); obtain ⟨w1, rfl⟩ : ∃ x, x = w2 := ⟨_, rfl⟩)); all_goals (go_roundw; (case rel => exact ⟨k + 1, by omega, by go_num, by rw [HS.out, HK.out]; simp only [cellOkP, HPV.out, b1, hk1]; simp, by (have hB := HB.out; exact bel), by go_simp, by go_simp, by go_simp, by (try simp only [World.size_alloc]); omega⟩); (case measure => (simp [intOf]; omega))))
    · have hlt' : ¬ (k : Int) < cs.length := by omega
      obtain rfl : k = cs.length := by omega
      clear hbel
      cases b1 : between kp 0 31
      · go_wp2_with ((go_at_call 47; ((refine (s_l01In _ _ _ false (by assumption) _).mono ?_)); rintro e w2 ⟨rfl, rfl⟩))
        all_goals (go_ret; exact ⟨ret_bool (by rw [planOk_eq, HK.out]; simp [b1]), by (have hB := HB.out; exact bel)⟩)
      · cases b2 : between mv 0 31
        · go_wp2_with ((go_at_call 47; (first | (refine (s_l01In _ _ _ true (by assumption) _).mono ?_) | (refine (s_l01In _ _ _ false (by assumption) _).mono ?_)); rintro e w2 ⟨rfl, rfl⟩))
          all_goals (go_ret; exact ⟨ret_bool (by rw [planOk_eq, HK.out]; simp [b1, b2]), by (have hB := HB.out; exact bel)⟩)
        · rcases eqc kp mv with ⟨b3, b4⟩ | ⟨b3, b4⟩
          · go_wp2_with ((go_at_call 47; ((refine (s_l01In _ _ _ true (by assumption) _).mono ?_)); rintro e w2 ⟨rfl, rfl⟩))
            all_goals (go_ret; exact ⟨ret_bool (by rw [planOk_eq, HK.out]; simp [b1, b2, b4]), by (have hB := HB.out; exact bel)⟩)
          · go_wp2_with ((go_at_call 47; ((refine (s_l01In _ _ _ true (by assumption) _).mono ?_)); rintro e w2 ⟨rfl, rfl⟩))
            all_goals (go_ret; exact ⟨ret_bool (by rw [planOk_eq, HK.out]; simp [b1, b2, b4]), by (have hB := HB.out; exact bel)⟩)


/-- What a call that hands back a plan of its own leaves. -/
def NewP (w : World) (kp mv : Int) (cs : List Int) (e : Ending) (w' : World) : Prop := ∃ v : Value, e = .returned (.agg #[.int .i64 kp, .int .i64 mv, v]) ∧ OwnI w.heap.size w' v cs ∧ Below w.heap.size w w'

end Go.Proofs.Ytkkebpcclklmcaa
