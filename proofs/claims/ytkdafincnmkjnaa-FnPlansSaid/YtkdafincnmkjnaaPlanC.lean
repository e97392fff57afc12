/-
  Plans in a seat without kernels: are they valid, what they save, the merged text (impl's side).
-/
import Derived.Test.YtkdafincnmkjnaaPlanE
import Derived.Test.YtkdafincnmkjnaaOpenI
import Derived.Test.YtkdafincnmkjnaaKDef
import Derived.Test.YtkdafincnmkjnaaCopyRow
import Derived.Test.YtkdafincnmkjnaaAppend
import Derived.Test.YtkdafincnmkjnaaTail
set_option linter.unusedVariables false
set_option linter.unusedSimpArgs false
namespace Go.Proofs.Ytkdafincnmkjnaa
open Go.RowKit
theorem wrapI (n : Int) : IntKind.i64.wrap n = wrap64 n := by rw [IntKind.wrap_i64]; unfold wrap64; rfl
theorem lec (x y : Int) : (x ≤ y ∧ decide (x ≤ y) = true ∧ decide (y < x) = false) ∨ (¬ x ≤ y ∧ decide (x ≤ y) = false ∧ decide (y < x) = true) := by
  by_cases h : x ≤ y
  · exact .inl ⟨h, by simpa using h, by simpa using h⟩
  · exact .inr ⟨h, by simpa using h, by simpa using h⟩
theorem eqc (x y : Int) : ((x == y) = true ∧ (x != y) = false) ∨ ((x == y) = false ∧ (x != y) = true) := by
  by_cases h : x = y
  · exact .inl ⟨by simpa using h, by simpa using h⟩
  · exact .inr ⟨by simpa using h, by simpa using h⟩
def prevOf (cs : List Int) (k : Nat) : Int := cs.getD (k - 1) 0
def cellOkP (k : Nat) (p x : Int) : Bool := between x 0 15 && !(decide (0 < (k : Int)) && decide (x ≤ p))
def plOk (cs : List Int) (k : Nat) : Bool := allTo (fun i => cellOkP i (prevOf cs i) (cs.getD i 0)) k
def planOk (kp mv : Int) (cs : List Int) : Bool := plOk cs cs.length && (between kp 0 31 && between mv 0 31 && (kp != mv))
theorem planOk_eq (kp mv : Int) (cs : List Int) : planOk kp mv cs = (plOk cs cs.length && (between kp 0 31 && between mv 0 31 && (kp != mv))) := rfl
theorem prevOf_eq {cs : List Int} {k j : Nat} {y : Int} (h : k = j + 1) (hy : cs[j]? = some y) : prevOf cs k = y := by
  subst h
  exact getD_of hy
theorem plOk_succ {cs : List Int} {k : Nat} {x : Int} (h : cs[k]? = some x) : plOk cs (k + 1) = (plOk cs k && cellOkP k (prevOf cs k) x) := by unfold plOk; rw [allTo, getD_of h]
theorem plOk_not {cs : List Int} {k m : Nat} {x : Int} (hk : k < m) (h : cs[k]? = some x) (bad : cellOkP k (prevOf cs k) x = false) : plOk cs m = false := allTo_false hk (by rw [getD_of h]; exact bad)
theorem i_cellOk (n : Int) (r : Bool) (hr : between n 0 15 = r) (w : World) : Calls Try.prog 102 #[.int .i64 n] w fun e w' => e = .returned (.bool r) ∧ w = w' := by
  subst hr
  cases h : between n 0 15
  · (have hall := all_nil w; go_enter Try.func102, Try.ntmps102)
    go_wp2_with (first | (go_at_call 90; (first | (refine (i_between _ _ _ true (by assumption) _).mono ?_) | (refine (i_between _ _ _ false (by assumption) _).mono ?_) | (refine (i_between _ _ _ _ rfl _).mono ?_)); rintro e w2 ⟨rfl, rfl⟩) | (with_reducible refine wp_region_grew2 (by kernel_rfl) (by kernel_rfl) ?_; intro w2 hb; (first | have hn := nw4 hb hall (by exact zo) | have hn := nw3 hb hall (by exact zo) | have hn := nw2 hb hall (by exact zo) | have hn := nw1 hb hall (by exact zo) | have hn := nw0 hb hall (by exact zo)); obtain ⟨hc, hf, hn, hc0⟩ := hn; replace hall := hn; clear hn; have hz := hb.size; (try simp only [World.size_alloc, World.size_setCell, World.size_drew] at hz); have hx := hall; (try simp only [allLt, and_true] at hx); (try (have hO := HO.out; replace HO := Lib.hid (Own.below hO (w' := w2) (by exact bel)); clear hO)); obtain ⟨w1, rfl⟩ : ∃ x, x = w2 := ⟨_, rfl⟩; (repeat (go_big_quiet_step (first | (go_at_call 90; first | exact calls_same (i_between _ _ _ true (by assumption) _) | exact calls_same (i_between _ _ _ false (by assumption) _) | exact calls_same (i_between _ _ _ _ rfl _))))); refine wpQuiet_nil ?_; intro w2 hw'; have hb := grew_below hw'; clear hw'; (first | have hn := nw4 hb hall (by exact zo) | have hn := nw3 hb hall (by exact zo) | have hn := nw2 hb hall (by exact zo) | have hn := nw1 hb hall (by exact zo) | have hn := nw0 hb hall (by exact zo)); obtain ⟨hc, hf, hn, hc0⟩ := hn; replace hall := hn; clear hn; have hz := hb.size; (try simp only [World.size_alloc, World.size_setCell, World.size_drew] at hz); have hx := hall; (try simp only [allLt, and_true] at hx); (try (have hO := HO.out; replace HO := Lib.hid (Own.below hO (w' := w2) (by exact bel)); clear hO)); obtain ⟨w1, rfl⟩ : ∃ x, x = w2 := ⟨_, rfl⟩))
    go_ret
    exact ⟨rfl, rfl⟩
  · (have hall := all_nil w; go_enter Try.func102, Try.ntmps102)
    go_wp2_with (first | (go_at_call 90; (first | (refine (i_between _ _ _ true (by assumption) _).mono ?_) | (refine (i_between _ _ _ false (by assumption) _).mono ?_) | (refine (i_between _ _ _ _ rfl _).mono ?_)); rintro e w2 ⟨rfl, rfl⟩) | (with_reducible refine wp_region_grew2 (by kernel_rfl) (by kernel_rfl) ?_; intro w2 hb; (first | have hn := nw4 hb hall (by exact zo) | have hn := nw3 hb hall (by exact zo) | have hn := nw2 hb hall (by exact zo) | have hn := nw1 hb hall (by exact zo) | have hn := nw0 hb hall (by exact zo)); obtain ⟨hc, hf, hn, hc0⟩ := hn; replace hall := hn; clear hn; have hz := hb.size; (try simp only [World.size_alloc, World.size_setCell, World.size_drew] at hz); have hx := hall; (try simp only [allLt, and_true] at hx); (try (have hO := HO.out; replace HO := Lib.hid (Own.below hO (w' := w2) (by exact bel)); clear hO)); obtain ⟨w1, rfl⟩ : ∃ x, x = w2 := ⟨_, rfl⟩; (repeat (go_big_quiet_step (first | (go_at_call 90; first | exact calls_same (i_between _ _ _ true (by assumption) _) | exact calls_same (i_between _ _ _ false (by assumption) _) | exact calls_same (i_between _ _ _ _ rfl _))))); refine wpQuiet_nil ?_; intro w2 hw'; have hb := grew_below hw'; clear hw'; (first | have hn := nw4 hb hall (by exact zo) | have hn := nw3 hb hall (by exact zo) | have hn := nw2 hb hall (by exact zo) | have hn := nw1 hb hall (by exact zo) | have hn := nw0 hb hall (by exact zo)); obtain ⟨hc, hf, hn, hc0⟩ := hn; replace hall := hn; clear hn; have hz := hb.size; (try simp only [World.size_alloc, World.size_setCell, World.size_drew] at hz); have hx := hall; (try simp only [allLt, and_true] at hx); (try (have hO := HO.out; replace HO := Lib.hid (Own.below hO (w' := w2) (by exact bel)); clear hO)); obtain ⟨w1, rfl⟩ : ∃ x, x = w2 := ⟨_, rfl⟩))
    go_ret
    exact ⟨rfl, rfl⟩
set_option maxHeartbeats 1600000 in
theorem i_PlanOk (kp mv : Int) (v : Value) (cs : List Int) (r : Bool) (hr : planOk kp mv cs = r) (w : World) (ha : IntsAt w v cs) : Calls Try.prog 52 #[.agg #[.int .i64 kp, .int .i64 mv, v]] w fun e w' => e = .returned (.bool r) ∧ Below w.heap.size w w' := by
  subst hr
  obtain ⟨ao, ca, rfl, _, h2, hrd⟩ := IntsAt.open ha
  have hm : cs.length ≤ 9223372036854775807 := by unfold maxLen at h2; omega
  have HE := Lib.hid hrd
  clear ha h2 hrd
  (have hall := all_nil w; go_enter Try.func52, Try.ntmps52)
  go_wp2_with (first | (go_at_call 90; (first | (refine (i_between _ _ _ true (by assumption) _).mono ?_) | (refine (i_between _ _ _ false (by assumption) _).mono ?_) | (refine (i_between _ _ _ _ rfl _).mono ?_)); rintro e w2 ⟨rfl, rfl⟩) | (go_at_call 102; (first | (refine (i_cellOk _ true (by assumption) _).mono ?_) | (refine (i_cellOk _ false (by assumption) _).mono ?_) | (refine (i_cellOk _ _ rfl _).mono ?_)); rintro e w2 ⟨rfl, rfl⟩) | (with_reducible refine wp_region_grew2 (by kernel_rfl) (by kernel_rfl) ?_; intro w2 hb; (first | have hn := nw4 hb hall (by exact zo) | have hn := nw3 hb hall (by exact zo) | have hn := nw2 hb hall (by exact zo) | have hn := nw1 hb hall (by exact zo) | have hn := nw0 hb hall (by exact zo)); obtain ⟨hc, hf, hn, hc0⟩ := hn; replace hall := hn; clear hn; have hz := hb.size; (try simp only [World.size_alloc, World.size_setCell, World.size_drew] at hz); have hx := hall; (try simp only [allLt, and_true] at hx); (try (have hO := HO.out; replace HO := Lib.hid (Own.below hO (w' := w2) (by exact bel)); clear hO)); obtain ⟨w1, rfl⟩ : ∃ x, x = w2 := ⟨_, rfl⟩; (repeat (go_big_quiet_step (first | (go_at_call 90; first | exact calls_same (i_between _ _ _ true (by assumption) _) | exact calls_same (i_between _ _ _ false (by assumption) _) | exact calls_same (i_between _ _ _ _ rfl _)) | (go_at_call 102; first | exact calls_same (i_cellOk _ true (by assumption) _) | exact calls_same (i_cellOk _ false (by assumption) _) | exact calls_same (i_cellOk _ _ rfl _))))); refine wpQuiet_nil ?_; intro w2 hw'; have hb := grew_below hw'; clear hw'; (first | have hn := nw4 hb hall (by exact zo) | have hn := nw3 hb hall (by exact zo) | have hn := nw2 hb hall (by exact zo) | have hn := nw1 hb hall (by exact zo) | have hn := nw0 hb hall (by exact zo)); obtain ⟨hc, hf, hn, hc0⟩ := hn; replace hall := hn; clear hn; have hz := hb.size; (try simp only [World.size_alloc, World.size_setCell, World.size_drew] at hz); have hx := hall; (try simp only [allLt, and_true] at hx); (try (have hO := HO.out; replace HO := Lib.hid (Own.below hO (w' := w2) (by exact bel)); clear hO)); obtain ⟨w1, rfl⟩ : ∃ x, x = w2 := ⟨_, rfl⟩))
  go_loopw [8] (fun i wr => ∃ k : Nat, k ≤ cs.length ∧ i = .int .i64 k ∧ plOk cs k = true ∧ Below w.heap.size w wr ∧ wr.cell? ⟨w.heap.size, 0, none⟩ = some (.int .i64 kp) ∧ wr.cell? ⟨w.heap.size, 1, none⟩ = some (.int .i64 mv) ∧ wr.cell? ⟨w.heap.size, 2, none⟩ = some (.slice ao cs.length ca) ∧ w.heap.size < wr.heap.size) (fun i _ => cs.length - (intOf i).toNat)
  case atStart => exact ⟨0, Nat.zero_le _, rfl, rfl, by exact bel, by go_simp, by go_simp, by go_simp, by go_simp⟩
  case round =>
    obtain ⟨k, hk, rfl, hok, hbel, kbox0, kbox1, kbox2, xbox⟩ := hrel
    have HK := Lib.hid hok; have HB := Lib.hid hbel; have hsz := hbel.size; clear hok
    by_cases hlt : k < cs.length
    · have hlt' : (k : Int) < cs.length := by omega
      obtain ⟨x, hx⟩ := getx hlt
      by_cases hk0 : 0 < k
      · have hk1 : decide (0 < (k : Int)) = true := by simp; omega
        obtain ⟨j, hj⟩ : ∃ j, k = j + 1 := ⟨k - 1, by omega⟩
        have e1 : wrap64 ((k : Int) - 1) = (j : Int) := by rw [IntWalk.wrap64_in _ ⟨by omega, by omega⟩]; omega
        have e2 : IntKind.i64.wrap ((k : Int) - 1) = (j : Int) := (wrapI _).trans e1
        obtain ⟨y, hy⟩ := getx (xs := cs) (k := j) (by omega)
        obtain ⟨g, o, rfl, hg, c0⟩ := HE.out k x hx
        obtain ⟨g', o', hgo, hg', c1⟩ := HE.out j y hy
        simp only [Option.some.injEq, Addr.mk.injEq, and_true] at hgo
        obtain ⟨rfl, rfl⟩ := hgo
        have HPV := Lib.hid (prevOf_eq hj hy)
        have HS := Lib.hid (plOk_succ hx)
        have HN := Lib.hid (fun bad => plOk_not hlt hx bad)
        replace c0 := (hbel.cell (p := ⟨g, o + k, none⟩) hg).trans c0
        replace c1 := (hbel.cell (p := ⟨g, o + j, none⟩) hg).trans c1
        have hjl : (j : Int) < cs.length := by omega
        clear hx hy hbel hg' hj
        (obtain ⟨w1, rfl⟩ : ∃ x, x = wr := ⟨_, rfl⟩; have hall : allLt [g, w.heap.size] w1.heap.size := ⟨by omega, by omega, trivial⟩; have hx := hall; (try simp only [allLt, and_true] at hx))
        cases b1 : between x 0 15
        · (go_wp2_with (first | (go_at_call 90; (first | (refine (i_between _ _ _ true (by assumption) _).mono ?_) | (refine (i_between _ _ _ false (by assumption) _).mono ?_) | (refine (i_between _ _ _ _ rfl _).mono ?_)); rintro e w2 ⟨rfl, rfl⟩) | (go_at_call 102; (first | (refine (i_cellOk _ true (by assumption) _).mono ?_) | (refine (i_cellOk _ false (by assumption) _).mono ?_) | (refine (i_cellOk _ _ rfl _).mono ?_)); rintro e w2 ⟨rfl, rfl⟩) | (with_reducible refine wp_region_grew2 (by kernel_rfl) (by kernel_rfl) ?_; intro w2 hb; (first | have hn := nw4 hb hall (by exact zo) | have hn := nw3 hb hall (by exact zo) | have hn := nw2 hb hall (by exact zo) | have hn := nw1 hb hall (by exact zo) | have hn := nw0 hb hall (by exact zo)); obtain ⟨hc, hf, hn, hc0⟩ := hn; replace hall := hn; clear hn; have hz := hb.size; (try simp only [World.size_alloc, World.size_setCell, World.size_drew] at hz); have hx := hall; (try simp only [allLt, and_true] at hx); (try (have hO := HO.out; replace HO := Lib.hid (Own.below hO (w' := w2) (by exact bel)); clear hO)); obtain ⟨w1, rfl⟩ : ∃ x, x = w2 := ⟨_, rfl⟩; (repeat (go_big_quiet_step (first | (go_at_call 90; first | exact calls_same (i_between _ _ _ true (by assumption) _) | exact calls_same (i_between _ _ _ false (by assumption) _) | exact calls_same (i_between _ _ _ _ rfl _)) | (go_at_call 102; first | exact calls_same (i_cellOk _ true (by assumption) _) | exact calls_same (i_cellOk _ false (by assumption) _) | exact calls_same (i_cellOk _ _ rfl _))))); refine wpQuiet_nil ?_; intro w2 hw'; have hb := grew_below hw'; clear hw'; (first | have hn := nw4 hb hall (by exact zo) | have hn := nw3 hb hall (by exact zo) | have hn := nw2 hb hall (by exact zo) | have hn := nw1 hb hall (by exact zo) | have hn := nw0 hb hall (by exact zo)); obtain ⟨hc, hf, hn, hc0⟩ := hn; replace hall := hn; clear hn; have hz := hb.size; (try simp only [World.size_alloc, World.size_setCell, World.size_drew] at hz); have hx := hall; (try simp only [allLt, and_true] at hx); (try (have hO := HO.out; replace HO := Lib.hid (Own.below hO (w' := w2) (by exact bel)); clear hO)); obtain ⟨w1, rfl⟩ : ∃ x, x = w2 := ⟨_, rfl⟩)); all_goals (go_ret; exact ⟨ret_bool (a := false) (by rw [planOk_eq, HN.out (by simp only [cellOkP, HPV.out, b1]; simp)]; rfl), by (have hB := HB.out; exact bel)⟩))
        · rcases lec x y with ⟨b2, b3, b4⟩ | ⟨b2, b3, b4⟩
          · (go_wp2_with (first | (go_at_call 90; (first | (refine (i_between _ _ _ true (by assumption) _).mono ?_) | (refine (i_between _ _ _ false (by assumption) _).mono ?_) | (refine (i_between _ _ _ _ rfl _).mono ?_)); rintro e w2 ⟨rfl, rfl⟩) | (go_at_call 102; (first | (refine (i_cellOk _ true (by assumption) _).mono ?_) | (refine (i_cellOk _ false (by assumption) _).mono ?_) | (refine (i_cellOk _ _ rfl _).mono ?_)); rintro e w2 ⟨rfl, rfl⟩) | (with_reducible refine wp_region_grew2 (by kernel_rfl) (by kernel_rfl) ?_; intro w2 hb; (first | have hn := nw4 hb hall (by exact zo) | have hn := nw3 hb hall (by exact zo) | have hn := nw2 hb hall (by exact zo) | have hn := nw1 hb hall (by exact zo) | have hn := nw0 hb hall (by exact zo)); obtain ⟨hc, hf, hn, hc0⟩ := hn; replace hall := hn; clear hn; have hz := hb.size; (try simp only [World.size_alloc, World.size_setCell, World.size_drew] at hz); have hx := hall; (try simp only [allLt, and_true] at hx); (try (have hO := HO.out; replace HO := Lib.hid (Own.below hO (w' := w2) (by exact bel)); clear hO)); obtain ⟨w1, rfl⟩ : ∃ x, x = w2 := ⟨_, rfl⟩; (repeat (go_big_quiet_step (first | (go_at_call 90; first | exact calls_same (i_between _ _ _ true (by assumption) _) | exact calls_same (i_between _ _ _ false (by assumption) _) | exact calls_same (i_between _ _ _ _ rfl _)) | (go_at_call 102; first | exact calls_same (i_cellOk _ true (by assumption) _) | exact calls_same (i_cellOk _ false (by assumption) _) | exact calls_same (i_cellOk _ _ rfl _))))); refine wpQuiet_nil ?_; intro w2 hw'; have hb := grew_below hw'; clear hw'; (first | have hn := nw4 hb hall (by exact zo) | have hn := nw3 hb hall (by exact zo) | have hn := nw2 hb hall (by exact zo) | have hn := nw1 hb hall (by exact zo) | have hn := nw0 hb hall (by exact zo)); obtain ⟨hc, hf, hn, hc0⟩ := hn; replace hall := hn; clear hn; have hz := hb.size; (try simp only [World.size_alloc, World.size_setCell, World.size_drew] at hz); have hx := hall; (try simp only [allLt, and_true] at hx); (try (have hO := HO.out; replace HO := Lib.hid (Own.below hO (w' := w2) (by exact bel)); clear hO)); obtain ⟨w1, rfl⟩ : ∃ x, x = w2 := ⟨_, rfl⟩)); all_goals (go_ret; exact ⟨ret_bool (a := false) (by rw [planOk_eq, HN.out (by simp only [cellOkP, HPV.out, b1, b3, hk1]; simp)]; rfl), by (have hB := HB.out; exact bel)⟩))
          · (go_wp2_with (first | (go_at_call 90; (first | (refine (i_between _ _ _ true (by assumption) _).mono ?_) | (refine (i_between _ _ _ false (by assumption) _).mono ?_) | (refine (i_between _ _ _ _ rfl _).mono ?_)); rintro e w2 ⟨rfl, rfl⟩) | (go_at_call 102; (first | (refine (i_cellOk _ true (by assumption) _).mono ?_) | (refine (i_cellOk _ false (by assumption) _).mono ?_) | (refine (i_cellOk _ _ rfl _).mono ?_)); rintro e w2 ⟨rfl, rfl⟩) | (with_reducible refine wp_region_grew2 (by kernel_rfl) (by kernel_rfl) ?_; intro w2 hb; (first | have hn := nw4 hb hall (by exact zo) | have hn := nw3 hb hall (by exact zo) | have hn := nw2 hb hall (by exact zo) | have hn := nw1 hb hall (by exact zo) | have hn := nw0 hb hall (by exact zo)); obtain ⟨hc, hf, hn, hc0⟩ := hn; replace hall := hn; clear hn; have hz := hb.size; (try simp only [World.size_alloc, World.size_setCell, World.size_drew] at hz); have hx := hall; (try simp only [allLt, and_true] at hx); (try (have hO := HO.out; replace HO := Lib.hid (Own.below hO (w' := w2) (by exact bel)); clear hO)); obtain ⟨w1, rfl⟩ : ∃ x, x = w2 := ⟨_, rfl⟩; (repeat (go_big_quiet_step (first | (go_at_call 90; first | exact calls_same (i_between _ _ _ true (by assumption) _) | exact calls_same (i_between _ _ _ false (by assumption) _) | exact calls_same (i_between _ _ _ _ rfl _)) | (go_at_call 102; first | exact calls_same (i_cellOk _ true (by assumption) _) | exact calls_same (i_cellOk _ false (by assumption) _) | exact calls_same (i_cellOk _ _ rfl _))))); refine wpQuiet_nil ?_; intro w2 hw'; have hb := grew_below hw'; clear hw'; (first | have hn := nw4 hb hall (by exact zo) | have hn := nw3 hb hall (by exact zo) | have hn := nw2 hb hall (by exact zo) | have hn := nw1 hb hall (by exact zo) | have hn := nw0 hb hall (by exact zo)); obtain ⟨hc, hf, hn, hc0⟩ := hn; replace hall := hn; clear hn; have hz := hb.size; (try simp only [World.size_alloc, World.size_setCell, World.size_drew] at hz); have hx := hall; (try simp only [allLt, and_true] at hx); (try (have hO := HO.out; replace HO := Lib.hid (Own.below hO (w' := w2) (by exact bel)); clear hO)); obtain ⟨w1, rfl⟩ : ∃ x, x = w2 := ⟨_, rfl⟩)); all_goals (go_roundw; (case rel => exact ⟨k + 1, by omega, by go_num, by rw [HS.out, HK.out]; simp only [cellOkP, HPV.out, b1, b3, hk1]; simp, by (have hB := HB.out; exact bel), by go_simp, by go_simp, by go_simp, by (try simp only [World.size_alloc]); omega⟩); (case measure => (simp [intOf]; omega))))
      · have hk1 : decide (0 < (k : Int)) = false := by simp; omega
        obtain ⟨g, o, rfl, hg, c0⟩ := HE.out k x hx
        have HPV := Lib.hid (rfl : prevOf cs k = prevOf cs k)
        have HS := Lib.hid (plOk_succ hx)
        have HN := Lib.hid (fun bad => plOk_not hlt hx bad)
        replace c0 := (hbel.cell (p := ⟨g, o + k, none⟩) hg).trans c0
        clear hx hbel
        (obtain ⟨w1, rfl⟩ : ∃ x, x = wr := ⟨_, rfl⟩; have hall : allLt [g, w.heap.size] w1.heap.size := ⟨by omega, by omega, trivial⟩; have hx := hall; (try simp only [allLt, and_true] at hx))
        cases b1 : between x 0 15
        · (go_wp2_with (first | (go_at_call 90; (first | (refine (i_between _ _ _ true (by assumption) _).mono ?_) | (refine (i_between _ _ _ false (by assumption) _).mono ?_) | (refine (i_between _ _ _ _ rfl _).mono ?_)); rintro e w2 ⟨rfl, rfl⟩) | (go_at_call 102; (first | (refine (i_cellOk _ true (by assumption) _).mono ?_) | (refine (i_cellOk _ false (by assumption) _).mono ?_) | (refine (i_cellOk _ _ rfl _).mono ?_)); rintro e w2 ⟨rfl, rfl⟩) | (with_reducible refine wp_region_grew2 (by kernel_rfl) (by kernel_rfl) ?_; intro w2 hb; (first | have hn := nw4 hb hall (by exact zo) | have hn := nw3 hb hall (by exact zo) | have hn := nw2 hb hall (by exact zo) | have hn := nw1 hb hall (by exact zo) | have hn := nw0 hb hall (by exact zo)); obtain ⟨hc, hf, hn, hc0⟩ := hn; replace hall := hn; clear hn; have hz := hb.size; (try simp only [World.size_alloc, World.size_setCell, World.size_drew] at hz); have hx := hall; (try simp only [allLt, and_true] at hx); (try (have hO := HO.out; replace HO := Lib.hid (Own.below hO (w' := w2) (by exact bel)); clear hO)); obtain ⟨w1, rfl⟩ : ∃ x, x = w2 := ⟨_, rfl⟩; (repeat (go_big_quiet_step (first | (go_at_call 90; first | exact calls_same (i_between _ _ _ true (by assumption) _) | exact calls_same (i_between _ _ _ false (by assumption) _) | exact calls_same (i_between _ _ _ _ rfl _)) | (go_at_call 102; first | exact calls_same (i_cellOk _ true (by assumption) _) | exact calls_same (i_cellOk _ false (by assumption) _) | exact calls_same (i_cellOk _ _ rfl _))))); refine wpQuiet_nil ?_; intro w2 hw'; have hb := grew_below hw'; clear hw'; (first | have hn := nw4 hb hall (by exact zo) | have hn := nw3 hb hall (by exact zo) | have hn := nw2 hb hall (by exact zo) | have hn := nw1 hb hall (by exact zo) | have hn := nw0 hb hall (by exact zo)); obtain ⟨hc, hf, hn, hc0⟩ := hn; replace hall := hn; clear hn; have hz := hb.size; (try simp only [World.size_alloc, World.size_setCell, World.size_drew] at hz); have hx := hall; (try simp only [allLt, and_true] at hx); (try (have hO := HO.out; replace HO := Lib.hid (Own.below hO (w' := w2) (by exact bel)); clear hO)); obtain ⟨w1, rfl⟩ : ∃ x, x = w2 := ⟨_, rfl⟩)); all_goals (go_ret; exact ⟨ret_bool (a := false) (by rw [planOk_eq, HN.out (by simp only [cellOkP, HPV.out, b1, hk1]; simp)]; rfl), by (have hB := HB.out; exact bel)⟩))
        · (go_wp2_with (first | (go_at_call 90; (first | (refine (i_between _ _ _ true (by assumption) _).mono ?_) | (refine (i_between _ _ _ false (by assumption) _).mono ?_) | (refine (i_between _ _ _ _ rfl _).mono ?_)); rintro e w2 ⟨rfl, rfl⟩) | (go_at_call 102; (first | (refine (i_cellOk _ true (by assumption) _).mono ?_) | (refine (i_cellOk _ false (by assumption) _).mono ?_) | (refine (i_cellOk _ _ rfl _).mono ?_)); rintro e w2 ⟨rfl, rfl⟩) | (with_reducible refine wp_region_grew2 (by kernel_rfl) (by kernel_rfl) ?_; intro w2 hb; (first | have hn := nw4 hb hall (by exact zo) | have hn := nw3 hb hall (by exact zo) | have hn := nw2 hb hall (by exact zo) | have hn := nw1 hb hall (by exact zo) | have hn := nw0 hb hall (by exact zo)); obtain ⟨hc, hf, hn, hc0⟩ := hn; replace hall := hn; clear hn; have hz := hb.size; (try simp only [World.size_alloc, World.size_setCell, World.size_drew] at hz); have hx := hall; (try simp only [allLt, and_true] at hx); (try (have hO := HO.out; replace HO := Lib.hid (Own.below hO (w' := w2) (by exact bel)); clear hO)); obtain ⟨w1, rfl⟩ : ∃ x, x = w2 := ⟨_, rfl⟩; (repeat (go_big_quiet_step (first | (go_at_call 90; first | exact calls_same (i_between _ _ _ true (by assumption) _) | exact calls_same (i_between _ _ _ false (by assumption) _) | exact calls_same (i_between _ _ _ _ rfl _)) | (go_at_call 102; first | exact calls_same (i_cellOk _ true (by assumption) _) | exact calls_same (i_cellOk _ false (by assumption) _) | exact calls_same (i_cellOk _ _ rfl _))))); refine wpQuiet_nil ?_; intro w2 hw'; have hb := grew_below hw'; clear hw'; (first | have hn := nw4 hb hall (by exact zo) | have hn := nw3 hb hall (by exact zo) | have hn := nw2 hb hall (by exact zo) | have hn := nw1 hb hall (by exact zo) | have hn := nw0 hb hall (by exact zo)); obtain ⟨hc, hf, hn, hc0⟩ := hn; replace hall := hn; clear hn; have hz := hb.size; (try simp only [World.size_alloc, World.size_setCell, World.size_drew] at hz); have hx := hall; (try simp only [allLt, and_true] at hx); (try (have hO := HO.out; replace HO := Lib.hid (Own.below hO (w' := w2) (by exact bel)); clear hO)); obtain ⟨w1, rfl⟩ : ∃ x, x = w2 := ⟨_, rfl⟩)); all_goals (go_roundw; (case rel => exact ⟨k + 1, by omega, by go_num, by rw [HS.out, HK.out]; simp only [cellOkP, HPV.out, b1, hk1]; simp, by (have hB := HB.out; exact bel), by go_simp, by go_simp, by go_simp, by (try simp only [World.size_alloc]); omega⟩); (case measure => (simp [intOf]; omega))))
    · have hlt' : ¬ (k : Int) < cs.length := by omega
      obtain rfl : k = cs.length := by omega
      clear hbel
      cases b1 : between kp 0 31
      · go_wp2_with (first | (go_at_call 90; (first | (refine (i_between _ _ _ true (by assumption) _).mono ?_) | (refine (i_between _ _ _ false (by assumption) _).mono ?_) | (refine (i_between _ _ _ _ rfl _).mono ?_)); rintro e w2 ⟨rfl, rfl⟩) | (go_at_call 102; (first | (refine (i_cellOk _ true (by assumption) _).mono ?_) | (refine (i_cellOk _ false (by assumption) _).mono ?_) | (refine (i_cellOk _ _ rfl _).mono ?_)); rintro e w2 ⟨rfl, rfl⟩) | (with_reducible refine wp_region_grew2 (by kernel_rfl) (by kernel_rfl) ?_; intro w2 hb; (first | have hn := nw4 hb hall (by exact zo) | have hn := nw3 hb hall (by exact zo) | have hn := nw2 hb hall (by exact zo) | have hn := nw1 hb hall (by exact zo) | have hn := nw0 hb hall (by exact zo)); obtain ⟨hc, hf, hn, hc0⟩ := hn; replace hall := hn; clear hn; have hz := hb.size; (try simp only [World.size_alloc, World.size_setCell, World.size_drew] at hz); have hx := hall; (try simp only [allLt, and_true] at hx); (try (have hO := HO.out; replace HO := Lib.hid (Own.below hO (w' := w2) (by exact bel)); clear hO)); obtain ⟨w1, rfl⟩ : ∃ x, x = w2 := ⟨_, rfl⟩; (repeat (go_big_quiet_step (first | (go_at_call 90; first | exact calls_same (i_between _ _ _ true (by assumption) _) | exact calls_same (i_between _ _ _ false (by assumption) _) | exact calls_same (i_between _ _ _ _ rfl _)) | (go_at_call 102; first | exact calls_same (i_cellOk _ true (by assumption) _) | exact calls_same (i_cellOk _ false (by assumption) _) | exact calls_same (i_cellOk _ _ rfl _))))); refine wpQuiet_nil ?_; intro w2 hw'; have hb := grew_below hw'; clear hw'; (first | have hn := nw4 hb hall (by exact zo) | have hn := nw3 hb hall (by exact zo) | have hn := nw2 hb hall (by exact zo) | have hn := nw1 hb hall (by exact zo) | have hn := nw0 hb hall (by exact zo)); obtain ⟨hc, hf, hn, hc0⟩ := hn; replace hall := hn; clear hn; have hz := hb.size; (try simp only [World.size_alloc, World.size_setCell, World.size_drew] at hz); have hx := hall; (try simp only [allLt, and_true] at hx); (try (have hO := HO.out; replace HO := Lib.hid (Own.below hO (w' := w2) (by exact bel)); clear hO)); obtain ⟨w1, rfl⟩ : ∃ x, x = w2 := ⟨_, rfl⟩))
        all_goals (go_ret; exact ⟨ret_bool (by rw [planOk_eq, HK.out]; simp [b1]), by (have hB := HB.out; exact bel)⟩)
      · cases b2 : between mv 0 31
        · go_wp2_with (first | (go_at_call 90; (first | (refine (i_between _ _ _ true (by assumption) _).mono ?_) | (refine (i_between _ _ _ false (by assumption) _).mono ?_) | (refine (i_between _ _ _ _ rfl _).mono ?_)); rintro e w2 ⟨rfl, rfl⟩) | (go_at_call 102; (first | (refine (i_cellOk _ true (by assumption) _).mono ?_) | (refine (i_cellOk _ false (by assumption) _).mono ?_) | (refine (i_cellOk _ _ rfl _).mono ?_)); rintro e w2 ⟨rfl, rfl⟩) | (with_reducible refine wp_region_grew2 (by kernel_rfl) (by kernel_rfl) ?_; intro w2 hb; (first | have hn := nw4 hb hall (by exact zo) | have hn := nw3 hb hall (by exact zo) | have hn := nw2 hb hall (by exact zo) | have hn := nw1 hb hall (by exact zo) | have hn := nw0 hb hall (by exact zo)); obtain ⟨hc, hf, hn, hc0⟩ := hn; replace hall := hn; clear hn; have hz := hb.size; (try simp only [World.size_alloc, World.size_setCell, World.size_drew] at hz); have hx := hall; (try simp only [allLt, and_true] at hx); (try (have hO := HO.out; replace HO := Lib.hid (Own.below hO (w' := w2) (by exact bel)); clear hO)); obtain ⟨w1, rfl⟩ : ∃ x, x = w2 := ⟨_, rfl⟩; (repeat (go_big_quiet_step (first | (go_at_call 90; first | exact calls_same (i_between _ _ _ true (by assumption) _) | exact calls_same (i_between _ _ _ false (by assumption) _) | exact calls_same (i_between _ _ _ _ rfl _)) | (go_at_call 102; first | exact calls_same (i_cellOk _ true (by assumption) _) | exact calls_same (i_cellOk _ false (by assumption) _) | exact calls_same (i_cellOk _ _ rfl _))))); refine wpQuiet_nil ?_; intro w2 hw'; have hb := grew_below hw'; clear hw'; (first | have hn := nw4 hb hall (by exact zo) | have hn := nw3 hb hall (by exact zo) | have hn := nw2 hb hall (by exact zo) | have hn := nw1 hb hall (by exact zo) | have hn := nw0 hb hall (by exact zo)); obtain ⟨hc, hf, hn, hc0⟩ := hn; replace hall := hn; clear hn; have hz := hb.size; (try simp only [World.size_alloc, World.size_setCell, World.size_drew] at hz); have hx := hall; (try simp only [allLt, and_true] at hx); (try (have hO := HO.out; replace HO := Lib.hid (Own.below hO (w' := w2) (by exact bel)); clear hO)); obtain ⟨w1, rfl⟩ : ∃ x, x = w2 := ⟨_, rfl⟩))
          all_goals (go_ret; exact ⟨ret_bool (by rw [planOk_eq, HK.out]; simp [b1, b2]), by (have hB := HB.out; exact bel)⟩)
        · rcases eqc kp mv with ⟨b3, b4⟩ | ⟨b3, b4⟩
          · go_wp2_with (first | (go_at_call 90; (first | (refine (i_between _ _ _ true (by assumption) _).mono ?_) | (refine (i_between _ _ _ false (by assumption) _).mono ?_) | (refine (i_between _ _ _ _ rfl _).mono ?_)); rintro e w2 ⟨rfl, rfl⟩) | (go_at_call 102; (first | (refine (i_cellOk _ true (by assumption) _).mono ?_) | (refine (i_cellOk _ false (by assumption) _).mono ?_) | (refine (i_cellOk _ _ rfl _).mono ?_)); rintro e w2 ⟨rfl, rfl⟩) | (with_reducible refine wp_region_grew2 (by kernel_rfl) (by kernel_rfl) ?_; intro w2 hb; (first | have hn := nw4 hb hall (by exact zo) | have hn := nw3 hb hall (by exact zo) | have hn := nw2 hb hall (by exact zo) | have hn := nw1 hb hall (by exact zo) | have hn := nw0 hb hall (by exact zo)); obtain ⟨hc, hf, hn, hc0⟩ := hn; replace hall := hn; clear hn; have hz := hb.size; (try simp only [World.size_alloc, World.size_setCell, World.size_drew] at hz); have hx := hall; (try simp only [allLt, and_true] at hx); (try (have hO := HO.out; replace HO := Lib.hid (Own.below hO (w' := w2) (by exact bel)); clear hO)); obtain ⟨w1, rfl⟩ : ∃ x, x = w2 := ⟨_, rfl⟩; (repeat (go_big_quiet_step (first | (go_at_call 90; first | exact calls_same (i_between _ _ _ true (by assumption) _) | exact calls_same (i_between _ _ _ false (by assumption) _) | exact calls_same (i_between _ _ _ _ rfl _)) | (go_at_call 102; first | exact calls_same (i_cellOk _ true (by assumption) _) | exact calls_same (i_cellOk _ false (by assumption) _) | exact calls_same (i_cellOk _ _ rfl _))))); refine wpQuiet_nil ?_; intro w2 hw'; have hb := grew_below hw'; clear hw'; (first | have hn := nw4 hb hall (by exact zo) | have hn := nw3 hb hall (by exact zo) | have hn := nw2 hb hall (by exact zo) | have hn := nw1 hb hall (by exact zo) | have hn := nw0 hb hall (by exact zo)); obtain ⟨hc, hf, hn, hc0⟩ := hn; replace hall := hn; clear hn; have hz := hb.size; (try simp only [World.size_alloc, World.size_setCell, World.size_drew] at hz); have hx := hall; (try simp only [allLt, and_true] at hx); (try (have hO := HO.out; replace HO := Lib.hid (Own.below hO (w' := w2) (by exact bel)); clear hO)); obtain ⟨w1, rfl⟩ : ∃ x, x = w2 := ⟨_, rfl⟩))
            all_goals (go_ret; exact ⟨ret_bool (by rw [planOk_eq, HK.out]; simp [b1, b2, b4]), by (have hB := HB.out; exact bel)⟩)
          · go_wp2_with (first | (go_at_call 90; (first | (refine (i_between _ _ _ true (by assumption) _).mono ?_) | (refine (i_between _ _ _ false (by assumption) _).mono ?_) | (refine (i_between _ _ _ _ rfl _).mono ?_)); rintro e w2 ⟨rfl, rfl⟩) | (go_at_call 102; (first | (refine (i_cellOk _ true (by assumption) _).mono ?_) | (refine (i_cellOk _ false (by assumption) _).mono ?_) | (refine (i_cellOk _ _ rfl _).mono ?_)); rintro e w2 ⟨rfl, rfl⟩) | (with_reducible refine wp_region_grew2 (by kernel_rfl) (by kernel_rfl) ?_; intro w2 hb; (first | have hn := nw4 hb hall (by exact zo) | have hn := nw3 hb hall (by exact zo) | have hn := nw2 hb hall (by exact zo) | have hn := nw1 hb hall (by exact zo) | have hn := nw0 hb hall (by exact zo)); obtain ⟨hc, hf, hn, hc0⟩ := hn; replace hall := hn; clear hn; have hz := hb.size; (try simp only [World.size_alloc, World.size_setCell, World.size_drew] at hz); have hx := hall; (try simp only [allLt, and_true] at hx); (try (have hO := HO.out; replace HO := Lib.hid (Own.below hO (w' := w2) (by exact bel)); clear hO)); obtain ⟨w1, rfl⟩ : ∃ x, x = w2 := ⟨_, rfl⟩; (repeat (go_big_quiet_step (first | (go_at_call 90; first | exact calls_same (i_between _ _ _ true (by assumption) _) | exact calls_same (i_between _ _ _ false (by assumption) _) | exact calls_same (i_between _ _ _ _ rfl _)) | (go_at_call 102; first | exact calls_same (i_cellOk _ true (by assumption) _) | exact calls_same (i_cellOk _ false (by assumption) _) | exact calls_same (i_cellOk _ _ rfl _))))); refine wpQuiet_nil ?_; intro w2 hw'; have hb := grew_below hw'; clear hw'; (first | have hn := nw4 hb hall (by exact zo) | have hn := nw3 hb hall (by exact zo) | have hn := nw2 hb hall (by exact zo) | have hn := nw1 hb hall (by exact zo) | have hn := nw0 hb hall (by exact zo)); obtain ⟨hc, hf, hn, hc0⟩ := hn; replace hall := hn; clear hn; have hz := hb.size; (try simp only [World.size_alloc, World.size_setCell, World.size_drew] at hz); have hx := hall; (try simp only [allLt, and_true] at hx); (try (have hO := HO.out; replace HO := Lib.hid (Own.below hO (w' := w2) (by exact bel)); clear hO)); obtain ⟨w1, rfl⟩ : ∃ x, x = w2 := ⟨_, rfl⟩))
            all_goals (go_ret; exact ⟨ret_bool (by rw [planOk_eq, HK.out]; simp [b1, b2, b4]), by (have hB := HB.out; exact bel)⟩)

def planSaves (kp mv : Int) (cs : List Int) : Int := if planOk kp mv cs then 16 - (cs.length : Int) else 0
theorem i_PlanSaves (kp mv : Int) (v : Value) (cs : List Int) (w : World) (ha : IntsAt w v cs) : Calls Try.prog 51 #[.agg #[.int .i64 kp, .int .i64 mv, v]] w fun e w' => e = .returned (.int .i64 (planSaves kp mv cs)) ∧ Below w.heap.size w w' := by
  obtain ⟨ao, ca, rfl, h1, h2⟩ := ha.shape
  have hm : cs.length ≤ 9223372036854775807 := by unfold maxLen at h2; omega
  have HA := Lib.hid ha
  have e1 : wrap64 (16 - (cs.length : Int)) = 16 - (cs.length : Int) := IntWalk.wrap64_in _ ⟨by omega, by omega⟩
  have e2 : IntKind.i64.wrap (16 - (cs.length : Int)) = 16 - (cs.length : Int) := (wrapI _).trans e1
  unfold planSaves
  clear ha h1 h2
  (have hall := all_nil w; go_enter Try.func51, Try.ntmps51)
  go_wp2_with (first | (go_at_call 52; (refine (i_PlanOk kp mv _ cs _ rfl _ (HA.out.below (by exact bel))).mono ?_; rintro e w2 ⟨rfl, hb⟩; have kwa_0_0 : w2.cell? ⟨w.heap.size, 0, none⟩ = some (.int .i64 kp) := kc hb; have kwa_0_1 : w2.cell? ⟨w.heap.size, 1, none⟩ = some (.int .i64 mv) := kc hb; have kwa_0_2 : w2.cell? ⟨w.heap.size, 2, none⟩ = some (.slice ao cs.length ca) := kc hb; have xwa_0 : w.heap.size < w2.heap.size := xc hb; have hzwa := hb.size; (try simp only [World.size_alloc, World.size_setCell, World.size_drew] at hzwa); have HB := Lib.hid hb; clear hb; obtain ⟨wa, rfl⟩ : ∃ x, x = w2 := ⟨_, rfl⟩; generalize hp : planOk kp mv cs = b at *)) | (with_reducible refine wp_region_grew2 (by kernel_rfl) (by kernel_rfl) ?_; intro w2 hb; (first | have hn := nw4 hb hall (by exact zo) | have hn := nw3 hb hall (by exact zo) | have hn := nw2 hb hall (by exact zo) | have hn := nw1 hb hall (by exact zo) | have hn := nw0 hb hall (by exact zo)); obtain ⟨hc, hf, hn, hc0⟩ := hn; replace hall := hn; clear hn; have hz := hb.size; (try simp only [World.size_alloc, World.size_setCell, World.size_drew] at hz); have hx := hall; (try simp only [allLt, and_true] at hx); (try (have hO := HO.out; replace HO := Lib.hid (Own.below hO (w' := w2) (by exact bel)); clear hO)); obtain ⟨w1, rfl⟩ : ∃ x, x = w2 := ⟨_, rfl⟩; (repeat (go_big_quiet_step (fail))); refine wpQuiet_nil ?_; intro w2 hw'; have hb := grew_below hw'; clear hw'; (first | have hn := nw4 hb hall (by exact zo) | have hn := nw3 hb hall (by exact zo) | have hn := nw2 hb hall (by exact zo) | have hn := nw1 hb hall (by exact zo) | have hn := nw0 hb hall (by exact zo)); obtain ⟨hc, hf, hn, hc0⟩ := hn; replace hall := hn; clear hn; have hz := hb.size; (try simp only [World.size_alloc, World.size_setCell, World.size_drew] at hz); have hx := hall; (try simp only [allLt, and_true] at hx); (try (have hO := HO.out; replace HO := Lib.hid (Own.below hO (w' := w2) (by exact bel)); clear hO)); obtain ⟨w1, rfl⟩ : ∃ x, x = w2 := ⟨_, rfl⟩))
  all_goals (have hB := HB.out; go_ret; refine ⟨by simp_all, by exact bel⟩)

theorem i_copyInts (v : Value) (xs : List Int) (hs : xs.length ≤ 1048576) (w : World) (ha : IntsAt w v xs) : Calls Try.prog 103 #[v] w (NewInts w xs) := by
  have HA := Lib.hid ha
  obtain ⟨ao, ca, rfl, _, _⟩ := ha.shape
  clear ha
  (have hall := all_nil w; go_enter Try.func103, Try.ntmps103)
  go_wp2_with (first | (at_builtin; refine wpList_appendAll elemInt rfl _ _ rfl lenInt oneInt rfl (Own.empty' _ _ _ (w.heap.size) _ _ (by simp) (by exact zt)) (by exact zt) rfl (HA.out.below (by exact bel)) (by simp only [List.length_nil, maxLen]; omega) ?_; intro v2 w2 hown2 hgr2 hat2 hb; (try simp only [List.nil_append] at hown2); obtain ⟨v2o, v2c, rfl, -, -⟩ := hown2.shape; skip))
  go_ret
  exact ⟨_, rfl, hown2, by exact bel⟩
def mergedText (kp mv : Int) (cs ks ms : List Int) : List Int := if (planOk kp mv cs && ks.length == 16 && ms.length == 16) = true then copyRow ms ks cs else []
theorem planOk_cell {kp mv : Int} {cs : List Int} {j : Nat} {c : Int} (h : planOk kp mv cs = true) (hc : cs[j]? = some c) : between c 0 15 = true := by
  rw [planOk_eq] at h
  simp only [Bool.and_eq_true] at h
  have := allTo_iff.1 h.1 j (getx_lt hc)
  rw [getD_of hc] at this
  unfold cellOkP at this
  simp only [Bool.and_eq_true] at this
  exact this.1
set_option maxRecDepth 20000 in
set_option maxHeartbeats 1600000 in
theorem i_MergedText (kp mv : Int) (vk vm vc : Value) (ks ms cs : List Int) (w : World) (hk : IntsAt w vk ks) (hm : IntsAt w vm ms) (hc : IntsAt w vc cs) : Calls Try.prog 53 #[vk, vm, .agg #[.int .i64 kp, .int .i64 mv, vc]] w (NewInts w (mergedText kp mv cs ks ms)) := by
  obtain ⟨kso, ksc, rfl, _, hkm⟩ := hk.shape
  obtain ⟨mso, msc, rfl, _, hmm⟩ := hm.shape
  obtain ⟨co, cc, rfl, _, hcm⟩ := hc.shape
  have HK := Lib.hid hk; have HM := Lib.hid hm; have HC := Lib.hid hc
  have hk9 : ks.length ≤ 9223372036854775807 := by unfold maxLen at hkm; omega
  have hm9 : ms.length ≤ 9223372036854775807 := by unfold maxLen at hmm; omega
  have hc9 : cs.length ≤ 9223372036854775807 := by unfold maxLen at hcm; omega
  clear hk hm hc hkm hmm hcm
  cases hp : planOk kp mv cs
  · have HP := Lib.hid hp
    have e : mergedText kp mv cs ks ms = [] := by unfold mergedText; rw [hp]; rfl
    rw [e]; clear e
    (have hall := all_nil w; go_enter Try.func53, Try.ntmps53)
    go_wp2_with (first | (go_at_call 52; (refine (i_PlanOk kp mv _ cs false HP.out _ (HC.out.below (by exact bel))).mono ?_; rintro e w2 ⟨rfl, hb⟩; have HB1 := Lib.hid hb; have kwa_0_0 : w2.cell? ⟨w.heap.size, 0, none⟩ = some (.int .i64 kp) := kc hb; have kwa_0_1 : w2.cell? ⟨w.heap.size, 1, none⟩ = some (.int .i64 mv) := kc hb; have kwa_0_2 : w2.cell? ⟨w.heap.size, 2, none⟩ = some (.slice co cs.length cc) := kc hb; have xwa_0 : w.heap.size < w2.heap.size := xc hb; have hzwa := hb.size; (try simp only [World.size_alloc, World.size_setCell, World.size_drew] at hzwa); obtain ⟨wa, rfl⟩ : ∃ x, x = w2 := ⟨_, rfl⟩)))
    skip
    go_ret
    exact ⟨_, rfl, Own.nil _ _ _ _ _, by exact bel⟩
  have HP := Lib.hid hp
  by_cases h1 : ks.length = 16
  rotate_left
  · have h1' : ((ks.length : Int) != 16) = true := by simp; omega
    have e : mergedText kp mv cs ks ms = [] := by unfold mergedText; rw [if_neg (by simp [h1])]
    rw [e]; clear e
    (have hall := all_nil w; go_enter Try.func53, Try.ntmps53)
    go_wp2_with (first | (go_at_call 52; (refine (i_PlanOk kp mv _ cs true HP.out _ (HC.out.below (by exact bel))).mono ?_; rintro e w2 ⟨rfl, hb⟩; have HB1 := Lib.hid hb; have kwa_0_0 : w2.cell? ⟨w.heap.size, 0, none⟩ = some (.int .i64 kp) := kc hb; have kwa_0_1 : w2.cell? ⟨w.heap.size, 1, none⟩ = some (.int .i64 mv) := kc hb; have kwa_0_2 : w2.cell? ⟨w.heap.size, 2, none⟩ = some (.slice co cs.length cc) := kc hb; have xwa_0 : w.heap.size < w2.heap.size := xc hb; have hzwa := hb.size; (try simp only [World.size_alloc, World.size_setCell, World.size_drew] at hzwa); obtain ⟨wa, rfl⟩ : ∃ x, x = w2 := ⟨_, rfl⟩)))
    go_ret
    exact ⟨_, rfl, Own.nil _ _ _ _ _, by exact bel⟩
  have h1' : ((ks.length : Int) != 16) = false := by simp; omega
  by_cases h2 : ms.length = 16
  rotate_left
  · have h2' : ((ms.length : Int) != 16) = true := by simp; omega
    have e : mergedText kp mv cs ks ms = [] := by unfold mergedText; rw [if_neg (by simp [h2])]
    rw [e]; clear e
    (have hall := all_nil w; go_enter Try.func53, Try.ntmps53)
    go_wp2_with (first | (go_at_call 52; (refine (i_PlanOk kp mv _ cs true HP.out _ (HC.out.below (by exact bel))).mono ?_; rintro e w2 ⟨rfl, hb⟩; have HB1 := Lib.hid hb; have kwa_0_0 : w2.cell? ⟨w.heap.size, 0, none⟩ = some (.int .i64 kp) := kc hb; have kwa_0_1 : w2.cell? ⟨w.heap.size, 1, none⟩ = some (.int .i64 mv) := kc hb; have kwa_0_2 : w2.cell? ⟨w.heap.size, 2, none⟩ = some (.slice co cs.length cc) := kc hb; have xwa_0 : w.heap.size < w2.heap.size := xc hb; have hzwa := hb.size; (try simp only [World.size_alloc, World.size_setCell, World.size_drew] at hzwa); obtain ⟨wa, rfl⟩ : ∃ x, x = w2 := ⟨_, rfl⟩)))
    go_ret
    exact ⟨_, rfl, Own.nil _ _ _ _ _, by exact bel⟩
  have h2' : ((ms.length : Int) != 16) = false := by simp; omega
  have HE : Hid (mergedText kp mv cs ks ms = copyRow ms ks cs) := by unfold Hid mergedText; rw [if_pos (by rw [hp, h1, h2]; rfl)]
  rw [HE.out]
  have HL1 := Lib.hid h1; have HL2 := Lib.hid h2
  have hk16 : ks.length ≤ 16 := by omega
  clear h1 h2 hp
  (have hall := all_nil w; go_enter Try.func53, Try.ntmps53)
  go_wp2_with (first | (go_at_call 52; (refine (i_PlanOk kp mv _ cs true HP.out _ (HC.out.below (by exact bel))).mono ?_; rintro e w2 ⟨rfl, hb⟩; have HB1 := Lib.hid hb; have kwa_0_0 : w2.cell? ⟨w.heap.size, 0, none⟩ = some (.int .i64 kp) := kc hb; have kwa_0_1 : w2.cell? ⟨w.heap.size, 1, none⟩ = some (.int .i64 mv) := kc hb; have kwa_0_2 : w2.cell? ⟨w.heap.size, 2, none⟩ = some (.slice co cs.length cc) := kc hb; have xwa_0 : w.heap.size < w2.heap.size := xc hb; have hzwa := hb.size; (try simp only [World.size_alloc, World.size_setCell, World.size_drew] at hzwa); obtain ⟨wa, rfl⟩ : ∃ x, x = w2 := ⟨_, rfl⟩)) | (go_at_call 103; (refine (i_copyInts _ ks (by omega) _ (HK.out.below (by exact bel))).mono ?_; rintro e w2 ⟨v', rfl, hvo, hb⟩; obtain ⟨vo, vc, rfl, -, -⟩ := hvo.shape; have OV := Lib.hid hvo; have HB2 := Lib.hid hb; have kwb_0_0 : w2.cell? ⟨w.heap.size, 0, none⟩ = some (.int .i64 kp) := kc hb; have kwb_0_1 : w2.cell? ⟨w.heap.size, 1, none⟩ = some (.int .i64 mv) := kc hb; have kwb_0_2 : w2.cell? ⟨w.heap.size, 2, none⟩ = some (.slice co cs.length cc) := kc hb; have xwb_0 : w.heap.size < w2.heap.size := xc hb; have hzwb := hb.size; (try simp only [World.size_alloc, World.size_setCell, World.size_drew] at hzwb); clear hvo; obtain ⟨wb, rfl⟩ : ∃ x, x = w2 := ⟨_, rfl⟩)))
  have hbb : Below w.heap.size w wb := by (have hB1 := HB1.out; have hB2 := HB2.out; exact bel)
  have HBB := Lib.hid hbb
  have OW : OwnI (w.heap.size + 1) wb (.slice vo ks.length vc) ks := Own.mono OV.out (by (try simp only [World.size_alloc]); omega)
  have HOW := Lib.hid OW
  clear OW hbb
  go_loopw [28] (fun i wr => ∃ j : Nat, j ≤ cs.length ∧ i = .int .i64 j ∧ OwnI (w.heap.size + 1) wr (.slice vo ks.length vc) (copyRow ms ks (cs.take j)) ∧ Below (w.heap.size + 1) wb wr) (fun i _ => cs.length - (intOf i).toNat)
  case atStart => exact ⟨0, Nat.zero_le _, rfl, HOW.out, Below.refl _ _⟩
  case round =>
    obtain ⟨j, hj, rfl, hown, hbel⟩ := hrel
    have HO := Lib.hid hown; have HL := Lib.hid hbel
    have hsz := hbel.size
    have hall2 := HBB.out.trans (hbel.mono (by omega))
    have HA := Lib.hid hall2
    have q2 := (hbel.cell (p := ⟨w.heap.size, 2, none⟩) (Nat.lt_succ_self _)).trans kwb_0_2
    obtain ⟨w1, rfl⟩ : ∃ x, x = wr := ⟨_, rfl⟩
    have xw : w.heap.size < w1.heap.size := by omega
    by_cases hlt : j < cs.length
    · have hlt' : (j : Int) < cs.length := by omega
      obtain ⟨c, hc⟩ := getx hlt
      have bb := between_iff.1 (planOk_cell HP.out hc)
      obtain ⟨cn, rfl⟩ := Int.eq_ofNat_of_zero_le bb.1
      have hcnN : cn < 16 := by omega
      obtain ⟨_, _, hse, -, -, hsr⟩ := IntsAt.open (HC.out.below hall2)
      obtain ⟨gs, os, hso, hgs, hcc⟩ := hsr j _ hc
      simp only [Value.slice.injEq] at hse
      rw [← hse.1] at hso
      subst hso
      obtain ⟨mx, hmx⟩ := getx (xs := ms) (k := cn) (by rw [HL2.out]; omega)
      obtain ⟨_, _, hme, -, -, hmr⟩ := IntsAt.open (HM.out.below hall2)
      obtain ⟨gm, om, hmo, hgm, hcm⟩ := hmr cn _ hmx
      simp only [Value.slice.injEq] at hme
      rw [← hme.1] at hmo
      subst hmo
      have hln : (copyRow ms ks (cs.take j)).length = 16 := by rw [copyRow_len, HL1.out]
      obtain ⟨oy, hoy⟩ := getx (xs := copyRow ms ks (cs.take j)) (k := cn) (by omega)
      obtain ⟨gw, gwc, hgw, -, -⟩ := Own.addr hown (by omega)
      simp only [Value.slice.injEq] at hgw
      obtain ⟨rfl, -, rfl⟩ := hgw
      obtain ⟨hBo, xo, eo, zo_⟩ := OwnI.slotI hown hoy
      have hcl1 : (cn : Int) < ms.length := by have := HL2.out; omega
      have hcl2 : (cn : Int) < ks.length := by have := HL1.out; omega
      have HCJ := Lib.hid hc; have HMX := Lib.hid (getD_of (d := 0) hmx); have HCN := Lib.hid hcnN; have HLN := Lib.hid hln
      clear hc bb hse hsr hme hmr hmx hoy hown hbel hln hall2
      go_wp2
      skip
      go_roundw
      case rel =>
        have O1 : OwnI (w.heap.size + 1) w1 _ _ := Own.below HO.out (by exact bel)
        have S := Own.set1 lenInt O1 rfl cn (.int .i64 mx) mx rfl
        have e := copyRow_snoc (ra := ms) (rb := ks) HCJ.out
        rw [Int.toNat_natCast, HMX.out] at e
        have hL := HL.out
        exact ⟨j + 1, by omega, by go_num, by rw [e]; exact S.1, by exact bel⟩
      case measure => simp [intOf]; omega
    · have hlt' : ¬ (j : Int) < cs.length := by omega
      obtain rfl : j = cs.length := by omega
      clear hown hbel hall2
      go_wp2
      go_ret
      exact ⟨_, rfl, by have h := HO.out; rw [List.take_length] at h; exact h.mono (by omega), HA.out⟩

end Go.Proofs.Ytkdafincnmkjnaa
