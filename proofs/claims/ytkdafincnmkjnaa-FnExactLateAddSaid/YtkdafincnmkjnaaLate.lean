/-
  A free that has to wait is noted, both sides.
-/
import Derived.Test.YtkdafincnmkjnaaFamC
import Derived.Test.YtkdafincnmkjnaaAppend
import Derived.Laws.StructEq
set_option linter.unusedVariables false
set_option linter.unusedSimpArgs false
namespace Go.Proofs.Ytkdafincnmkjnaa
open Go.RowKit
theorem eqlLt (w : World) (a b c d : Int) : (binOp .eql 86 (.agg #[.int .i64 a, .int .i64 b]) (.agg #[.int .i64 c, .int .i64 d])).run Try.prog w = .ok (.bool ((a == c) && (b == d))) w := by
  rw [run_eql_struct, run_equalIn_agg (P := Try.prog) w 9999 _ _ _ (by kernel_rfl) (by kernel_rfl)]
  by_cases h1 : a = c
  · subst h1
    by_cases h2 : b = d
    · subst h2
      simp [go_sem]
    · simp [go_sem, h2]
  · simp [go_sem, h1]
attribute [go_sem ↓] eqlLt
def eqL (x y : Lt) : Bool := (x.ix == y.ix) && (x.sl == y.sl)
def hasLTo (xs : List Lt) (x : Lt) : Nat → Bool
  | 0 => false
  | k + 1 => hasLTo xs x k || eqL (xs.getD k default) x
def hasL (xs : List Lt) (x : Lt) : Bool := hasLTo xs x xs.length
theorem hasLTo_succ {xs : List Lt} {x y : Lt} {k : Nat} (h : xs[k]? = some y) : hasLTo xs x (k + 1) = (hasLTo xs x k || eqL y x) := by rw [hasLTo, getD_of h]
theorem hasLTo_true {xs : List Lt} {x : Lt} {k n : Nat} (hk : k < n) (h : eqL (xs.getD k default) x = true) : hasLTo xs x n = true := by
  induction n with
  | zero => omega
  | succ n ih =>
    rw [hasLTo]
    rcases Nat.lt_or_ge k n with h1 | h1
    · rw [ih h1]; rfl
    · obtain rfl : k = n := by omega
      rw [h, Bool.or_true]
def lateB (xs : List Lt) (x : Lt) : Bool := !hasL xs x && decide (xs.length < 40)
def lateL (xs : List Lt) (x : Lt) : List Lt := if lateB xs x then xs ++ [x] else xs
def NewLB (w : World) (xs : List Lt) (b : Bool) (e : Ending) (w' : World) : Prop := ∃ v, e = .returned (.tuple #[v, .bool b]) ∧ OwnLt w.heap.size w' v xs ∧ Below w.heap.size w w'
set_option maxHeartbeats 1600000 in
theorem s_l16Has (va : Value) (xs : List Lt) (x : Lt) (w : World) (ha : LtAt w va xs) : Calls Try.prog 107 #[va, .agg #[.int .i64 x.ix, .int .i64 x.sl]] w (fun e w' => e = .returned (.bool (hasL xs x)) ∧ Below w.heap.size w w') := by
  obtain ⟨ao, ca, rfl, _, hm, hra⟩ := LtAt.open ha
  have hle : xs.length ≤ 9223372036854775807 := by unfold maxLen at hm; omega
  have HA := Lib.hid hra
  clear ha hm hra
  obtain ⟨xi, hxi⟩ : ∃ xi, xi = x.ix := ⟨_, rfl⟩
  obtain ⟨xs_, hxs⟩ : ∃ xs_, xs_ = x.sl := ⟨_, rfl⟩
  have HXE := Lib.hid (show x = ⟨xi, xs_⟩ from by rw [hxi, hxs])
  rw [← hxi, ← hxs]
  clear hxi hxs
  (have hall := all_nil w; go_enter Try.func107, Try.ntmps107)
  go_wp2_with (first | (with_reducible refine wp_region_grew2 (by kernel_rfl) (by kernel_rfl) ?_; intro w2 hb; (first | have hn := nw4 hb hall (by exact zo) | have hn := nw3 hb hall (by exact zo) | have hn := nw2 hb hall (by exact zo) | have hn := nw1 hb hall (by exact zo) | have hn := nw0 hb hall (by exact zo)); obtain ⟨hc, hf, hn, hc0⟩ := hn; replace hall := hn; clear hn; have hz := hb.size; (try simp only [World.size_alloc, World.size_setCell, World.size_drew] at hz); have hx := hall; (try simp only [allLt, and_true] at hx); obtain ⟨w1, rfl⟩ : ∃ x, x = w2 := ⟨_, rfl⟩; (repeat (go_big_quiet_step (fail))); refine wpQuiet_nil ?_; intro w2 hw'; have hb := grew_below hw'; clear hw'; (first | have hn := nw4 hb hall (by exact zo) | have hn := nw3 hb hall (by exact zo) | have hn := nw2 hb hall (by exact zo) | have hn := nw1 hb hall (by exact zo) | have hn := nw0 hb hall (by exact zo)); obtain ⟨hc, hf, hn, hc0⟩ := hn; replace hall := hn; clear hn; have hz := hb.size; (try simp only [World.size_alloc, World.size_setCell, World.size_drew] at hz); have hx := hall; (try simp only [allLt, and_true] at hx); obtain ⟨w1, rfl⟩ : ∃ x, x = w2 := ⟨_, rfl⟩))
  go_loopw [5] (fun i wr => ∃ k : Nat, k ≤ xs.length ∧ i = .int .i64 k ∧ hasLTo xs x k = false ∧ Below w.heap.size w wr ∧ wr.cell? ⟨w.heap.size, 0, none⟩ = some (.int .i64 xi) ∧ wr.cell? ⟨w.heap.size, 1, none⟩ = some (.int .i64 xs_) ∧ w.heap.size < wr.heap.size) (fun i _ => xs.length - (intOf i).toNat)
  case atStart => exact ⟨0, Nat.zero_le _, rfl, rfl, by exact bel, by go_simp, by go_simp, by go_simp⟩
  case round =>
    obtain ⟨k, hk, rfl, hn, hbel, q0, q1, xw⟩ := hrel
    have HN := Lib.hid hn; have HB := Lib.hid hbel; have hsz := hbel.size
    clear hn
    obtain ⟨wo, rfl⟩ : ∃ x, x = wr := ⟨_, rfl⟩
    by_cases hlt : k < xs.length
    · have hlt' : (k : Int) < xs.length := by omega
      obtain ⟨y, hy⟩ := getx hlt
      obtain ⟨g, o, rfl, hg, c0, c1⟩ := HA.out k y hy
      have HS := Lib.hid (hasLTo_succ (x := x) hy)
      have HY := Lib.hid (getD_of (d := default) hy)
      replace c0 := (hbel.cell (p := ⟨g, o + k * 2, none⟩) hg).trans c0
      replace c1 := (hbel.cell (p := ⟨g, o + k * 2 + 1, none⟩) hg).trans c1
      have xg : g < wo.heap.size := by omega
      clear hy hbel
      obtain ⟨yi, ys_⟩ := y
      dsimp only at c0 c1
      by_cases e1 : yi = xi
      · replace e1 := e1.symm; subst e1
        have f0 : (xi == xi) = true := by simp
        by_cases e2 : ys_ = xs_
        · replace e2 := e2.symm; subst e2
          have f1 : (xs_ == xs_) = true := by simp
          have hq : eqL ⟨xi, xs_⟩ x = true := by rw [HXE.out]; simp [eqL]
          go_wp2_with (first | (with_reducible refine wp_region_grew2 (by kernel_rfl) (by kernel_rfl) ?_; intro w2 hb; have kwa_P_0 : w2.cell? ⟨w.heap.size, 0, none⟩ = some (.int .i64 xi) := kc hb; have kwa_P_1 : w2.cell? ⟨w.heap.size, 1, none⟩ = some (.int .i64 xs_) := kc hb; have kwa_G0 : w2.cell? ⟨g, o + k * 2, none⟩ = some (.int .i64 xi) := kc hb; have kwa_G1 : w2.cell? ⟨g, o + k * 2 + 1, none⟩ = some (.int .i64 xs_) := kc hb; have xwa_P : w.heap.size < w2.heap.size := xc hb; have xwa_GG : g < w2.heap.size := xc hb; have hzwa := hb.size; (try simp only [World.size_alloc, World.size_setCell, World.size_drew] at hzwa); have HB1 := Lib.hid hb; obtain ⟨wa, rfl⟩ : ∃ x, x = w2 := ⟨_, rfl⟩; (repeat (go_big_quiet_step (fail))); refine wpQuiet_nil ?_; intro w2 hw'; have hb := grew_below hw'; clear hw'; have kwb_P_0 : w2.cell? ⟨w.heap.size, 0, none⟩ = some (.int .i64 xi) := kc hb; have kwb_P_1 : w2.cell? ⟨w.heap.size, 1, none⟩ = some (.int .i64 xs_) := kc hb; have kwb_G0 : w2.cell? ⟨g, o + k * 2, none⟩ = some (.int .i64 xi) := kc hb; have kwb_G1 : w2.cell? ⟨g, o + k * 2 + 1, none⟩ = some (.int .i64 xs_) := kc hb; have xwb_P : w.heap.size < w2.heap.size := xc hb; have xwb_GG : g < w2.heap.size := xc hb; have hzwb := hb.size; (try simp only [World.size_alloc, World.size_setCell, World.size_drew] at hzwb); have HB2 := Lib.hid hb; obtain ⟨wb, rfl⟩ : ∃ x, x = w2 := ⟨_, rfl⟩))
          skip
          go_ret
          have hB := HB.out; have hB1 := HB1.out; have hB2 := HB2.out
          exact ⟨ret_bool (a := true) (hasLTo_true hlt (by rw [HY.out]; exact hq)).symm, by exact bel⟩
        · have f1 : (ys_ == xs_) = false := by simpa using e2
          have f2 : (xs_ == ys_) = false := by simpa using fun h => e2 h.symm
          have hq : eqL ⟨xi, ys_⟩ x = false := by rw [HXE.out]; simp [eqL, e2]
          go_wp2_with (first | (with_reducible refine wp_region_grew2 (by kernel_rfl) (by kernel_rfl) ?_; intro w2 hb; have kwa_P_0 : w2.cell? ⟨w.heap.size, 0, none⟩ = some (.int .i64 xi) := kc hb; have kwa_P_1 : w2.cell? ⟨w.heap.size, 1, none⟩ = some (.int .i64 xs_) := kc hb; have kwa_G0 : w2.cell? ⟨g, o + k * 2, none⟩ = some (.int .i64 xi) := kc hb; have kwa_G1 : w2.cell? ⟨g, o + k * 2 + 1, none⟩ = some (.int .i64 ys_) := kc hb; have xwa_P : w.heap.size < w2.heap.size := xc hb; have xwa_GG : g < w2.heap.size := xc hb; have hzwa := hb.size; (try simp only [World.size_alloc, World.size_setCell, World.size_drew] at hzwa); have HB1 := Lib.hid hb; obtain ⟨wa, rfl⟩ : ∃ x, x = w2 := ⟨_, rfl⟩; (repeat (go_big_quiet_step (fail))); refine wpQuiet_nil ?_; intro w2 hw'; have hb := grew_below hw'; clear hw'; have kwb_P_0 : w2.cell? ⟨w.heap.size, 0, none⟩ = some (.int .i64 xi) := kc hb; have kwb_P_1 : w2.cell? ⟨w.heap.size, 1, none⟩ = some (.int .i64 xs_) := kc hb; have kwb_G0 : w2.cell? ⟨g, o + k * 2, none⟩ = some (.int .i64 xi) := kc hb; have kwb_G1 : w2.cell? ⟨g, o + k * 2 + 1, none⟩ = some (.int .i64 ys_) := kc hb; have xwb_P : w.heap.size < w2.heap.size := xc hb; have xwb_GG : g < w2.heap.size := xc hb; have hzwb := hb.size; (try simp only [World.size_alloc, World.size_setCell, World.size_drew] at hzwb); have HB2 := Lib.hid hb; obtain ⟨wb, rfl⟩ : ∃ x, x = w2 := ⟨_, rfl⟩))
          go_roundw
          case rel => exact ⟨k + 1, by omega, by go_num, by rw [HS.out, HN.out, hq]; rfl, by (have hB := HB.out; have hB1 := HB1.out; have hB2 := HB2.out; exact bel), by assumption, by assumption, by assumption⟩
          case measure => simp [intOf]; omega
      · have f1 : (yi == xi) = false := by simpa using e1
        have f2 : (xi == yi) = false := by simpa using fun h => e1 h.symm
        have hq : eqL ⟨yi, ys_⟩ x = false := by rw [HXE.out]; simp [eqL, e1]
        go_wp2_with (first | (with_reducible refine wp_region_grew2 (by kernel_rfl) (by kernel_rfl) ?_; intro w2 hb; have kwa_P_0 : w2.cell? ⟨w.heap.size, 0, none⟩ = some (.int .i64 xi) := kc hb; have kwa_P_1 : w2.cell? ⟨w.heap.size, 1, none⟩ = some (.int .i64 xs_) := kc hb; have kwa_G0 : w2.cell? ⟨g, o + k * 2, none⟩ = some (.int .i64 yi) := kc hb; have kwa_G1 : w2.cell? ⟨g, o + k * 2 + 1, none⟩ = some (.int .i64 ys_) := kc hb; have xwa_P : w.heap.size < w2.heap.size := xc hb; have xwa_GG : g < w2.heap.size := xc hb; have hzwa := hb.size; (try simp only [World.size_alloc, World.size_setCell, World.size_drew] at hzwa); have HB1 := Lib.hid hb; obtain ⟨wa, rfl⟩ : ∃ x, x = w2 := ⟨_, rfl⟩; (repeat (go_big_quiet_step (fail))); refine wpQuiet_nil ?_; intro w2 hw'; have hb := grew_below hw'; clear hw'; have kwb_P_0 : w2.cell? ⟨w.heap.size, 0, none⟩ = some (.int .i64 xi) := kc hb; have kwb_P_1 : w2.cell? ⟨w.heap.size, 1, none⟩ = some (.int .i64 xs_) := kc hb; have kwb_G0 : w2.cell? ⟨g, o + k * 2, none⟩ = some (.int .i64 yi) := kc hb; have kwb_G1 : w2.cell? ⟨g, o + k * 2 + 1, none⟩ = some (.int .i64 ys_) := kc hb; have xwb_P : w.heap.size < w2.heap.size := xc hb; have xwb_GG : g < w2.heap.size := xc hb; have hzwb := hb.size; (try simp only [World.size_alloc, World.size_setCell, World.size_drew] at hzwb); have HB2 := Lib.hid hb; obtain ⟨wb, rfl⟩ : ∃ x, x = w2 := ⟨_, rfl⟩))
        go_roundw
        case rel => exact ⟨k + 1, by omega, by go_num, by rw [HS.out, HN.out, hq]; rfl, by (have hB := HB.out; have hB1 := HB1.out; have hB2 := HB2.out; exact bel), by assumption, by assumption, by assumption⟩
        case measure => simp [intOf]; omega
    · have hlt' : ¬ (k : Int) < xs.length := by omega
      obtain rfl : k = xs.length := by omega
      go_wp2_with (first | (with_reducible refine wp_region_grew2 (by kernel_rfl) (by kernel_rfl) ?_; intro w2 hb; (first | have hn := nw4 hb hall (by exact zo) | have hn := nw3 hb hall (by exact zo) | have hn := nw2 hb hall (by exact zo) | have hn := nw1 hb hall (by exact zo) | have hn := nw0 hb hall (by exact zo)); obtain ⟨hc, hf, hn, hc0⟩ := hn; replace hall := hn; clear hn; have hz := hb.size; (try simp only [World.size_alloc, World.size_setCell, World.size_drew] at hz); have hx := hall; (try simp only [allLt, and_true] at hx); obtain ⟨w1, rfl⟩ : ∃ x, x = w2 := ⟨_, rfl⟩; (repeat (go_big_quiet_step (fail))); refine wpQuiet_nil ?_; intro w2 hw'; have hb := grew_below hw'; clear hw'; (first | have hn := nw4 hb hall (by exact zo) | have hn := nw3 hb hall (by exact zo) | have hn := nw2 hb hall (by exact zo) | have hn := nw1 hb hall (by exact zo) | have hn := nw0 hb hall (by exact zo)); obtain ⟨hc, hf, hn, hc0⟩ := hn; replace hall := hn; clear hn; have hz := hb.size; (try simp only [World.size_alloc, World.size_setCell, World.size_drew] at hz); have hx := hall; (try simp only [allLt, and_true] at hx); obtain ⟨w1, rfl⟩ : ∃ x, x = w2 := ⟨_, rfl⟩))
      all_goals go_ret
      all_goals (have hB := HB.out; exact ⟨ret_bool (a := false) HN.out.symm, by exact bel⟩)

def IdxOfL (b : Bool) (w : World) (e : Ending) (w' : World) : Prop := ∃ i : Int, e = .returned (.int .i64 i) ∧ decide (0 ≤ i) = b ∧ Below w.heap.size w w'
set_option maxHeartbeats 1600000 in
theorem l_IndexL (va : Value) (xs : List Lt) (x : Lt) (w : World) (ha : LtAt w va xs) : Calls Try.prog 127 #[va, .agg #[.int .i64 x.ix, .int .i64 x.sl]] w (IdxOfL (hasL xs x) w) := by
  obtain ⟨ao, ca, rfl, _, hm, hra⟩ := LtAt.open ha
  have hle : xs.length ≤ 9223372036854775807 := by unfold maxLen at hm; omega
  have HA := Lib.hid hra
  clear ha hm hra
  obtain ⟨xi, hxi⟩ : ∃ xi, xi = x.ix := ⟨_, rfl⟩
  obtain ⟨xs_, hxs⟩ : ∃ xs_, xs_ = x.sl := ⟨_, rfl⟩
  have HXE := Lib.hid (show x = ⟨xi, xs_⟩ from by rw [hxi, hxs])
  rw [← hxi, ← hxs]
  clear hxi hxs
  (have hall := all_nil w; go_enter Try.func127, Try.ntmps127)
  go_wp2_with (first | (with_reducible refine wp_region_grew2 (by kernel_rfl) (by kernel_rfl) ?_; intro w2 hb; (first | have hn := nw4 hb hall (by exact zo) | have hn := nw3 hb hall (by exact zo) | have hn := nw2 hb hall (by exact zo) | have hn := nw1 hb hall (by exact zo) | have hn := nw0 hb hall (by exact zo)); obtain ⟨hc, hf, hn, hc0⟩ := hn; replace hall := hn; clear hn; have hz := hb.size; (try simp only [World.size_alloc, World.size_setCell, World.size_drew] at hz); have hx := hall; (try simp only [allLt, and_true] at hx); obtain ⟨w1, rfl⟩ : ∃ x, x = w2 := ⟨_, rfl⟩; (repeat (go_big_quiet_step (fail))); refine wpQuiet_nil ?_; intro w2 hw'; have hb := grew_below hw'; clear hw'; (first | have hn := nw4 hb hall (by exact zo) | have hn := nw3 hb hall (by exact zo) | have hn := nw2 hb hall (by exact zo) | have hn := nw1 hb hall (by exact zo) | have hn := nw0 hb hall (by exact zo)); obtain ⟨hc, hf, hn, hc0⟩ := hn; replace hall := hn; clear hn; have hz := hb.size; (try simp only [World.size_alloc, World.size_setCell, World.size_drew] at hz); have hx := hall; (try simp only [allLt, and_true] at hx); obtain ⟨w1, rfl⟩ : ∃ x, x = w2 := ⟨_, rfl⟩))
  go_loopw [8] (fun i wr => ∃ k : Nat, k ≤ xs.length ∧ i = .int .i64 k ∧ hasLTo xs x k = false ∧ Below w.heap.size w wr ∧ wr.cell? ⟨w.heap.size, 0, none⟩ = some (.int .i64 xi) ∧ wr.cell? ⟨w.heap.size, 1, none⟩ = some (.int .i64 xs_) ∧ w.heap.size < wr.heap.size) (fun i _ => xs.length - (intOf i).toNat)
  case atStart => exact ⟨0, Nat.zero_le _, rfl, rfl, by exact bel, by go_simp, by go_simp, by go_simp⟩
  case round =>
    obtain ⟨k, hk, rfl, hn, hbel, q0, q1, xw⟩ := hrel
    have HN := Lib.hid hn; have HB := Lib.hid hbel; have hsz := hbel.size
    clear hn
    obtain ⟨wo, rfl⟩ : ∃ x, x = wr := ⟨_, rfl⟩
    by_cases hlt : k < xs.length
    · have hlt' : (k : Int) < xs.length := by omega
      obtain ⟨y, hy⟩ := getx hlt
      obtain ⟨g, o, rfl, hg, c0, c1⟩ := HA.out k y hy
      have HS := Lib.hid (hasLTo_succ (x := x) hy)
      have HY := Lib.hid (getD_of (d := default) hy)
      replace c0 := (hbel.cell (p := ⟨g, o + k * 2, none⟩) hg).trans c0
      replace c1 := (hbel.cell (p := ⟨g, o + k * 2 + 1, none⟩) hg).trans c1
      have xg : g < wo.heap.size := by omega
      clear hy hbel
      obtain ⟨yi, ys_⟩ := y
      dsimp only at c0 c1
      by_cases e1 : yi = xi
      · replace e1 := e1.symm; subst e1
        have f0 : (xi == xi) = true := by simp
        by_cases e2 : ys_ = xs_
        · replace e2 := e2.symm; subst e2
          have f1 : (xs_ == xs_) = true := by simp
          have hq : eqL ⟨xi, xs_⟩ x = true := by rw [HXE.out]; simp [eqL]
          go_wp2_with (first | (with_reducible refine wp_region_grew2 (by kernel_rfl) (by kernel_rfl) ?_; intro w2 hb; have kwa_P_0 : w2.cell? ⟨w.heap.size, 0, none⟩ = some (.int .i64 xi) := kc hb; have kwa_P_1 : w2.cell? ⟨w.heap.size, 1, none⟩ = some (.int .i64 xs_) := kc hb; have kwa_G0 : w2.cell? ⟨g, o + k * 2, none⟩ = some (.int .i64 xi) := kc hb; have kwa_G1 : w2.cell? ⟨g, o + k * 2 + 1, none⟩ = some (.int .i64 xs_) := kc hb; have xwa_P : w.heap.size < w2.heap.size := xc hb; have xwa_GG : g < w2.heap.size := xc hb; have hzwa := hb.size; (try simp only [World.size_alloc, World.size_setCell, World.size_drew] at hzwa); have HB1 := Lib.hid hb; obtain ⟨wa, rfl⟩ : ∃ x, x = w2 := ⟨_, rfl⟩; (repeat (go_big_quiet_step (fail))); refine wpQuiet_nil ?_; intro w2 hw'; have hb := grew_below hw'; clear hw'; have kwb_P_0 : w2.cell? ⟨w.heap.size, 0, none⟩ = some (.int .i64 xi) := kc hb; have kwb_P_1 : w2.cell? ⟨w.heap.size, 1, none⟩ = some (.int .i64 xs_) := kc hb; have kwb_G0 : w2.cell? ⟨g, o + k * 2, none⟩ = some (.int .i64 xi) := kc hb; have kwb_G1 : w2.cell? ⟨g, o + k * 2 + 1, none⟩ = some (.int .i64 xs_) := kc hb; have xwb_P : w.heap.size < w2.heap.size := xc hb; have xwb_GG : g < w2.heap.size := xc hb; have hzwb := hb.size; (try simp only [World.size_alloc, World.size_setCell, World.size_drew] at hzwb); have HB2 := Lib.hid hb; obtain ⟨wb, rfl⟩ : ∃ x, x = w2 := ⟨_, rfl⟩))
          skip
          go_ret
          have hB := HB.out; have hB1 := HB1.out; have hB2 := HB2.out
          exact ⟨k, rfl, by rw [show hasL xs x = true from hasLTo_true hlt (by rw [HY.out]; exact hq)]; simp, by exact bel⟩
        · have f1 : (ys_ == xs_) = false := by simpa using e2
          have f2 : (xs_ == ys_) = false := by simpa using fun h => e2 h.symm
          have hq : eqL ⟨xi, ys_⟩ x = false := by rw [HXE.out]; simp [eqL, e2]
          go_wp2_with (first | (with_reducible refine wp_region_grew2 (by kernel_rfl) (by kernel_rfl) ?_; intro w2 hb; have kwa_P_0 : w2.cell? ⟨w.heap.size, 0, none⟩ = some (.int .i64 xi) := kc hb; have kwa_P_1 : w2.cell? ⟨w.heap.size, 1, none⟩ = some (.int .i64 xs_) := kc hb; have kwa_G0 : w2.cell? ⟨g, o + k * 2, none⟩ = some (.int .i64 xi) := kc hb; have kwa_G1 : w2.cell? ⟨g, o + k * 2 + 1, none⟩ = some (.int .i64 ys_) := kc hb; have xwa_P : w.heap.size < w2.heap.size := xc hb; have xwa_GG : g < w2.heap.size := xc hb; have hzwa := hb.size; (try simp only [World.size_alloc, World.size_setCell, World.size_drew] at hzwa); have HB1 := Lib.hid hb; obtain ⟨wa, rfl⟩ : ∃ x, x = w2 := ⟨_, rfl⟩; (repeat (go_big_quiet_step (fail))); refine wpQuiet_nil ?_; intro w2 hw'; have hb := grew_below hw'; clear hw'; have kwb_P_0 : w2.cell? ⟨w.heap.size, 0, none⟩ = some (.int .i64 xi) := kc hb; have kwb_P_1 : w2.cell? ⟨w.heap.size, 1, none⟩ = some (.int .i64 xs_) := kc hb; have kwb_G0 : w2.cell? ⟨g, o + k * 2, none⟩ = some (.int .i64 xi) := kc hb; have kwb_G1 : w2.cell? ⟨g, o + k * 2 + 1, none⟩ = some (.int .i64 ys_) := kc hb; have xwb_P : w.heap.size < w2.heap.size := xc hb; have xwb_GG : g < w2.heap.size := xc hb; have hzwb := hb.size; (try simp only [World.size_alloc, World.size_setCell, World.size_drew] at hzwb); have HB2 := Lib.hid hb; obtain ⟨wb, rfl⟩ : ∃ x, x = w2 := ⟨_, rfl⟩))
          go_roundw
          case rel => exact ⟨k + 1, by omega, by go_num, by rw [HS.out, HN.out, hq]; rfl, by (have hB := HB.out; have hB1 := HB1.out; have hB2 := HB2.out; exact bel), by assumption, by assumption, by assumption⟩
          case measure => simp [intOf]; omega
      · have f1 : (yi == xi) = false := by simpa using e1
        have f2 : (xi == yi) = false := by simpa using fun h => e1 h.symm
        have hq : eqL ⟨yi, ys_⟩ x = false := by rw [HXE.out]; simp [eqL, e1]
        go_wp2_with (first | (with_reducible refine wp_region_grew2 (by kernel_rfl) (by kernel_rfl) ?_; intro w2 hb; have kwa_P_0 : w2.cell? ⟨w.heap.size, 0, none⟩ = some (.int .i64 xi) := kc hb; have kwa_P_1 : w2.cell? ⟨w.heap.size, 1, none⟩ = some (.int .i64 xs_) := kc hb; have kwa_G0 : w2.cell? ⟨g, o + k * 2, none⟩ = some (.int .i64 yi) := kc hb; have kwa_G1 : w2.cell? ⟨g, o + k * 2 + 1, none⟩ = some (.int .i64 ys_) := kc hb; have xwa_P : w.heap.size < w2.heap.size := xc hb; have xwa_GG : g < w2.heap.size := xc hb; have hzwa := hb.size; (try simp only [World.size_alloc, World.size_setCell, World.size_drew] at hzwa); have HB1 := Lib.hid hb; obtain ⟨wa, rfl⟩ : ∃ x, x = w2 := ⟨_, rfl⟩; (repeat (go_big_quiet_step (fail))); refine wpQuiet_nil ?_; intro w2 hw'; have hb := grew_below hw'; clear hw'; have kwb_P_0 : w2.cell? ⟨w.heap.size, 0, none⟩ = some (.int .i64 xi) := kc hb; have kwb_P_1 : w2.cell? ⟨w.heap.size, 1, none⟩ = some (.int .i64 xs_) := kc hb; have kwb_G0 : w2.cell? ⟨g, o + k * 2, none⟩ = some (.int .i64 yi) := kc hb; have kwb_G1 : w2.cell? ⟨g, o + k * 2 + 1, none⟩ = some (.int .i64 ys_) := kc hb; have xwb_P : w.heap.size < w2.heap.size := xc hb; have xwb_GG : g < w2.heap.size := xc hb; have hzwb := hb.size; (try simp only [World.size_alloc, World.size_setCell, World.size_drew] at hzwb); have HB2 := Lib.hid hb; obtain ⟨wb, rfl⟩ : ∃ x, x = w2 := ⟨_, rfl⟩))
        go_roundw
        case rel => exact ⟨k + 1, by omega, by go_num, by rw [HS.out, HN.out, hq]; rfl, by (have hB := HB.out; have hB1 := HB1.out; have hB2 := HB2.out; exact bel), by assumption, by assumption, by assumption⟩
        case measure => simp [intOf]; omega
    · have hlt' : ¬ (k : Int) < xs.length := by omega
      obtain rfl : k = xs.length := by omega
      go_wp2_with (first | (with_reducible refine wp_region_grew2 (by kernel_rfl) (by kernel_rfl) ?_; intro w2 hb; (first | have hn := nw4 hb hall (by exact zo) | have hn := nw3 hb hall (by exact zo) | have hn := nw2 hb hall (by exact zo) | have hn := nw1 hb hall (by exact zo) | have hn := nw0 hb hall (by exact zo)); obtain ⟨hc, hf, hn, hc0⟩ := hn; replace hall := hn; clear hn; have hz := hb.size; (try simp only [World.size_alloc, World.size_setCell, World.size_drew] at hz); have hx := hall; (try simp only [allLt, and_true] at hx); obtain ⟨w1, rfl⟩ : ∃ x, x = w2 := ⟨_, rfl⟩; (repeat (go_big_quiet_step (fail))); refine wpQuiet_nil ?_; intro w2 hw'; have hb := grew_below hw'; clear hw'; (first | have hn := nw4 hb hall (by exact zo) | have hn := nw3 hb hall (by exact zo) | have hn := nw2 hb hall (by exact zo) | have hn := nw1 hb hall (by exact zo) | have hn := nw0 hb hall (by exact zo)); obtain ⟨hc, hf, hn, hc0⟩ := hn; replace hall := hn; clear hn; have hz := hb.size; (try simp only [World.size_alloc, World.size_setCell, World.size_drew] at hz); have hx := hall; (try simp only [allLt, and_true] at hx); obtain ⟨w1, rfl⟩ : ∃ x, x = w2 := ⟨_, rfl⟩))
      all_goals go_ret
      all_goals (have hB := HB.out; exact ⟨-1, rfl, by rw [show hasL xs x = false from HN.out]; rfl, by exact bel⟩)

theorem lecz' (x y : Int) : (x ≤ y ∧ decide (x ≤ y) = true) ∨ (¬ x ≤ y ∧ decide (x ≤ y) = false) := by
  by_cases h : x ≤ y
  · exact .inl ⟨h, decide_eq_true h⟩
  · exact .inr ⟨h, decide_eq_false h⟩
theorem l_ContainsL (va : Value) (xs : List Lt) (x : Lt) (w : World) (ha : LtAt w va xs) : Calls Try.prog 109 #[va, .agg #[.int .i64 x.ix, .int .i64 x.sl]] w fun e w' => e = .returned (.bool (hasL xs x)) ∧ Below w.heap.size w w' := by
  have HA := Lib.hid ha; clear ha
  (have hall := all_nil w; go_enter Try.func109, Try.ntmps109)
  go_wp2_with fail
  refine (l_IndexL va xs x _ (HA.out.below (by exact bel))).mono ?_
  rintro e w2 ⟨i, rfl, hi, hb⟩
  have HI := Lib.hid hi; have HB := Lib.hid hb; clear hi hb
  rcases lecz' 0 i with ⟨b1, b2⟩ | ⟨b1, b2⟩
  all_goals go_wp2
  all_goals go_ret
  all_goals (have hB := HB.out; exact ⟨by rw [← HI.out, b2]; rfl, by exact bel⟩)

theorem i_copyLate (v : Value) (xs : List Lt) (hs : xs.length ≤ 1048576) (w : World) (ha : LtAt w v xs) : Calls Try.prog 108 #[v] w fun e w' => ∃ u, e = .returned u ∧ OwnLt w.heap.size w' u xs ∧ Below w.heap.size w w' := by
  have HA := Lib.hid ha
  obtain ⟨ao, ca, rfl, _, _⟩ := ha.shape
  clear ha
  (have hall := all_nil w; go_enter Try.func108, Try.ntmps108)
  go_wp2_with (first | (at_builtin; refine wpList_appendAll elemLt rfl _ _ rfl lenLt oneLt rfl (Own.empty' _ _ _ (w.heap.size) _ _ (by simp) (by exact zt)) (by exact zt) rfl (HA.out.below (by exact bel)) (by simp only [List.length_nil, maxLen]; omega) ?_; intro v2 w2 hown2 hgr2 hat2 hb; (try simp only [List.nil_append] at hown2); obtain ⟨v2o, v2c, rfl, -, -⟩ := hown2.shape; skip))
  go_ret
  exact ⟨_, rfl, hown2, by exact bel⟩
set_option maxRecDepth 20000 in
set_option maxHeartbeats 1600000 in
theorem i_LateAdd (va : Value) (xs : List Lt) (xi xs_ : Int) (hx : xs.length ≤ 1048576) (w : World) (ha : LtAt w va xs) : Calls Try.prog 66 #[va, .agg #[.int .i64 xi, .int .i64 xs_]] w (NewLB w (lateL xs ⟨xi, xs_⟩) (lateB xs ⟨xi, xs_⟩)) := by
  obtain ⟨ao, ca, rfl, _, hm⟩ := ha.shape
  have HA := Lib.hid ha
  clear ha hm
  cases hh : hasL xs ⟨xi, xs_⟩
  · have HH := Lib.hid hh
    by_cases h40 : xs.length < 40
    · have hE : lateB xs ⟨xi, xs_⟩ = true := by unfold lateB; rw [hh, decide_eq_true h40]; rfl
      have hL : lateL xs ⟨xi, xs_⟩ = xs ++ [⟨xi, xs_⟩] := by unfold lateL; rw [hE]; rfl
      rw [hE, hL]
      clear hE hL hh
      have h41 : decide ((40 : Int) ≤ xs.length) = false := by simp; omega
      (have hall := all_nil w; go_enter Try.func66, Try.ntmps66)
      go_wp2_with (first | (go_at_call 108; (refine (i_copyLate _ xs (by omega) _ (HA.out.below (by exact bel))).mono ?_; rintro e w2 ⟨v', rfl, hvo, hb⟩; obtain ⟨vo, vc, rfl, -, -⟩ := hvo.shape; have OV := Lib.hid hvo; have HB1 := Lib.hid hb; clear hvo; have kwa_0_0 : w2.cell? ⟨w.heap.size, 0, none⟩ = some (.int .i64 xi) := kc hb; have kwa_0_1 : w2.cell? ⟨w.heap.size, 1, none⟩ = some (.int .i64 xs_) := kc hb; have xwa_0 : w.heap.size < w2.heap.size := xc hb; have hzwa := hb.size; (try simp only [World.size_alloc, World.size_setCell, World.size_drew] at hzwa); obtain ⟨wa, rfl⟩ : ∃ x, x = w2 := ⟨_, rfl⟩)) | (go_at_call 109; (refine (l_ContainsL _ xs (⟨xi, xs_⟩ : Lt) _ (HA.out.below (by exact bel))).mono ?_; rintro e w2 ⟨rfl, hb⟩; rw [HH.out]; have HB2 := Lib.hid hb; have kwb_0_0 : w2.cell? ⟨w.heap.size, 0, none⟩ = some (.int .i64 xi) := kc hb; have kwb_0_1 : w2.cell? ⟨w.heap.size, 1, none⟩ = some (.int .i64 xs_) := kc hb; have xwb_0 : w.heap.size < w2.heap.size := xc hb; have hzwb := hb.size; (try simp only [World.size_alloc, World.size_setCell, World.size_drew] at hzwb); obtain ⟨wb, rfl⟩ : ∃ x, x = w2 := ⟨_, rfl⟩)) | (at_builtin; refine append1 elemLt rfl _ _ rfl lenLt oneLt rfl (Own.alloc (Own.below OV.out (by exact bel)) _) (by exact zt) rfl (⟨xi, xs_⟩ : Lt) (by intro j u hj; match j, hj with | 0, hj => (simp [fLt] at hj; subst hj; go_simp) | 1, hj => (simp [fLt] at hj; subst hj; go_simp) | j + 2, hj => simp [fLt] at hj) (by unfold maxLen; omega) ?_; intro v2 w2 hown2 _ hb2; have OR := Lib.hid hown2; have HB3 := Lib.hid hb2; clear hown2))
      skip
      go_ret2
      have hB1 := HB1.out; have hB2 := HB2.out; have hB3 := HB3.out
      exact ⟨_, rfl, OR.out.mono (by (try simp only [World.size_alloc]); omega), by exact bel⟩
    · have hE : lateB xs ⟨xi, xs_⟩ = false := by unfold lateB; rw [hh, decide_eq_false h40]; rfl
      have hL : lateL xs ⟨xi, xs_⟩ = xs := by unfold lateL; rw [hE]; rfl
      rw [hE, hL]
      clear hE hL hh
      have h41 : decide ((40 : Int) ≤ xs.length) = true := by simp; omega
      (have hall := all_nil w; go_enter Try.func66, Try.ntmps66)
      go_wp2_with (first | (go_at_call 108; (refine (i_copyLate _ xs (by omega) _ (HA.out.below (by exact bel))).mono ?_; rintro e w2 ⟨v', rfl, hvo, hb⟩; obtain ⟨vo, vc, rfl, -, -⟩ := hvo.shape; have OV := Lib.hid hvo; have HB1 := Lib.hid hb; clear hvo; have kwa_0_0 : w2.cell? ⟨w.heap.size, 0, none⟩ = some (.int .i64 xi) := kc hb; have kwa_0_1 : w2.cell? ⟨w.heap.size, 1, none⟩ = some (.int .i64 xs_) := kc hb; have xwa_0 : w.heap.size < w2.heap.size := xc hb; have hzwa := hb.size; (try simp only [World.size_alloc, World.size_setCell, World.size_drew] at hzwa); obtain ⟨wa, rfl⟩ : ∃ x, x = w2 := ⟨_, rfl⟩)) | (go_at_call 109; (refine (l_ContainsL _ xs (⟨xi, xs_⟩ : Lt) _ (HA.out.below (by exact bel))).mono ?_; rintro e w2 ⟨rfl, hb⟩; rw [HH.out]; have HB2 := Lib.hid hb; have kwb_0_0 : w2.cell? ⟨w.heap.size, 0, none⟩ = some (.int .i64 xi) := kc hb; have kwb_0_1 : w2.cell? ⟨w.heap.size, 1, none⟩ = some (.int .i64 xs_) := kc hb; have xwb_0 : w.heap.size < w2.heap.size := xc hb; have hzwb := hb.size; (try simp only [World.size_alloc, World.size_setCell, World.size_drew] at hzwb); obtain ⟨wb, rfl⟩ : ∃ x, x = w2 := ⟨_, rfl⟩)))
      go_ret2
      have hB1 := HB1.out; have hB2 := HB2.out
      exact ⟨_, rfl, (by have h := Own.below OV.out (w' := wb) (by exact bel); exact h.mono (by (try simp only [World.size_alloc]); omega)), by exact bel⟩
  · have HH := Lib.hid hh
    have hE : lateB xs ⟨xi, xs_⟩ = false := by unfold lateB; rw [hh]; rfl
    have hL : lateL xs ⟨xi, xs_⟩ = xs := by unfold lateL; rw [hE]; rfl
    rw [hE, hL]
    clear hE hL hh
    (have hall := all_nil w; go_enter Try.func66, Try.ntmps66)
    go_wp2_with (first | (go_at_call 108; (refine (i_copyLate _ xs (by omega) _ (HA.out.below (by exact bel))).mono ?_; rintro e w2 ⟨v', rfl, hvo, hb⟩; obtain ⟨vo, vc, rfl, -, -⟩ := hvo.shape; have OV := Lib.hid hvo; have HB1 := Lib.hid hb; clear hvo; have kwa_0_0 : w2.cell? ⟨w.heap.size, 0, none⟩ = some (.int .i64 xi) := kc hb; have kwa_0_1 : w2.cell? ⟨w.heap.size, 1, none⟩ = some (.int .i64 xs_) := kc hb; have xwa_0 : w.heap.size < w2.heap.size := xc hb; have hzwa := hb.size; (try simp only [World.size_alloc, World.size_setCell, World.size_drew] at hzwa); obtain ⟨wa, rfl⟩ : ∃ x, x = w2 := ⟨_, rfl⟩)) | (go_at_call 109; (refine (l_ContainsL _ xs (⟨xi, xs_⟩ : Lt) _ (HA.out.below (by exact bel))).mono ?_; rintro e w2 ⟨rfl, hb⟩; rw [HH.out]; have HB2 := Lib.hid hb; have kwb_0_0 : w2.cell? ⟨w.heap.size, 0, none⟩ = some (.int .i64 xi) := kc hb; have kwb_0_1 : w2.cell? ⟨w.heap.size, 1, none⟩ = some (.int .i64 xs_) := kc hb; have xwb_0 : w.heap.size < w2.heap.size := xc hb; have hzwb := hb.size; (try simp only [World.size_alloc, World.size_setCell, World.size_drew] at hzwb); obtain ⟨wb, rfl⟩ : ∃ x, x = w2 := ⟨_, rfl⟩)))
    go_ret2
    have hB1 := HB1.out; have hB2 := HB2.out
    exact ⟨_, rfl, (by have h := Own.below OV.out (w' := wb) (by exact bel); exact h.mono (by (try simp only [World.size_alloc]); omega)), by exact bel⟩

set_option maxRecDepth 20000 in
set_option maxHeartbeats 1600000 in
theorem s_LateAdd (va : Value) (xs : List Lt) (xi xs_ : Int) (hx : xs.length ≤ 1048576) (w : World) (ha : LtAt w va xs) : Calls Try.prog 63 #[va, .agg #[.int .i64 xi, .int .i64 xs_]] w (NewLB w (lateL xs ⟨xi, xs_⟩) (lateB xs ⟨xi, xs_⟩)) := by
  obtain ⟨ao, ca, rfl, _, hm⟩ := ha.shape
  have HA := Lib.hid ha
  clear ha hm
  cases hh : hasL xs ⟨xi, xs_⟩
  · have HH := Lib.hid hh
    by_cases h40 : xs.length < 40
    · have hE : lateB xs ⟨xi, xs_⟩ = true := by unfold lateB; rw [hh, decide_eq_true h40]; rfl
      have hL : lateL xs ⟨xi, xs_⟩ = xs ++ [⟨xi, xs_⟩] := by unfold lateL; rw [hE]; rfl
      rw [hE, hL]
      clear hE hL hh
      have h41 : decide ((40 : Int) ≤ xs.length) = false := by simp; omega
      (have hall := all_nil w; go_enter Try.func63, Try.ntmps63)
      go_wp2_with (first | (at_builtin; refine wpList_appendAll elemLt rfl _ _ rfl lenLt oneLt rfl (Own.empty' _ _ _ (w.heap.size + 1) _ _ (by first | rfl | simp) (by exact zt)) (by exact zt) rfl (HA.out.below (by exact bel)) (by simp only [List.length_nil, maxLen]; omega) ?_; intro v w2 hown2 hgr2 hat2 hb; (try simp only [List.nil_append] at hown2); obtain ⟨vo, vc, rfl, -, -⟩ := hown2.shape; have OV := Lib.hid hown2; have HB1 := Lib.hid hb; clear hown2 hgr2 hat2; have kwa_0_0 : w2.cell? ⟨w.heap.size, 0, none⟩ = some (.int .i64 xi) := kc hb; have kwa_0_1 : w2.cell? ⟨w.heap.size, 1, none⟩ = some (.int .i64 xs_) := kc hb; have xwa_0 : w.heap.size < w2.heap.size := xc hb; have hzwa := hb.size; (try simp only [World.size_alloc, World.size_setCell, World.size_drew] at hzwa); obtain ⟨wa, rfl⟩ : ∃ x, x = w2 := ⟨_, rfl⟩) | (go_at_call 107; (refine (s_l16Has _ xs (⟨xi, xs_⟩ : Lt) _ (HA.out.below (by exact bel))).mono ?_; rintro e w2 ⟨rfl, hb⟩; rw [HH.out]; have HB2 := Lib.hid hb; have kwb_0_0 : w2.cell? ⟨w.heap.size, 0, none⟩ = some (.int .i64 xi) := kc hb; have kwb_0_1 : w2.cell? ⟨w.heap.size, 1, none⟩ = some (.int .i64 xs_) := kc hb; have xwb_0 : w.heap.size < w2.heap.size := xc hb; have hzwb := hb.size; (try simp only [World.size_alloc, World.size_setCell, World.size_drew] at hzwb); obtain ⟨wb, rfl⟩ : ∃ x, x = w2 := ⟨_, rfl⟩)) | (at_builtin; refine append1 elemLt rfl _ _ rfl lenLt oneLt rfl (Own.alloc (Own.below OV.out (by exact bel)) _) (by exact zt) rfl (⟨xi, xs_⟩ : Lt) (by intro j u hj; match j, hj with | 0, hj => (simp [fLt] at hj; subst hj; go_simp) | 1, hj => (simp [fLt] at hj; subst hj; go_simp) | j + 2, hj => simp [fLt] at hj) (by unfold maxLen; omega) ?_; intro v2 w2 hown2 _ hb2; have OR := Lib.hid hown2; have HB3 := Lib.hid hb2; clear hown2))
      skip
      go_ret2
      have hB1 := HB1.out; have hB2 := HB2.out; have hB3 := HB3.out
      exact ⟨_, rfl, OR.out.mono (by (try simp only [World.size_alloc]); omega), by exact bel⟩
    · have hE : lateB xs ⟨xi, xs_⟩ = false := by unfold lateB; rw [hh, decide_eq_false h40]; rfl
      have hL : lateL xs ⟨xi, xs_⟩ = xs := by unfold lateL; rw [hE]; rfl
      rw [hE, hL]
      clear hE hL hh
      have h41 : decide ((40 : Int) ≤ xs.length) = true := by simp; omega
      (have hall := all_nil w; go_enter Try.func63, Try.ntmps63)
      go_wp2_with (first | (at_builtin; refine wpList_appendAll elemLt rfl _ _ rfl lenLt oneLt rfl (Own.empty' _ _ _ (w.heap.size + 1) _ _ (by first | rfl | simp) (by exact zt)) (by exact zt) rfl (HA.out.below (by exact bel)) (by simp only [List.length_nil, maxLen]; omega) ?_; intro v w2 hown2 hgr2 hat2 hb; (try simp only [List.nil_append] at hown2); obtain ⟨vo, vc, rfl, -, -⟩ := hown2.shape; have OV := Lib.hid hown2; have HB1 := Lib.hid hb; clear hown2 hgr2 hat2; have kwa_0_0 : w2.cell? ⟨w.heap.size, 0, none⟩ = some (.int .i64 xi) := kc hb; have kwa_0_1 : w2.cell? ⟨w.heap.size, 1, none⟩ = some (.int .i64 xs_) := kc hb; have xwa_0 : w.heap.size < w2.heap.size := xc hb; have hzwa := hb.size; (try simp only [World.size_alloc, World.size_setCell, World.size_drew] at hzwa); obtain ⟨wa, rfl⟩ : ∃ x, x = w2 := ⟨_, rfl⟩) | (go_at_call 107; (refine (s_l16Has _ xs (⟨xi, xs_⟩ : Lt) _ (HA.out.below (by exact bel))).mono ?_; rintro e w2 ⟨rfl, hb⟩; rw [HH.out]; have HB2 := Lib.hid hb; have kwb_0_0 : w2.cell? ⟨w.heap.size, 0, none⟩ = some (.int .i64 xi) := kc hb; have kwb_0_1 : w2.cell? ⟨w.heap.size, 1, none⟩ = some (.int .i64 xs_) := kc hb; have xwb_0 : w.heap.size < w2.heap.size := xc hb; have hzwb := hb.size; (try simp only [World.size_alloc, World.size_setCell, World.size_drew] at hzwb); obtain ⟨wb, rfl⟩ : ∃ x, x = w2 := ⟨_, rfl⟩)))
      go_ret2
      have hB1 := HB1.out; have hB2 := HB2.out
      exact ⟨_, rfl, (by have h := Own.below OV.out (w' := wb) (by exact bel); exact h.mono (by (try simp only [World.size_alloc]); omega)), by exact bel⟩
  · have HH := Lib.hid hh
    have hE : lateB xs ⟨xi, xs_⟩ = false := by unfold lateB; rw [hh]; rfl
    have hL : lateL xs ⟨xi, xs_⟩ = xs := by unfold lateL; rw [hE]; rfl
    rw [hE, hL]
    clear hE hL hh
    (have hall := all_nil w; go_enter Try.func63, Try.ntmps63)
    go_wp2_with (first | (at_builtin; refine wpList_appendAll elemLt rfl _ _ rfl lenLt oneLt rfl (Own.empty' _ _ _ (w.heap.size + 1) _ _ (by first | rfl | simp) (by exact zt)) (by exact zt) rfl (HA.out.below (by exact bel)) (by simp only [List.length_nil, maxLen]; omega) ?_; intro v w2 hown2 hgr2 hat2 hb; (try simp only [List.nil_append] at hown2); obtain ⟨vo, vc, rfl, -, -⟩ := hown2.shape; have OV := Lib.hid hown2; have HB1 := Lib.hid hb; clear hown2 hgr2 hat2; have kwa_0_0 : w2.cell? ⟨w.heap.size, 0, none⟩ = some (.int .i64 xi) := kc hb; have kwa_0_1 : w2.cell? ⟨w.heap.size, 1, none⟩ = some (.int .i64 xs_) := kc hb; have xwa_0 : w.heap.size < w2.heap.size := xc hb; have hzwa := hb.size; (try simp only [World.size_alloc, World.size_setCell, World.size_drew] at hzwa); obtain ⟨wa, rfl⟩ : ∃ x, x = w2 := ⟨_, rfl⟩) | (go_at_call 107; (refine (s_l16Has _ xs (⟨xi, xs_⟩ : Lt) _ (HA.out.below (by exact bel))).mono ?_; rintro e w2 ⟨rfl, hb⟩; rw [HH.out]; have HB2 := Lib.hid hb; have kwb_0_0 : w2.cell? ⟨w.heap.size, 0, none⟩ = some (.int .i64 xi) := kc hb; have kwb_0_1 : w2.cell? ⟨w.heap.size, 1, none⟩ = some (.int .i64 xs_) := kc hb; have xwb_0 : w.heap.size < w2.heap.size := xc hb; have hzwb := hb.size; (try simp only [World.size_alloc, World.size_setCell, World.size_drew] at hzwb); obtain ⟨wb, rfl⟩ : ∃ x, x = w2 := ⟨_, rfl⟩)))
    go_ret2
    have hB1 := HB1.out; have hB2 := HB2.out
    exact ⟨_, rfl, (by have h := Own.below OV.out (w' := wb) (by exact bel); exact h.mono (by (try simp only [World.size_alloc]); omega)), by exact bel⟩

end Go.Proofs.Ytkdafincnmkjnaa
