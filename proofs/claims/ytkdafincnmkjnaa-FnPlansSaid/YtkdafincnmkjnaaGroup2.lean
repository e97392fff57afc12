/-
  What the spans of a group hold together.
-/
import Derived.Test.YtkdafincnmkjnaaGroup
set_option linter.unusedVariables false
set_option linter.unusedSimpArgs false
namespace Go.Proofs.Ytkdafincnmkjnaa
open Go.RowKit
def orTo (xs : List Sp) : Nat → Int
  | 0 => 0
  | k + 1 => bits .or .i64 (orTo xs k) (xs.getD k default).b
def groupBits (xs : List Sp) : Int := if groupOk xs then orTo xs xs.length else 0
def gFind (slot : Int) : List Sp → Nat → Int
  | [], _ => -1
  | x :: t, i => if hasSlot x.b slot then (i : Int) else gFind slot t (i + 1)
def groupSlot (xs : List Sp) (slot : Int) : Int := if groupOk xs then gFind slot xs 0 else -1
theorem gFind_drop {slot : Int} {xs : List Sp} {k : Nat} (h : k < xs.length) : gFind slot (xs.drop k) k = if hasSlot (xs.getD k default).b slot then (k : Int) else gFind slot (xs.drop (k + 1)) (k + 1) := by
  rw [List.drop_eq_getElem_cons h, gFind, List.getD_eq_getElem?_getD, List.getElem?_eq_getElem h, Option.getD_some]
theorem groupOk_pos {xs : List Sp} (h : groupOk xs = true) : 0 < xs.length := by
  unfold groupOk at h
  simp only [Bool.and_eq_true, decide_eq_true_eq] at h
  omega
theorem i_GroupBits (va : Value) (xs : List Sp) (w : World) (ha : SpansAt w va xs) : Calls Try.prog 19 #[va] w fun e w' => e = .returned (.int .i64 (groupBits xs)) ∧ Below w.heap.size w w' := by
  have CO := Lib.hid (fun r (hr : groupOk xs = r) => hr ▸ i_GroupOk va xs w ha)
  obtain ⟨ao, ca, rfl, hn, hm, hra⟩ := ha.open
  have hle : xs.length ≤ 9223372036854775807 := by unfold maxLen at hm; omega
  clear hm
  have HA := Lib.hid hra; clear hra ha
  cases hg : groupOk xs
  · (have hall := all_nil w; go_enter Try.func19, Try.ntmps19)
    go_wp2_with (first | (go_at_call 18; refine (CO.out _ hg).mono ?_; rintro e w2 ⟨rfl, hb⟩; (first | have hn := nw4 hb hall (by exact zo) | have hn := nw3 hb hall (by exact zo) | have hn := nw2 hb hall (by exact zo) | have hn := nw1 hb hall (by exact zo) | have hn := nw0 hb hall (by exact zo)); obtain ⟨hc, hf, hn, hc0⟩ := hn; replace hall := hn; clear hn; have hz := hb.size; (try simp only [World.size_alloc, World.size_setCell, World.size_drew] at hz); have hx := hall; (try simp only [allLt, and_true] at hx); obtain ⟨w1, rfl⟩ : ∃ x, x = w2 := ⟨_, rfl⟩) | (with_reducible refine wp_region_grew2 (by kernel_rfl) (by kernel_rfl) ?_; intro w2 hb; (first | have hn := nw4 hb hall (by exact zo) | have hn := nw3 hb hall (by exact zo) | have hn := nw2 hb hall (by exact zo) | have hn := nw1 hb hall (by exact zo) | have hn := nw0 hb hall (by exact zo)); obtain ⟨hc, hf, hn, hc0⟩ := hn; replace hall := hn; clear hn; have hz := hb.size; (try simp only [World.size_alloc, World.size_setCell, World.size_drew] at hz); have hx := hall; (try simp only [allLt, and_true] at hx); obtain ⟨w1, rfl⟩ : ∃ x, x = w2 := ⟨_, rfl⟩; (repeat (go_big_quiet_step (fail))); refine wpQuiet_nil ?_; intro w2 hw'; have hb := grew_below hw'; clear hw'; (first | have hn := nw4 hb hall (by exact zo) | have hn := nw3 hb hall (by exact zo) | have hn := nw2 hb hall (by exact zo) | have hn := nw1 hb hall (by exact zo) | have hn := nw0 hb hall (by exact zo)); obtain ⟨hc, hf, hn, hc0⟩ := hn; replace hall := hn; clear hn; have hz := hb.size; (try simp only [World.size_alloc, World.size_setCell, World.size_drew] at hz); have hx := hall; (try simp only [allLt, and_true] at hx); obtain ⟨w1, rfl⟩ : ∃ x, x = w2 := ⟨_, rfl⟩))
    go_ret
    exact ⟨by simp [groupBits, hg], hb⟩
  · (have hall := all_nil w; go_enter Try.func19, Try.ntmps19)
    go_wp2_with (first | (go_at_call 18; refine (CO.out _ hg).mono ?_; rintro e w2 ⟨rfl, hb⟩; have hb0 := hb; (first | have hn := nw4 hb hall (by exact zo) | have hn := nw3 hb hall (by exact zo) | have hn := nw2 hb hall (by exact zo) | have hn := nw1 hb hall (by exact zo) | have hn := nw0 hb hall (by exact zo)); obtain ⟨hc, hf, hn, hc0⟩ := hn; replace hall := hn; clear hn; have hz := hb.size; (try simp only [World.size_alloc, World.size_setCell, World.size_drew] at hz); have hx := hall; (try simp only [allLt, and_true] at hx); obtain ⟨w1, rfl⟩ : ∃ x, x = w2 := ⟨_, rfl⟩) | (with_reducible refine wp_region_grew2 (by kernel_rfl) (by kernel_rfl) ?_; intro w2 hb; (first | have hn := nw4 hb hall (by exact zo) | have hn := nw3 hb hall (by exact zo) | have hn := nw2 hb hall (by exact zo) | have hn := nw1 hb hall (by exact zo) | have hn := nw0 hb hall (by exact zo)); obtain ⟨hc, hf, hn, hc0⟩ := hn; replace hall := hn; clear hn; have hz := hb.size; (try simp only [World.size_alloc, World.size_setCell, World.size_drew] at hz); have hx := hall; (try simp only [allLt, and_true] at hx); obtain ⟨w1, rfl⟩ : ∃ x, x = w2 := ⟨_, rfl⟩; (repeat (go_big_quiet_step (fail))); refine wpQuiet_nil ?_; intro w2 hw'; have hb := grew_below hw'; clear hw'; (first | have hn := nw4 hb hall (by exact zo) | have hn := nw3 hb hall (by exact zo) | have hn := nw2 hb hall (by exact zo) | have hn := nw1 hb hall (by exact zo) | have hn := nw0 hb hall (by exact zo)); obtain ⟨hc, hf, hn, hc0⟩ := hn; replace hall := hn; clear hn; have hz := hb.size; (try simp only [World.size_alloc, World.size_setCell, World.size_drew] at hz); have hx := hall; (try simp only [allLt, and_true] at hx); obtain ⟨w1, rfl⟩ : ∃ x, x = w2 := ⟨_, rfl⟩))
    go_loopw [3, 11] (fun n i wr => ∃ k : Nat, k ≤ xs.length ∧ i = .int .i64 k ∧ n = .int .i64 (orTo xs k) ∧ Below w.heap.size w wr) (fun _ i _ => xs.length - (intOf i).toNat)
    case atStart => exact ⟨0, Nat.zero_le _, rfl, rfl, hb0⟩
    case round =>
      clear hb0 hb hc hf hz hall hx
      obtain ⟨k, hk, rfl, rfl, hbel⟩ := hrel
      have HL := Lib.hid hbel; have hsz := hbel.size; clear hbel
      by_cases hlt : k < xs.length
      · have hlt' : (k : Int) < xs.length := by omega
        obtain ⟨ga, oa, haoa, hga, a0, a1, a2⟩ := HA.out k hlt
        subst haoa
        replace a0 := (HL.out.cell (p := ⟨ga, oa + k * 3, none⟩) (by first | exact hga | assumption)).trans a0
        replace a1 := (HL.out.cell (p := ⟨ga, oa + k * 3 + 1, none⟩) (by first | exact hga | assumption)).trans a1
        replace a2 := (HL.out.cell (p := ⟨ga, oa + k * 3 + 2, none⟩) (by first | exact hga | assumption)).trans a2
        obtain ⟨a, hea⟩ : ∃ x, x = xs.getD k default := ⟨_, rfl⟩
        rw [← hea] at a0 a1 a2
        have Ha := Lib.hid hea; clear hea
        (obtain ⟨w1, rfl⟩ : ∃ x, x = wr := ⟨_, rfl⟩; have hall : allLt [ga] w1.heap.size := ⟨by omega, trivial⟩; have hx := hall; (try simp only [allLt, and_true] at hx))
        go_wp2_with (first | (with_reducible refine wp_region_grew2 (by kernel_rfl) (by kernel_rfl) ?_; intro w2 hb; (first | have hn := nw4 hb hall (by exact zo) | have hn := nw3 hb hall (by exact zo) | have hn := nw2 hb hall (by exact zo) | have hn := nw1 hb hall (by exact zo) | have hn := nw0 hb hall (by exact zo)); obtain ⟨hc, hf, hn, hc0⟩ := hn; replace hall := hn; clear hn; have hz := hb.size; (try simp only [World.size_alloc, World.size_setCell, World.size_drew] at hz); have hx := hall; (try simp only [allLt, and_true] at hx); obtain ⟨w1, rfl⟩ : ∃ x, x = w2 := ⟨_, rfl⟩; (repeat (go_big_quiet_step (fail))); refine wpQuiet_nil ?_; intro w2 hw'; have hb := grew_below hw'; clear hw'; (first | have hn := nw4 hb hall (by exact zo) | have hn := nw3 hb hall (by exact zo) | have hn := nw2 hb hall (by exact zo) | have hn := nw1 hb hall (by exact zo) | have hn := nw0 hb hall (by exact zo)); obtain ⟨hc, hf, hn, hc0⟩ := hn; replace hall := hn; clear hn; have hz := hb.size; (try simp only [World.size_alloc, World.size_setCell, World.size_drew] at hz); have hx := hall; (try simp only [allLt, and_true] at hx); obtain ⟨w1, rfl⟩ : ∃ x, x = w2 := ⟨_, rfl⟩))
        go_roundw
        case rel =>
          have hL := HL.out; have hLs := hL.size
          exact ⟨k + 1, by omega, by go_num, by rw [orTo, ← Ha.out], by exact bel⟩
        case measure => simp [intOf]; omega
      · have hlt' : ¬ (k : Int) < xs.length := by omega
        obtain rfl : k = xs.length := by omega
        go_wp2_with (first | (with_reducible refine wp_region_grew2 (by kernel_rfl) (by kernel_rfl) ?_; intro w2 hb; (first | have hn := nw4 hb hall (by exact zo) | have hn := nw3 hb hall (by exact zo) | have hn := nw2 hb hall (by exact zo) | have hn := nw1 hb hall (by exact zo) | have hn := nw0 hb hall (by exact zo)); obtain ⟨hc, hf, hn, hc0⟩ := hn; replace hall := hn; clear hn; have hz := hb.size; (try simp only [World.size_alloc, World.size_setCell, World.size_drew] at hz); have hx := hall; (try simp only [allLt, and_true] at hx); obtain ⟨w1, rfl⟩ : ∃ x, x = w2 := ⟨_, rfl⟩; (repeat (go_big_quiet_step (fail))); refine wpQuiet_nil ?_; intro w2 hw'; have hb := grew_below hw'; clear hw'; (first | have hn := nw4 hb hall (by exact zo) | have hn := nw3 hb hall (by exact zo) | have hn := nw2 hb hall (by exact zo) | have hn := nw1 hb hall (by exact zo) | have hn := nw0 hb hall (by exact zo)); obtain ⟨hc, hf, hn, hc0⟩ := hn; replace hall := hn; clear hn; have hz := hb.size; (try simp only [World.size_alloc, World.size_setCell, World.size_drew] at hz); have hx := hall; (try simp only [allLt, and_true] at hx); obtain ⟨w1, rfl⟩ : ∃ x, x = w2 := ⟨_, rfl⟩))
        go_ret
        exact ⟨by simp [groupBits, hg], HL.out⟩
theorem i_GroupSlot (va : Value) (xs : List Sp) (slot : Int) (w : World) (ha : SpansAt w va xs) : Calls Try.prog 20 #[va, .int .i64 slot] w fun e w' => e = .returned (.int .i64 (groupSlot xs slot)) ∧ Below w.heap.size w w' := by
  have CO := Lib.hid (fun r (hr : groupOk xs = r) => hr ▸ i_GroupOk va xs w ha)
  obtain ⟨ao, ca, rfl, hn, hm, hra⟩ := ha.open
  have hle : xs.length ≤ 9223372036854775807 := by unfold maxLen at hm; omega
  clear hm
  have HA := Lib.hid hra; clear hra ha
  cases hg : groupOk xs
  · (have hall := all_nil w; go_enter Try.func20, Try.ntmps20)
    go_wp2_with (first | (go_at_call 18; refine (CO.out _ hg).mono ?_; rintro e w2 ⟨rfl, hb⟩; (first | have hn := nw4 hb hall (by exact zo) | have hn := nw3 hb hall (by exact zo) | have hn := nw2 hb hall (by exact zo) | have hn := nw1 hb hall (by exact zo) | have hn := nw0 hb hall (by exact zo)); obtain ⟨hc, hf, hn, hc0⟩ := hn; replace hall := hn; clear hn; have hz := hb.size; (try simp only [World.size_alloc, World.size_setCell, World.size_drew] at hz); have hx := hall; (try simp only [allLt, and_true] at hx); obtain ⟨w1, rfl⟩ : ∃ x, x = w2 := ⟨_, rfl⟩) | (with_reducible refine wp_region_grew2 (by kernel_rfl) (by kernel_rfl) ?_; intro w2 hb; (first | have hn := nw4 hb hall (by exact zo) | have hn := nw3 hb hall (by exact zo) | have hn := nw2 hb hall (by exact zo) | have hn := nw1 hb hall (by exact zo) | have hn := nw0 hb hall (by exact zo)); obtain ⟨hc, hf, hn, hc0⟩ := hn; replace hall := hn; clear hn; have hz := hb.size; (try simp only [World.size_alloc, World.size_setCell, World.size_drew] at hz); have hx := hall; (try simp only [allLt, and_true] at hx); obtain ⟨w1, rfl⟩ : ∃ x, x = w2 := ⟨_, rfl⟩; (repeat (go_big_quiet_step (fail))); refine wpQuiet_nil ?_; intro w2 hw'; have hb := grew_below hw'; clear hw'; (first | have hn := nw4 hb hall (by exact zo) | have hn := nw3 hb hall (by exact zo) | have hn := nw2 hb hall (by exact zo) | have hn := nw1 hb hall (by exact zo) | have hn := nw0 hb hall (by exact zo)); obtain ⟨hc, hf, hn, hc0⟩ := hn; replace hall := hn; clear hn; have hz := hb.size; (try simp only [World.size_alloc, World.size_setCell, World.size_drew] at hz); have hx := hall; (try simp only [allLt, and_true] at hx); obtain ⟨w1, rfl⟩ : ∃ x, x = w2 := ⟨_, rfl⟩))
    go_ret
    exact ⟨by simp [groupSlot, hg], hb⟩
  · (have hall := all_nil w; go_enter Try.func20, Try.ntmps20)
    go_wp2_with (first | (go_at_call 18; refine (CO.out _ hg).mono ?_; rintro e w2 ⟨rfl, hb⟩; have hb0 := hb; (first | have hn := nw4 hb hall (by exact zo) | have hn := nw3 hb hall (by exact zo) | have hn := nw2 hb hall (by exact zo) | have hn := nw1 hb hall (by exact zo) | have hn := nw0 hb hall (by exact zo)); obtain ⟨hc, hf, hn, hc0⟩ := hn; replace hall := hn; clear hn; have hz := hb.size; (try simp only [World.size_alloc, World.size_setCell, World.size_drew] at hz); have hx := hall; (try simp only [allLt, and_true] at hx); obtain ⟨w1, rfl⟩ : ∃ x, x = w2 := ⟨_, rfl⟩) | (with_reducible refine wp_region_grew2 (by kernel_rfl) (by kernel_rfl) ?_; intro w2 hb; (first | have hn := nw4 hb hall (by exact zo) | have hn := nw3 hb hall (by exact zo) | have hn := nw2 hb hall (by exact zo) | have hn := nw1 hb hall (by exact zo) | have hn := nw0 hb hall (by exact zo)); obtain ⟨hc, hf, hn, hc0⟩ := hn; replace hall := hn; clear hn; have hz := hb.size; (try simp only [World.size_alloc, World.size_setCell, World.size_drew] at hz); have hx := hall; (try simp only [allLt, and_true] at hx); obtain ⟨w1, rfl⟩ : ∃ x, x = w2 := ⟨_, rfl⟩; (repeat (go_big_quiet_step (fail))); refine wpQuiet_nil ?_; intro w2 hw'; have hb := grew_below hw'; clear hw'; (first | have hn := nw4 hb hall (by exact zo) | have hn := nw3 hb hall (by exact zo) | have hn := nw2 hb hall (by exact zo) | have hn := nw1 hb hall (by exact zo) | have hn := nw0 hb hall (by exact zo)); obtain ⟨hc, hf, hn, hc0⟩ := hn; replace hall := hn; clear hn; have hz := hb.size; (try simp only [World.size_alloc, World.size_setCell, World.size_drew] at hz); have hx := hall; (try simp only [allLt, and_true] at hx); obtain ⟨w1, rfl⟩ : ∃ x, x = w2 := ⟨_, rfl⟩))
    go_loopw [11] (fun i wr => ∃ k : Nat, k ≤ xs.length ∧ i = .int .i64 k ∧ gFind slot xs 0 = gFind slot (xs.drop k) k ∧ Below w.heap.size w wr) (fun i _ => xs.length - (intOf i).toNat)
    case atStart => exact ⟨0, Nat.zero_le _, rfl, rfl, hb0⟩
    case round =>
      clear hb0 hb hc hf hz hall hx
      obtain ⟨k, hk, rfl, hfind, hbel⟩ := hrel
      have HL := Lib.hid hbel; have hsz := hbel.size; clear hbel
      have HF := Lib.hid hfind; clear hfind
      by_cases hlt : k < xs.length
      · have hlt' : (k : Int) < xs.length := by omega
        obtain ⟨ga, oa, haoa, hga, a0, a1, a2⟩ := HA.out k hlt
        subst haoa
        replace a0 := (HL.out.cell (p := ⟨ga, oa + k * 3, none⟩) (by first | exact hga | assumption)).trans a0
        replace a1 := (HL.out.cell (p := ⟨ga, oa + k * 3 + 1, none⟩) (by first | exact hga | assumption)).trans a1
        replace a2 := (HL.out.cell (p := ⟨ga, oa + k * 3 + 2, none⟩) (by first | exact hga | assumption)).trans a2
        obtain ⟨a, hea⟩ : ∃ x, x = xs.getD k default := ⟨_, rfl⟩
        rw [← hea] at a0 a1 a2
        have Ha := Lib.hid hea; clear hea
        (obtain ⟨w1, rfl⟩ : ∃ x, x = wr := ⟨_, rfl⟩; have hall : allLt [ga] w1.heap.size := ⟨by omega, trivial⟩; have hx := hall; (try simp only [allLt, and_true] at hx))
        cases hh : hasSlot a.b slot
        · go_wp2_with (first | (go_at_call 82; (first | (refine (i_HasSlot _ _ true (by assumption) _).mono ?_) | (refine (i_HasSlot _ _ false (by assumption) _).mono ?_) | (refine (i_HasSlot _ _ _ rfl _).mono ?_)); rintro e w2 ⟨rfl, rfl⟩) | (with_reducible refine wp_region_grew2 (by kernel_rfl) (by kernel_rfl) ?_; intro w2 hb; (first | have hn := nw4 hb hall (by exact zo) | have hn := nw3 hb hall (by exact zo) | have hn := nw2 hb hall (by exact zo) | have hn := nw1 hb hall (by exact zo) | have hn := nw0 hb hall (by exact zo)); obtain ⟨hc, hf, hn, hc0⟩ := hn; replace hall := hn; clear hn; have hz := hb.size; (try simp only [World.size_alloc, World.size_setCell, World.size_drew] at hz); have hx := hall; (try simp only [allLt, and_true] at hx); obtain ⟨w1, rfl⟩ : ∃ x, x = w2 := ⟨_, rfl⟩; (repeat (go_big_quiet_step (first | (go_at_call 82; first | exact calls_same (i_HasSlot _ _ true (by assumption) _) | exact calls_same (i_HasSlot _ _ false (by assumption) _) | exact calls_same (i_HasSlot _ _ _ rfl _))))); refine wpQuiet_nil ?_; intro w2 hw'; have hb := grew_below hw'; clear hw'; (first | have hn := nw4 hb hall (by exact zo) | have hn := nw3 hb hall (by exact zo) | have hn := nw2 hb hall (by exact zo) | have hn := nw1 hb hall (by exact zo) | have hn := nw0 hb hall (by exact zo)); obtain ⟨hc, hf, hn, hc0⟩ := hn; replace hall := hn; clear hn; have hz := hb.size; (try simp only [World.size_alloc, World.size_setCell, World.size_drew] at hz); have hx := hall; (try simp only [allLt, and_true] at hx); obtain ⟨w1, rfl⟩ : ∃ x, x = w2 := ⟨_, rfl⟩))
          go_roundw
          case rel =>
            have hL := HL.out; have hLs := hL.size
            exact ⟨k + 1, by omega, by go_num, by rw [HF.out, gFind_drop hlt, ← Ha.out, hh]; rfl, by exact bel⟩
          case measure => simp [intOf]; omega
        · go_wp2_with (first | (go_at_call 82; (first | (refine (i_HasSlot _ _ true (by assumption) _).mono ?_) | (refine (i_HasSlot _ _ false (by assumption) _).mono ?_) | (refine (i_HasSlot _ _ _ rfl _).mono ?_)); rintro e w2 ⟨rfl, rfl⟩) | (with_reducible refine wp_region_grew2 (by kernel_rfl) (by kernel_rfl) ?_; intro w2 hb; (first | have hn := nw4 hb hall (by exact zo) | have hn := nw3 hb hall (by exact zo) | have hn := nw2 hb hall (by exact zo) | have hn := nw1 hb hall (by exact zo) | have hn := nw0 hb hall (by exact zo)); obtain ⟨hc, hf, hn, hc0⟩ := hn; replace hall := hn; clear hn; have hz := hb.size; (try simp only [World.size_alloc, World.size_setCell, World.size_drew] at hz); have hx := hall; (try simp only [allLt, and_true] at hx); obtain ⟨w1, rfl⟩ : ∃ x, x = w2 := ⟨_, rfl⟩; (repeat (go_big_quiet_step (first | (go_at_call 82; first | exact calls_same (i_HasSlot _ _ true (by assumption) _) | exact calls_same (i_HasSlot _ _ false (by assumption) _) | exact calls_same (i_HasSlot _ _ _ rfl _))))); refine wpQuiet_nil ?_; intro w2 hw'; have hb := grew_below hw'; clear hw'; (first | have hn := nw4 hb hall (by exact zo) | have hn := nw3 hb hall (by exact zo) | have hn := nw2 hb hall (by exact zo) | have hn := nw1 hb hall (by exact zo) | have hn := nw0 hb hall (by exact zo)); obtain ⟨hc, hf, hn, hc0⟩ := hn; replace hall := hn; clear hn; have hz := hb.size; (try simp only [World.size_alloc, World.size_setCell, World.size_drew] at hz); have hx := hall; (try simp only [allLt, and_true] at hx); obtain ⟨w1, rfl⟩ : ∃ x, x = w2 := ⟨_, rfl⟩))
          go_ret
          have hL := HL.out; have hLs := hL.size
          have hv : gFind slot xs 0 = k := by rw [HF.out, gFind_drop hlt, ← Ha.out, hh]; rfl
          exact ⟨by simp [groupSlot, hg, hv], by exact bel⟩
      · have hlt' : ¬ (k : Int) < xs.length := by omega
        obtain rfl : k = xs.length := by omega
        go_wp2_with (first | (with_reducible refine wp_region_grew2 (by kernel_rfl) (by kernel_rfl) ?_; intro w2 hb; (first | have hn := nw4 hb hall (by exact zo) | have hn := nw3 hb hall (by exact zo) | have hn := nw2 hb hall (by exact zo) | have hn := nw1 hb hall (by exact zo) | have hn := nw0 hb hall (by exact zo)); obtain ⟨hc, hf, hn, hc0⟩ := hn; replace hall := hn; clear hn; have hz := hb.size; (try simp only [World.size_alloc, World.size_setCell, World.size_drew] at hz); have hx := hall; (try simp only [allLt, and_true] at hx); obtain ⟨w1, rfl⟩ : ∃ x, x = w2 := ⟨_, rfl⟩; (repeat (go_big_quiet_step (fail))); refine wpQuiet_nil ?_; intro w2 hw'; have hb := grew_below hw'; clear hw'; (first | have hn := nw4 hb hall (by exact zo) | have hn := nw3 hb hall (by exact zo) | have hn := nw2 hb hall (by exact zo) | have hn := nw1 hb hall (by exact zo) | have hn := nw0 hb hall (by exact zo)); obtain ⟨hc, hf, hn, hc0⟩ := hn; replace hall := hn; clear hn; have hz := hb.size; (try simp only [World.size_alloc, World.size_setCell, World.size_drew] at hz); have hx := hall; (try simp only [allLt, and_true] at hx); obtain ⟨w1, rfl⟩ : ∃ x, x = w2 := ⟨_, rfl⟩))
        go_ret
        have hv : gFind slot xs 0 = -1 := by rw [HF.out, List.drop_length]; rfl
        exact ⟨by simp [groupSlot, hg, hv], HL.out⟩
end Go.Proofs.Ytkdafincnmkjnaa
