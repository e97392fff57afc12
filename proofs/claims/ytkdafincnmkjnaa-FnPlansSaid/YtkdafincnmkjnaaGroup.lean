/-
  Functions on lists of spans: pairs that can be meshed, groups.
-/
import Derived.Test.YtkdafincnmkjnaaSpans
import Derived.Test.YtkdafincnmkjnaaSpan
set_option linter.unusedVariables false
set_option linter.unusedSimpArgs false
namespace Go.Proofs.Ytkdafincnmkjnaa
open Go.RowKit
theorem l_eqSpanS (va vb : Value) (xs : List Sp) (w : World) (ha : SpansAt w va xs) (hb : SpansAt w vb xs) : Calls Try.prog 27 #[va, vb] w fun e w' => e = .returned (.bool true) ∧ Below w.heap.size w w' := by
  obtain ⟨ao, ca, rfl, _, hm, hra⟩ := ha
  obtain ⟨bo, cb, rfl, _, _, hrb⟩ := hb
  have hle : xs.length ≤ 9223372036854775807 := by unfold maxLen at hm; omega
  clear hm
  have HA := Lib.hid hra; have HB := Lib.hid hrb; clear hra hrb
  (have hall := all_nil w; go_enter Try.func27, Try.ntmps27)
  go_wp2_with (first | (with_reducible refine wp_region_grew2 (by kernel_rfl) (by kernel_rfl) ?_; intro w2 hb; (first | have hn := nw4 hb hall (by exact zo) | have hn := nw3 hb hall (by exact zo) | have hn := nw2 hb hall (by exact zo) | have hn := nw1 hb hall (by exact zo) | have hn := nw0 hb hall (by exact zo)); obtain ⟨hc, hf, hn, hc0⟩ := hn; replace hall := hn; clear hn; have hz := hb.size; (try simp only [World.size_alloc, World.size_setCell, World.size_drew] at hz); have hx := hall; (try simp only [allLt, and_true] at hx); obtain ⟨w1, rfl⟩ : ∃ x, x = w2 := ⟨_, rfl⟩; (repeat (go_big_quiet_step (fail))); refine wpQuiet_nil ?_; intro w2 hw'; have hb := grew_below hw'; clear hw'; (first | have hn := nw4 hb hall (by exact zo) | have hn := nw3 hb hall (by exact zo) | have hn := nw2 hb hall (by exact zo) | have hn := nw1 hb hall (by exact zo) | have hn := nw0 hb hall (by exact zo)); obtain ⟨hc, hf, hn, hc0⟩ := hn; replace hall := hn; clear hn; have hz := hb.size; (try simp only [World.size_alloc, World.size_setCell, World.size_drew] at hz); have hx := hall; (try simp only [allLt, and_true] at hx); obtain ⟨w1, rfl⟩ : ∃ x, x = w2 := ⟨_, rfl⟩))
  go_loopw [5] (fun i wr => ∃ j : Nat, j ≤ xs.length ∧ i = .int .i64 j ∧ Below w.heap.size w wr) (fun i _ => xs.length - (intOf i).toNat)
  case atStart => exact ⟨0, Nat.zero_le _, rfl, Below.refl _ _⟩
  case round =>
    obtain ⟨j, hj, rfl, hbel⟩ := hrel
    have HL := Lib.hid hbel; have hsz := hbel.size; clear hbel
    by_cases hlt : j < xs.length
    · have hlt' : (j : Int) < xs.length := by omega
      obtain ⟨ga, oa, rfl, hga, a0, a1, a2⟩ := HA.out j hlt
      obtain ⟨gb, ob, rfl, hgb, b0, b1, b2⟩ := HB.out j hlt
      replace a0 := (HL.out.cell (p := ⟨ga, oa + j * 3, none⟩) hga).trans a0
      replace a1 := (HL.out.cell (p := ⟨ga, oa + j * 3 + 1, none⟩) hga).trans a1
      replace a2 := (HL.out.cell (p := ⟨ga, oa + j * 3 + 2, none⟩) hga).trans a2
      replace b0 := (HL.out.cell (p := ⟨gb, ob + j * 3, none⟩) hgb).trans b0
      replace b1 := (HL.out.cell (p := ⟨gb, ob + j * 3 + 1, none⟩) hgb).trans b1
      replace b2 := (HL.out.cell (p := ⟨gb, ob + j * 3 + 2, none⟩) hgb).trans b2
      generalize xs[j].p = p at *
      generalize xs[j].c = c at *
      generalize xs[j].b = b at *
      (obtain ⟨w1, rfl⟩ : ∃ x, x = wr := ⟨_, rfl⟩; have hall : allLt [ga, gb] w1.heap.size := ⟨by omega, by omega, trivial⟩; have hx := hall; (try simp only [allLt, and_true] at hx))
      go_wp2_with (first | (go_at_call 87; (refine (l_eqSpan _ _ _ _).mono ?_); rintro e w2 ⟨rfl, hb⟩; (first | have hn := nw4 hb hall (by exact zo) | have hn := nw3 hb hall (by exact zo) | have hn := nw2 hb hall (by exact zo) | have hn := nw1 hb hall (by exact zo) | have hn := nw0 hb hall (by exact zo)); obtain ⟨hc, hf, hn, hc0⟩ := hn; replace hall := hn; clear hn; have hz := hb.size; (try simp only [World.size_alloc, World.size_setCell, World.size_drew] at hz); have hx := hall; (try simp only [allLt, and_true] at hx); obtain ⟨w1, rfl⟩ : ∃ x, x = w2 := ⟨_, rfl⟩) | (with_reducible refine wp_region_grew2 (by kernel_rfl) (by kernel_rfl) ?_; intro w2 hb; (first | have hn := nw4 hb hall (by exact zo) | have hn := nw3 hb hall (by exact zo) | have hn := nw2 hb hall (by exact zo) | have hn := nw1 hb hall (by exact zo) | have hn := nw0 hb hall (by exact zo)); obtain ⟨hc, hf, hn, hc0⟩ := hn; replace hall := hn; clear hn; have hz := hb.size; (try simp only [World.size_alloc, World.size_setCell, World.size_drew] at hz); have hx := hall; (try simp only [allLt, and_true] at hx); obtain ⟨w1, rfl⟩ : ∃ x, x = w2 := ⟨_, rfl⟩; (repeat (go_big_quiet_step (first | (go_at_call 87; exact calls_grew (l_eqSpan _ _ _ _))))); refine wpQuiet_nil ?_; intro w2 hw'; have hb := grew_below hw'; clear hw'; (first | have hn := nw4 hb hall (by exact zo) | have hn := nw3 hb hall (by exact zo) | have hn := nw2 hb hall (by exact zo) | have hn := nw1 hb hall (by exact zo) | have hn := nw0 hb hall (by exact zo)); obtain ⟨hc, hf, hn, hc0⟩ := hn; replace hall := hn; clear hn; have hz := hb.size; (try simp only [World.size_alloc, World.size_setCell, World.size_drew] at hz); have hx := hall; (try simp only [allLt, and_true] at hx); obtain ⟨w1, rfl⟩ : ∃ x, x = w2 := ⟨_, rfl⟩))
      go_roundw
      case rel =>
        have hL := HL.out
        exact ⟨j + 1, by omega, by go_num, by exact bel⟩
      case measure => simp [intOf]; omega
    · have hlt' : ¬ (j : Int) < xs.length := by omega
      go_wp2_with (first | (with_reducible refine wp_region_grew2 (by kernel_rfl) (by kernel_rfl) ?_; intro w2 hb; (first | have hn := nw4 hb hall (by exact zo) | have hn := nw3 hb hall (by exact zo) | have hn := nw2 hb hall (by exact zo) | have hn := nw1 hb hall (by exact zo) | have hn := nw0 hb hall (by exact zo)); obtain ⟨hc, hf, hn, hc0⟩ := hn; replace hall := hn; clear hn; have hz := hb.size; (try simp only [World.size_alloc, World.size_setCell, World.size_drew] at hz); have hx := hall; (try simp only [allLt, and_true] at hx); obtain ⟨w1, rfl⟩ : ∃ x, x = w2 := ⟨_, rfl⟩; (repeat (go_big_quiet_step (fail))); refine wpQuiet_nil ?_; intro w2 hw'; have hb := grew_below hw'; clear hw'; (first | have hn := nw4 hb hall (by exact zo) | have hn := nw3 hb hall (by exact zo) | have hn := nw2 hb hall (by exact zo) | have hn := nw1 hb hall (by exact zo) | have hn := nw0 hb hall (by exact zo)); obtain ⟨hc, hf, hn, hc0⟩ := hn; replace hall := hn; clear hn; have hz := hb.size; (try simp only [World.size_alloc, World.size_setCell, World.size_drew] at hz); have hx := hall; (try simp only [allLt, and_true] at hx); obtain ⟨w1, rfl⟩ : ∃ x, x = w2 := ⟨_, rfl⟩))
      go_ret
      exact ⟨rfl, HL.out⟩
def meshS (a b : Sp) : Bool := meshable a.p a.c a.b b.p b.c b.b
theorem i_MeshS (a b : Sp) (r : Bool) (hr : meshS a b = r) (w : World) :
    Calls Try.prog 80 #[a.val, b.val] w fun e w' => e = .returned (.bool r) ∧ Below w.heap.size w w' := i_Meshable _ _ _ _ _ _ _ hr w
theorem s_MeshS (a b : Sp) (r : Bool) (hr : meshS a b = r) (w : World) :
    Calls Try.prog 43 #[a.val, b.val] w fun e w' => e = .returned (.bool r) ∧ Below w.heap.size w w' := s_Meshable _ _ _ _ _ _ _ hr w
theorem bits_and_comm (x y : Int) : bits .and .i64 x y = bits .and .i64 y x := by unfold bits; simp [BitVec.and_comm]
theorem meshS_comm (a b : Sp) : meshS a b = meshS b a := by
  unfold meshS meshable
  rw [bits_and_comm, Bool.beq_comm (a := a.c), show (a.p != b.p) = (b.p != a.p) by simp [bne, Bool.beq_comm]]
  cases spanOk a.p a.c a.b <;> cases spanOk b.p b.c b.b <;> simp
/-- The k spans ahead of span i can be meshed with it. -/
def gRow (xs : List Sp) (i : Nat) : Nat → Bool
  | 0 => true
  | k + 1 => gRow xs i k && meshS (xs.getD k default) (xs.getD i default)
def gTo (xs : List Sp) : Nat → Bool
  | 0 => true
  | i + 1 => gTo xs i && gRow xs i i
def groupOk (xs : List Sp) : Bool := gTo xs xs.length && (decide (0 < (xs.length : Int)) && spanOk (xs.getD 0 default).p (xs.getD 0 default).c (xs.getD 0 default).b)
theorem gRow_false {xs : List Sp} {i k m : Nat} (hk : k ≤ m) (h : gRow xs i k = false) : gRow xs i m = false := by
  induction hk with
  | refl => exact h
  | step _ ih => simp [gRow, ih]
theorem gTo_false {xs : List Sp} {k m : Nat} (hk : k ≤ m) (h : gTo xs k = false) : gTo xs m = false := by
  induction hk with
  | refl => exact h
  | step _ ih => simp [gTo, ih]
theorem groupOk_not {xs : List Sp} {i k : Nat} (hk : k < i) (hi : i < xs.length) (h : meshS (xs.getD k default) (xs.getD i default) = false) : groupOk xs = false := by
  have h1 : gRow xs i (k + 1) = false := by rw [gRow, h, Bool.and_false]
  have h2 := gRow_false (m := i) (by omega) h1
  have h3 : gTo xs (i + 1) = false := by simp [gTo, h2]
  have h4 := gTo_false (m := xs.length) (by omega) h3
  simp [groupOk, h4]
/-- How many of the k spans ahead of span i can be meshed with it. -/
def eRow (xs : List Sp) (i : Nat) : Nat → Int
  | 0 => 0
  | k + 1 => eRow xs i k + if meshS (xs.getD k default) (xs.getD i default) then 1 else 0
def eTo (xs : List Sp) : Nat → Int
  | 0 => 0
  | i + 1 => eTo xs i + eRow xs i i
theorem eRow_le (xs : List Sp) (i : Nat) : ∀ k, 0 ≤ eRow xs i k ∧ eRow xs i k ≤ k
  | 0 => ⟨Int.le_refl _, Int.le_refl _⟩
  | k + 1 => by have := eRow_le xs i k; simp only [eRow]; split <;> omega
theorem eTo_le (xs : List Sp) : ∀ k, k ≤ 1048576 → 0 ≤ eTo xs k ∧ eTo xs k ≤ k * 1048576
  | 0, _ => ⟨Int.le_refl _, Int.le_refl _⟩
  | k + 1, h => by have := eTo_le xs k (by omega); have := eRow_le xs k k; simp only [eTo]; omega
theorem i_GroupOk (va : Value) (xs : List Sp) (w : World) (ha : SpansAt w va xs) : Calls Try.prog 18 #[va] w fun e w' => e = .returned (.bool (groupOk xs)) ∧ Below w.heap.size w w' := by
  obtain ⟨ao, ca, rfl, hn, hm, hra⟩ := ha.open
  have hle : xs.length ≤ 9223372036854775807 := by unfold maxLen at hm; omega
  clear hm
  have HA := Lib.hid hra; clear hra ha
  (have hall := all_nil w; go_enter Try.func18, Try.ntmps18)
  go_wp2_with (first | (with_reducible refine wp_region_grew2 (by kernel_rfl) (by kernel_rfl) ?_; intro w2 hb; (first | have hn := nw4 hb hall (by exact zo) | have hn := nw3 hb hall (by exact zo) | have hn := nw2 hb hall (by exact zo) | have hn := nw1 hb hall (by exact zo) | have hn := nw0 hb hall (by exact zo)); obtain ⟨hc, hf, hn, hc0⟩ := hn; replace hall := hn; clear hn; have hz := hb.size; (try simp only [World.size_alloc, World.size_setCell, World.size_drew] at hz); have hx := hall; (try simp only [allLt, and_true] at hx); obtain ⟨w1, rfl⟩ : ∃ x, x = w2 := ⟨_, rfl⟩; (repeat (go_big_quiet_step (fail))); refine wpQuiet_nil ?_; intro w2 hw'; have hb := grew_below hw'; clear hw'; (first | have hn := nw4 hb hall (by exact zo) | have hn := nw3 hb hall (by exact zo) | have hn := nw2 hb hall (by exact zo) | have hn := nw1 hb hall (by exact zo) | have hn := nw0 hb hall (by exact zo)); obtain ⟨hc, hf, hn, hc0⟩ := hn; replace hall := hn; clear hn; have hz := hb.size; (try simp only [World.size_alloc, World.size_setCell, World.size_drew] at hz); have hx := hall; (try simp only [allLt, and_true] at hx); obtain ⟨w1, rfl⟩ : ∃ x, x = w2 := ⟨_, rfl⟩))
  go_loopw [9] (fun i wr => ∃ k : Nat, k ≤ xs.length ∧ i = .int .i64 k ∧ gTo xs k = true ∧ Below w.heap.size w wr) (fun i _ => xs.length - (intOf i).toNat)
  case atStart => exact ⟨0, Nat.zero_le _, rfl, rfl, Below.refl _ _⟩
  case round =>
    obtain ⟨k, hk, rfl, hto, hbel⟩ := hrel
    have HL := Lib.hid hbel; have hsz := hbel.size; clear hbel
    have HT := Lib.hid hto; clear hto
    by_cases hlt : k < xs.length
    · have hlt' : (k : Int) < xs.length := by omega
      obtain ⟨ga, oa, haoa, hga, a0, a1, a2⟩ := HA.out k hlt
      subst haoa
      replace a0 := (HL.out.cell (p := ⟨ga, oa + k * 3, none⟩) (by first | exact hga | assumption)).trans a0
      replace a1 := (HL.out.cell (p := ⟨ga, oa + k * 3 + 1, none⟩) (by first | exact hga | assumption)).trans a1
      replace a2 := (HL.out.cell (p := ⟨ga, oa + k * 3 + 2, none⟩) (by first | exact hga | assumption)).trans a2
      obtain ⟨a, hea⟩ : ∃ x, x = xs.getD k default := ⟨_, rfl⟩
      rw [← hea] at a0 a1 a2
      have Ha := Lib.hid hea; clear hea
      (obtain ⟨w1, rfl⟩ : ∃ x, x = wr := ⟨_, rfl⟩; have hall : allLt [ga] w1.heap.size := ⟨by omega, trivial⟩; have hx := hall; (try simp only [allLt, and_true] at hx))
      go_wp2_with (first | (with_reducible refine wp_region_grew2 (by kernel_rfl) (by kernel_rfl) ?_; intro w2 hb; (first | have hn := nw4 hb hall (by exact zo) | have hn := nw3 hb hall (by exact zo) | have hn := nw2 hb hall (by exact zo) | have hn := nw1 hb hall (by exact zo) | have hn := nw0 hb hall (by exact zo)); obtain ⟨hc, hf, hn, hc0⟩ := hn; replace hall := hn; clear hn; have hz := hb.size; (try simp only [World.size_alloc, World.size_setCell, World.size_drew] at hz); have hx := hall; (try simp only [allLt, and_true] at hx); obtain ⟨w1, rfl⟩ : ∃ x, x = w2 := ⟨_, rfl⟩; (repeat (go_big_quiet_step (fail))); refine wpQuiet_nil ?_; intro w2 hw'; have hb := grew_below hw'; clear hw'; (first | have hn := nw4 hb hall (by exact zo) | have hn := nw3 hb hall (by exact zo) | have hn := nw2 hb hall (by exact zo) | have hn := nw1 hb hall (by exact zo) | have hn := nw0 hb hall (by exact zo)); obtain ⟨hc, hf, hn, hc0⟩ := hn; replace hall := hn; clear hn; have hz := hb.size; (try simp only [World.size_alloc, World.size_setCell, World.size_drew] at hz); have hx := hall; (try simp only [allLt, and_true] at hx); obtain ⟨w1, rfl⟩ : ∃ x, x = w2 := ⟨_, rfl⟩))
      obtain ⟨B0, hB0⟩ : ∃ x, x = w1.heap.size := ⟨_, rfl⟩
      have hx0 : ga < B0 := by omega
      go_loopw [18] (fun i wr => ∃ m : Nat, m ≤ k ∧ i = .int .i64 m ∧ gRow xs k m = true ∧ Below w.heap.size w wr ∧ B0 < wr.heap.size ∧
        (wr.cell? ⟨B0, 0, none⟩ = some (.int .i64 a.p) ∧ wr.cell? ⟨B0, 1, none⟩ = some (.int .i64 a.c) ∧ wr.cell? ⟨B0, 2, none⟩ = some (.int .i64 a.b))) (fun i _ => k - (intOf i).toNat)
      case atStart =>
        subst hB0
        have hL := HL.out; have hLs := hL.size
        exact ⟨0, Nat.zero_le _, rfl, rfl, by exact bel, by go_simp, by go_simp, by go_simp, by go_simp⟩
      case round =>
        obtain ⟨m, hm, rfl, hrow, hbel, hsz2, ⟨k0, k1, k2⟩⟩ := hrel
        rw [← hB0]
        clear hB0 a0 a1 a2
        have HL2 := Lib.hid hbel; clear hbel
        have HR := Lib.hid hrow; clear hrow
        by_cases hlm : m < k
        · have hlm' : (m : Int) < k := by omega
          obtain ⟨gb, ob, haob, hgb, b0, b1, b2⟩ := HA.out m (by omega)
          (simp only [Option.some.injEq, Addr.mk.injEq, and_true] at haob; obtain ⟨rfl, rfl⟩ := haob)
          replace b0 := (HL2.out.cell (p := ⟨ga, oa + m * 3, none⟩) (by first | exact hgb | assumption)).trans b0
          replace b1 := (HL2.out.cell (p := ⟨ga, oa + m * 3 + 1, none⟩) (by first | exact hgb | assumption)).trans b1
          replace b2 := (HL2.out.cell (p := ⟨ga, oa + m * 3 + 2, none⟩) (by first | exact hgb | assumption)).trans b2
          obtain ⟨b, heb⟩ : ∃ x, x = xs.getD m default := ⟨_, rfl⟩
          rw [← heb] at b0 b1 b2
          have Hb := Lib.hid heb; clear heb
          (obtain ⟨w1, rfl⟩ : ∃ x, x = wr := ⟨_, rfl⟩; have hall : allLt [ga, B0] w1.heap.size := ⟨by omega, by omega, trivial⟩; have hx := hall; (try simp only [allLt, and_true] at hx))
          cases hmesh : meshS a b
          · go_wp2_with (first | (go_at_call 80; (first | (refine (i_MeshS _ _ true (by assumption) _).mono ?_) | (refine (i_MeshS _ _ false (by assumption) _).mono ?_) | (refine (i_MeshS _ _ _ rfl _).mono ?_)); rintro e w2 ⟨rfl, hb⟩; (first | have hn := nw4 hb hall (by exact zo) | have hn := nw3 hb hall (by exact zo) | have hn := nw2 hb hall (by exact zo) | have hn := nw1 hb hall (by exact zo) | have hn := nw0 hb hall (by exact zo)); obtain ⟨hc, hf, hn, hc0⟩ := hn; replace hall := hn; clear hn; have hz := hb.size; (try simp only [World.size_alloc, World.size_setCell, World.size_drew] at hz); have hx := hall; (try simp only [allLt, and_true] at hx); obtain ⟨w1, rfl⟩ : ∃ x, x = w2 := ⟨_, rfl⟩) | (with_reducible refine wp_region_grew2 (by kernel_rfl) (by kernel_rfl) ?_; intro w2 hb; (first | have hn := nw4 hb hall (by exact zo) | have hn := nw3 hb hall (by exact zo) | have hn := nw2 hb hall (by exact zo) | have hn := nw1 hb hall (by exact zo) | have hn := nw0 hb hall (by exact zo)); obtain ⟨hc, hf, hn, hc0⟩ := hn; replace hall := hn; clear hn; have hz := hb.size; (try simp only [World.size_alloc, World.size_setCell, World.size_drew] at hz); have hx := hall; (try simp only [allLt, and_true] at hx); obtain ⟨w1, rfl⟩ : ∃ x, x = w2 := ⟨_, rfl⟩; (repeat (go_big_quiet_step (first | (go_at_call 80; first | exact calls_grew (i_MeshS _ _ true (by assumption) _) | exact calls_grew (i_MeshS _ _ false (by assumption) _) | exact calls_grew (i_MeshS _ _ _ rfl _))))); refine wpQuiet_nil ?_; intro w2 hw'; have hb := grew_below hw'; clear hw'; (first | have hn := nw4 hb hall (by exact zo) | have hn := nw3 hb hall (by exact zo) | have hn := nw2 hb hall (by exact zo) | have hn := nw1 hb hall (by exact zo) | have hn := nw0 hb hall (by exact zo)); obtain ⟨hc, hf, hn, hc0⟩ := hn; replace hall := hn; clear hn; have hz := hb.size; (try simp only [World.size_alloc, World.size_setCell, World.size_drew] at hz); have hx := hall; (try simp only [allLt, and_true] at hx); obtain ⟨w1, rfl⟩ : ∃ x, x = w2 := ⟨_, rfl⟩))
            go_ret
            have hL := HL2.out; have hLs := hL.size
            have hg := groupOk_not hlm hlt (by rw [← Ha.out, ← Hb.out, meshS_comm]; exact hmesh)
            exact ⟨by simp [hg], by exact bel⟩
          · go_wp2_with (first | (go_at_call 80; (first | (refine (i_MeshS _ _ true (by assumption) _).mono ?_) | (refine (i_MeshS _ _ false (by assumption) _).mono ?_) | (refine (i_MeshS _ _ _ rfl _).mono ?_)); rintro e w2 ⟨rfl, hb⟩; (first | have hn := nw4 hb hall (by exact zo) | have hn := nw3 hb hall (by exact zo) | have hn := nw2 hb hall (by exact zo) | have hn := nw1 hb hall (by exact zo) | have hn := nw0 hb hall (by exact zo)); obtain ⟨hc, hf, hn, hc0⟩ := hn; replace hall := hn; clear hn; have hz := hb.size; (try simp only [World.size_alloc, World.size_setCell, World.size_drew] at hz); have hx := hall; (try simp only [allLt, and_true] at hx); obtain ⟨w1, rfl⟩ : ∃ x, x = w2 := ⟨_, rfl⟩) | (with_reducible refine wp_region_grew2 (by kernel_rfl) (by kernel_rfl) ?_; intro w2 hb; (first | have hn := nw4 hb hall (by exact zo) | have hn := nw3 hb hall (by exact zo) | have hn := nw2 hb hall (by exact zo) | have hn := nw1 hb hall (by exact zo) | have hn := nw0 hb hall (by exact zo)); obtain ⟨hc, hf, hn, hc0⟩ := hn; replace hall := hn; clear hn; have hz := hb.size; (try simp only [World.size_alloc, World.size_setCell, World.size_drew] at hz); have hx := hall; (try simp only [allLt, and_true] at hx); obtain ⟨w1, rfl⟩ : ∃ x, x = w2 := ⟨_, rfl⟩; (repeat (go_big_quiet_step (first | (go_at_call 80; first | exact calls_grew (i_MeshS _ _ true (by assumption) _) | exact calls_grew (i_MeshS _ _ false (by assumption) _) | exact calls_grew (i_MeshS _ _ _ rfl _))))); refine wpQuiet_nil ?_; intro w2 hw'; have hb := grew_below hw'; clear hw'; (first | have hn := nw4 hb hall (by exact zo) | have hn := nw3 hb hall (by exact zo) | have hn := nw2 hb hall (by exact zo) | have hn := nw1 hb hall (by exact zo) | have hn := nw0 hb hall (by exact zo)); obtain ⟨hc, hf, hn, hc0⟩ := hn; replace hall := hn; clear hn; have hz := hb.size; (try simp only [World.size_alloc, World.size_setCell, World.size_drew] at hz); have hx := hall; (try simp only [allLt, and_true] at hx); obtain ⟨w1, rfl⟩ : ∃ x, x = w2 := ⟨_, rfl⟩))
            go_roundw
            case rel =>
              have hL := HL2.out; have hLs := hL.size
              exact ⟨m + 1, by omega, by go_num, by rw [gRow, HR.out, ← Ha.out, ← Hb.out, meshS_comm, hmesh]; rfl, by exact bel, by omega, by go_simp, by go_simp, by go_simp⟩
            case measure => simp [intOf]; omega
        · have hlm' : ¬ (m : Int) < k := by omega
          obtain rfl : m = k := by omega
          (obtain ⟨w1, rfl⟩ : ∃ x, x = wr := ⟨_, rfl⟩; have hall : allLt [ga, B0] w1.heap.size := ⟨by omega, by omega, trivial⟩; have hx := hall; (try simp only [allLt, and_true] at hx))
          go_wp2_with (first | (with_reducible refine wp_region_grew2 (by kernel_rfl) (by kernel_rfl) ?_; intro w2 hb; (first | have hn := nw4 hb hall (by exact zo) | have hn := nw3 hb hall (by exact zo) | have hn := nw2 hb hall (by exact zo) | have hn := nw1 hb hall (by exact zo) | have hn := nw0 hb hall (by exact zo)); obtain ⟨hc, hf, hn, hc0⟩ := hn; replace hall := hn; clear hn; have hz := hb.size; (try simp only [World.size_alloc, World.size_setCell, World.size_drew] at hz); have hx := hall; (try simp only [allLt, and_true] at hx); obtain ⟨w1, rfl⟩ : ∃ x, x = w2 := ⟨_, rfl⟩; (repeat (go_big_quiet_step (fail))); refine wpQuiet_nil ?_; intro w2 hw'; have hb := grew_below hw'; clear hw'; (first | have hn := nw4 hb hall (by exact zo) | have hn := nw3 hb hall (by exact zo) | have hn := nw2 hb hall (by exact zo) | have hn := nw1 hb hall (by exact zo) | have hn := nw0 hb hall (by exact zo)); obtain ⟨hc, hf, hn, hc0⟩ := hn; replace hall := hn; clear hn; have hz := hb.size; (try simp only [World.size_alloc, World.size_setCell, World.size_drew] at hz); have hx := hall; (try simp only [allLt, and_true] at hx); obtain ⟨w1, rfl⟩ : ∃ x, x = w2 := ⟨_, rfl⟩))
          go_roundw
          case rel =>
            have hL := HL2.out; have hLs := hL.size
            exact ⟨m + 1, by omega, by go_num, by rw [gTo, HT.out, HR.out]; rfl, by exact bel⟩
          case measure => simp [intOf]; omega
    · have hlt' : ¬ (k : Int) < xs.length := by omega
      obtain rfl : k = xs.length := by omega
      by_cases hpos : 0 < xs.length
      · obtain ⟨ga, oa, haoa, hga, a0, a1, a2⟩ := HA.out 0 hpos
        simp only [Nat.zero_mul, Nat.add_zero] at a0 a1 a2
        subst haoa
        replace a0 := (HL.out.cell (p := ⟨ga, oa, none⟩) (by first | exact hga | assumption)).trans a0
        replace a1 := (HL.out.cell (p := ⟨ga, oa + 1, none⟩) (by first | exact hga | assumption)).trans a1
        replace a2 := (HL.out.cell (p := ⟨ga, oa + 2, none⟩) (by first | exact hga | assumption)).trans a2
        obtain ⟨a, hea⟩ : ∃ x, x = xs.getD 0 default := ⟨_, rfl⟩
        rw [← hea] at a0 a1 a2
        have Ha := Lib.hid hea; clear hea
        have hpos' : (0 : Int) < xs.length := by omega
        (obtain ⟨w1, rfl⟩ : ∃ x, x = wr := ⟨_, rfl⟩; have hall : allLt [ga] w1.heap.size := ⟨by omega, trivial⟩; have hx := hall; (try simp only [allLt, and_true] at hx))
        go_wp2_with (first | (go_at_call 81; (first | (refine (i_SpanOk _ _ _ true (by assumption) _).mono ?_) | (refine (i_SpanOk _ _ _ false (by assumption) _).mono ?_) | (refine (i_SpanOk _ _ _ _ rfl _).mono ?_)); rintro e w2 ⟨rfl, hb⟩; (first | have hn := nw4 hb hall (by exact zo) | have hn := nw3 hb hall (by exact zo) | have hn := nw2 hb hall (by exact zo) | have hn := nw1 hb hall (by exact zo) | have hn := nw0 hb hall (by exact zo)); obtain ⟨hc, hf, hn, hc0⟩ := hn; replace hall := hn; clear hn; have hz := hb.size; (try simp only [World.size_alloc, World.size_setCell, World.size_drew] at hz); have hx := hall; (try simp only [allLt, and_true] at hx); obtain ⟨w1, rfl⟩ : ∃ x, x = w2 := ⟨_, rfl⟩) | (with_reducible refine wp_region_grew2 (by kernel_rfl) (by kernel_rfl) ?_; intro w2 hb; (first | have hn := nw4 hb hall (by exact zo) | have hn := nw3 hb hall (by exact zo) | have hn := nw2 hb hall (by exact zo) | have hn := nw1 hb hall (by exact zo) | have hn := nw0 hb hall (by exact zo)); obtain ⟨hc, hf, hn, hc0⟩ := hn; replace hall := hn; clear hn; have hz := hb.size; (try simp only [World.size_alloc, World.size_setCell, World.size_drew] at hz); have hx := hall; (try simp only [allLt, and_true] at hx); obtain ⟨w1, rfl⟩ : ∃ x, x = w2 := ⟨_, rfl⟩; (repeat (go_big_quiet_step (first | (go_at_call 81; first | exact calls_grew (i_SpanOk _ _ _ true (by assumption) _) | exact calls_grew (i_SpanOk _ _ _ false (by assumption) _) | exact calls_grew (i_SpanOk _ _ _ _ rfl _))))); refine wpQuiet_nil ?_; intro w2 hw'; have hb := grew_below hw'; clear hw'; (first | have hn := nw4 hb hall (by exact zo) | have hn := nw3 hb hall (by exact zo) | have hn := nw2 hb hall (by exact zo) | have hn := nw1 hb hall (by exact zo) | have hn := nw0 hb hall (by exact zo)); obtain ⟨hc, hf, hn, hc0⟩ := hn; replace hall := hn; clear hn; have hz := hb.size; (try simp only [World.size_alloc, World.size_setCell, World.size_drew] at hz); have hx := hall; (try simp only [allLt, and_true] at hx); obtain ⟨w1, rfl⟩ : ∃ x, x = w2 := ⟨_, rfl⟩))
        go_ret
        have hL := HL.out; have hLs := hL.size
        exact ⟨by rw [groupOk, HT.out, ← Ha.out]; simp [hpos], by exact bel⟩
      · have hpos' : ¬ (0 : Int) < xs.length := by omega
        go_wp2_with (first | (with_reducible refine wp_region_grew2 (by kernel_rfl) (by kernel_rfl) ?_; intro w2 hb; (first | have hn := nw4 hb hall (by exact zo) | have hn := nw3 hb hall (by exact zo) | have hn := nw2 hb hall (by exact zo) | have hn := nw1 hb hall (by exact zo) | have hn := nw0 hb hall (by exact zo)); obtain ⟨hc, hf, hn, hc0⟩ := hn; replace hall := hn; clear hn; have hz := hb.size; (try simp only [World.size_alloc, World.size_setCell, World.size_drew] at hz); have hx := hall; (try simp only [allLt, and_true] at hx); obtain ⟨w1, rfl⟩ : ∃ x, x = w2 := ⟨_, rfl⟩; (repeat (go_big_quiet_step (fail))); refine wpQuiet_nil ?_; intro w2 hw'; have hb := grew_below hw'; clear hw'; (first | have hn := nw4 hb hall (by exact zo) | have hn := nw3 hb hall (by exact zo) | have hn := nw2 hb hall (by exact zo) | have hn := nw1 hb hall (by exact zo) | have hn := nw0 hb hall (by exact zo)); obtain ⟨hc, hf, hn, hc0⟩ := hn; replace hall := hn; clear hn; have hz := hb.size; (try simp only [World.size_alloc, World.size_setCell, World.size_drew] at hz); have hx := hall; (try simp only [allLt, and_true] at hx); obtain ⟨w1, rfl⟩ : ∃ x, x = w2 := ⟨_, rfl⟩))
        go_ret
        exact ⟨by simp [groupOk, hpos], HL.out⟩

theorem s_GroupOk (va : Value) (xs : List Sp) (w : World) (ha : SpansAt w va xs) : Calls Try.prog 17 #[va] w fun e w' => e = .returned (.bool (groupOk xs)) ∧ Below w.heap.size w w' := by
  obtain ⟨ao, ca, rfl, hn, hm, hra⟩ := ha.open
  have hle : xs.length ≤ 9223372036854775807 := by unfold maxLen at hm; omega
  clear hm
  have HA := Lib.hid hra; clear hra ha
  (have hall := all_nil w; go_enter Try.func17, Try.ntmps17)
  go_wp2_with (first | (with_reducible refine wp_region_grew2 (by kernel_rfl) (by kernel_rfl) ?_; intro w2 hb; (first | have hn := nw4 hb hall (by exact zo) | have hn := nw3 hb hall (by exact zo) | have hn := nw2 hb hall (by exact zo) | have hn := nw1 hb hall (by exact zo) | have hn := nw0 hb hall (by exact zo)); obtain ⟨hc, hf, hn, hc0⟩ := hn; replace hall := hn; clear hn; have hz := hb.size; (try simp only [World.size_alloc, World.size_setCell, World.size_drew] at hz); have hx := hall; (try simp only [allLt, and_true] at hx); obtain ⟨w1, rfl⟩ : ∃ x, x = w2 := ⟨_, rfl⟩; (repeat (go_big_quiet_step (fail))); refine wpQuiet_nil ?_; intro w2 hw'; have hb := grew_below hw'; clear hw'; (first | have hn := nw4 hb hall (by exact zo) | have hn := nw3 hb hall (by exact zo) | have hn := nw2 hb hall (by exact zo) | have hn := nw1 hb hall (by exact zo) | have hn := nw0 hb hall (by exact zo)); obtain ⟨hc, hf, hn, hc0⟩ := hn; replace hall := hn; clear hn; have hz := hb.size; (try simp only [World.size_alloc, World.size_setCell, World.size_drew] at hz); have hx := hall; (try simp only [allLt, and_true] at hx); obtain ⟨w1, rfl⟩ : ∃ x, x = w2 := ⟨_, rfl⟩))
  go_loopw [3] (fun i wr => ∃ k : Nat, k ≤ xs.length ∧ i = .int .i64 k ∧ gTo xs k = true ∧ Below w.heap.size w wr) (fun i _ => xs.length - (intOf i).toNat)
  case atStart => exact ⟨0, Nat.zero_le _, rfl, rfl, Below.refl _ _⟩
  case round =>
    obtain ⟨k, hk, rfl, hto, hbel⟩ := hrel
    have HL := Lib.hid hbel; have hsz := hbel.size; clear hbel
    have HT := Lib.hid hto; clear hto
    by_cases hlt : k < xs.length
    · have hlt' : (k : Int) < xs.length := by omega
      obtain ⟨ga, oa, haoa, hga, a0, a1, a2⟩ := HA.out k hlt
      subst haoa
      replace a0 := (HL.out.cell (p := ⟨ga, oa + k * 3, none⟩) (by first | exact hga | assumption)).trans a0
      replace a1 := (HL.out.cell (p := ⟨ga, oa + k * 3 + 1, none⟩) (by first | exact hga | assumption)).trans a1
      replace a2 := (HL.out.cell (p := ⟨ga, oa + k * 3 + 2, none⟩) (by first | exact hga | assumption)).trans a2
      obtain ⟨a, hea⟩ : ∃ x, x = xs.getD k default := ⟨_, rfl⟩
      rw [← hea] at a0 a1 a2
      have Ha := Lib.hid hea; clear hea
      clear a0 a1 a2
      (obtain ⟨w1, rfl⟩ : ∃ x, x = wr := ⟨_, rfl⟩; have hall : allLt [ga] w1.heap.size := ⟨by omega, trivial⟩; have hx := hall; (try simp only [allLt, and_true] at hx))
      go_wp2_with (first | (with_reducible refine wp_region_grew2 (by kernel_rfl) (by kernel_rfl) ?_; intro w2 hb; (first | have hn := nw4 hb hall (by exact zo) | have hn := nw3 hb hall (by exact zo) | have hn := nw2 hb hall (by exact zo) | have hn := nw1 hb hall (by exact zo) | have hn := nw0 hb hall (by exact zo)); obtain ⟨hc, hf, hn, hc0⟩ := hn; replace hall := hn; clear hn; have hz := hb.size; (try simp only [World.size_alloc, World.size_setCell, World.size_drew] at hz); have hx := hall; (try simp only [allLt, and_true] at hx); obtain ⟨w1, rfl⟩ : ∃ x, x = w2 := ⟨_, rfl⟩; (repeat (go_big_quiet_step (fail))); refine wpQuiet_nil ?_; intro w2 hw'; have hb := grew_below hw'; clear hw'; (first | have hn := nw4 hb hall (by exact zo) | have hn := nw3 hb hall (by exact zo) | have hn := nw2 hb hall (by exact zo) | have hn := nw1 hb hall (by exact zo) | have hn := nw0 hb hall (by exact zo)); obtain ⟨hc, hf, hn, hc0⟩ := hn; replace hall := hn; clear hn; have hz := hb.size; (try simp only [World.size_alloc, World.size_setCell, World.size_drew] at hz); have hx := hall; (try simp only [allLt, and_true] at hx); obtain ⟨w1, rfl⟩ : ∃ x, x = w2 := ⟨_, rfl⟩))
      go_loopw [4] (fun i wr => ∃ m : Nat, m ≤ k ∧ i = .int .i64 m ∧ gRow xs k m = true ∧ Below w.heap.size w wr) (fun i _ => k - (intOf i).toNat)
      case atStart => exact ⟨0, Nat.zero_le _, rfl, rfl, HL.out⟩
      case round =>
        obtain ⟨m, hm, rfl, hrow, hbel⟩ := hrel
        have HL2 := Lib.hid hbel; have hsz2 := hbel.size; clear hbel
        have HR := Lib.hid hrow; clear hrow
        by_cases hlm : m < k
        · have hlm' : (m : Int) < k := by omega
          have hlm2 : (m : Int) < xs.length := by omega
          obtain ⟨g', o', hao', hg', a0, a1, a2⟩ := HA.out k hlt
          (simp only [Option.some.injEq, Addr.mk.injEq, and_true] at hao'; obtain ⟨rfl, rfl⟩ := hao')
          rw [← Ha.out] at a0 a1 a2
          replace a0 := (HL2.out.cell (p := ⟨ga, oa + k * 3, none⟩) hg').trans a0
          replace a1 := (HL2.out.cell (p := ⟨ga, oa + k * 3 + 1, none⟩) hg').trans a1
          replace a2 := (HL2.out.cell (p := ⟨ga, oa + k * 3 + 2, none⟩) hg').trans a2
          obtain ⟨gb, ob, haob, hgb, b0, b1, b2⟩ := HA.out m (by omega)
          (simp only [Option.some.injEq, Addr.mk.injEq, and_true] at haob; obtain ⟨rfl, rfl⟩ := haob)
          replace b0 := (HL2.out.cell (p := ⟨ga, oa + m * 3, none⟩) (by first | exact hgb | assumption)).trans b0
          replace b1 := (HL2.out.cell (p := ⟨ga, oa + m * 3 + 1, none⟩) (by first | exact hgb | assumption)).trans b1
          replace b2 := (HL2.out.cell (p := ⟨ga, oa + m * 3 + 2, none⟩) (by first | exact hgb | assumption)).trans b2
          obtain ⟨b, heb⟩ : ∃ x, x = xs.getD m default := ⟨_, rfl⟩
          rw [← heb] at b0 b1 b2
          have Hb := Lib.hid heb; clear heb
          (obtain ⟨w1, rfl⟩ : ∃ x, x = wr := ⟨_, rfl⟩; have hall : allLt [ga] w1.heap.size := ⟨by omega, trivial⟩; have hx := hall; (try simp only [allLt, and_true] at hx))
          cases hmesh : meshS b a
          · have hmesh2 : meshable b.p b.c b.b a.p a.c a.b = false := hmesh
            go_wp2_with (first | (go_at_call 43; (first | (refine (s_Meshable _ _ _ _ _ _ true (by assumption) _).mono ?_) | (refine (s_Meshable _ _ _ _ _ _ false (by assumption) _).mono ?_) | (refine (s_Meshable _ _ _ _ _ _ _ rfl _).mono ?_)); rintro e w2 ⟨rfl, hb⟩; (first | have hn := nw4 hb hall (by exact zo) | have hn := nw3 hb hall (by exact zo) | have hn := nw2 hb hall (by exact zo) | have hn := nw1 hb hall (by exact zo) | have hn := nw0 hb hall (by exact zo)); obtain ⟨hc, hf, hn, hc0⟩ := hn; replace hall := hn; clear hn; have hz := hb.size; (try simp only [World.size_alloc, World.size_setCell, World.size_drew] at hz); have hx := hall; (try simp only [allLt, and_true] at hx); obtain ⟨w1, rfl⟩ : ∃ x, x = w2 := ⟨_, rfl⟩) | (with_reducible refine wp_region_grew2 (by kernel_rfl) (by kernel_rfl) ?_; intro w2 hb; (first | have hn := nw4 hb hall (by exact zo) | have hn := nw3 hb hall (by exact zo) | have hn := nw2 hb hall (by exact zo) | have hn := nw1 hb hall (by exact zo) | have hn := nw0 hb hall (by exact zo)); obtain ⟨hc, hf, hn, hc0⟩ := hn; replace hall := hn; clear hn; have hz := hb.size; (try simp only [World.size_alloc, World.size_setCell, World.size_drew] at hz); have hx := hall; (try simp only [allLt, and_true] at hx); obtain ⟨w1, rfl⟩ : ∃ x, x = w2 := ⟨_, rfl⟩; (repeat (go_big_quiet_step (first | (go_at_call 43; first | exact calls_grew (s_Meshable _ _ _ _ _ _ true (by assumption) _) | exact calls_grew (s_Meshable _ _ _ _ _ _ false (by assumption) _) | exact calls_grew (s_Meshable _ _ _ _ _ _ _ rfl _))))); refine wpQuiet_nil ?_; intro w2 hw'; have hb := grew_below hw'; clear hw'; (first | have hn := nw4 hb hall (by exact zo) | have hn := nw3 hb hall (by exact zo) | have hn := nw2 hb hall (by exact zo) | have hn := nw1 hb hall (by exact zo) | have hn := nw0 hb hall (by exact zo)); obtain ⟨hc, hf, hn, hc0⟩ := hn; replace hall := hn; clear hn; have hz := hb.size; (try simp only [World.size_alloc, World.size_setCell, World.size_drew] at hz); have hx := hall; (try simp only [allLt, and_true] at hx); obtain ⟨w1, rfl⟩ : ∃ x, x = w2 := ⟨_, rfl⟩))
            go_ret
            have hL := HL2.out; have hLs := hL.size
            have hg := groupOk_not hlm hlt (by rw [← Ha.out, ← Hb.out]; exact hmesh)
            exact ⟨by simp [hg], by exact bel⟩
          · have hmesh2 : meshable b.p b.c b.b a.p a.c a.b = true := hmesh
            go_wp2_with (first | (go_at_call 43; (first | (refine (s_Meshable _ _ _ _ _ _ true (by assumption) _).mono ?_) | (refine (s_Meshable _ _ _ _ _ _ false (by assumption) _).mono ?_) | (refine (s_Meshable _ _ _ _ _ _ _ rfl _).mono ?_)); rintro e w2 ⟨rfl, hb⟩; (first | have hn := nw4 hb hall (by exact zo) | have hn := nw3 hb hall (by exact zo) | have hn := nw2 hb hall (by exact zo) | have hn := nw1 hb hall (by exact zo) | have hn := nw0 hb hall (by exact zo)); obtain ⟨hc, hf, hn, hc0⟩ := hn; replace hall := hn; clear hn; have hz := hb.size; (try simp only [World.size_alloc, World.size_setCell, World.size_drew] at hz); have hx := hall; (try simp only [allLt, and_true] at hx); obtain ⟨w1, rfl⟩ : ∃ x, x = w2 := ⟨_, rfl⟩) | (with_reducible refine wp_region_grew2 (by kernel_rfl) (by kernel_rfl) ?_; intro w2 hb; (first | have hn := nw4 hb hall (by exact zo) | have hn := nw3 hb hall (by exact zo) | have hn := nw2 hb hall (by exact zo) | have hn := nw1 hb hall (by exact zo) | have hn := nw0 hb hall (by exact zo)); obtain ⟨hc, hf, hn, hc0⟩ := hn; replace hall := hn; clear hn; have hz := hb.size; (try simp only [World.size_alloc, World.size_setCell, World.size_drew] at hz); have hx := hall; (try simp only [allLt, and_true] at hx); obtain ⟨w1, rfl⟩ : ∃ x, x = w2 := ⟨_, rfl⟩; (repeat (go_big_quiet_step (first | (go_at_call 43; first | exact calls_grew (s_Meshable _ _ _ _ _ _ true (by assumption) _) | exact calls_grew (s_Meshable _ _ _ _ _ _ false (by assumption) _) | exact calls_grew (s_Meshable _ _ _ _ _ _ _ rfl _))))); refine wpQuiet_nil ?_; intro w2 hw'; have hb := grew_below hw'; clear hw'; (first | have hn := nw4 hb hall (by exact zo) | have hn := nw3 hb hall (by exact zo) | have hn := nw2 hb hall (by exact zo) | have hn := nw1 hb hall (by exact zo) | have hn := nw0 hb hall (by exact zo)); obtain ⟨hc, hf, hn, hc0⟩ := hn; replace hall := hn; clear hn; have hz := hb.size; (try simp only [World.size_alloc, World.size_setCell, World.size_drew] at hz); have hx := hall; (try simp only [allLt, and_true] at hx); obtain ⟨w1, rfl⟩ : ∃ x, x = w2 := ⟨_, rfl⟩))
            go_roundw
            case rel =>
              have hL := HL2.out; have hLs := hL.size
              exact ⟨m + 1, by omega, by go_num, by rw [gRow, HR.out, ← Ha.out, ← Hb.out, hmesh]; rfl, by exact bel⟩
            case measure => simp [intOf]; omega
        · have hlm' : ¬ (m : Int) < k := by omega
          obtain rfl : m = k := by omega
          (obtain ⟨w1, rfl⟩ : ∃ x, x = wr := ⟨_, rfl⟩; have hall : allLt [ga] w1.heap.size := ⟨by omega, trivial⟩; have hx := hall; (try simp only [allLt, and_true] at hx))
          go_wp2_with (first | (with_reducible refine wp_region_grew2 (by kernel_rfl) (by kernel_rfl) ?_; intro w2 hb; (first | have hn := nw4 hb hall (by exact zo) | have hn := nw3 hb hall (by exact zo) | have hn := nw2 hb hall (by exact zo) | have hn := nw1 hb hall (by exact zo) | have hn := nw0 hb hall (by exact zo)); obtain ⟨hc, hf, hn, hc0⟩ := hn; replace hall := hn; clear hn; have hz := hb.size; (try simp only [World.size_alloc, World.size_setCell, World.size_drew] at hz); have hx := hall; (try simp only [allLt, and_true] at hx); obtain ⟨w1, rfl⟩ : ∃ x, x = w2 := ⟨_, rfl⟩; (repeat (go_big_quiet_step (fail))); refine wpQuiet_nil ?_; intro w2 hw'; have hb := grew_below hw'; clear hw'; (first | have hn := nw4 hb hall (by exact zo) | have hn := nw3 hb hall (by exact zo) | have hn := nw2 hb hall (by exact zo) | have hn := nw1 hb hall (by exact zo) | have hn := nw0 hb hall (by exact zo)); obtain ⟨hc, hf, hn, hc0⟩ := hn; replace hall := hn; clear hn; have hz := hb.size; (try simp only [World.size_alloc, World.size_setCell, World.size_drew] at hz); have hx := hall; (try simp only [allLt, and_true] at hx); obtain ⟨w1, rfl⟩ : ∃ x, x = w2 := ⟨_, rfl⟩))
          go_roundw
          case rel =>
            have hL := HL2.out; have hLs := hL.size
            exact ⟨m + 1, by omega, by go_num, by rw [gTo, HT.out, HR.out]; rfl, by exact bel⟩
          case measure => simp [intOf]; omega
    · have hlt' : ¬ (k : Int) < xs.length := by omega
      obtain rfl : k = xs.length := by omega
      by_cases hpos : 0 < xs.length
      · obtain ⟨ga, oa, haoa, hga, a0, a1, a2⟩ := HA.out 0 hpos
        simp only [Nat.zero_mul, Nat.add_zero] at a0 a1 a2
        subst haoa
        replace a0 := (HL.out.cell (p := ⟨ga, oa, none⟩) (by first | exact hga | assumption)).trans a0
        replace a1 := (HL.out.cell (p := ⟨ga, oa + 1, none⟩) (by first | exact hga | assumption)).trans a1
        replace a2 := (HL.out.cell (p := ⟨ga, oa + 2, none⟩) (by first | exact hga | assumption)).trans a2
        obtain ⟨a, hea⟩ : ∃ x, x = xs.getD 0 default := ⟨_, rfl⟩
        rw [← hea] at a0 a1 a2
        have Ha := Lib.hid hea; clear hea
        have hpos' : (0 : Int) < xs.length := by omega
        (obtain ⟨w1, rfl⟩ : ∃ x, x = wr := ⟨_, rfl⟩; have hall : allLt [ga] w1.heap.size := ⟨by omega, trivial⟩; have hx := hall; (try simp only [allLt, and_true] at hx))
        go_wp2_with (first | (go_at_call 79; (first | (refine (s_SpanOk _ _ _ true (by assumption) _).mono ?_) | (refine (s_SpanOk _ _ _ false (by assumption) _).mono ?_) | (refine (s_SpanOk _ _ _ _ rfl _).mono ?_)); rintro e w2 ⟨rfl, hb⟩; (first | have hn := nw4 hb hall (by exact zo) | have hn := nw3 hb hall (by exact zo) | have hn := nw2 hb hall (by exact zo) | have hn := nw1 hb hall (by exact zo) | have hn := nw0 hb hall (by exact zo)); obtain ⟨hc, hf, hn, hc0⟩ := hn; replace hall := hn; clear hn; have hz := hb.size; (try simp only [World.size_alloc, World.size_setCell, World.size_drew] at hz); have hx := hall; (try simp only [allLt, and_true] at hx); obtain ⟨w1, rfl⟩ : ∃ x, x = w2 := ⟨_, rfl⟩) | (with_reducible refine wp_region_grew2 (by kernel_rfl) (by kernel_rfl) ?_; intro w2 hb; (first | have hn := nw4 hb hall (by exact zo) | have hn := nw3 hb hall (by exact zo) | have hn := nw2 hb hall (by exact zo) | have hn := nw1 hb hall (by exact zo) | have hn := nw0 hb hall (by exact zo)); obtain ⟨hc, hf, hn, hc0⟩ := hn; replace hall := hn; clear hn; have hz := hb.size; (try simp only [World.size_alloc, World.size_setCell, World.size_drew] at hz); have hx := hall; (try simp only [allLt, and_true] at hx); obtain ⟨w1, rfl⟩ : ∃ x, x = w2 := ⟨_, rfl⟩; (repeat (go_big_quiet_step (first | (go_at_call 79; first | exact calls_grew (s_SpanOk _ _ _ true (by assumption) _) | exact calls_grew (s_SpanOk _ _ _ false (by assumption) _) | exact calls_grew (s_SpanOk _ _ _ _ rfl _))))); refine wpQuiet_nil ?_; intro w2 hw'; have hb := grew_below hw'; clear hw'; (first | have hn := nw4 hb hall (by exact zo) | have hn := nw3 hb hall (by exact zo) | have hn := nw2 hb hall (by exact zo) | have hn := nw1 hb hall (by exact zo) | have hn := nw0 hb hall (by exact zo)); obtain ⟨hc, hf, hn, hc0⟩ := hn; replace hall := hn; clear hn; have hz := hb.size; (try simp only [World.size_alloc, World.size_setCell, World.size_drew] at hz); have hx := hall; (try simp only [allLt, and_true] at hx); obtain ⟨w1, rfl⟩ : ∃ x, x = w2 := ⟨_, rfl⟩))
        go_ret
        have hL := HL.out; have hLs := hL.size
        exact ⟨by rw [groupOk, HT.out, ← Ha.out]; simp [hpos], by exact bel⟩
      · have hpos' : ¬ (0 : Int) < xs.length := by omega
        go_wp2_with (first | (with_reducible refine wp_region_grew2 (by kernel_rfl) (by kernel_rfl) ?_; intro w2 hb; (first | have hn := nw4 hb hall (by exact zo) | have hn := nw3 hb hall (by exact zo) | have hn := nw2 hb hall (by exact zo) | have hn := nw1 hb hall (by exact zo) | have hn := nw0 hb hall (by exact zo)); obtain ⟨hc, hf, hn, hc0⟩ := hn; replace hall := hn; clear hn; have hz := hb.size; (try simp only [World.size_alloc, World.size_setCell, World.size_drew] at hz); have hx := hall; (try simp only [allLt, and_true] at hx); obtain ⟨w1, rfl⟩ : ∃ x, x = w2 := ⟨_, rfl⟩; (repeat (go_big_quiet_step (fail))); refine wpQuiet_nil ?_; intro w2 hw'; have hb := grew_below hw'; clear hw'; (first | have hn := nw4 hb hall (by exact zo) | have hn := nw3 hb hall (by exact zo) | have hn := nw2 hb hall (by exact zo) | have hn := nw1 hb hall (by exact zo) | have hn := nw0 hb hall (by exact zo)); obtain ⟨hc, hf, hn, hc0⟩ := hn; replace hall := hn; clear hn; have hz := hb.size; (try simp only [World.size_alloc, World.size_setCell, World.size_drew] at hz); have hx := hall; (try simp only [allLt, and_true] at hx); obtain ⟨w1, rfl⟩ : ∃ x, x = w2 := ⟨_, rfl⟩))
        go_ret
        exact ⟨by simp [groupOk, hpos], HL.out⟩

end Go.Proofs.Ytkdafincnmkjnaa
