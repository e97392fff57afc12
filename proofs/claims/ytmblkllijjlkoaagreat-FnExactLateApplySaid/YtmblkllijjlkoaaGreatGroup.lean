/-
  Functions on lists of spans: pairs that can be meshed, groups.
-/
import Derived.Test.YtmblkllijjlkoaaGreatSpans
import Derived.Test.YtmblkllijjlkoaaGreatSpan
set_option linter.unusedVariables false
set_option linter.unusedSimpArgs false
namespace Go.Proofs.YtmblkllijjlkoaaGreat
open Go.RowKit
theorem l_eqSpanS (va vb : Value) (xs : List Sp) (w : World) (ha : SpansAt w va xs) (hb : SpansAt w vb xs) : Calls Tryz.prog 17 #[va, vb] w fun e w' => e = .returned (.bool true) ∧ Below w.heap.size w w' := by
  obtain ⟨ao, ca, rfl, _, hm, hra⟩ := ha
  obtain ⟨bo, cb, rfl, _, _, hrb⟩ := hb
  have hle : xs.length ≤ 9223372036854775807 := by unfold maxLen at hm; omega
  clear hm
  have HA := Lib.hid hra; have HB := Lib.hid hrb; clear hra hrb
  (have hall := all_nil w; go_enter Tryz.func17, Tryz.ntmps17)
  go_wp2_with (first | (with_reducible refine wp_region_grew2 (by kernel_rfl) (by kernel_rfl) ?_; intro w2 hb; (first | have hn := nw4 hb hall (by exact zo) | have hn := nw3 hb hall (by exact zo) | have hn := nw2 hb hall (by exact zo) | have hn := nw1 hb hall (by exact zo) | have hn := nw0 hb hall (by exact zo)); obtain ⟨hc, hf, hn, hc0⟩ := hn; replace hall := hn; clear hn; have hz := hb.size; (try simp only [World.size_alloc, World.size_setCell, World.size_drew] at hz); have hx := hall; (try simp only [allLt, and_true] at hx); obtain ⟨w1, rfl⟩ : ∃ x, x = w2 := ⟨_, rfl⟩; (repeat (go_big_quiet_step (fail))); refine wpQuiet_nil ?_; intro w2 hw'; have hb := grew_below hw'; clear hw'; (first | have hn := nw4 hb hall (by exact zo) | have hn := nw3 hb hall (by exact zo) | have hn := nw2 hb hall (by exact zo) | have hn := nw1 hb hall (by exact zo) | have hn := nw0 hb hall (by exact zo)); obtain ⟨hc, hf, hn, hc0⟩ := hn; replace hall := hn; clear hn; have hz := hb.size; (try simp only [World.size_alloc, World.size_setCell, World.size_drew] at hz); have hx := hall; (try simp only [allLt, and_true] at hx); obtain ⟨w1, rfl⟩ : ∃ x, x = w2 := ⟨_, rfl⟩))
  go_loopw [5] (fun i wr => ∃ j : Nat, j ≤ xs.length ∧ i = .int .i64 j ∧ Below w.heap.size w wr) (fun i _ => xs.length - (intOf i).toNat)
  case atStart => exact ⟨0, Nat.zero_le _, rfl, Below.refl _ _⟩
  case round =>
    obtain ⟨j, hj, rfl, hbel⟩ := hrel
    have HL := Lib.hid hbel; have hsz := hbel.size; clear hbel
    by_cases hlt : j < xs.length
    · have hlt' : (j : Int) < xs.length := by omega
      obtain ⟨ga, oa, rfl, hga, a0, a1, a2⟩ := HA.out j hlt
      obtain ⟨gb, ob, rfl, hgb, b0, b1, b2⟩ := HB.out j hlt
      replace a0 := (HL.out.cell (p := ⟨ga, oa + j * 3, none⟩) hga).trans a0
      replace a1 := (HL.out.cell (p := ⟨ga, oa + j * 3 + 1, none⟩) hga).trans a1
      replace a2 := (HL.out.cell (p := ⟨ga, oa + j * 3 + 2, none⟩) hga).trans a2
      replace b0 := (HL.out.cell (p := ⟨gb, ob + j * 3, none⟩) hgb).trans b0
      replace b1 := (HL.out.cell (p := ⟨gb, ob + j * 3 + 1, none⟩) hgb).trans b1
      replace b2 := (HL.out.cell (p := ⟨gb, ob + j * 3 + 2, none⟩) hgb).trans b2
      generalize xs[j].p = p at *
      generalize xs[j].c = c at *
      generalize xs[j].b = b at *
      (obtain ⟨w1, rfl⟩ : ∃ x, x = wr := ⟨_, rfl⟩; have hall : allLt [ga, gb] w1.heap.size := ⟨by omega, by omega, trivial⟩; have hx := hall; (try simp only [allLt, and_true] at hx))
      go_wp2_with (first | (go_at_call 58; (refine (l_eqSpan _ _ _ _).mono ?_); rintro e w2 ⟨rfl, hb⟩; (first | have hn := nw4 hb hall (by exact zo) | have hn := nw3 hb hall (by exact zo) | have hn := nw2 hb hall (by exact zo) | have hn := nw1 hb hall (by exact zo) | have hn := nw0 hb hall (by exact zo)); obtain ⟨hc, hf, hn, hc0⟩ := hn; replace hall := hn; clear hn; have hz := hb.size; (try simp only [World.size_alloc, World.size_setCell, World.size_drew] at hz); have hx := hall; (try simp only [allLt, and_true] at hx); obtain ⟨w1, rfl⟩ : ∃ x, x = w2 := ⟨_, rfl⟩) | (with_reducible refine wp_region_grew2 (by kernel_rfl) (by kernel_rfl) ?_; intro w2 hb; (first | have hn := nw4 hb hall (by exact zo) | have hn := nw3 hb hall (by exact zo) | have hn := nw2 hb hall (by exact zo) | have hn := nw1 hb hall (by exact zo) | have hn := nw0 hb hall (by exact zo)); obtain ⟨hc, hf, hn, hc0⟩ := hn; replace hall := hn; clear hn; have hz := hb.size; (try simp only [World.size_alloc, World.size_setCell, World.size_drew] at hz); have hx := hall; (try simp only [allLt, and_true] at hx); obtain ⟨w1, rfl⟩ : ∃ x, x = w2 := ⟨_, rfl⟩; (repeat (go_big_quiet_step (first | (go_at_call 58; exact calls_grew (l_eqSpan _ _ _ _))))); refine wpQuiet_nil ?_; intro w2 hw'; have hb := grew_below hw'; clear hw'; (first | have hn := nw4 hb hall (by exact zo) | have hn := nw3 hb hall (by exact zo) | have hn := nw2 hb hall (by exact zo) | have hn := nw1 hb hall (by exact zo) | have hn := nw0 hb hall (by exact zo)); obtain ⟨hc, hf, hn, hc0⟩ := hn; replace hall := hn; clear hn; have hz := hb.size; (try simp only [World.size_alloc, World.size_setCell, World.size_drew] at hz); have hx := hall; (try simp only [allLt, and_true] at hx); obtain ⟨w1, rfl⟩ : ∃ x, x = w2 := ⟨_, rfl⟩))
      go_roundw
      case rel =>
        have hL := HL.out
        exact ⟨j + 1, by omega, by go_num, by exact bel⟩
      case measure => simp [intOf]; omega
    · have hlt' : ¬ (j : Int) < xs.length := by omega
      go_wp2_with (first | (with_reducible refine wp_region_grew2 (by kernel_rfl) (by kernel_rfl) ?_; intro w2 hb; (first | have hn := nw4 hb hall (by exact zo) | have hn := nw3 hb hall (by exact zo) | have hn := nw2 hb hall (by exact zo) | have hn := nw1 hb hall (by exact zo) | have hn := nw0 hb hall (by exact zo)); obtain ⟨hc, hf, hn, hc0⟩ := hn; replace hall := hn; clear hn; have hz := hb.size; (try simp only [World.size_alloc, World.size_setCell, World.size_drew] at hz); have hx := hall; (try simp only [allLt, and_true] at hx); obtain ⟨w1, rfl⟩ : ∃ x, x = w2 := ⟨_, rfl⟩; (repeat (go_big_quiet_step (fail))); refine wpQuiet_nil ?_; intro w2 hw'; have hb := grew_below hw'; clear hw'; (first | have hn := nw4 hb hall (by exact zo) | have hn := nw3 hb hall (by exact zo) | have hn := nw2 hb hall (by exact zo) | have hn := nw1 hb hall (by exact zo) | have hn := nw0 hb hall (by exact zo)); obtain ⟨hc, hf, hn, hc0⟩ := hn; replace hall := hn; clear hn; have hz := hb.size; (try simp only [World.size_alloc, World.size_setCell, World.size_drew] at hz); have hx := hall; (try simp only [allLt, and_true] at hx); obtain ⟨w1, rfl⟩ : ∃ x, x = w2 := ⟨_, rfl⟩))
      go_ret
      exact ⟨rfl, HL.out⟩
def meshS (a b : Sp) : Bool := meshable a.p a.c a.b b.p b.c b.b
theorem bits_and_comm (x y : Int) : bits .and .i64 x y = bits .and .i64 y x := by unfold bits; simp [BitVec.and_comm]
theorem meshS_comm (a b : Sp) : meshS a b = meshS b a := by
  unfold meshS meshable
  rw [bits_and_comm, Bool.beq_comm (a := a.c), show (a.p != b.p) = (b.p != a.p) by simp [bne, Bool.beq_comm]]
  cases spanOk a.p a.c a.b <;> cases spanOk b.p b.c b.b <;> simp
/-- The k spans ahead of span i can be meshed with it. -/
def gRow (xs : List Sp) (i : Nat) : Nat → Bool
  | 0 => true
  | k + 1 => gRow xs i k && meshS (xs.getD k default) (xs.getD i default)
def gTo (xs : List Sp) : Nat → Bool
  | 0 => true
  | i + 1 => gTo xs i && gRow xs i i
def groupOk (xs : List Sp) : Bool := gTo xs xs.length && (decide (0 < (xs.length : Int)) && spanOk (xs.getD 0 default).p (xs.getD 0 default).c (xs.getD 0 default).b)
theorem gRow_false {xs : List Sp} {i k m : Nat} (hk : k ≤ m) (h : gRow xs i k = false) : gRow xs i m = false := by
  induction hk with
  | refl => exact h
  | step _ ih => simp [gRow, ih]
theorem gTo_false {xs : List Sp} {k m : Nat} (hk : k ≤ m) (h : gTo xs k = false) : gTo xs m = false := by
  induction hk with
  | refl => exact h
  | step _ ih => simp [gTo, ih]
theorem groupOk_not {xs : List Sp} {i k : Nat} (hk : k < i) (hi : i < xs.length) (h : meshS (xs.getD k default) (xs.getD i default) = false) : groupOk xs = false := by
  have h1 : gRow xs i (k + 1) = false := by rw [gRow, h, Bool.and_false]
  have h2 := gRow_false (m := i) (by omega) h1
  have h3 : gTo xs (i + 1) = false := by simp [gTo, h2]
  have h4 := gTo_false (m := xs.length) (by omega) h3
  simp [groupOk, h4]
/-- How many of the k spans ahead of span i can be meshed with it. -/
def eRow (xs : List Sp) (i : Nat) : Nat → Int
  | 0 => 0
  | k + 1 => eRow xs i k + if meshS (xs.getD k default) (xs.getD i default) then 1 else 0
def eTo (xs : List Sp) : Nat → Int
  | 0 => 0
  | i + 1 => eTo xs i + eRow xs i i
theorem eRow_le (xs : List Sp) (i : Nat) : ∀ k, 0 ≤ eRow xs i k ∧ eRow xs i k ≤ k
  | 0 => ⟨Int.le_refl _, Int.le_refl _⟩
  | k + 1 => by have := eRow_le xs i k; simp only [eRow]; split <;> omega
theorem eTo_le (xs : List Sp) : ∀ k, k ≤ 1048576 → 0 ≤ eTo xs k ∧ eTo xs k ≤ k * 1048576
  | 0, _ => ⟨Int.le_refl _, Int.le_refl _⟩
  | k + 1, h => by have := eTo_le xs k (by omega); have := eRow_le xs k k; simp only [eTo]; omega
end Go.Proofs.YtmblkllijjlkoaaGreat
