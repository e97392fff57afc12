/-
  How many pairs of spans can be meshed.
-/
import Derived.Test.YtkdafincnmkjnaaGroup
set_option linter.unusedVariables false
set_option linter.unusedSimpArgs false
namespace Go.Proofs.Ytkdafincnmkjnaa
open Go.RowKit
theorem i_MeshEdges (va : Value) (xs : List Sp) (hl : xs.length ≤ 1048576) (w : World) (ha : SpansAt w va xs) : Calls Try.prog 44 #[va] w fun e w' => e = .returned (.int .i64 (eTo xs xs.length)) ∧ Below w.heap.size w w' := by
  obtain ⟨ao, ca, rfl, hn, hm, hra⟩ := ha.open
  have hle : xs.length ≤ 9223372036854775807 := by unfold maxLen at hm; omega
  clear hm
  have HA := Lib.hid hra; clear hra ha
  (have hall := all_nil w; go_enter Try.func44, Try.ntmps44)
  go_wp2_with (first | (with_reducible refine wp_region_grew2 (by kernel_rfl) (by kernel_rfl) ?_; intro w2 hb; (first | have hn := nw4 hb hall (by exact zo) | have hn := nw3 hb hall (by exact zo) | have hn := nw2 hb hall (by exact zo) | have hn := nw1 hb hall (by exact zo) | have hn := nw0 hb hall (by exact zo)); obtain ⟨hc, hf, hn, hc0⟩ := hn; replace hall := hn; clear hn; have hz := hb.size; (try simp only [World.size_alloc, World.size_setCell, World.size_drew] at hz); have hx := hall; (try simp only [allLt, and_true] at hx); obtain ⟨w1, rfl⟩ : ∃ x, x = w2 := ⟨_, rfl⟩; (repeat (go_big_quiet_step (fail))); refine wpQuiet_nil ?_; intro w2 hw'; have hb := grew_below hw'; clear hw'; (first | have hn := nw4 hb hall (by exact zo) | have hn := nw3 hb hall (by exact zo) | have hn := nw2 hb hall (by exact zo) | have hn := nw1 hb hall (by exact zo) | have hn := nw0 hb hall (by exact zo)); obtain ⟨hc, hf, hn, hc0⟩ := hn; replace hall := hn; clear hn; have hz := hb.size; (try simp only [World.size_alloc, World.size_setCell, World.size_drew] at hz); have hx := hall; (try simp only [allLt, and_true] at hx); obtain ⟨w1, rfl⟩ : ∃ x, x = w2 := ⟨_, rfl⟩))
  go_loopw [3, 10] (fun n i wr => ∃ k : Nat, k ≤ xs.length ∧ i = .int .i64 k ∧ n = .int .i64 (eTo xs k) ∧ Below w.heap.size w wr) (fun _ i _ => xs.length - (intOf i).toNat)
  case atStart => exact ⟨0, Nat.zero_le _, rfl, by simp [eTo], Below.refl _ _⟩
  case round =>
    obtain ⟨k, hk, rfl, rfl, hbel⟩ := hrel
    have HL := Lib.hid hbel; have hsz := hbel.size; clear hbel
    skip
    by_cases hlt : k < xs.length
    · have hlt' : (k : Int) < xs.length := by omega
      obtain ⟨ga, oa, haoa, hga, a0, a1, a2⟩ := HA.out k hlt
      subst haoa
      replace a0 := (HL.out.cell (p := ⟨ga, oa + k * 3, none⟩) (by first | exact hga | assumption)).trans a0
      replace a1 := (HL.out.cell (p := ⟨ga, oa + k * 3 + 1, none⟩) (by first | exact hga | assumption)).trans a1
      replace a2 := (HL.out.cell (p := ⟨ga, oa + k * 3 + 2, none⟩) (by first | exact hga | assumption)).trans a2
      obtain ⟨a, hea⟩ : ∃ x, x = xs.getD k default := ⟨_, rfl⟩
      rw [← hea] at a0 a1 a2
      have Ha := Lib.hid hea; clear hea
      (obtain ⟨w1, rfl⟩ : ∃ x, x = wr := ⟨_, rfl⟩; have hall : allLt [ga] w1.heap.size := ⟨by omega, trivial⟩; have hx := hall; (try simp only [allLt, and_true] at hx))
      go_wp2_with (first | (with_reducible refine wp_region_grew2 (by kernel_rfl) (by kernel_rfl) ?_; intro w2 hb; (first | have hn := nw4 hb hall (by exact zo) | have hn := nw3 hb hall (by exact zo) | have hn := nw2 hb hall (by exact zo) | have hn := nw1 hb hall (by exact zo) | have hn := nw0 hb hall (by exact zo)); obtain ⟨hc, hf, hn, hc0⟩ := hn; replace hall := hn; clear hn; have hz := hb.size; (try simp only [World.size_alloc, World.size_setCell, World.size_drew] at hz); have hx := hall; (try simp only [allLt, and_true] at hx); obtain ⟨w1, rfl⟩ : ∃ x, x = w2 := ⟨_, rfl⟩; (repeat (go_big_quiet_step (fail))); refine wpQuiet_nil ?_; intro w2 hw'; have hb := grew_below hw'; clear hw'; (first | have hn := nw4 hb hall (by exact zo) | have hn := nw3 hb hall (by exact zo) | have hn := nw2 hb hall (by exact zo) | have hn := nw1 hb hall (by exact zo) | have hn := nw0 hb hall (by exact zo)); obtain ⟨hc, hf, hn, hc0⟩ := hn; replace hall := hn; clear hn; have hz := hb.size; (try simp only [World.size_alloc, World.size_setCell, World.size_drew] at hz); have hx := hall; (try simp only [allLt, and_true] at hx); obtain ⟨w1, rfl⟩ : ∃ x, x = w2 := ⟨_, rfl⟩))
      obtain ⟨B0, hB0⟩ : ∃ x, x = w1.heap.size := ⟨_, rfl⟩
      have hx0 : ga < B0 := by omega
      go_loopw [3, 19] (fun n i wr => ∃ m : Nat, m ≤ k ∧ i = .int .i64 m ∧ n = .int .i64 (eTo xs k + eRow xs k m) ∧ Below w.heap.size w wr ∧ B0 < wr.heap.size ∧
        (wr.cell? ⟨B0, 0, none⟩ = some (.int .i64 a.p) ∧ wr.cell? ⟨B0, 1, none⟩ = some (.int .i64 a.c) ∧ wr.cell? ⟨B0, 2, none⟩ = some (.int .i64 a.b))) (fun _ i _ => k - (intOf i).toNat)
      case atStart =>
        subst hB0
        have hL := HL.out; have hLs := hL.size
        exact ⟨0, Nat.zero_le _, rfl, by simp [eRow], by exact bel, by go_simp, by go_simp, by go_simp, by go_simp⟩
      case round =>
        obtain ⟨m, hm, rfl, rfl, hbel, hsz2, ⟨k0, k1, k2⟩⟩ := hrel
        rw [← hB0]
        clear hB0 a0 a1 a2
        have HL2 := Lib.hid hbel; clear hbel
        skip
        by_cases hlm : m < k
        · have hlm' : (m : Int) < k := by omega
          obtain ⟨gb, ob, haob, hgb, b0, b1, b2⟩ := HA.out m (by omega)
          (simp only [Option.some.injEq, Addr.mk.injEq, and_true] at haob; obtain ⟨rfl, rfl⟩ := haob)
          replace b0 := (HL2.out.cell (p := ⟨ga, oa + m * 3, none⟩) (by first | exact hgb | assumption)).trans b0
          replace b1 := (HL2.out.cell (p := ⟨ga, oa + m * 3 + 1, none⟩) (by first | exact hgb | assumption)).trans b1
          replace b2 := (HL2.out.cell (p := ⟨ga, oa + m * 3 + 2, none⟩) (by first | exact hgb | assumption)).trans b2
          obtain ⟨b, heb⟩ : ∃ x, x = xs.getD m default := ⟨_, rfl⟩
          rw [← heb] at b0 b1 b2
          have Hb := Lib.hid heb; clear heb
          (obtain ⟨w1, rfl⟩ : ∃ x, x = wr := ⟨_, rfl⟩; have hall : allLt [ga, B0] w1.heap.size := ⟨by omega, by omega, trivial⟩; have hx := hall; (try simp only [allLt, and_true] at hx))
          have b1 := eTo_le xs k; have b2 := eRow_le xs k m
          have HE : Hid (eRow xs k (m + 1) = eRow xs k m + if meshS a b then 1 else 0) := by unfold Hid; rw [eRow, ← Ha.out, ← Hb.out, meshS_comm]
          generalize eTo xs k = E at *
          generalize eRow xs k m = R at *
          cases hmesh : meshS a b
          · go_wp2_with (first | (go_at_call 80; (first | (refine (i_MeshS _ _ true (by assumption) _).mono ?_) | (refine (i_MeshS _ _ false (by assumption) _).mono ?_) | (refine (i_MeshS _ _ _ rfl _).mono ?_)); rintro e w2 ⟨rfl, hb⟩; (first | have hn := nw4 hb hall (by exact zo) | have hn := nw3 hb hall (by exact zo) | have hn := nw2 hb hall (by exact zo) | have hn := nw1 hb hall (by exact zo) | have hn := nw0 hb hall (by exact zo)); obtain ⟨hc, hf, hn, hc0⟩ := hn; replace hall := hn; clear hn; have hz := hb.size; (try simp only [World.size_alloc, World.size_setCell, World.size_drew] at hz); have hx := hall; (try simp only [allLt, and_true] at hx); obtain ⟨w1, rfl⟩ : ∃ x, x = w2 := ⟨_, rfl⟩) | (with_reducible refine wp_region_grew2 (by kernel_rfl) (by kernel_rfl) ?_; intro w2 hb; (first | have hn := nw4 hb hall (by exact zo) | have hn := nw3 hb hall (by exact zo) | have hn := nw2 hb hall (by exact zo) | have hn := nw1 hb hall (by exact zo) | have hn := nw0 hb hall (by exact zo)); obtain ⟨hc, hf, hn, hc0⟩ := hn; replace hall := hn; clear hn; have hz := hb.size; (try simp only [World.size_alloc, World.size_setCell, World.size_drew] at hz); have hx := hall; (try simp only [allLt, and_true] at hx); obtain ⟨w1, rfl⟩ : ∃ x, x = w2 := ⟨_, rfl⟩; (repeat (go_big_quiet_step (first | (go_at_call 80; first | exact calls_grew (i_MeshS _ _ true (by assumption) _) | exact calls_grew (i_MeshS _ _ false (by assumption) _) | exact calls_grew (i_MeshS _ _ _ rfl _))))); refine wpQuiet_nil ?_; intro w2 hw'; have hb := grew_below hw'; clear hw'; (first | have hn := nw4 hb hall (by exact zo) | have hn := nw3 hb hall (by exact zo) | have hn := nw2 hb hall (by exact zo) | have hn := nw1 hb hall (by exact zo) | have hn := nw0 hb hall (by exact zo)); obtain ⟨hc, hf, hn, hc0⟩ := hn; replace hall := hn; clear hn; have hz := hb.size; (try simp only [World.size_alloc, World.size_setCell, World.size_drew] at hz); have hx := hall; (try simp only [allLt, and_true] at hx); obtain ⟨w1, rfl⟩ : ∃ x, x = w2 := ⟨_, rfl⟩))
            go_roundw
            case rel =>
              have hL := HL2.out; have hLs := hL.size
              exact ⟨m + 1, by omega, by go_num, by rw [HE.out, hmesh]; simp, by exact bel, by omega, by go_simp, by go_simp, by go_simp⟩
            case measure => simp [intOf]; omega
          · go_wp2_with (first | (go_at_call 80; (first | (refine (i_MeshS _ _ true (by assumption) _).mono ?_) | (refine (i_MeshS _ _ false (by assumption) _).mono ?_) | (refine (i_MeshS _ _ _ rfl _).mono ?_)); rintro e w2 ⟨rfl, hb⟩; (first | have hn := nw4 hb hall (by exact zo) | have hn := nw3 hb hall (by exact zo) | have hn := nw2 hb hall (by exact zo) | have hn := nw1 hb hall (by exact zo) | have hn := nw0 hb hall (by exact zo)); obtain ⟨hc, hf, hn, hc0⟩ := hn; replace hall := hn; clear hn; have hz := hb.size; (try simp only [World.size_alloc, World.size_setCell, World.size_drew] at hz); have hx := hall; (try simp only [allLt, and_true] at hx); obtain ⟨w1, rfl⟩ : ∃ x, x = w2 := ⟨_, rfl⟩) | (with_reducible refine wp_region_grew2 (by kernel_rfl) (by kernel_rfl) ?_; intro w2 hb; (first | have hn := nw4 hb hall (by exact zo) | have hn := nw3 hb hall (by exact zo) | have hn := nw2 hb hall (by exact zo) | have hn := nw1 hb hall (by exact zo) | have hn := nw0 hb hall (by exact zo)); obtain ⟨hc, hf, hn, hc0⟩ := hn; replace hall := hn; clear hn; have hz := hb.size; (try simp only [World.size_alloc, World.size_setCell, World.size_drew] at hz); have hx := hall; (try simp only [allLt, and_true] at hx); obtain ⟨w1, rfl⟩ : ∃ x, x = w2 := ⟨_, rfl⟩; (repeat (go_big_quiet_step (first | (go_at_call 80; first | exact calls_grew (i_MeshS _ _ true (by assumption) _) | exact calls_grew (i_MeshS _ _ false (by assumption) _) | exact calls_grew (i_MeshS _ _ _ rfl _))))); refine wpQuiet_nil ?_; intro w2 hw'; have hb := grew_below hw'; clear hw'; (first | have hn := nw4 hb hall (by exact zo) | have hn := nw3 hb hall (by exact zo) | have hn := nw2 hb hall (by exact zo) | have hn := nw1 hb hall (by exact zo) | have hn := nw0 hb hall (by exact zo)); obtain ⟨hc, hf, hn, hc0⟩ := hn; replace hall := hn; clear hn; have hz := hb.size; (try simp only [World.size_alloc, World.size_setCell, World.size_drew] at hz); have hx := hall; (try simp only [allLt, and_true] at hx); obtain ⟨w1, rfl⟩ : ∃ x, x = w2 := ⟨_, rfl⟩))
            go_roundw
            case rel =>
              have hL := HL2.out; have hLs := hL.size
              exact ⟨m + 1, by omega, by go_num, by rw [HE.out, hmesh]; simp; go_num, by exact bel, by omega, by go_simp, by go_simp, by go_simp⟩
            case measure => simp [intOf]; omega
        · have hlm' : ¬ (m : Int) < k := by omega
          obtain rfl : m = k := by omega
          (obtain ⟨w1, rfl⟩ : ∃ x, x = wr := ⟨_, rfl⟩; have hall : allLt [ga, B0] w1.heap.size := ⟨by omega, by omega, trivial⟩; have hx := hall; (try simp only [allLt, and_true] at hx))
          go_wp2_with (first | (with_reducible refine wp_region_grew2 (by kernel_rfl) (by kernel_rfl) ?_; intro w2 hb; (first | have hn := nw4 hb hall (by exact zo) | have hn := nw3 hb hall (by exact zo) | have hn := nw2 hb hall (by exact zo) | have hn := nw1 hb hall (by exact zo) | have hn := nw0 hb hall (by exact zo)); obtain ⟨hc, hf, hn, hc0⟩ := hn; replace hall := hn; clear hn; have hz := hb.size; (try simp only [World.size_alloc, World.size_setCell, World.size_drew] at hz); have hx := hall; (try simp only [allLt, and_true] at hx); obtain ⟨w1, rfl⟩ : ∃ x, x = w2 := ⟨_, rfl⟩; (repeat (go_big_quiet_step (fail))); refine wpQuiet_nil ?_; intro w2 hw'; have hb := grew_below hw'; clear hw'; (first | have hn := nw4 hb hall (by exact zo) | have hn := nw3 hb hall (by exact zo) | have hn := nw2 hb hall (by exact zo) | have hn := nw1 hb hall (by exact zo) | have hn := nw0 hb hall (by exact zo)); obtain ⟨hc, hf, hn, hc0⟩ := hn; replace hall := hn; clear hn; have hz := hb.size; (try simp only [World.size_alloc, World.size_setCell, World.size_drew] at hz); have hx := hall; (try simp only [allLt, and_true] at hx); obtain ⟨w1, rfl⟩ : ∃ x, x = w2 := ⟨_, rfl⟩))
          go_roundw
          case rel =>
            have hL := HL2.out; have hLs := hL.size
            exact ⟨m + 1, by omega, by go_num, by rw [eTo], by exact bel⟩
          case measure => simp [intOf]; omega
    · have hlt' : ¬ (k : Int) < xs.length := by omega
      obtain rfl : k = xs.length := by omega
      go_wp2_with (first | (with_reducible refine wp_region_grew2 (by kernel_rfl) (by kernel_rfl) ?_; intro w2 hb; (first | have hn := nw4 hb hall (by exact zo) | have hn := nw3 hb hall (by exact zo) | have hn := nw2 hb hall (by exact zo) | have hn := nw1 hb hall (by exact zo) | have hn := nw0 hb hall (by exact zo)); obtain ⟨hc, hf, hn, hc0⟩ := hn; replace hall := hn; clear hn; have hz := hb.size; (try simp only [World.size_alloc, World.size_setCell, World.size_drew] at hz); have hx := hall; (try simp only [allLt, and_true] at hx); obtain ⟨w1, rfl⟩ : ∃ x, x = w2 := ⟨_, rfl⟩; (repeat (go_big_quiet_step (fail))); refine wpQuiet_nil ?_; intro w2 hw'; have hb := grew_below hw'; clear hw'; (first | have hn := nw4 hb hall (by exact zo) | have hn := nw3 hb hall (by exact zo) | have hn := nw2 hb hall (by exact zo) | have hn := nw1 hb hall (by exact zo) | have hn := nw0 hb hall (by exact zo)); obtain ⟨hc, hf, hn, hc0⟩ := hn; replace hall := hn; clear hn; have hz := hb.size; (try simp only [World.size_alloc, World.size_setCell, World.size_drew] at hz); have hx := hall; (try simp only [allLt, and_true] at hx); obtain ⟨w1, rfl⟩ : ∃ x, x = w2 := ⟨_, rfl⟩))
      go_ret
      exact ⟨rfl, HL.out⟩

end Go.Proofs.Ytkdafincnmkjnaa
