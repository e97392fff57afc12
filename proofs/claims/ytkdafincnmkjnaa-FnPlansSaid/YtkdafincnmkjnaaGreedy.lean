/-
  The pairs that are found greedily, both sides.
-/
import Derived.Test.YtkdafincnmkjnaaTaken
import Derived.Test.YtkdafincnmkjnaaGroup
import Derived.Test.YtkdafincnmkjnaaAppend
set_option linter.unusedVariables false
set_option linter.unusedSimpArgs false
namespace Go.Proofs.Ytkdafincnmkjnaa
open Go.RowKit
theorem gRowP_step (xs : List Sp) (k n : Nat) (P : List Pr) (h : k + 1 ≤ n) : gRowP xs k P (n + 1 - (k + 1)) = gStep xs (gRowP xs k P (n - (k + 1))) k n := by
  rw [show n + 1 - (k + 1) = (n - (k + 1)) + 1 by omega, gRowP, show k + 1 + (n - (k + 1)) = n by omega]
theorem gStep_1 (xs : List Sp) (out : List Pr) (a b : Nat) (h : takenB out a = true) : gStep xs out a b = out := by unfold gStep; rw [h]; rfl
theorem gStep_2 (xs : List Sp) (out : List Pr) (a b : Nat) (h : takenB out b = true) : gStep xs out a b = out := by unfold gStep; rw [h]; simp
theorem gStep_3 (xs : List Sp) (out : List Pr) (a b : Nat) (h : meshS (xs.getD a default) (xs.getD b default) = false) : gStep xs out a b = out := by unfold gStep; rw [h]; simp
theorem gStep_4 (xs : List Sp) (out : List Pr) (a b : Nat) (h : takenB out a = false) (h2 : takenB out b = false) (h3 : meshS (xs.getD a default) (xs.getD b default) = true) : gStep xs out a b = out ++ [⟨a, b⟩] := by unfold gStep; rw [h, h2, h3]; rfl
abbrev NewPr (w : World) (xs : List Pr) (e : Ending) (w' : World) : Prop := ∃ v, e = .returned v ∧ OwnPr w.heap.size w' v xs ∧ Below w.heap.size w w'
set_option maxRecDepth 20000 in
set_option maxHeartbeats 3200000 in
theorem i_GreedyPairs (va : Value) (xs : List Sp) (w : World) (ha : SpansAt w va xs) : Calls Try.prog 34 #[va] w (NewPr w (greedy xs)) := by
  obtain ⟨ao, ca, rfl, hn, hm, hra⟩ := ha.open
  have hle : xs.length ≤ 9223372036854775807 := by unfold maxLen at hm; omega
  clear hm
  have HA := Lib.hid hra; clear hra ha
  by_cases h16 : 16 < xs.length
  · have h17 : (16 : Int) < xs.length := by omega
    rw [show greedy xs = [] by unfold greedy; rw [if_pos h16]]
    (have hall := all_nil w; go_enter Try.func34, Try.ntmps34)
    go_wp2_with (first | (with_reducible refine wp_region_grew2 (by kernel_rfl) (by kernel_rfl) ?_; intro w2 hb; (first | have hn := nw4 hb hall (by exact zo) | have hn := nw3 hb hall (by exact zo) | have hn := nw2 hb hall (by exact zo) | have hn := nw1 hb hall (by exact zo) | have hn := nw0 hb hall (by exact zo)); obtain ⟨hc, hf, hn, hc0⟩ := hn; replace hall := hn; clear hn; have hz := hb.size; (try simp only [World.size_alloc, World.size_setCell, World.size_drew] at hz); have hx := hall; (try simp only [allLt, and_true] at hx); obtain ⟨w1, rfl⟩ : ∃ x, x = w2 := ⟨_, rfl⟩; (repeat (go_big_quiet_step (fail))); refine wpQuiet_nil ?_; intro w2 hw'; have hb := grew_below hw'; clear hw'; (first | have hn := nw4 hb hall (by exact zo) | have hn := nw3 hb hall (by exact zo) | have hn := nw2 hb hall (by exact zo) | have hn := nw1 hb hall (by exact zo) | have hn := nw0 hb hall (by exact zo)); obtain ⟨hc, hf, hn, hc0⟩ := hn; replace hall := hn; clear hn; have hz := hb.size; (try simp only [World.size_alloc, World.size_setCell, World.size_drew] at hz); have hx := hall; (try simp only [allLt, and_true] at hx); obtain ⟨w1, rfl⟩ : ∃ x, x = w2 := ⟨_, rfl⟩))
    go_ret
    exact ⟨_, rfl, Own.nil _ _ _ _ _, by exact bel⟩
  · have h17 : ¬ (16 : Int) < xs.length := by omega
    have hgr := gAllP_le xs (by omega)
    have HGA := Lib.hid hgr; clear hgr
    rw [show greedy xs = gAllP xs xs.length by unfold greedy; rw [if_neg h16]]
    (have hall := all_nil w; go_enter Try.func34, Try.ntmps34)
    go_wp2_with (first | (with_reducible refine wp_region_grew2 (by kernel_rfl) (by kernel_rfl) ?_; intro w2 hb; (first | have hn := nw4 hb hall (by exact zo) | have hn := nw3 hb hall (by exact zo) | have hn := nw2 hb hall (by exact zo) | have hn := nw1 hb hall (by exact zo) | have hn := nw0 hb hall (by exact zo)); obtain ⟨hc, hf, hn, hc0⟩ := hn; replace hall := hn; clear hn; have hz := hb.size; (try simp only [World.size_alloc, World.size_setCell, World.size_drew] at hz); have hx := hall; (try simp only [allLt, and_true] at hx); obtain ⟨w1, rfl⟩ : ∃ x, x = w2 := ⟨_, rfl⟩; (repeat (go_big_quiet_step (fail))); refine wpQuiet_nil ?_; intro w2 hw'; have hb := grew_below hw'; clear hw'; (first | have hn := nw4 hb hall (by exact zo) | have hn := nw3 hb hall (by exact zo) | have hn := nw2 hb hall (by exact zo) | have hn := nw1 hb hall (by exact zo) | have hn := nw0 hb hall (by exact zo)); obtain ⟨hc, hf, hn, hc0⟩ := hn; replace hall := hn; clear hn; have hz := hb.size; (try simp only [World.size_alloc, World.size_setCell, World.size_drew] at hz); have hx := hall; (try simp only [allLt, and_true] at hx); obtain ⟨w1, rfl⟩ : ∃ x, x = w2 := ⟨_, rfl⟩))
    go_loopw [3, 12] (fun s i wr => ∃ (k : Nat) (vo : Option Addr) (vc : Nat), k ≤ xs.length ∧ i = .int .i64 k ∧ s = .slice vo (gAllP xs k).length vc ∧ OwnPr w.heap.size wr (.slice vo (gAllP xs k).length vc) (gAllP xs k) ∧ Below w.heap.size w wr) (fun _ i _ => xs.length - (intOf i).toNat)
    case atStart => exact ⟨0, _, _, Nat.zero_le _, rfl, rfl, Own.empty' _ _ _ _ _ _ rfl (by exact zo), by exact bel⟩
    case round =>
      obtain ⟨k, vo, vc, hk, rfl, rfl, hown, hbel⟩ := hrel
      have HL := Lib.hid hbel; have hsz := hbel.size; clear hbel
      have OV := Lib.hid hown; clear hown
      by_cases hlt : k < xs.length
      · have hlt' : (k : Int) < xs.length := by omega
        obtain ⟨ga, oa, haoa, hga, a0, a1, a2⟩ := HA.out k hlt
        subst haoa
        replace a0 := (HL.out.cell (p := ⟨ga, oa + k * 3, none⟩) (by first | exact hga | assumption)).trans a0
        replace a1 := (HL.out.cell (p := ⟨ga, oa + k * 3 + 1, none⟩) (by first | exact hga | assumption)).trans a1
        replace a2 := (HL.out.cell (p := ⟨ga, oa + k * 3 + 2, none⟩) (by first | exact hga | assumption)).trans a2
        obtain ⟨a, hea⟩ : ∃ x, x = xs.getD k default := ⟨_, rfl⟩
        rw [← hea] at a0 a1 a2
        have Ha := Lib.hid hea; clear hea
        (obtain ⟨w1, rfl⟩ : ∃ x, x = wr := ⟨_, rfl⟩; have hall : allLt [ga] w1.heap.size := ⟨by omega, trivial⟩; have hx := hall; (try simp only [allLt, and_true] at hx))
        go_wp2_with (first | (with_reducible refine wp_region_grew2 (by kernel_rfl) (by kernel_rfl) ?_; intro w2 hb; (first | have hn := nw4 hb hall (by exact zo) | have hn := nw3 hb hall (by exact zo) | have hn := nw2 hb hall (by exact zo) | have hn := nw1 hb hall (by exact zo) | have hn := nw0 hb hall (by exact zo)); obtain ⟨hc, hf, hn, hc0⟩ := hn; replace hall := hn; clear hn; have hz := hb.size; (try simp only [World.size_alloc, World.size_setCell, World.size_drew] at hz); have hx := hall; (try simp only [allLt, and_true] at hx); obtain ⟨w1, rfl⟩ : ∃ x, x = w2 := ⟨_, rfl⟩; (repeat (go_big_quiet_step (fail))); refine wpQuiet_nil ?_; intro w2 hw'; have hb := grew_below hw'; clear hw'; (first | have hn := nw4 hb hall (by exact zo) | have hn := nw3 hb hall (by exact zo) | have hn := nw2 hb hall (by exact zo) | have hn := nw1 hb hall (by exact zo) | have hn := nw0 hb hall (by exact zo)); obtain ⟨hc, hf, hn, hc0⟩ := hn; replace hall := hn; clear hn; have hz := hb.size; (try simp only [World.size_alloc, World.size_setCell, World.size_drew] at hz); have hx := hall; (try simp only [allLt, and_true] at hx); obtain ⟨w1, rfl⟩ : ∃ x, x = w2 := ⟨_, rfl⟩))
        obtain ⟨B0, hB0⟩ : ∃ x, x = w1.heap.size := ⟨_, rfl⟩
        have hx0 : ga < B0 := by omega
        go_loopw [3, 5] (fun s i wr => ∃ (n : Nat) (vo : Option Addr) (vc : Nat), k + 1 ≤ n ∧ n ≤ xs.length ∧ i = .int .i64 n ∧ s = .slice vo (gRowP xs k (gAllP xs k) (n - (k + 1))).length vc ∧ OwnPr w.heap.size wr (.slice vo (gRowP xs k (gAllP xs k) (n - (k + 1))).length vc) (gRowP xs k (gAllP xs k) (n - (k + 1))) ∧ Below w.heap.size w wr) (fun _ i _ => xs.length - (intOf i).toNat)
        case atStart =>
          have hL := HL.out; have hLs := hL.size
          exact ⟨k + 1, vo, vc, Nat.le_refl _, hlt, by go_num, by simp [gRowP], by simpa [gRowP] using Own.below OV.out (by exact bel), by exact bel⟩
        case round =>
          clear OV
          obtain ⟨n, vo, vc, hn1, hn2, rfl, rfl, hown, hbel⟩ := hrel
          clear hB0 a0 a1 a2
          have HL2 := Lib.hid hbel; have hsz2 := hbel.size; clear hbel
          have OV := Lib.hid hown; clear hown
          have HG := Lib.hid (gRowP_step xs k n (gAllP xs k) hn1)
          have hlo : (gRowP xs k (gAllP xs k) (n - (k + 1))).length ≤ 512 := by have h1 := HGA.out k; have h2 := gRowP_le xs k (gAllP xs k) (n - (k + 1)); omega
          by_cases hlm : n < xs.length
          · have hlm' : (n : Int) < xs.length := by omega
            generalize gRowP xs k (gAllP xs k) (n - (k + 1)) = out at *
            obtain ⟨gaa, oaa, haoaa, hgaa, aa0, aa1, aa2⟩ := HA.out k hlt
            (simp only [Option.some.injEq, Addr.mk.injEq, and_true] at haoaa; obtain ⟨rfl, rfl⟩ := haoaa)
            replace aa0 := (HL2.out.cell (p := ⟨ga, oa + k * 3, none⟩) (by first | exact hgaa | assumption)).trans aa0
            replace aa1 := (HL2.out.cell (p := ⟨ga, oa + k * 3 + 1, none⟩) (by first | exact hgaa | assumption)).trans aa1
            replace aa2 := (HL2.out.cell (p := ⟨ga, oa + k * 3 + 2, none⟩) (by first | exact hgaa | assumption)).trans aa2
            obtain ⟨aa, heaa⟩ : ∃ x, x = xs.getD k default := ⟨_, rfl⟩
            rw [← heaa] at aa0 aa1 aa2
            have Haa := Lib.hid heaa; clear heaa
            obtain ⟨gb, ob, haob, hgb, b0, b1, b2⟩ := HA.out n hlm
            (simp only [Option.some.injEq, Addr.mk.injEq, and_true] at haob; obtain ⟨rfl, rfl⟩ := haob)
            replace b0 := (HL2.out.cell (p := ⟨ga, oa + n * 3, none⟩) (by first | exact hgb | assumption)).trans b0
            replace b1 := (HL2.out.cell (p := ⟨ga, oa + n * 3 + 1, none⟩) (by first | exact hgb | assumption)).trans b1
            replace b2 := (HL2.out.cell (p := ⟨ga, oa + n * 3 + 2, none⟩) (by first | exact hgb | assumption)).trans b2
            obtain ⟨b, heb⟩ : ∃ x, x = xs.getD n default := ⟨_, rfl⟩
            rw [← heb] at b0 b1 b2
            have Hb := Lib.hid heb; clear heb
            (obtain ⟨w1, rfl⟩ : ∃ x, x = wr := ⟨_, rfl⟩; have hall : allLt [ga] w1.heap.size := ⟨by omega, trivial⟩; have hx := hall; (try simp only [allLt, and_true] at hx))
            cases hta : takenB out k
            rotate_left
            · go_wp2_with (first | (with_reducible refine wp_region_grew2 (by kernel_rfl) (by kernel_rfl) ?_; intro w2 hb; have hb0 := hb; (first | have hn := nw4 hb hall (by exact zo) | have hn := nw3 hb hall (by exact zo) | have hn := nw2 hb hall (by exact zo) | have hn := nw1 hb hall (by exact zo) | have hn := nw0 hb hall (by exact zo)); obtain ⟨hc, hf, hn, hc0⟩ := hn; replace hall := hn; clear hn; have hz := hb.size; (try simp only [World.size_alloc, World.size_setCell, World.size_drew] at hz); have hx := hall; (try simp only [allLt, and_true] at hx); obtain ⟨w1, rfl⟩ : ∃ x, x = w2 := ⟨_, rfl⟩; have PA := Own.at (Own.below OV.out (w' := w1) (by exact bel)) lenPr; (repeat (go_big_quiet_step ((first | (go_at_call 91; exact calls_grew (i_taken _ _ _ _ hta _ (SlAt.below PA (Grew.below _)))))))); refine wpQuiet_nil ?_; intro w2 hw'; have hb := grew_below hw'; clear hw'; (first | have hn := nw4 hb hall (by exact zo) | have hn := nw3 hb hall (by exact zo) | have hn := nw2 hb hall (by exact zo) | have hn := nw1 hb hall (by exact zo) | have hn := nw0 hb hall (by exact zo)); obtain ⟨hc, hf, hn, hc0⟩ := hn; replace hall := hn; clear hn; have hz := hb.size; (try simp only [World.size_alloc, World.size_setCell, World.size_drew] at hz); have hx := hall; (try simp only [allLt, and_true] at hx); obtain ⟨w1, rfl⟩ : ∃ x, x = w2 := ⟨_, rfl⟩) | (with_reducible refine wp_region_grew2 (by kernel_rfl) (by kernel_rfl) ?_; intro w2 hb; (first | have hn := nw4 hb hall (by exact zo) | have hn := nw3 hb hall (by exact zo) | have hn := nw2 hb hall (by exact zo) | have hn := nw1 hb hall (by exact zo) | have hn := nw0 hb hall (by exact zo)); obtain ⟨hc, hf, hn, hc0⟩ := hn; replace hall := hn; clear hn; have hz := hb.size; (try simp only [World.size_alloc, World.size_setCell, World.size_drew] at hz); have hx := hall; (try simp only [allLt, and_true] at hx); obtain ⟨w1, rfl⟩ : ∃ x, x = w2 := ⟨_, rfl⟩; (repeat (go_big_quiet_step (fail))); refine wpQuiet_nil ?_; intro w2 hw'; have hb := grew_below hw'; clear hw'; (first | have hn := nw4 hb hall (by exact zo) | have hn := nw3 hb hall (by exact zo) | have hn := nw2 hb hall (by exact zo) | have hn := nw1 hb hall (by exact zo) | have hn := nw0 hb hall (by exact zo)); obtain ⟨hc, hf, hn, hc0⟩ := hn; replace hall := hn; clear hn; have hz := hb.size; (try simp only [World.size_alloc, World.size_setCell, World.size_drew] at hz); have hx := hall; (try simp only [allLt, and_true] at hx); obtain ⟨w1, rfl⟩ : ∃ x, x = w2 := ⟨_, rfl⟩))
              skip
              go_roundw
              case rel =>
                have hL := HL2.out; have hLs := hL.size
                exact ⟨n + 1, vo, vc, by omega, by omega, by go_num, by rw [HG.out, gStep_1 _ _ _ _ hta], by rw [HG.out, gStep_1 _ _ _ _ hta]; exact (Own.below OV.out (by exact bel)), by exact bel⟩
              case measure => simp [intOf]; omega
            cases htb : takenB out n
            rotate_left
            · go_wp2_with (first | (with_reducible refine wp_region_grew2 (by kernel_rfl) (by kernel_rfl) ?_; intro w2 hb; have hb0 := hb; (first | have hn := nw4 hb hall (by exact zo) | have hn := nw3 hb hall (by exact zo) | have hn := nw2 hb hall (by exact zo) | have hn := nw1 hb hall (by exact zo) | have hn := nw0 hb hall (by exact zo)); obtain ⟨hc, hf, hn, hc0⟩ := hn; replace hall := hn; clear hn; have hz := hb.size; (try simp only [World.size_alloc, World.size_setCell, World.size_drew] at hz); have hx := hall; (try simp only [allLt, and_true] at hx); obtain ⟨w1, rfl⟩ : ∃ x, x = w2 := ⟨_, rfl⟩; have PA := Own.at (Own.below OV.out (w' := w1) (by exact bel)) lenPr; (repeat (go_big_quiet_step ((first | (go_at_call 91; exact calls_grew (i_taken _ _ _ _ hta _ (SlAt.below PA (Grew.below _)))) | (go_at_call 91; exact calls_grew (i_taken _ _ _ _ htb _ (SlAt.below PA (Grew.below _)))))))); refine wpQuiet_nil ?_; intro w2 hw'; have hb := grew_below hw'; clear hw'; (first | have hn := nw4 hb hall (by exact zo) | have hn := nw3 hb hall (by exact zo) | have hn := nw2 hb hall (by exact zo) | have hn := nw1 hb hall (by exact zo) | have hn := nw0 hb hall (by exact zo)); obtain ⟨hc, hf, hn, hc0⟩ := hn; replace hall := hn; clear hn; have hz := hb.size; (try simp only [World.size_alloc, World.size_setCell, World.size_drew] at hz); have hx := hall; (try simp only [allLt, and_true] at hx); obtain ⟨w1, rfl⟩ : ∃ x, x = w2 := ⟨_, rfl⟩) | (with_reducible refine wp_region_grew2 (by kernel_rfl) (by kernel_rfl) ?_; intro w2 hb; (first | have hn := nw4 hb hall (by exact zo) | have hn := nw3 hb hall (by exact zo) | have hn := nw2 hb hall (by exact zo) | have hn := nw1 hb hall (by exact zo) | have hn := nw0 hb hall (by exact zo)); obtain ⟨hc, hf, hn, hc0⟩ := hn; replace hall := hn; clear hn; have hz := hb.size; (try simp only [World.size_alloc, World.size_setCell, World.size_drew] at hz); have hx := hall; (try simp only [allLt, and_true] at hx); obtain ⟨w1, rfl⟩ : ∃ x, x = w2 := ⟨_, rfl⟩; (repeat (go_big_quiet_step (fail))); refine wpQuiet_nil ?_; intro w2 hw'; have hb := grew_below hw'; clear hw'; (first | have hn := nw4 hb hall (by exact zo) | have hn := nw3 hb hall (by exact zo) | have hn := nw2 hb hall (by exact zo) | have hn := nw1 hb hall (by exact zo) | have hn := nw0 hb hall (by exact zo)); obtain ⟨hc, hf, hn, hc0⟩ := hn; replace hall := hn; clear hn; have hz := hb.size; (try simp only [World.size_alloc, World.size_setCell, World.size_drew] at hz); have hx := hall; (try simp only [allLt, and_true] at hx); obtain ⟨w1, rfl⟩ : ∃ x, x = w2 := ⟨_, rfl⟩))
              skip
              go_roundw
              case rel =>
                have hL := HL2.out; have hLs := hL.size
                exact ⟨n + 1, vo, vc, by omega, by omega, by go_num, by rw [HG.out, gStep_2 _ _ _ _ htb], by rw [HG.out, gStep_2 _ _ _ _ htb]; exact (Own.below OV.out (by exact bel)), by exact bel⟩
              case measure => simp [intOf]; omega
            cases hmm : meshS aa b
            · have hm2 : meshable aa.p aa.c aa.b b.p b.c b.b = false := hmm
              go_wp2_with (first | (with_reducible refine wp_region_grew2 (by kernel_rfl) (by kernel_rfl) ?_; intro w2 hb; have hb0 := hb; (first | have hn := nw4 hb hall (by exact zo) | have hn := nw3 hb hall (by exact zo) | have hn := nw2 hb hall (by exact zo) | have hn := nw1 hb hall (by exact zo) | have hn := nw0 hb hall (by exact zo)); obtain ⟨hc, hf, hn, hc0⟩ := hn; replace hall := hn; clear hn; have hz := hb.size; (try simp only [World.size_alloc, World.size_setCell, World.size_drew] at hz); have hx := hall; (try simp only [allLt, and_true] at hx); obtain ⟨w1, rfl⟩ : ∃ x, x = w2 := ⟨_, rfl⟩; have PA := Own.at (Own.below OV.out (w' := w1) (by exact bel)) lenPr; (repeat (go_big_quiet_step ((first | (go_at_call 91; exact calls_grew (i_taken _ _ _ _ hta _ (SlAt.below PA (Grew.below _)))) | (go_at_call 91; exact calls_grew (i_taken _ _ _ _ htb _ (SlAt.below PA (Grew.below _)))) | (go_at_call 80; (exact calls_grew (i_Meshable _ _ _ _ _ _ _ hm2 _))))))); refine wpQuiet_nil ?_; intro w2 hw'; have hb := grew_below hw'; clear hw'; (first | have hn := nw4 hb hall (by exact zo) | have hn := nw3 hb hall (by exact zo) | have hn := nw2 hb hall (by exact zo) | have hn := nw1 hb hall (by exact zo) | have hn := nw0 hb hall (by exact zo)); obtain ⟨hc, hf, hn, hc0⟩ := hn; replace hall := hn; clear hn; have hz := hb.size; (try simp only [World.size_alloc, World.size_setCell, World.size_drew] at hz); have hx := hall; (try simp only [allLt, and_true] at hx); obtain ⟨w1, rfl⟩ : ∃ x, x = w2 := ⟨_, rfl⟩) | (with_reducible refine wp_region_grew2 (by kernel_rfl) (by kernel_rfl) ?_; intro w2 hb; (first | have hn := nw4 hb hall (by exact zo) | have hn := nw3 hb hall (by exact zo) | have hn := nw2 hb hall (by exact zo) | have hn := nw1 hb hall (by exact zo) | have hn := nw0 hb hall (by exact zo)); obtain ⟨hc, hf, hn, hc0⟩ := hn; replace hall := hn; clear hn; have hz := hb.size; (try simp only [World.size_alloc, World.size_setCell, World.size_drew] at hz); have hx := hall; (try simp only [allLt, and_true] at hx); obtain ⟨w1, rfl⟩ : ∃ x, x = w2 := ⟨_, rfl⟩; (repeat (go_big_quiet_step (fail))); refine wpQuiet_nil ?_; intro w2 hw'; have hb := grew_below hw'; clear hw'; (first | have hn := nw4 hb hall (by exact zo) | have hn := nw3 hb hall (by exact zo) | have hn := nw2 hb hall (by exact zo) | have hn := nw1 hb hall (by exact zo) | have hn := nw0 hb hall (by exact zo)); obtain ⟨hc, hf, hn, hc0⟩ := hn; replace hall := hn; clear hn; have hz := hb.size; (try simp only [World.size_alloc, World.size_setCell, World.size_drew] at hz); have hx := hall; (try simp only [allLt, and_true] at hx); obtain ⟨w1, rfl⟩ : ∃ x, x = w2 := ⟨_, rfl⟩))
              skip
              go_roundw
              case rel =>
                have hL := HL2.out; have hLs := hL.size
                exact ⟨n + 1, vo, vc, by omega, by omega, by go_num, by rw [HG.out, gStep_3 _ _ _ _ (by rw [← Haa.out, ← Hb.out]; exact hmm)], by rw [HG.out, gStep_3 _ _ _ _ (by rw [← Haa.out, ← Hb.out]; exact hmm)]; exact (Own.below OV.out (by exact bel)), by exact bel⟩
              case measure => simp [intOf]; omega
            · have hm2 : meshable aa.p aa.c aa.b b.p b.c b.b = true := hmm
              go_wp2_with (first | (with_reducible refine wp_region_grew2 (by kernel_rfl) (by kernel_rfl) ?_; intro w2 hb; have hb0 := hb; (first | have hn := nw4 hb hall (by exact zo) | have hn := nw3 hb hall (by exact zo) | have hn := nw2 hb hall (by exact zo) | have hn := nw1 hb hall (by exact zo) | have hn := nw0 hb hall (by exact zo)); obtain ⟨hc, hf, hn, hc0⟩ := hn; replace hall := hn; clear hn; have hz := hb.size; (try simp only [World.size_alloc, World.size_setCell, World.size_drew] at hz); have hx := hall; (try simp only [allLt, and_true] at hx); obtain ⟨w1, rfl⟩ : ∃ x, x = w2 := ⟨_, rfl⟩; have PA := Own.at (Own.below OV.out (w' := w1) (by exact bel)) lenPr; (repeat (go_big_quiet_step ((first | (go_at_call 91; exact calls_grew (i_taken _ _ _ _ hta _ (SlAt.below PA (Grew.below _)))) | (go_at_call 91; exact calls_grew (i_taken _ _ _ _ htb _ (SlAt.below PA (Grew.below _)))) | (go_at_call 80; (exact calls_grew (i_Meshable _ _ _ _ _ _ _ hm2 _))))))); refine wpQuiet_nil ?_; intro w2 hw'; have hb := grew_below hw'; clear hw'; (first | have hn := nw4 hb hall (by exact zo) | have hn := nw3 hb hall (by exact zo) | have hn := nw2 hb hall (by exact zo) | have hn := nw1 hb hall (by exact zo) | have hn := nw0 hb hall (by exact zo)); obtain ⟨hc, hf, hn, hc0⟩ := hn; replace hall := hn; clear hn; have hz := hb.size; (try simp only [World.size_alloc, World.size_setCell, World.size_drew] at hz); have hx := hall; (try simp only [allLt, and_true] at hx); obtain ⟨w1, rfl⟩ : ∃ x, x = w2 := ⟨_, rfl⟩) | (at_builtin; refine append1 elemPr rfl _ _ rfl lenPr onePr rfl (Own.alloc (Own.below OV.out (by exact bel)) _) (by exact zt) rfl (⟨(k : Int), (n : Int)⟩ : Pr) (by intro j u hj; match j, hj with | 0, hj => (simp [fPr] at hj; subst hj; go_simp) | 1, hj => (simp [fPr] at hj; subst hj; go_simp) | j + 2, hj => simp [fPr] at hj) (by unfold maxLen; omega) ?_; intro v2 w2 hown2 _ hb2; obtain ⟨v2o, v2c, rfl, -, -⟩ := hown2.shape; have OR := Lib.hid hown2; have HB3 := Lib.hid hb2; clear hown2 hb2) | (with_reducible refine wp_region_grew2 (by kernel_rfl) (by kernel_rfl) ?_; intro w2 hb; (first | have hn := nw4 hb hall (by exact zo) | have hn := nw3 hb hall (by exact zo) | have hn := nw2 hb hall (by exact zo) | have hn := nw1 hb hall (by exact zo) | have hn := nw0 hb hall (by exact zo)); obtain ⟨hc, hf, hn, hc0⟩ := hn; replace hall := hn; clear hn; have hz := hb.size; (try simp only [World.size_alloc, World.size_setCell, World.size_drew] at hz); have hx := hall; (try simp only [allLt, and_true] at hx); obtain ⟨w1, rfl⟩ : ∃ x, x = w2 := ⟨_, rfl⟩; (repeat (go_big_quiet_step (fail))); refine wpQuiet_nil ?_; intro w2 hw'; have hb := grew_below hw'; clear hw'; (first | have hn := nw4 hb hall (by exact zo) | have hn := nw3 hb hall (by exact zo) | have hn := nw2 hb hall (by exact zo) | have hn := nw1 hb hall (by exact zo) | have hn := nw0 hb hall (by exact zo)); obtain ⟨hc, hf, hn, hc0⟩ := hn; replace hall := hn; clear hn; have hz := hb.size; (try simp only [World.size_alloc, World.size_setCell, World.size_drew] at hz); have hx := hall; (try simp only [allLt, and_true] at hx); obtain ⟨w1, rfl⟩ : ∃ x, x = w2 := ⟨_, rfl⟩))
              skip
              go_roundw
              case rel =>
                have hL := HL2.out; have hLs := hL.size; have hB3 := HB3.out
                exact ⟨n + 1, v2o, v2c, by omega, by omega, by go_num, by rw [HG.out, gStep_4 _ _ _ _ hta htb (by rw [← Haa.out, ← Hb.out]; exact hmm)]; simp, by rw [HG.out, gStep_4 _ _ _ _ hta htb (by rw [← Haa.out, ← Hb.out]; exact hmm)]; exact (OR.out.mono (by (try simp only [World.size_alloc]); omega)), by exact bel⟩
              case measure => simp [intOf]; omega
          · have hlm' : ¬ (n : Int) < xs.length := by omega
            obtain rfl : n = xs.length := by omega
            go_wp2_with (first | (with_reducible refine wp_region_grew2 (by kernel_rfl) (by kernel_rfl) ?_; intro w2 hb; (first | have hn := nw4 hb hall (by exact zo) | have hn := nw3 hb hall (by exact zo) | have hn := nw2 hb hall (by exact zo) | have hn := nw1 hb hall (by exact zo) | have hn := nw0 hb hall (by exact zo)); obtain ⟨hc, hf, hn, hc0⟩ := hn; replace hall := hn; clear hn; have hz := hb.size; (try simp only [World.size_alloc, World.size_setCell, World.size_drew] at hz); have hx := hall; (try simp only [allLt, and_true] at hx); obtain ⟨w1, rfl⟩ : ∃ x, x = w2 := ⟨_, rfl⟩; (repeat (go_big_quiet_step (fail))); refine wpQuiet_nil ?_; intro w2 hw'; have hb := grew_below hw'; clear hw'; (first | have hn := nw4 hb hall (by exact zo) | have hn := nw3 hb hall (by exact zo) | have hn := nw2 hb hall (by exact zo) | have hn := nw1 hb hall (by exact zo) | have hn := nw0 hb hall (by exact zo)); obtain ⟨hc, hf, hn, hc0⟩ := hn; replace hall := hn; clear hn; have hz := hb.size; (try simp only [World.size_alloc, World.size_setCell, World.size_drew] at hz); have hx := hall; (try simp only [allLt, and_true] at hx); obtain ⟨w1, rfl⟩ : ∃ x, x = w2 := ⟨_, rfl⟩))
            go_roundw
            case rel =>
              have hL := HL2.out; have hLs := hL.size
              exact ⟨k + 1, vo, vc, by omega, by go_num, rfl, by rw [gAllP]; exact Own.below OV.out (by exact bel), by exact bel⟩
            case measure => simp [intOf]; omega
      · have hlt' : ¬ (k : Int) < xs.length := by omega
        obtain rfl : k = xs.length := by omega
        go_wp2_with (first | (with_reducible refine wp_region_grew2 (by kernel_rfl) (by kernel_rfl) ?_; intro w2 hb; (first | have hn := nw4 hb hall (by exact zo) | have hn := nw3 hb hall (by exact zo) | have hn := nw2 hb hall (by exact zo) | have hn := nw1 hb hall (by exact zo) | have hn := nw0 hb hall (by exact zo)); obtain ⟨hc, hf, hn, hc0⟩ := hn; replace hall := hn; clear hn; have hz := hb.size; (try simp only [World.size_alloc, World.size_setCell, World.size_drew] at hz); have hx := hall; (try simp only [allLt, and_true] at hx); obtain ⟨w1, rfl⟩ : ∃ x, x = w2 := ⟨_, rfl⟩; (repeat (go_big_quiet_step (fail))); refine wpQuiet_nil ?_; intro w2 hw'; have hb := grew_below hw'; clear hw'; (first | have hn := nw4 hb hall (by exact zo) | have hn := nw3 hb hall (by exact zo) | have hn := nw2 hb hall (by exact zo) | have hn := nw1 hb hall (by exact zo) | have hn := nw0 hb hall (by exact zo)); obtain ⟨hc, hf, hn, hc0⟩ := hn; replace hall := hn; clear hn; have hz := hb.size; (try simp only [World.size_alloc, World.size_setCell, World.size_drew] at hz); have hx := hall; (try simp only [allLt, and_true] at hx); obtain ⟨w1, rfl⟩ : ∃ x, x = w2 := ⟨_, rfl⟩))
        go_ret
        exact ⟨_, rfl, OV.out, HL.out⟩

end Go.Proofs.Ytkdafincnmkjnaa
