/-
  The greatest number of pairs, by the program.
-/
import Derived.Test.YtkdafincnmkjnaaBestL
import Derived.Test.YtkdafincnmkjnaaDel2
set_option linter.unusedVariables false
set_option linter.unusedSimpArgs false
namespace Go.Proofs.Ytkdafincnmkjnaa
open Go.RowKit
set_option maxRecDepth 20000 in
set_option maxHeartbeats 6400000 in
theorem i_bestL : ∀ (d : Nat) (va : Value) (xs : List Sp) (w : World), xs.length ≤ d → xs.length ≤ 10 → SpansAt w va xs →
    Calls Try.prog 26 #[va] w fun e w' => e = .returned (.int .i64 (bestL d xs : Nat)) ∧ Below w.heap.size w w' := by
  intro d
  induction d with
  | zero =>
    intro va xs w hd h10 ha
    obtain ⟨ao, ca, rfl, hn, hm, hra⟩ := ha.open
    obtain rfl : xs = [] := List.length_eq_zero_iff.1 (by omega)
    clear hra ha hn hm
    (have hall := all_nil w; go_enter Try.func26, Try.ntmps26)
    go_wp2_with fail
    go_ret
    exact ⟨rfl, Below.refl _ _⟩
  | succ d ih =>
    intro va xs w hd h10 ha
    obtain ⟨ao, ca, rfl, hn, hm, hra⟩ := ha.open
    have hn10 : ¬ (10 : Int) < (xs.length : Nat) := by omega
    rcases xs with _ | ⟨x, r⟩
    · clear hra ha hm
      (have hall := all_nil w; go_enter Try.func26, Try.ntmps26)
      go_wp2_with fail
      go_ret
      exact ⟨rfl, Below.refl _ _⟩
    rcases Nat.eq_zero_or_pos r.length with h0 | hpos
    · obtain rfl : r = [] := List.length_eq_zero_iff.1 h0
      clear hra ha hm
      (have hall := all_nil w; go_enter Try.func26, Try.ntmps26)
      go_wp2_with fail
      go_ret
      exact ⟨by rw [bestL, List.length_nil, bLoopL, bestL_nil]; rfl, Below.refl _ _⟩
    · obtain ⟨g, o, hao, hg, x0, x1, x2⟩ := hra 0 (by simp)
      subst hao
      simp only [Nat.zero_mul, Nat.add_zero, List.getD_cons_zero] at x0 x1 x2
      have hcm : ca ≤ 9223372036854775807 := by unfold maxLen at hm; omega
      have hr10 : r.length < 10 := by simp only [List.length_cons] at h10; omega
      have hrd : r.length ≤ d := by simp only [List.length_cons] at hd; omega
      have hl2 : ¬ ((x :: r).length : Int) < 2 := by simp only [List.length_cons]; omega
      have hrt : SpansAt w (.slice (some ⟨g, o + 3, none⟩) r.length (ca - 1)) r := by
        refine ⟨_, _, rfl, by simp only [List.length_cons] at hn; omega, by omega, fun i hi => ?_⟩
        obtain ⟨g', o', h', hg', c0, c1, c2⟩ := hra (i + 1) (by simp; omega)
        simp only [Option.some.injEq, Addr.mk.injEq, and_true] at h'
        obtain ⟨rfl, rfl⟩ := h'
        simp only [List.getD_cons_succ, getD_lt hi] at c0 c1 c2
        exact ⟨g, o + 3, rfl, hg, by rw [show o + 3 + i * 3 = o + (i + 1) * 3 by omega]; exact c0, by rw [show o + 3 + i * 3 + 1 = o + (i + 1) * 3 + 1 by omega]; exact c1, by rw [show o + 3 + i * 3 + 2 = o + (i + 1) * 3 + 2 by omega]; exact c2⟩
      have HRT := Lib.hid hrt
      have hro : ∀ i, i < r.length → ∃ g' o', some (⟨g, o + 3, none⟩ : Addr) = some ⟨g', o', none⟩ ∧ g' < w.heap.size ∧ w.cell? ⟨g', o' + i * 3, none⟩ = some (.int .i64 (r.getD i default).p) ∧ w.cell? ⟨g', o' + i * 3 + 1, none⟩ = some (.int .i64 (r.getD i default).c) ∧ w.cell? ⟨g', o' + i * 3 + 2, none⟩ = some (.int .i64 (r.getD i default).b) := by
        obtain ⟨ao, cap, he, -, -, hh⟩ := hrt.open
        simp only [Value.slice.injEq] at he
        obtain ⟨rfl, -, rfl⟩ := he
        exact hh
      have HRO := Lib.hid hro; clear hro
      have hca2 : 1 ≤ ca := by simp only [List.length_cons] at hn; omega
      have hca3 : ¬ ca = 1 := by simp only [List.length_cons] at hn; omega
      simp only [List.length_cons] at hn
      clear hra ha hm hrt
      have hl2 : ¬ ((r.length : Int) + 1 < 2) := by omega
      have hl10 : ¬ (10 : Int) < (r.length : Int) + 1 := by omega
      rw [bestL, List.length_cons]
      (have hall := all_nil w; go_enter Try.func26, Try.ntmps26)
      go_wp2_with (go_at_call 26; with_reducible refine (ih _ r _ hrd (by omega) HRT.out).mono ?_; rintro e w2 ⟨rfl, hb⟩; have HL1 := Lib.hid hb; clear hb)
      go_loopw [4, 19] (fun bv i wr => ∃ k : Nat, k ≤ r.length ∧ i = .int .i64 (k : Int) ∧ bv = .int .i64 (((bLoopL (bestL d) x r k) : Nat) : Int) ∧ Below w.heap.size w wr) (fun _ i _ => r.length - (intOf i).toNat)
      case atStart => exact ⟨0, Nat.zero_le _, by go_num, rfl, HL1.out⟩
      case round =>
        obtain ⟨k, hk, rfl, rfl, hbel⟩ := hrel
        have HL2 := Lib.hid hbel; have hsz2 := hbel.size; clear hbel
        obtain ⟨bst, hbst⟩ : ∃ q, q = (bLoopL (bestL d) x r k) := ⟨_, rfl⟩
        rw [← hbst]
        have hbl : bst ≤ r.length + 1 := by rw [hbst]; exact bLoopL_len _ (bestL_len d) _ _ k
        have HBS := Lib.hid hbst; clear hbst
        by_cases hlt : k < r.length
        · have hkr := hlt
          have hkI : (k : Int) < (r.length : Nat) := by omega
          obtain ⟨gsb, osb, haosb, hgsb, sb0, sb1, sb2⟩ := HRO.out k hkr
          (simp only [Option.some.injEq, Addr.mk.injEq, and_true] at haosb; obtain ⟨rfl, rfl⟩ := haosb)
          replace sb0 := (HL2.out.cell (p := ⟨g, (o + 3) + k * 3, none⟩) (by first | exact hgsb | assumption)).trans sb0
          replace sb1 := (HL2.out.cell (p := ⟨g, (o + 3) + k * 3 + 1, none⟩) (by first | exact hgsb | assumption)).trans sb1
          replace sb2 := (HL2.out.cell (p := ⟨g, (o + 3) + k * 3 + 2, none⟩) (by first | exact hgsb | assumption)).trans sb2
          obtain ⟨sb, hesb⟩ : ∃ x, x = r.getD k default := ⟨_, rfl⟩
          rw [← hesb] at sb0 sb1 sb2
          have Hsb := Lib.hid hesb; clear hesb
          replace x0 := (HL2.out.cell (p := ⟨g, o, none⟩) hg).trans x0
          replace x1 := (HL2.out.cell (p := ⟨g, o + 1, none⟩) hg).trans x1
          replace x2 := (HL2.out.cell (p := ⟨g, o + 2, none⟩) hg).trans x2
          (obtain ⟨w1, rfl⟩ : ∃ x, x = wr := ⟨_, rfl⟩; have hall : allLt [g] w1.heap.size := ⟨by omega, trivial⟩; have hx := hall; (try simp only [allLt, and_true] at hx))
          cases hmm : meshS x sb
          · have hm2 : meshable x.p x.c x.b sb.p sb.c sb.b = false := hmm
            go_wp2_with (first | (with_reducible refine wp_region_grew2 (by kernel_rfl) (by kernel_rfl) ?_; intro w2 hb; have hb0 := hb; (first | have hn := nw4 hb hall (by exact zo) | have hn := nw3 hb hall (by exact zo) | have hn := nw2 hb hall (by exact zo) | have hn := nw1 hb hall (by exact zo) | have hn := nw0 hb hall (by exact zo)); obtain ⟨hc, hf, hn, hc0⟩ := hn; replace hall := hn; clear hn; have hz := hb.size; (try simp only [World.size_alloc, World.size_setCell, World.size_drew] at hz); have hx := hall; (try simp only [allLt, and_true] at hx); obtain ⟨w1, rfl⟩ : ∃ x, x = w2 := ⟨_, rfl⟩; skip; (repeat (go_big_quiet_step ((first | (go_at_call 80; (exact calls_grew (i_Meshable _ _ _ _ _ _ _ hm2 _))))))); refine wpQuiet_nil ?_; intro w2 hw'; have hb := grew_below hw'; clear hw'; (first | have hn := nw4 hb hall (by exact zo) | have hn := nw3 hb hall (by exact zo) | have hn := nw2 hb hall (by exact zo) | have hn := nw1 hb hall (by exact zo) | have hn := nw0 hb hall (by exact zo)); obtain ⟨hc, hf, hn, hc0⟩ := hn; replace hall := hn; clear hn; have hz := hb.size; (try simp only [World.size_alloc, World.size_setCell, World.size_drew] at hz); have hx := hall; (try simp only [allLt, and_true] at hx); obtain ⟨w1, rfl⟩ : ∃ x, x = w2 := ⟨_, rfl⟩) | (with_reducible refine wp_region_grew2 (by kernel_rfl) (by kernel_rfl) ?_; intro w2 hb; (first | have hn := nw4 hb hall (by exact zo) | have hn := nw3 hb hall (by exact zo) | have hn := nw2 hb hall (by exact zo) | have hn := nw1 hb hall (by exact zo) | have hn := nw0 hb hall (by exact zo)); obtain ⟨hc, hf, hn, hc0⟩ := hn; replace hall := hn; clear hn; have hz := hb.size; (try simp only [World.size_alloc, World.size_setCell, World.size_drew] at hz); have hx := hall; (try simp only [allLt, and_true] at hx); obtain ⟨w1, rfl⟩ : ∃ x, x = w2 := ⟨_, rfl⟩; (repeat (go_big_quiet_step (fail))); refine wpQuiet_nil ?_; intro w2 hw'; have hb := grew_below hw'; clear hw'; (first | have hn := nw4 hb hall (by exact zo) | have hn := nw3 hb hall (by exact zo) | have hn := nw2 hb hall (by exact zo) | have hn := nw1 hb hall (by exact zo) | have hn := nw0 hb hall (by exact zo)); obtain ⟨hc, hf, hn, hc0⟩ := hn; replace hall := hn; clear hn; have hz := hb.size; (try simp only [World.size_alloc, World.size_setCell, World.size_drew] at hz); have hx := hall; (try simp only [allLt, and_true] at hx); obtain ⟨w1, rfl⟩ : ∃ x, x = w2 := ⟨_, rfl⟩))
            refine ⟨⟨k + 1, by omega, by go_num, by rw [HBS.out, bLoopL, ← Hsb.out, hmm]; rfl, by have hL := HL2.out; have hLs := hL.size; exact bel⟩, ?_⟩
            simp [intOf]; omega
          · have hm2 : meshable x.p x.c x.b sb.p sb.c sb.b = true := hmm
            go_wp2_with (first | (with_reducible refine wp_region_grew2 (by kernel_rfl) (by kernel_rfl) ?_; intro w2 hb; have hb0 := hb; (first | have hn := nw4 hb hall (by exact zo) | have hn := nw3 hb hall (by exact zo) | have hn := nw2 hb hall (by exact zo) | have hn := nw1 hb hall (by exact zo) | have hn := nw0 hb hall (by exact zo)); obtain ⟨hc, hf, hn, hc0⟩ := hn; replace hall := hn; clear hn; have hz := hb.size; (try simp only [World.size_alloc, World.size_setCell, World.size_drew] at hz); have hx := hall; (try simp only [allLt, and_true] at hx); obtain ⟨w1, rfl⟩ : ∃ x, x = w2 := ⟨_, rfl⟩; skip; (repeat (go_big_quiet_step ((first | (go_at_call 80; (exact calls_grew (i_Meshable _ _ _ _ _ _ _ hm2 _))))))); refine wpQuiet_nil ?_; intro w2 hw'; have hb := grew_below hw'; clear hw'; (first | have hn := nw4 hb hall (by exact zo) | have hn := nw3 hb hall (by exact zo) | have hn := nw2 hb hall (by exact zo) | have hn := nw1 hb hall (by exact zo) | have hn := nw0 hb hall (by exact zo)); obtain ⟨hc, hf, hn, hc0⟩ := hn; replace hall := hn; clear hn; have hz := hb.size; (try simp only [World.size_alloc, World.size_setCell, World.size_drew] at hz); have hx := hall; (try simp only [allLt, and_true] at hx); obtain ⟨w1, rfl⟩ : ∃ x, x = w2 := ⟨_, rfl⟩) | (go_at_call 86; with_reducible refine (l_CloneSp _ r (by omega) _ (HRT.out.below (by have hL := HL2.out; exact bel))).mono ?_; rintro e w2 ⟨cv, rfl, hco, hb⟩; obtain ⟨co, cc, rfl, -, -⟩ := hco.shape; have HCO := Lib.hid hco; have HBC := Lib.hid hb; have hzc := hb.size; clear hco hb; obtain ⟨w3, rfl⟩ : ∃ q, q = w2 := ⟨_, rfl⟩) | (go_at_call 85; with_reducible refine (l_DeleteSp _ r k hkr (by omega) _ HCO.out).mono ?_; rintro e w2 ⟨dv, rfl, hda, hb⟩; obtain ⟨dof, dc, rfl, -, -⟩ := hda.sl.shape; have HDA := Lib.hid hda; have HBD := Lib.hid hb; have hzd := hb.size; clear hda hb; obtain ⟨w4, rfl⟩ : ∃ q, q = w2 := ⟨_, rfl⟩) | (go_at_call 26; with_reducible refine (ih _ (r.eraseIdx k) _ (by rw [List.length_eraseIdx, if_pos hkr]; omega) (by rw [List.length_eraseIdx, if_pos hkr]; omega) HDA.out).mono ?_; rintro e w2 ⟨rfl, hb⟩; obtain ⟨q, hq⟩ : ∃ q, q = bestL d (r.eraseIdx k) := ⟨_, rfl⟩; rw [← hq]; have hq9 : q ≤ r.length := (by rw [hq]; exact Nat.le_trans (bestL_len _ _) (by rw [List.length_eraseIdx]; split <;> omega)); have HQ := Lib.hid hq; clear hq; have HB3 := Lib.hid hb; clear hb) | (with_reducible refine wp_region_grew2 (by kernel_rfl) (by kernel_rfl) ?_; intro w2 hb; (first | have hn := nw4 hb hall (by exact zo) | have hn := nw3 hb hall (by exact zo) | have hn := nw2 hb hall (by exact zo) | have hn := nw1 hb hall (by exact zo) | have hn := nw0 hb hall (by exact zo)); obtain ⟨hc, hf, hn, hc0⟩ := hn; replace hall := hn; clear hn; have hz := hb.size; (try simp only [World.size_alloc, World.size_setCell, World.size_drew] at hz); have hx := hall; (try simp only [allLt, and_true] at hx); obtain ⟨w1, rfl⟩ : ∃ x, x = w2 := ⟨_, rfl⟩; (repeat (go_big_quiet_step (fail))); refine wpQuiet_nil ?_; intro w2 hw'; have hb := grew_below hw'; clear hw'; (first | have hn := nw4 hb hall (by exact zo) | have hn := nw3 hb hall (by exact zo) | have hn := nw2 hb hall (by exact zo) | have hn := nw1 hb hall (by exact zo) | have hn := nw0 hb hall (by exact zo)); obtain ⟨hc, hf, hn, hc0⟩ := hn; replace hall := hn; clear hn; have hz := hb.size; (try simp only [World.size_alloc, World.size_setCell, World.size_drew] at hz); have hx := hall; (try simp only [allLt, and_true] at hx); obtain ⟨w1, rfl⟩ : ∃ x, x = w2 := ⟨_, rfl⟩))
            refine ⟨⟨k + 1, by omega, by go_num, by have e : (bLoopL (bestL d) x r (k + 1)) = max bst (1 + q) := (by rw [bLoopL, ← Hsb.out, hmm, if_pos rfl, ← HQ.out, ← HBS.out]); rw [e]; (first | (split <;> (congr 1; omega)) | (congr 1; split <;> omega) | (congr 1; omega)), by have hL := HL2.out; have hLs := hL.size; have hB2 := HBC.out; have hB3 := HBD.out; have hB4 := HB3.out; exact bel⟩, ?_⟩
            simp [intOf]; omega
        · have hlt' : ¬ (k : Int) < (r.length : Nat) := by omega
          obtain rfl : k = r.length := by omega
          go_wp2_with fail
          go_ret
          exact ⟨by rw [HBS.out]; rfl, HL2.out⟩
theorem i_BestPairs (va : Value) (xs : List Sp) (w : World) (ha : SpansAt w va xs) : Calls Try.prog 26 #[va] w fun e w' => e = .returned (.int .i64 (bestP xs : Nat)) ∧ Below w.heap.size w w' := by
  unfold bestP
  by_cases h10 : 10 < xs.length
  · rw [if_pos h10]
    obtain ⟨ao, ca, rfl, hn, hm, hra⟩ := ha.open
    have h11 : (10 : Int) < xs.length := by omega
    have hle : xs.length ≤ 9223372036854775807 := by unfold maxLen at hm; omega
    clear hra ha hm
    (have hall := all_nil w; go_enter Try.func26, Try.ntmps26)
    go_wp2_with fail
    go_ret
    exact ⟨rfl, Below.refl _ _⟩
  · rw [if_neg h10, ← bestL_all]
    exact i_bestL xs.length va xs w (Nat.le_refl _) (by omega) ha

end Go.Proofs.Ytkdafincnmkjnaa
