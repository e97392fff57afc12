/-
  Pairs between the halves of a shuffled list, both sides.
-/
import Derived.Test.YtkdafincnmkjnaaGreedyS
import Derived.Test.YtkdafincnmkjnaaShuf
set_option linter.unusedVariables false
set_option linter.unusedSimpArgs false
namespace Go.Proofs.Ytkdafincnmkjnaa
open Go.RowKit
def spA (o : List Int) (i : Nat) : Nat := (o.getD i 0).toNat
def spB (o : List Int) (i t : Nat) : Nat := (o.getD (o.length / 2 + (i + t) % (o.length - o.length / 2)) 0).toNat
def spRow (xs : List Sp) (o : List Int) (t : Nat) (out : List Pr) : Nat → List Pr
  | 0 => out
  | m + 1 => gStep xs (spRow xs o t out m) (spA o m) (spB o m t)
def spAll (xs : List Sp) (o : List Int) : Nat → List Pr
  | 0 => []
  | t + 1 => spRow xs o t (spAll xs o t) (o.length / 2)
def splitOk (xs : List Sp) (seed tries : Int) : Bool := !decide (16 < xs.length) && (between tries 0 16 && between seed 0 1073741823)
def splitP (xs : List Sp) (seed tries : Int) : List Pr := if splitOk xs seed tries then spAll xs (shufL seed xs.length) tries.toNat else []
def splitS (xs : List Sp) (seed tries : Int) : Int := if splitOk xs seed tries then shufS seed xs.length else seed
def NewSplit (w : World) (xs : List Sp) (seed tries : Int) (e : Ending) (w' : World) : Prop := ∃ v, e = .returned (.tuple #[v, .int .i64 (splitS xs seed tries)]) ∧ OwnPr w.heap.size w' v (splitP xs seed tries) ∧ Below w.heap.size w w'
theorem splitOk_parts {xs : List Sp} {seed tries : Int} (h : splitOk xs seed tries = true) : xs.length ≤ 16 ∧ between tries 0 16 = true ∧ between seed 0 1073741823 = true := by
  unfold splitOk at h
  simp only [Bool.and_eq_true, Bool.not_eq_true', decide_eq_false_iff_not] at h
  exact ⟨by omega, h.2.1, h.2.2⟩
theorem shuf_keep {n : Nat} : ∀ (j : Nat) (xs : List Int) (s : Int), j + 1 ≤ xs.length ∨ j = 0 → (∀ x ∈ xs, 0 ≤ x ∧ x < n) → (shuf j xs s).1.length = xs.length ∧ ∀ x ∈ (shuf j xs s).1, 0 ≤ x ∧ x < n
  | 0, xs, s, _, h => ⟨rfl, h⟩
  | j + 1, xs, s, hj, h => by
    have hk0 := (chooseK_in (s := s) (n := (j : Int) + 1 + 1) (by omega)).1
    have hk1 := (chooseK_in (s := s) (n := (j : Int) + 1 + 1) (by omega)).2
    have ih := shuf_keep j (swapL xs (j + 1) (chooseK s ((j : Int) + 1 + 1)).toNat) (chooseS s ((j : Int) + 1 + 1)) (.inl (by rw [swapL_len]; omega)) (swapL_in h (by omega) (by omega))
    rw [swapL_len] at ih
    exact ih
theorem shufL_len {s : Int} {n : Nat} (hs : between s 0 1073741823 = true) (hn : n ≤ 64) : (shufL s n).length = n := by
  unfold shufL
  rw [hs, show between (n : Int) 0 64 = true from between_iff.2 (by omega), Bool.true_and, if_pos rfl, Int.toNat_natCast, (shuf_keep (n := n) (n - 1) (upto n) s (by rw [upto_len]; omega) (upto_in n)).1, upto_len]
theorem shufL_in {s : Int} {n : Nat} (hs : between s 0 1073741823 = true) (hn : n ≤ 64) : ∀ x ∈ shufL s n, 0 ≤ x ∧ x < n := by
  unfold shufL
  rw [hs, show between (n : Int) 0 64 = true from between_iff.2 (by omega), Bool.true_and, if_pos rfl, Int.toNat_natCast]
  exact (shuf_keep (n := n) (n - 1) (upto n) s (by rw [upto_len]; omega) (upto_in n)).2
theorem spRow_le (xs : List Sp) (o : List Int) (t : Nat) (out : List Pr) : ∀ m, (spRow xs o t out m).length ≤ out.length + m
  | 0 => Nat.le_refl _
  | m + 1 => by have := spRow_le xs o t out m; have := gStep_le xs (spRow xs o t out m) (spA o m) (spB o m t); rw [spRow]; omega
theorem spAll_le (xs : List Sp) (o : List Int) (h : o.length ≤ 16) : ∀ t, (spAll xs o t).length ≤ t * 8
  | 0 => Nat.le_refl _
  | t + 1 => by have := spAll_le xs o h t; have := spRow_le xs o t (spAll xs o t) (o.length / 2); rw [spAll]; omega
theorem spAll_zero (xs : List Sp) (o : List Int) (h : o = []) : ∀ t, spAll xs o t = []
  | 0 => rfl
  | t + 1 => by rw [spAll, spAll_zero xs o h t, h]; rfl
set_option maxRecDepth 20000 in
set_option maxHeartbeats 3200000 in
theorem i_SplitPairs (va : Value) (xs : List Sp) (seed tries : Int) (w : World) (ha : SpansAt w va xs) : Calls Try.prog 39 #[va, .int .i64 seed, .int .i64 tries] w (NewSplit w xs seed tries) := by
  obtain ⟨ao, ca, rfl, hn, hm, hra⟩ := ha.open
  have hle : xs.length ≤ 9223372036854775807 := by unfold maxLen at hm; omega
  clear hm
  have HA := Lib.hid hra; clear hra ha
  unfold NewSplit
  cases hok : splitOk xs seed tries
  · rw [show splitP xs seed tries = [] by unfold splitP; rw [hok]; rfl, show splitS xs seed tries = seed by unfold splitS; rw [hok]; rfl]
    unfold splitOk at hok
    by_cases h16 : 16 < xs.length
    · have h17 : (16 : Int) < xs.length := by omega
      (have hall := all_nil w; go_enter Try.func39, Try.ntmps39)
      go_wp2_with (first | (go_at_call 93; (first | (refine (i_seedOk _ true (by assumption) _).mono ?_) | (refine (i_seedOk _ false (by assumption) _).mono ?_) | (refine (i_seedOk _ _ rfl _).mono ?_)); rintro e w2 ⟨rfl, rfl⟩) | (go_at_call 90; (first | (refine (i_between _ _ _ true (by assumption) _).mono ?_) | (refine (i_between _ _ _ false (by assumption) _).mono ?_) | (refine (i_between _ _ _ _ rfl _).mono ?_)); rintro e w2 ⟨rfl, rfl⟩) | (with_reducible refine wp_region_grew2 (by kernel_rfl) (by kernel_rfl) ?_; intro w2 hb; (first | have hn := nw4 hb hall (by exact zo) | have hn := nw3 hb hall (by exact zo) | have hn := nw2 hb hall (by exact zo) | have hn := nw1 hb hall (by exact zo) | have hn := nw0 hb hall (by exact zo)); obtain ⟨hc, hf, hn, hc0⟩ := hn; replace hall := hn; clear hn; have hz := hb.size; (try simp only [World.size_alloc, World.size_setCell, World.size_drew] at hz); have hx := hall; (try simp only [allLt, and_true] at hx); obtain ⟨w1, rfl⟩ : ∃ x, x = w2 := ⟨_, rfl⟩; (repeat (go_big_quiet_step (first | (go_at_call 93; first | exact calls_same (i_seedOk _ true (by assumption) _) | exact calls_same (i_seedOk _ false (by assumption) _) | exact calls_same (i_seedOk _ _ rfl _)) | (go_at_call 90; first | exact calls_same (i_between _ _ _ true (by assumption) _) | exact calls_same (i_between _ _ _ false (by assumption) _) | exact calls_same (i_between _ _ _ _ rfl _))))); refine wpQuiet_nil ?_; intro w2 hw'; have hb := grew_below hw'; clear hw'; (first | have hn := nw4 hb hall (by exact zo) | have hn := nw3 hb hall (by exact zo) | have hn := nw2 hb hall (by exact zo) | have hn := nw1 hb hall (by exact zo) | have hn := nw0 hb hall (by exact zo)); obtain ⟨hc, hf, hn, hc0⟩ := hn; replace hall := hn; clear hn; have hz := hb.size; (try simp only [World.size_alloc, World.size_setCell, World.size_drew] at hz); have hx := hall; (try simp only [allLt, and_true] at hx); obtain ⟨w1, rfl⟩ : ∃ x, x = w2 := ⟨_, rfl⟩))
      go_ret2
      exact ⟨_, rfl, Own.nil _ _ _ _ _, by exact bel⟩
    · have h17 : ¬ (16 : Int) < xs.length := by omega
      cases c1 : between tries 0 16
      · (have hall := all_nil w; go_enter Try.func39, Try.ntmps39)
        go_wp2_with (first | (go_at_call 93; (first | (refine (i_seedOk _ true (by assumption) _).mono ?_) | (refine (i_seedOk _ false (by assumption) _).mono ?_) | (refine (i_seedOk _ _ rfl _).mono ?_)); rintro e w2 ⟨rfl, rfl⟩) | (go_at_call 90; (first | (refine (i_between _ _ _ true (by assumption) _).mono ?_) | (refine (i_between _ _ _ false (by assumption) _).mono ?_) | (refine (i_between _ _ _ _ rfl _).mono ?_)); rintro e w2 ⟨rfl, rfl⟩) | (with_reducible refine wp_region_grew2 (by kernel_rfl) (by kernel_rfl) ?_; intro w2 hb; (first | have hn := nw4 hb hall (by exact zo) | have hn := nw3 hb hall (by exact zo) | have hn := nw2 hb hall (by exact zo) | have hn := nw1 hb hall (by exact zo) | have hn := nw0 hb hall (by exact zo)); obtain ⟨hc, hf, hn, hc0⟩ := hn; replace hall := hn; clear hn; have hz := hb.size; (try simp only [World.size_alloc, World.size_setCell, World.size_drew] at hz); have hx := hall; (try simp only [allLt, and_true] at hx); obtain ⟨w1, rfl⟩ : ∃ x, x = w2 := ⟨_, rfl⟩; (repeat (go_big_quiet_step (first | (go_at_call 93; first | exact calls_same (i_seedOk _ true (by assumption) _) | exact calls_same (i_seedOk _ false (by assumption) _) | exact calls_same (i_seedOk _ _ rfl _)) | (go_at_call 90; first | exact calls_same (i_between _ _ _ true (by assumption) _) | exact calls_same (i_between _ _ _ false (by assumption) _) | exact calls_same (i_between _ _ _ _ rfl _))))); refine wpQuiet_nil ?_; intro w2 hw'; have hb := grew_below hw'; clear hw'; (first | have hn := nw4 hb hall (by exact zo) | have hn := nw3 hb hall (by exact zo) | have hn := nw2 hb hall (by exact zo) | have hn := nw1 hb hall (by exact zo) | have hn := nw0 hb hall (by exact zo)); obtain ⟨hc, hf, hn, hc0⟩ := hn; replace hall := hn; clear hn; have hz := hb.size; (try simp only [World.size_alloc, World.size_setCell, World.size_drew] at hz); have hx := hall; (try simp only [allLt, and_true] at hx); obtain ⟨w1, rfl⟩ : ∃ x, x = w2 := ⟨_, rfl⟩))
        go_ret2
        exact ⟨_, rfl, Own.nil _ _ _ _ _, by exact bel⟩
      · cases c2 : between seed 0 1073741823
        · (have hall := all_nil w; go_enter Try.func39, Try.ntmps39)
          go_wp2_with (first | (go_at_call 93; (first | (refine (i_seedOk _ true (by assumption) _).mono ?_) | (refine (i_seedOk _ false (by assumption) _).mono ?_) | (refine (i_seedOk _ _ rfl _).mono ?_)); rintro e w2 ⟨rfl, rfl⟩) | (go_at_call 90; (first | (refine (i_between _ _ _ true (by assumption) _).mono ?_) | (refine (i_between _ _ _ false (by assumption) _).mono ?_) | (refine (i_between _ _ _ _ rfl _).mono ?_)); rintro e w2 ⟨rfl, rfl⟩) | (with_reducible refine wp_region_grew2 (by kernel_rfl) (by kernel_rfl) ?_; intro w2 hb; (first | have hn := nw4 hb hall (by exact zo) | have hn := nw3 hb hall (by exact zo) | have hn := nw2 hb hall (by exact zo) | have hn := nw1 hb hall (by exact zo) | have hn := nw0 hb hall (by exact zo)); obtain ⟨hc, hf, hn, hc0⟩ := hn; replace hall := hn; clear hn; have hz := hb.size; (try simp only [World.size_alloc, World.size_setCell, World.size_drew] at hz); have hx := hall; (try simp only [allLt, and_true] at hx); obtain ⟨w1, rfl⟩ : ∃ x, x = w2 := ⟨_, rfl⟩; (repeat (go_big_quiet_step (first | (go_at_call 93; first | exact calls_same (i_seedOk _ true (by assumption) _) | exact calls_same (i_seedOk _ false (by assumption) _) | exact calls_same (i_seedOk _ _ rfl _)) | (go_at_call 90; first | exact calls_same (i_between _ _ _ true (by assumption) _) | exact calls_same (i_between _ _ _ false (by assumption) _) | exact calls_same (i_between _ _ _ _ rfl _))))); refine wpQuiet_nil ?_; intro w2 hw'; have hb := grew_below hw'; clear hw'; (first | have hn := nw4 hb hall (by exact zo) | have hn := nw3 hb hall (by exact zo) | have hn := nw2 hb hall (by exact zo) | have hn := nw1 hb hall (by exact zo) | have hn := nw0 hb hall (by exact zo)); obtain ⟨hc, hf, hn, hc0⟩ := hn; replace hall := hn; clear hn; have hz := hb.size; (try simp only [World.size_alloc, World.size_setCell, World.size_drew] at hz); have hx := hall; (try simp only [allLt, and_true] at hx); obtain ⟨w1, rfl⟩ : ∃ x, x = w2 := ⟨_, rfl⟩))
          go_ret2
          exact ⟨_, rfl, Own.nil _ _ _ _ _, by exact bel⟩
        · rw [c1, c2] at hok
          simp at hok
          omega
  · obtain ⟨h16, c1, c2⟩ := splitOk_parts hok
    have h17 : ¬ (16 : Int) < xs.length := by omega
    have bt := between_iff.1 c1
    obtain ⟨T, rfl⟩ := Int.eq_ofNat_of_zero_le bt.1
    have hT : T ≤ 16 := by omega
    have HR : Hid (splitP xs seed (T : Int) = spAll xs (shufL seed xs.length) T ∧ splitS xs seed (T : Int) = shufS seed xs.length) := by unfold Hid splitP splitS; rw [hok]; simp
    rw [HR.out.1, HR.out.2]
    have hol := shufL_len c2 (show xs.length ≤ 64 by omega)
    have hoi := shufL_in c2 (show xs.length ≤ 64 by omega)
    have HOL := Lib.hid hol; have HOI := Lib.hid hoi
    clear bt hok hol hoi
    (have hall := all_nil w; go_enter Try.func39, Try.ntmps39)
    go_wp2_with (first | (go_at_call 94; (refine (i_Shuffled _ _ _).mono ?_; rintro e w2 ⟨ov, rfl, hown, hb⟩; obtain ⟨vo, vc, rfl, hvl, -, hvb⟩ := hown.shape; rw [HOL.out] at hvl; (try rw [HOL.out]); have HQO := Lib.hid hown; have HB := Lib.hid hb; obtain ⟨w1, rfl⟩ : ∃ x, x = w2 := ⟨_, rfl⟩; clear hown hb)) | (go_at_call 93; (first | (refine (i_seedOk _ true (by assumption) _).mono ?_) | (refine (i_seedOk _ false (by assumption) _).mono ?_) | (refine (i_seedOk _ _ rfl _).mono ?_)); rintro e w2 ⟨rfl, rfl⟩) | (go_at_call 90; (first | (refine (i_between _ _ _ true (by assumption) _).mono ?_) | (refine (i_between _ _ _ false (by assumption) _).mono ?_) | (refine (i_between _ _ _ _ rfl _).mono ?_)); rintro e w2 ⟨rfl, rfl⟩) | (with_reducible refine wp_region_grew2 (by kernel_rfl) (by kernel_rfl) ?_; intro w2 hb; (first | have hn := nw4 hb hall (by exact zo) | have hn := nw3 hb hall (by exact zo) | have hn := nw2 hb hall (by exact zo) | have hn := nw1 hb hall (by exact zo) | have hn := nw0 hb hall (by exact zo)); obtain ⟨hc, hf, hn, hc0⟩ := hn; replace hall := hn; clear hn; have hz := hb.size; (try simp only [World.size_alloc, World.size_setCell, World.size_drew] at hz); have hx := hall; (try simp only [allLt, and_true] at hx); obtain ⟨w1, rfl⟩ : ∃ x, x = w2 := ⟨_, rfl⟩; (repeat (go_big_quiet_step (first | (go_at_call 93; first | exact calls_same (i_seedOk _ true (by assumption) _) | exact calls_same (i_seedOk _ false (by assumption) _) | exact calls_same (i_seedOk _ _ rfl _)) | (go_at_call 90; first | exact calls_same (i_between _ _ _ true (by assumption) _) | exact calls_same (i_between _ _ _ false (by assumption) _) | exact calls_same (i_between _ _ _ _ rfl _))))); refine wpQuiet_nil ?_; intro w2 hw'; have hb := grew_below hw'; clear hw'; (first | have hn := nw4 hb hall (by exact zo) | have hn := nw3 hb hall (by exact zo) | have hn := nw2 hb hall (by exact zo) | have hn := nw1 hb hall (by exact zo) | have hn := nw0 hb hall (by exact zo)); obtain ⟨hc, hf, hn, hc0⟩ := hn; replace hall := hn; clear hn; have hz := hb.size; (try simp only [World.size_alloc, World.size_setCell, World.size_drew] at hz); have hx := hall; (try simp only [allLt, and_true] at hx); obtain ⟨w1, rfl⟩ : ∃ x, x = w2 := ⟨_, rfl⟩))
    obtain ⟨hv, hhv⟩ : ∃ h, h = xs.length / 2 := ⟨_, rfl⟩
    have e2 : ((xs.length : Nat) : Int) / 2 = (hv : Int) := by omega
    have q1 : (0 : Int) ≤ (hv : Int) := by omega
    have q2 : (hv : Int) ≤ (vc : Int) := by omega
    have q3 : (hv : Int) ≤ ((xs.length : Nat) : Int) := by omega
    have q4 : hv ≤ xs.length := by omega
    have q5 : hv ≤ vc := by omega
    have HHV := Lib.hid hhv; clear hhv
    rcases Nat.eq_zero_or_pos xs.length with h0 | hpos
    · obtain rfl : xs = [] := List.eq_nil_of_length_eq_zero h0
      have hv0 : hv = 0 := by have := HHV.out; simpa using this
      subst hv0
      have HZ := Lib.hid (spAll_zero [] (shufL seed (([] : List Sp).length : Nat)) (by have := HOL.out; simpa using this))
      have HBz := HB.out
      have hbz := HBz.size
      obtain ⟨wo, rfl⟩ : ∃ x, x = w1 := ⟨_, rfl⟩
      clear e2 HQO HA
      rcases hvb with rfl | ⟨g, rfl, hgB, hg⟩
      all_goals go_wp2_with (first | (with_reducible refine wp_region_grew2 (by kernel_rfl) (by kernel_rfl) ?_; intro w2 hb; (first | have hn := nw4 hb hall (by exact zo) | have hn := nw3 hb hall (by exact zo) | have hn := nw2 hb hall (by exact zo) | have hn := nw1 hb hall (by exact zo) | have hn := nw0 hb hall (by exact zo)); obtain ⟨hc, hf, hn, hc0⟩ := hn; replace hall := hn; clear hn; have hz := hb.size; (try simp only [World.size_alloc, World.size_setCell, World.size_drew] at hz); have hx := hall; (try simp only [allLt, and_true] at hx); obtain ⟨w1, rfl⟩ : ∃ x, x = w2 := ⟨_, rfl⟩; (repeat (go_big_quiet_step (fail))); refine wpQuiet_nil ?_; intro w2 hw'; have hb := grew_below hw'; clear hw'; (first | have hn := nw4 hb hall (by exact zo) | have hn := nw3 hb hall (by exact zo) | have hn := nw2 hb hall (by exact zo) | have hn := nw1 hb hall (by exact zo) | have hn := nw0 hb hall (by exact zo)); obtain ⟨hc, hf, hn, hc0⟩ := hn; replace hall := hn; clear hn; have hz := hb.size; (try simp only [World.size_alloc, World.size_setCell, World.size_drew] at hz); have hx := hall; (try simp only [allLt, and_true] at hx); obtain ⟨w1, rfl⟩ : ∃ x, x = w2 := ⟨_, rfl⟩))
      all_goals go_loopw [13, 14] (fun s i wr => ∃ t : Nat, t ≤ T ∧ i = .int .i64 t ∧ OwnPr w.heap.size wr s [] ∧ Below w.heap.size w wr) (fun _ i _ => T - (intOf i).toNat)
      case atStart => exact ⟨0, Nat.zero_le _, rfl, Own.empty' _ _ _ _ _ _ rfl (by exact zo), by exact bel⟩
      rotate_left
      case atStart => exact ⟨0, Nat.zero_le _, rfl, Own.empty' _ _ _ _ _ _ rfl (by exact zo), by exact bel⟩
      all_goals (
        obtain ⟨t, ht, rfl, hown, hbel⟩ := hrel
        have HL := Lib.hid hbel; have hsz := hbel.size; have OV := Lib.hid hown
        clear hown hbel
        rcases Nat.lt_or_ge t T with hlt | hlt
        · have hlt' : (t : Int) < T := by omega
          go_wp2_with fail
          refine wp_loop_rounds 1 ?_
          rw [rounds_succ]
          go_wp2_with fail
          go_roundw
          case rel => exact ⟨t + 1, by omega, by go_num, OV.out, HL.out⟩
          case measure => simp [intOf]; omega
        · have hlt' : ¬ (t : Int) < T := by omega
          obtain rfl : t = T := by omega
          go_wp2_with fail
          go_ret2
          exact ⟨_, rfl, (show OwnPr w.heap.size wr _ (spAll [] (shufL seed (([] : List Sp).length : Nat)) t) from by rw [HZ.out]; exact OV.out), HL.out⟩)
    · obtain ⟨g, gc, he, hgB, hg⟩ := Own.addr HQO.out (by rw [HOL.out]; exact hpos)
      simp only [Value.slice.injEq] at he
      obtain ⟨rfl, -, rfl⟩ := he
      clear hvb
      obtain ⟨wo, rfl⟩ : ∃ x, x = w1 := ⟨_, rfl⟩
      go_wp2_with (first | (with_reducible refine wp_region_grew2 (by kernel_rfl) (by kernel_rfl) ?_; intro w2 hb; (first | have hn := nw4 hb hall (by exact zo) | have hn := nw3 hb hall (by exact zo) | have hn := nw2 hb hall (by exact zo) | have hn := nw1 hb hall (by exact zo) | have hn := nw0 hb hall (by exact zo)); obtain ⟨hc, hf, hn, hc0⟩ := hn; replace hall := hn; clear hn; have hz := hb.size; (try simp only [World.size_alloc, World.size_setCell, World.size_drew] at hz); have hx := hall; (try simp only [allLt, and_true] at hx); obtain ⟨w1, rfl⟩ : ∃ x, x = w2 := ⟨_, rfl⟩; (repeat (go_big_quiet_step (fail))); refine wpQuiet_nil ?_; intro w2 hw'; have hb := grew_below hw'; clear hw'; (first | have hn := nw4 hb hall (by exact zo) | have hn := nw3 hb hall (by exact zo) | have hn := nw2 hb hall (by exact zo) | have hn := nw1 hb hall (by exact zo) | have hn := nw0 hb hall (by exact zo)); obtain ⟨hc, hf, hn, hc0⟩ := hn; replace hall := hn; clear hn; have hz := hb.size; (try simp only [World.size_alloc, World.size_setCell, World.size_drew] at hz); have hx := hall; (try simp only [allLt, and_true] at hx); obtain ⟨w1, rfl⟩ : ∃ x, x = w2 := ⟨_, rfl⟩))
      obtain ⟨wb, rfl⟩ : ∃ x, x = w1 := ⟨_, rfl⟩
      replace hb : Below wo.heap.size wo wb := by exact bel
      replace HB := Lib.hid (HB.out.trans (hb.mono HB.out.size))
      replace HQO := Lib.hid (HQO.out.below hb)
      replace hg : g < wb.heap.size := Nat.lt_of_lt_of_le hg hb.size
      clear hb hc hf hc0
      obtain ⟨r, hr⟩ : ∃ r, r = xs.length - hv := ⟨_, rfl⟩
      have hr0 : r + hv = xs.length ∧ 1 ≤ r := by have := HHV.out; omega
      have HRR := Lib.hid hr0
      rw [← hr]
      have hr1 : (1 : Int) ≤ (r : Int) := by omega
      have hr9 : (r : Int) ≤ 16 := by omega
      have hv16 : (hv : Int) ≤ 16 := by omega
      clear hr hr0 e2 q1 q2 q3
      have hle5 := spAll_le xs (shufL seed xs.length) (by rw [HOL.out]; exact h16)
      have HGA := Lib.hid hle5; clear hle5
      go_loopw [13, 14] (fun s i wr => ∃ (t : Nat) (vo : Option Addr) (vd : Nat), t ≤ T ∧ i = .int .i64 t ∧ s = .slice vo (spAll xs (shufL seed xs.length) t).length vd ∧ OwnPr wb.heap.size wr (.slice vo (spAll xs (shufL seed xs.length) t).length vd) (spAll xs (shufL seed xs.length) t) ∧ Below wb.heap.size wb wr) (fun _ i _ => T - (intOf i).toNat)
      case atStart => exact ⟨0, _, _, Nat.zero_le _, rfl, rfl, Own.empty' _ _ _ _ _ _ rfl (Nat.le_refl _), by exact bel⟩
      case round =>
        obtain ⟨t, vo, vd, ht, rfl, rfl, hown, hbel⟩ := hrel
        have HL := Lib.hid hbel; have hsz := hbel.size; clear hbel
        have OV := Lib.hid hown; clear hown
        by_cases hlt : t < T
        · have hlt' : (t : Int) < T := by omega
          go_wp2_with fail
          go_loopw [13, 55] (fun s i wr => ∃ (m : Nat) (vo : Option Addr) (vd : Nat), m ≤ hv ∧ i = .int .i64 m ∧ s = .slice vo (spRow xs (shufL seed xs.length) t (spAll xs (shufL seed xs.length) t) m).length vd ∧ OwnPr wb.heap.size wr (.slice vo (spRow xs (shufL seed xs.length) t (spAll xs (shufL seed xs.length) t) m).length vd) (spRow xs (shufL seed xs.length) t (spAll xs (shufL seed xs.length) t) m) ∧ Below wb.heap.size wb wr) (fun _ i _ => hv - (intOf i).toNat)
          case atStart =>
            have hL := HL.out; have hLs := hL.size
            exact ⟨0, vo, vd, Nat.zero_le _, rfl, rfl, Own.below OV.out (by exact bel), by exact bel⟩
          case round =>
            clear OV
            obtain ⟨m, vo, vd, hm, rfl, rfl, hown, hbel⟩ := hrel
            have HL2 := Lib.hid hbel; have hsz2 := hbel.size; clear hbel
            have OV := Lib.hid hown; clear hown
            have hlo : (spRow xs (shufL seed xs.length) t (spAll xs (shufL seed xs.length) t) m).length ≤ 512 := by have h1 := HGA.out t; have h2 := spRow_le xs (shufL seed xs.length) t (spAll xs (shufL seed xs.length) t) m; omega
            by_cases hlm : m < hv
            · have hlm' : (m : Int) < hv := by omega
              obtain ⟨q, hq⟩ : ∃ q, q = (m + t) % r := ⟨_, rfl⟩
              have hqr : q < r := by rw [hq]; exact Nat.mod_lt _ (by omega)
              have e3 : ((m : Int) + (t : Int)) % (r : Int) = (q : Int) := by rw [hq, Int.natCast_emod, Int.natCast_add]
              obtain ⟨ya, hya⟩ := getx (xs := (shufL seed xs.length)) (k := m) (by rw [HOL.out]; have := HRR.out; omega)
              obtain ⟨yb, hyb⟩ := getx (xs := (shufL seed xs.length)) (k := hv + q) (by rw [HOL.out]; have := HRR.out; omega)
              have ia := HOI.out ya (List.mem_of_getElem? hya); have ib := HOI.out yb (List.mem_of_getElem? hyb)
              obtain ⟨ka, rfl⟩ := Int.eq_ofNat_of_zero_le ia.1
              obtain ⟨kb, rfl⟩ := Int.eq_ofNat_of_zero_le ib.1
              obtain ⟨-, -, f1, -⟩ := OwnI.slotI HQO.out hya
              obtain ⟨-, -, f2, -⟩ := OwnI.slotI HQO.out hyb
              replace f1 := (HL2.out.cell (p := ⟨g, m, none⟩) hg).trans f1
              replace f2 := (HL2.out.cell (p := ⟨g, hv + q, none⟩) hg).trans f2
              have HG : Hid (spRow xs (shufL seed xs.length) t (spAll xs (shufL seed xs.length) t) (m + 1) = gStep xs (spRow xs (shufL seed xs.length) t (spAll xs (shufL seed xs.length) t) m) ka kb) := by
                unfold Hid
                have h1 : spA (shufL seed xs.length) m = ka := by unfold spA; rw [getD_of hya, Int.toNat_natCast]
                have h2 : spB (shufL seed xs.length) m t = kb := by unfold spB; rw [HOL.out, ← HHV.out, show xs.length - hv = r by have := HRR.out; omega, ← hq, getD_of hyb, Int.toNat_natCast]
                rw [spRow, h1, h2]
              have hka : ka < xs.length := by omega
              have hkb : kb < xs.length := by omega
              have hka' : (ka : Int) < xs.length := by omega
              have hkb' : (kb : Int) < xs.length := by omega
              have hqI : (q : Int) < r := by omega
              have hgr : g < wr.heap.size := by omega
              clear hya hyb ia ib hq
              have HL3 := Lib.hid (HB.out.trans (HL2.out.mono HB.out.size))
              generalize spRow xs (shufL seed xs.length) t (spAll xs (shufL seed xs.length) t) m = out at *
              obtain ⟨gaa, oaa, haoaa, hgaa, aa0, aa1, aa2⟩ := HA.out ka hka
              subst haoaa
              replace aa0 := (HL3.out.cell (p := ⟨gaa, oaa + ka * 3, none⟩) (by first | exact hgaa | assumption)).trans aa0
              replace aa1 := (HL3.out.cell (p := ⟨gaa, oaa + ka * 3 + 1, none⟩) (by first | exact hgaa | assumption)).trans aa1
              replace aa2 := (HL3.out.cell (p := ⟨gaa, oaa + ka * 3 + 2, none⟩) (by first | exact hgaa | assumption)).trans aa2
              obtain ⟨aa, heaa⟩ : ∃ x, x = xs.getD ka default := ⟨_, rfl⟩
              rw [← heaa] at aa0 aa1 aa2
              have Haa := Lib.hid heaa; clear heaa
              obtain ⟨gb, ob, haob, hgb, b0, b1, b2⟩ := HA.out kb hkb
              (simp only [Option.some.injEq, Addr.mk.injEq, and_true] at haob; obtain ⟨rfl, rfl⟩ := haob)
              replace b0 := (HL3.out.cell (p := ⟨gaa, oaa + kb * 3, none⟩) (by first | exact hgb | assumption)).trans b0
              replace b1 := (HL3.out.cell (p := ⟨gaa, oaa + kb * 3 + 1, none⟩) (by first | exact hgb | assumption)).trans b1
              replace b2 := (HL3.out.cell (p := ⟨gaa, oaa + kb * 3 + 2, none⟩) (by first | exact hgb | assumption)).trans b2
              obtain ⟨b, heb⟩ : ∃ x, x = xs.getD kb default := ⟨_, rfl⟩
              rw [← heb] at b0 b1 b2
              have Hb := Lib.hid heb; clear heb
              (obtain ⟨w1, rfl⟩ : ∃ x, x = wr := ⟨_, rfl⟩; have hall : allLt [g, gaa] w1.heap.size := ⟨by omega, by omega, trivial⟩; have hx := hall; (try simp only [allLt, and_true] at hx))
              cases hta : takenB out ka
              rotate_left
              · go_wp2_with (first | (with_reducible refine wp_region_grew2 (by kernel_rfl) (by kernel_rfl) ?_; intro w2 hb; have hb0 := hb; (first | have hn := nw4 hb hall (by exact zo) | have hn := nw3 hb hall (by exact zo) | have hn := nw2 hb hall (by exact zo) | have hn := nw1 hb hall (by exact zo) | have hn := nw0 hb hall (by exact zo)); obtain ⟨hc, hf, hn, hc0⟩ := hn; replace hall := hn; clear hn; have hz := hb.size; (try simp only [World.size_alloc, World.size_setCell, World.size_drew] at hz); have hx := hall; (try simp only [allLt, and_true] at hx); obtain ⟨w1, rfl⟩ : ∃ x, x = w2 := ⟨_, rfl⟩; have PA := Own.at (Own.below OV.out (w' := w1) (by exact bel)) lenPr; (repeat (go_big_quiet_step ((first | (go_at_call 91; with_reducible exact calls_grew (i_taken _ _ _ _ hta _ (SlAt.below PA (Grew.below _)))))))); refine wpQuiet_nil ?_; intro w2 hw'; have hb := grew_below hw'; clear hw'; (first | have hn := nw4 hb hall (by exact zo) | have hn := nw3 hb hall (by exact zo) | have hn := nw2 hb hall (by exact zo) | have hn := nw1 hb hall (by exact zo) | have hn := nw0 hb hall (by exact zo)); obtain ⟨hc, hf, hn, hc0⟩ := hn; replace hall := hn; clear hn; have hz := hb.size; (try simp only [World.size_alloc, World.size_setCell, World.size_drew] at hz); have hx := hall; (try simp only [allLt, and_true] at hx); obtain ⟨w1, rfl⟩ : ∃ x, x = w2 := ⟨_, rfl⟩) | (with_reducible refine wp_region_grew2 (by kernel_rfl) (by kernel_rfl) ?_; intro w2 hb; (first | have hn := nw4 hb hall (by exact zo) | have hn := nw3 hb hall (by exact zo) | have hn := nw2 hb hall (by exact zo) | have hn := nw1 hb hall (by exact zo) | have hn := nw0 hb hall (by exact zo)); obtain ⟨hc, hf, hn, hc0⟩ := hn; replace hall := hn; clear hn; have hz := hb.size; (try simp only [World.size_alloc, World.size_setCell, World.size_drew] at hz); have hx := hall; (try simp only [allLt, and_true] at hx); obtain ⟨w1, rfl⟩ : ∃ x, x = w2 := ⟨_, rfl⟩; (repeat (go_big_quiet_step (fail))); refine wpQuiet_nil ?_; intro w2 hw'; have hb := grew_below hw'; clear hw'; (first | have hn := nw4 hb hall (by exact zo) | have hn := nw3 hb hall (by exact zo) | have hn := nw2 hb hall (by exact zo) | have hn := nw1 hb hall (by exact zo) | have hn := nw0 hb hall (by exact zo)); obtain ⟨hc, hf, hn, hc0⟩ := hn; replace hall := hn; clear hn; have hz := hb.size; (try simp only [World.size_alloc, World.size_setCell, World.size_drew] at hz); have hx := hall; (try simp only [allLt, and_true] at hx); obtain ⟨w1, rfl⟩ : ∃ x, x = w2 := ⟨_, rfl⟩))
                go_roundw
                case rel =>
                  have hL := HL2.out; have hLs := hL.size
                  exact ⟨m + 1, vo, vd, by omega, by go_num, by rw [HG.out, gStep_1 _ _ _ _ hta], by rw [HG.out, gStep_1 _ _ _ _ hta]; exact (Own.below OV.out (by exact bel)), by exact bel⟩
                case measure => simp [intOf]; omega
              cases htb : takenB out kb
              rotate_left
              · go_wp2_with (first | (with_reducible refine wp_region_grew2 (by kernel_rfl) (by kernel_rfl) ?_; intro w2 hb; have hb0 := hb; (first | have hn := nw4 hb hall (by exact zo) | have hn := nw3 hb hall (by exact zo) | have hn := nw2 hb hall (by exact zo) | have hn := nw1 hb hall (by exact zo) | have hn := nw0 hb hall (by exact zo)); obtain ⟨hc, hf, hn, hc0⟩ := hn; replace hall := hn; clear hn; have hz := hb.size; (try simp only [World.size_alloc, World.size_setCell, World.size_drew] at hz); have hx := hall; (try simp only [allLt, and_true] at hx); obtain ⟨w1, rfl⟩ : ∃ x, x = w2 := ⟨_, rfl⟩; have PA := Own.at (Own.below OV.out (w' := w1) (by exact bel)) lenPr; (repeat (go_big_quiet_step ((first | (go_at_call 91; with_reducible exact calls_grew (i_taken _ _ _ _ hta _ (SlAt.below PA (Grew.below _)))) | (go_at_call 91; with_reducible exact calls_grew (i_taken _ _ _ _ htb _ (SlAt.below PA (Grew.below _)))))))); refine wpQuiet_nil ?_; intro w2 hw'; have hb := grew_below hw'; clear hw'; (first | have hn := nw4 hb hall (by exact zo) | have hn := nw3 hb hall (by exact zo) | have hn := nw2 hb hall (by exact zo) | have hn := nw1 hb hall (by exact zo) | have hn := nw0 hb hall (by exact zo)); obtain ⟨hc, hf, hn, hc0⟩ := hn; replace hall := hn; clear hn; have hz := hb.size; (try simp only [World.size_alloc, World.size_setCell, World.size_drew] at hz); have hx := hall; (try simp only [allLt, and_true] at hx); obtain ⟨w1, rfl⟩ : ∃ x, x = w2 := ⟨_, rfl⟩) | (with_reducible refine wp_region_grew2 (by kernel_rfl) (by kernel_rfl) ?_; intro w2 hb; (first | have hn := nw4 hb hall (by exact zo) | have hn := nw3 hb hall (by exact zo) | have hn := nw2 hb hall (by exact zo) | have hn := nw1 hb hall (by exact zo) | have hn := nw0 hb hall (by exact zo)); obtain ⟨hc, hf, hn, hc0⟩ := hn; replace hall := hn; clear hn; have hz := hb.size; (try simp only [World.size_alloc, World.size_setCell, World.size_drew] at hz); have hx := hall; (try simp only [allLt, and_true] at hx); obtain ⟨w1, rfl⟩ : ∃ x, x = w2 := ⟨_, rfl⟩; (repeat (go_big_quiet_step (fail))); refine wpQuiet_nil ?_; intro w2 hw'; have hb := grew_below hw'; clear hw'; (first | have hn := nw4 hb hall (by exact zo) | have hn := nw3 hb hall (by exact zo) | have hn := nw2 hb hall (by exact zo) | have hn := nw1 hb hall (by exact zo) | have hn := nw0 hb hall (by exact zo)); obtain ⟨hc, hf, hn, hc0⟩ := hn; replace hall := hn; clear hn; have hz := hb.size; (try simp only [World.size_alloc, World.size_setCell, World.size_drew] at hz); have hx := hall; (try simp only [allLt, and_true] at hx); obtain ⟨w1, rfl⟩ : ∃ x, x = w2 := ⟨_, rfl⟩))
                go_roundw
                case rel =>
                  have hL := HL2.out; have hLs := hL.size
                  exact ⟨m + 1, vo, vd, by omega, by go_num, by rw [HG.out, gStep_2 _ _ _ _ htb], by rw [HG.out, gStep_2 _ _ _ _ htb]; exact (Own.below OV.out (by exact bel)), by exact bel⟩
                case measure => simp [intOf]; omega
              cases hmm : meshS aa b
              · have hm2 : meshable aa.p aa.c aa.b b.p b.c b.b = false := hmm
                go_wp2_with (first | (with_reducible refine wp_region_grew2 (by kernel_rfl) (by kernel_rfl) ?_; intro w2 hb; have hb0 := hb; (first | have hn := nw4 hb hall (by exact zo) | have hn := nw3 hb hall (by exact zo) | have hn := nw2 hb hall (by exact zo) | have hn := nw1 hb hall (by exact zo) | have hn := nw0 hb hall (by exact zo)); obtain ⟨hc, hf, hn, hc0⟩ := hn; replace hall := hn; clear hn; have hz := hb.size; (try simp only [World.size_alloc, World.size_setCell, World.size_drew] at hz); have hx := hall; (try simp only [allLt, and_true] at hx); obtain ⟨w1, rfl⟩ : ∃ x, x = w2 := ⟨_, rfl⟩; have PA := Own.at (Own.below OV.out (w' := w1) (by exact bel)) lenPr; (repeat (go_big_quiet_step ((first | (go_at_call 91; with_reducible exact calls_grew (i_taken _ _ _ _ hta _ (SlAt.below PA (Grew.below _)))) | (go_at_call 91; with_reducible exact calls_grew (i_taken _ _ _ _ htb _ (SlAt.below PA (Grew.below _)))) | (go_at_call 80; (exact calls_grew (i_Meshable _ _ _ _ _ _ _ hm2 _))))))); refine wpQuiet_nil ?_; intro w2 hw'; have hb := grew_below hw'; clear hw'; (first | have hn := nw4 hb hall (by exact zo) | have hn := nw3 hb hall (by exact zo) | have hn := nw2 hb hall (by exact zo) | have hn := nw1 hb hall (by exact zo) | have hn := nw0 hb hall (by exact zo)); obtain ⟨hc, hf, hn, hc0⟩ := hn; replace hall := hn; clear hn; have hz := hb.size; (try simp only [World.size_alloc, World.size_setCell, World.size_drew] at hz); have hx := hall; (try simp only [allLt, and_true] at hx); obtain ⟨w1, rfl⟩ : ∃ x, x = w2 := ⟨_, rfl⟩) | (with_reducible refine wp_region_grew2 (by kernel_rfl) (by kernel_rfl) ?_; intro w2 hb; (first | have hn := nw4 hb hall (by exact zo) | have hn := nw3 hb hall (by exact zo) | have hn := nw2 hb hall (by exact zo) | have hn := nw1 hb hall (by exact zo) | have hn := nw0 hb hall (by exact zo)); obtain ⟨hc, hf, hn, hc0⟩ := hn; replace hall := hn; clear hn; have hz := hb.size; (try simp only [World.size_alloc, World.size_setCell, World.size_drew] at hz); have hx := hall; (try simp only [allLt, and_true] at hx); obtain ⟨w1, rfl⟩ : ∃ x, x = w2 := ⟨_, rfl⟩; (repeat (go_big_quiet_step (fail))); refine wpQuiet_nil ?_; intro w2 hw'; have hb := grew_below hw'; clear hw'; (first | have hn := nw4 hb hall (by exact zo) | have hn := nw3 hb hall (by exact zo) | have hn := nw2 hb hall (by exact zo) | have hn := nw1 hb hall (by exact zo) | have hn := nw0 hb hall (by exact zo)); obtain ⟨hc, hf, hn, hc0⟩ := hn; replace hall := hn; clear hn; have hz := hb.size; (try simp only [World.size_alloc, World.size_setCell, World.size_drew] at hz); have hx := hall; (try simp only [allLt, and_true] at hx); obtain ⟨w1, rfl⟩ : ∃ x, x = w2 := ⟨_, rfl⟩))
                go_roundw
                case rel =>
                  have hL := HL2.out; have hLs := hL.size
                  exact ⟨m + 1, vo, vd, by omega, by go_num, by rw [HG.out, gStep_3 _ _ _ _ (by rw [← Haa.out, ← Hb.out]; exact hmm)], by rw [HG.out, gStep_3 _ _ _ _ (by rw [← Haa.out, ← Hb.out]; exact hmm)]; exact (Own.below OV.out (by exact bel)), by exact bel⟩
                case measure => simp [intOf]; omega
              · have hm2 : meshable aa.p aa.c aa.b b.p b.c b.b = true := hmm
                go_wp2_with (first | (with_reducible refine wp_region_grew2 (by kernel_rfl) (by kernel_rfl) ?_; intro w2 hb; have hb0 := hb; (first | have hn := nw4 hb hall (by exact zo) | have hn := nw3 hb hall (by exact zo) | have hn := nw2 hb hall (by exact zo) | have hn := nw1 hb hall (by exact zo) | have hn := nw0 hb hall (by exact zo)); obtain ⟨hc, hf, hn, hc0⟩ := hn; replace hall := hn; clear hn; have hz := hb.size; (try simp only [World.size_alloc, World.size_setCell, World.size_drew] at hz); have hx := hall; (try simp only [allLt, and_true] at hx); obtain ⟨w1, rfl⟩ : ∃ x, x = w2 := ⟨_, rfl⟩; have PA := Own.at (Own.below OV.out (w' := w1) (by exact bel)) lenPr; (repeat (go_big_quiet_step ((first | (go_at_call 91; with_reducible exact calls_grew (i_taken _ _ _ _ hta _ (SlAt.below PA (Grew.below _)))) | (go_at_call 91; with_reducible exact calls_grew (i_taken _ _ _ _ htb _ (SlAt.below PA (Grew.below _)))) | (go_at_call 80; (exact calls_grew (i_Meshable _ _ _ _ _ _ _ hm2 _))))))); refine wpQuiet_nil ?_; intro w2 hw'; have hb := grew_below hw'; clear hw'; (first | have hn := nw4 hb hall (by exact zo) | have hn := nw3 hb hall (by exact zo) | have hn := nw2 hb hall (by exact zo) | have hn := nw1 hb hall (by exact zo) | have hn := nw0 hb hall (by exact zo)); obtain ⟨hc, hf, hn, hc0⟩ := hn; replace hall := hn; clear hn; have hz := hb.size; (try simp only [World.size_alloc, World.size_setCell, World.size_drew] at hz); have hx := hall; (try simp only [allLt, and_true] at hx); obtain ⟨w1, rfl⟩ : ∃ x, x = w2 := ⟨_, rfl⟩) | (at_builtin; refine append1 elemPr rfl _ _ rfl lenPr onePr rfl (Own.alloc (Own.below OV.out (by exact bel)) _) (by exact zo) rfl (⟨(ka : Int), (kb : Int)⟩ : Pr) (by intro j u hj; match j, hj with | 0, hj => (simp [fPr] at hj; subst hj; go_simp) | 1, hj => (simp [fPr] at hj; subst hj; go_simp) | j + 2, hj => simp [fPr] at hj) (by unfold maxLen; omega) ?_; intro v2 w2 hown2 _ hb2; obtain ⟨v2o, v2c, rfl, -, -⟩ := hown2.shape; have OR := Lib.hid hown2; have HB3 := Lib.hid hb2; clear hown2 hb2) | (with_reducible refine wp_region_grew2 (by kernel_rfl) (by kernel_rfl) ?_; intro w2 hb; (first | have hn := nw4 hb hall (by exact zo) | have hn := nw3 hb hall (by exact zo) | have hn := nw2 hb hall (by exact zo) | have hn := nw1 hb hall (by exact zo) | have hn := nw0 hb hall (by exact zo)); obtain ⟨hc, hf, hn, hc0⟩ := hn; replace hall := hn; clear hn; have hz := hb.size; (try simp only [World.size_alloc, World.size_setCell, World.size_drew] at hz); have hx := hall; (try simp only [allLt, and_true] at hx); obtain ⟨w1, rfl⟩ : ∃ x, x = w2 := ⟨_, rfl⟩; (repeat (go_big_quiet_step (fail))); refine wpQuiet_nil ?_; intro w2 hw'; have hb := grew_below hw'; clear hw'; (first | have hn := nw4 hb hall (by exact zo) | have hn := nw3 hb hall (by exact zo) | have hn := nw2 hb hall (by exact zo) | have hn := nw1 hb hall (by exact zo) | have hn := nw0 hb hall (by exact zo)); obtain ⟨hc, hf, hn, hc0⟩ := hn; replace hall := hn; clear hn; have hz := hb.size; (try simp only [World.size_alloc, World.size_setCell, World.size_drew] at hz); have hx := hall; (try simp only [allLt, and_true] at hx); obtain ⟨w1, rfl⟩ : ∃ x, x = w2 := ⟨_, rfl⟩))
                go_roundw
                case rel =>
                  have hL := HL2.out; have hLs := hL.size; have hB3 := HB3.out
                  exact ⟨m + 1, v2o, v2c, by omega, by go_num, by rw [HG.out, gStep_4 _ _ _ _ hta htb (by rw [← Haa.out, ← Hb.out]; exact hmm)]; simp, by rw [HG.out, gStep_4 _ _ _ _ hta htb (by rw [← Haa.out, ← Hb.out]; exact hmm)]; exact OR.out, by exact bel⟩
                case measure => simp [intOf]; omega
            · have hlm' : ¬ (m : Int) < hv := by omega
              obtain rfl : m = hv := by omega
              go_wp2_with (first | (with_reducible refine wp_region_grew2 (by kernel_rfl) (by kernel_rfl) ?_; intro w2 hb; (first | have hn := nw4 hb hall (by exact zo) | have hn := nw3 hb hall (by exact zo) | have hn := nw2 hb hall (by exact zo) | have hn := nw1 hb hall (by exact zo) | have hn := nw0 hb hall (by exact zo)); obtain ⟨hc, hf, hn, hc0⟩ := hn; replace hall := hn; clear hn; have hz := hb.size; (try simp only [World.size_alloc, World.size_setCell, World.size_drew] at hz); have hx := hall; (try simp only [allLt, and_true] at hx); obtain ⟨w1, rfl⟩ : ∃ x, x = w2 := ⟨_, rfl⟩; (repeat (go_big_quiet_step (fail))); refine wpQuiet_nil ?_; intro w2 hw'; have hb := grew_below hw'; clear hw'; (first | have hn := nw4 hb hall (by exact zo) | have hn := nw3 hb hall (by exact zo) | have hn := nw2 hb hall (by exact zo) | have hn := nw1 hb hall (by exact zo) | have hn := nw0 hb hall (by exact zo)); obtain ⟨hc, hf, hn, hc0⟩ := hn; replace hall := hn; clear hn; have hz := hb.size; (try simp only [World.size_alloc, World.size_setCell, World.size_drew] at hz); have hx := hall; (try simp only [allLt, and_true] at hx); obtain ⟨w1, rfl⟩ : ∃ x, x = w2 := ⟨_, rfl⟩))
              go_roundw
              case rel =>
                have hL := HL2.out; have hLs := hL.size
                have e : spAll xs (shufL seed xs.length) (t + 1) = spRow xs (shufL seed xs.length) t (spAll xs (shufL seed xs.length) t) m := by rw [spAll, HOL.out, ← HHV.out]
                exact ⟨t + 1, vo, vd, by omega, by go_num, by rw [e], by rw [e]; exact Own.below OV.out (by exact bel), by exact bel⟩
              case measure => simp [intOf]; omega
        · have hlt' : ¬ (t : Int) < T := by omega
          obtain rfl : t = T := by omega
          go_wp2_with (first | (with_reducible refine wp_region_grew2 (by kernel_rfl) (by kernel_rfl) ?_; intro w2 hb; (first | have hn := nw4 hb hall (by exact zo) | have hn := nw3 hb hall (by exact zo) | have hn := nw2 hb hall (by exact zo) | have hn := nw1 hb hall (by exact zo) | have hn := nw0 hb hall (by exact zo)); obtain ⟨hc, hf, hn, hc0⟩ := hn; replace hall := hn; clear hn; have hz := hb.size; (try simp only [World.size_alloc, World.size_setCell, World.size_drew] at hz); have hx := hall; (try simp only [allLt, and_true] at hx); obtain ⟨w1, rfl⟩ : ∃ x, x = w2 := ⟨_, rfl⟩; (repeat (go_big_quiet_step (fail))); refine wpQuiet_nil ?_; intro w2 hw'; have hb := grew_below hw'; clear hw'; (first | have hn := nw4 hb hall (by exact zo) | have hn := nw3 hb hall (by exact zo) | have hn := nw2 hb hall (by exact zo) | have hn := nw1 hb hall (by exact zo) | have hn := nw0 hb hall (by exact zo)); obtain ⟨hc, hf, hn, hc0⟩ := hn; replace hall := hn; clear hn; have hz := hb.size; (try simp only [World.size_alloc, World.size_setCell, World.size_drew] at hz); have hx := hall; (try simp only [allLt, and_true] at hx); obtain ⟨w1, rfl⟩ : ∃ x, x = w2 := ⟨_, rfl⟩))
          go_ret2
          exact ⟨_, rfl, OV.out.mono HB.out.size, HB.out.trans (HL.out.mono HB.out.size)⟩

end Go.Proofs.Ytkdafincnmkjnaa
