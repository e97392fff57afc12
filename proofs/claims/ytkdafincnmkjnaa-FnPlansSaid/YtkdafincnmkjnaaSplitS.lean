/-
  Pairs between the halves of a shuffled list, by the reference.
-/
import Derived.Test.YtkdafincnmkjnaaSplit
set_option linter.unusedVariables false
set_option linter.unusedSimpArgs false
namespace Go.Proofs.Ytkdafincnmkjnaa
open Go.RowKit
/-- No number comes twice. -/
def Inj (xs : List Int) : Prop := ∀ (i j : Nat) (x : Int), xs[i]? = some x → xs[j]? = some x → i = j
theorem swapL_get {xs : List Int} {a b : Nat} (ha : a < xs.length) (hb : b < xs.length) (i : Nat) : (swapL xs a b)[i]? = xs[if i = b then a else if i = a then b else i]? := by
  unfold swapL
  rw [List.getElem?_set, List.length_set]
  by_cases h1 : b = i
  · subst h1
    rw [if_pos rfl, if_pos hb, if_pos rfl, List.getD_eq_getElem?_getD, List.getElem?_eq_getElem ha, Option.getD_some]
  · rw [if_neg h1, if_neg (fun e => h1 e.symm), List.getElem?_set]
    by_cases h2 : a = i
    · subst h2
      rw [if_pos rfl, if_pos ha, if_pos rfl, List.getD_eq_getElem?_getD, List.getElem?_eq_getElem hb, Option.getD_some]
    · rw [if_neg h2, if_neg (fun e => h2 e.symm)]
theorem swapL_inj {xs : List Int} {a b : Nat} (ha : a < xs.length) (hb : b < xs.length) (h : Inj xs) : Inj (swapL xs a b) := by
  intro i j x hi hj
  rw [swapL_get ha hb] at hi hj
  have := h _ _ x hi hj
  split at this <;> split at this <;> (try split at this) <;> (try split at this) <;> omega
theorem shuf_inj : ∀ (j : Nat) (xs : List Int) (s : Int), j + 1 ≤ xs.length ∨ j = 0 → Inj xs → Inj (shuf j xs s).1
  | 0, xs, s, _, h => h
  | j + 1, xs, s, hj, h => by
    have hk0 := (chooseK_in (s := s) (n := (j : Int) + 1 + 1) (by omega)).1
    have hk1 := (chooseK_in (s := s) (n := (j : Int) + 1 + 1) (by omega)).2
    exact shuf_inj j (swapL xs (j + 1) (chooseK s ((j : Int) + 1 + 1)).toNat) (chooseS s ((j : Int) + 1 + 1)) (.inl (by rw [swapL_len]; omega)) (swapL_inj (by omega) (by omega) h)
theorem upto_inj (n : Nat) : Inj (upto n) := by
  intro i j x hi hj
  have hi2 := getx_lt hi; have hj2 := getx_lt hj
  rw [upto_len] at hi2 hj2
  rw [List.getElem?_eq_getElem (by rw [upto_len]; exact hi2)] at hi
  rw [List.getElem?_eq_getElem (by rw [upto_len]; exact hj2)] at hj
  simp [upto] at hi hj
  omega
theorem shufL_inj {s : Int} {n : Nat} (hs : between s 0 1073741823 = true) (hn : n ≤ 64) : Inj (shufL s n) := by
  unfold shufL
  rw [hs, show between (n : Int) 0 64 = true from between_iff.2 (by omega), Bool.true_and, if_pos rfl, Int.toNat_natCast]
  exact shuf_inj (n - 1) (upto n) s (by rw [upto_len]; omega) (upto_inj n)
theorem spl_ne {s : Int} {n m k : Nat} {a b : Nat} (hs : between s 0 1073741823 = true) (hn : n ≤ 16) (h1 : (shufL s n)[m]? = some (a : Int)) (h2 : (shufL s n)[k]? = some (b : Int)) (hne : m ≠ k) : a ≠ b := by
  intro e
  subst e
  exact hne (shufL_inj hs (by omega) m k _ h1 h2)
set_option maxRecDepth 20000 in
set_option maxHeartbeats 3200000 in
theorem s_SplitPairs (va : Value) (xs : List Sp) (seed tries : Int) (w : World) (ha : SpansAt w va xs) : Calls Try.prog 38 #[va, .int .i64 seed, .int .i64 tries] w (NewSplit w xs seed tries) := by
  obtain ⟨ao, ca, rfl, hn, hm, hra⟩ := ha.open
  have hle : xs.length ≤ 9223372036854775807 := by unfold maxLen at hm; omega
  clear hm
  have HA := Lib.hid hra; clear hra ha
  unfold NewSplit
  cases hok : splitOk xs seed tries
  · rw [show splitP xs seed tries = [] by unfold splitP; rw [hok]; rfl, show splitS xs seed tries = seed by unfold splitS; rw [hok]; rfl]
    unfold splitOk at hok
    by_cases h16 : 16 < xs.length
    · have h17 : (16 : Int) < xs.length := by omega
      (have hall := all_nil w; go_enter Try.func38, Try.ntmps38)
      go_wp2_with (first | (go_at_call 88; (first | (refine (s_l01In _ _ _ true (by assumption) _).mono ?_) | (refine (s_l01In _ _ _ false (by assumption) _).mono ?_) | (refine (s_l01In _ _ _ _ rfl _).mono ?_)); rintro e w2 ⟨rfl, rfl⟩) | (with_reducible refine wp_region_grew2 (by kernel_rfl) (by kernel_rfl) ?_; intro w2 hb; (first | have hn := nw4 hb hall (by exact zo) | have hn := nw3 hb hall (by exact zo) | have hn := nw2 hb hall (by exact zo) | have hn := nw1 hb hall (by exact zo) | have hn := nw0 hb hall (by exact zo)); obtain ⟨hc, hf, hn, hc0⟩ := hn; replace hall := hn; clear hn; have hz := hb.size; (try simp only [World.size_alloc, World.size_setCell, World.size_drew] at hz); have hx := hall; (try simp only [allLt, and_true] at hx); obtain ⟨w1, rfl⟩ : ∃ x, x = w2 := ⟨_, rfl⟩; (repeat (go_big_quiet_step (first | (go_at_call 88; first | exact calls_same (s_l01In _ _ _ true (by assumption) _) | exact calls_same (s_l01In _ _ _ false (by assumption) _) | exact calls_same (s_l01In _ _ _ _ rfl _))))); refine wpQuiet_nil ?_; intro w2 hw'; have hb := grew_below hw'; clear hw'; (first | have hn := nw4 hb hall (by exact zo) | have hn := nw3 hb hall (by exact zo) | have hn := nw2 hb hall (by exact zo) | have hn := nw1 hb hall (by exact zo) | have hn := nw0 hb hall (by exact zo)); obtain ⟨hc, hf, hn, hc0⟩ := hn; replace hall := hn; clear hn; have hz := hb.size; (try simp only [World.size_alloc, World.size_setCell, World.size_drew] at hz); have hx := hall; (try simp only [allLt, and_true] at hx); obtain ⟨w1, rfl⟩ : ∃ x, x = w2 := ⟨_, rfl⟩))
      go_ret2
      exact ⟨_, rfl, Own.empty' _ _ _ _ _ _ rfl (by exact zo), by exact bel⟩
    · have h17 : ¬ (16 : Int) < xs.length := by omega
      cases c1 : between tries 0 16
      · (have hall := all_nil w; go_enter Try.func38, Try.ntmps38)
        go_wp2_with (first | (go_at_call 88; (first | (refine (s_l01In _ _ _ true (by assumption) _).mono ?_) | (refine (s_l01In _ _ _ false (by assumption) _).mono ?_) | (refine (s_l01In _ _ _ _ rfl _).mono ?_)); rintro e w2 ⟨rfl, rfl⟩) | (with_reducible refine wp_region_grew2 (by kernel_rfl) (by kernel_rfl) ?_; intro w2 hb; (first | have hn := nw4 hb hall (by exact zo) | have hn := nw3 hb hall (by exact zo) | have hn := nw2 hb hall (by exact zo) | have hn := nw1 hb hall (by exact zo) | have hn := nw0 hb hall (by exact zo)); obtain ⟨hc, hf, hn, hc0⟩ := hn; replace hall := hn; clear hn; have hz := hb.size; (try simp only [World.size_alloc, World.size_setCell, World.size_drew] at hz); have hx := hall; (try simp only [allLt, and_true] at hx); obtain ⟨w1, rfl⟩ : ∃ x, x = w2 := ⟨_, rfl⟩; (repeat (go_big_quiet_step (first | (go_at_call 88; first | exact calls_same (s_l01In _ _ _ true (by assumption) _) | exact calls_same (s_l01In _ _ _ false (by assumption) _) | exact calls_same (s_l01In _ _ _ _ rfl _))))); refine wpQuiet_nil ?_; intro w2 hw'; have hb := grew_below hw'; clear hw'; (first | have hn := nw4 hb hall (by exact zo) | have hn := nw3 hb hall (by exact zo) | have hn := nw2 hb hall (by exact zo) | have hn := nw1 hb hall (by exact zo) | have hn := nw0 hb hall (by exact zo)); obtain ⟨hc, hf, hn, hc0⟩ := hn; replace hall := hn; clear hn; have hz := hb.size; (try simp only [World.size_alloc, World.size_setCell, World.size_drew] at hz); have hx := hall; (try simp only [allLt, and_true] at hx); obtain ⟨w1, rfl⟩ : ∃ x, x = w2 := ⟨_, rfl⟩))
        go_ret2
        exact ⟨_, rfl, Own.empty' _ _ _ _ _ _ rfl (by exact zo), by exact bel⟩
      · cases c2 : between seed 0 1073741823
        · (have hall := all_nil w; go_enter Try.func38, Try.ntmps38)
          go_wp2_with (first | (go_at_call 88; (first | (refine (s_l01In _ _ _ true (by assumption) _).mono ?_) | (refine (s_l01In _ _ _ false (by assumption) _).mono ?_) | (refine (s_l01In _ _ _ _ rfl _).mono ?_)); rintro e w2 ⟨rfl, rfl⟩) | (with_reducible refine wp_region_grew2 (by kernel_rfl) (by kernel_rfl) ?_; intro w2 hb; (first | have hn := nw4 hb hall (by exact zo) | have hn := nw3 hb hall (by exact zo) | have hn := nw2 hb hall (by exact zo) | have hn := nw1 hb hall (by exact zo) | have hn := nw0 hb hall (by exact zo)); obtain ⟨hc, hf, hn, hc0⟩ := hn; replace hall := hn; clear hn; have hz := hb.size; (try simp only [World.size_alloc, World.size_setCell, World.size_drew] at hz); have hx := hall; (try simp only [allLt, and_true] at hx); obtain ⟨w1, rfl⟩ : ∃ x, x = w2 := ⟨_, rfl⟩; (repeat (go_big_quiet_step (first | (go_at_call 88; first | exact calls_same (s_l01In _ _ _ true (by assumption) _) | exact calls_same (s_l01In _ _ _ false (by assumption) _) | exact calls_same (s_l01In _ _ _ _ rfl _))))); refine wpQuiet_nil ?_; intro w2 hw'; have hb := grew_below hw'; clear hw'; (first | have hn := nw4 hb hall (by exact zo) | have hn := nw3 hb hall (by exact zo) | have hn := nw2 hb hall (by exact zo) | have hn := nw1 hb hall (by exact zo) | have hn := nw0 hb hall (by exact zo)); obtain ⟨hc, hf, hn, hc0⟩ := hn; replace hall := hn; clear hn; have hz := hb.size; (try simp only [World.size_alloc, World.size_setCell, World.size_drew] at hz); have hx := hall; (try simp only [allLt, and_true] at hx); obtain ⟨w1, rfl⟩ : ∃ x, x = w2 := ⟨_, rfl⟩))
          go_ret2
          exact ⟨_, rfl, Own.empty' _ _ _ _ _ _ rfl (by exact zo), by exact bel⟩
        · rw [c1, c2] at hok
          simp at hok
          omega
  · obtain ⟨h16, c1, c2⟩ := splitOk_parts hok
    have h17 : ¬ (16 : Int) < xs.length := by omega
    have bt := between_iff.1 c1
    obtain ⟨T, rfl⟩ := Int.eq_ofNat_of_zero_le bt.1
    have hT : T ≤ 16 := by omega
    have HR : Hid (splitP xs seed (T : Int) = spAll xs (shufL seed xs.length) T ∧ splitS xs seed (T : Int) = shufS seed xs.length) := by unfold Hid splitP splitS; rw [hok]; simp
    rw [HR.out.1, HR.out.2]
    have hol := shufL_len c2 (show xs.length ≤ 64 by omega)
    have hoi := shufL_in c2 (show xs.length ≤ 64 by omega)
    have HOL := Lib.hid hol; have HOI := Lib.hid hoi
    clear bt hok hol hoi
    obtain ⟨hv, hhv⟩ : ∃ h, h = xs.length / 2 := ⟨_, rfl⟩
    have e2 : ((xs.length : Nat) : Int) / 2 = (hv : Int) := by omega
    have HHV := Lib.hid hhv; clear hhv
    (have hall := all_nil w; go_enter Try.func38, Try.ntmps38)
    go_wp2_with (first | (go_at_call 42; (refine (s_Shuffled _ _ _).mono ?_; rintro e w2 ⟨ov, rfl, hown, hb⟩; obtain ⟨vo, vc, rfl, hvl, -, hvb⟩ := hown.shape; rw [HOL.out] at hvl; (try rw [HOL.out]); have HQQ := Lib.hid hown; have HB := Lib.hid hb; obtain ⟨w1, rfl⟩ : ∃ x, x = w2 := ⟨_, rfl⟩; clear hown hb)) | (at_make; refine make1 elemBool rfl _ _ rfl zeroBool .i64 .i64 xs.length rfl rfl (by omega) (by unfold maxLen; omega) ?_; intro v2 w2 hv2 hown hb; subst hv2; have HU := Lib.hid hown; have HBU := Lib.hid hb; clear hown hb) | (go_at_call 88; (first | (refine (s_l01In _ _ _ true (by assumption) _).mono ?_) | (refine (s_l01In _ _ _ false (by assumption) _).mono ?_) | (refine (s_l01In _ _ _ _ rfl _).mono ?_)); rintro e w2 ⟨rfl, rfl⟩) | (with_reducible refine wp_region_grew2 (by kernel_rfl) (by kernel_rfl) ?_; intro w2 hb; (first | have hn := nw4 hb hall (by exact zo) | have hn := nw3 hb hall (by exact zo) | have hn := nw2 hb hall (by exact zo) | have hn := nw1 hb hall (by exact zo) | have hn := nw0 hb hall (by exact zo)); obtain ⟨hc, hf, hn, hc0⟩ := hn; replace hall := hn; clear hn; have hz := hb.size; (try simp only [World.size_alloc, World.size_setCell, World.size_drew] at hz); have hx := hall; (try simp only [allLt, and_true] at hx); obtain ⟨w1, rfl⟩ : ∃ x, x = w2 := ⟨_, rfl⟩; (repeat (go_big_quiet_step (first | (go_at_call 88; first | exact calls_same (s_l01In _ _ _ true (by assumption) _) | exact calls_same (s_l01In _ _ _ false (by assumption) _) | exact calls_same (s_l01In _ _ _ _ rfl _))))); refine wpQuiet_nil ?_; intro w2 hw'; have hb := grew_below hw'; clear hw'; (first | have hn := nw4 hb hall (by exact zo) | have hn := nw3 hb hall (by exact zo) | have hn := nw2 hb hall (by exact zo) | have hn := nw1 hb hall (by exact zo) | have hn := nw0 hb hall (by exact zo)); obtain ⟨hc, hf, hn, hc0⟩ := hn; replace hall := hn; clear hn; have hz := hb.size; (try simp only [World.size_alloc, World.size_setCell, World.size_drew] at hz); have hx := hall; (try simp only [allLt, and_true] at hx); obtain ⟨w1, rfl⟩ : ∃ x, x = w2 := ⟨_, rfl⟩))
    have hs1 := HB.out.size; simp only [World.size_alloc] at hs1
    have hs2 := HBU.out.size
    have HB2 : Hid (Below w.heap.size w w2) := by
      have h1 := (Below.refl w.heap.size w).alloc (Nat.le_refl _) (.cells #[] 66)
      exact (h1.trans (HB.out.mono (by simp))).trans (HBU.out.mono (by omega))
    obtain ⟨wb, rfl⟩ : ∃ x, x = w2 := ⟨_, rfl⟩
    obtain ⟨gu, hgu⟩ : ∃ x, x = w1.heap.size := ⟨_, rfl⟩
    rw [← hgu] at HU ⊢
    have OV0 : Hid (OwnPr w.heap.size wb (.slice (some ⟨w.heap.size, 0, none⟩) 0 0) []) := by
      have h1 := Own.empty' 66 2 fPr w.heap.size w w.heap.size rfl (Nat.le_refl _)
      exact (Own.below h1 HB.out).below (HBU.out.mono (by omega) |> fun (h : Below w1.heap.size w1 wb) => h)
    have HQ2 := Lib.hid (((HQQ.out).mono (B' := w.heap.size) (by simp)).below HBU.out)
    have hgw : w.heap.size ≠ gu := by omega
    have hwgu : w.heap.size ≤ gu := by omega
    rcases Nat.eq_zero_or_pos xs.length with h0 | hpos
    · obtain rfl : xs = [] := List.eq_nil_of_length_eq_zero h0
      have hv0 : hv = 0 := by have := HHV.out; simpa using this
      subst hv0
      have HZ := Lib.hid (spAll_zero [] (shufL seed (([] : List Sp).length : Nat)) (by have := HOL.out; simpa using this))
      clear e2 HQQ HQ2 HA HU hgu hvb
      go_loopw [8, 13] (fun s i wr => ∃ t : Nat, t ≤ T ∧ i = .int .i64 t ∧ OwnPr w.heap.size wr s [] ∧ Below w.heap.size w wr) (fun _ i _ => T - (intOf i).toNat)
      case atStart => exact ⟨0, Nat.zero_le _, rfl, OV0.out, HB2.out⟩
      case round =>
        obtain ⟨t, ht, rfl, hown, hbel⟩ := hrel
        have HL := Lib.hid hbel; have hsz := hbel.size; have OV := Lib.hid hown
        clear hown hbel
        rcases Nat.lt_or_ge t T with hlt | hlt
        · have hlt' : (t : Int) < T := by omega
          go_wp2_with fail
          refine wp_loop_rounds 1 ?_
          rw [rounds_succ]
          go_wp2_with fail
          go_roundw
          case rel => exact ⟨t + 1, by omega, by go_num, OV.out, HL.out⟩
          case measure => simp [intOf]; omega
        · have hlt' : ¬ (t : Int) < T := by omega
          obtain rfl : t = T := by omega
          go_wp2_with fail
          go_ret2
          exact ⟨_, rfl, (show OwnPr w.heap.size wr _ (spAll [] (shufL seed (([] : List Sp).length : Nat)) t) from by rw [HZ.out]; exact OV.out), HL.out⟩
    · obtain ⟨g, gc, he, hgB, hg⟩ := Own.addr HQQ.out (by rw [HOL.out]; exact hpos)
      simp only [Value.slice.injEq] at he
      obtain ⟨rfl, -, rfl⟩ := he
      simp only [World.size_alloc] at hgB
      have hggu : g ≠ gu := by omega
      have hwg : w.heap.size ≠ g := by omega
      have OU0 : Hid (OwnB w.heap.size wb (.slice (some ⟨gu, 0, none⟩) xs.length xs.length) (usedOf [] xs.length)) := by unfold Hid; rw [usedOf_nil]; exact HU.out.mono hwgu
      have hxgu : gu < wb.heap.size := (HU.out.lt gu rfl).2
      obtain ⟨r, hr⟩ : ∃ r, r = xs.length - hv := ⟨_, rfl⟩
      have hr0 : r + hv = xs.length ∧ 1 ≤ r := by have := HHV.out; omega
      have HRR := Lib.hid hr0
      have e4 : ((xs.length : Nat) : Int) - (hv : Int) = (r : Int) := by omega
      have hr1 : (1 : Int) ≤ (r : Int) := by omega
      have hr9 : (r : Int) ≤ 16 := by omega
      have hv16 : (hv : Int) ≤ 16 := by omega
      replace HQ2 : Hid (OwnI w.heap.size wb (.slice (some ⟨g, 0, none⟩) xs.length vc) (shufL seed xs.length)) := by have h := HQ2.out; rw [HOL.out] at h; exact h
      clear hr hr0 e2 HQQ hgu hvb HB HBU HU
      have hle5 := spAll_le xs (shufL seed xs.length) (by rw [HOL.out]; exact h16)
      have HGA := Lib.hid hle5; clear hle5
      go_loopw [8, 13] (fun s i wr => ∃ (t : Nat) (vo : Option Addr) (vd : Nat), t ≤ T ∧ i = .int .i64 t ∧ s = .slice vo (spAll xs (shufL seed xs.length) t).length vd ∧ OwnPr w.heap.size wr (.slice vo (spAll xs (shufL seed xs.length) t).length vd) (spAll xs (shufL seed xs.length) t) ∧ (Value.slice vo (spAll xs (shufL seed xs.length) t).length vd).ownBlock ≠ some gu ∧ (Value.slice vo (spAll xs (shufL seed xs.length) t).length vd).ownBlock ≠ some g ∧ OwnB w.heap.size wr (.slice (some ⟨gu, 0, none⟩) xs.length xs.length) (usedOf (spAll xs (shufL seed xs.length) t) xs.length) ∧ OwnI w.heap.size wr (.slice (some ⟨g, 0, none⟩) xs.length vc) (shufL seed xs.length) ∧ Below w.heap.size w wr) (fun _ i _ => T - (intOf i).toNat)
      case atStart => exact ⟨0, _, _, Nat.zero_le _, rfl, rfl, OV0.out, (fun e => hgw (by simpa [Value.ownBlock] using e)), (fun e => hwg (by simpa [Value.ownBlock] using e)), OU0.out, HQ2.out, HB2.out⟩
      case round =>
        clear OV0 OU0 HQ2 HB2 hxgu hg
        obtain ⟨t, vo, vd, ht, rfl, rfl, hown, hn1, hn2, hou, hoq, hbel⟩ := hrel
        have HL := Lib.hid hbel; have hsz := hbel.size
        have OV := Lib.hid hown; have HNE := Lib.hid hn1; have HNG := Lib.hid hn2; have OU := Lib.hid hou; have HQQ := Lib.hid hoq
        clear hown hn1 hn2 hou hoq hbel
        by_cases hlt : t < T
        · have hlt' : (t : Int) < T := by omega
          go_wp2_with fail
          go_loopw [8, 14] (fun s i wr => ∃ (m : Nat) (vo : Option Addr) (vd : Nat), m ≤ hv ∧ i = .int .i64 m ∧ s = .slice vo (spRow xs (shufL seed xs.length) t (spAll xs (shufL seed xs.length) t) m).length vd ∧ OwnPr w.heap.size wr (.slice vo (spRow xs (shufL seed xs.length) t (spAll xs (shufL seed xs.length) t) m).length vd) (spRow xs (shufL seed xs.length) t (spAll xs (shufL seed xs.length) t) m) ∧ (Value.slice vo (spRow xs (shufL seed xs.length) t (spAll xs (shufL seed xs.length) t) m).length vd).ownBlock ≠ some gu ∧ (Value.slice vo (spRow xs (shufL seed xs.length) t (spAll xs (shufL seed xs.length) t) m).length vd).ownBlock ≠ some g ∧ OwnB w.heap.size wr (.slice (some ⟨gu, 0, none⟩) xs.length xs.length) (usedOf (spRow xs (shufL seed xs.length) t (spAll xs (shufL seed xs.length) t) m) xs.length) ∧ OwnI w.heap.size wr (.slice (some ⟨g, 0, none⟩) xs.length vc) (shufL seed xs.length) ∧ Below w.heap.size w wr) (fun _ i _ => hv - (intOf i).toNat)
          case atStart => exact ⟨0, vo, vd, Nat.zero_le _, rfl, rfl, OV.out, HNE.out, HNG.out, OU.out, HQQ.out, HL.out⟩
          case round =>
            clear OV HNE HNG OU HQQ
            obtain ⟨m, vo, vd, hm, rfl, rfl, hown, hn1, hn2, hou, hoq, hbel⟩ := hrel
            have HL2 := Lib.hid hbel; have hsz2 := hbel.size
            have OV := Lib.hid hown; have HNE := Lib.hid hn1; have HNG := Lib.hid hn2; have OU := Lib.hid hou; have HQQ := Lib.hid hoq
            clear hown hn1 hn2 hou hoq hbel
            have hlo : (spRow xs (shufL seed xs.length) t (spAll xs (shufL seed xs.length) t) m).length ≤ 512 := by have h1 := HGA.out t; have h2 := spRow_le xs (shufL seed xs.length) t (spAll xs (shufL seed xs.length) t) m; omega
            by_cases hlm : m < hv
            · have hlm' : (m : Int) < hv := by omega
              obtain ⟨q, hq⟩ : ∃ q, q = (m + t) % r := ⟨_, rfl⟩
              have hqr : q < r := by rw [hq]; exact Nat.mod_lt _ (by omega)
              have e3 : ((m : Int) + (t : Int)) % (r : Int) = (q : Int) := by rw [hq, Int.natCast_emod, Int.natCast_add]
              obtain ⟨ya, hya⟩ := getx (xs := (shufL seed xs.length)) (k := m) (by rw [HOL.out]; have := HRR.out; omega)
              obtain ⟨yb, hyb⟩ := getx (xs := (shufL seed xs.length)) (k := hv + q) (by rw [HOL.out]; have := HRR.out; omega)
              have ia := HOI.out ya (List.mem_of_getElem? hya); have ib := HOI.out yb (List.mem_of_getElem? hyb)
              obtain ⟨ka, rfl⟩ := Int.eq_ofNat_of_zero_le ia.1
              obtain ⟨kb, rfl⟩ := Int.eq_ofNat_of_zero_le ib.1
              obtain ⟨-, hg, f1, -⟩ := OwnI.slotI HQQ.out hya
              obtain ⟨-, -, f2, -⟩ := OwnI.slotI HQQ.out hyb
              have HG : Hid (spRow xs (shufL seed xs.length) t (spAll xs (shufL seed xs.length) t) (m + 1) = gStep xs (spRow xs (shufL seed xs.length) t (spAll xs (shufL seed xs.length) t) m) ka kb) := by
                unfold Hid
                have h1 : spA (shufL seed xs.length) m = ka := by unfold spA; rw [getD_of hya, Int.toNat_natCast]
                have h2 : spB (shufL seed xs.length) m t = kb := by unfold spB; rw [HOL.out, ← HHV.out, show xs.length - hv = r by have := HRR.out; omega, ← hq, getD_of hyb, Int.toNat_natCast]
                rw [spRow, h1, h2]
              have hka : ka < xs.length := by omega
              have hkb : kb < xs.length := by omega
              have hka' : (ka : Int) < xs.length := by omega
              have hkb' : (kb : Int) < xs.length := by omega
              have hqI : (hv : Int) + (q : Int) < ((xs.length : Nat) : Int) := by have := HRR.out; omega
              have hmI : (m : Int) < ((xs.length : Nat) : Int) := by have := HRR.out; omega
              have hkk : ka ≠ kb := spl_ne c2 h16 hya hyb (by omega)
              clear hya hyb ia ib hq
              generalize (spRow xs (shufL seed xs.length) t (spAll xs (shufL seed xs.length) t) m) = out at *
              obtain ⟨gaa, oaa, haoaa, hgaa, aa0, aa1, aa2⟩ := HA.out ka hka
              subst haoaa
              replace aa0 := (HL2.out.cell (p := ⟨gaa, oaa + ka * 3, none⟩) (by first | exact hgaa | assumption)).trans aa0
              replace aa1 := (HL2.out.cell (p := ⟨gaa, oaa + ka * 3 + 1, none⟩) (by first | exact hgaa | assumption)).trans aa1
              replace aa2 := (HL2.out.cell (p := ⟨gaa, oaa + ka * 3 + 2, none⟩) (by first | exact hgaa | assumption)).trans aa2
              obtain ⟨aa, heaa⟩ : ∃ x, x = xs.getD ka default := ⟨_, rfl⟩
              rw [← heaa] at aa0 aa1 aa2
              have Haa := Lib.hid heaa; clear heaa
              obtain ⟨gb, ob, haob, hgb, b0, b1, b2⟩ := HA.out kb hkb
              (simp only [Option.some.injEq, Addr.mk.injEq, and_true] at haob; obtain ⟨rfl, rfl⟩ := haob)
              replace b0 := (HL2.out.cell (p := ⟨gaa, oaa + kb * 3, none⟩) (by first | exact hgb | assumption)).trans b0
              replace b1 := (HL2.out.cell (p := ⟨gaa, oaa + kb * 3 + 1, none⟩) (by first | exact hgb | assumption)).trans b1
              replace b2 := (HL2.out.cell (p := ⟨gaa, oaa + kb * 3 + 2, none⟩) (by first | exact hgb | assumption)).trans b2
              obtain ⟨b, heb⟩ : ∃ x, x = xs.getD kb default := ⟨_, rfl⟩
              rw [← heb] at b0 b1 b2
              have Hb := Lib.hid heb; clear heb
              obtain ⟨-, xgu, u0, z0⟩ := OwnB.slotB OU.out (usedOf_get out _ ka hka)
              obtain ⟨-, -, u1, z1⟩ := OwnB.slotB OU.out (usedOf_get out _ kb hkb)
              (obtain ⟨w1, rfl⟩ : ∃ x, x = wr := ⟨_, rfl⟩; have hall : allLt [g, gaa, gu] w1.heap.size := ⟨by omega, by omega, by omega, trivial⟩; have hx := hall; (try simp only [allLt, and_true] at hx))
              have hk1 : ¬ ka = kb := hkk
              have hk2 : ¬ kb = ka := fun e => hkk e.symm
              cases hta : takenB out ka
              rotate_left
              · rw [hta] at u0
                go_wp2_with (first | (with_reducible refine wp_region_grew2 (by kernel_rfl) (by kernel_rfl) ?_; intro w2 hb; have hb0 := hb; (first | have hn := nw4 hb hall (by exact zo) | have hn := nw3 hb hall (by exact zo) | have hn := nw2 hb hall (by exact zo) | have hn := nw1 hb hall (by exact zo) | have hn := nw0 hb hall (by exact zo)); obtain ⟨hc, hf, hn, hc0⟩ := hn; replace hall := hn; clear hn; have hz := hb.size; (try simp only [World.size_alloc, World.size_setCell, World.size_drew] at hz); have hx := hall; (try simp only [allLt, and_true] at hx); obtain ⟨w1, rfl⟩ : ∃ x, x = w2 := ⟨_, rfl⟩; skip; (repeat (go_big_quiet_step (fail))); refine wpQuiet_nil ?_; intro w2 hw'; have hb := grew_below hw'; clear hw'; (first | have hn := nw4 hb hall (by exact zo) | have hn := nw3 hb hall (by exact zo) | have hn := nw2 hb hall (by exact zo) | have hn := nw1 hb hall (by exact zo) | have hn := nw0 hb hall (by exact zo)); obtain ⟨hc, hf, hn, hc0⟩ := hn; replace hall := hn; clear hn; have hz := hb.size; (try simp only [World.size_alloc, World.size_setCell, World.size_drew] at hz); have hx := hall; (try simp only [allLt, and_true] at hx); obtain ⟨w1, rfl⟩ : ∃ x, x = w2 := ⟨_, rfl⟩) | (with_reducible refine wp_region_grew2 (by kernel_rfl) (by kernel_rfl) ?_; intro w2 hb; (first | have hn := nw4 hb hall (by exact zo) | have hn := nw3 hb hall (by exact zo) | have hn := nw2 hb hall (by exact zo) | have hn := nw1 hb hall (by exact zo) | have hn := nw0 hb hall (by exact zo)); obtain ⟨hc, hf, hn, hc0⟩ := hn; replace hall := hn; clear hn; have hz := hb.size; (try simp only [World.size_alloc, World.size_setCell, World.size_drew] at hz); have hx := hall; (try simp only [allLt, and_true] at hx); obtain ⟨w1, rfl⟩ : ∃ x, x = w2 := ⟨_, rfl⟩; (repeat (go_big_quiet_step (fail))); refine wpQuiet_nil ?_; intro w2 hw'; have hb := grew_below hw'; clear hw'; (first | have hn := nw4 hb hall (by exact zo) | have hn := nw3 hb hall (by exact zo) | have hn := nw2 hb hall (by exact zo) | have hn := nw1 hb hall (by exact zo) | have hn := nw0 hb hall (by exact zo)); obtain ⟨hc, hf, hn, hc0⟩ := hn; replace hall := hn; clear hn; have hz := hb.size; (try simp only [World.size_alloc, World.size_setCell, World.size_drew] at hz); have hx := hall; (try simp only [allLt, and_true] at hx); obtain ⟨w1, rfl⟩ : ∃ x, x = w2 := ⟨_, rfl⟩))
                go_roundw
                case rel =>
                  have hL := HL2.out; have hLs := hL.size
                  exact ⟨m + 1, vo, vd, by omega, by go_num, by rw [HG.out, gStep_1 _ _ _ _ hta], by rw [HG.out, gStep_1 _ _ _ _ hta]; exact Own.below OV.out (by exact bel), by rw [HG.out, gStep_1 _ _ _ _ hta]; exact HNE.out, by rw [HG.out, gStep_1 _ _ _ _ hta]; exact HNG.out, by rw [HG.out, gStep_1 _ _ _ _ hta]; exact Own.below OU.out (by exact bel), Own.below HQQ.out (by exact bel), by exact bel⟩
                case measure => simp [intOf]; omega
              cases htb : takenB out kb
              rotate_left
              · rw [hta] at u0; rw [htb] at u1
                go_wp2_with (first | (with_reducible refine wp_region_grew2 (by kernel_rfl) (by kernel_rfl) ?_; intro w2 hb; have hb0 := hb; (first | have hn := nw4 hb hall (by exact zo) | have hn := nw3 hb hall (by exact zo) | have hn := nw2 hb hall (by exact zo) | have hn := nw1 hb hall (by exact zo) | have hn := nw0 hb hall (by exact zo)); obtain ⟨hc, hf, hn, hc0⟩ := hn; replace hall := hn; clear hn; have hz := hb.size; (try simp only [World.size_alloc, World.size_setCell, World.size_drew] at hz); have hx := hall; (try simp only [allLt, and_true] at hx); obtain ⟨w1, rfl⟩ : ∃ x, x = w2 := ⟨_, rfl⟩; skip; (repeat (go_big_quiet_step (fail))); refine wpQuiet_nil ?_; intro w2 hw'; have hb := grew_below hw'; clear hw'; (first | have hn := nw4 hb hall (by exact zo) | have hn := nw3 hb hall (by exact zo) | have hn := nw2 hb hall (by exact zo) | have hn := nw1 hb hall (by exact zo) | have hn := nw0 hb hall (by exact zo)); obtain ⟨hc, hf, hn, hc0⟩ := hn; replace hall := hn; clear hn; have hz := hb.size; (try simp only [World.size_alloc, World.size_setCell, World.size_drew] at hz); have hx := hall; (try simp only [allLt, and_true] at hx); obtain ⟨w1, rfl⟩ : ∃ x, x = w2 := ⟨_, rfl⟩) | (with_reducible refine wp_region_grew2 (by kernel_rfl) (by kernel_rfl) ?_; intro w2 hb; (first | have hn := nw4 hb hall (by exact zo) | have hn := nw3 hb hall (by exact zo) | have hn := nw2 hb hall (by exact zo) | have hn := nw1 hb hall (by exact zo) | have hn := nw0 hb hall (by exact zo)); obtain ⟨hc, hf, hn, hc0⟩ := hn; replace hall := hn; clear hn; have hz := hb.size; (try simp only [World.size_alloc, World.size_setCell, World.size_drew] at hz); have hx := hall; (try simp only [allLt, and_true] at hx); obtain ⟨w1, rfl⟩ : ∃ x, x = w2 := ⟨_, rfl⟩; (repeat (go_big_quiet_step (fail))); refine wpQuiet_nil ?_; intro w2 hw'; have hb := grew_below hw'; clear hw'; (first | have hn := nw4 hb hall (by exact zo) | have hn := nw3 hb hall (by exact zo) | have hn := nw2 hb hall (by exact zo) | have hn := nw1 hb hall (by exact zo) | have hn := nw0 hb hall (by exact zo)); obtain ⟨hc, hf, hn, hc0⟩ := hn; replace hall := hn; clear hn; have hz := hb.size; (try simp only [World.size_alloc, World.size_setCell, World.size_drew] at hz); have hx := hall; (try simp only [allLt, and_true] at hx); obtain ⟨w1, rfl⟩ : ∃ x, x = w2 := ⟨_, rfl⟩))
                go_roundw
                case rel =>
                  have hL := HL2.out; have hLs := hL.size
                  exact ⟨m + 1, vo, vd, by omega, by go_num, by rw [HG.out, gStep_2 _ _ _ _ htb], by rw [HG.out, gStep_2 _ _ _ _ htb]; exact Own.below OV.out (by exact bel), by rw [HG.out, gStep_2 _ _ _ _ htb]; exact HNE.out, by rw [HG.out, gStep_2 _ _ _ _ htb]; exact HNG.out, by rw [HG.out, gStep_2 _ _ _ _ htb]; exact Own.below OU.out (by exact bel), Own.below HQQ.out (by exact bel), by exact bel⟩
                case measure => simp [intOf]; omega
              rw [hta] at u0; rw [htb] at u1
              cases hmm : meshS aa b
              · have hm2 : meshable aa.p aa.c aa.b b.p b.c b.b = false := hmm
                go_wp2_with (first | (with_reducible refine wp_region_grew2 (by kernel_rfl) (by kernel_rfl) ?_; intro w2 hb; have hb0 := hb; (first | have hn := nw4 hb hall (by exact zo) | have hn := nw3 hb hall (by exact zo) | have hn := nw2 hb hall (by exact zo) | have hn := nw1 hb hall (by exact zo) | have hn := nw0 hb hall (by exact zo)); obtain ⟨hc, hf, hn, hc0⟩ := hn; replace hall := hn; clear hn; have hz := hb.size; (try simp only [World.size_alloc, World.size_setCell, World.size_drew] at hz); have hx := hall; (try simp only [allLt, and_true] at hx); obtain ⟨w1, rfl⟩ : ∃ x, x = w2 := ⟨_, rfl⟩; skip; (repeat (go_big_quiet_step ((first | (go_at_call 43; (exact calls_grew (s_Meshable _ _ _ _ _ _ _ hm2 _))))))); refine wpQuiet_nil ?_; intro w2 hw'; have hb := grew_below hw'; clear hw'; (first | have hn := nw4 hb hall (by exact zo) | have hn := nw3 hb hall (by exact zo) | have hn := nw2 hb hall (by exact zo) | have hn := nw1 hb hall (by exact zo) | have hn := nw0 hb hall (by exact zo)); obtain ⟨hc, hf, hn, hc0⟩ := hn; replace hall := hn; clear hn; have hz := hb.size; (try simp only [World.size_alloc, World.size_setCell, World.size_drew] at hz); have hx := hall; (try simp only [allLt, and_true] at hx); obtain ⟨w1, rfl⟩ : ∃ x, x = w2 := ⟨_, rfl⟩) | (with_reducible refine wp_region_grew2 (by kernel_rfl) (by kernel_rfl) ?_; intro w2 hb; (first | have hn := nw4 hb hall (by exact zo) | have hn := nw3 hb hall (by exact zo) | have hn := nw2 hb hall (by exact zo) | have hn := nw1 hb hall (by exact zo) | have hn := nw0 hb hall (by exact zo)); obtain ⟨hc, hf, hn, hc0⟩ := hn; replace hall := hn; clear hn; have hz := hb.size; (try simp only [World.size_alloc, World.size_setCell, World.size_drew] at hz); have hx := hall; (try simp only [allLt, and_true] at hx); obtain ⟨w1, rfl⟩ : ∃ x, x = w2 := ⟨_, rfl⟩; (repeat (go_big_quiet_step (fail))); refine wpQuiet_nil ?_; intro w2 hw'; have hb := grew_below hw'; clear hw'; (first | have hn := nw4 hb hall (by exact zo) | have hn := nw3 hb hall (by exact zo) | have hn := nw2 hb hall (by exact zo) | have hn := nw1 hb hall (by exact zo) | have hn := nw0 hb hall (by exact zo)); obtain ⟨hc, hf, hn, hc0⟩ := hn; replace hall := hn; clear hn; have hz := hb.size; (try simp only [World.size_alloc, World.size_setCell, World.size_drew] at hz); have hx := hall; (try simp only [allLt, and_true] at hx); obtain ⟨w1, rfl⟩ : ∃ x, x = w2 := ⟨_, rfl⟩))
                go_roundw
                case rel =>
                  have hL := HL2.out; have hLs := hL.size
                  exact ⟨m + 1, vo, vd, by omega, by go_num, by rw [HG.out, gStep_3 _ _ _ _ (by rw [← Haa.out, ← Hb.out]; exact hmm)], by rw [HG.out, gStep_3 _ _ _ _ (by rw [← Haa.out, ← Hb.out]; exact hmm)]; exact Own.below OV.out (by exact bel), by rw [HG.out, gStep_3 _ _ _ _ (by rw [← Haa.out, ← Hb.out]; exact hmm)]; exact HNE.out, by rw [HG.out, gStep_3 _ _ _ _ (by rw [← Haa.out, ← Hb.out]; exact hmm)]; exact HNG.out, by rw [HG.out, gStep_3 _ _ _ _ (by rw [← Haa.out, ← Hb.out]; exact hmm)]; exact Own.below OU.out (by exact bel), Own.below HQQ.out (by exact bel), by exact bel⟩
                case measure => simp [intOf]; omega
              · have hm2 : meshable aa.p aa.c aa.b b.p b.c b.b = true := hmm
                go_wp2_with (first | (with_reducible refine wp_region_grew2 (by kernel_rfl) (by kernel_rfl) ?_; intro w2 hb; have hb0 := hb; (first | have hn := nw4 hb hall (by exact zo) | have hn := nw3 hb hall (by exact zo) | have hn := nw2 hb hall (by exact zo) | have hn := nw1 hb hall (by exact zo) | have hn := nw0 hb hall (by exact zo)); obtain ⟨hc, hf, hn, hc0⟩ := hn; replace hall := hn; clear hn; have hz := hb.size; (try simp only [World.size_alloc, World.size_setCell, World.size_drew] at hz); have hx := hall; (try simp only [allLt, and_true] at hx); obtain ⟨w1, rfl⟩ : ∃ x, x = w2 := ⟨_, rfl⟩; skip; (repeat (go_big_quiet_step ((first | (go_at_call 43; (exact calls_grew (s_Meshable _ _ _ _ _ _ _ hm2 _))))))); refine wpQuiet_nil ?_; intro w2 hw'; have hb := grew_below hw'; clear hw'; (first | have hn := nw4 hb hall (by exact zo) | have hn := nw3 hb hall (by exact zo) | have hn := nw2 hb hall (by exact zo) | have hn := nw1 hb hall (by exact zo) | have hn := nw0 hb hall (by exact zo)); obtain ⟨hc, hf, hn, hc0⟩ := hn; replace hall := hn; clear hn; have hz := hb.size; (try simp only [World.size_alloc, World.size_setCell, World.size_drew] at hz); have hx := hall; (try simp only [allLt, and_true] at hx); obtain ⟨w1, rfl⟩ : ∃ x, x = w2 := ⟨_, rfl⟩) | (at_builtin; refine wpList_append1 elemPr rfl _ _ rfl lenPr rfl (Own.alloc (Own.setCell (Own.setCell (Own.below OV.out (by exact bel)) _ _ HNE.out) _ _ HNE.out) _) (by exact zo) rfl (⟨(ka : Int), (kb : Int)⟩ : Pr) (onePr _) (by intro j u hj; match j, hj with | 0, hj => (simp [fPr] at hj; subst hj; go_simp) | 1, hj => (simp [fPr] at hj; subst hj; go_simp) | j + 2, hj => simp [fPr] at hj) (by unfold maxLen; omega) ?_; intro v2 w2 hown2 hgr2 hat2 hb2; obtain ⟨v2o, v2c, rfl, -, -⟩ := hown2.shape; have OR := Lib.hid hown2; have HB3 := Lib.hid hb2; have HAT := Lib.hid hat2; have HGR := Lib.hid hgr2; clear hown2 hb2 hat2 hgr2) | (with_reducible refine wp_region_grew2 (by kernel_rfl) (by kernel_rfl) ?_; intro w2 hb; (first | have hn := nw4 hb hall (by exact zo) | have hn := nw3 hb hall (by exact zo) | have hn := nw2 hb hall (by exact zo) | have hn := nw1 hb hall (by exact zo) | have hn := nw0 hb hall (by exact zo)); obtain ⟨hc, hf, hn, hc0⟩ := hn; replace hall := hn; clear hn; have hz := hb.size; (try simp only [World.size_alloc, World.size_setCell, World.size_drew] at hz); have hx := hall; (try simp only [allLt, and_true] at hx); obtain ⟨w1, rfl⟩ : ∃ x, x = w2 := ⟨_, rfl⟩; (repeat (go_big_quiet_step (fail))); refine wpQuiet_nil ?_; intro w2 hw'; have hb := grew_below hw'; clear hw'; (first | have hn := nw4 hb hall (by exact zo) | have hn := nw3 hb hall (by exact zo) | have hn := nw2 hb hall (by exact zo) | have hn := nw1 hb hall (by exact zo) | have hn := nw0 hb hall (by exact zo)); obtain ⟨hc, hf, hn, hc0⟩ := hn; replace hall := hn; clear hn; have hz := hb.size; (try simp only [World.size_alloc, World.size_setCell, World.size_drew] at hz); have hx := hall; (try simp only [allLt, and_true] at hx); obtain ⟨w1, rfl⟩ : ∃ x, x = w2 := ⟨_, rfl⟩))
                go_roundw
                case rel =>
                  have hL := HL2.out; have hLs := hL.size; have hB3 := HB3.out
                  have e := gStep_4 xs out ka kb hta htb (by rw [← Haa.out, ← Hb.out]; exact hmm)
                  have hu1 : OwnB w.heap.size w1 (.slice (some ⟨gu, 0, none⟩) xs.length xs.length) (usedOf out xs.length) := Own.below OU.out (by exact bel)
                  have hu2 := (Own.set1 lenBool hu1 rfl ka (.bool true) true rfl).1
                  have hu3 := (Own.set1 lenBool hu2 rfl kb (.bool true) true rfl).1
                  rw [usedOf_set out xs.length ka kb hka hkb] at hu3
                  have hu4 := Own.alloc hu3 (.cells #[.int .i64 (ka : Int), .int .i64 (kb : Int)] 66)
                  have hu5 := Own.kept (w' := w2) hu4 (fun g hg => HGR.out.block g (hu4.lt g hg).2 (fun e => own_ne hg HNE.out e))
                  have hq1 : OwnI w.heap.size w1 (.slice (some ⟨g, 0, none⟩) xs.length vc) (shufL seed xs.length) := Own.below HQQ.out (by exact bel)
                  have hgn : (Value.slice (some ⟨g, 0, none⟩) xs.length vc).ownBlock ≠ some gu := fun e => hggu (by simpa [Value.ownBlock] using e)
                  have hq4 := Own.alloc (Own.setCell (Own.setCell hq1 ⟨gu, ka, none⟩ (.bool true) hgn) ⟨gu, kb, none⟩ (.bool true) hgn) (.cells #[.int .i64 (ka : Int), .int .i64 (kb : Int)] 66)
                  have hq5 := Own.kept (w' := w2) hq4 (fun g' hg' => HGR.out.block g' (hq4.lt g' hg').2 (fun e => by
                    have h1 : g = g' := by simpa [Value.ownBlock] using hg'
                    exact HNG.out (by rw [h1]; exact e.symm)))
                  have hgl : g < w1.heap.size := by omega
                  refine ⟨m + 1, v2o, v2c, by omega, by go_num, by rw [HG.out, e]; simp, by rw [HG.out, e]; exact OR.out, ?_, ?_, by rw [HG.out, e]; exact hu5, hq5, by exact bel⟩
                  · rw [HG.out, e]
                    rcases HAT.out with h | h
                    · rw [h]; exact HNE.out
                    · intro h2; rw [h] at h2; simp at h2; omega
                  · rw [HG.out, e]
                    rcases HAT.out with h | h
                    · rw [h]; exact HNG.out
                    · intro h2; rw [h] at h2; simp at h2; omega
                case measure => simp [intOf]; omega
            · have hlm' : ¬ (m : Int) < hv := by omega
              obtain rfl : m = hv := by omega
              go_wp2_with (first | (with_reducible refine wp_region_grew2 (by kernel_rfl) (by kernel_rfl) ?_; intro w2 hb; (first | have hn := nw4 hb hall (by exact zo) | have hn := nw3 hb hall (by exact zo) | have hn := nw2 hb hall (by exact zo) | have hn := nw1 hb hall (by exact zo) | have hn := nw0 hb hall (by exact zo)); obtain ⟨hc, hf, hn, hc0⟩ := hn; replace hall := hn; clear hn; have hz := hb.size; (try simp only [World.size_alloc, World.size_setCell, World.size_drew] at hz); have hx := hall; (try simp only [allLt, and_true] at hx); obtain ⟨w1, rfl⟩ : ∃ x, x = w2 := ⟨_, rfl⟩; (repeat (go_big_quiet_step (fail))); refine wpQuiet_nil ?_; intro w2 hw'; have hb := grew_below hw'; clear hw'; (first | have hn := nw4 hb hall (by exact zo) | have hn := nw3 hb hall (by exact zo) | have hn := nw2 hb hall (by exact zo) | have hn := nw1 hb hall (by exact zo) | have hn := nw0 hb hall (by exact zo)); obtain ⟨hc, hf, hn, hc0⟩ := hn; replace hall := hn; clear hn; have hz := hb.size; (try simp only [World.size_alloc, World.size_setCell, World.size_drew] at hz); have hx := hall; (try simp only [allLt, and_true] at hx); obtain ⟨w1, rfl⟩ : ∃ x, x = w2 := ⟨_, rfl⟩))
              go_roundw
              case rel =>
                have e : spAll xs (shufL seed xs.length) (t + 1) = spRow xs (shufL seed xs.length) t (spAll xs (shufL seed xs.length) t) m := by rw [spAll, HOL.out, ← HHV.out]
                exact ⟨t + 1, vo, vd, by omega, by go_num, by rw [e], by rw [e]; exact OV.out, by rw [e]; exact HNE.out, by rw [e]; exact HNG.out, by rw [e]; exact OU.out, HQQ.out, HL2.out⟩
              case measure => simp [intOf]; omega
        · have hlt' : ¬ (t : Int) < T := by omega
          obtain rfl : t = T := by omega
          go_wp2_with (first | (with_reducible refine wp_region_grew2 (by kernel_rfl) (by kernel_rfl) ?_; intro w2 hb; (first | have hn := nw4 hb hall (by exact zo) | have hn := nw3 hb hall (by exact zo) | have hn := nw2 hb hall (by exact zo) | have hn := nw1 hb hall (by exact zo) | have hn := nw0 hb hall (by exact zo)); obtain ⟨hc, hf, hn, hc0⟩ := hn; replace hall := hn; clear hn; have hz := hb.size; (try simp only [World.size_alloc, World.size_setCell, World.size_drew] at hz); have hx := hall; (try simp only [allLt, and_true] at hx); obtain ⟨w1, rfl⟩ : ∃ x, x = w2 := ⟨_, rfl⟩; (repeat (go_big_quiet_step (fail))); refine wpQuiet_nil ?_; intro w2 hw'; have hb := grew_below hw'; clear hw'; (first | have hn := nw4 hb hall (by exact zo) | have hn := nw3 hb hall (by exact zo) | have hn := nw2 hb hall (by exact zo) | have hn := nw1 hb hall (by exact zo) | have hn := nw0 hb hall (by exact zo)); obtain ⟨hc, hf, hn, hc0⟩ := hn; replace hall := hn; clear hn; have hz := hb.size; (try simp only [World.size_alloc, World.size_setCell, World.size_drew] at hz); have hx := hall; (try simp only [allLt, and_true] at hx); obtain ⟨w1, rfl⟩ : ∃ x, x = w2 := ⟨_, rfl⟩))
          go_ret2
          exact ⟨_, rfl, OV.out, HL.out⟩

end Go.Proofs.Ytkdafincnmkjnaa
