/-
  The shuffled numbers, both sides.
-/
import Derived.Test.YtkdafincnmkjnaaTake
import Derived.Test.YtkdafincnmkjnaaKDef
import Derived.Deep.RegionWith
set_option linter.unusedVariables false
set_option linter.unusedSimpArgs false
namespace Go.Proofs.Ytkdafincnmkjnaa
open Go.RowKit
def upto (n : Nat) : List Int := (List.range n).map fun (i : Nat) => (i : Int)
theorem upto_len (n : Nat) : (upto n).length = n := by simp [upto]
theorem upto_succ (n : Nat) : upto (n + 1) = upto n ++ [(n : Int)] := by simp [upto, List.range_succ]
def swapL (xs : List Int) (i k : Nat) : List Int := (xs.set i (xs.getD k 0)).set k (xs.getD i 0)
def shuf : Nat → List Int → Int → List Int × Int
  | 0, xs, s => (xs, s)
  | j + 1, xs, s => shuf j (swapL xs (j + 1) (chooseK s ((j : Int) + 1 + 1)).toNat) (chooseS s ((j : Int) + 1 + 1))
def shufL (s n : Int) : List Int := if between s 0 1073741823 && between n 0 64 then (shuf (n.toNat - 1) (upto n.toNat) s).1 else []
def shufS (s n : Int) : Int := if between s 0 1073741823 && between n 0 64 then (shuf (n.toNat - 1) (upto n.toNat) s).2 else s
def NewShuf (w : World) (s n : Int) (e : Ending) (w' : World) : Prop := ∃ v, e = .returned (.tuple #[v, .int .i64 (shufS s n)]) ∧ OwnI w.heap.size w' v (shufL s n) ∧ Below w.heap.size w w'
theorem upto_in (n : Nat) : ∀ x ∈ upto n, 0 ≤ x ∧ x < n := by
  intro x hx
  simp only [upto, List.mem_map, List.mem_range] at hx
  obtain ⟨i, hi, rfl⟩ := hx
  omega
theorem chooseS_in {s n : Int} (hs : between s 0 1073741823 = true) (hn : between n 1 1000 = true) : between (chooseS s n) 0 1073741823 = true := by
  unfold chooseS chooseOk
  rw [hs, hn]
  exact between_iff.2 (nextSeed_in s)
theorem swapL_len (xs : List Int) (i k : Nat) : (swapL xs i k).length = xs.length := by simp [swapL]
theorem swapL_in {xs : List Int} {n i k : Nat} (h : ∀ x ∈ xs, 0 ≤ x ∧ x < n) (hi : i < xs.length) (hk : k < xs.length) : ∀ x ∈ swapL xs i k, 0 ≤ x ∧ x < n := by
  intro x hx
  have g : ∀ m, m < xs.length → 0 ≤ xs.getD m 0 ∧ xs.getD m 0 < n := fun m hm => by
    rw [List.getD_eq_getElem?_getD, List.getElem?_eq_getElem hm, Option.getD_some]; exact h _ (List.getElem_mem _)
  unfold swapL at hx
  rcases List.mem_or_eq_of_mem_set hx with hx | rfl
  · rcases List.mem_or_eq_of_mem_set hx with hx | rfl
    · exact h x hx
    · exact g k hk
  · exact g i hi
set_option maxRecDepth 20000 in
set_option maxHeartbeats 1600000 in
theorem i_Shuffled (s n0 : Int) (w : World) : Calls Try.prog 94 #[.int .i64 s, .int .i64 n0] w (NewShuf w s n0) := by
  unfold NewShuf
  cases h1 : between s 0 1073741823
  · rw [show shufL s n0 = [] by unfold shufL; rw [h1]; rfl, show shufS s n0 = s by unfold shufS; rw [h1]; rfl]
    
    (have hall := all_nil w; go_enter Try.func94, Try.ntmps94)
    go_wp2_with (first | (go_at_call 93; (first | (refine (i_seedOk _ true (by assumption) _).mono ?_) | (refine (i_seedOk _ false (by assumption) _).mono ?_) | (refine (i_seedOk _ _ rfl _).mono ?_)); rintro e w2 ⟨rfl, rfl⟩) | (go_at_call 90; (first | (refine (i_between _ _ _ true (by assumption) _).mono ?_) | (refine (i_between _ _ _ false (by assumption) _).mono ?_) | (refine (i_between _ _ _ _ rfl _).mono ?_)); rintro e w2 ⟨rfl, rfl⟩) | (with_reducible refine wp_region_grew2 (by kernel_rfl) (by kernel_rfl) ?_; intro w2 hb; (first | have hn := nw4 hb hall (by exact zo) | have hn := nw3 hb hall (by exact zo) | have hn := nw2 hb hall (by exact zo) | have hn := nw1 hb hall (by exact zo) | have hn := nw0 hb hall (by exact zo)); obtain ⟨hc, hf, hn, hc0⟩ := hn; replace hall := hn; clear hn; have hz := hb.size; (try simp only [World.size_alloc, World.size_setCell, World.size_drew] at hz); have hx := hall; (try simp only [allLt, and_true] at hx); (try (have hO := HO.out; replace HO := Lib.hid (Own.below hO (w' := w2) (by exact bel)); clear hO)); obtain ⟨w1, rfl⟩ : ∃ x, x = w2 := ⟨_, rfl⟩; (repeat (go_big_quiet_step (first | (go_at_call 93; first | exact calls_same (i_seedOk _ true (by assumption) _) | exact calls_same (i_seedOk _ false (by assumption) _) | exact calls_same (i_seedOk _ _ rfl _)) | (go_at_call 90; first | exact calls_same (i_between _ _ _ true (by assumption) _) | exact calls_same (i_between _ _ _ false (by assumption) _) | exact calls_same (i_between _ _ _ _ rfl _))))); refine wpQuiet_nil ?_; intro w2 hw'; have hb := grew_below hw'; clear hw'; (first | have hn := nw4 hb hall (by exact zo) | have hn := nw3 hb hall (by exact zo) | have hn := nw2 hb hall (by exact zo) | have hn := nw1 hb hall (by exact zo) | have hn := nw0 hb hall (by exact zo)); obtain ⟨hc, hf, hn, hc0⟩ := hn; replace hall := hn; clear hn; have hz := hb.size; (try simp only [World.size_alloc, World.size_setCell, World.size_drew] at hz); have hx := hall; (try simp only [allLt, and_true] at hx); (try (have hO := HO.out; replace HO := Lib.hid (Own.below hO (w' := w2) (by exact bel)); clear hO)); obtain ⟨w1, rfl⟩ : ∃ x, x = w2 := ⟨_, rfl⟩))
    go_ret2
    exact ⟨_, rfl, Own.nil _ _ _ _ _, by exact bel⟩
  cases h2 : between n0 0 64
  · rw [show shufL s n0 = [] by unfold shufL; rw [h1, h2]; rfl, show shufS s n0 = s by unfold shufS; rw [h1, h2]; rfl]
    (have hall := all_nil w; go_enter Try.func94, Try.ntmps94)
    go_wp2_with (first | (go_at_call 93; (first | (refine (i_seedOk _ true (by assumption) _).mono ?_) | (refine (i_seedOk _ false (by assumption) _).mono ?_) | (refine (i_seedOk _ _ rfl _).mono ?_)); rintro e w2 ⟨rfl, rfl⟩) | (go_at_call 90; (first | (refine (i_between _ _ _ true (by assumption) _).mono ?_) | (refine (i_between _ _ _ false (by assumption) _).mono ?_) | (refine (i_between _ _ _ _ rfl _).mono ?_)); rintro e w2 ⟨rfl, rfl⟩) | (with_reducible refine wp_region_grew2 (by kernel_rfl) (by kernel_rfl) ?_; intro w2 hb; (first | have hn := nw4 hb hall (by exact zo) | have hn := nw3 hb hall (by exact zo) | have hn := nw2 hb hall (by exact zo) | have hn := nw1 hb hall (by exact zo) | have hn := nw0 hb hall (by exact zo)); obtain ⟨hc, hf, hn, hc0⟩ := hn; replace hall := hn; clear hn; have hz := hb.size; (try simp only [World.size_alloc, World.size_setCell, World.size_drew] at hz); have hx := hall; (try simp only [allLt, and_true] at hx); (try (have hO := HO.out; replace HO := Lib.hid (Own.below hO (w' := w2) (by exact bel)); clear hO)); obtain ⟨w1, rfl⟩ : ∃ x, x = w2 := ⟨_, rfl⟩; (repeat (go_big_quiet_step (first | (go_at_call 93; first | exact calls_same (i_seedOk _ true (by assumption) _) | exact calls_same (i_seedOk _ false (by assumption) _) | exact calls_same (i_seedOk _ _ rfl _)) | (go_at_call 90; first | exact calls_same (i_between _ _ _ true (by assumption) _) | exact calls_same (i_between _ _ _ false (by assumption) _) | exact calls_same (i_between _ _ _ _ rfl _))))); refine wpQuiet_nil ?_; intro w2 hw'; have hb := grew_below hw'; clear hw'; (first | have hn := nw4 hb hall (by exact zo) | have hn := nw3 hb hall (by exact zo) | have hn := nw2 hb hall (by exact zo) | have hn := nw1 hb hall (by exact zo) | have hn := nw0 hb hall (by exact zo)); obtain ⟨hc, hf, hn, hc0⟩ := hn; replace hall := hn; clear hn; have hz := hb.size; (try simp only [World.size_alloc, World.size_setCell, World.size_drew] at hz); have hx := hall; (try simp only [allLt, and_true] at hx); (try (have hO := HO.out; replace HO := Lib.hid (Own.below hO (w' := w2) (by exact bel)); clear hO)); obtain ⟨w1, rfl⟩ : ∃ x, x = w2 := ⟨_, rfl⟩))
    go_ret2
    exact ⟨_, rfl, Own.nil _ _ _ _ _, by exact bel⟩
  have b2 := between_iff.1 h2
  obtain ⟨n, rfl⟩ := Int.eq_ofNat_of_zero_le b2.1
  have hn : n ≤ 64 := by omega
  have HR : Hid (shufL s (n : Int) = (shuf (n - 1) (upto n) s).1 ∧ shufS s (n : Int) = (shuf (n - 1) (upto n) s).2) := by unfold Hid shufL shufS; rw [h1, h2]; simp
  rw [HR.out.1, HR.out.2]
  clear b2
  (have hall := all_nil w; go_enter Try.func94, Try.ntmps94)
  go_wp2_with (first | (go_at_call 93; (first | (refine (i_seedOk _ true (by assumption) _).mono ?_) | (refine (i_seedOk _ false (by assumption) _).mono ?_) | (refine (i_seedOk _ _ rfl _).mono ?_)); rintro e w2 ⟨rfl, rfl⟩) | (go_at_call 90; (first | (refine (i_between _ _ _ true (by assumption) _).mono ?_) | (refine (i_between _ _ _ false (by assumption) _).mono ?_) | (refine (i_between _ _ _ _ rfl _).mono ?_)); rintro e w2 ⟨rfl, rfl⟩) | (with_reducible refine wp_region_grew2 (by kernel_rfl) (by kernel_rfl) ?_; intro w2 hb; (first | have hn := nw4 hb hall (by exact zo) | have hn := nw3 hb hall (by exact zo) | have hn := nw2 hb hall (by exact zo) | have hn := nw1 hb hall (by exact zo) | have hn := nw0 hb hall (by exact zo)); obtain ⟨hc, hf, hn, hc0⟩ := hn; replace hall := hn; clear hn; have hz := hb.size; (try simp only [World.size_alloc, World.size_setCell, World.size_drew] at hz); have hx := hall; (try simp only [allLt, and_true] at hx); (try (have hO := HO.out; replace HO := Lib.hid (Own.below hO (w' := w2) (by exact bel)); clear hO)); obtain ⟨w1, rfl⟩ : ∃ x, x = w2 := ⟨_, rfl⟩; (repeat (go_big_quiet_step (first | (go_at_call 93; first | exact calls_same (i_seedOk _ true (by assumption) _) | exact calls_same (i_seedOk _ false (by assumption) _) | exact calls_same (i_seedOk _ _ rfl _)) | (go_at_call 90; first | exact calls_same (i_between _ _ _ true (by assumption) _) | exact calls_same (i_between _ _ _ false (by assumption) _) | exact calls_same (i_between _ _ _ _ rfl _))))); refine wpQuiet_nil ?_; intro w2 hw'; have hb := grew_below hw'; clear hw'; (first | have hn := nw4 hb hall (by exact zo) | have hn := nw3 hb hall (by exact zo) | have hn := nw2 hb hall (by exact zo) | have hn := nw1 hb hall (by exact zo) | have hn := nw0 hb hall (by exact zo)); obtain ⟨hc, hf, hn, hc0⟩ := hn; replace hall := hn; clear hn; have hz := hb.size; (try simp only [World.size_alloc, World.size_setCell, World.size_drew] at hz); have hx := hall; (try simp only [allLt, and_true] at hx); (try (have hO := HO.out; replace HO := Lib.hid (Own.below hO (w' := w2) (by exact bel)); clear hO)); obtain ⟨w1, rfl⟩ : ∃ x, x = w2 := ⟨_, rfl⟩))
  go_loopw [6, 7] (fun o i wr => ∃ k : Nat, k ≤ n ∧ i = .int .i64 k ∧ OwnI w.heap.size wr o (upto k) ∧ Below w.heap.size w wr) (fun _ i _ => n - (intOf i).toNat)
  case atStart => exact ⟨0, Nat.zero_le _, rfl, Own.empty' _ _ _ _ _ _ rfl (Nat.le_refl _), by exact bel⟩
  case round =>
    obtain ⟨k, hk, rfl, hown, hbel⟩ := hrel
    have HO := Lib.hid hown; have HB := Lib.hid hbel; have hsz := hbel.size
    clear hown hbel
    by_cases hlt : k < n
    · have hlt' : (k : Int) < n := by omega
      have hul := upto_len k
      go_wp2_with (first | (at_builtin; refine append1 elemInt rfl _ _ rfl lenInt oneInt rfl (HO.out.alloc _) (by simp only [World.size_alloc]; omega) rfl (k : Int) (intCell _ _) (by unfold maxLen; omega) ?_; intro v2 w2 hown2 _ hb2))
      go_roundw
      case rel => exact ⟨k + 1, by omega, by go_num, by rw [upto_succ]; exact hown2, ((HB.out.alloc hsz _).trans hb2)⟩
      case measure => simp [intOf]; omega
    · have hlt' : ¬ (k : Int) < n := by omega
      obtain rfl : k = n := by omega
      obtain ⟨vo, vc, hvs, -, -, hvb⟩ := HO.out.shape
      rw [upto_len] at hvs
      obtain ⟨w1, rfl⟩ : ∃ x, x = wr := ⟨_, rfl⟩
      subst hvs
      go_wp2_with fail
      go_loopw [0, 8] (fun sd i wr => ∃ (j : Nat) (xs : List Int) (s' : Int), j ≤ k ∧ i = .int .i64 ((j : Int) - 1) ∧ sd = .int .i64 s' ∧ xs.length = k ∧ (∀ x ∈ xs, 0 ≤ x ∧ x < k) ∧ between s' 0 1073741823 = true ∧ shuf (j - 1) xs s' = shuf (k - 1) (upto k) s ∧ OwnI w.heap.size wr (.slice vo k vc) xs ∧ Below w.heap.size w wr) (fun _ i _ => (intOf i + 1).toNat)
      case atStart => exact ⟨k, upto k, s, Nat.le_refl _, by go_num, rfl, upto_len k, upto_in k, h1, rfl, HO.out, HB.out⟩
      case round =>
        clear HO HB
        obtain ⟨j, xs, s', hj, hi, rfl, hxl, hxs, hs', heq, hown, hbel⟩ := hrel
        have HX := Lib.hid hxs; have HL := Lib.hid hxl; have HE := Lib.hid heq; have HO := Lib.hid hown; have HB := Lib.hid hbel
        have hsz2 := hbel.size
        clear hxs hxl heq hown hbel
        obtain ⟨w1, rfl⟩ : ∃ x, x = wr := ⟨_, rfl⟩
        by_cases hlt2 : 2 ≤ j
        · obtain ⟨m, rfl⟩ : ∃ m, j = m + 2 := ⟨j - 2, by omega⟩
          have hi2 : u8 = .int .i64 ((m : Int) + 1) := by rw [hi]; go_num
          clear hi
          subst hi2
          have hc : (0 : Int) < (m : Int) + 1 := by omega
          obtain ⟨kk, hkk⟩ := Int.eq_ofNat_of_zero_le (chooseK_in (s := s') (n := (m : Int) + 1 + 1) (by omega)).1
          have hk2 := (chooseK_in (s := s') (n := (m : Int) + 1 + 1) (by omega)).2
          rw [hkk] at hk2
          have hss := chooseS_in hs' (show between ((m : Int) + 1 + 1) 1 1000 = true from between_iff.2 (by omega))
          have HK := Lib.hid hkk; have HS := Lib.hid hss
          clear hkk hss
          obtain ⟨g, gc, he, hBg, hg⟩ := Own.addr HO.out (by rw [HL.out]; omega)
          simp only [Value.slice.injEq] at he
          obtain ⟨rfl, -, rfl⟩ := he
          have hkN : kk < k := by omega
          have hkI : (kk : Int) < k := by omega
          have hmI : (m : Int) + 1 < k := by omega
          obtain ⟨x1, hx1⟩ := getx (xs := xs) (k := m + 1) (by rw [HL.out]; omega)
          obtain ⟨x2, hx2⟩ := getx (xs := xs) (k := kk) (by rw [HL.out]; omega)
          obtain ⟨-, -, e1, z1⟩ := OwnI.slotI HO.out hx1
          obtain ⟨-, -, e2, z2⟩ := OwnI.slotI HO.out hx2
          have HX1 := Lib.hid hx1; have HX2 := Lib.hid hx2
          clear hx1 hx2
          rcases Nat.decEq (m + 1) kk with hmk | hmk
          · have hmk2 : ¬ kk = m + 1 := fun e => hmk e.symm
            go_wp2_with (go_at_call 122; refine (i_Choose _ _ _).mono ?_; rintro e w2 ⟨rfl, rfl⟩; rw [HK.out])
            go_region_with (fail)
            all_goals go_wp2_with fail
            all_goals go_roundw
            all_goals try (case measure => simp [intOf]; omega)
            all_goals (
              have hO : OwnI w.heap.size w1.drew (.slice (some ⟨g, 0, none⟩) k vc) xs := HO.out.drew
              have s1 := (Own.set1 lenInt hO rfl (m + 1) (.int .i64 x2) x2 rfl).1
              have s2 := (Own.set1 lenInt s1 rfl kk (.int .i64 x1) x1 rfl).1
              have es : (xs.set (m + 1) x2).set kk x1 = swapL xs (m + 1) kk := by unfold swapL; rw [getD_of HX1.out, getD_of HX2.out]
              have hB := HB.out
              rw [es] at s2
              exact ⟨m + 1, swapL xs (m + 1) kk, chooseS s' ((m : Int) + 1 + 1), by omega, by go_num, rfl, by rw [swapL_len]; exact HL.out, swapL_in HX.out (by rw [HL.out]; omega) (by rw [HL.out]; omega), HS.out, by rw [← HE.out]; show shuf m _ _ = shuf (m + 1) xs s'; rw [shuf, HK.out, Int.toNat_natCast], s2, by exact bel⟩)
          · subst hmk
            obtain rfl : x1 = x2 := by have := HX1.out.symm.trans HX2.out; simpa using this
            go_wp2_with (go_at_call 122; refine (i_Choose _ _ _).mono ?_; rintro e w2 ⟨rfl, rfl⟩; rw [HK.out])
            go_region_with (fail)
            all_goals go_wp2_with fail
            all_goals go_roundw
            all_goals try (case measure => simp [intOf]; omega)
            all_goals (
              have hO : OwnI w.heap.size w1.drew (.slice (some ⟨g, 0, none⟩) k vc) xs := HO.out.drew
              have s1 := (Own.set1 lenInt hO rfl (m + 1) (.int .i64 x1) x1 rfl).1
              have s2 := (Own.set1 lenInt s1 rfl (m + 1) (.int .i64 x1) x1 rfl).1
              have es : (xs.set (m + 1) x1).set (m + 1) x1 = swapL xs (m + 1) (m + 1) := by unfold swapL; rw [getD_of HX1.out]
              have hB := HB.out
              rw [es] at s2
              exact ⟨m + 1, swapL xs (m + 1) (m + 1), chooseS s' ((m : Int) + 1 + 1), by omega, by go_num, rfl, by rw [swapL_len]; exact HL.out, swapL_in HX.out (by rw [HL.out]; omega) (by rw [HL.out]; omega), HS.out, by rw [← HE.out]; show shuf m _ _ = shuf (m + 1) xs s'; rw [shuf, HK.out, Int.toNat_natCast], s2, by exact bel⟩)
        · have hi0 : ∃ z : Int, u8 = .int .i64 z ∧ z ≤ 0 := ⟨(j : Int) - 1, hi, by omega⟩
          obtain ⟨z, hz, hz0⟩ := hi0
          clear hi
          subst hz
          have hz1 : ¬ (0 : Int) < z := by omega
          have hj0 : j - 1 = 0 := by omega
          have he := HE.out
          rw [hj0] at he
          have HF := Lib.hid he; clear he hj0
          go_wp2_with fail
          go_ret2
          exact ⟨_, by rw [← HF.out]; rfl, by rw [← HF.out]; exact HO.out, HB.out⟩

set_option maxRecDepth 20000 in
set_option maxHeartbeats 1600000 in
theorem s_Shuffled (s n0 : Int) (w : World) : Calls Try.prog 42 #[.int .i64 s, .int .i64 n0] w (NewShuf w s n0) := by
  unfold NewShuf
  cases h1 : between s 0 1073741823
  · rw [show shufL s n0 = [] by unfold shufL; rw [h1]; rfl, show shufS s n0 = s by unfold shufS; rw [h1]; rfl]
    cases h2 : between n0 0 64
    all_goals (have hall := all_nil w; go_enter Try.func42, Try.ntmps42)
    all_goals go_wp2_with (first | (go_at_call 88; (first | (refine (s_l01In _ _ _ true (by assumption) _).mono ?_) | (refine (s_l01In _ _ _ false (by assumption) _).mono ?_) | (refine (s_l01In _ _ _ _ rfl _).mono ?_)); rintro e w2 ⟨rfl, rfl⟩) | (with_reducible refine wp_region_grew2 (by kernel_rfl) (by kernel_rfl) ?_; intro w2 hb; (first | have hn := nw4 hb hall (by exact zo) | have hn := nw3 hb hall (by exact zo) | have hn := nw2 hb hall (by exact zo) | have hn := nw1 hb hall (by exact zo) | have hn := nw0 hb hall (by exact zo)); obtain ⟨hc, hf, hn, hc0⟩ := hn; replace hall := hn; clear hn; have hz := hb.size; (try simp only [World.size_alloc, World.size_setCell, World.size_drew] at hz); have hx := hall; (try simp only [allLt, and_true] at hx); (try (have hO := HO.out; replace HO := Lib.hid (Own.below hO (w' := w2) (by exact bel)); clear hO)); obtain ⟨w1, rfl⟩ : ∃ x, x = w2 := ⟨_, rfl⟩; (repeat (go_big_quiet_step (first | (go_at_call 88; first | exact calls_same (s_l01In _ _ _ true (by assumption) _) | exact calls_same (s_l01In _ _ _ false (by assumption) _) | exact calls_same (s_l01In _ _ _ _ rfl _))))); refine wpQuiet_nil ?_; intro w2 hw'; have hb := grew_below hw'; clear hw'; (first | have hn := nw4 hb hall (by exact zo) | have hn := nw3 hb hall (by exact zo) | have hn := nw2 hb hall (by exact zo) | have hn := nw1 hb hall (by exact zo) | have hn := nw0 hb hall (by exact zo)); obtain ⟨hc, hf, hn, hc0⟩ := hn; replace hall := hn; clear hn; have hz := hb.size; (try simp only [World.size_alloc, World.size_setCell, World.size_drew] at hz); have hx := hall; (try simp only [allLt, and_true] at hx); (try (have hO := HO.out; replace HO := Lib.hid (Own.below hO (w' := w2) (by exact bel)); clear hO)); obtain ⟨w1, rfl⟩ : ∃ x, x = w2 := ⟨_, rfl⟩))
    all_goals go_ret2
    all_goals exact ⟨_, rfl, Own.empty' _ _ _ _ _ _ rfl (by exact zo), by exact bel⟩
  cases h2 : between n0 0 64
  · rw [show shufL s n0 = [] by unfold shufL; rw [h1, h2]; rfl, show shufS s n0 = s by unfold shufS; rw [h1, h2]; rfl]
    (have hall := all_nil w; go_enter Try.func42, Try.ntmps42)
    go_wp2_with (first | (go_at_call 88; (first | (refine (s_l01In _ _ _ true (by assumption) _).mono ?_) | (refine (s_l01In _ _ _ false (by assumption) _).mono ?_) | (refine (s_l01In _ _ _ _ rfl _).mono ?_)); rintro e w2 ⟨rfl, rfl⟩) | (with_reducible refine wp_region_grew2 (by kernel_rfl) (by kernel_rfl) ?_; intro w2 hb; (first | have hn := nw4 hb hall (by exact zo) | have hn := nw3 hb hall (by exact zo) | have hn := nw2 hb hall (by exact zo) | have hn := nw1 hb hall (by exact zo) | have hn := nw0 hb hall (by exact zo)); obtain ⟨hc, hf, hn, hc0⟩ := hn; replace hall := hn; clear hn; have hz := hb.size; (try simp only [World.size_alloc, World.size_setCell, World.size_drew] at hz); have hx := hall; (try simp only [allLt, and_true] at hx); (try (have hO := HO.out; replace HO := Lib.hid (Own.below hO (w' := w2) (by exact bel)); clear hO)); obtain ⟨w1, rfl⟩ : ∃ x, x = w2 := ⟨_, rfl⟩; (repeat (go_big_quiet_step (first | (go_at_call 88; first | exact calls_same (s_l01In _ _ _ true (by assumption) _) | exact calls_same (s_l01In _ _ _ false (by assumption) _) | exact calls_same (s_l01In _ _ _ _ rfl _))))); refine wpQuiet_nil ?_; intro w2 hw'; have hb := grew_below hw'; clear hw'; (first | have hn := nw4 hb hall (by exact zo) | have hn := nw3 hb hall (by exact zo) | have hn := nw2 hb hall (by exact zo) | have hn := nw1 hb hall (by exact zo) | have hn := nw0 hb hall (by exact zo)); obtain ⟨hc, hf, hn, hc0⟩ := hn; replace hall := hn; clear hn; have hz := hb.size; (try simp only [World.size_alloc, World.size_setCell, World.size_drew] at hz); have hx := hall; (try simp only [allLt, and_true] at hx); (try (have hO := HO.out; replace HO := Lib.hid (Own.below hO (w' := w2) (by exact bel)); clear hO)); obtain ⟨w1, rfl⟩ : ∃ x, x = w2 := ⟨_, rfl⟩))
    go_ret2
    exact ⟨_, rfl, Own.empty' _ _ _ _ _ _ rfl (by exact zo), by exact bel⟩
  have b2 := between_iff.1 h2
  obtain ⟨n, rfl⟩ := Int.eq_ofNat_of_zero_le b2.1
  have hn : n ≤ 64 := by omega
  have HR : Hid (shufL s (n : Int) = (shuf (n - 1) (upto n) s).1 ∧ shufS s (n : Int) = (shuf (n - 1) (upto n) s).2) := by unfold Hid shufL shufS; rw [h1, h2]; simp
  rw [HR.out.1, HR.out.2]
  clear b2
  (have hall := all_nil w; go_enter Try.func42, Try.ntmps42)
  go_wp2_with (first | (go_at_call 88; (first | (refine (s_l01In _ _ _ true (by assumption) _).mono ?_) | (refine (s_l01In _ _ _ false (by assumption) _).mono ?_) | (refine (s_l01In _ _ _ _ rfl _).mono ?_)); rintro e w2 ⟨rfl, rfl⟩) | (with_reducible refine wp_region_grew2 (by kernel_rfl) (by kernel_rfl) ?_; intro w2 hb; (first | have hn := nw4 hb hall (by exact zo) | have hn := nw3 hb hall (by exact zo) | have hn := nw2 hb hall (by exact zo) | have hn := nw1 hb hall (by exact zo) | have hn := nw0 hb hall (by exact zo)); obtain ⟨hc, hf, hn, hc0⟩ := hn; replace hall := hn; clear hn; have hz := hb.size; (try simp only [World.size_alloc, World.size_setCell, World.size_drew] at hz); have hx := hall; (try simp only [allLt, and_true] at hx); (try (have hO := HO.out; replace HO := Lib.hid (Own.below hO (w' := w2) (by exact bel)); clear hO)); obtain ⟨w1, rfl⟩ : ∃ x, x = w2 := ⟨_, rfl⟩; (repeat (go_big_quiet_step (first | (go_at_call 88; first | exact calls_same (s_l01In _ _ _ true (by assumption) _) | exact calls_same (s_l01In _ _ _ false (by assumption) _) | exact calls_same (s_l01In _ _ _ _ rfl _))))); refine wpQuiet_nil ?_; intro w2 hw'; have hb := grew_below hw'; clear hw'; (first | have hn := nw4 hb hall (by exact zo) | have hn := nw3 hb hall (by exact zo) | have hn := nw2 hb hall (by exact zo) | have hn := nw1 hb hall (by exact zo) | have hn := nw0 hb hall (by exact zo)); obtain ⟨hc, hf, hn, hc0⟩ := hn; replace hall := hn; clear hn; have hz := hb.size; (try simp only [World.size_alloc, World.size_setCell, World.size_drew] at hz); have hx := hall; (try simp only [allLt, and_true] at hx); (try (have hO := HO.out; replace HO := Lib.hid (Own.below hO (w' := w2) (by exact bel)); clear hO)); obtain ⟨w1, rfl⟩ : ∃ x, x = w2 := ⟨_, rfl⟩))
  go_loopw [6, 7] (fun o i wr => ∃ k : Nat, k ≤ n ∧ i = .int .i64 k ∧ OwnI w.heap.size wr o (upto k) ∧ Below w.heap.size w wr) (fun _ i _ => n - (intOf i).toNat)
  case atStart => exact ⟨0, Nat.zero_le _, rfl, Own.empty' _ _ _ _ _ _ rfl (Nat.le_refl _), by exact bel⟩
  case round =>
    obtain ⟨k, hk, rfl, hown, hbel⟩ := hrel
    have HO := Lib.hid hown; have HB := Lib.hid hbel; have hsz := hbel.size
    clear hown hbel
    by_cases hlt : k < n
    · have hlt' : (k : Int) < n := by omega
      have hul := upto_len k
      go_wp2_with (first | (at_builtin; refine append1 elemInt rfl _ _ rfl lenInt oneInt rfl (HO.out.alloc _) (by simp only [World.size_alloc]; omega) rfl (k : Int) (intCell _ _) (by unfold maxLen; omega) ?_; intro v2 w2 hown2 _ hb2))
      go_roundw
      case rel => exact ⟨k + 1, by omega, by go_num, by rw [upto_succ]; exact hown2, ((HB.out.alloc hsz _).trans hb2)⟩
      case measure => simp [intOf]; omega
    · have hlt' : ¬ (k : Int) < n := by omega
      obtain rfl : k = n := by omega
      obtain ⟨vo, vc, hvs, -, -, hvb⟩ := HO.out.shape
      rw [upto_len] at hvs
      obtain ⟨w1, rfl⟩ : ∃ x, x = wr := ⟨_, rfl⟩
      subst hvs
      go_wp2_with fail
      go_loopw [0, 8] (fun sd i wr => ∃ (j : Nat) (xs : List Int) (s' : Int), j ≤ k ∧ i = .int .i64 ((j : Int) - 1) ∧ sd = .int .i64 s' ∧ xs.length = k ∧ (∀ x ∈ xs, 0 ≤ x ∧ x < k) ∧ between s' 0 1073741823 = true ∧ shuf (j - 1) xs s' = shuf (k - 1) (upto k) s ∧ OwnI w.heap.size wr (.slice vo k vc) xs ∧ Below w.heap.size w wr) (fun _ i _ => (intOf i + 1).toNat)
      case atStart => exact ⟨k, upto k, s, Nat.le_refl _, by go_num, rfl, upto_len k, upto_in k, h1, rfl, HO.out, HB.out⟩
      case round =>
        clear HO HB
        obtain ⟨j, xs, s', hj, hi, rfl, hxl, hxs, hs', heq, hown, hbel⟩ := hrel
        have HX := Lib.hid hxs; have HL := Lib.hid hxl; have HE := Lib.hid heq; have HO := Lib.hid hown; have HB := Lib.hid hbel
        have hsz2 := hbel.size
        clear hxs hxl heq hown hbel
        obtain ⟨w1, rfl⟩ : ∃ x, x = wr := ⟨_, rfl⟩
        by_cases hlt2 : 2 ≤ j
        · obtain ⟨m, rfl⟩ : ∃ m, j = m + 2 := ⟨j - 2, by omega⟩
          have hi2 : u8 = .int .i64 ((m : Int) + 1) := by rw [hi]; go_num
          clear hi
          subst hi2
          have hc : (1 : Int) ≤ (m : Int) + 1 := by omega
          obtain ⟨kk, hkk⟩ := Int.eq_ofNat_of_zero_le (chooseK_in (s := s') (n := (m : Int) + 1 + 1) (by omega)).1
          have hk2 := (chooseK_in (s := s') (n := (m : Int) + 1 + 1) (by omega)).2
          rw [hkk] at hk2
          have hss := chooseS_in hs' (show between ((m : Int) + 1 + 1) 1 1000 = true from between_iff.2 (by omega))
          have HK := Lib.hid hkk; have HS := Lib.hid hss
          clear hkk hss
          obtain ⟨g, gc, he, hBg, hg⟩ := Own.addr HO.out (by rw [HL.out]; omega)
          simp only [Value.slice.injEq] at he
          obtain ⟨rfl, -, rfl⟩ := he
          have hkN : kk < k := by omega
          have hkI : (kk : Int) < k := by omega
          have hmI : (m : Int) + 1 < k := by omega
          obtain ⟨x1, hx1⟩ := getx (xs := xs) (k := m + 1) (by rw [HL.out]; omega)
          obtain ⟨x2, hx2⟩ := getx (xs := xs) (k := kk) (by rw [HL.out]; omega)
          obtain ⟨-, -, e1, z1⟩ := OwnI.slotI HO.out hx1
          obtain ⟨-, -, e2, z2⟩ := OwnI.slotI HO.out hx2
          have HX1 := Lib.hid hx1; have HX2 := Lib.hid hx2
          clear hx1 hx2
          rcases Nat.decEq (m + 1) kk with hmk | hmk
          · have hmk2 : ¬ kk = m + 1 := fun e => hmk e.symm
            go_wp2_with (go_at_call 97; refine (s_Choose _ _ _).mono ?_; rintro e w2 ⟨rfl, rfl⟩; rw [HK.out])
            skip
            all_goals go_wp2_with fail
            all_goals go_roundw
            all_goals try (case measure => simp [intOf]; omega)
            all_goals (
              have hO : OwnI w.heap.size w1 (.slice (some ⟨g, 0, none⟩) k vc) xs := HO.out
              have s1 := (Own.set1 lenInt hO rfl (m + 1) (.int .i64 x2) x2 rfl).1
              have s2 := (Own.set1 lenInt s1 rfl kk (.int .i64 x1) x1 rfl).1
              have es : (xs.set (m + 1) x2).set kk x1 = swapL xs (m + 1) kk := by unfold swapL; rw [getD_of HX1.out, getD_of HX2.out]
              have hB := HB.out
              rw [es] at s2
              exact ⟨m + 1, swapL xs (m + 1) kk, chooseS s' ((m : Int) + 1 + 1), by omega, by go_num, rfl, by rw [swapL_len]; exact HL.out, swapL_in HX.out (by rw [HL.out]; omega) (by rw [HL.out]; omega), HS.out, by rw [← HE.out]; show shuf m _ _ = shuf (m + 1) xs s'; rw [shuf, HK.out, Int.toNat_natCast], s2, by exact bel⟩)
          · subst hmk
            obtain rfl : x1 = x2 := by have := HX1.out.symm.trans HX2.out; simpa using this
            go_wp2_with (go_at_call 97; refine (s_Choose _ _ _).mono ?_; rintro e w2 ⟨rfl, rfl⟩; rw [HK.out])
            skip
            all_goals go_wp2_with fail
            all_goals go_roundw
            all_goals try (case measure => simp [intOf]; omega)
            all_goals (
              have hO : OwnI w.heap.size w1 (.slice (some ⟨g, 0, none⟩) k vc) xs := HO.out
              have s1 := (Own.set1 lenInt hO rfl (m + 1) (.int .i64 x1) x1 rfl).1
              have s2 := (Own.set1 lenInt s1 rfl (m + 1) (.int .i64 x1) x1 rfl).1
              have es : (xs.set (m + 1) x1).set (m + 1) x1 = swapL xs (m + 1) (m + 1) := by unfold swapL; rw [getD_of HX1.out]
              have hB := HB.out
              rw [es] at s2
              exact ⟨m + 1, swapL xs (m + 1) (m + 1), chooseS s' ((m : Int) + 1 + 1), by omega, by go_num, rfl, by rw [swapL_len]; exact HL.out, swapL_in HX.out (by rw [HL.out]; omega) (by rw [HL.out]; omega), HS.out, by rw [← HE.out]; show shuf m _ _ = shuf (m + 1) xs s'; rw [shuf, HK.out, Int.toNat_natCast], s2, by exact bel⟩)
        · have hi0 : ∃ z : Int, u8 = .int .i64 z ∧ z ≤ 0 := ⟨(j : Int) - 1, hi, by omega⟩
          obtain ⟨z, hz, hz0⟩ := hi0
          clear hi
          subst hz
          have hz1 : ¬ (1 : Int) ≤ z := by omega
          have hj0 : j - 1 = 0 := by omega
          have he := HE.out
          rw [hj0] at he
          have HF := Lib.hid he; clear he hj0
          go_wp2_with fail
          go_ret2
          exact ⟨_, by rw [← HF.out]; rfl, by rw [← HF.out]; exact HO.out, HB.out⟩

end Go.Proofs.Ytkdafincnmkjnaa
