/-
  Texts put together: Fam.
-/
import Derived.Test.YtmblkllijjlkoaaGreatGB7
/-
  The laws' functions on slices of ints, bools, entries: their size, a copy of the call's own, equal, marked, held.
-/
set_option linter.unusedVariables false
set_option linter.unusedSimpArgs false
namespace Go.Proofs.YtmblkllijjlkoaaGreat
open Go.RowKit
theorem zeroInt : fInt 0 = (Value.int .i64 0).cells.toList := rfl
theorem l_szIntS (ao : Option Addr) (n cap : Nat) (hn : n ≤ maxLen) (left : Int) (hl : 0 ≤ left ∧ left ≤ 1048576) (w : World) : Calls Tryz.prog 47 #[.slice ao n cap, .int .i64 left] w fun e w' => e = .returned (.int .i64 (if left - n < 0 then -1 else left - n)) ∧ w = w' := by
  have hm : n ≤ 9223372036854775807 := by unfold maxLen at hn; omega
  clear hn
  by_cases h : left - n < 0
  all_goals (have hall := all_nil w; go_enter Tryz.func47, Tryz.ntmps47)
  all_goals go_wp2
  all_goals (go_ret; exact ⟨by simp [h], rfl⟩)
theorem l_toIntS (va : Value) (xs : List Int) (hx : xs.length ≤ 1048576) (w : World) (ha : IntsAt w va xs) : Calls Tryz.prog 37 #[va] w fun e w' => ∃ v, e = .returned v ∧ OwnI w.heap.size w' v xs ∧ Below w.heap.size w w' := by
  obtain ⟨ao, ca, rfl, h1, h2, hr⟩ := IntsAt.open ha
  obtain ⟨n, hn⟩ : ∃ n, n = xs.length := ⟨_, rfl⟩
  have HN := Lib.hid hn
  rw [← hn] at hx h1
  have HA := Lib.hid hr; clear hr ha
  rw [← hn]
  clear hn
  (have hall := all_nil w; go_enter Tryz.func37, Tryz.ntmps37)
  go_wp2_with (at_make; go_loud (refine make1 elemInt rfl _ _ rfl zeroInt .i64 .i64 n rfl rfl (by omega) (by unfold maxLen; omega) ?_); intro v2 w2 hv hown hb)
  go_loopw [4] (fun i wr => ∃ j : Nat, j ≤ n ∧ i = .int .i64 j ∧ OwnI w.heap.size wr v2 (xs.take j ++ List.replicate (n - j) 0) ∧ Below w.heap.size w wr) (fun i _ => n - (intOf i).toNat)
  case atStart => exact ⟨0, Nat.zero_le _, rfl, by simpa using hown, hb⟩
  case round =>
    obtain ⟨j, hj, rfl, hown, hbel⟩ := hrel
    have HO := Lib.hid hown; have HB := Lib.hid hbel
    have hsz := hbel.size
    clear hown hbel
    by_cases hlt : j < n
    · have hlt' : (j : Int) < n := by omega
      have hltx : j < xs.length := by have := HN.out; omega
      obtain ⟨x, hx'⟩ := getx hltx
      obtain ⟨ga, oa, rfl, hga, a0⟩ := HA.out j x hx'
      replace a0 := (HB.out.cell (p := ⟨ga, oa + j, none⟩) hga).trans a0
      have HX := Lib.hid hx'; clear hx' hltx
      subst hv
      clear hown
      have hlen : (xs.take j ++ List.replicate (n - j) (0 : Int)).length = n := by have := HN.out; simp; omega
      obtain ⟨y, hy⟩ := getx (xs := xs.take j ++ List.replicate (n - j) (0 : Int)) (k := j) (by omega)
      obtain ⟨hBg, hgo, e0, f0⟩ := OwnI.slotI HO.out hy
      clear hy
      (obtain ⟨w1, rfl⟩ : ∃ x, x = wr := ⟨_, rfl⟩; have hall : allLt [ga, w.heap.size] w1.heap.size := ⟨by omega, by omega, trivial⟩; have hx := hall; (try simp only [allLt, and_true] at hx))
      go_wp2_with (fail)
      go_roundw
      case rel =>
        have S := Own.setk lenInt HO.out rfl j (by omega) (xs[j]'(by have := HN.out; omega))
        rw [mix_set _ _ HN.out (by have := HN.out; omega)] at S
        have hB := HB.out
        have hX := HX.out
        have hE : xs[j]'(by have := HN.out; omega) = x := by rw [List.getElem?_eq_getElem (by have := HN.out; omega)] at hX; exact Option.some.inj hX
        rw [hE, Nat.mul_one] at S
        exact ⟨j + 1, by omega, by go_num, S.1, by exact bel⟩
      case measure => simp [intOf]; omega
    · have hlt' : ¬ (j : Int) < n := by omega
      obtain rfl : j = n := by omega
      subst hv
      clear hown
      go_wp2_with (fail)
      go_ret
      exact ⟨_, rfl, by have h0 := HO.out; rw [Nat.sub_self, List.replicate_zero, List.append_nil, List.take_of_length_le (Nat.le_of_eq HN.out.symm)] at h0; exact h0, HB.out⟩

theorem l_szBoolS (ao : Option Addr) (n cap : Nat) (hn : n ≤ maxLen) (left : Int) (hl : 0 ≤ left ∧ left ≤ 1048576) (w : World) : Calls Tryz.prog 125 #[.slice ao n cap, .int .i64 left] w fun e w' => e = .returned (.int .i64 (if left - n < 0 then -1 else left - n)) ∧ w = w' := by
  have hm : n ≤ 9223372036854775807 := by unfold maxLen at hn; omega
  clear hn
  by_cases h : left - n < 0
  all_goals (have hall := all_nil w; go_enter Tryz.func125, Tryz.ntmps125)
  all_goals go_wp2
  all_goals (go_ret; exact ⟨by simp [h], rfl⟩)
theorem l_toBoolS (va : Value) (xs : List Bool) (hx : xs.length ≤ 1048576) (w : World) (ha : BoolsAt w va xs) : Calls Tryz.prog 134 #[va] w fun e w' => ∃ v, e = .returned v ∧ OwnB w.heap.size w' v xs ∧ Below w.heap.size w w' := by
  obtain ⟨ao, ca, rfl, h1, h2, hr⟩ := BoolsAt.open ha
  obtain ⟨n, hn⟩ : ∃ n, n = xs.length := ⟨_, rfl⟩
  have HN := Lib.hid hn
  rw [← hn] at hx h1
  have HA := Lib.hid hr; clear hr ha
  rw [← hn]
  clear hn
  (have hall := all_nil w; go_enter Tryz.func134, Tryz.ntmps134)
  go_wp2_with (at_make; go_loud (refine make1 elemBool rfl _ _ rfl zeroBool .i64 .i64 n rfl rfl (by omega) (by unfold maxLen; omega) ?_); intro v2 w2 hv hown hb)
  go_loopw [4] (fun i wr => ∃ j : Nat, j ≤ n ∧ i = .int .i64 j ∧ OwnB w.heap.size wr v2 (xs.take j ++ List.replicate (n - j) false) ∧ Below w.heap.size w wr) (fun i _ => n - (intOf i).toNat)
  case atStart => exact ⟨0, Nat.zero_le _, rfl, by simpa using hown, hb⟩
  case round =>
    obtain ⟨j, hj, rfl, hown, hbel⟩ := hrel
    have HO := Lib.hid hown; have HB := Lib.hid hbel
    have hsz := hbel.size
    clear hown hbel
    by_cases hlt : j < n
    · have hlt' : (j : Int) < n := by omega
      have hltx : j < xs.length := by have := HN.out; omega
      obtain ⟨x, hx'⟩ := getx hltx
      obtain ⟨ga, oa, rfl, hga, a0⟩ := HA.out j x hx'
      replace a0 := (HB.out.cell (p := ⟨ga, oa + j, none⟩) hga).trans a0
      have HX := Lib.hid hx'; clear hx' hltx
      subst hv
      clear hown
      have hlen : (xs.take j ++ List.replicate (n - j) (false : Bool)).length = n := by have := HN.out; simp; omega
      obtain ⟨y, hy⟩ := getx (xs := xs.take j ++ List.replicate (n - j) (false : Bool)) (k := j) (by omega)
      obtain ⟨hBg, hgo, e0, f0⟩ := OwnB.slotB HO.out hy
      clear hy
      (obtain ⟨w1, rfl⟩ : ∃ x, x = wr := ⟨_, rfl⟩; have hall : allLt [ga, w.heap.size] w1.heap.size := ⟨by omega, by omega, trivial⟩; have hx := hall; (try simp only [allLt, and_true] at hx))
      go_wp2_with (fail)
      go_roundw
      case rel =>
        have S := Own.setk lenBool HO.out rfl j (by omega) (xs[j]'(by have := HN.out; omega))
        rw [mix_set _ _ HN.out (by have := HN.out; omega)] at S
        have hB := HB.out
        have hX := HX.out
        have hE : xs[j]'(by have := HN.out; omega) = x := by rw [List.getElem?_eq_getElem (by have := HN.out; omega)] at hX; exact Option.some.inj hX
        rw [hE, Nat.mul_one] at S
        exact ⟨j + 1, by omega, by go_num, S.1, by exact bel⟩
      case measure => simp [intOf]; omega
    · have hlt' : ¬ (j : Int) < n := by omega
      obtain rfl : j = n := by omega
      subst hv
      clear hown
      go_wp2_with (fail)
      go_ret
      exact ⟨_, rfl, by have h0 := HO.out; rw [Nat.sub_self, List.replicate_zero, List.append_nil, List.take_of_length_le (Nat.le_of_eq HN.out.symm)] at h0; exact h0, HB.out⟩

theorem l_szEntryS (ao : Option Addr) (n cap : Nat) (hn : n ≤ maxLen) (left : Int) (hl : 0 ≤ left ∧ left ≤ 1048576) (w : World) : Calls Tryz.prog 126 #[.slice ao n cap, .int .i64 left] w fun e w' => e = .returned (.int .i64 (if left - n < 0 then -1 else left - n)) ∧ w = w' := by
  have hm : n ≤ 9223372036854775807 := by unfold maxLen at hn; omega
  clear hn
  by_cases h : left - n < 0
  all_goals (have hall := all_nil w; go_enter Tryz.func126, Tryz.ntmps126)
  all_goals go_wp2
  all_goals (go_ret; exact ⟨by simp [h], rfl⟩)
theorem l_toEntry (m0 : Int) (f0 : Int) (w : World) : Calls Tryz.prog 165 #[.agg #[.int .i64 m0, .int .i64 f0]] w fun e w' => e = .returned (.agg #[.int .i64 m0, .int .i64 f0]) ∧ Below w.heap.size w w' := by
  (have hall := all_nil w; go_enter Tryz.func165, Tryz.ntmps165)
  go_wp2_with (fail)
  (refine bodyPost_ret (v := .agg #[.int .i64 m0, .int .i64 f0]) (by simp [results, Tryz.results165, go_sem]) rfl ⟨rfl, ?_⟩; exact bel)
theorem l_eqEntry (m0 : Int) (f0 : Int) (w : World) : Calls Tryz.prog 170 #[.agg #[.int .i64 m0, .int .i64 f0], .agg #[.int .i64 m0, .int .i64 f0]] w fun e w' => e = .returned (.bool true) ∧ Below w.heap.size w w' := by
  (have hall := all_nil w; go_enter Tryz.func170, Tryz.ntmps170)
  go_wp2_with (fail)
  all_goals (go_ret; refine ⟨by simp_all [], ?_⟩; exact bel)
theorem l_toEntryS (va : Value) (xs : List Ent) (hx : xs.length ≤ 1048576) (w : World) (ha : EntAt w va xs) : Calls Tryz.prog 135 #[va] w fun e w' => ∃ v, e = .returned v ∧ OwnEnt w.heap.size w' v xs ∧ Below w.heap.size w w' := by
  obtain ⟨ao, ca, rfl, h1, h2, hr⟩ := EntAt.open ha
  obtain ⟨n, hn⟩ : ∃ n, n = xs.length := ⟨_, rfl⟩
  have HN := Lib.hid hn
  rw [← hn] at hx h1
  have HA := Lib.hid hr; clear hr ha
  rw [← hn]
  clear hn
  (have hall := all_nil w; go_enter Tryz.func135, Tryz.ntmps135)
  go_wp2_with (at_make; go_loud (refine make1 elemEnt rfl _ _ rfl zeroEnt .i64 .i64 n rfl rfl (by omega) (by unfold maxLen; omega) ?_); intro v2 w2 hv hown hb)
  go_loopw [4] (fun i wr => ∃ j : Nat, j ≤ n ∧ i = .int .i64 j ∧ OwnEnt w.heap.size wr v2 (xs.take j ++ List.replicate (n - j) ⟨0, 0⟩) ∧ Below w.heap.size w wr) (fun i _ => n - (intOf i).toNat)
  case atStart => exact ⟨0, Nat.zero_le _, rfl, by simpa using hown, hb⟩
  case round =>
    obtain ⟨j, hj, rfl, hown, hbel⟩ := hrel
    have HO := Lib.hid hown; have HB := Lib.hid hbel
    have hsz := hbel.size
    clear hown hbel
    by_cases hlt : j < n
    · have hlt' : (j : Int) < n := by omega
      have hltx : j < xs.length := by have := HN.out; omega
      obtain ⟨x, hx'⟩ := getx hltx
      obtain ⟨ga, oa, rfl, hga, a0, a1⟩ := HA.out j x hx'
      replace a0 := (HB.out.cell (p := ⟨ga, oa + j * 2, none⟩) hga).trans a0
      replace a1 := (HB.out.cell (p := ⟨ga, oa + j * 2 + 1, none⟩) hga).trans a1
      have HX := Lib.hid hx'; clear hx' hltx
      subst hv
      clear hown
      have hlen : (xs.take j ++ List.replicate (n - j) (⟨0, 0⟩ : Ent)).length = n := by have := HN.out; simp; omega
      obtain ⟨y, hy⟩ := getx (xs := xs.take j ++ List.replicate (n - j) (⟨0, 0⟩ : Ent)) (k := j) (by omega)
      obtain ⟨hBg, hgo, e0, f0, e1, f1⟩ := OwnEnt.slot HO.out hy
      clear hy
      (obtain ⟨w1, rfl⟩ : ∃ x, x = wr := ⟨_, rfl⟩; have hall : allLt [ga, w.heap.size] w1.heap.size := ⟨by omega, by omega, trivial⟩; have hx := hall; (try simp only [allLt, and_true] at hx))
      go_wp2_with ((go_at_call 165; (refine (l_toEntry _ _ _).mono ?_); rintro e w2 ⟨rfl, hb⟩; ((have hn := nw0 hb hall (by exact zo))); obtain ⟨hc, hf, hn, hc0⟩ := hn; replace hall := hn; clear hn; have hz := hb.size; (try simp only [World.size_alloc, World.size_setCell, World.size_drew] at hz); have hx := hall; (try simp only [allLt, and_true] at hx); (try (have hO := HO.out; replace HO := Lib.hid (Own.below hO (w' := w2) (by exact bel)); clear hO)); obtain ⟨w1, rfl⟩ : ∃ x, x = w2 := ⟨_, rfl⟩))
      go_roundw
      case rel =>
        have S := Own.setk lenEnt HO.out rfl j (by omega) (xs[j]'(by have := HN.out; omega))
        rw [mix_set _ _ HN.out (by have := HN.out; omega)] at S
        have hB := HB.out
        have hX := HX.out
        have hE : xs[j]'(by have := HN.out; omega) = x := by rw [List.getElem?_eq_getElem (by have := HN.out; omega)] at hX; exact Option.some.inj hX
        rw [hE] at S
        exact ⟨j + 1, by omega, by go_num, S.1, by exact bel⟩
      case measure => simp [intOf]; omega
    · have hlt' : ¬ (j : Int) < n := by omega
      obtain rfl : j = n := by omega
      subst hv
      clear hown
      go_wp2_with (fail)
      go_ret
      exact ⟨_, rfl, by have h0 := HO.out; rw [Nat.sub_self, List.replicate_zero, List.append_nil, List.take_of_length_le (Nat.le_of_eq HN.out.symm)] at h0; exact h0, HB.out⟩
theorem l_eqEntryS (va vb : Value) (xs : List Ent) (w : World) (ha : EntAt w va xs) (hb : EntAt w vb xs) : Calls Tryz.prog 146 #[va, vb] w fun e w' => e = .returned (.bool true) ∧ Below w.heap.size w w' := by
  obtain ⟨ao, ca, rfl, _, hm, hra⟩ := EntAt.open ha
  obtain ⟨bo, cb, rfl, _, _, hrb⟩ := EntAt.open hb
  have hle : xs.length ≤ 9223372036854775807 := by unfold maxLen at hm; omega
  clear hm ha hb
  have HA := Lib.hid hra; have HB := Lib.hid hrb; clear hra hrb
  (have hall := all_nil w; go_enter Tryz.func146, Tryz.ntmps146)
  go_wp2_with (fail)
  go_loopw [5] (fun i wr => ∃ j : Nat, j ≤ xs.length ∧ i = .int .i64 j ∧ Below w.heap.size w wr) (fun i _ => xs.length - (intOf i).toNat)
  case atStart => exact ⟨0, Nat.zero_le _, rfl, Below.refl _ _⟩
  case round =>
    obtain ⟨j, hj, rfl, hbel⟩ := hrel
    have HL := Lib.hid hbel; have hsz := hbel.size; clear hbel
    by_cases hlt : j < xs.length
    · have hlt' : (j : Int) < xs.length := by omega
      obtain ⟨x, hx⟩ := getx hlt
      obtain ⟨ga, oa, rfl, hga, a0, a1⟩ := HA.out j x hx
      obtain ⟨gb, ob, rfl, hgb, b0, b1⟩ := HB.out j x hx
      replace a0 := (HL.out.cell (p := ⟨ga, oa + j * 2, none⟩) hga).trans a0
      replace a1 := (HL.out.cell (p := ⟨ga, oa + j * 2 + 1, none⟩) hga).trans a1
      replace b0 := (HL.out.cell (p := ⟨gb, ob + j * 2, none⟩) hgb).trans b0
      replace b1 := (HL.out.cell (p := ⟨gb, ob + j * 2 + 1, none⟩) hgb).trans b1
      clear hx
      generalize x.m = m0 at *
      generalize x.f = f0 at *
      (obtain ⟨w1, rfl⟩ : ∃ x, x = wr := ⟨_, rfl⟩; have hall : allLt [ga, gb] w1.heap.size := ⟨by omega, by omega, trivial⟩; have hx := hall; (try simp only [allLt, and_true] at hx))
      go_wp2_with ((with_reducible refine wp_region_grew2 (by kernel_rfl) (by kernel_rfl) ?_; intro w2 hb; ((have hn := nw0 hb hall (by exact zo))); obtain ⟨hc, hf, hn, hc0⟩ := hn; replace hall := hn; clear hn; have hz := hb.size; (try simp only [World.size_alloc, World.size_setCell, World.size_drew] at hz); have hx := hall; (try simp only [allLt, and_true] at hx); (try (have hO := HO.out; replace HO := Lib.hid (Own.below hO (w' := w2) (by exact bel)); clear hO)); obtain ⟨w1, rfl⟩ : ∃ x, x = w2 := ⟨_, rfl⟩; (repeat (go_big_quiet_step ((go_at_call 170; exact calls_grew (l_eqEntry _ _ _))))); refine wpQuiet_nil ?_; intro w2 hw'; have hb := grew_below hw'; clear hw'; ((have hn := nw0 hb hall (by exact zo))); obtain ⟨hc, hf, hn, hc0⟩ := hn; replace hall := hn; clear hn; have hz := hb.size; (try simp only [World.size_alloc, World.size_setCell, World.size_drew] at hz); have hx := hall; (try simp only [allLt, and_true] at hx); (try (have hO := HO.out; replace HO := Lib.hid (Own.below hO (w' := w2) (by exact bel)); clear hO)); obtain ⟨w1, rfl⟩ : ∃ x, x = w2 := ⟨_, rfl⟩))
      go_roundw
      case rel =>
        have hL := HL.out
        exact ⟨j + 1, by omega, by go_num, by exact bel⟩
      case measure => simp [intOf]; omega
    · have hlt' : ¬ (j : Int) < xs.length := by omega
      go_wp2_with (fail)
      go_ret
      exact ⟨rfl, HL.out⟩

theorem l_markEntryS (B : Nat) (va : Value) (xs : List Ent) (k : Int) (hk : 0 ≤ k ∧ k + 2 * xs.length ≤ 9223372036854775807) (w : World) (ha : OwnEnt B w va xs) : Calls Tryz.prog 149 #[va, .int .i64 k] w fun e w' => e = .returned (.int .i64 (k + 2 * xs.length)) ∧ OwnEnt B w' va (marksG mkEnt 2 k xs.length) ∧ w.grownBy w' va.ownBlock := by
  obtain ⟨ao, ca, hva, _, hm⟩ := ha.shape
  have hle : xs.length ≤ 9223372036854775807 := by unfold maxLen at hm; omega
  have HA := Lib.hid ha; clear ha hm
  obtain ⟨n, hn⟩ : ∃ n, n = xs.length := ⟨_, rfl⟩
  have HN := Lib.hid hn
  rw [← hn] at hle hk hva ⊢
  clear hn
  subst hva
  (have hall := all_nil w; go_enter Tryz.func149, Tryz.ntmps149)
  go_wp2_with (fail)
  go_loopw [1, 5] (fun kk i wr => ∃ j : Nat, j ≤ n ∧ i = .int .i64 j ∧ kk = .int .i64 (k + 2 * j) ∧ OwnEnt B wr (.slice ao n ca) (mixG mkEnt 2 k xs j) ∧ w.grownBy wr (Value.slice ao n ca).ownBlock) (fun _ i _ => n - (intOf i).toNat)
  case atStart => exact ⟨0, Nat.zero_le _, rfl, by simp, by simpa [mixG, marksG] using HA.out, grown_refl _ _⟩
  case round =>
    obtain ⟨j, hj, rfl, rfl, hown, hgr⟩ := hrel
    have HO := Lib.hid hown; have HG := Lib.hid hgr
    by_cases hlt : j < n
    · have hlt' : (j : Int) < n := by omega
      have hml := mixG_len (mk := mkEnt) (s := 2) (k := k) (xs := xs) (j := j) (by have := HN.out; omega)
      have hjm : j < (mixG mkEnt 2 k xs j).length := by have := HN.out; omega
      obtain ⟨ga, ca', hv, _, _⟩ := hown.addr (by omega)
      simp only [Value.slice.injEq] at hv
      obtain ⟨rfl, _, rfl⟩ := hv
      obtain ⟨y, hy⟩ := getx hjm
      obtain ⟨hBg, hga, e0, f0, e1, f1⟩ := OwnEnt.slot HO.out hy
      have HJ := Lib.hid hjm
      clear hy hown hgr hml hjm
      (obtain ⟨w1, rfl⟩ : ∃ x, x = wr := ⟨_, rfl⟩; have hall : allLt [ga] w1.heap.size := ⟨by omega, trivial⟩; have hx := hall; (try simp only [allLt, and_true] at hx))
      go_wp2_with (fail)
      go_roundw
      case rel =>
        have S := Own.setk lenEnt HO.out rfl j HJ.out (mkEnt (k + 2 * j))
        rw [mixG_set (by have := HN.out; omega)] at S
        exact ⟨j + 1, by omega, by go_num, by go_num, S.1, grown_trans HG.out S.2⟩
      case measure => simp [intOf]; omega
    · have hlt' : ¬ (j : Int) < n := by omega
      obtain rfl : j = n := by omega
      clear hown hgr
      go_wp2_with (fail)
      go_ret
      exact ⟨rfl, by rw [HN.out]; rw [← mixG_full]; rw [← HN.out]; exact HO.out, HG.out⟩
theorem l_heldEntryS (va : Value) (n : Nat) (k : Int) (hk : 0 ≤ k ∧ k + 2 * n ≤ 9223372036854775807) (w : World) (ha : EntAt w va (marksG mkEnt 2 k n)) : Calls Tryz.prog 152 #[va, .int .i64 k] w fun e w' => e = .returned (.int .i64 (k + 2 * n)) ∧ Below w.heap.size w w' := by
  obtain ⟨ao, ca, rfl, _, hm, hra⟩ := EntAt.open ha
  rw [marksG_len] at *
  have hle : n ≤ 9223372036854775807 := by unfold maxLen at hm; omega
  clear ha hm
  have HA := Lib.hid hra; clear hra
  (have hall := all_nil w; go_enter Tryz.func152, Tryz.ntmps152)
  go_wp2_with (fail)
  go_loopw [1, 5] (fun kk i wr => ∃ j : Nat, j ≤ n ∧ i = .int .i64 j ∧ kk = .int .i64 (k + 2 * j) ∧ Below w.heap.size w wr) (fun _ i _ => n - (intOf i).toNat)
  case atStart => exact ⟨0, Nat.zero_le _, rfl, by simp, Below.refl _ _⟩
  case round =>
    obtain ⟨j, hj, rfl, rfl, hbel⟩ := hrel
    have HL := Lib.hid hbel; have hsz := hbel.size; clear hbel
    by_cases hlt : j < n
    · have hlt' : (j : Int) < n := by omega
      obtain ⟨ga, oa, rfl, hga, a0, a1⟩ := HA.out j _ (marksG_get mkEnt 2 k hlt)
      simp only [mkEnt] at a0 a1
      replace a0 := (HL.out.cell (p := ⟨ga, oa + j * 2, none⟩) hga).trans a0
      replace a1 := (HL.out.cell (p := ⟨ga, oa + j * 2 + 1, none⟩) hga).trans a1
      (obtain ⟨w1, rfl⟩ : ∃ x, x = wr := ⟨_, rfl⟩; have hall : allLt [ga] w1.heap.size := ⟨by omega, trivial⟩; have hx := hall; (try simp only [allLt, and_true] at hx))
      go_wp2_with (fail)
      go_roundw
      case rel =>
        have hL := HL.out
        exact ⟨j + 1, by omega, by go_num, by go_num, by exact bel⟩
      case measure => simp [intOf]; omega
    · have hlt' : ¬ (j : Int) < n := by omega
      obtain rfl : j = n := by omega
      go_wp2_with (fail)
      go_ret
      exact ⟨rfl, HL.out⟩

theorem l_eqBoolS (va vb : Value) (xs : List Bool) (w : World) (ha : BoolsAt w va xs) (hb : BoolsAt w vb xs) : Calls Tryz.prog 145 #[va, vb] w fun e w' => e = .returned (.bool true) ∧ Below w.heap.size w w' := by
  obtain ⟨ao, ca, rfl, _, hm, hra⟩ := BoolsAt.open ha
  obtain ⟨bo, cb, rfl, _, _, hrb⟩ := BoolsAt.open hb
  have hle : xs.length ≤ 9223372036854775807 := by unfold maxLen at hm; omega
  clear ha hb hm
  have HA := Lib.hid hra; have HB := Lib.hid hrb; clear hra hrb
  (have hall := all_nil w; go_enter Tryz.func145, Tryz.ntmps145)
  go_wp2_with (fail)
  go_loopw [5] (fun i wr => ∃ j : Nat, j ≤ xs.length ∧ i = .int .i64 j ∧ Below w.heap.size w wr) (fun i _ => xs.length - (intOf i).toNat)
  case atStart => exact ⟨0, Nat.zero_le _, rfl, Below.refl _ _⟩
  case round =>
    obtain ⟨j, hj, rfl, hbel⟩ := hrel
    have HL := Lib.hid hbel; have hsz := hbel.size; clear hbel
    by_cases hlt : j < xs.length
    · have hlt' : (j : Int) < xs.length := by omega
      obtain ⟨x, hx⟩ := getx hlt
      obtain ⟨ga, oa, rfl, hga, c1⟩ := HA.out j x hx
      obtain ⟨gb, ob, rfl, hgb, c2⟩ := HB.out j x hx
      replace c1 := (HL.out.cell (p := ⟨ga, oa + j, none⟩) hga).trans c1
      replace c2 := (HL.out.cell (p := ⟨gb, ob + j, none⟩) hgb).trans c2
      clear hx
      (obtain ⟨w1, rfl⟩ : ∃ x, x = wr := ⟨_, rfl⟩; have hall : allLt [ga, gb] w1.heap.size := ⟨by omega, by omega, trivial⟩; have hx := hall; (try simp only [allLt, and_true] at hx))
      go_wp2_with ((with_reducible refine wp_region_grew2 (by kernel_rfl) (by kernel_rfl) ?_; intro w2 hb; ((have hn := nw0 hb hall (by exact zo))); obtain ⟨hc, hf, hn, hc0⟩ := hn; replace hall := hn; clear hn; have hz := hb.size; (try simp only [World.size_alloc, World.size_setCell, World.size_drew] at hz); have hx := hall; (try simp only [allLt, and_true] at hx); (try (have hO := HO.out; replace HO := Lib.hid (Own.below hO (w' := w2) (by exact bel)); clear hO)); obtain ⟨w1, rfl⟩ : ∃ x, x = w2 := ⟨_, rfl⟩; (repeat (go_big_quiet_step (fail))); refine wpQuiet_nil ?_; intro w2 hw'; have hb := grew_below hw'; clear hw'; ((have hn := nw0 hb hall (by exact zo))); obtain ⟨hc, hf, hn, hc0⟩ := hn; replace hall := hn; clear hn; have hz := hb.size; (try simp only [World.size_alloc, World.size_setCell, World.size_drew] at hz); have hx := hall; (try simp only [allLt, and_true] at hx); (try (have hO := HO.out; replace HO := Lib.hid (Own.below hO (w' := w2) (by exact bel)); clear hO)); obtain ⟨w1, rfl⟩ : ∃ x, x = w2 := ⟨_, rfl⟩))
      go_roundw
      case rel =>
        have hL := HL.out
        exact ⟨j + 1, by omega, by go_num, by exact bel⟩
      case measure => simp [intOf]; omega
    · have hlt' : ¬ (j : Int) < xs.length := by omega
      go_wp2_with (fail)
      go_ret
      exact ⟨rfl, HL.out⟩
def mkB (k : Int) : Bool := k % 3 == 0
theorem l_markBoolS (B : Nat) (va : Value) (xs : List Bool) (k : Int) (hk : 0 ≤ k ∧ k + xs.length ≤ 9223372036854775807) (w : World) (ha : OwnB B w va xs) : Calls Tryz.prog 148 #[va, .int .i64 k] w fun e w' => e = .returned (.int .i64 (k + xs.length)) ∧ OwnB B w' va (marksG mkB 1 k xs.length) ∧ w.grownBy w' va.ownBlock := by
  obtain ⟨ao, ca, hva, _, hm⟩ := ha.shape
  have hle : xs.length ≤ 9223372036854775807 := by unfold maxLen at hm; omega
  have HA := Lib.hid ha; clear ha hm
  obtain ⟨n, hn⟩ : ∃ n, n = xs.length := ⟨_, rfl⟩
  have HN := Lib.hid hn
  rw [← hn] at hle hk hva ⊢
  clear hn
  subst hva
  (have hall := all_nil w; go_enter Tryz.func148, Tryz.ntmps148)
  go_wp2_with (fail)
  go_loopw [1, 5] (fun kk i wr => ∃ j : Nat, j ≤ n ∧ i = .int .i64 j ∧ kk = .int .i64 (k + j) ∧ OwnB B wr (.slice ao n ca) (mixG mkB 1 k xs j) ∧ w.grownBy wr (Value.slice ao n ca).ownBlock) (fun _ i _ => n - (intOf i).toNat)
  case atStart => exact ⟨0, Nat.zero_le _, rfl, by simp, by simpa [mixG, marksG] using HA.out, grown_refl _ _⟩
  case round =>
    obtain ⟨j, hj, rfl, rfl, hown, hgr⟩ := hrel
    have HO := Lib.hid hown; have HG := Lib.hid hgr
    by_cases hlt : j < n
    · have hlt' : (j : Int) < n := by omega
      have hml := mixG_len (mk := mkB) (s := 1) (k := k) (xs := xs) (j := j) (by have := HN.out; omega)
      have hjm : j < (mixG mkB 1 k xs j).length := by have := HN.out; omega
      obtain ⟨ga, ca', hv, _, _⟩ := hown.addr (by omega)
      simp only [Value.slice.injEq] at hv
      obtain ⟨rfl, _, rfl⟩ := hv
      obtain ⟨y, hy⟩ := getx hjm
      obtain ⟨hBg, hga, e0, f0⟩ := OwnB.slotB HO.out hy
      have HJ := Lib.hid hjm
      clear hy hown hgr hml hjm
      (obtain ⟨w1, rfl⟩ : ∃ x, x = wr := ⟨_, rfl⟩; have hall : allLt [ga] w1.heap.size := ⟨by omega, trivial⟩; have hx := hall; (try simp only [allLt, and_true] at hx))
      go_wp2_with (fail)
      go_roundw
      case rel =>
        have S := Own.setk lenBool HO.out rfl j HJ.out (mkB (k + 1 * j))
        rw [mixG_set (by have := HN.out; omega), Nat.mul_one, Int.one_mul] at S
        exact ⟨j + 1, by omega, by go_num, by go_num, S.1, grown_trans HG.out S.2⟩
      case measure => simp [intOf]; omega
    · have hlt' : ¬ (j : Int) < n := by omega
      obtain rfl : j = n := by omega
      clear hown hgr
      go_wp2_with (fail)
      go_ret
      exact ⟨rfl, by rw [HN.out]; rw [← mixG_full]; rw [← HN.out]; exact HO.out, HG.out⟩
theorem l_heldBoolS (va : Value) (n : Nat) (k : Int) (hk : 0 ≤ k ∧ k + n ≤ 9223372036854775807) (w : World) (ha : BoolsAt w va (marksG mkB 1 k n)) : Calls Tryz.prog 151 #[va, .int .i64 k] w fun e w' => e = .returned (.int .i64 (k + n)) ∧ Below w.heap.size w w' := by
  obtain ⟨ao, ca, rfl, _, hm, hra⟩ := BoolsAt.open ha
  rw [marksG_len] at *
  have hle : n ≤ 9223372036854775807 := by unfold maxLen at hm; omega
  clear ha hm
  have HA := Lib.hid hra; clear hra
  (have hall := all_nil w; go_enter Tryz.func151, Tryz.ntmps151)
  go_wp2_with (fail)
  go_loopw [1, 5] (fun kk i wr => ∃ j : Nat, j ≤ n ∧ i = .int .i64 j ∧ kk = .int .i64 (k + j) ∧ Below w.heap.size w wr) (fun _ i _ => n - (intOf i).toNat)
  case atStart => exact ⟨0, Nat.zero_le _, rfl, by simp, Below.refl _ _⟩
  case round =>
    obtain ⟨j, hj, rfl, rfl, hbel⟩ := hrel
    have HL := Lib.hid hbel; have hsz := hbel.size; clear hbel
    by_cases hlt : j < n
    · have hlt' : (j : Int) < n := by omega
      obtain ⟨ga, oa, rfl, hga, a0⟩ := HA.out j _ (marksG_get mkB 1 k hlt)
      rw [Int.one_mul] at a0
      simp only [mkB] at a0
      replace a0 := (HL.out.cell (p := ⟨ga, oa + j, none⟩) hga).trans a0
      (obtain ⟨w1, rfl⟩ : ∃ x, x = wr := ⟨_, rfl⟩; have hall : allLt [ga] w1.heap.size := ⟨by omega, trivial⟩; have hx := hall; (try simp only [allLt, and_true] at hx))
      go_wp2_with (fail)
      go_roundw
      case rel =>
        have hL := HL.out
        exact ⟨j + 1, by omega, by go_num, by go_num, by exact bel⟩
      case measure => simp [intOf]; omega
    · have hlt' : ¬ (j : Int) < n := by omega
      obtain rfl : j = n := by omega
      go_wp2_with (fail)
      go_ret
      exact ⟨rfl, HL.out⟩
end Go.Proofs.YtmblkllijjlkoaaGreat
