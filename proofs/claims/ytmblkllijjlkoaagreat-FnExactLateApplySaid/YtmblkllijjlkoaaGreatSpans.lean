/-
  Lists of spans: read where they lie, and made anew.
-/
import Derived.Test.YtmblkllijjlkoaaGreatSpan2
import Derived.Test.YtmblkllijjlkoaaGreatMake
set_option linter.unusedVariables false
set_option linter.unusedSimpArgs false
namespace Go.Proofs.YtmblkllijjlkoaaGreat
open Go.RowKit
structure Sp where
  p : Int
  c : Int
  b : Int
deriving DecidableEq, Inhabited
def Sp.val (s : Sp) : Value := .agg #[.int .i64 s.p, .int .i64 s.c, .int .i64 s.b]
def fSpan (s : Sp) : List Value := [.int .i64 s.p, .int .i64 s.c, .int .i64 s.b]
theorem elemSpan : ElemT Tryz.prog 47 97 (.agg #[.int .i64 0, .int .i64 0, .int .i64 0]) 3 24 := ⟨Tryz.underlying47, info_parts (by kernel_rfl), rfl, by decide⟩
theorem lenSpan : LenK 3 fSpan := fun _ => rfl
theorem oneSpan : ∀ y : Sp, ∀ u ∈ fSpan y, u.oneCell' = true := fun y u hu => by simp [fSpan] at hu; rcases hu with rfl | rfl | rfl <;> rfl
abbrev OwnSp (B : Nat) (w : World) (v : Value) (xs : List Sp) : Prop := Own 97 3 fSpan B w v xs
/-- A list of spans that can be read. -/
def SpansAt (w : World) (v : Value) (xs : List Sp) : Prop := ∃ ao cap, v = .slice ao xs.length cap ∧ xs.length ≤ cap ∧ cap ≤ maxLen ∧
  ∀ i (hi : i < xs.length), ∃ g o, ao = some ⟨g, o, none⟩ ∧ g < w.heap.size ∧ w.cell? ⟨g, o + i * 3, none⟩ = some (.int .i64 xs[i].p) ∧ w.cell? ⟨g, o + i * 3 + 1, none⟩ = some (.int .i64 xs[i].c) ∧ w.cell? ⟨g, o + i * 3 + 2, none⟩ = some (.int .i64 xs[i].b)
theorem SpansAt.below {w w' : World} {v : Value} {xs : List Sp} (h : SpansAt w v xs) (hb : Below w.heap.size w w') : SpansAt w' v xs := by
  obtain ⟨ao, cap, rfl, h1, h2, hr⟩ := h
  refine ⟨ao, cap, rfl, h1, h2, fun i hi => ?_⟩
  obtain ⟨g, o, rfl, hg, c0, c1, c2⟩ := hr i hi
  have := hb.size
  exact ⟨g, o, rfl, by omega, (hb.cell (p := ⟨g, o + i * 3, none⟩) hg).trans c0, (hb.cell (p := ⟨g, o + i * 3 + 1, none⟩) hg).trans c1, (hb.cell (p := ⟨g, o + i * 3 + 2, none⟩) hg).trans c2⟩
theorem OwnSp.at {B : Nat} {w : World} {v : Value} {xs : List Sp} (h : OwnSp B w v xs) : SpansAt w v xs := by
  obtain ⟨ao, cap, rfl, h1, h2, hr⟩ := h.read lenSpan
  refine ⟨ao, cap, rfl, h1, h2, fun i hi => ?_⟩
  obtain ⟨g, rfl, hB, hg, _, hc⟩ := hr i hi
  exact ⟨g, 0, rfl, hg, by rw [Nat.zero_add]; simpa [fSpan] using hc 0 (by omega), by rw [Nat.zero_add]; simpa [fSpan] using hc 1 (by omega), by rw [Nat.zero_add]; simpa [fSpan] using hc 2 (by omega)⟩
theorem SpansAt.open {w : World} {v : Value} {xs : List Sp} (h : SpansAt w v xs) : ∃ ao cap, v = .slice ao xs.length cap ∧ xs.length ≤ cap ∧ cap ≤ maxLen ∧
    ∀ i, i < xs.length → ∃ g o, ao = some ⟨g, o, none⟩ ∧ g < w.heap.size ∧ w.cell? ⟨g, o + i * 3, none⟩ = some (.int .i64 (xs.getD i default).p) ∧ w.cell? ⟨g, o + i * 3 + 1, none⟩ = some (.int .i64 (xs.getD i default).c) ∧ w.cell? ⟨g, o + i * 3 + 2, none⟩ = some (.int .i64 (xs.getD i default).b) := by
  obtain ⟨ao, cap, rfl, h1, h2, hr⟩ := h
  refine ⟨ao, cap, rfl, h1, h2, fun i hi => ?_⟩
  have : xs.getD i default = xs[i] := by rw [List.getD_eq_getElem?_getD, List.getElem?_eq_getElem hi, Option.getD_some]
  rw [this]
  exact hr i hi
/-- The beginning of it. -/
theorem SpansAt.take {w : World} {ao : Option Addr} {n cap : Nat} {xs : List Sp} (h : SpansAt w (.slice ao n cap) xs) (k : Nat) (hk : k ≤ xs.length) : SpansAt w (.slice ao k cap) (xs.take k) := by
  obtain ⟨ao', cap', he, h1, h2, hr⟩ := h
  simp only [Value.slice.injEq] at he
  obtain ⟨rfl, rfl, rfl⟩ := he
  have hl : (xs.take k).length = k := by simp; omega
  refine ⟨ao, cap, by rw [hl], by omega, h2, fun i hi => ?_⟩
  obtain ⟨g, o, rfl, hg, c⟩ := hr i (by omega)
  exact ⟨g, o, rfl, hg, by simpa using c⟩
theorem l_szSpanS (ao : Option Addr) (n cap : Nat) (hn : n ≤ maxLen) (left : Int) (hl : 0 ≤ left ∧ left ≤ 1048576) (w : World) : Calls Tryz.prog 9 #[.slice ao n cap, .int .i64 left] w fun e w' => e = .returned (.int .i64 (if left - n < 0 then -1 else left - n)) ∧ w = w' := by
  have hm : n ≤ 9223372036854775807 := by unfold maxLen at hn; omega
  clear hn
  by_cases h : left - n < 0
  all_goals (have hall := all_nil w; go_enter Tryz.func9, Tryz.ntmps9)
  all_goals go_wp2
  all_goals (go_ret; exact ⟨by simp [h], rfl⟩)
theorem zeroSpan : fSpan ⟨0, 0, 0⟩ = (Value.agg #[.int .i64 0, .int .i64 0, .int .i64 0]).cells.toList := by first | rfl | kernel_rfl | simp [fSpan, Value.cells]
/-- What stands at one element of it, and that it may be written. -/
theorem OwnSp.slot {B : Nat} {w : World} {g n cap : Nat} {xs : List Sp} (h : OwnSp B w (.slice (some ⟨g, 0, none⟩) n cap) xs) (j : Nat) (hj : j < xs.length) : g < w.heap.size ∧ ∃ a b c, w.cell? ⟨g, j * 3, none⟩ = some (.int .i64 a) ∧ w.cell? ⟨g, j * 3 + 1, none⟩ = some (.int .i64 b) ∧ w.cell? ⟨g, j * 3 + 2, none⟩ = some (.int .i64 c) ∧
    w.frozen? ⟨g, j * 3, none⟩ = false ∧ w.frozen? ⟨g, j * 3 + 1, none⟩ = false ∧ w.frozen? ⟨g, j * 3 + 2, none⟩ = false := by
  obtain ⟨ao', ca', he, _, _, hr⟩ := Own.read h lenSpan
  obtain ⟨g', he', _, hg', hz', hc'⟩ := hr j hj
  simp only [Value.slice.injEq] at he
  obtain ⟨rfl, _, rfl⟩ := he
  simp only [Option.some.injEq, Addr.mk.injEq, and_true] at he'
  obtain rfl := he'
  exact ⟨hg', _, _, _, by simpa [fSpan] using hc' 0 (by omega), by simpa [fSpan] using hc' 1 (by omega), by simpa [fSpan] using hc' 2 (by omega), hz' _, hz' _, hz' _⟩
theorem l_toSpanS (va : Value) (xs : List Sp) (hx : xs.length ≤ 1048576) (w : World) (ha : SpansAt w va xs) : Calls Tryz.prog 13 #[va] w fun e w' => ∃ v, e = .returned v ∧ OwnSp w.heap.size w' v xs ∧ Below w.heap.size w w' := by
  obtain ⟨ao, ca, rfl, h1, h2, hr⟩ := ha
  obtain ⟨n, hn⟩ : ∃ n, n = xs.length := ⟨_, rfl⟩
  have HN := Lib.hid hn
  rw [← hn] at hx h1
  have HA := Lib.hid hr; clear hr
  rw [← hn]
  clear hn
  (have hall := all_nil w; go_enter Tryz.func13, Tryz.ntmps13)
  go_wp2_with (at_make; go_loud (refine make1 elemSpan rfl _ _ rfl zeroSpan .i64 .i64 n rfl rfl (by omega) (by unfold maxLen; omega) ?_); intro v2 w2 hv hown hb)
  go_loopw [4] (fun i wr => ∃ j : Nat, j ≤ n ∧ i = .int .i64 j ∧ OwnSp w.heap.size wr v2 (xs.take j ++ List.replicate (n - j) ⟨0, 0, 0⟩) ∧ Below w.heap.size w wr) (fun i _ => n - (intOf i).toNat)
  case atStart => exact ⟨0, Nat.zero_le _, rfl, by simpa using hown, hb⟩
  case round =>
    obtain ⟨j, hj, rfl, hown, hbel⟩ := hrel
    have HO := Lib.hid hown; have HB := Lib.hid hbel
    have hsz := hbel.size
    clear hown hbel
    by_cases hlt : j < n
    · have hlt' : (j : Int) < n := by omega
      obtain ⟨g, o, rfl, hg, c0, c1, c2⟩ := HA.out j (by have := HN.out; omega)
      replace c0 := (HB.out.cell (p := ⟨g, o + j * 3, none⟩) hg).trans c0
      replace c1 := (HB.out.cell (p := ⟨g, o + j * 3 + 1, none⟩) hg).trans c1
      replace c2 := (HB.out.cell (p := ⟨g, o + j * 3 + 2, none⟩) hg).trans c2
      subst hv
      clear hown
      have hlen : (xs.take j ++ List.replicate (n - j) (⟨0, 0, 0⟩ : Sp)).length = n := by have := HN.out; simp; omega
      obtain ⟨hgo, e0, e1, e2, d0, d1, d2, f0, f1, f2⟩ := OwnSp.slot HO.out j (by omega)
      (obtain ⟨w1, rfl⟩ : ∃ x, x = wr := ⟨_, rfl⟩; have hall : allLt [g, w.heap.size] w1.heap.size := ⟨by omega, by omega, trivial⟩; have hx := hall; (try simp only [allLt, and_true] at hx))
      go_wp2_with (first | (go_at_call 52; (refine (l_toSpan _ _ _ _).mono ?_); rintro e w2 ⟨rfl, hb⟩; (first | have hn := nw4 hb hall (by exact zo) | have hn := nw3 hb hall (by exact zo) | have hn := nw2 hb hall (by exact zo) | have hn := nw1 hb hall (by exact zo) | have hn := nw0 hb hall (by exact zo)); obtain ⟨hc, hf, hn, hc0⟩ := hn; replace hall := hn; clear hn; have hz := hb.size; (try simp only [World.size_alloc, World.size_setCell, World.size_drew] at hz); have hx := hall; (try simp only [allLt, and_true] at hx); (try (have hO := HO.out; replace HO := Lib.hid (Own.below hO (w' := w2) (by exact bel)); clear hO)); obtain ⟨w1, rfl⟩ : ∃ x, x = w2 := ⟨_, rfl⟩) | (with_reducible refine wp_region_grew2 (by kernel_rfl) (by kernel_rfl) ?_; intro w2 hb; (first | have hn := nw4 hb hall (by exact zo) | have hn := nw3 hb hall (by exact zo) | have hn := nw2 hb hall (by exact zo) | have hn := nw1 hb hall (by exact zo) | have hn := nw0 hb hall (by exact zo)); obtain ⟨hc, hf, hn, hc0⟩ := hn; replace hall := hn; clear hn; have hz := hb.size; (try simp only [World.size_alloc, World.size_setCell, World.size_drew] at hz); have hx := hall; (try simp only [allLt, and_true] at hx); (try (have hO := HO.out; replace HO := Lib.hid (Own.below hO (w' := w2) (by exact bel)); clear hO)); obtain ⟨w1, rfl⟩ : ∃ x, x = w2 := ⟨_, rfl⟩; (repeat (go_big_quiet_step (first | (go_at_call 52; exact calls_grew (l_toSpan _ _ _ _))))); refine wpQuiet_nil ?_; intro w2 hw'; have hb := grew_below hw'; clear hw'; (first | have hn := nw4 hb hall (by exact zo) | have hn := nw3 hb hall (by exact zo) | have hn := nw2 hb hall (by exact zo) | have hn := nw1 hb hall (by exact zo) | have hn := nw0 hb hall (by exact zo)); obtain ⟨hc, hf, hn, hc0⟩ := hn; replace hall := hn; clear hn; have hz := hb.size; (try simp only [World.size_alloc, World.size_setCell, World.size_drew] at hz); have hx := hall; (try simp only [allLt, and_true] at hx); (try (have hO := HO.out; replace HO := Lib.hid (Own.below hO (w' := w2) (by exact bel)); clear hO)); obtain ⟨w1, rfl⟩ : ∃ x, x = w2 := ⟨_, rfl⟩))
      go_roundw
      case rel =>
        have S := Own.setk lenSpan HO.out rfl j (by omega) (xs[j]'(by have := HN.out; omega))
        rw [mix_set _ _ HN.out (by have := HN.out; omega)] at S
        have hB := HB.out
        exact ⟨j + 1, by omega, by go_num, S.1, by exact bel⟩
      case measure => simp [intOf]; omega
    · have hlt' : ¬ (j : Int) < n := by omega
      obtain rfl : j = n := by omega
      subst hv
      clear hown
      go_wp2_with (first | (with_reducible refine wp_region_grew2 (by kernel_rfl) (by kernel_rfl) ?_; intro w2 hb; (first | have hn := nw4 hb hall (by exact zo) | have hn := nw3 hb hall (by exact zo) | have hn := nw2 hb hall (by exact zo) | have hn := nw1 hb hall (by exact zo) | have hn := nw0 hb hall (by exact zo)); obtain ⟨hc, hf, hn, hc0⟩ := hn; replace hall := hn; clear hn; have hz := hb.size; (try simp only [World.size_alloc, World.size_setCell, World.size_drew] at hz); have hx := hall; (try simp only [allLt, and_true] at hx); (try (have hO := HO.out; replace HO := Lib.hid (Own.below hO (w' := w2) (by exact bel)); clear hO)); obtain ⟨w1, rfl⟩ : ∃ x, x = w2 := ⟨_, rfl⟩; (repeat (go_big_quiet_step (fail))); refine wpQuiet_nil ?_; intro w2 hw'; have hb := grew_below hw'; clear hw'; (first | have hn := nw4 hb hall (by exact zo) | have hn := nw3 hb hall (by exact zo) | have hn := nw2 hb hall (by exact zo) | have hn := nw1 hb hall (by exact zo) | have hn := nw0 hb hall (by exact zo)); obtain ⟨hc, hf, hn, hc0⟩ := hn; replace hall := hn; clear hn; have hz := hb.size; (try simp only [World.size_alloc, World.size_setCell, World.size_drew] at hz); have hx := hall; (try simp only [allLt, and_true] at hx); (try (have hO := HO.out; replace HO := Lib.hid (Own.below hO (w' := w2) (by exact bel)); clear hO)); obtain ⟨w1, rfl⟩ : ∃ x, x = w2 := ⟨_, rfl⟩))
      go_ret
      exact ⟨_, rfl, by have h0 := HO.out; rw [Nat.sub_self, List.replicate_zero, List.append_nil, List.take_of_length_le (Nat.le_of_eq HN.out.symm)] at h0; exact h0, HB.out⟩
end Go.Proofs.YtmblkllijjlkoaaGreat
