/-
  Texts put together: FamC.
-/
import Derived.Test.YtmblkllijjlkoaaGreatGB10
import Derived.Test.YtmblkllijjlkoaaGreatGIL1
/-
  The laws' functions on slices of writers, of waiting frees, of pairs, of spans.
-/
set_option linter.unusedVariables false
set_option linter.unusedSimpArgs false
namespace Go.Proofs.YtmblkllijjlkoaaGreat
open Go.ChangeShapes Go.WideShapes Go.ChangeAt Go.RowKit Go.Deep
theorem list_of' {α : Type} (R : Nat → α → Prop) : ∀ n, (∀ i, i < n → ∃ x, R i x) → ∃ xs : List α, xs.length = n ∧ ∀ i x, xs[i]? = some x → R i x
  | 0, _ => ⟨[], rfl, fun i x hi => by simp at hi⟩
  | n + 1, h => by
    obtain ⟨xs, hl, hx⟩ := list_of' R n (fun i hi => h i (by omega))
    obtain ⟨x, hr⟩ := h n (by omega)
    refine ⟨xs ++ [x], by simp [hl], fun i y hi => ?_⟩
    rcases Nat.lt_or_ge i n with h1 | h1
    · rw [List.getElem?_append_left (by omega)] at hi; exact hx i y hi
    · have := getx_lt hi
      simp at this
      obtain rfl : i = n := by omega
      rw [List.getElem?_append_right (by omega)] at hi
      simp [hl] at hi
      subst hi; exact hr
structure Wr where
  ad : Int
  va : Int
  dn : Bool
  wt : Int
deriving DecidableEq, Inhabited
def Wr.val (x : Wr) : Value := .agg #[.int .i64 x.ad, .int .i64 x.va, .bool x.dn, .int .i64 x.wt]
def fWr (x : Wr) : List Value := [.int .i64 x.ad, .int .i64 x.va, .bool x.dn, .int .i64 x.wt]
theorem elemWr : ElemT Tryz.prog 79 132 (.agg #[.int .i64 0, .int .i64 0, .bool false, .int .i64 0]) 4 32 := ⟨Tryz.underlying79, info_parts (by kernel_rfl), rfl, by decide⟩
theorem lenWr : LenK 4 fWr := fun _ => rfl
theorem oneWr : ∀ y : Wr, ∀ u ∈ fWr y, u.oneCell' = true := fun y u hu => by simp [fWr] at hu; rcases hu with rfl | rfl | rfl | rfl <;> rfl
abbrev OwnWr (B : Nat) (w : World) (v : Value) (xs : List Wr) : Prop := Own 132 4 fWr B w v xs
theorem zeroWr : fWr ⟨0, 0, false, 0⟩ = (Value.agg #[.int .i64 0, .int .i64 0, .bool false, .int .i64 0]).cells.toList := by first | rfl | kernel_rfl | simp [fWr, Value.cells]
abbrev WrAt (w : World) (v : Value) (xs : List Wr) : Prop := SlAt 4 fWr w v xs
theorem WrAt.open {w : World} {v : Value} {xs : List Wr} (h : WrAt w v xs) : ∃ ao cap, v = .slice ao xs.length cap ∧ xs.length ≤ cap ∧ cap ≤ maxLen ∧
    ∀ i x, xs[i]? = some x → ∃ g o, ao = some ⟨g, o, none⟩ ∧ g < w.heap.size ∧ w.cell? ⟨g, o + i * 4, none⟩ = some (.int .i64 x.ad) ∧ w.cell? ⟨g, o + i * 4 + 1, none⟩ = some (.int .i64 x.va) ∧ w.cell? ⟨g, o + i * 4 + 2, none⟩ = some (.bool x.dn) ∧ w.cell? ⟨g, o + i * 4 + 3, none⟩ = some (.int .i64 x.wt) := SlAt.open4 h fun _ => rfl
theorem OwnWr.slot {B : Nat} {w : World} {g n cap : Nat} {xs : List Wr} (h : OwnWr B w (.slice (some ⟨g, 0, none⟩) n cap) xs) {i : Nat} {x : Wr} (hi : xs[i]? = some x) : B ≤ g ∧ g < w.heap.size ∧ w.cell? ⟨g, i * 4, none⟩ = some (.int .i64 x.ad) ∧ w.frozen? ⟨g, i * 4, none⟩ = false ∧ w.cell? ⟨g, i * 4 + 1, none⟩ = some (.int .i64 x.va) ∧ w.frozen? ⟨g, i * 4 + 1, none⟩ = false ∧ w.cell? ⟨g, i * 4 + 2, none⟩ = some (.bool x.dn) ∧ w.frozen? ⟨g, i * 4 + 2, none⟩ = false ∧ w.cell? ⟨g, i * 4 + 3, none⟩ = some (.int .i64 x.wt) ∧ w.frozen? ⟨g, i * 4 + 3, none⟩ = false := by
  obtain ⟨hB, hg, hz, hc⟩ := Own.slot h lenWr hi
  exact ⟨hB, hg, by simpa [fWr] using hc 0 (.int .i64 x.ad), hz _, by simpa [fWr] using hc 1 (.int .i64 x.va), hz _, by simpa [fWr] using hc 2 (.bool x.dn), hz _, by simpa [fWr] using hc 3 (.int .i64 x.wt), hz _⟩
def mkWr (k : Int) : Wr := ⟨k, k + 1, ((k + 1 + 1) % 3 == 0), k + 1 + 1 + 1⟩

theorem l_szWriterS (ao : Option Addr) (n cap : Nat) (hn : n ≤ maxLen) (left : Int) (hl : 0 ≤ left ∧ left ≤ 1048576) (w : World) : Calls Tryz.prog 34 #[.slice ao n cap, .int .i64 left] w fun e w' => e = .returned (.int .i64 (if left - n < 0 then -1 else left - n)) ∧ w = w' := by
  have hm : n ≤ 9223372036854775807 := by unfold maxLen at hn; omega
  clear hn
  by_cases h : left - n < 0
  all_goals (have hall := all_nil w; go_enter Tryz.func34, Tryz.ntmps34)
  all_goals go_wp2
  all_goals (go_ret; exact ⟨by simp [h], rfl⟩)
theorem l_toWriter (ad0 : Int) (va0 : Int) (dn0 : Bool) (wt0 : Int) (w : World) : Calls Tryz.prog 83 #[.agg #[.int .i64 ad0, .int .i64 va0, .bool dn0, .int .i64 wt0]] w fun e w' => e = .returned (.agg #[.int .i64 ad0, .int .i64 va0, .bool dn0, .int .i64 wt0]) ∧ Below w.heap.size w w' := by
  (have hall := all_nil w; go_enter Tryz.func83, Tryz.ntmps83)
  go_wp2_with (fail)
  (refine bodyPost_ret (v := .agg #[.int .i64 ad0, .int .i64 va0, .bool dn0, .int .i64 wt0]) (by simp [results, Tryz.results83, go_sem]) rfl ⟨rfl, ?_⟩; exact bel)
theorem l_eqWriter (ad0 : Int) (va0 : Int) (dn0 : Bool) (wt0 : Int) (w : World) : Calls Tryz.prog 86 #[.agg #[.int .i64 ad0, .int .i64 va0, .bool dn0, .int .i64 wt0], .agg #[.int .i64 ad0, .int .i64 va0, .bool dn0, .int .i64 wt0]] w fun e w' => e = .returned (.bool true) ∧ Below w.heap.size w w' := by
  (have hall := all_nil w; go_enter Tryz.func86, Tryz.ntmps86)
  go_wp2_with (fail)
  all_goals (go_ret; refine ⟨by simp_all [], ?_⟩; exact bel)
theorem l_toWriterS (va : Value) (xs : List Wr) (hx : xs.length ≤ 1048576) (w : World) (ha : WrAt w va xs) : Calls Tryz.prog 36 #[va] w fun e w' => ∃ v, e = .returned v ∧ OwnWr w.heap.size w' v xs ∧ Below w.heap.size w w' := by
  obtain ⟨ao, ca, rfl, h1, h2, hr⟩ := WrAt.open ha
  obtain ⟨n, hn⟩ : ∃ n, n = xs.length := ⟨_, rfl⟩
  have HN := Lib.hid hn
  rw [← hn] at hx h1
  have HA := Lib.hid hr; clear hr ha
  rw [← hn]
  clear hn
  (have hall := all_nil w; go_enter Tryz.func36, Tryz.ntmps36)
  go_wp2_with (at_make; go_loud (refine make1 elemWr rfl _ _ rfl zeroWr .i64 .i64 n rfl rfl (by omega) (by unfold maxLen; omega) ?_); intro v2 w2 hv hown hb)
  go_loopw [4] (fun i wr => ∃ j : Nat, j ≤ n ∧ i = .int .i64 j ∧ OwnWr w.heap.size wr v2 (xs.take j ++ List.replicate (n - j) ⟨0, 0, false, 0⟩) ∧ Below w.heap.size w wr) (fun i _ => n - (intOf i).toNat)
  case atStart => exact ⟨0, Nat.zero_le _, rfl, by simpa using hown, hb⟩
  case round =>
    obtain ⟨j, hj, rfl, hown, hbel⟩ := hrel
    have HO := Lib.hid hown; have HB := Lib.hid hbel
    have hsz := hbel.size
    clear hown hbel
    by_cases hlt : j < n
    · have hlt' : (j : Int) < n := by omega
      have hltx : j < xs.length := by have := HN.out; omega
      obtain ⟨x, hx'⟩ := getx hltx
      obtain ⟨ga, oa, rfl, hga, a0, a1, a2, a3⟩ := HA.out j x hx'
      replace a0 := (HB.out.cell (p := ⟨ga, oa + j * 4, none⟩) hga).trans a0
      replace a1 := (HB.out.cell (p := ⟨ga, oa + j * 4 + 1, none⟩) hga).trans a1
      replace a2 := (HB.out.cell (p := ⟨ga, oa + j * 4 + 2, none⟩) hga).trans a2
      replace a3 := (HB.out.cell (p := ⟨ga, oa + j * 4 + 3, none⟩) hga).trans a3
      have HX := Lib.hid hx'; clear hx' hltx
      subst hv
      clear hown
      have hlen : (xs.take j ++ List.replicate (n - j) (⟨0, 0, false, 0⟩ : Wr)).length = n := by have := HN.out; simp; omega
      obtain ⟨y, hy⟩ := getx (xs := xs.take j ++ List.replicate (n - j) (⟨0, 0, false, 0⟩ : Wr)) (k := j) (by omega)
      obtain ⟨hBg, hgo, e0, f0, e1, f1, e2, f2, e3, f3⟩ := OwnWr.slot HO.out hy
      clear hy
      (obtain ⟨w1, rfl⟩ : ∃ x, x = wr := ⟨_, rfl⟩; have hall : allLt [ga, w.heap.size] w1.heap.size := ⟨by omega, by omega, trivial⟩; have hx := hall; (try simp only [allLt, and_true] at hx))
      go_wp2_with ((go_at_call 83; (refine (l_toWriter _ _ _ _ _).mono ?_); rintro e w2 ⟨rfl, hb⟩; ((have hn := nw0 hb hall (by exact zo))); obtain ⟨hc, hf, hn, hc0⟩ := hn; replace hall := hn; clear hn; have hz := hb.size; (try simp only [World.size_alloc, World.size_setCell, World.size_drew] at hz); have hx := hall; (try simp only [allLt, and_true] at hx); (try (have hO := HO.out; replace HO := Lib.hid (Own.below hO (w' := w2) (by exact bel)); clear hO)); obtain ⟨w1, rfl⟩ : ∃ x, x = w2 := ⟨_, rfl⟩))
      go_roundw
      case rel =>
        have S := Own.setk lenWr HO.out rfl j (by omega) (xs[j]'(by have := HN.out; omega))
        rw [mix_set _ _ HN.out (by have := HN.out; omega)] at S
        have hB := HB.out
        have hX := HX.out
        have hE : xs[j]'(by have := HN.out; omega) = x := by rw [List.getElem?_eq_getElem (by have := HN.out; omega)] at hX; exact Option.some.inj hX
        rw [hE] at S
        exact ⟨j + 1, by omega, by go_num, S.1, by exact bel⟩
      case measure => simp [intOf]; omega
    · have hlt' : ¬ (j : Int) < n := by omega
      obtain rfl : j = n := by omega
      subst hv
      clear hown
      go_wp2_with (fail)
      go_ret
      exact ⟨_, rfl, by have h0 := HO.out; rw [Nat.sub_self, List.replicate_zero, List.append_nil, List.take_of_length_le (Nat.le_of_eq HN.out.symm)] at h0; exact h0, HB.out⟩
theorem l_eqWriterS (va vb : Value) (xs : List Wr) (w : World) (ha : WrAt w va xs) (hb : WrAt w vb xs) : Calls Tryz.prog 39 #[va, vb] w fun e w' => e = .returned (.bool true) ∧ Below w.heap.size w w' := by
  obtain ⟨ao, ca, rfl, _, hm, hra⟩ := WrAt.open ha
  obtain ⟨bo, cb, rfl, _, _, hrb⟩ := WrAt.open hb
  have hle : xs.length ≤ 9223372036854775807 := by unfold maxLen at hm; omega
  clear hm ha hb
  have HA := Lib.hid hra; have HB := Lib.hid hrb; clear hra hrb
  (have hall := all_nil w; go_enter Tryz.func39, Tryz.ntmps39)
  go_wp2_with (fail)
  go_loopw [5] (fun i wr => ∃ j : Nat, j ≤ xs.length ∧ i = .int .i64 j ∧ Below w.heap.size w wr) (fun i _ => xs.length - (intOf i).toNat)
  case atStart => exact ⟨0, Nat.zero_le _, rfl, Below.refl _ _⟩
  case round =>
    obtain ⟨j, hj, rfl, hbel⟩ := hrel
    have HL := Lib.hid hbel; have hsz := hbel.size; clear hbel
    by_cases hlt : j < xs.length
    · have hlt' : (j : Int) < xs.length := by omega
      obtain ⟨x, hx⟩ := getx hlt
      obtain ⟨ga, oa, rfl, hga, a0, a1, a2, a3⟩ := HA.out j x hx
      obtain ⟨gb, ob, rfl, hgb, b0, b1, b2, b3⟩ := HB.out j x hx
      replace a0 := (HL.out.cell (p := ⟨ga, oa + j * 4, none⟩) hga).trans a0
      replace a1 := (HL.out.cell (p := ⟨ga, oa + j * 4 + 1, none⟩) hga).trans a1
      replace a2 := (HL.out.cell (p := ⟨ga, oa + j * 4 + 2, none⟩) hga).trans a2
      replace a3 := (HL.out.cell (p := ⟨ga, oa + j * 4 + 3, none⟩) hga).trans a3
      replace b0 := (HL.out.cell (p := ⟨gb, ob + j * 4, none⟩) hgb).trans b0
      replace b1 := (HL.out.cell (p := ⟨gb, ob + j * 4 + 1, none⟩) hgb).trans b1
      replace b2 := (HL.out.cell (p := ⟨gb, ob + j * 4 + 2, none⟩) hgb).trans b2
      replace b3 := (HL.out.cell (p := ⟨gb, ob + j * 4 + 3, none⟩) hgb).trans b3
      clear hx
      generalize x.ad = ad0 at *
      generalize x.va = va0 at *
      generalize x.dn = dn0 at *
      generalize x.wt = wt0 at *
      (obtain ⟨w1, rfl⟩ : ∃ x, x = wr := ⟨_, rfl⟩; have hall : allLt [ga, gb] w1.heap.size := ⟨by omega, by omega, trivial⟩; have hx := hall; (try simp only [allLt, and_true] at hx))
      go_wp2_with ((with_reducible refine wp_region_grew2 (by kernel_rfl) (by kernel_rfl) ?_; intro w2 hb; ((have hn := nw0 hb hall (by exact zo))); obtain ⟨hc, hf, hn, hc0⟩ := hn; replace hall := hn; clear hn; have hz := hb.size; (try simp only [World.size_alloc, World.size_setCell, World.size_drew] at hz); have hx := hall; (try simp only [allLt, and_true] at hx); (try (have hO := HO.out; replace HO := Lib.hid (Own.below hO (w' := w2) (by exact bel)); clear hO)); obtain ⟨w1, rfl⟩ : ∃ x, x = w2 := ⟨_, rfl⟩; (repeat (go_big_quiet_step ((go_at_call 86; exact calls_grew (l_eqWriter _ _ _ _ _))))); refine wpQuiet_nil ?_; intro w2 hw'; have hb := grew_below hw'; clear hw'; ((have hn := nw0 hb hall (by exact zo))); obtain ⟨hc, hf, hn, hc0⟩ := hn; replace hall := hn; clear hn; have hz := hb.size; (try simp only [World.size_alloc, World.size_setCell, World.size_drew] at hz); have hx := hall; (try simp only [allLt, and_true] at hx); (try (have hO := HO.out; replace HO := Lib.hid (Own.below hO (w' := w2) (by exact bel)); clear hO)); obtain ⟨w1, rfl⟩ : ∃ x, x = w2 := ⟨_, rfl⟩))
      go_roundw
      case rel =>
        have hL := HL.out
        exact ⟨j + 1, by omega, by go_num, by exact bel⟩
      case measure => simp [intOf]; omega
    · have hlt' : ¬ (j : Int) < xs.length := by omega
      go_wp2_with (fail)
      go_ret
      exact ⟨rfl, HL.out⟩
set_option maxHeartbeats 1600000 in
theorem l_markWriterS (B : Nat) (va : Value) (xs : List Wr) (k : Int) (hk : 0 ≤ k ∧ k + 4 * xs.length ≤ 9223372036854775807) (w : World) (ha : OwnWr B w va xs) : Calls Tryz.prog 41 #[va, .int .i64 k] w fun e w' => e = .returned (.int .i64 (k + 4 * xs.length)) ∧ OwnWr B w' va (marksG mkWr 4 k xs.length) ∧ w.grownBy w' va.ownBlock := by
  obtain ⟨ao, ca, hva, _, hm⟩ := ha.shape
  have hle : xs.length ≤ 9223372036854775807 := by unfold maxLen at hm; omega
  have HA := Lib.hid ha; clear ha hm
  obtain ⟨n, hn⟩ : ∃ n, n = xs.length := ⟨_, rfl⟩
  have HN := Lib.hid hn
  rw [← hn] at hle hk hva ⊢
  clear hn
  subst hva
  (have hall := all_nil w; go_enter Tryz.func41, Tryz.ntmps41)
  go_wp2_with (fail)
  go_loopw [1, 5] (fun kk i wr => ∃ j : Nat, j ≤ n ∧ i = .int .i64 j ∧ kk = .int .i64 (k + 4 * j) ∧ OwnWr B wr (.slice ao n ca) (mixG mkWr 4 k xs j) ∧ w.grownBy wr (Value.slice ao n ca).ownBlock) (fun _ i _ => n - (intOf i).toNat)
  case atStart => exact ⟨0, Nat.zero_le _, rfl, by simp, by simpa [mixG, marksG] using HA.out, grown_refl _ _⟩
  case round =>
    obtain ⟨j, hj, rfl, rfl, hown, hgr⟩ := hrel
    have HO := Lib.hid hown; have HG := Lib.hid hgr
    by_cases hlt : j < n
    · have hlt' : (j : Int) < n := by omega
      have hml := mixG_len (mk := mkWr) (s := 4) (k := k) (xs := xs) (j := j) (by have := HN.out; omega)
      have hjm : j < (mixG mkWr 4 k xs j).length := by have := HN.out; omega
      obtain ⟨ga, ca', hv, _, _⟩ := hown.addr (by omega)
      simp only [Value.slice.injEq] at hv
      obtain ⟨rfl, _, rfl⟩ := hv
      obtain ⟨y, hy⟩ := getx hjm
      obtain ⟨hBg, hga, e0, f0, e1, f1, e2, f2, e3, f3⟩ := OwnWr.slot HO.out hy
      have HJ := Lib.hid hjm
      clear hy hown hgr hml hjm
      (obtain ⟨w1, rfl⟩ : ∃ x, x = wr := ⟨_, rfl⟩; have hall : allLt [ga] w1.heap.size := ⟨by omega, trivial⟩; have hx := hall; (try simp only [allLt, and_true] at hx))
      go_wp2_with (fail)
      go_roundw
      case rel =>
        have S := Own.setk lenWr HO.out rfl j HJ.out (mkWr (k + 4 * j))
        rw [mixG_set (by have := HN.out; omega)] at S
        exact ⟨j + 1, by omega, by go_num, by go_num, S.1, grown_trans HG.out S.2⟩
      case measure => simp [intOf]; omega
    · have hlt' : ¬ (j : Int) < n := by omega
      obtain rfl : j = n := by omega
      clear hown hgr
      go_wp2_with (fail)
      go_ret
      exact ⟨rfl, by rw [HN.out]; rw [← mixG_full]; rw [← HN.out]; exact HO.out, HG.out⟩
theorem l_heldWriterS (va : Value) (n : Nat) (k : Int) (hk : 0 ≤ k ∧ k + 4 * n ≤ 9223372036854775807) (w : World) (ha : WrAt w va (marksG mkWr 4 k n)) : Calls Tryz.prog 43 #[va, .int .i64 k] w fun e w' => e = .returned (.int .i64 (k + 4 * n)) ∧ Below w.heap.size w w' := by
  obtain ⟨ao, ca, rfl, _, hm, hra⟩ := WrAt.open ha
  rw [marksG_len] at *
  have hle : n ≤ 9223372036854775807 := by unfold maxLen at hm; omega
  clear ha hm
  have HA := Lib.hid hra; clear hra
  (have hall := all_nil w; go_enter Tryz.func43, Tryz.ntmps43)
  go_wp2_with (fail)
  go_loopw [1, 5] (fun kk i wr => ∃ j : Nat, j ≤ n ∧ i = .int .i64 j ∧ kk = .int .i64 (k + 4 * j) ∧ Below w.heap.size w wr) (fun _ i _ => n - (intOf i).toNat)
  case atStart => exact ⟨0, Nat.zero_le _, rfl, by simp, Below.refl _ _⟩
  case round =>
    obtain ⟨j, hj, rfl, rfl, hbel⟩ := hrel
    have HL := Lib.hid hbel; have hsz := hbel.size; clear hbel
    by_cases hlt : j < n
    · have hlt' : (j : Int) < n := by omega
      obtain ⟨ga, oa, rfl, hga, a0, a1, a2, a3⟩ := HA.out j _ (marksG_get mkWr 4 k hlt)
      simp only [mkWr] at a0 a1 a2 a3
      replace a0 := (HL.out.cell (p := ⟨ga, oa + j * 4, none⟩) hga).trans a0
      replace a1 := (HL.out.cell (p := ⟨ga, oa + j * 4 + 1, none⟩) hga).trans a1
      replace a2 := (HL.out.cell (p := ⟨ga, oa + j * 4 + 2, none⟩) hga).trans a2
      replace a3 := (HL.out.cell (p := ⟨ga, oa + j * 4 + 3, none⟩) hga).trans a3
      (obtain ⟨w1, rfl⟩ : ∃ x, x = wr := ⟨_, rfl⟩; have hall : allLt [ga] w1.heap.size := ⟨by omega, trivial⟩; have hx := hall; (try simp only [allLt, and_true] at hx))
      go_wp2_with (fail)
      go_roundw
      case rel =>
        have hL := HL.out
        exact ⟨j + 1, by omega, by go_num, by go_num, by exact bel⟩
      case measure => simp [intOf]; omega
    · have hlt' : ¬ (j : Int) < n := by omega
      obtain rfl : j = n := by omega
      go_wp2_with (fail)
      go_ret
      exact ⟨rfl, HL.out⟩

theorem szWriterS' (ao : Option Addr) (n cap : Nat) (hn : n ≤ maxLen) (left : Int) (hl : 0 ≤ left ∧ left ≤ 1048576) (w : World) : Calls Tryz.prog 34 #[.slice ao n cap, .int .i64 left] w fun e w' => e = .returned (.int .i64 (szRes left n)) ∧ Below w.heap.size w w' :=
  (l_szWriterS ao n cap hn left hl w).mono fun e w' ⟨h1, h2⟩ => ⟨h1, h2 ▸ Below.refl _ _⟩

section
variable {H : Type} {enc : TypeId × Value → H} {P : Program} {W : World} {base : Nat} {t e ti tb : TypeId} {v : Value} {d : DataW H} {p : List MemPlace}
theorem argWr {f0 f1 f2 f3 : Field} (ht : P.underlying t = some (.slice e)) (he : P.underlying e = some (.struct #[f0, f1, f2, f3])) (hone : oneCellFields P #[f0, f1, f2, f3] = true) (hC : P.cellsOf e = 4) (hi : P.underlying ti = some (.int .i64)) (hbo : P.underlying tb = some .bool)
    (h0 : f0.type = ti) (h1 : f1.type = ti) (h2 : f2.type = tb) (h3 : f3.type = ti)
    (hok : Value.okWide P W .any base t v) (h : DataW.Trod enc P W 0 (fun _ => true) true t v d p) : ∃ xs, WrAt W v xs := by
  obtain ⟨ao, n, cap, rfl, hl, hm, hc⟩ := structs_open ht he hone hC (by simp) hok h
  obtain ⟨xs, hlen, hx⟩ := list_of' (fun i (s : Wr) => ∃ g o, ao = some ⟨g, o, none⟩ ∧ g < W.heap.size ∧ ∀ j u, (fWr s)[j]? = some u → W.cell? ⟨g, o + i * 4 + j, none⟩ = some u) n (fun i hi' => by
    obtain ⟨b, o, rfl, hb, hf⟩ := hc i hi'
    obtain ⟨u0, m0, y0, c0, t0⟩ := hf 0 f0 rfl
    rw [h0] at t0
    obtain ⟨x0, e0, _⟩ := DataW.trod_int hi t0
    simp only [List.cons.injEq, and_true] at e0
    subst e0
    obtain ⟨u1, m1, y1, c1, t1⟩ := hf 1 f1 rfl
    rw [h1] at t1
    obtain ⟨x1, e1, _⟩ := DataW.trod_int hi t1
    simp only [List.cons.injEq, and_true] at e1
    subst e1
    obtain ⟨u2, m2, y2, c2, t2⟩ := hf 2 f2 rfl
    rw [h2] at t2
    obtain ⟨x2, e2, _⟩ := DataW.trod_bool hbo t2
    simp only [List.cons.injEq, and_true] at e2
    subst e2
    obtain ⟨u3, m3, y3, c3, t3⟩ := hf 3 f3 rfl
    rw [h3] at t3
    obtain ⟨x3, e3, _⟩ := DataW.trod_int hi t3
    simp only [List.cons.injEq, and_true] at e3
    subst e3
    refine ⟨⟨x0, x1, x2, x3⟩, b, o, rfl, hb, fun j u hj => ?_⟩
    simp only [List.size_toArray, List.length_cons, List.length_nil, Nat.zero_add, Nat.reduceAdd, ← Nat.add_assoc] at c0 c1 c2 c3
    match j, hj with
      | 0, hj => simp [fWr] at hj; subst hj; simpa using c0
      | 1, hj => simp [fWr] at hj; subst hj; simpa using c1
      | 2, hj => simp [fWr] at hj; subst hj; simpa using c2
      | 3, hj => simp [fWr] at hj; subst hj; simpa using c3
      | j + 4, hj => simp [fWr] at hj)
  subst hlen
  exact ⟨xs, ao, cap, rfl, hl, hm, hx⟩
end

structure Lt where
  ix : Int
  sl : Int
deriving DecidableEq, Inhabited
def Lt.val (x : Lt) : Value := .agg #[.int .i64 x.ix, .int .i64 x.sl]
def fLt (x : Lt) : List Value := [.int .i64 x.ix, .int .i64 x.sl]
theorem elemLt : ElemT Tryz.prog 48 94 (.agg #[.int .i64 0, .int .i64 0]) 2 16 := ⟨Tryz.underlying48, info_parts (by kernel_rfl), rfl, by decide⟩
theorem lenLt : LenK 2 fLt := fun _ => rfl
theorem oneLt : ∀ y : Lt, ∀ u ∈ fLt y, u.oneCell' = true := fun y u hu => by simp [fLt] at hu; rcases hu with rfl | rfl <;> rfl
abbrev OwnLt (B : Nat) (w : World) (v : Value) (xs : List Lt) : Prop := Own 94 2 fLt B w v xs
theorem zeroLt : fLt ⟨0, 0⟩ = (Value.agg #[.int .i64 0, .int .i64 0]).cells.toList := by first | rfl | kernel_rfl | simp [fLt, Value.cells]
abbrev LtAt (w : World) (v : Value) (xs : List Lt) : Prop := SlAt 2 fLt w v xs
theorem LtAt.open {w : World} {v : Value} {xs : List Lt} (h : LtAt w v xs) : ∃ ao cap, v = .slice ao xs.length cap ∧ xs.length ≤ cap ∧ cap ≤ maxLen ∧
    ∀ i x, xs[i]? = some x → ∃ g o, ao = some ⟨g, o, none⟩ ∧ g < w.heap.size ∧ w.cell? ⟨g, o + i * 2, none⟩ = some (.int .i64 x.ix) ∧ w.cell? ⟨g, o + i * 2 + 1, none⟩ = some (.int .i64 x.sl) := SlAt.open2 h fun _ => rfl
theorem OwnLt.slot {B : Nat} {w : World} {g n cap : Nat} {xs : List Lt} (h : OwnLt B w (.slice (some ⟨g, 0, none⟩) n cap) xs) {i : Nat} {x : Lt} (hi : xs[i]? = some x) : B ≤ g ∧ g < w.heap.size ∧ w.cell? ⟨g, i * 2, none⟩ = some (.int .i64 x.ix) ∧ w.frozen? ⟨g, i * 2, none⟩ = false ∧ w.cell? ⟨g, i * 2 + 1, none⟩ = some (.int .i64 x.sl) ∧ w.frozen? ⟨g, i * 2 + 1, none⟩ = false := by
  obtain ⟨hB, hg, hz, hc⟩ := Own.slot h lenLt hi
  exact ⟨hB, hg, by simpa [fLt] using hc 0 (.int .i64 x.ix), hz _, by simpa [fLt] using hc 1 (.int .i64 x.sl), hz _⟩
def mkLt (k : Int) : Lt := ⟨k, k + 1⟩

theorem l_szLateS (ao : Option Addr) (n cap : Nat) (hn : n ≤ maxLen) (left : Int) (hl : 0 ≤ left ∧ left ≤ 1048576) (w : World) : Calls Tryz.prog 10 #[.slice ao n cap, .int .i64 left] w fun e w' => e = .returned (.int .i64 (if left - n < 0 then -1 else left - n)) ∧ w = w' := by
  have hm : n ≤ 9223372036854775807 := by unfold maxLen at hn; omega
  clear hn
  by_cases h : left - n < 0
  all_goals (have hall := all_nil w; go_enter Tryz.func10, Tryz.ntmps10)
  all_goals go_wp2
  all_goals (go_ret; exact ⟨by simp [h], rfl⟩)
theorem l_toLate (ix0 : Int) (sl0 : Int) (w : World) : Calls Tryz.prog 53 #[.agg #[.int .i64 ix0, .int .i64 sl0]] w fun e w' => e = .returned (.agg #[.int .i64 ix0, .int .i64 sl0]) ∧ Below w.heap.size w w' := by
  (have hall := all_nil w; go_enter Tryz.func53, Tryz.ntmps53)
  go_wp2_with (fail)
  (refine bodyPost_ret (v := .agg #[.int .i64 ix0, .int .i64 sl0]) (by simp [results, Tryz.results53, go_sem]) rfl ⟨rfl, ?_⟩; exact bel)
theorem l_eqLate (ix0 : Int) (sl0 : Int) (w : World) : Calls Tryz.prog 59 #[.agg #[.int .i64 ix0, .int .i64 sl0], .agg #[.int .i64 ix0, .int .i64 sl0]] w fun e w' => e = .returned (.bool true) ∧ Below w.heap.size w w' := by
  (have hall := all_nil w; go_enter Tryz.func59, Tryz.ntmps59)
  go_wp2_with (fail)
  all_goals (go_ret; refine ⟨by simp_all [], ?_⟩; exact bel)
theorem l_toLateS (va : Value) (xs : List Lt) (hx : xs.length ≤ 1048576) (w : World) (ha : LtAt w va xs) : Calls Tryz.prog 14 #[va] w fun e w' => ∃ v, e = .returned v ∧ OwnLt w.heap.size w' v xs ∧ Below w.heap.size w w' := by
  obtain ⟨ao, ca, rfl, h1, h2, hr⟩ := LtAt.open ha
  obtain ⟨n, hn⟩ : ∃ n, n = xs.length := ⟨_, rfl⟩
  have HN := Lib.hid hn
  rw [← hn] at hx h1
  have HA := Lib.hid hr; clear hr ha
  rw [← hn]
  clear hn
  (have hall := all_nil w; go_enter Tryz.func14, Tryz.ntmps14)
  go_wp2_with (at_make; go_loud (refine make1 elemLt rfl _ _ rfl zeroLt .i64 .i64 n rfl rfl (by omega) (by unfold maxLen; omega) ?_); intro v2 w2 hv hown hb)
  go_loopw [4] (fun i wr => ∃ j : Nat, j ≤ n ∧ i = .int .i64 j ∧ OwnLt w.heap.size wr v2 (xs.take j ++ List.replicate (n - j) ⟨0, 0⟩) ∧ Below w.heap.size w wr) (fun i _ => n - (intOf i).toNat)
  case atStart => exact ⟨0, Nat.zero_le _, rfl, by simpa using hown, hb⟩
  case round =>
    obtain ⟨j, hj, rfl, hown, hbel⟩ := hrel
    have HO := Lib.hid hown; have HB := Lib.hid hbel
    have hsz := hbel.size
    clear hown hbel
    by_cases hlt : j < n
    · have hlt' : (j : Int) < n := by omega
      have hltx : j < xs.length := by have := HN.out; omega
      obtain ⟨x, hx'⟩ := getx hltx
      obtain ⟨ga, oa, rfl, hga, a0, a1⟩ := HA.out j x hx'
      replace a0 := (HB.out.cell (p := ⟨ga, oa + j * 2, none⟩) hga).trans a0
      replace a1 := (HB.out.cell (p := ⟨ga, oa + j * 2 + 1, none⟩) hga).trans a1
      have HX := Lib.hid hx'; clear hx' hltx
      subst hv
      clear hown
      have hlen : (xs.take j ++ List.replicate (n - j) (⟨0, 0⟩ : Lt)).length = n := by have := HN.out; simp; omega
      obtain ⟨y, hy⟩ := getx (xs := xs.take j ++ List.replicate (n - j) (⟨0, 0⟩ : Lt)) (k := j) (by omega)
      obtain ⟨hBg, hgo, e0, f0, e1, f1⟩ := OwnLt.slot HO.out hy
      clear hy
      (obtain ⟨w1, rfl⟩ : ∃ x, x = wr := ⟨_, rfl⟩; have hall : allLt [ga, w.heap.size] w1.heap.size := ⟨by omega, by omega, trivial⟩; have hx := hall; (try simp only [allLt, and_true] at hx))
      go_wp2_with ((go_at_call 53; (refine (l_toLate _ _ _).mono ?_); rintro e w2 ⟨rfl, hb⟩; ((have hn := nw0 hb hall (by exact zo))); obtain ⟨hc, hf, hn, hc0⟩ := hn; replace hall := hn; clear hn; have hz := hb.size; (try simp only [World.size_alloc, World.size_setCell, World.size_drew] at hz); have hx := hall; (try simp only [allLt, and_true] at hx); (try (have hO := HO.out; replace HO := Lib.hid (Own.below hO (w' := w2) (by exact bel)); clear hO)); obtain ⟨w1, rfl⟩ : ∃ x, x = w2 := ⟨_, rfl⟩))
      go_roundw
      case rel =>
        have S := Own.setk lenLt HO.out rfl j (by omega) (xs[j]'(by have := HN.out; omega))
        rw [mix_set _ _ HN.out (by have := HN.out; omega)] at S
        have hB := HB.out
        have hX := HX.out
        have hE : xs[j]'(by have := HN.out; omega) = x := by rw [List.getElem?_eq_getElem (by have := HN.out; omega)] at hX; exact Option.some.inj hX
        rw [hE] at S
        exact ⟨j + 1, by omega, by go_num, S.1, by exact bel⟩
      case measure => simp [intOf]; omega
    · have hlt' : ¬ (j : Int) < n := by omega
      obtain rfl : j = n := by omega
      subst hv
      clear hown
      go_wp2_with (fail)
      go_ret
      exact ⟨_, rfl, by have h0 := HO.out; rw [Nat.sub_self, List.replicate_zero, List.append_nil, List.take_of_length_le (Nat.le_of_eq HN.out.symm)] at h0; exact h0, HB.out⟩
theorem l_eqLateS (va vb : Value) (xs : List Lt) (w : World) (ha : LtAt w va xs) (hb : LtAt w vb xs) : Calls Tryz.prog 18 #[va, vb] w fun e w' => e = .returned (.bool true) ∧ Below w.heap.size w w' := by
  obtain ⟨ao, ca, rfl, _, hm, hra⟩ := LtAt.open ha
  obtain ⟨bo, cb, rfl, _, _, hrb⟩ := LtAt.open hb
  have hle : xs.length ≤ 9223372036854775807 := by unfold maxLen at hm; omega
  clear hm ha hb
  have HA := Lib.hid hra; have HB := Lib.hid hrb; clear hra hrb
  (have hall := all_nil w; go_enter Tryz.func18, Tryz.ntmps18)
  go_wp2_with (fail)
  go_loopw [5] (fun i wr => ∃ j : Nat, j ≤ xs.length ∧ i = .int .i64 j ∧ Below w.heap.size w wr) (fun i _ => xs.length - (intOf i).toNat)
  case atStart => exact ⟨0, Nat.zero_le _, rfl, Below.refl _ _⟩
  case round =>
    obtain ⟨j, hj, rfl, hbel⟩ := hrel
    have HL := Lib.hid hbel; have hsz := hbel.size; clear hbel
    by_cases hlt : j < xs.length
    · have hlt' : (j : Int) < xs.length := by omega
      obtain ⟨x, hx⟩ := getx hlt
      obtain ⟨ga, oa, rfl, hga, a0, a1⟩ := HA.out j x hx
      obtain ⟨gb, ob, rfl, hgb, b0, b1⟩ := HB.out j x hx
      replace a0 := (HL.out.cell (p := ⟨ga, oa + j * 2, none⟩) hga).trans a0
      replace a1 := (HL.out.cell (p := ⟨ga, oa + j * 2 + 1, none⟩) hga).trans a1
      replace b0 := (HL.out.cell (p := ⟨gb, ob + j * 2, none⟩) hgb).trans b0
      replace b1 := (HL.out.cell (p := ⟨gb, ob + j * 2 + 1, none⟩) hgb).trans b1
      clear hx
      generalize x.ix = ix0 at *
      generalize x.sl = sl0 at *
      (obtain ⟨w1, rfl⟩ : ∃ x, x = wr := ⟨_, rfl⟩; have hall : allLt [ga, gb] w1.heap.size := ⟨by omega, by omega, trivial⟩; have hx := hall; (try simp only [allLt, and_true] at hx))
      go_wp2_with ((with_reducible refine wp_region_grew2 (by kernel_rfl) (by kernel_rfl) ?_; intro w2 hb; ((have hn := nw0 hb hall (by exact zo))); obtain ⟨hc, hf, hn, hc0⟩ := hn; replace hall := hn; clear hn; have hz := hb.size; (try simp only [World.size_alloc, World.size_setCell, World.size_drew] at hz); have hx := hall; (try simp only [allLt, and_true] at hx); (try (have hO := HO.out; replace HO := Lib.hid (Own.below hO (w' := w2) (by exact bel)); clear hO)); obtain ⟨w1, rfl⟩ : ∃ x, x = w2 := ⟨_, rfl⟩; (repeat (go_big_quiet_step ((go_at_call 59; exact calls_grew (l_eqLate _ _ _))))); refine wpQuiet_nil ?_; intro w2 hw'; have hb := grew_below hw'; clear hw'; ((have hn := nw0 hb hall (by exact zo))); obtain ⟨hc, hf, hn, hc0⟩ := hn; replace hall := hn; clear hn; have hz := hb.size; (try simp only [World.size_alloc, World.size_setCell, World.size_drew] at hz); have hx := hall; (try simp only [allLt, and_true] at hx); (try (have hO := HO.out; replace HO := Lib.hid (Own.below hO (w' := w2) (by exact bel)); clear hO)); obtain ⟨w1, rfl⟩ : ∃ x, x = w2 := ⟨_, rfl⟩))
      go_roundw
      case rel =>
        have hL := HL.out
        exact ⟨j + 1, by omega, by go_num, by exact bel⟩
      case measure => simp [intOf]; omega
    · have hlt' : ¬ (j : Int) < xs.length := by omega
      go_wp2_with (fail)
      go_ret
      exact ⟨rfl, HL.out⟩

theorem l_markLateS (B : Nat) (va : Value) (xs : List Lt) (k : Int) (hk : 0 ≤ k ∧ k + 2 * xs.length ≤ 9223372036854775807) (w : World) (ha : OwnLt B w va xs) : Calls Tryz.prog 21 #[va, .int .i64 k] w fun e w' => e = .returned (.int .i64 (k + 2 * xs.length)) ∧ OwnLt B w' va (marksG mkLt 2 k xs.length) ∧ w.grownBy w' va.ownBlock := by
  obtain ⟨ao, ca, hva, _, hm⟩ := ha.shape
  have hle : xs.length ≤ 9223372036854775807 := by unfold maxLen at hm; omega
  have HA := Lib.hid ha; clear ha hm
  obtain ⟨n, hn⟩ : ∃ n, n = xs.length := ⟨_, rfl⟩
  have HN := Lib.hid hn
  rw [← hn] at hle hk hva ⊢
  clear hn
  subst hva
  (have hall := all_nil w; go_enter Tryz.func21, Tryz.ntmps21)
  go_wp2_with (fail)
  go_loopw [1, 5] (fun kk i wr => ∃ j : Nat, j ≤ n ∧ i = .int .i64 j ∧ kk = .int .i64 (k + 2 * j) ∧ OwnLt B wr (.slice ao n ca) (mixG mkLt 2 k xs j) ∧ w.grownBy wr (Value.slice ao n ca).ownBlock) (fun _ i _ => n - (intOf i).toNat)
  case atStart => exact ⟨0, Nat.zero_le _, rfl, by simp, by simpa [mixG, marksG] using HA.out, grown_refl _ _⟩
  case round =>
    obtain ⟨j, hj, rfl, rfl, hown, hgr⟩ := hrel
    have HO := Lib.hid hown; have HG := Lib.hid hgr
    by_cases hlt : j < n
    · have hlt' : (j : Int) < n := by omega
      have hml := mixG_len (mk := mkLt) (s := 2) (k := k) (xs := xs) (j := j) (by have := HN.out; omega)
      have hjm : j < (mixG mkLt 2 k xs j).length := by have := HN.out; omega
      obtain ⟨ga, ca', hv, _, _⟩ := hown.addr (by omega)
      simp only [Value.slice.injEq] at hv
      obtain ⟨rfl, _, rfl⟩ := hv
      obtain ⟨y, hy⟩ := getx hjm
      obtain ⟨hBg, hga, e0, f0, e1, f1⟩ := OwnLt.slot HO.out hy
      have HJ := Lib.hid hjm
      clear hy hown hgr hml hjm
      (obtain ⟨w1, rfl⟩ : ∃ x, x = wr := ⟨_, rfl⟩; have hall : allLt [ga] w1.heap.size := ⟨by omega, trivial⟩; have hx := hall; (try simp only [allLt, and_true] at hx))
      go_wp2_with (fail)
      go_roundw
      case rel =>
        have S := Own.setk lenLt HO.out rfl j HJ.out (mkLt (k + 2 * j))
        rw [mixG_set (by have := HN.out; omega)] at S
        exact ⟨j + 1, by omega, by go_num, by go_num, S.1, grown_trans HG.out S.2⟩
      case measure => simp [intOf]; omega
    · have hlt' : ¬ (j : Int) < n := by omega
      obtain rfl : j = n := by omega
      clear hown hgr
      go_wp2_with (fail)
      go_ret
      exact ⟨rfl, by rw [HN.out]; rw [← mixG_full]; rw [← HN.out]; exact HO.out, HG.out⟩
theorem l_heldLateS (va : Value) (n : Nat) (k : Int) (hk : 0 ≤ k ∧ k + 2 * n ≤ 9223372036854775807) (w : World) (ha : LtAt w va (marksG mkLt 2 k n)) : Calls Tryz.prog 24 #[va, .int .i64 k] w fun e w' => e = .returned (.int .i64 (k + 2 * n)) ∧ Below w.heap.size w w' := by
  obtain ⟨ao, ca, rfl, _, hm, hra⟩ := LtAt.open ha
  rw [marksG_len] at *
  have hle : n ≤ 9223372036854775807 := by unfold maxLen at hm; omega
  clear ha hm
  have HA := Lib.hid hra; clear hra
  (have hall := all_nil w; go_enter Tryz.func24, Tryz.ntmps24)
  go_wp2_with (fail)
  go_loopw [1, 5] (fun kk i wr => ∃ j : Nat, j ≤ n ∧ i = .int .i64 j ∧ kk = .int .i64 (k + 2 * j) ∧ Below w.heap.size w wr) (fun _ i _ => n - (intOf i).toNat)
  case atStart => exact ⟨0, Nat.zero_le _, rfl, by simp, Below.refl _ _⟩
  case round =>
    obtain ⟨j, hj, rfl, rfl, hbel⟩ := hrel
    have HL := Lib.hid hbel; have hsz := hbel.size; clear hbel
    by_cases hlt : j < n
    · have hlt' : (j : Int) < n := by omega
      obtain ⟨ga, oa, rfl, hga, a0, a1⟩ := HA.out j _ (marksG_get mkLt 2 k hlt)
      simp only [mkLt] at a0 a1
      replace a0 := (HL.out.cell (p := ⟨ga, oa + j * 2, none⟩) hga).trans a0
      replace a1 := (HL.out.cell (p := ⟨ga, oa + j * 2 + 1, none⟩) hga).trans a1
      (obtain ⟨w1, rfl⟩ : ∃ x, x = wr := ⟨_, rfl⟩; have hall : allLt [ga] w1.heap.size := ⟨by omega, trivial⟩; have hx := hall; (try simp only [allLt, and_true] at hx))
      go_wp2_with (fail)
      go_roundw
      case rel =>
        have hL := HL.out
        exact ⟨j + 1, by omega, by go_num, by go_num, by exact bel⟩
      case measure => simp [intOf]; omega
    · have hlt' : ¬ (j : Int) < n := by omega
      obtain rfl : j = n := by omega
      go_wp2_with (fail)
      go_ret
      exact ⟨rfl, HL.out⟩

theorem szLateS' (ao : Option Addr) (n cap : Nat) (hn : n ≤ maxLen) (left : Int) (hl : 0 ≤ left ∧ left ≤ 1048576) (w : World) : Calls Tryz.prog 10 #[.slice ao n cap, .int .i64 left] w fun e w' => e = .returned (.int .i64 (szRes left n)) ∧ Below w.heap.size w w' :=
  (l_szLateS ao n cap hn left hl w).mono fun e w' ⟨h1, h2⟩ => ⟨h1, h2 ▸ Below.refl _ _⟩

section
variable {H : Type} {enc : TypeId × Value → H} {P : Program} {W : World} {base : Nat} {t e ti tb : TypeId} {v : Value} {d : DataW H} {p : List MemPlace}
theorem argLt {f0 f1 : Field} (ht : P.underlying t = some (.slice e)) (he : P.underlying e = some (.struct #[f0, f1])) (hone : oneCellFields P #[f0, f1] = true) (hC : P.cellsOf e = 2) (hi : P.underlying ti = some (.int .i64))
    (h0 : f0.type = ti) (h1 : f1.type = ti)
    (hok : Value.okWide P W .any base t v) (h : DataW.Trod enc P W 0 (fun _ => true) true t v d p) : ∃ xs, LtAt W v xs := by
  obtain ⟨ao, n, cap, rfl, hl, hm, hc⟩ := structs_open ht he hone hC (by simp) hok h
  obtain ⟨xs, hlen, hx⟩ := list_of' (fun i (s : Lt) => ∃ g o, ao = some ⟨g, o, none⟩ ∧ g < W.heap.size ∧ ∀ j u, (fLt s)[j]? = some u → W.cell? ⟨g, o + i * 2 + j, none⟩ = some u) n (fun i hi' => by
    obtain ⟨b, o, rfl, hb, hf⟩ := hc i hi'
    obtain ⟨u0, m0, y0, c0, t0⟩ := hf 0 f0 rfl
    rw [h0] at t0
    obtain ⟨x0, e0, _⟩ := DataW.trod_int hi t0
    simp only [List.cons.injEq, and_true] at e0
    subst e0
    obtain ⟨u1, m1, y1, c1, t1⟩ := hf 1 f1 rfl
    rw [h1] at t1
    obtain ⟨x1, e1, _⟩ := DataW.trod_int hi t1
    simp only [List.cons.injEq, and_true] at e1
    subst e1
    refine ⟨⟨x0, x1⟩, b, o, rfl, hb, fun j u hj => ?_⟩
    simp only [List.size_toArray, List.length_cons, List.length_nil, Nat.zero_add, Nat.reduceAdd, ← Nat.add_assoc] at c0 c1
    match j, hj with
      | 0, hj => simp [fLt] at hj; subst hj; simpa using c0
      | 1, hj => simp [fLt] at hj; subst hj; simpa using c1
      | j + 2, hj => simp [fLt] at hj)
  subst hlen
  exact ⟨xs, ao, cap, rfl, hl, hm, hx⟩
end

end Go.Proofs.YtmblkllijjlkoaaGreat
