/-
  The laws' functions on slices of slices of ints.
-/
import Derived.Test.YtkdafincnmkjnaaFam
import Derived.Test.YtkdafincnmkjnaaRowLib
import Derived.Deep.RegionHeld3
set_option linter.unusedVariables false
set_option linter.unusedSimpArgs false
namespace Go.Proofs.Ytkdafincnmkjnaa
open Go.RowKit
theorem rowAt {f : Int → List Value} {w : World} {c : Value} {vs : List Value} {rows : List (List Int)} (h : RowsAt f w c vs rows) {j : Nat} (hj : j < rows.length) : ∃ g o ro rl rc r cap, c = .slice (some ⟨g, o, none⟩) rows.length cap ∧ g < w.heap.size ∧ rows[j]? = some r ∧ rl = r.length ∧ vs[j]? = some (.slice ro rl rc) ∧ w.cell? ⟨g, o + j, none⟩ = some (.slice ro rl rc) ∧ rl ≤ maxLen ∧ SlAt 1 f w (.slice ro rl rc) r := by
  obtain ⟨ao, cap, rfl, h1, h2, hr⟩ := SlAt.open1 (c0 := id) h.out (fun _ => rfl)
  obtain ⟨v, hv⟩ := getx (show j < vs.length by rw [h.len]; exact hj)
  obtain ⟨r, hr'⟩ := getx hj
  obtain ⟨g, o, rfl, hg, hc⟩ := hr j v hv
  have hrow := h.row j v r hv hr'
  obtain ⟨ro, rc, rfl, hl, hm⟩ := hrow.shape
  exact ⟨g, o, ro, r.length, rc, r, cap, by rw [h.len], hg, hr', rfl, hv, hc, by omega, hrow⟩
theorem RowsAt.shape {f : Int → List Value} {w : World} {c : Value} {vs : List Value} {rows : List (List Int)} (h : RowsAt f w c vs rows) : ∃ ao cap, c = .slice ao rows.length cap ∧ rows.length ≤ cap ∧ cap ≤ maxLen := by
  obtain ⟨ao, cap, rfl, h1, h2⟩ := h.out.shape
  exact ⟨ao, cap, by rw [h.len], by rw [← h.len]; exact h1, h2⟩
/-- What the laws' functions on sizes return. -/
def szRes (left : Int) (t : Nat) : Int := if left - t < 0 then -1 else left - t
theorem szRes_neg {left : Int} {t : Nat} (h : left - t < 0) : szRes left t = -1 := if_pos h
theorem szRes_pos {left : Int} {t : Nat} (h : ¬ left - t < 0) : szRes left t = left - t := if_neg h
/-- What a call that hands back a slice of slices of its own leaves. -/
def NewRows (w : World) (rows : List (List Int)) (e : Ending) (w' : World) : Prop := ∃ c us, e = .returned c ∧ OwnR w.heap.size w' c us rows ∧ (blocks (c :: us)).Nodup ∧ Below w.heap.size w w'
theorem l_eqIntSS (B B' : Nat) (c c' : Value) (vs us : List Value) (rows : List (List Int)) (w : World) (ha : OwnR B w c vs rows) (hb : OwnR B' w c' us rows) : Calls Try.prog 104 #[c, c'] w fun e w' => e = .returned (.bool true) ∧ Below w.heap.size w w' := by
  have ha' := ha.at lenInt; have hb' := hb.at lenInt
  obtain ⟨ao, ca, rfl, h1, h2⟩ := ha'.shape
  obtain ⟨bo, cb, rfl, _, _⟩ := hb'.shape
  have HA := Lib.hid ha'; have HB := Lib.hid hb'
  have HOA := Lib.hid ha; have HOB := Lib.hid hb
  have hm : rows.length ≤ 9223372036854775807 := by unfold maxLen at h2; omega
  clear ha hb ha' hb' h1 h2
  (have hall := all_nil w; go_enter Try.func104, Try.ntmps104)
  go_wp2_with (first | (with_reducible refine wp_region_grew2 (by kernel_rfl) (by kernel_rfl) ?_; intro w2 hb; (first | have hn := nw4 hb hall (by exact zo) | have hn := nw3 hb hall (by exact zo) | have hn := nw2 hb hall (by exact zo) | have hn := nw1 hb hall (by exact zo) | have hn := nw0 hb hall (by exact zo)); obtain ⟨hc, hf, hn, hc0⟩ := hn; replace hall := hn; clear hn; have hz := hb.size; (try simp only [World.size_alloc, World.size_setCell, World.size_drew] at hz); have hx := hall; (try simp only [allLt, and_true] at hx); (try (have hO := HO.out; replace HO := Lib.hid (Own.below hO (w' := w2) (by exact bel)); clear hO)); obtain ⟨w1, rfl⟩ : ∃ x, x = w2 := ⟨_, rfl⟩; (repeat (go_big_quiet_step (fail))); refine wpQuiet_nil ?_; intro w2 hw'; have hb := grew_below hw'; clear hw'; (first | have hn := nw4 hb hall (by exact zo) | have hn := nw3 hb hall (by exact zo) | have hn := nw2 hb hall (by exact zo) | have hn := nw1 hb hall (by exact zo) | have hn := nw0 hb hall (by exact zo)); obtain ⟨hc, hf, hn, hc0⟩ := hn; replace hall := hn; clear hn; have hz := hb.size; (try simp only [World.size_alloc, World.size_setCell, World.size_drew] at hz); have hx := hall; (try simp only [allLt, and_true] at hx); (try (have hO := HO.out; replace HO := Lib.hid (Own.below hO (w' := w2) (by exact bel)); clear hO)); obtain ⟨w1, rfl⟩ : ∃ x, x = w2 := ⟨_, rfl⟩))
  go_loopw [5] (fun i wr => ∃ j : Nat, j ≤ rows.length ∧ i = .int .i64 j ∧ Below w.heap.size w wr) (fun i _ => rows.length - (intOf i).toNat)
  case atStart => exact ⟨0, Nat.zero_le _, rfl, Below.refl _ _⟩
  case round =>
    obtain ⟨j, hj, rfl, hbel⟩ := hrel
    have HL := Lib.hid hbel; have hsz := hbel.size
    by_cases hlt : j < rows.length
    · have hlt' : (j : Int) < rows.length := by omega
      obtain ⟨ga, oa, ra, rla, rca, r, cap, he, hga, hr, hrl, hvj, hc, hrm, hat⟩ := rowAt HA.out hlt
      simp only [Value.slice.injEq] at he
      obtain ⟨rfl, -, rfl⟩ := he
      obtain ⟨gb, ob, rb, rlb, rcb, r', cap', he, hgb, hr', hrl', huj, hd, hrm', hat'⟩ := rowAt HB.out hlt
      simp only [Value.slice.injEq] at he
      obtain ⟨rfl, -, rfl⟩ := he
      rw [hr] at hr'
      obtain rfl : r = r' := Option.some.inj hr'
      replace hc := (hbel.cell (p := ⟨ga, oa + j, none⟩) hga).trans hc
      replace hd := (hbel.cell (p := ⟨gb, ob + j, none⟩) hgb).trans hd
      have O1 := Lib.hid ((HOA.out.row j _ r hvj hr).below hbel)
      have O2 := Lib.hid ((HOB.out.row j _ r huj hr).below hbel)
      clear hr hrl hvj hat hr' hrl' huj hat' hbel
      (obtain ⟨w1, rfl⟩ : ∃ x, x = wr := ⟨_, rfl⟩; have hall : allLt [ga, gb] w1.heap.size := ⟨by omega, by omega, trivial⟩; have hx := hall; (try simp only [allLt, and_true] at hx))
      go_wp2_with (with_reducible refine wp_region_grew2 (by kernel_rfl) (by kernel_rfl) ?_; intro w2 hb; have hb0 := hb; (first | have hn := nw4 hb hall (by exact zo) | have hn := nw3 hb hall (by exact zo) | have hn := nw2 hb hall (by exact zo) | have hn := nw1 hb hall (by exact zo) | have hn := nw0 hb hall (by exact zo)); obtain ⟨hc, hf, hn, hc0⟩ := hn; replace hall := hn; clear hn; have hz := hb.size; (try simp only [World.size_alloc, World.size_setCell, World.size_drew] at hz); have hx := hall; (try simp only [allLt, and_true] at hx); (try (have hO := HO.out; replace HO := Lib.hid (Own.below hO (w' := w2) (by exact bel)); clear hO)); obtain ⟨w1, rfl⟩ : ∃ x, x = w2 := ⟨_, rfl⟩; replace O1 := O1.out.below hb0; replace O2 := O2.out.below hb0; clear hb0; (repeat (go_big_quiet_step ((go_at_call 99; exact calls_grew (l_eqIntS _ _ _ _ r _ (Own.below O1 (Grew.below _)) (Own.below O2 (Grew.below _))))))); refine wpQuiet_nil ?_; intro w2 hw'; have hb := grew_below hw'; clear hw'; (first | have hn := nw4 hb hall (by exact zo) | have hn := nw3 hb hall (by exact zo) | have hn := nw2 hb hall (by exact zo) | have hn := nw1 hb hall (by exact zo) | have hn := nw0 hb hall (by exact zo)); obtain ⟨hc, hf, hn, hc0⟩ := hn; replace hall := hn; clear hn; have hz := hb.size; (try simp only [World.size_alloc, World.size_setCell, World.size_drew] at hz); have hx := hall; (try simp only [allLt, and_true] at hx); (try (have hO := HO.out; replace HO := Lib.hid (Own.below hO (w' := w2) (by exact bel)); clear hO)); obtain ⟨w1, rfl⟩ : ∃ x, x = w2 := ⟨_, rfl⟩)
      go_roundw
      case rel =>
        have hL := HL.out
        exact ⟨j + 1, by omega, by go_num, by exact bel⟩
      case measure => simp [intOf]; omega
    · have hlt' : ¬ (j : Int) < rows.length := by omega
      clear hbel
      go_wp2_with (first | (with_reducible refine wp_region_grew2 (by kernel_rfl) (by kernel_rfl) ?_; intro w2 hb; (first | have hn := nw4 hb hall (by exact zo) | have hn := nw3 hb hall (by exact zo) | have hn := nw2 hb hall (by exact zo) | have hn := nw1 hb hall (by exact zo) | have hn := nw0 hb hall (by exact zo)); obtain ⟨hc, hf, hn, hc0⟩ := hn; replace hall := hn; clear hn; have hz := hb.size; (try simp only [World.size_alloc, World.size_setCell, World.size_drew] at hz); have hx := hall; (try simp only [allLt, and_true] at hx); (try (have hO := HO.out; replace HO := Lib.hid (Own.below hO (w' := w2) (by exact bel)); clear hO)); obtain ⟨w1, rfl⟩ : ∃ x, x = w2 := ⟨_, rfl⟩; (repeat (go_big_quiet_step (fail))); refine wpQuiet_nil ?_; intro w2 hw'; have hb := grew_below hw'; clear hw'; (first | have hn := nw4 hb hall (by exact zo) | have hn := nw3 hb hall (by exact zo) | have hn := nw2 hb hall (by exact zo) | have hn := nw1 hb hall (by exact zo) | have hn := nw0 hb hall (by exact zo)); obtain ⟨hc, hf, hn, hc0⟩ := hn; replace hall := hn; clear hn; have hz := hb.size; (try simp only [World.size_alloc, World.size_setCell, World.size_drew] at hz); have hx := hall; (try simp only [allLt, and_true] at hx); (try (have hO := HO.out; replace HO := Lib.hid (Own.below hO (w' := w2) (by exact bel)); clear hO)); obtain ⟨w1, rfl⟩ : ∃ x, x = w2 := ⟨_, rfl⟩))
      go_ret
      exact ⟨rfl, HL.out⟩
theorem l_markIntSS (B : Nat) (c : Value) (vs : List Value) (rows : List (List Int)) (k : Int) (hk : 0 ≤ k ∧ k + tot rows ≤ 9223372036854775807) (w : World) (ha : OwnR B w c vs rows) (hnd : (blocks (c :: vs)).Nodup) : Calls Try.prog 105 #[c, .int .i64 k] w fun e w' => e = .returned (.int .i64 (k + tot rows)) ∧ OwnR B w' c vs (markRows k rows) ∧ Touch (blocks vs) w w' := by
  obtain ⟨ao, ca, hcv, h1, h2⟩ := (ha.at lenInt).shape
  have HC := Lib.hid hcv
  have HA := Lib.hid ha
  have HD := Lib.hid hnd
  have hm : rows.length ≤ 9223372036854775807 := by unfold maxLen at h2; omega
  clear ha hnd h1 h2
  subst hcv
  (have hall := all_nil w; go_enter Try.func105, Try.ntmps105)
  go_wp2_with (first | (with_reducible refine wp_region_grew2 (by kernel_rfl) (by kernel_rfl) ?_; intro w2 hb; (first | have hn := nw4 hb hall (by exact zo) | have hn := nw3 hb hall (by exact zo) | have hn := nw2 hb hall (by exact zo) | have hn := nw1 hb hall (by exact zo) | have hn := nw0 hb hall (by exact zo)); obtain ⟨hc, hf, hn, hc0⟩ := hn; replace hall := hn; clear hn; have hz := hb.size; (try simp only [World.size_alloc, World.size_setCell, World.size_drew] at hz); have hx := hall; (try simp only [allLt, and_true] at hx); (try (have hO := HO.out; replace HO := Lib.hid (Own.below hO (w' := w2) (by exact bel)); clear hO)); obtain ⟨w1, rfl⟩ : ∃ x, x = w2 := ⟨_, rfl⟩; (repeat (go_big_quiet_step (fail))); refine wpQuiet_nil ?_; intro w2 hw'; have hb := grew_below hw'; clear hw'; (first | have hn := nw4 hb hall (by exact zo) | have hn := nw3 hb hall (by exact zo) | have hn := nw2 hb hall (by exact zo) | have hn := nw1 hb hall (by exact zo) | have hn := nw0 hb hall (by exact zo)); obtain ⟨hc, hf, hn, hc0⟩ := hn; replace hall := hn; clear hn; have hz := hb.size; (try simp only [World.size_alloc, World.size_setCell, World.size_drew] at hz); have hx := hall; (try simp only [allLt, and_true] at hx); (try (have hO := HO.out; replace HO := Lib.hid (Own.below hO (w' := w2) (by exact bel)); clear hO)); obtain ⟨w1, rfl⟩ : ∃ x, x = w2 := ⟨_, rfl⟩))
  go_loopw [1, 5] (fun kk i wr => ∃ j : Nat, j ≤ rows.length ∧ i = .int .i64 j ∧ kk = .int .i64 (k + lensTo rows j) ∧ OwnR B wr (.slice ao rows.length ca) vs (mixRows k rows j) ∧ Touch (blocks vs) w wr) (fun _ i _ => rows.length - (intOf i).toNat)
  case atStart => exact ⟨0, Nat.zero_le _, rfl, by simp [lensTo], by rw [mixRows_zero]; exact HA.out, Touch.refl _ _⟩
  case round =>
    obtain ⟨j, hj, rfl, rfl, hown, ht⟩ := hrel
    have HO := Lib.hid hown; have HT := Lib.hid ht
    by_cases hlt : j < rows.length
    · have hlt' : (j : Int) < rows.length := by omega
      have hml : (mixRows k rows j).length = rows.length := mixRows_len hj
      obtain ⟨ga, oa, ra, rla, rca, r, cap, he, hga, hr, hrl, hvj, hc, hrm, hat⟩ := rowAt (hown.at lenInt) (j := j) (by omega)
      simp only [Value.slice.injEq] at he
      obtain ⟨rfl, -, rfl⟩ := he
      have hr0 : rows[j]? = some r := by
        obtain ⟨r0, h0⟩ := getx hlt
        rw [mixRows_get h0] at hr
        rw [h0, hr]
      have hs := lensTo_succ hr0
      have hmo := lensTo_mono rows (j := j + 1) (k := rows.length) (by omega)
      have HS := Lib.hid hs; have HR := Lib.hid hr0; have HVJ := Lib.hid hvj
      have hb2 : 0 ≤ k + lensTo rows j ∧ k + lensTo rows j + r.length ≤ 9223372036854775807 := by unfold tot at hk; omega
      have O1 := Lib.hid (hown.row j _ r hvj hr)
      clear hr hrl hvj hat hml hr0 hs hmo hown ht
      (obtain ⟨w1, rfl⟩ : ∃ x, x = wr := ⟨_, rfl⟩; have hall : allLt [ga] w1.heap.size := ⟨by omega, trivial⟩; have hx := hall; (try simp only [allLt, and_true] at hx))
      go_wp2_with (go_at_call 100; refine (l_markIntS _ _ r _ hb2 _ O1.out).mono ?_; rintro e w2 ⟨rfl, hvo, hgr⟩; have HV := Lib.hid hvo; have HG := Lib.hid hgr; have hbz := hgr.size; clear hvo hgr; obtain ⟨w1, rfl⟩ : ∃ x, x = w2 := ⟨_, rfl⟩)
      go_roundw
      case rel =>
        have S := OwnRows.setRow HO.out HD.out HVJ.out HG.out HV.out
        rw [mixRows_set HR.out] at S
        exact ⟨j + 1, by omega, by go_num, by rw [HS.out]; go_num, S, HT.out.trans (grown_touch HG.out fun g hg => mem_blocks.2 ⟨_, List.mem_of_getElem? HVJ.out, hg⟩)⟩
      case measure => simp [intOf]; omega
    · have hlt' : ¬ (j : Int) < rows.length := by omega
      obtain rfl : j = rows.length := by omega
      clear hown ht
      go_wp2_with (first | (with_reducible refine wp_region_grew2 (by kernel_rfl) (by kernel_rfl) ?_; intro w2 hb; (first | have hn := nw4 hb hall (by exact zo) | have hn := nw3 hb hall (by exact zo) | have hn := nw2 hb hall (by exact zo) | have hn := nw1 hb hall (by exact zo) | have hn := nw0 hb hall (by exact zo)); obtain ⟨hc, hf, hn, hc0⟩ := hn; replace hall := hn; clear hn; have hz := hb.size; (try simp only [World.size_alloc, World.size_setCell, World.size_drew] at hz); have hx := hall; (try simp only [allLt, and_true] at hx); (try (have hO := HO.out; replace HO := Lib.hid (Own.below hO (w' := w2) (by exact bel)); clear hO)); obtain ⟨w1, rfl⟩ : ∃ x, x = w2 := ⟨_, rfl⟩; (repeat (go_big_quiet_step (fail))); refine wpQuiet_nil ?_; intro w2 hw'; have hb := grew_below hw'; clear hw'; (first | have hn := nw4 hb hall (by exact zo) | have hn := nw3 hb hall (by exact zo) | have hn := nw2 hb hall (by exact zo) | have hn := nw1 hb hall (by exact zo) | have hn := nw0 hb hall (by exact zo)); obtain ⟨hc, hf, hn, hc0⟩ := hn; replace hall := hn; clear hn; have hz := hb.size; (try simp only [World.size_alloc, World.size_setCell, World.size_drew] at hz); have hx := hall; (try simp only [allLt, and_true] at hx); (try (have hO := HO.out; replace HO := Lib.hid (Own.below hO (w' := w2) (by exact bel)); clear hO)); obtain ⟨w1, rfl⟩ : ∃ x, x = w2 := ⟨_, rfl⟩))
      go_ret
      exact ⟨rfl, by rw [← mixRows_full]; exact HO.out, HT.out⟩
theorem l_heldIntSS (B : Nat) (c : Value) (vs : List Value) (rows : List (List Int)) (k : Int) (hk : 0 ≤ k ∧ k + tot rows ≤ 9223372036854775807) (w : World) (ha : OwnR B w c vs (markRows k rows)) : Calls Try.prog 106 #[c, .int .i64 k] w fun e w' => e = .returned (.int .i64 (k + tot rows)) ∧ Below w.heap.size w w' := by
  have ha' := ha.at lenInt
  obtain ⟨ao, ca, rfl, h1, h2⟩ := ha'.shape
  have HA := Lib.hid ha'; have HOA := Lib.hid ha
  have hm : rows.length ≤ 9223372036854775807 := by rw [markRows_len] at h1; unfold maxLen at h2; omega
  rw [markRows_len] at *
  clear ha ha' h1 h2
  (have hall := all_nil w; go_enter Try.func106, Try.ntmps106)
  go_wp2_with (first | (with_reducible refine wp_region_grew2 (by kernel_rfl) (by kernel_rfl) ?_; intro w2 hb; (first | have hn := nw4 hb hall (by exact zo) | have hn := nw3 hb hall (by exact zo) | have hn := nw2 hb hall (by exact zo) | have hn := nw1 hb hall (by exact zo) | have hn := nw0 hb hall (by exact zo)); obtain ⟨hc, hf, hn, hc0⟩ := hn; replace hall := hn; clear hn; have hz := hb.size; (try simp only [World.size_alloc, World.size_setCell, World.size_drew] at hz); have hx := hall; (try simp only [allLt, and_true] at hx); (try (have hO := HO.out; replace HO := Lib.hid (Own.below hO (w' := w2) (by exact bel)); clear hO)); obtain ⟨w1, rfl⟩ : ∃ x, x = w2 := ⟨_, rfl⟩; (repeat (go_big_quiet_step (fail))); refine wpQuiet_nil ?_; intro w2 hw'; have hb := grew_below hw'; clear hw'; (first | have hn := nw4 hb hall (by exact zo) | have hn := nw3 hb hall (by exact zo) | have hn := nw2 hb hall (by exact zo) | have hn := nw1 hb hall (by exact zo) | have hn := nw0 hb hall (by exact zo)); obtain ⟨hc, hf, hn, hc0⟩ := hn; replace hall := hn; clear hn; have hz := hb.size; (try simp only [World.size_alloc, World.size_setCell, World.size_drew] at hz); have hx := hall; (try simp only [allLt, and_true] at hx); (try (have hO := HO.out; replace HO := Lib.hid (Own.below hO (w' := w2) (by exact bel)); clear hO)); obtain ⟨w1, rfl⟩ : ∃ x, x = w2 := ⟨_, rfl⟩))
  go_loopw [1, 5] (fun kk i wr => ∃ j : Nat, j ≤ rows.length ∧ i = .int .i64 j ∧ kk = .int .i64 (k + lensTo rows j) ∧ Below w.heap.size w wr) (fun _ i _ => rows.length - (intOf i).toNat)
  case atStart => exact ⟨0, Nat.zero_le _, rfl, by simp [lensTo], Below.refl _ _⟩
  case round =>
    obtain ⟨j, hj, rfl, rfl, hbel⟩ := hrel
    have HL := Lib.hid hbel; have hsz := hbel.size
    by_cases hlt : j < rows.length
    · have hlt' : (j : Int) < rows.length := by omega
      obtain ⟨ga, oa, ra, rla, rca, r', cap, he, hga, hr', hrl, hvj, hc, hrm, hat⟩ := rowAt HA.out (j := j) (by rw [markRows_len]; exact hlt)
      simp only [Value.slice.injEq] at he
      obtain ⟨rfl, -, rfl⟩ := he
      obtain ⟨r, hr⟩ := getx hlt
      have hmr := markRows_get (k := k) hr
      rw [hmr] at hr'
      cases hr'
      have hs := lensTo_succ hr
      have hmo := lensTo_mono rows (j := j + 1) (k := rows.length) (by omega)
      have HS := Lib.hid hs
      have hb2 : 0 ≤ k + lensTo rows j ∧ k + lensTo rows j + r.length ≤ 9223372036854775807 := by unfold tot at hk; omega
      replace hc := (hbel.cell (p := ⟨ga, oa + j, none⟩) hga).trans hc
      have O1 := Lib.hid ((HOA.out.row j _ _ hvj hmr).below hbel)
      clear hr hrl hvj hat hmr hs hmo hbel
      (obtain ⟨w1, rfl⟩ : ∃ x, x = wr := ⟨_, rfl⟩; have hall : allLt [ga] w1.heap.size := ⟨by omega, trivial⟩; have hx := hall; (try simp only [allLt, and_true] at hx))
      go_wp2_with (go_at_call 101; refine (l_heldIntS _ _ _ _ hb2 _ O1.out).mono ?_; rintro e w2 ⟨rfl, hb⟩; (first | have hn := nw4 hb hall (by exact zo) | have hn := nw3 hb hall (by exact zo) | have hn := nw2 hb hall (by exact zo) | have hn := nw1 hb hall (by exact zo) | have hn := nw0 hb hall (by exact zo)); obtain ⟨hc, hf, hn, hc0⟩ := hn; replace hall := hn; clear hn; have hz := hb.size; (try simp only [World.size_alloc, World.size_setCell, World.size_drew] at hz); have hx := hall; (try simp only [allLt, and_true] at hx); (try (have hO := HO.out; replace HO := Lib.hid (Own.below hO (w' := w2) (by exact bel)); clear hO)); obtain ⟨w1, rfl⟩ : ∃ x, x = w2 := ⟨_, rfl⟩)
      go_roundw
      case rel =>
        have hL := HL.out
        exact ⟨j + 1, by omega, by go_num, by rw [HS.out]; go_num, by exact bel⟩
      case measure => simp [intOf]; omega
    · have hlt' : ¬ (j : Int) < rows.length := by omega
      obtain rfl : j = rows.length := by omega
      clear hbel
      go_wp2_with (first | (with_reducible refine wp_region_grew2 (by kernel_rfl) (by kernel_rfl) ?_; intro w2 hb; (first | have hn := nw4 hb hall (by exact zo) | have hn := nw3 hb hall (by exact zo) | have hn := nw2 hb hall (by exact zo) | have hn := nw1 hb hall (by exact zo) | have hn := nw0 hb hall (by exact zo)); obtain ⟨hc, hf, hn, hc0⟩ := hn; replace hall := hn; clear hn; have hz := hb.size; (try simp only [World.size_alloc, World.size_setCell, World.size_drew] at hz); have hx := hall; (try simp only [allLt, and_true] at hx); (try (have hO := HO.out; replace HO := Lib.hid (Own.below hO (w' := w2) (by exact bel)); clear hO)); obtain ⟨w1, rfl⟩ : ∃ x, x = w2 := ⟨_, rfl⟩; (repeat (go_big_quiet_step (fail))); refine wpQuiet_nil ?_; intro w2 hw'; have hb := grew_below hw'; clear hw'; (first | have hn := nw4 hb hall (by exact zo) | have hn := nw3 hb hall (by exact zo) | have hn := nw2 hb hall (by exact zo) | have hn := nw1 hb hall (by exact zo) | have hn := nw0 hb hall (by exact zo)); obtain ⟨hc, hf, hn, hc0⟩ := hn; replace hall := hn; clear hn; have hz := hb.size; (try simp only [World.size_alloc, World.size_setCell, World.size_drew] at hz); have hx := hall; (try simp only [allLt, and_true] at hx); (try (have hO := HO.out; replace HO := Lib.hid (Own.below hO (w' := w2) (by exact bel)); clear hO)); obtain ⟨w1, rfl⟩ : ∃ x, x = w2 := ⟨_, rfl⟩))
      go_ret
      exact ⟨rfl, HL.out⟩
end Go.Proofs.Ytkdafincnmkjnaa
