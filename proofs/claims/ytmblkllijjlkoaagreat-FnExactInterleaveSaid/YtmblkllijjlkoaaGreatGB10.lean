/-
  Texts put together: RowFn, KMath.
-/
import Derived.Test.YtmblkllijjlkoaaGreatGB8
import Derived.Test.YtmblkllijjlkoaaGreatGB9
import Derived.Deep.RegionHeld3
import Derived.Test.YtmblkllijjlkoaaGreatGB7
/-
  The laws' functions on slices of slices of ints.
-/
set_option linter.unusedVariables false
set_option linter.unusedSimpArgs false
namespace Go.Proofs.YtmblkllijjlkoaaGreat
open Go.RowKit
theorem rowAt {f : Int → List Value} {w : World} {c : Value} {vs : List Value} {rows : List (List Int)} (h : RowsAt f w c vs rows) {j : Nat} (hj : j < rows.length) : ∃ g o ro rl rc r cap, c = .slice (some ⟨g, o, none⟩) rows.length cap ∧ g < w.heap.size ∧ rows[j]? = some r ∧ rl = r.length ∧ vs[j]? = some (.slice ro rl rc) ∧ w.cell? ⟨g, o + j, none⟩ = some (.slice ro rl rc) ∧ rl ≤ maxLen ∧ SlAt 1 f w (.slice ro rl rc) r := by
  obtain ⟨ao, cap, rfl, h1, h2, hr⟩ := SlAt.open1 (c0 := id) h.out (fun _ => rfl)
  obtain ⟨v, hv⟩ := getx (show j < vs.length by rw [h.len]; exact hj)
  obtain ⟨r, hr'⟩ := getx hj
  obtain ⟨g, o, rfl, hg, hc⟩ := hr j v hv
  have hrow := h.row j v r hv hr'
  obtain ⟨ro, rc, rfl, hl, hm⟩ := hrow.shape
  exact ⟨g, o, ro, r.length, rc, r, cap, by rw [h.len], hg, hr', rfl, hv, hc, by omega, hrow⟩
theorem RowsAt.shape {f : Int → List Value} {w : World} {c : Value} {vs : List Value} {rows : List (List Int)} (h : RowsAt f w c vs rows) : ∃ ao cap, c = .slice ao rows.length cap ∧ rows.length ≤ cap ∧ cap ≤ maxLen := by
  obtain ⟨ao, cap, rfl, h1, h2⟩ := h.out.shape
  exact ⟨ao, cap, by rw [h.len], by rw [← h.len]; exact h1, h2⟩
/-- What the laws' functions on sizes return. -/
def szRes (left : Int) (t : Nat) : Int := if left - t < 0 then -1 else left - t
theorem szRes_neg {left : Int} {t : Nat} (h : left - t < 0) : szRes left t = -1 := if_pos h
theorem szRes_pos {left : Int} {t : Nat} (h : ¬ left - t < 0) : szRes left t = left - t := if_neg h
theorem l_szIntSS (c : Value) (vs : List Value) (rows : List (List Int)) (left : Int) (hl : 0 ≤ left ∧ left ≤ 1048576) (w : World) (ha : RowsAt fInt w c vs rows) : Calls Tryz.prog 124 #[c, .int .i64 left] w fun e w' => e = .returned (.int .i64 (szRes left (rows.length + tot rows))) ∧ w = w' := by
  obtain ⟨ao, ca, rfl, h1, h2⟩ := ha.shape
  have hm : rows.length ≤ 9223372036854775807 := by unfold maxLen at h2; omega
  have HA := Lib.hid ha; clear ha h1 h2
  obtain ⟨n, hn⟩ : ∃ n, n = rows.length := ⟨_, rfl⟩
  have HN := Lib.hid hn
  rw [← hn] at hm ⊢
  clear hn
  by_cases hneg : left - n < 0
  · (have hall := all_nil w; go_enter Tryz.func124, Tryz.ntmps124)
    go_wp2_with (fail)
    go_ret
    exact ⟨by rw [szRes_neg (by omega)]; rfl, rfl⟩
  · (have hall := all_nil w; go_enter Tryz.func124, Tryz.ntmps124)
    go_wp2_with (fail)
    go_loop [1, 5] (fun kk i => ∃ j : Nat, j ≤ n ∧ i = .int .i64 j ∧ kk = .int .i64 (left - n - lensTo rows j) ∧ 0 ≤ left - n - lensTo rows j) (fun _ i => n - (intOf i).toNat)
    case atStart => exact ⟨0, Nat.zero_le _, rfl, by simp [lensTo], by simp [lensTo]; omega⟩
    case round =>
      obtain ⟨j, hj, rfl, rfl, hpos⟩ := hrel
      by_cases hlt : j < n
      · have hlt' : (j : Int) < n := by omega
        obtain ⟨g, o, ro, rl, rc, r, cap, he, hg, hr, hrl, hvj, hc, hrm, hat⟩ := rowAt HA.out (j := j) (by have := HN.out; omega)
        simp only [Value.slice.injEq] at he
        obtain ⟨rfl, -, rfl⟩ := he
        have hs := lensTo_succ hr
        have hmo := lensTo_mono rows (j := j + 1) (k := rows.length) (by have := HN.out; omega)
        rw [← hrl] at hs
        have HS := Lib.hid hs; have HM := Lib.hid hmo
        clear hr hrl hvj hat hs hmo
        generalize lensTo rows j = L at *
        by_cases hneg2 : left - n - L - rl < 0
        · go_wp2_with (go_at_call 47; refine (l_szIntS _ _ _ hrm _ (by omega) _).mono ?_; rintro e w2 ⟨rfl, rfl⟩; rw [if_pos hneg2])
          go_ret
          exact ⟨by rw [szRes_neg (by have := HS.out; have := HM.out; unfold tot; omega)]; rfl, rfl⟩
        · go_wp2_with (go_at_call 47; refine (l_szIntS _ _ _ hrm _ (by omega) _).mono ?_; rintro e w2 ⟨rfl, rfl⟩; rw [if_neg hneg2])
          go_round
          case rel => exact ⟨j + 1, by omega, by go_num, by rw [HS.out]; go_num, by rw [HS.out]; omega⟩
          case measure => simp [intOf]; omega
      · have hlt' : ¬ (j : Int) < n := by omega
        obtain rfl : j = n := by omega
        go_wp2_with (fail)
        go_ret
        exact ⟨by rw [szRes_pos (by unfold tot; rw [← HN.out]; omega)]; unfold tot; rw [← HN.out]; go_num, rfl⟩
/-- What a call that hands back a slice of slices of its own leaves. -/
def NewRows (w : World) (rows : List (List Int)) (e : Ending) (w' : World) : Prop := ∃ c us, e = .returned c ∧ OwnR w.heap.size w' c us rows ∧ (blocks (c :: us)).Nodup ∧ Below w.heap.size w w'
theorem l_toIntSS (c : Value) (vs : List Value) (rows : List (List Int)) (hx : rows.length + tot rows ≤ 1048576) (w : World) (ha : RowsAt fInt w c vs rows) : Calls Tryz.prog 133 #[c] w (NewRows w rows) := by
  obtain ⟨ao, ca, rfl, h1, h2⟩ := ha.shape
  have HA := Lib.hid ha; clear ha h1 h2
  obtain ⟨n, hn⟩ : ∃ n, n = rows.length := ⟨_, rfl⟩
  have HN := Lib.hid hn
  have HX := Lib.hid hx
  have hm : n ≤ 1048576 := by omega
  rw [← hn]
  clear hn hx
  (have hall := all_nil w; go_enter Tryz.func133, Tryz.ntmps133)
  go_wp2_with (at_make; go_loud (refine make1 elemRow rfl _ _ rfl (x := .slice none 0 0) (f := fVal) rfl .i64 .i64 n rfl rfl (by omega) (by unfold maxLen; omega) ?_); intro v2 w2 hv hown hb)
  subst hv
  go_loopw [4] (fun i wr => ∃ (j : Nat) (us : List Value), j ≤ n ∧ i = .int .i64 j ∧ us.length = j ∧ OwnR w.heap.size wr (.slice (some ⟨w.heap.size, 0, none⟩) n n) (us ++ List.replicate (n - j) (.slice none 0 0)) (rows.take j ++ List.replicate (n - j) []) ∧ (blocks (.slice (some ⟨w.heap.size, 0, none⟩) n n :: (us ++ List.replicate (n - j) (.slice none 0 0)))).Nodup ∧ Below w.heap.size w wr) (fun i _ => n - (intOf i).toNat)
  case atStart => exact ⟨0, [], Nat.zero_le _, rfl, rfl, by simpa using OwnRows.nilAll n hown, by simp only [List.nil_append, Nat.sub_zero]; show (blocks ([_] ++ _)).Nodup; rw [blocks_append, blocks_nils, List.append_nil]; exact nodup_one _, hb⟩
  case round =>
    obtain ⟨j, us, hj, rfl, hul, hown, hnd, hbel⟩ := hrel
    have HO := Lib.hid hown; have HB := Lib.hid hbel; have HD := Lib.hid hnd; have HU := Lib.hid hul
    have hsz := hbel.size
    clear hnd hul
    by_cases hlt : j < n
    · have hlt' : (j : Int) < n := by omega
      obtain ⟨g, o, ro, rl, rc, r, cap, he, hg, hr, hrl, hvj, hc, hrm, hat⟩ := rowAt HA.out (j := j) (by have := HN.out; omega)
      simp only [Value.slice.injEq] at he
      obtain ⟨rfl, -, rfl⟩ := he
      replace hc := (hbel.cell (p := ⟨g, o + j, none⟩) hg).trans hc
      have hat' := hat.below hbel
      have HR := Lib.hid hr; have HL := Lib.hid hrl; have HAT := Lib.hid hat'
      have hr16 : r.length ≤ 1048576 := by
        have h1 := lensTo_succ hr
        have h2 := lensTo_mono rows (j := j + 1) (k := rows.length) (by have := HN.out; omega)
        have h3 := HX.out
        unfold tot at h3
        omega
      have hjl : j < (us ++ List.replicate (n - j) (Value.slice none 0 0)).length := by have := HU.out; simp; omega
      obtain ⟨y, hy⟩ := getx hjl
      obtain ⟨hBg, hgo, hz, hcy⟩ := Own.slot hown.out lenVal hy
      have e0 : wr.cell? ⟨w.heap.size, j, none⟩ = some y := by simpa [fVal] using hcy 0 y
      have f0 := hz j
      have HJ := Lib.hid hjl
      clear hr hrl hvj hat hat' hz hcy hy hjl hown hbel
      (obtain ⟨w1, rfl⟩ : ∃ x, x = wr := ⟨_, rfl⟩; have hall : allLt [g, w.heap.size] w1.heap.size := ⟨by omega, by omega, trivial⟩; have hx := hall; (try simp only [allLt, and_true] at hx))
      go_wp2_with (go_at_call 37; refine (l_toIntS _ r hr16 _ HAT.out).mono ?_; rintro e w2 ⟨v, rfl, hvo, hb⟩; obtain ⟨vo, vc, rfl, _, _⟩ := hvo.shape; have HV := Lib.hid hvo; have HB2 := Lib.hid hb; clear hvo; ((have hn := nw0 hb hall (by exact zo))); obtain ⟨hc, hf, hn, hc0⟩ := hn; replace hall := hn; clear hn; have hz := hb.size; (try simp only [World.size_alloc, World.size_setCell, World.size_drew] at hz); have hx := hall; (try simp only [allLt, and_true] at hx); (try (have hO := HO.out; replace HO := Lib.hid (Own.below hO (w' := w2) (by exact bel)); clear hO)); obtain ⟨w1, rfl⟩ : ∃ x, x = w2 := ⟨_, rfl⟩)
      go_roundw
      case rel =>
        have hO : OwnR w.heap.size w1 _ _ _ := HO.out.below HB2.out
        have hV := HV.out
        have hUl := HU.out
        obtain ⟨v, hv⟩ : ∃ v, v = Value.slice vo r.length vc := ⟨_, rfl⟩
        rw [← hv] at hV ⊢
        have hfr : ∀ g', v.ownBlock = some g' → g' ∉ blocks (Value.slice (some ⟨w.heap.size, 0, none⟩) n n :: (us ++ List.replicate (n - j) (.slice none 0 0))) := fun g' hg' hm' => by
          have h1 := (hV.lt g' hg').1
          have h2 := (HO.out.lt g' hm').2
          omega
        have hne : v.ownBlock ≠ some w.heap.size := fun e => hfr _ e (mem_blocks.2 ⟨.slice (some ⟨w.heap.size, 0, none⟩) n n, List.mem_cons_self, rfl⟩)
        have S := OwnRows.setVal hO HD.out rfl (hV.mono (by omega)) hne HJ.out
        have e1 : (us ++ List.replicate (n - j) (Value.slice none 0 0)).set j v = (us ++ [v]) ++ List.replicate (n - (j + 1)) (.slice none 0 0) := by
          rw [List.set_append_right _ _ (by omega), hUl, Nat.sub_self, show n - j = (n - (j + 1)) + 1 by omega, List.replicate_succ, List.set_cons_zero, List.append_assoc]
          rfl
        have e2 := setx (xs := rows) [] n HR.out HN.out
        have hN := nodup_set (i := j + 1) HD.out hfr
        rw [List.set_cons_succ] at hN
        rw [e1] at S hN
        rw [e2] at S
        have hB := HB.out
        have hB2 := HB2.out
        exact ⟨j + 1, us ++ [v], by omega, by go_num, by simp [hUl], S.1, hN, by exact bel⟩
      case measure => simp [intOf]; omega
    · have hlt' : ¬ (j : Int) < n := by omega
      obtain rfl : j = n := by omega
      clear hown
      go_wp2_with (fail)
      go_ret
      have hO := HO.out; have hD := HD.out
      rw [Nat.sub_self, List.replicate_zero, List.append_nil] at hO hD
      rw [List.replicate_zero, List.append_nil, List.take_of_length_le (Nat.le_of_eq HN.out.symm)] at hO
      exact ⟨_, us, rfl, hO, hD, HB.out⟩
theorem l_eqIntSS (B B' : Nat) (c c' : Value) (vs us : List Value) (rows : List (List Int)) (w : World) (ha : OwnR B w c vs rows) (hb : OwnR B' w c' us rows) : Calls Tryz.prog 144 #[c, c'] w fun e w' => e = .returned (.bool true) ∧ Below w.heap.size w w' := by
  have ha' := ha.at lenInt; have hb' := hb.at lenInt
  obtain ⟨ao, ca, rfl, h1, h2⟩ := ha'.shape
  obtain ⟨bo, cb, rfl, _, _⟩ := hb'.shape
  have HA := Lib.hid ha'; have HB := Lib.hid hb'
  have HOA := Lib.hid ha; have HOB := Lib.hid hb
  have hm : rows.length ≤ 9223372036854775807 := by unfold maxLen at h2; omega
  clear ha hb ha' hb' h1 h2
  (have hall := all_nil w; go_enter Tryz.func144, Tryz.ntmps144)
  go_wp2_with (fail)
  go_loopw [5] (fun i wr => ∃ j : Nat, j ≤ rows.length ∧ i = .int .i64 j ∧ Below w.heap.size w wr) (fun i _ => rows.length - (intOf i).toNat)
  case atStart => exact ⟨0, Nat.zero_le _, rfl, Below.refl _ _⟩
  case round =>
    obtain ⟨j, hj, rfl, hbel⟩ := hrel
    have HL := Lib.hid hbel; have hsz := hbel.size
    by_cases hlt : j < rows.length
    · have hlt' : (j : Int) < rows.length := by omega
      obtain ⟨ga, oa, ra, rla, rca, r, cap, he, hga, hr, hrl, hvj, hc, hrm, hat⟩ := rowAt HA.out hlt
      simp only [Value.slice.injEq] at he
      obtain ⟨rfl, -, rfl⟩ := he
      obtain ⟨gb, ob, rb, rlb, rcb, r', cap', he, hgb, hr', hrl', huj, hd, hrm', hat'⟩ := rowAt HB.out hlt
      simp only [Value.slice.injEq] at he
      obtain ⟨rfl, -, rfl⟩ := he
      rw [hr] at hr'
      obtain rfl : r = r' := Option.some.inj hr'
      replace hc := (hbel.cell (p := ⟨ga, oa + j, none⟩) hga).trans hc
      replace hd := (hbel.cell (p := ⟨gb, ob + j, none⟩) hgb).trans hd
      have O1 := Lib.hid ((HOA.out.row j _ r hvj hr).below hbel)
      have O2 := Lib.hid ((HOB.out.row j _ r huj hr).below hbel)
      clear hr hrl hvj hat hr' hrl' huj hat' hbel
      (obtain ⟨w1, rfl⟩ : ∃ x, x = wr := ⟨_, rfl⟩; have hall : allLt [ga, gb] w1.heap.size := ⟨by omega, by omega, trivial⟩; have hx := hall; (try simp only [allLt, and_true] at hx))
      go_wp2_with (with_reducible refine wp_region_grew2 (by kernel_rfl) (by kernel_rfl) ?_; intro w2 hb; have hb0 := hb; ((have hn := nw0 hb hall (by exact zo))); obtain ⟨hc, hf, hn, hc0⟩ := hn; replace hall := hn; clear hn; have hz := hb.size; (try simp only [World.size_alloc, World.size_setCell, World.size_drew] at hz); have hx := hall; (try simp only [allLt, and_true] at hx); (try (have hO := HO.out; replace HO := Lib.hid (Own.below hO (w' := w2) (by exact bel)); clear hO)); obtain ⟨w1, rfl⟩ : ∃ x, x = w2 := ⟨_, rfl⟩; replace O1 := O1.out.below hb0; replace O2 := O2.out.below hb0; clear hb0; (repeat (go_big_quiet_step ((go_at_call 40; exact calls_grew (l_eqIntS _ _ _ _ r _ (Own.below O1 (Grew.below _)) (Own.below O2 (Grew.below _))))))); refine wpQuiet_nil ?_; intro w2 hw'; have hb := grew_below hw'; clear hw'; ((have hn := nw0 hb hall (by exact zo))); obtain ⟨hc, hf, hn, hc0⟩ := hn; replace hall := hn; clear hn; have hz := hb.size; (try simp only [World.size_alloc, World.size_setCell, World.size_drew] at hz); have hx := hall; (try simp only [allLt, and_true] at hx); (try (have hO := HO.out; replace HO := Lib.hid (Own.below hO (w' := w2) (by exact bel)); clear hO)); obtain ⟨w1, rfl⟩ : ∃ x, x = w2 := ⟨_, rfl⟩)
      go_roundw
      case rel =>
        have hL := HL.out
        exact ⟨j + 1, by omega, by go_num, by exact bel⟩
      case measure => simp [intOf]; omega
    · have hlt' : ¬ (j : Int) < rows.length := by omega
      clear hbel
      go_wp2_with (fail)
      go_ret
      exact ⟨rfl, HL.out⟩
theorem l_markIntSS (B : Nat) (c : Value) (vs : List Value) (rows : List (List Int)) (k : Int) (hk : 0 ≤ k ∧ k + tot rows ≤ 9223372036854775807) (w : World) (ha : OwnR B w c vs rows) (hnd : (blocks (c :: vs)).Nodup) : Calls Tryz.prog 147 #[c, .int .i64 k] w fun e w' => e = .returned (.int .i64 (k + tot rows)) ∧ OwnR B w' c vs (markRows k rows) ∧ Touch (blocks vs) w w' := by
  obtain ⟨ao, ca, hcv, h1, h2⟩ := (ha.at lenInt).shape
  have HC := Lib.hid hcv
  have HA := Lib.hid ha
  have HD := Lib.hid hnd
  have hm : rows.length ≤ 9223372036854775807 := by unfold maxLen at h2; omega
  clear ha hnd h1 h2
  subst hcv
  (have hall := all_nil w; go_enter Tryz.func147, Tryz.ntmps147)
  go_wp2_with (fail)
  go_loopw [1, 5] (fun kk i wr => ∃ j : Nat, j ≤ rows.length ∧ i = .int .i64 j ∧ kk = .int .i64 (k + lensTo rows j) ∧ OwnR B wr (.slice ao rows.length ca) vs (mixRows k rows j) ∧ Touch (blocks vs) w wr) (fun _ i _ => rows.length - (intOf i).toNat)
  case atStart => exact ⟨0, Nat.zero_le _, rfl, by simp [lensTo], by rw [mixRows_zero]; exact HA.out, Touch.refl _ _⟩
  case round =>
    obtain ⟨j, hj, rfl, rfl, hown, ht⟩ := hrel
    have HO := Lib.hid hown; have HT := Lib.hid ht
    by_cases hlt : j < rows.length
    · have hlt' : (j : Int) < rows.length := by omega
      have hml : (mixRows k rows j).length = rows.length := mixRows_len hj
      obtain ⟨ga, oa, ra, rla, rca, r, cap, he, hga, hr, hrl, hvj, hc, hrm, hat⟩ := rowAt (hown.at lenInt) (j := j) (by omega)
      simp only [Value.slice.injEq] at he
      obtain ⟨rfl, -, rfl⟩ := he
      have hr0 : rows[j]? = some r := by
        obtain ⟨r0, h0⟩ := getx hlt
        rw [mixRows_get h0] at hr
        rw [h0, hr]
      have hs := lensTo_succ hr0
      have hmo := lensTo_mono rows (j := j + 1) (k := rows.length) (by omega)
      have HS := Lib.hid hs; have HR := Lib.hid hr0; have HVJ := Lib.hid hvj
      have hb2 : 0 ≤ k + lensTo rows j ∧ k + lensTo rows j + r.length ≤ 9223372036854775807 := by unfold tot at hk; omega
      have O1 := Lib.hid (hown.row j _ r hvj hr)
      clear hr hrl hvj hat hml hr0 hs hmo hown ht
      (obtain ⟨w1, rfl⟩ : ∃ x, x = wr := ⟨_, rfl⟩; have hall : allLt [ga] w1.heap.size := ⟨by omega, trivial⟩; have hx := hall; (try simp only [allLt, and_true] at hx))
      go_wp2_with (go_at_call 42; refine (l_markIntS _ _ r _ hb2 _ O1.out).mono ?_; rintro e w2 ⟨rfl, hvo, hgr⟩; have HV := Lib.hid hvo; have HG := Lib.hid hgr; have hbz := hgr.size; clear hvo hgr; obtain ⟨w1, rfl⟩ : ∃ x, x = w2 := ⟨_, rfl⟩)
      go_roundw
      case rel =>
        have S := OwnRows.setRow HO.out HD.out HVJ.out HG.out HV.out
        rw [mixRows_set HR.out] at S
        exact ⟨j + 1, by omega, by go_num, by rw [HS.out]; go_num, S, HT.out.trans (grown_touch HG.out fun g hg => mem_blocks.2 ⟨_, List.mem_of_getElem? HVJ.out, hg⟩)⟩
      case measure => simp [intOf]; omega
    · have hlt' : ¬ (j : Int) < rows.length := by omega
      obtain rfl : j = rows.length := by omega
      clear hown ht
      go_wp2_with (fail)
      go_ret
      exact ⟨rfl, by rw [← mixRows_full]; exact HO.out, HT.out⟩
theorem l_heldIntSS (B : Nat) (c : Value) (vs : List Value) (rows : List (List Int)) (k : Int) (hk : 0 ≤ k ∧ k + tot rows ≤ 9223372036854775807) (w : World) (ha : OwnR B w c vs (markRows k rows)) : Calls Tryz.prog 150 #[c, .int .i64 k] w fun e w' => e = .returned (.int .i64 (k + tot rows)) ∧ Below w.heap.size w w' := by
  have ha' := ha.at lenInt
  obtain ⟨ao, ca, rfl, h1, h2⟩ := ha'.shape
  have HA := Lib.hid ha'; have HOA := Lib.hid ha
  have hm : rows.length ≤ 9223372036854775807 := by rw [markRows_len] at h1; unfold maxLen at h2; omega
  rw [markRows_len] at *
  clear ha ha' h1 h2
  (have hall := all_nil w; go_enter Tryz.func150, Tryz.ntmps150)
  go_wp2_with (fail)
  go_loopw [1, 5] (fun kk i wr => ∃ j : Nat, j ≤ rows.length ∧ i = .int .i64 j ∧ kk = .int .i64 (k + lensTo rows j) ∧ Below w.heap.size w wr) (fun _ i _ => rows.length - (intOf i).toNat)
  case atStart => exact ⟨0, Nat.zero_le _, rfl, by simp [lensTo], Below.refl _ _⟩
  case round =>
    obtain ⟨j, hj, rfl, rfl, hbel⟩ := hrel
    have HL := Lib.hid hbel; have hsz := hbel.size
    by_cases hlt : j < rows.length
    · have hlt' : (j : Int) < rows.length := by omega
      obtain ⟨ga, oa, ra, rla, rca, r', cap, he, hga, hr', hrl, hvj, hc, hrm, hat⟩ := rowAt HA.out (j := j) (by rw [markRows_len]; exact hlt)
      simp only [Value.slice.injEq] at he
      obtain ⟨rfl, -, rfl⟩ := he
      obtain ⟨r, hr⟩ := getx hlt
      have hmr := markRows_get (k := k) hr
      rw [hmr] at hr'
      cases hr'
      have hs := lensTo_succ hr
      have hmo := lensTo_mono rows (j := j + 1) (k := rows.length) (by omega)
      have HS := Lib.hid hs
      have hb2 : 0 ≤ k + lensTo rows j ∧ k + lensTo rows j + r.length ≤ 9223372036854775807 := by unfold tot at hk; omega
      replace hc := (hbel.cell (p := ⟨ga, oa + j, none⟩) hga).trans hc
      have O1 := Lib.hid ((HOA.out.row j _ _ hvj hmr).below hbel)
      clear hr hrl hvj hat hmr hs hmo hbel
      (obtain ⟨w1, rfl⟩ : ∃ x, x = wr := ⟨_, rfl⟩; have hall : allLt [ga] w1.heap.size := ⟨by omega, trivial⟩; have hx := hall; (try simp only [allLt, and_true] at hx))
      go_wp2_with (go_at_call 62; refine (l_heldIntS _ _ _ _ hb2 _ O1.out).mono ?_; rintro e w2 ⟨rfl, hb⟩; ((have hn := nw0 hb hall (by exact zo))); obtain ⟨hc, hf, hn, hc0⟩ := hn; replace hall := hn; clear hn; have hz := hb.size; (try simp only [World.size_alloc, World.size_setCell, World.size_drew] at hz); have hx := hall; (try simp only [allLt, and_true] at hx); (try (have hO := HO.out; replace HO := Lib.hid (Own.below hO (w' := w2) (by exact bel)); clear hO)); obtain ⟨w1, rfl⟩ : ∃ x, x = w2 := ⟨_, rfl⟩)
      go_roundw
      case rel =>
        have hL := HL.out
        exact ⟨j + 1, by omega, by go_num, by rw [HS.out]; go_num, by exact bel⟩
      case measure => simp [intOf]; omega
    · have hlt' : ¬ (j : Int) < rows.length := by omega
      obtain rfl : j = rows.length := by omega
      clear hbel
      go_wp2_with (fail)
      go_ret
      exact ⟨rfl, HL.out⟩
end Go.Proofs.YtmblkllijjlkoaaGreat
/-
  What the functions on frames, tables, machines and kernels compute: plain functions on lists.
-/
set_option linter.unusedVariables false
set_option linter.unusedSimpArgs false
namespace Go.Proofs.YtmblkllijjlkoaaGreat
def rowOk (r : List Int) (u : Bool) : Bool := (r.length == 16) && allTo (fun j => between (r.getD j 0) 0 999 && (r.getD j 0 == 0 || u)) 16
def framesOk (F : Frm) : Bool := between F.cells.length 1 32 && (F.used.length == F.cells.length) && allTo (fun i => rowOk (F.cells.getD i []) (F.used.getD i false)) F.cells.length
def entOk (e : Ent) (n : Int) : Bool := between e.m 0 2 && decide (0 ≤ e.f) && !(e.m == 0 && e.f != 0) && !(e.m != 0 && decide (n ≤ e.f))
def tableOk (es : List Ent) (n : Int) : Bool := allTo (fun i => entOk (es.getD i default) n) es.length && between es.length 1 32
def onTo (es : List Ent) (fr : Int) : Nat → List Int
  | 0 => []
  | k + 1 => onTo es fr k ++ if (es.getD k default).m != 0 && (es.getD k default).f == fr then [(k : Int)] else []
def pagesOn (es : List Ent) (fr : Int) : List Int := onTo es fr es.length
theorem onTo_le (es : List Ent) (fr : Int) (k : Nat) : (onTo es fr k).length ≤ k := by
  induction k with
  | zero => exact Nat.le_refl _
  | succ k ih => simp only [onTo, List.length_append]; split <;> simp <;> omega
def usedOk (M : Mac) (i : Nat) : Bool := M.f.used.getD i false == decide ((0 : Int) < (pagesOn M.ents i).length)
def machineOk (M : Mac) : Bool := framesOk M.f && tableOk M.ents M.f.used.length && allTo (usedOk M) M.f.used.length
def kernelOk (K : Ker) : Bool := allTo (fun i => decide (0 ≤ K.refuse.getD i 0)) K.refuse.length && between K.calls 0 100000 && decide ((K.refuse.length : Int) ≤ 40) && machineOk K.m
def canCall (K : Ker) : Bool := (K.calls != 100000) && kernelOk K
def pageEntry (es : List Ent) (p : Int) : Ent := if between p 0 (es.length - 1) then es.getD p.toNat default else ⟨0, 0⟩
end Go.Proofs.YtmblkllijjlkoaaGreat
