/-
  Texts put together: RowFn, KMath, KOk.
-/
import Derived.Test.YtkkebpcclklmcaaGB5
import Derived.Deep.RegionHeld3
/-
  The laws' functions on slices of slices of ints.
-/
set_option linter.unusedVariables false
set_option linter.unusedSimpArgs false
namespace Go.Proofs.Ytkkebpcclklmcaa
open Go.RowKit
theorem rowAt {f : Int → List Value} {w : World} {c : Value} {vs : List Value} {rows : List (List Int)} (h : RowsAt f w c vs rows) {j : Nat} (hj : j < rows.length) : ∃ g o ro rl rc r cap, c = .slice (some ⟨g, o, none⟩) rows.length cap ∧ g < w.heap.size ∧ rows[j]? = some r ∧ rl = r.length ∧ vs[j]? = some (.slice ro rl rc) ∧ w.cell? ⟨g, o + j, none⟩ = some (.slice ro rl rc) ∧ rl ≤ maxLen ∧ SlAt 1 f w (.slice ro rl rc) r := by
  obtain ⟨ao, cap, rfl, h1, h2, hr⟩ := SlAt.open1 (c0 := id) h.out (fun _ => rfl)
  obtain ⟨v, hv⟩ := getx (show j < vs.length by rw [h.len]; exact hj)
  obtain ⟨r, hr'⟩ := getx hj
  obtain ⟨g, o, rfl, hg, hc⟩ := hr j v hv
  have hrow := h.row j v r hv hr'
  obtain ⟨ro, rc, rfl, hl, hm⟩ := hrow.shape
  exact ⟨g, o, ro, r.length, rc, r, cap, by rw [h.len], hg, hr', rfl, hv, hc, by omega, hrow⟩
theorem RowsAt.shape {f : Int → List Value} {w : World} {c : Value} {vs : List Value} {rows : List (List Int)} (h : RowsAt f w c vs rows) : ∃ ao cap, c = .slice ao rows.length cap ∧ rows.length ≤ cap ∧ cap ≤ maxLen := by
  obtain ⟨ao, cap, rfl, h1, h2⟩ := h.out.shape
  exact ⟨ao, cap, by rw [h.len], by rw [← h.len]; exact h1, h2⟩
/-- What the laws' functions on sizes return. -/
def szRes (left : Int) (t : Nat) : Int := if left - t < 0 then -1 else left - t
theorem szRes_neg {left : Int} {t : Nat} (h : left - t < 0) : szRes left t = -1 := if_pos h
theorem szRes_pos {left : Int} {t : Nat} (h : ¬ left - t < 0) : szRes left t = left - t := if_neg h
/-- What a call that hands back a slice of slices of its own leaves. -/
def NewRows (w : World) (rows : List (List Int)) (e : Ending) (w' : World) : Prop := ∃ c us, e = .returned c ∧ OwnR w.heap.size w' c us rows ∧ (blocks (c :: us)).Nodup ∧ Below w.heap.size w w'
end Go.Proofs.Ytkkebpcclklmcaa
/-
  What the functions on frames, tables, machines and kernels compute: plain functions on lists.
-/
set_option linter.unusedVariables false
set_option linter.unusedSimpArgs false
namespace Go.Proofs.Ytkkebpcclklmcaa
def rowOk (r : List Int) (u : Bool) : Bool := (r.length == 16) && allTo (fun j => between (r.getD j 0) 0 999 && (r.getD j 0 == 0 || u)) 16
def framesOk (F : Frm) : Bool := between F.cells.length 1 32 && (F.used.length == F.cells.length) && allTo (fun i => rowOk (F.cells.getD i []) (F.used.getD i false)) F.cells.length
def entOk (e : Ent) (n : Int) : Bool := between e.m 0 2 && decide (0 ≤ e.f) && !(e.m == 0 && e.f != 0) && !(e.m != 0 && decide (n ≤ e.f))
def tableOk (es : List Ent) (n : Int) : Bool := allTo (fun i => entOk (es.getD i default) n) es.length && between es.length 1 32
def onTo (es : List Ent) (fr : Int) : Nat → List Int
  | 0 => []
  | k + 1 => onTo es fr k ++ if (es.getD k default).m != 0 && (es.getD k default).f == fr then [(k : Int)] else []
def pagesOn (es : List Ent) (fr : Int) : List Int := onTo es fr es.length
theorem onTo_le (es : List Ent) (fr : Int) (k : Nat) : (onTo es fr k).length ≤ k := by
  induction k with
  | zero => exact Nat.le_refl _
  | succ k ih => simp only [onTo, List.length_append]; split <;> simp <;> omega
def usedOk (M : Mac) (i : Nat) : Bool := M.f.used.getD i false == decide ((0 : Int) < (pagesOn M.ents i).length)
def machineOk (M : Mac) : Bool := framesOk M.f && tableOk M.ents M.f.used.length && allTo (usedOk M) M.f.used.length
def kernelOk (K : Ker) : Bool := allTo (fun i => decide (0 ≤ K.refuse.getD i 0)) K.refuse.length && between K.calls 0 100000 && decide ((K.refuse.length : Int) ≤ 40) && machineOk K.m
def canCall (K : Ker) : Bool := (K.calls != 100000) && kernelOk K
def pageEntry (es : List Ent) (p : Int) : Ent := if between p 0 (es.length - 1) then es.getD p.toNat default else ⟨0, 0⟩
end Go.Proofs.Ytkkebpcclklmcaa
/-
  Frames, tables, machines, kernels: are they valid?
-/
set_option linter.unusedVariables false
set_option linter.unusedSimpArgs false
namespace Go.Proofs.Ytkkebpcclklmcaa
open Go.RowKit
theorem getD_row {rows : List (List Int)} {i : Nat} {r : List Int} (h : rows[i]? = some r) : rows.getD i [] = r := getD_of h
/-- the cells of one row -/
def cellsOk (r : List Int) (u : Bool) (k : Nat) : Bool := allTo (fun j => between (r.getD j 0) 0 999 && (r.getD j 0 == 0 || u)) k
theorem cellsOk_succ {r : List Int} {u : Bool} {k : Nat} {x : Int} (h : r[k]? = some x) : cellsOk r u (k + 1) = (cellsOk r u k && (between x 0 999 && (x == 0 || u))) := by
  unfold cellsOk; rw [allTo, getD_of h]
def rowsOk (F : Frm) (k : Nat) : Bool := allTo (fun i => rowOk (F.cells.getD i []) (F.used.getD i false)) k
theorem rowsOk_succ {F : Frm} {k : Nat} {r : List Int} {u : Bool} (h : F.cells[k]? = some r) (hu : F.used[k]? = some u) : rowsOk F (k + 1) = (rowsOk F k && ((r.length == 16) && cellsOk r u 16)) := by
  unfold rowsOk; rw [allTo, getD_of h, getD_of hu]; rfl
theorem cellsOk_not {r : List Int} {u : Bool} {j n : Nat} {x : Int} (hj : j < n) (h : r[j]? = some x) (bad : (between x 0 999 && (x == 0 || u)) = false) : cellsOk r u n = false :=
  allTo_false hj (by rw [getD_of h]; exact bad)
theorem rowsOk_not {F : Frm} {k n : Nat} {r : List Int} {u : Bool} (hk : k < n) (h : F.cells[k]? = some r) (hu : F.used[k]? = some u) (bad : ((r.length == 16) && cellsOk r u 16) = false) : rowsOk F n = false :=
  allTo_false hk (by rw [getD_of h, getD_of hu]; exact bad)
theorem framesOk_eq (F : Frm) : framesOk F = (between F.cells.length 1 32 && (F.used.length == F.cells.length) && rowsOk F F.cells.length) := rfl
theorem i_FramesOk (x : FV) (F : Frm) (r : Bool) (hr : framesOk F = r) (w : World) (ha : FAt w x F) : Calls Try.prog 74 #[x.val] w fun e w' => e = .returned (.bool r) ∧ Below w.heap.size w w' := by
  subst hr
  obtain ⟨c, u, vs⟩ := x
  obtain ⟨uo, uc, hu, h1, h2⟩ := ha.used.shape
  obtain ⟨co, cc, hc, h3, h4⟩ := RowsAt.shape ha.rows
  dsimp only at hu hc
  subst hu hc
  have HR := Lib.hid ha.rows; have HU := Lib.hid ha.used
  dsimp only at HR HU
  simp only [FV.val]
  have hm1 : F.used.length ≤ 9223372036854775807 := by unfold maxLen at h2; omega
  have hm2 : F.cells.length ≤ 9223372036854775807 := by unfold maxLen at h4; omega
  clear ha h1 h2 h3 h4
  cases h1 : between F.cells.length 1 32; rotate_left; cases h2 : (F.used.length == F.cells.length)
  rotate_left
  · have hb := between_iff.1 h1
    have hlen : F.used.length = F.cells.length := by simpa using h2
    have E1 := Lib.hid h1; have E2 := Lib.hid h2
    (have hall := all_nil w; go_enter Try.func74, Try.ntmps74)
    go_wp2_with ((go_at_call 39; ((refine (i_between _ _ _ true (by assumption) _).mono ?_)); rintro e w2 ⟨rfl, rfl⟩))
    go_loop [24] (fun i => ∃ k : Nat, k ≤ F.cells.length ∧ i = .int .i64 k ∧ rowsOk F k = true) (fun i => F.cells.length - (intOf i).toNat)
    case atStart => exact ⟨0, Nat.zero_le _, rfl, rfl⟩
    case round =>
      obtain ⟨k, hk, rfl, hok⟩ := hrel
      have HK := Lib.hid hok; clear hok
      by_cases hlt : k < F.cells.length
      · have hlt' : (k : Int) < F.cells.length := by omega
        obtain ⟨g, o, ro, rl, rc, r, cap, he, hg, hr, hrl, hvj, hcc, hrm, hat⟩ := rowAt HR.out hlt
        simp only [Value.slice.injEq] at he
        obtain ⟨rfl, -, rfl⟩ := he
        obtain ⟨uk, huk⟩ := getx (xs := F.used) (k := k) (by omega)
        obtain ⟨uo', uc', hue, _, _, hur⟩ := BoolsAt.open HU.out
        simp only [Value.slice.injEq] at hue
        obtain ⟨rfl, -, rfl⟩ := hue
        obtain ⟨gu, ou, rfl, hgu, hcu⟩ := hur k uk huk
        have HS := Lib.hid (rowsOk_succ hr huk)
        have HN := Lib.hid (fun bad => rowsOk_not hlt hr huk bad)
        have HL := Lib.hid hrl; have HAT := Lib.hid hat
        have hrl9 : rl ≤ 9223372036854775807 := by unfold maxLen at hrm; omega
        clear hr huk hvj hur hrl hat hrm
        by_cases h16 : rl = 16
        · have h16' : ((rl : Int) == 16) = true := by simp [h16]
          go_wp2_with (fail)
          go_loop [34] (fun i => ∃ j : Nat, j ≤ 16 ∧ i = .int .i64 j ∧ cellsOk r uk j = true) (fun i => 16 - (intOf i).toNat)
          case atStart => exact ⟨0, Nat.zero_le _, rfl, rfl⟩
          case round =>
            obtain ⟨j, hj, rfl, hok⟩ := hrel
            have HJ := Lib.hid hok; clear hok
            by_cases hlj : j < 16
            · have hlj' : (j : Int) < 16 := by omega
              obtain ⟨y, hy⟩ := getx (xs := r) (k := j) (by have := HL.out; omega)
              obtain ⟨yo, yc, hye, _, _, hyr⟩ := IntsAt.open HAT.out
              simp only [Value.slice.injEq] at hye
              obtain ⟨rfl, -, rfl⟩ := hye
              obtain ⟨gy, oy, rfl, hgy, hcy⟩ := hyr j y hy
              have HT := Lib.hid (cellsOk_succ (u := uk) hy)
              have HM := Lib.hid (fun bad => cellsOk_not (u := uk) hlj hy bad)
              clear hy hyr
              cases b1 : between y 0 999
              · go_wp2_with ((go_at_call 39; ((refine (i_between _ _ _ false (by assumption) _).mono ?_)); rintro e w2 ⟨rfl, rfl⟩))
                all_goals go_ret
                all_goals exact ⟨ret_bool (a := false) (by have e : framesOk F = false := (by rw [framesOk_eq, HN.out (by rw [HM.out (by rw [b1]; rfl), Bool.and_false]), Bool.and_false]); exact e.symm), by exact bel⟩
              · cases b2 : (y == 0)
                · have b3 : (y != 0) = true := by simpa using b2
                  cases uk
                  · go_wp2_with ((go_at_call 39; ((refine (i_between _ _ _ true (by assumption) _).mono ?_)); rintro e w2 ⟨rfl, rfl⟩))
                    all_goals go_ret
                    all_goals exact ⟨ret_bool (a := false) (by have e : framesOk F = false := (by rw [framesOk_eq, HN.out (by rw [HM.out (by rw [b1, b2]; rfl), Bool.and_false]), Bool.and_false]); exact e.symm), by exact bel⟩
                  · go_wp2_with ((go_at_call 39; ((refine (i_between _ _ _ true (by assumption) _).mono ?_)); rintro e w2 ⟨rfl, rfl⟩))
                    all_goals go_round
                    case rel => exact ⟨j + 1, by omega, by go_num, by rw [HT.out, HJ.out, b1, b2]; rfl⟩
                    case measure => simp [intOf]; omega
                · have b3 : (y != 0) = false := by simpa using b2
                  cases uk
                  · go_wp2_with ((go_at_call 39; ((refine (i_between _ _ _ true (by assumption) _).mono ?_)); rintro e w2 ⟨rfl, rfl⟩))
                    all_goals go_round
                    case rel => exact ⟨j + 1, by omega, by go_num, by rw [HT.out, HJ.out, b1, b2]; rfl⟩
                    case measure => simp [intOf]; omega
                  · go_wp2_with ((go_at_call 39; ((refine (i_between _ _ _ true (by assumption) _).mono ?_)); rintro e w2 ⟨rfl, rfl⟩))
                    all_goals go_round
                    case rel => exact ⟨j + 1, by omega, by go_num, by rw [HT.out, HJ.out, b1, b2]; rfl⟩
                    case measure => simp [intOf]; omega
            · have hlj' : ¬ (j : Int) < 16 := by omega
              obtain rfl : j = 16 := by omega
              go_wp2_with (fail)
              all_goals go_round
              case rel => exact ⟨k + 1, by omega, by go_num, by rw [HS.out, HK.out, HJ.out, ← HL.out, h16]; rfl⟩
              case measure => simp [intOf]; omega
        · have h16' : ((rl : Int) == 16) = false := by simp; omega
          go_wp2_with (fail)
          go_ret
          exact ⟨ret_bool (a := false) (by have e : framesOk F = false := (by rw [framesOk_eq, HN.out (by rw [← HL.out]; simp [h16]), Bool.and_false]); exact e.symm), by exact bel⟩
      · have hlt' : ¬ (k : Int) < F.cells.length := by omega
        obtain rfl : k = F.cells.length := by omega
        go_wp2_with (fail)
        go_ret
        exact ⟨ret_bool (a := true) (by have e : framesOk F = true := (by rw [framesOk_eq, E1.out, E2.out, HK.out]; rfl); exact e.symm), by exact bel⟩
  · (have hall := all_nil w; go_enter Try.func74, Try.ntmps74)
    go_wp2_with ((go_at_call 39; ((refine (i_between _ _ _ false (by assumption) _).mono ?_)); rintro e w2 ⟨rfl, rfl⟩))
    all_goals go_ret
    all_goals exact ⟨ret_bool (a := false) (by have e : framesOk F = false := (by rw [framesOk_eq, h1]; rfl); exact e.symm), by exact bel⟩
  · have h2' : ((F.used.length : Int) == F.cells.length) = false := (by simp at h2 ⊢; omega)
    (have hall := all_nil w; go_enter Try.func74, Try.ntmps74)
    go_wp2_with ((go_at_call 39; ((refine (i_between _ _ _ true (by assumption) _).mono ?_)); rintro e w2 ⟨rfl, rfl⟩))
    all_goals go_ret
    all_goals exact ⟨ret_bool (a := false) (by have e : framesOk F = false := (by rw [framesOk_eq, h1, h2]; rfl); exact e.symm), by exact bel⟩

theorem s_FramesOk (x : FV) (F : Frm) (r : Bool) (hr : framesOk F = r) (w : World) (ha : FAt w x F) : Calls Try.prog 52 #[x.val] w fun e w' => e = .returned (.bool r) ∧ Below w.heap.size w w' := by
  subst hr
  obtain ⟨c, u, vs⟩ := x
  obtain ⟨uo, uc, hu, h1, h2⟩ := ha.used.shape
  obtain ⟨co, cc, hc, h3, h4⟩ := RowsAt.shape ha.rows
  dsimp only at hu hc
  subst hu hc
  have HR := Lib.hid ha.rows; have HU := Lib.hid ha.used
  dsimp only at HR HU
  simp only [FV.val]
  have hm1 : F.used.length ≤ 9223372036854775807 := by unfold maxLen at h2; omega
  have hm2 : F.cells.length ≤ 9223372036854775807 := by unfold maxLen at h4; omega
  clear ha h1 h2 h3 h4
  cases h1 : between F.cells.length 1 32; rotate_left; cases h2 : (F.used.length == F.cells.length)
  rotate_left
  · have hb := between_iff.1 h1
    have hlen : F.used.length = F.cells.length := by simpa using h2
    have E1 := Lib.hid h1; have E2 := Lib.hid h2
    (have hall := all_nil w; go_enter Try.func52, Try.ntmps52)
    go_wp2_with ((go_at_call 47; ((refine (s_l01In _ _ _ true (by assumption) _).mono ?_)); rintro e w2 ⟨rfl, rfl⟩))
    go_loop [3] (fun i => ∃ k : Nat, k ≤ F.cells.length ∧ i = .int .i64 k ∧ rowsOk F k = true) (fun i => F.cells.length - (intOf i).toNat)
    case atStart => exact ⟨0, Nat.zero_le _, rfl, rfl⟩
    case round =>
      obtain ⟨k, hk, rfl, hok⟩ := hrel
      have HK := Lib.hid hok; clear hok
      by_cases hlt : k < F.cells.length
      · have hlt' : (k : Int) < F.cells.length := by omega
        obtain ⟨g, o, ro, rl, rc, r, cap, he, hg, hr, hrl, hvj, hcc, hrm, hat⟩ := rowAt HR.out hlt
        simp only [Value.slice.injEq] at he
        obtain ⟨rfl, -, rfl⟩ := he
        obtain ⟨uk, huk⟩ := getx (xs := F.used) (k := k) (by omega)
        obtain ⟨uo', uc', hue, _, _, hur⟩ := BoolsAt.open HU.out
        simp only [Value.slice.injEq] at hue
        obtain ⟨rfl, -, rfl⟩ := hue
        obtain ⟨gu, ou, rfl, hgu, hcu⟩ := hur k uk huk
        have HS := Lib.hid (rowsOk_succ hr huk)
        have HN := Lib.hid (fun bad => rowsOk_not hlt hr huk bad)
        have HL := Lib.hid hrl; have HAT := Lib.hid hat
        have hrl9 : rl ≤ 9223372036854775807 := by unfold maxLen at hrm; omega
        clear hr huk hvj hur hrl hat hrm
        by_cases h16 : rl = 16
        · have h16' : ((rl : Int) == 16) = true := by simp [h16]
          go_wp2_with (fail)
          go_loop [4] (fun i => ∃ j : Nat, j ≤ 16 ∧ i = .int .i64 j ∧ cellsOk r uk j = true) (fun i => 16 - (intOf i).toNat)
          case atStart => exact ⟨0, Nat.zero_le _, rfl, rfl⟩
          case round =>
            obtain ⟨j, hj, rfl, hok⟩ := hrel
            have HJ := Lib.hid hok; clear hok
            by_cases hlj : j < 16
            · have hlj' : (j : Int) < 16 := by omega
              obtain ⟨y, hy⟩ := getx (xs := r) (k := j) (by have := HL.out; omega)
              obtain ⟨yo, yc, hye, _, _, hyr⟩ := IntsAt.open HAT.out
              simp only [Value.slice.injEq] at hye
              obtain ⟨rfl, -, rfl⟩ := hye
              obtain ⟨gy, oy, rfl, hgy, hcy⟩ := hyr j y hy
              have HT := Lib.hid (cellsOk_succ (u := uk) hy)
              have HM := Lib.hid (fun bad => cellsOk_not (u := uk) hlj hy bad)
              clear hy hyr
              cases b1 : between y 0 999
              · go_wp2_with ((go_at_call 47; ((refine (s_l01In _ _ _ false (by assumption) _).mono ?_)); rintro e w2 ⟨rfl, rfl⟩))
                all_goals go_ret
                all_goals exact ⟨ret_bool (a := false) (by have e : framesOk F = false := (by rw [framesOk_eq, HN.out (by rw [HM.out (by rw [b1]; rfl), Bool.and_false]), Bool.and_false]); exact e.symm), by exact bel⟩
              · cases b2 : (y == 0)
                · have b3 : (y != 0) = true := by simpa using b2
                  cases uk
                  · go_wp2_with ((go_at_call 47; ((refine (s_l01In _ _ _ true (by assumption) _).mono ?_)); rintro e w2 ⟨rfl, rfl⟩))
                    all_goals go_ret
                    all_goals exact ⟨ret_bool (a := false) (by have e : framesOk F = false := (by rw [framesOk_eq, HN.out (by rw [HM.out (by rw [b1, b2]; rfl), Bool.and_false]), Bool.and_false]); exact e.symm), by exact bel⟩
                  · go_wp2_with ((go_at_call 47; ((refine (s_l01In _ _ _ true (by assumption) _).mono ?_)); rintro e w2 ⟨rfl, rfl⟩))
                    all_goals go_round
                    case rel => exact ⟨j + 1, by omega, by go_num, by rw [HT.out, HJ.out, b1, b2]; rfl⟩
                    case measure => simp [intOf]; omega
                · have b3 : (y != 0) = false := by simpa using b2
                  cases uk
                  · go_wp2_with ((go_at_call 47; ((refine (s_l01In _ _ _ true (by assumption) _).mono ?_)); rintro e w2 ⟨rfl, rfl⟩))
                    all_goals go_round
                    case rel => exact ⟨j + 1, by omega, by go_num, by rw [HT.out, HJ.out, b1, b2]; rfl⟩
                    case measure => simp [intOf]; omega
                  · go_wp2_with ((go_at_call 47; ((refine (s_l01In _ _ _ true (by assumption) _).mono ?_)); rintro e w2 ⟨rfl, rfl⟩))
                    all_goals go_round
                    case rel => exact ⟨j + 1, by omega, by go_num, by rw [HT.out, HJ.out, b1, b2]; rfl⟩
                    case measure => simp [intOf]; omega
            · have hlj' : ¬ (j : Int) < 16 := by omega
              obtain rfl : j = 16 := by omega
              go_wp2_with (fail)
              all_goals go_round
              case rel => exact ⟨k + 1, by omega, by go_num, by rw [HS.out, HK.out, HJ.out, ← HL.out, h16]; rfl⟩
              case measure => simp [intOf]; omega
        · have h16' : ((rl : Int) == 16) = false := by simp; omega
          go_wp2_with (fail)
          go_ret
          exact ⟨ret_bool (a := false) (by have e : framesOk F = false := (by rw [framesOk_eq, HN.out (by rw [← HL.out]; simp [h16]), Bool.and_false]); exact e.symm), by exact bel⟩
      · have hlt' : ¬ (k : Int) < F.cells.length := by omega
        obtain rfl : k = F.cells.length := by omega
        go_wp2_with (fail)
        go_ret
        exact ⟨ret_bool (a := true) (by have e : framesOk F = true := (by rw [framesOk_eq, E1.out, E2.out, HK.out]; rfl); exact e.symm), by exact bel⟩
  · (have hall := all_nil w; go_enter Try.func52, Try.ntmps52)
    go_wp2_with ((go_at_call 47; ((refine (s_l01In _ _ _ false (by assumption) _).mono ?_)); rintro e w2 ⟨rfl, rfl⟩))
    all_goals go_ret
    all_goals exact ⟨ret_bool (a := false) (by have e : framesOk F = false := (by rw [framesOk_eq, h1]; rfl); exact e.symm), by exact bel⟩
  · have h2' : ((F.used.length : Int) == F.cells.length) = false := (by simp at h2 ⊢; omega)
    (have hall := all_nil w; go_enter Try.func52, Try.ntmps52)
    go_wp2_with ((go_at_call 47; ((refine (s_l01In _ _ _ true (by assumption) _).mono ?_)); rintro e w2 ⟨rfl, rfl⟩))
    all_goals go_ret
    all_goals exact ⟨ret_bool (a := false) (by have e : framesOk F = false := (by rw [framesOk_eq, h1, h2]; rfl); exact e.symm), by exact bel⟩

end Go.Proofs.Ytkkebpcclklmcaa
