/-
  Texts put together: KOk3, KOk4.
-/
import Derived.Test.YtkkebpcclklmcaaGB7
import Derived.Test.YtkkebpcclklmcaaGB9
/-
  The pages on a frame; the entry of a page.
-/
set_option linter.unusedVariables false
set_option linter.unusedSimpArgs false
namespace Go.Proofs.Ytkkebpcclklmcaa
open Go.RowKit
theorem onTo_succ {es : List Ent} (fr : Int) {k : Nat} {x : Ent} (h : es[k]? = some x) : onTo es fr (k + 1) = onTo es fr k ++ if x.m != 0 && x.f == fr then [(k : Int)] else [] := by rw [onTo, getD_of h]
theorem intCellG (w : World) (x : Int) (g : Nat) (hg : g = w.heap.size) : ∀ j u, (fInt x)[j]? = some u → (w.alloc (.cells #[.int .i64 x] 3)).cell? ⟨g, j, none⟩ = some u := by
  subst hg; exact intCell w x
theorem i_PagesOn (v : Value) (es : List Ent) (fr : Int) (hs : es.length ≤ 1048576) (w : World) (ha : EntAt w v es) : Calls Try.prog 76 #[.agg #[v], .int .i64 fr] w (NewInts w (pagesOn es fr)) := by
  obtain ⟨eo, ec, rfl, h1, h2, hrd⟩ := EntAt.open ha
  have hm : es.length ≤ 9223372036854775807 := by unfold maxLen at h2; omega
  have HE := Lib.hid hrd
  clear ha h1 h2 hrd
  (have hall := all_nil w; go_enter Try.func76, Try.ntmps76)
  go_wp2_with (fail)
  go_loopw [5, 12] (fun o i wr => ∃ k : Nat, k ≤ es.length ∧ i = .int .i64 k ∧ OwnI (w.heap.size + 1) wr o (onTo es fr k) ∧ Below w.heap.size w wr ∧ wr.cell? ⟨w.heap.size, 0, none⟩ = some (.slice eo es.length ec) ∧ w.heap.size + 1 ≤ wr.heap.size) (fun _ i _ => es.length - (intOf i).toNat)
  case atStart => exact ⟨0, Nat.zero_le _, rfl, Own.empty' _ _ _ _ _ _ (by simp) (by simp), by exact bel, by go_simp, by simp only [World.size_alloc]; omega⟩
  case round =>
    obtain ⟨k, hk, rfl, hown, hbel, kbox, xbox⟩ := hrel
    have HO := Lib.hid hown; have HB := Lib.hid hbel; have hsz := hbel.size; clear hown
    by_cases hlt : k < es.length
    · have hlt' : (k : Int) < es.length := by omega
      obtain ⟨x, hx⟩ := getx hlt
      obtain ⟨g, o, rfl, hg, c0, c1⟩ := HE.out k x hx
      have HS := Lib.hid (onTo_succ fr hx)
      have hle := onTo_le es fr k
      replace c0 := (hbel.cell (p := ⟨g, o + k * 2, none⟩) hg).trans c0
      replace c1 := (hbel.cell (p := ⟨g, o + k * 2 + 1, none⟩) hg).trans c1
      clear hx hbel
      obtain ⟨xm, xf⟩ := x
      dsimp only at c0 c1
      (obtain ⟨w1, rfl⟩ : ∃ x, x = wr := ⟨_, rfl⟩; have hall : allLt [g, w.heap.size] w1.heap.size := ⟨by omega, by omega, trivial⟩; have hx := hall; (try simp only [allLt, and_true] at hx))
      have keep : ∀ W, (xm != 0 && xf == fr) = false → OwnI (w.heap.size + 1) W u5 (onTo es fr k) → OwnI (w.heap.size + 1) W u5 (onTo es fr (k + 1)) := fun W h ho => by rw [HS.out, h]; simpa using ho
      have KP := Lib.hid keep; clear keep
      rcases eqc xm 0 with ⟨b1, b2⟩ | ⟨b1, b2⟩
      · go_wp2_with (fail)
        all_goals go_roundw
        case rel => exact ⟨k + 1, by omega, by go_num, KP.out _ (by simp [b2]) (HO.out.alloc _), by (have hB := HB.out; exact bel), by go_simp, by (try simp only [World.size_alloc]); omega⟩
        case measure => simp [intOf]; omega
      rcases eqc xf fr with ⟨b3, b4⟩ | ⟨b3, b4⟩
      · go_wp2_with ((at_builtin; (refine append1 elemInt rfl _ _ rfl lenInt oneInt rfl ((HO.out.alloc _).alloc _) (by simp only [World.size_alloc]; omega) rfl (k : Int) (intCellG _ _ _ (by simp)) (by unfold maxLen; omega) ?_); intro v2 w2 hown2 _ hb2))
        all_goals go_roundw
        case rel => exact ⟨k + 1, by omega, by go_num, by rw [HS.out, b2, b3]; exact hown2, by (have hB := HB.out; exact bel), (hb2.cell (p := ⟨w.heap.size, 0, none⟩) (Nat.lt_succ_self _)).trans (by go_simp), by have := hb2.size; simp only [World.size_alloc] at this; omega⟩
        case measure => simp [intOf]; omega
      · go_wp2_with (fail)
        all_goals go_roundw
        case rel => exact ⟨k + 1, by omega, by go_num, KP.out _ (by simp [b3]) (HO.out.alloc _), by (have hB := HB.out; exact bel), by go_simp, by (try simp only [World.size_alloc]); omega⟩
        case measure => simp [intOf]; omega
    · have hlt' : ¬ (k : Int) < es.length := by omega
      obtain rfl : k = es.length := by omega
      clear hbel
      go_wp2_with (fail)
      go_ret
      have hB := HB.out
      exact ⟨_, rfl, Own.mono HO.out (by omega), by exact bel⟩

theorem s_PagesOn (v : Value) (es : List Ent) (fr : Int) (hs : es.length ≤ 1048576) (w : World) (ha : EntAt w v es) : Calls Try.prog 72 #[.agg #[v], .int .i64 fr] w (NewInts w (pagesOn es fr)) := by
  obtain ⟨eo, ec, rfl, h1, h2, hrd⟩ := EntAt.open ha
  have hm : es.length ≤ 9223372036854775807 := by unfold maxLen at h2; omega
  have HE := Lib.hid hrd
  clear ha h1 h2 hrd
  (have hall := all_nil w; go_enter Try.func72, Try.ntmps72)
  go_wp2_with (fail)
  go_loopw [5, 6] (fun o i wr => ∃ k : Nat, k ≤ es.length ∧ i = .int .i64 k ∧ OwnI (w.heap.size + 1) wr o (onTo es fr k) ∧ Below w.heap.size w wr ∧ wr.cell? ⟨w.heap.size, 0, none⟩ = some (.slice eo es.length ec) ∧ w.heap.size + 1 ≤ wr.heap.size) (fun _ i _ => es.length - (intOf i).toNat)
  case atStart => exact ⟨0, Nat.zero_le _, rfl, Own.empty' _ _ _ _ _ _ (by simp) (by simp), by exact bel, by go_simp, by simp only [World.size_alloc]; omega⟩
  case round =>
    obtain ⟨k, hk, rfl, hown, hbel, kbox, xbox⟩ := hrel
    have HO := Lib.hid hown; have HB := Lib.hid hbel; have hsz := hbel.size; clear hown
    by_cases hlt : k < es.length
    · have hlt' : (k : Int) < es.length := by omega
      obtain ⟨x, hx⟩ := getx hlt
      obtain ⟨g, o, rfl, hg, c0, c1⟩ := HE.out k x hx
      have HS := Lib.hid (onTo_succ fr hx)
      have hle := onTo_le es fr k
      replace c0 := (hbel.cell (p := ⟨g, o + k * 2, none⟩) hg).trans c0
      replace c1 := (hbel.cell (p := ⟨g, o + k * 2 + 1, none⟩) hg).trans c1
      clear hx hbel
      obtain ⟨xm, xf⟩ := x
      dsimp only at c0 c1
      (obtain ⟨w1, rfl⟩ : ∃ x, x = wr := ⟨_, rfl⟩; have hall : allLt [g, w.heap.size] w1.heap.size := ⟨by omega, by omega, trivial⟩; have hx := hall; (try simp only [allLt, and_true] at hx))
      have keep : ∀ W, (xm != 0 && xf == fr) = false → OwnI (w.heap.size + 1) W u5 (onTo es fr k) → OwnI (w.heap.size + 1) W u5 (onTo es fr (k + 1)) := fun W h ho => by rw [HS.out, h]; simpa using ho
      have KP := Lib.hid keep; clear keep
      rcases eqc xm 0 with ⟨b1, b2⟩ | ⟨b1, b2⟩
      · go_wp2_with (fail)
        all_goals go_roundw
        case rel => exact ⟨k + 1, by omega, by go_num, KP.out _ (by simp [b2]) HO.out, by (have hB := HB.out; exact bel), by go_simp, by (try simp only [World.size_alloc]); omega⟩
        case measure => simp [intOf]; omega
      rcases eqc xf fr with ⟨b3, b4⟩ | ⟨b3, b4⟩
      · go_wp2_with ((at_builtin; (refine append1 elemInt rfl _ _ rfl lenInt oneInt rfl (HO.out.alloc _) (by simp only [World.size_alloc]; omega) rfl (k : Int) (intCellG _ _ _ (by simp)) (by unfold maxLen; omega) ?_); intro v2 w2 hown2 _ hb2))
        all_goals go_roundw
        case rel => exact ⟨k + 1, by omega, by go_num, by rw [HS.out, b2, b3]; exact hown2, by (have hB := HB.out; exact bel), (hb2.cell (p := ⟨w.heap.size, 0, none⟩) (Nat.lt_succ_self _)).trans (by go_simp), by have := hb2.size; simp only [World.size_alloc] at this; omega⟩
        case measure => simp [intOf]; omega
      · go_wp2_with (fail)
        all_goals go_roundw
        case rel => exact ⟨k + 1, by omega, by go_num, KP.out _ (by simp [b3]) HO.out, by (have hB := HB.out; exact bel), by go_simp, by (try simp only [World.size_alloc]); omega⟩
        case measure => simp [intOf]; omega
    · have hlt' : ¬ (k : Int) < es.length := by omega
      obtain rfl : k = es.length := by omega
      clear hbel
      go_wp2_with (fail)
      go_ret
      have hB := HB.out
      exact ⟨_, rfl, Own.mono HO.out (by omega), by exact bel⟩

end Go.Proofs.Ytkkebpcclklmcaa
/-
  The entry of a page; machines that are valid.
-/
set_option linter.unusedVariables false
set_option linter.unusedSimpArgs false
namespace Go.Proofs.Ytkkebpcclklmcaa
open Go.RowKit
theorem i_PageEntry (v : Value) (es : List Ent) (p : Int) (w : World) (ha : EntAt w v es) : Calls Try.prog 50 #[.agg #[v], .int .i64 p] w fun e w' => e = .returned (.agg #[.int .i64 (pageEntry es p).m, .int .i64 (pageEntry es p).f]) ∧ Below w.heap.size w w' := by
  obtain ⟨eo, ec, rfl, h1, h2, hrd⟩ := EntAt.open ha
  have hm : es.length ≤ 9223372036854775807 := by unfold maxLen at h2; omega
  have HE := Lib.hid hrd
  clear ha h1 h2 hrd
  cases hb : between p 0 (es.length - 1)
  · have e : pageEntry es p = ⟨0, 0⟩ := by unfold pageEntry; rw [if_neg (by rw [hb]; exact Bool.false_ne_true)]
    rw [e]
    clear e
    (have hall := all_nil w; go_enter Try.func50, Try.ntmps50)
    go_wp2_with ((go_at_call 39; ((refine (i_between _ _ _ false (by assumption) _).mono ?_)); rintro e w2 ⟨rfl, rfl⟩))
    (refine bodyPost_ret (v := .agg #[.int .i64 0, .int .i64 0]) (by simp [results, Try.results50, go_sem]) rfl ⟨rfl, ?_⟩; exact bel)
  · have hbb := between_iff.1 hb
    obtain ⟨k, rfl⟩ := Int.eq_ofNat_of_zero_le hbb.1
    obtain ⟨x, hx⟩ := getx (show k < es.length by omega)
    have hlt' : (k : Int) < es.length := by omega
    have e : pageEntry es (k : Int) = x := by unfold pageEntry; rw [if_pos hb, Int.toNat_natCast, getD_of hx]
    rw [e]
    obtain ⟨g, o, rfl, hg, c0, c1⟩ := HE.out k x hx
    clear e hx
    (have hall := all_nil w; go_enter Try.func50, Try.ntmps50)
    go_wp2_with ((go_at_call 39; ((refine (i_between _ _ _ true (by assumption) _).mono ?_)); rintro e w2 ⟨rfl, rfl⟩))
    (refine bodyPost_ret (v := .agg #[.int .i64 x.m, .int .i64 x.f]) (by simp [results, Try.results50, go_sem, *]) rfl ⟨rfl, ?_⟩; exact bel)

theorem s_PageEntry (v : Value) (es : List Ent) (p : Int) (w : World) (ha : EntAt w v es) : Calls Try.prog 18 #[.agg #[v], .int .i64 p] w fun e w' => e = .returned (.agg #[.int .i64 (pageEntry es p).m, .int .i64 (pageEntry es p).f]) ∧ Below w.heap.size w w' := by
  obtain ⟨eo, ec, rfl, h1, h2, hrd⟩ := EntAt.open ha
  have hm : es.length ≤ 9223372036854775807 := by unfold maxLen at h2; omega
  have HE := Lib.hid hrd
  clear ha h1 h2 hrd
  cases hb : between p 0 (es.length - 1)
  · have e : pageEntry es p = ⟨0, 0⟩ := by unfold pageEntry; rw [if_neg (by rw [hb]; exact Bool.false_ne_true)]
    rw [e]
    clear e
    (have hall := all_nil w; go_enter Try.func18, Try.ntmps18)
    go_wp2_with ((go_at_call 47; ((refine (s_l01In _ _ _ false (by assumption) _).mono ?_)); rintro e w2 ⟨rfl, rfl⟩))
    (refine bodyPost_ret (v := .agg #[.int .i64 0, .int .i64 0]) (by simp [results, Try.results18, go_sem]) rfl ⟨rfl, ?_⟩; exact bel)
  · have hbb := between_iff.1 hb
    obtain ⟨k, rfl⟩ := Int.eq_ofNat_of_zero_le hbb.1
    obtain ⟨x, hx⟩ := getx (show k < es.length by omega)
    have hlt' : (k : Int) < es.length := by omega
    have e : pageEntry es (k : Int) = x := by unfold pageEntry; rw [if_pos hb, Int.toNat_natCast, getD_of hx]
    rw [e]
    obtain ⟨g, o, rfl, hg, c0, c1⟩ := HE.out k x hx
    clear e hx
    (have hall := all_nil w; go_enter Try.func18, Try.ntmps18)
    go_wp2_with ((go_at_call 47; ((refine (s_l01In _ _ _ true (by assumption) _).mono ?_)); rintro e w2 ⟨rfl, rfl⟩))
    (refine bodyPost_ret (v := .agg #[.int .i64 x.m, .int .i64 x.f]) (by simp [results, Try.results18, go_sem, *]) rfl ⟨rfl, ?_⟩; exact bel)

theorem framesOk_len {F : Frm} (h : framesOk F = true) : F.used.length = F.cells.length := by
  rw [framesOk_eq] at h; simp only [Bool.and_eq_true, beq_iff_eq] at h; exact h.1.2
theorem tableOk_len {es : List Ent} {n : Int} (h : tableOk es n = true) : es.length ≤ 32 := by
  rw [tableOk_eq] at h; simp only [Bool.and_eq_true, between_iff] at h; omega
theorem usedOk_of {M : Mac} {k : Nat} {u : Bool} (h : M.f.used[k]? = some u) : usedOk M k = (u == decide ((0 : Int) < (pagesOn M.ents k).length)) := by unfold usedOk; rw [getD_of h]
theorem pagesOn_le (es : List Ent) (fr : Int) : (pagesOn es fr).length ≤ es.length := onTo_le _ _ _
theorem pages_n {f : FuncId} {args : Array Value} {W : World} {xs : List Int} (h : Calls Try.prog f args W (NewInts W xs)) : Calls Try.prog f args W fun e w' => ∃ ao cap, e = .returned (.slice ao xs.length cap) ∧ Below W.heap.size W w' :=
  h.mono fun _ _ hn => by obtain ⟨ao, cap, rfl, _, hb⟩ := hn.open; exact ⟨ao, cap, rfl, hb⟩
theorem i_MachineOk (x : MV) (M : Mac) (r : Bool) (hr : machineOk M = r) (w : World) (ha : MAt w x M) : Calls Try.prog 45 #[x.val] w fun e w' => e = .returned (.bool r) ∧ Below w.heap.size w w' := by
  subst hr
  obtain ⟨⟨c, u, vs⟩, e⟩ := x
  obtain ⟨uo, uc, hu, hu1, hu2⟩ := ha.f.used.shape
  dsimp only at hu
  subst hu
  obtain ⟨co, cc, hc, _, _⟩ := RowsAt.shape ha.f.rows
  dsimp only at hc
  subst hc
  have HF := Lib.hid ha.f; have HE := Lib.hid ha.ents
  have hm : M.f.used.length ≤ 9223372036854775807 := by unfold maxLen at hu2; omega
  clear ha hu1 hu2
  simp only [MV.val]
  dsimp only at HF HE
  cases h1 : framesOk M.f
  · have H1 := Lib.hid h1
    (have hall := all_nil w; go_enter Try.func45, Try.ntmps45)
    go_wp2_with ((go_at_call 74; (refine (i_FramesOk ⟨_, _, vs⟩ M.f _ H1.out _ (HF.out.below (by exact bel))).mono ?_; rintro e w2 ⟨rfl, hb⟩; obtain ⟨kwa_0_0, kwa_0_1, kwa_0_2⟩ := kp3 hb (w.heap.size) (.slice co M.f.cells.length cc) (.slice uo M.f.used.length uc) (e); have xwa_0 : w.heap.size < w2.heap.size := xc hb; have hzwa := hb.size; (try simp only [World.size_alloc, World.size_setCell, World.size_drew] at hzwa); obtain ⟨wa, rfl⟩ : ∃ x, x = w2 := ⟨_, rfl⟩)))
    go_ret
    exact ⟨ret_bool (a := false) (by unfold machineOk; rw [h1]; rfl), by exact bel⟩
  cases h2 : tableOk M.ents M.f.used.length
  · have H1 := Lib.hid h1; have H2 := Lib.hid h2; skip
    (have hall := all_nil w; go_enter Try.func45, Try.ntmps45)
    go_wp2_with (first | (go_at_call 74; (refine (i_FramesOk ⟨_, _, vs⟩ M.f _ H1.out _ (HF.out.below (by exact bel))).mono ?_; rintro e w2 ⟨rfl, hb⟩; obtain ⟨kwa_0_0, kwa_0_1, kwa_0_2⟩ := kp3 hb (w.heap.size) (.slice co M.f.cells.length cc) (.slice uo M.f.used.length uc) (e); have xwa_0 : w.heap.size < w2.heap.size := xc hb; have hzwa := hb.size; (try simp only [World.size_alloc, World.size_setCell, World.size_drew] at hzwa); obtain ⟨wa, rfl⟩ : ∃ x, x = w2 := ⟨_, rfl⟩)) | (go_at_call 75; (refine (i_TableOk _ M.ents _ _ H2.out _ (HE.out.below (by exact bel))).mono ?_; rintro e w2 ⟨rfl, hb⟩; obtain ⟨kwb_0_0, kwb_0_1, kwb_0_2⟩ := kp3 hb (w.heap.size) (.slice co M.f.cells.length cc) (.slice uo M.f.used.length uc) (e); have xwb_0 : w.heap.size < w2.heap.size := xc hb; have hzwb := hb.size; (try simp only [World.size_alloc, World.size_setCell, World.size_drew] at hzwb); obtain ⟨wb, rfl⟩ : ∃ x, x = w2 := ⟨_, rfl⟩)))
    go_ret
    exact ⟨ret_bool (a := false) (by unfold machineOk; rw [h1, h2]; rfl), by exact bel⟩
  · have H1 := Lib.hid h1; have H2 := Lib.hid h2; skip
    (have hall := all_nil w; go_enter Try.func45, Try.ntmps45)
    go_wp2_with (first | (go_at_call 74; (refine (i_FramesOk ⟨_, _, vs⟩ M.f _ H1.out _ (HF.out.below (by exact bel))).mono ?_; rintro e w2 ⟨rfl, hb⟩; obtain ⟨kwa_0_0, kwa_0_1, kwa_0_2⟩ := kp3 hb (w.heap.size) (.slice co M.f.cells.length cc) (.slice uo M.f.used.length uc) (e); have xwa_0 : w.heap.size < w2.heap.size := xc hb; have hzwa := hb.size; (try simp only [World.size_alloc, World.size_setCell, World.size_drew] at hzwa); obtain ⟨wa, rfl⟩ : ∃ x, x = w2 := ⟨_, rfl⟩)) | (go_at_call 75; (refine (i_TableOk _ M.ents _ _ H2.out _ (HE.out.below (by exact bel))).mono ?_; rintro e w2 ⟨rfl, hb⟩; obtain ⟨kwb_0_0, kwb_0_1, kwb_0_2⟩ := kp3 hb (w.heap.size) (.slice co M.f.cells.length cc) (.slice uo M.f.used.length uc) (e); have xwb_0 : w.heap.size < w2.heap.size := xc hb; have hzwb := hb.size; (try simp only [World.size_alloc, World.size_setCell, World.size_drew] at hzwb); obtain ⟨wb, rfl⟩ : ∃ x, x = w2 := ⟨_, rfl⟩)))
    have hn32 := tableOk_len h2
    go_loopw [23] (fun i wr => ∃ k : Nat, k ≤ M.f.used.length ∧ i = .int .i64 k ∧ allTo (usedOk M) k = true ∧ Below w.heap.size w wr ∧ wr.cell? ⟨w.heap.size, 0, none⟩ = some (.slice co M.f.cells.length cc) ∧ wr.cell? ⟨w.heap.size, 1, none⟩ = some (.slice uo M.f.used.length uc) ∧ wr.cell? ⟨w.heap.size, 2, none⟩ = some e ∧ w.heap.size < wr.heap.size) (fun i _ => M.f.used.length - (intOf i).toNat)
    case atStart => exact ⟨0, Nat.zero_le _, rfl, rfl, by exact bel, by assumption, by assumption, by assumption, by assumption⟩
    case round =>
      obtain ⟨k, hk, rfl, hok, hbel, k0, k1, k2, xb⟩ := hrel
      have HK := Lib.hid hok; have HB := Lib.hid hbel; have hsz := hbel.size; clear hok
      by_cases hlt : k < M.f.used.length
      · have hlt' : (k : Int) < M.f.used.length := by omega
        obtain ⟨uk, huk⟩ := getx hlt
        obtain ⟨uo', uc', hue, _, _, hur⟩ := BoolsAt.open HF.out.used
        simp only [Value.slice.injEq] at hue
        obtain ⟨rfl, -, rfl⟩ := hue
        obtain ⟨gu, ou, rfl, hgu, hcu⟩ := hur k uk huk
        replace hcu := (hbel.cell (p := ⟨gu, ou + k, none⟩) hgu).trans hcu
        have HU := Lib.hid (usedOk_of huk)
        clear huk hur
        obtain ⟨w1, rfl⟩ : ∃ x, x = wr := ⟨_, rfl⟩
        have xg : gu < w1.heap.size := by omega
        have HL := Lib.hid (pagesOn_le M.ents k)
        obtain ⟨nn, hnn⟩ : ∃ nn, nn = (pagesOn M.ents k).length := ⟨_, rfl⟩
        have P1 := Lib.hid (fun W (hW : Below w1.heap.size w1 W) => pages_n (i_PagesOn e M.ents k (by omega) W (HE.out.below (HB.out.trans (hW.mono hsz)))))
        rw [← hnn] at P1 HU HL
        have hnn32 : nn ≤ 32 := by have := HL.out; omega
        clear hnn
        clear hbel
        rcases ltc 0 nn with ⟨b1, b2, b3⟩ | ⟨b1, b2, b3⟩
        all_goals have b4 : 0 < nn ↔ (0 : Int) < nn := by omega
        · have b5 : 0 < nn := by omega
          have b6 : ((nn : Int) == 0) = false := by simp; omega
          clear b4
          cases uk
          · go_wp2_with ((go_at_call 76; refine (P1.out _ (by exact bel)).mono ?_; rintro e2 w2 ⟨ao, cap, rfl, hb⟩; obtain ⟨kwc_0_0, kwc_0_1, kwc_0_2⟩ := kp3 hb (w.heap.size) (.slice co M.f.cells.length cc) (.slice (some ⟨gu, ou, none⟩) M.f.used.length uc) (e); have kwc_gu : w2.cell? ⟨gu, ou + k, none⟩ = some (.bool false) := kc hb; have xwc_0 : w.heap.size < w2.heap.size := xc hb; have xwc_gu : gu < w2.heap.size := xc hb; have hzwc := hb.size; (try simp only [World.size_alloc, World.size_setCell, World.size_drew] at hzwc); obtain ⟨wc, rfl⟩ : ∃ x, x = w2 := ⟨_, rfl⟩))
            all_goals (go_ret; exact ⟨ret_bool (a := false) (by rw [machineOk, h1, h2, allTo_false hlt (by rw [HU.out, b1]; rfl)]; rfl), by (have hB := HB.out; exact bel)⟩)
          · go_wp2_with ((go_at_call 76; refine (P1.out _ (by exact bel)).mono ?_; rintro e2 w2 ⟨ao, cap, rfl, hb⟩; obtain ⟨kwc_0_0, kwc_0_1, kwc_0_2⟩ := kp3 hb (w.heap.size) (.slice co M.f.cells.length cc) (.slice (some ⟨gu, ou, none⟩) M.f.used.length uc) (e); have kwc_gu : w2.cell? ⟨gu, ou + k, none⟩ = some (.bool true) := kc hb; have xwc_0 : w.heap.size < w2.heap.size := xc hb; have xwc_gu : gu < w2.heap.size := xc hb; have hzwc := hb.size; (try simp only [World.size_alloc, World.size_setCell, World.size_drew] at hzwc); obtain ⟨wc, rfl⟩ : ∃ x, x = w2 := ⟨_, rfl⟩))
            all_goals go_roundw
            case rel => exact ⟨k + 1, by omega, by go_num, by rw [allTo, HK.out, HU.out, b1]; rfl, by (have hB := HB.out; exact bel), by go_simp, by go_simp, by go_simp, by omega⟩
            case measure => simp [intOf]; omega
        · have b5 : ¬ 0 < nn := by omega
          obtain rfl : nn = 0 := by omega
          clear b4
          cases uk
          · go_wp2_with ((go_at_call 76; refine (P1.out _ (by exact bel)).mono ?_; rintro e2 w2 ⟨ao, cap, rfl, hb⟩; obtain ⟨kwc_0_0, kwc_0_1, kwc_0_2⟩ := kp3 hb (w.heap.size) (.slice co M.f.cells.length cc) (.slice (some ⟨gu, ou, none⟩) M.f.used.length uc) (e); have kwc_gu : w2.cell? ⟨gu, ou + k, none⟩ = some (.bool false) := kc hb; have xwc_0 : w.heap.size < w2.heap.size := xc hb; have xwc_gu : gu < w2.heap.size := xc hb; have hzwc := hb.size; (try simp only [World.size_alloc, World.size_setCell, World.size_drew] at hzwc); obtain ⟨wc, rfl⟩ : ∃ x, x = w2 := ⟨_, rfl⟩))
            all_goals go_roundw
            case rel => exact ⟨k + 1, by omega, by go_num, by rw [allTo, HK.out, HU.out, b1]; rfl, by (have hB := HB.out; exact bel), by go_simp, by go_simp, by go_simp, by omega⟩
            case measure => simp [intOf]; omega
          · go_wp2_with ((go_at_call 76; refine (P1.out _ (by exact bel)).mono ?_; rintro e2 w2 ⟨ao, cap, rfl, hb⟩; obtain ⟨kwc_0_0, kwc_0_1, kwc_0_2⟩ := kp3 hb (w.heap.size) (.slice co M.f.cells.length cc) (.slice (some ⟨gu, ou, none⟩) M.f.used.length uc) (e); have kwc_gu : w2.cell? ⟨gu, ou + k, none⟩ = some (.bool true) := kc hb; have xwc_0 : w.heap.size < w2.heap.size := xc hb; have xwc_gu : gu < w2.heap.size := xc hb; have hzwc := hb.size; (try simp only [World.size_alloc, World.size_setCell, World.size_drew] at hzwc); obtain ⟨wc, rfl⟩ : ∃ x, x = w2 := ⟨_, rfl⟩))
            all_goals (go_ret; exact ⟨ret_bool (a := false) (by rw [machineOk, h1, h2, allTo_false hlt (by rw [HU.out, b1]; rfl)]; rfl), by (have hB := HB.out; exact bel)⟩)
      · have hlt' : ¬ (k : Int) < M.f.used.length := by omega
        obtain rfl : k = M.f.used.length := by omega
        clear hbel
        go_wp2
        go_ret
        exact ⟨ret_bool (a := true) (by rw [machineOk, h1, h2, HK.out]; rfl), HB.out⟩


end Go.Proofs.Ytkkebpcclklmcaa
