/-
  Lists of spans that are drawn.
-/
import Derived.Test.YtkdafincnmkjnaaDraw4
import Derived.Deep.RegionWith
set_option linter.unusedVariables false
set_option linter.unusedSimpArgs false
namespace Go.Proofs.Ytkdafincnmkjnaa
open Go.RowKit
theorem fspan_cell (w : World) (s : Sp) : ∀ j u, (fSpan s)[j]? = some u → (w.alloc (.cells #[.int .i64 s.p, .int .i64 s.c, .int .i64 s.b] 31)).cell? ⟨w.heap.size, j, none⟩ = some u := by
  intro j u hj
  match j, hj with
  | 0, hj => simp [fSpan] at hj; subst hj; go_simp
  | 1, hj => simp [fSpan] at hj; subst hj; go_simp
  | 2, hj => simp [fSpan] at hj; subst hj; go_simp
  | j + 3, hj => simp [fSpan] at hj
/-- What a call on a cursor that hands back a list of spans leaves: at most m of them. -/
def DrawnSpans (B : Nat) (w : World) (g m : Nat) (e : Ending) (w' : World) : Prop := ∃ (v : Value) (xs : List Sp), e = .returned v ∧ xs.length ≤ m ∧ OwnSp w.heap.size w' v xs ∧ Cur B w' g ∧ w.grownBy w' (some g)
/-- .. the same, a list made anew. -/
theorem Own.grown {α : Type} {E k B : Nat} {f : α → List Value} {w w' : World} {v : Value} {xs : List α} {g : Nat} (h : Own E k f B w v xs) (hgr : w.grownBy w' (some g)) (hg : g < B) : Own E k f B w' v xs :=
  h.kept fun b hb => hgr.block b (h.lt b hb).2 (by have := (h.lt b hb).1; simp; omega)
theorem grown_belowW {w a b : World} {r : Option Nat} (h : w.grownBy a r) (k : Below w.heap.size a b) : w.grownBy b r :=
  ⟨k.os.trans h.os, k.tape.trans h.tape, k.output.trans h.output, Nat.le_trans h.size k.size, fun i hi hr => (k.block i hi).trans (h.block i hi hr)⟩
set_option maxRecDepth 20000 in
set_option maxHeartbeats 1600000 in
theorem s_l10List (B g m : Nat) (hm : m ≤ 100) (w : World) (hcur : Cur B w g) : Calls Try.prog 95 #[.pointer (some ⟨g, 0, none⟩), .int .i64 m] w (DrawnSpans B w g m) := by
  have hg := hcur.lt
  have hall := all_nil w
  go_enter Try.func95, Try.ntmps95
  go_wp2_with fail
  replace hcur := hcur.below ((Below.refl _ _).alloc (Nat.le_refl _) (.cells #[] 31))
  refine (s_l01Below B g _ _ hcur).mono ?_; rintro e w2 ⟨k, hk, rfl, hcur2, hgr2⟩
  have hk0 := hk.1; have hk1 := hk.2.1 (by omega)
  have hgr3 := grown_trans (World.grownBy_alloc w (.cells #[] 31) (some g)) hgr2
  have hown : OwnSp w.heap.size w2 (.slice (some ⟨w.heap.size, 0, none⟩) 0 0) [] := (Own.empty _ _ _ _ _ (Nat.le_refl _)).grown hgr2 hg
  clear hk hcur hgr2
  have HB0 := Lib.hid hgr3; have HC0 := Lib.hid hcur2; have HO0 := Lib.hid hown
  clear hgr3 hcur2 hown
  go_wp2_with fail
  go_loopw [5, 7] (fun o i wr => ∃ (vo : Option Addr) (vc : Nat) (xs : List Sp), xs.length ≤ m ∧ i = .int .i64 (xs.length : Nat) ∧ o = .slice vo xs.length vc ∧ OwnSp w.heap.size wr (.slice vo xs.length vc) xs ∧ Cur B wr g ∧ w.grownBy wr (some g)) (fun _ i _ => m - (intOf i).toNat)
  case atStart => exact ⟨_, _, [], Nat.zero_le _, rfl, rfl, HO0.out, HC0.out, HB0.out⟩
  case round =>
    clear HB0 HC0 HO0
    obtain ⟨vo, vc, xs, hn, rfl, rfl, hown, hcr, hgr⟩ := hrel
    go_wp2_with fail
    refine (s_l01Below B g _ _ hcr).mono ?_; rintro e w3 ⟨x, hx, rfl, hcur3, hgr3⟩
    have hx1 := hx.2.1 (by omega)
    have hgrA := grown_trans hgr hgr3
    have hownA := hown.grown hgr3 hg
    have HGA := Lib.hid hgrA; have HOA := Lib.hid hownA; have HCA := Lib.hid hcur3
    clear hx hcr hgr hgr3 hown hgrA hownA hcur3
    by_cases hlt : (xs.length : Int) < x
    · have hnm : xs.length < m := by omega
      obtain ⟨B0, hB0⟩ : ∃ b, b = w3.heap.size := ⟨_, rfl⟩
      have hgB : g < B0 := by rw [hB0]; exact HCA.out.lt
      have hwB : w.heap.size ≤ B0 := by rw [hB0]; exact HGA.out.size
      go_wp2_with fail
      rw [← hB0]
      go_loopw [9] (fun j wr => ∃ (q : Nat) (b : Int), q ≤ 4 ∧ j = .int .i64 q ∧ (wr.cell? ⟨B0, 0, none⟩ = some (.int .i64 (xs.length : Nat)) ∧ wr.cell? ⟨B0, 1, none⟩ = some (.int .i64 k) ∧ wr.cell? ⟨B0, 2, none⟩ = some (.int .i64 b) ∧ wr.frozen? ⟨B0, 2, none⟩ = false) ∧ OwnSp w.heap.size wr (.slice vo xs.length vc) xs ∧ (∀ h, (Value.slice vo xs.length vc).ownBlock = some h → h < B0) ∧ Cur B wr g ∧ w.grownBy wr (some g) ∧ B0 < wr.heap.size) (fun j _ => 4 - (intOf j).toNat)
      case atStart =>
        have hup : Below w3.heap.size w3 (w3.alloc (.cells #[.int .i64 (xs.length : Nat), .int .i64 k, .int .i64 0] 31)) := (Below.refl _ _).alloc (Nat.le_refl _) _
        exact ⟨0, 0, Nat.zero_le _, rfl, ⟨by rw [hB0]; go_simp, by rw [hB0]; go_simp, by rw [hB0]; go_simp, by rw [hB0]; go_simp⟩, HOA.out.below hup, fun h hh => by rw [hB0]; exact (HOA.out.lt h hh).2, HCA.out.below hup, grown_below HGA.out hup, by rw [hB0]; simp⟩
      case round =>
        obtain ⟨q, b, hq, rfl, ⟨d0, d1, d2, z2⟩, hown, hlo, hcr, hgr, hsz⟩ := hrel
        clear HGA HOA HCA hB0
        go_wp2_with fail
        refine (s_l01Below B g _ _ hcr).mono ?_; rintro e w4 ⟨y, hy, rfl, hcur4, hgr4⟩
        have hy0 := hy.1; have hy1 := hy.2.1 (by omega)
        have e0 := (grown_cell hgr4 (b := B0) hsz (by omega) 0).trans d0
        have e1 := (grown_cell hgr4 (b := B0) hsz (by omega) 1).trans d1
        have e2 := (grown_cell hgr4 (b := B0) hsz (by omega) 2).trans d2
        have f2 := (grown_frozen hgr4 (b := B0) hsz (by omega) 2).trans z2
        have hsz4 : B0 < w4.heap.size := Nat.lt_of_lt_of_le hsz hgr4.size
        have HG := Lib.hid (grown_trans hgr hgr4); have HO := Lib.hid (hown.grown hgr4 hg); have HLO := Lib.hid hlo
        have hne : g ≠ B0 := by omega
        clear hcr hgr hown hlo hgr4 d0 d1 d2 z2 hy hsz
        by_cases hqy : (q : Int) < 1 + y
        · go_wp2_with fail
          go_region_with (first | (go_at_call 115; refine (s_SlotsOf k _).mono ?_; rintro e w2 ⟨rfl, rfl⟩) | (go_at_call 123; refine (s_WithSlot _ _ _).mono ?_; rintro e w2 ⟨rfl, rfl⟩) | (go_at_call 96; refine (s_l01Below B g _ _ (Cur.below hcur4 (by exact bel))).mono ?_; rintro e w5 ⟨z, hz, rfl, hcur5, hgr5⟩; have HG5 := Lib.hid hgr5; have HC5 := Lib.hid hcur5; have i0 := (grown_cell hgr5 (b := B0) hsz4 hne 0).trans e0; have i1 := (grown_cell hgr5 (b := B0) hsz4 hne 1).trans e1; have i2 := (grown_cell hgr5 (b := B0) hsz4 hne 2).trans e2; have j2 := (grown_frozen hgr5 (b := B0) hsz4 hne 2).trans f2; have hsz5 := Nat.lt_of_lt_of_le hsz4 hgr5.size; clear hgr5 hcur5))
          all_goals go_wp2_with fail
          all_goals go_roundw
          all_goals try (case measure => simp [intOf]; omega)
          all_goals (
            have hgw : w.grownBy w5 (some g) := grown_trans (grown_below HG.out (Below.drew (Below.refl _ _))) HG5.out
            have ho5 : OwnSp w.heap.size w5 (.slice vo xs.length vc) xs := (HO.out.drew).grown HG5.out hg
            refine ⟨q + 1, withSlot b z, by omega, by go_num, ⟨by go_simp, by go_simp, by go_simp, by go_simp⟩, ?_, HLO.out, ?_, ?_, by (simp only [World.size_setCell]; exact hsz5)⟩
            focus (exact ho5.setCell _ _ (fun e => by have := HLO.out _ e; dsimp only at this; omega))
            focus (exact HC5.out.setCell (by have := HC5.out.1; omega) hne 2 _)
            focus (exact grown_setNew hgw hwB 2 _))
        · obtain ⟨w1, rfl⟩ : ∃ x, x = w4 := ⟨_, rfl⟩
          have hall : allLt [B0] w1.heap.size := ⟨hsz4, trivial⟩
          have hx := hall
          simp only [allLt, and_true] at hx
          go_wp2_with (first | (at_builtin; refine append1 elemSpan rfl _ _ rfl lenSpan oneSpan rfl (HO.out.alloc _) (by simp only [World.size_alloc]; omega) rfl (⟨xs.length, k, b⟩ : Sp) (fspan_cell _ _) (by unfold maxLen; omega) ?_; intro v2 w2 hown2 _ hb2))
          go_roundw
          case rel =>
            obtain ⟨v2o, v2c, rfl, -, -⟩ := hown2.shape
            refine ⟨v2o, v2c, _, by simp; omega, by simp, rfl, hown2, ?_, grown_belowW (grown_below HG.out ((Below.refl _ _).alloc (Nat.le_refl _) _)) hb2⟩
            have hB := hcur4.1
            exact (hcur4.below ((Below.refl _ _).alloc (Nat.le_refl _) _)).stays hb2.size (fun b hb => hb2.block b (by omega))
          case measure => simp [intOf]; omega
    · go_wp2_with fail
      go_ret
      exact ⟨_, xs, rfl, by omega, HOA.out, HCA.out, HGA.out⟩
def NewSpans (m : Nat) (w : World) (e : Ending) (w' : World) : Prop := ∃ (v : Value) (xs : List Sp), e = .returned v ∧ xs.length ≤ m ∧ OwnSp w.heap.size w' v xs ∧ Below w.heap.size w w'
theorem s_DrawSpans (v : Value) (n : Nat) (w : World) (hv : BytesAt w.heap.size w v n) : Calls Try.prog 40 #[v] w (NewSpans 8 w) := by
  have hall := all_nil w
  have HV := Lib.hid hv; clear hv
  go_enter Try.func40, Try.ntmps40
  go_wp2_with fail
  refine (s_l01New _ n _ HV.out).mono ?_; rintro e w0 ⟨g, rfl, hcur, hb0⟩
  have hBg := hcur.1
  have hb1 := Lib.hid hb0
  go_wp2_with fail
  refine (s_l10List _ g 8 (by omega) _ hcur).mono ?_; rintro e w1 ⟨v, xs, rfl, hl, hown, -, hgr⟩
  have h2 := below_of_grown hgr hBg hb0.size
  have hb3 := hb0.trans h2
  clear hgr hcur h2 hb0
  go_wp2_with fail
  go_ret
  exact ⟨_, xs, rfl, hl, hown.mono hb1.out.size, hb3⟩
end Go.Proofs.Ytkdafincnmkjnaa
