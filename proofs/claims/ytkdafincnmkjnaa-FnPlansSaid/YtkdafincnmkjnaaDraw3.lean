/-
  Spans that are drawn.
-/
import Derived.Test.YtkdafincnmkjnaaDraw2
import Derived.Test.YtkdafincnmkjnaaSpans
set_option linter.unusedVariables false
set_option linter.unusedSimpArgs false
namespace Go.Proofs.Ytkdafincnmkjnaa
open Go.RowKit
/-- A call on a cursor that hands back a Bool. -/
def DrawnB (B : Nat) (w : World) (g : Nat) (e : Ending) (w' : World) : Prop := ∃ b, e = .returned (.bool b) ∧ Cur B w' g ∧ w.grownBy w' (some g)
theorem s_l01Once (B g : Nat) (n : Int) (w : World) (hcur : Cur B w g) : Calls Try.prog 76 #[.pointer (some ⟨g, 0, none⟩), .int .i64 n] w (DrawnB B w g) := by
  (have hall := all_nil w; go_enter Try.func76, Try.ntmps76)
  go_wp2_with fail
  refine (s_l01Below B g n _ hcur).mono ?_; rintro e w2 ⟨x, _, rfl, hcur2, hgr⟩
  go_wp2_with fail
  all_goals (go_ret; exact ⟨_, rfl, hcur2, hgr⟩)
theorem or_pow {b i : Nat} (hb : b < 2 ^ i) (hi : i < 16) : bits .or .i64 (b : Int) ((2 ^ i : Nat) : Int) = ((b ||| 2 ^ i : Nat) : Int) ∧ (b ||| 2 ^ i) < 2 ^ (i + 1) := by
  have h1 : 2 ^ i ≤ 2 ^ 15 := Nat.pow_le_pow_right (by omega) (by omega)
  have h2 : 2 ^ (i + 1) = 2 * 2 ^ i := by rw [Nat.pow_succ, Nat.mul_comm]
  refine ⟨(bits_nat .i64 16 (by decide) (fun n h0 h1 => by rw [IntKind.wrap_i64]; omega) b (2 ^ i) (by omega) (by omega)).2, ?_⟩
  exact Nat.or_lt_two_pow (by omega) (by omega)
theorem s_l02Map (B g : Nat) (n : Nat) (hn : n ≤ 16) (w : World) (hcur : Cur B w g) : Calls Try.prog 132 #[.pointer (some ⟨g, 0, none⟩), .int .i64 n] w (Drawn B w g fun x => 0 ≤ x ∧ x < 2 ^ n) := by
  (have hall := all_nil w; go_enter Try.func132, Try.ntmps132)
  go_wp2_with fail
  refine (s_l01Below B g _ _ hcur).mono ?_; rintro e w2 ⟨x, hx, rfl, hcur2, hgr2⟩
  have hx1 := hx.1; have hx2 := hx.2.1 (by omega)
  clear hx hcur
  go_wp2_with fail
  go_loopw [5, 7] (fun b i wr => ∃ k m : Nat, k ≤ n ∧ i = .int .i64 k ∧ b = .int .i64 m ∧ m < 2 ^ k ∧ Cur B wr g ∧ w.grownBy wr (some g)) (fun _ i _ => n - (intOf i).toNat)
  case atStart => exact ⟨0, 0, Nat.zero_le _, rfl, rfl, by decide, hcur2, hgr2⟩
  case round =>
    obtain ⟨k, m, hk, rfl, rfl, hm, hcur, hgr⟩ := hrel
    clear hcur2 hgr2
    have HG := Lib.hid hgr; clear hgr
    by_cases hlt : k < n
    · have hlt' : (k : Int) < n := by omega
      have O := or_pow hm (show k < 16 by omega)
      have O1 := Lib.hid O.1
      have O2 := Lib.hid O.2
      clear O
      have hp := pow_in (c := k) (by omega) (by omega)
      have HP : Hid (wrap64 (2 ^ k) = ((2 ^ k : Nat) : Int)) := by have := hp.1; rw [Int.toNat_natCast] at this; unfold Hid; rw [this]; simp
      clear hp
      go_wp2_with fail
      refine (s_l01Once B g _ _ hcur).mono ?_; rintro e w3 ⟨r, rfl, hcur3, hgr3⟩
      have hgr := grown_trans HG.out hgr3
      have hm2 : m < 2 ^ (k + 1) := by rw [Nat.pow_succ]; omega
      cases r
      · go_wp2_with fail
        go_roundw
        case rel => exact ⟨k + 1, m, by omega, by go_num, rfl, hm2, hcur3, hgr⟩
        case measure => simp [intOf]; omega
      · go_wp2_with fail
        go_roundw
        case rel => exact ⟨k + 1, m ||| 2 ^ k, by omega, by go_num, by rw [HP.out, O1.out], O2.out, hcur3, hgr⟩
        case measure => simp [intOf]; omega
    · have hlt' : ¬ (k : Int) < n := by omega
      obtain rfl : k = n := by omega
      go_wp2_with fail
      go_ret
      exact ⟨_, ⟨by omega, by have : ((2 : Int) ^ k) = ((2 ^ k : Nat) : Int) := by simp
                              omega⟩, rfl, hcur, HG.out⟩
def slotsNat (c : Int) : Nat := (slotsOf c).toNat
def DrawnSpan (B : Nat) (w : World) (g : Nat) (e : Ending) (w' : World) : Prop := ∃ s : Sp, e = .returned s.val ∧ (0 ≤ s.p ∧ s.p ≤ 7) ∧ (0 ≤ s.c ∧ s.c ≤ 3) ∧ (0 ≤ s.b ∧ s.b < 2 ^ slotsNat s.c) ∧ Cur B w' g ∧ w.grownBy w' (some g)
/-- What a call on a cursor leaves of another block. -/
theorem grown_cell {w w' : World} {g : Nat} (h : w.grownBy w' (some g)) {b : Nat} (hb : b < w.heap.size) (hne : g ≠ b) (o : Nat) : w'.cell? ⟨b, o, none⟩ = w.cell? ⟨b, o, none⟩ := World.cell?_of_block (h.block b hb (by simp; exact fun e => hne e.symm))
theorem grown_frozen {w w' : World} {g : Nat} (h : w.grownBy w' (some g)) {b : Nat} (hb : b < w.heap.size) (hne : g ≠ b) (o : Nat) : w'.frozen? ⟨b, o, none⟩ = w.frozen? ⟨b, o, none⟩ := World.frozen?_of_block (h.block b hb (by simp; exact fun e => hne e.symm))
theorem Cur.setCell {B : Nat} {w : World} {g b : Nat} (h : Cur B w g) (hB : B ≤ b) (hne : g ≠ b) (o : Nat) (v : Value) : Cur B (w.setCell ⟨b, o, none⟩ v) g :=
  h.stays (by simp) fun k hk => Below.heap_setCell _ _ _ _ (fun e => by rcases hk with hk | hk <;> simp at e <;> omega)
theorem grown_setNew {w w' : World} {g b : Nat} (h : w.grownBy w' (some g)) (hb : w.heap.size ≤ b) (o : Nat) (v : Value) : w.grownBy (w'.setCell ⟨b, o, none⟩ v) (some g) :=
  ⟨h.os, h.tape, h.output, by simpa using h.size, fun i hi hr => (Below.heap_setCell _ _ _ _ (fun e => by simp at e; omega)).trans (h.block i hi hr)⟩
theorem s_l09Span (B g : Nat) (w : World) (hcur : Cur B w g) : Calls Try.prog 128 #[.pointer (some ⟨g, 0, none⟩)] w (DrawnSpan B w g) := by
  have hg := hcur.lt
  have hne : g ≠ w.heap.size := by omega
  (have hall := all_nil w; go_enter Try.func128, Try.ntmps128)
  go_wp2_with fail
  replace hcur := hcur.below ((Below.refl _ _).alloc (Nat.le_refl _) (.cells #[.int .i64 0, .int .i64 0, .int .i64 0] 31))
  refine (s_l01Below B g _ _ hcur).mono ?_; rintro e w2 ⟨p, hp, rfl, hcur2, hgr2⟩
  have hc2 := grown_cell hgr2 (b := w.heap.size) (by simp) hne
  have hf2 := grown_frozen hgr2 (b := w.heap.size) (by simp) hne
  have hz2 := hgr2.size
  simp only [World.size_alloc] at hz2
  have hp1 := hp.1; have hp2 := hp.2.1 (by omega)
  go_wp2_with fail
  refine (s_l01Below B g _ _ hcur2).mono ?_; rintro e w3 ⟨c, hc, rfl, hcur3, hgr3⟩
  have hc3 := grown_cell hgr3 (b := w.heap.size) (by omega) hne
  have hf3 := grown_frozen hgr3 (b := w.heap.size) (by omega) hne
  have hz3 := hgr3.size
  have hd1 := hc.1; have hd2 := hc.2.1 (by omega)
  clear hp hc hcur hcur2
  go_wp2_with fail
  refine (s_SlotsOf _ _).mono ?_; rintro e w4 ⟨rfl, rfl⟩
  have hsl : slotsOf c = (slotsNat c : Int) ∧ slotsNat c ≤ 16 := by have := slotsOf_bound c; unfold slotsNat; omega
  have HSL := Lib.hid hsl
  rw [hsl.1]
  generalize slotsNat c = k at *
  have hcur4 := hcur3.below ((Below.refl _ _).alloc (Nat.le_refl _) (.cells #[.int .i64 p, .int .i64 c, .int .i64 0] 31))
  clear hsl
  have hne2 : g ≠ w3.heap.size := by omega
  go_wp2_with fail
  refine (s_l02Map B g k HSL.out.2 _ hcur4).mono ?_; rintro e w4 ⟨b, hb, rfl, hcur5, hgr5⟩
  have hc5 := grown_cell hgr5 (b := w3.heap.size) (by simp) hne2
  have hf5 := grown_frozen hgr5 (b := w3.heap.size) (by simp) hne2
  have hc5r := grown_cell hgr5 (b := w.heap.size) (by simp; omega) hne
  have hf5r := grown_frozen hgr5 (b := w.heap.size) (by simp; omega) hne
  have hz5 := hgr5.size
  simp only [World.size_alloc] at hz5
  clear hcur3 hcur4
  go_wp2_with fail
  have hBg := hcur5.1
  have hcur6 := hcur5.setCell (b := w3.heap.size) (by omega) hne2 2 (.int .i64 b)
  refine (s_l01Once B g _ _ hcur6).mono ?_; rintro e w5 ⟨r, rfl, hcur7, hgr7⟩
  have hc7 := grown_cell hgr7 (b := w3.heap.size) (by simp; omega) hne2
  have hf7 := grown_frozen hgr7 (b := w3.heap.size) (by simp; omega) hne2
  have hc7r := grown_cell hgr7 (b := w.heap.size) (by simp; omega) hne
  have hf7r := grown_frozen hgr7 (b := w.heap.size) (by simp; omega) hne
  have hz7 := hgr7.size
  simp only [World.size_setCell] at hz7
  clear hcur5 hcur6
  have hne3 : ¬ w.heap.size = w3.heap.size := by omega
  have hne4 : ¬ w3.heap.size = w.heap.size := by omega
  have hx3 : w.heap.size < w3.heap.size := by omega
  have hx4 : w.heap.size < w4.heap.size := by omega
  have hx5 : w.heap.size < w5.heap.size := by omega
  have hy4 : w3.heap.size < w4.heap.size := by omega
  have hy5 : w3.heap.size < w5.heap.size := by omega
  have CS : ∀ w, Calls Try.prog 115 #[.int .i64 c] w fun e w' => e = .returned (.int .i64 (k : Int)) ∧ w = w' := fun w => by have := s_SlotsOf c w; rwa [HSL.out.1] at this
  have HC := Lib.hid CS; clear CS
  have hk16 := HSL.out.2
  have e1 : wrap64 (wrap64 (2 ^ k) - 1) = 2 ^ k - 1 := by
    have hp := pow_in (c := k) (by omega) (by omega)
    simp only [Int.toNat_natCast] at hp
    rw [hp.1, hp.2.1]
  have E1 := Lib.hid e1; clear e1
  have hpos : (1 : Int) ≤ 2 ^ k := by
    have := Nat.two_pow_pos k
    have h2 : ((2 : Int) ^ k) = ((2 ^ k : Nat) : Int) := by simp
    omega
  have HK : Hid (slotsNat c = k) := by unfold Hid slotsNat; rw [HSL.out.1]; simp
  have G : ∀ o, w.grownBy (w5.setCell ⟨w3.heap.size, 2, none⟩ o) (some g) ∧ w.grownBy w5 (some g) := fun o => by
    have G1 : w.grownBy (w.alloc (.cells #[.int .i64 0, .int .i64 0, .int .i64 0] 31)) (some g) := World.grownBy_alloc w _ (some g)
    have G3 := grown_trans (grown_trans G1 hgr2) hgr3
    have G4 := grown_trans (grown_trans G3 (World.grownBy_alloc w3 _ _)) hgr5
    have G5 := grown_trans (grown_setNew G4 (b := w3.heap.size) (by omega) 2 (.int .i64 b)) hgr7
    exact ⟨grown_setNew G5 (by omega) 2 o, G5⟩
  have HG := Lib.hid G; clear G
  cases r
  · go_wp2_with fail
    refine bodyPost_ret (v := Sp.val ⟨p, c, b⟩) (by simp [results, Try.results128, go_sem, Sp.val, *]) rfl ⟨⟨p, c, b⟩, rfl, ⟨hp1, by show p ≤ 7; omega⟩, ⟨hd1, by show c ≤ 3; omega⟩, by dsimp only; rw [HK.out]; exact hb, ?_, ?_⟩
    · exact ((hcur7.setCell (by omega) hne 0 _).setCell (by omega) hne 1 _).setCell (by omega) hne 2 _
    · exact grown_setNew (grown_setNew (grown_setNew (HG.out (.int .i64 0)).2 (Nat.le_refl _) 0 _) (Nat.le_refl _) 1 _) (Nat.le_refl _) 2 _
  · go_wp2_with (go_at_call 115; refine (HC.out _).mono ?_; rintro e wx ⟨rfl, rfl⟩)
    refine bodyPost_ret (v := Sp.val ⟨p, c, wrap64 (wrap64 (2 ^ k) - 1)⟩) (by simp [results, Try.results128, go_sem, Sp.val, *]) rfl ⟨⟨p, c, wrap64 (wrap64 (2 ^ k) - 1)⟩, rfl, ⟨hp1, by show p ≤ 7; omega⟩, ⟨hd1, by show c ≤ 3; omega⟩, by dsimp only; rw [HK.out, E1.out]; omega, ?_, ?_⟩
    · exact (((hcur7.setCell (by omega) hne2 2 _).setCell (by omega) hne 0 _).setCell (by omega) hne 1 _).setCell (by omega) hne 2 _
    · exact grown_setNew (grown_setNew (grown_setNew (HG.out _).1 (Nat.le_refl _) 0 _) (Nat.le_refl _) 1 _) (Nat.le_refl _) 2 _
end Go.Proofs.Ytkdafincnmkjnaa
