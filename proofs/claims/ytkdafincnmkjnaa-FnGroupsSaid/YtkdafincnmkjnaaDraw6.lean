/-
  A drawn number of a list, any span.
-/
import Derived.Test.YtkdafincnmkjnaaDraw5
import Derived.Test.YtkdafincnmkjnaaAppend
import Derived.Test.YtkdafincnmkjnaaDel
import Derived.Test.YtkdafincnmkjnaaGroup
import Derived.Deep.DeepCutAuto
set_option linter.unusedVariables false
set_option linter.unusedSimpArgs false
namespace Go.Proofs.Ytkdafincnmkjnaa
open Go.RowKit
theorem s_l01PickInt (B g b n c : Nat) (xs : List Int) (hn : n = xs.length) (hpos : 0 < xs.length) (hl : xs.length ≤ 256) (hne : g ≠ b) (w : World) (hcur : Cur B w g) (hb : b < w.heap.size) (hc : ∀ i x, xs[i]? = some x → w.cell? ⟨b, i, none⟩ = some (.int .i64 x)) :
    Calls Try.prog 129 #[.pointer (some ⟨g, 0, none⟩), .slice (some ⟨b, 0, none⟩) n c] w (Drawn B w g (· ∈ xs)) := by
  have hall := all_nil w
  have HC := Lib.hid hc; clear hc
  subst hn
  (have hall := all_nil w; go_enter Try.func129, Try.ntmps129)
  go_wp2_with fail
  refine (s_l01Below B g _ _ hcur).mono ?_; rintro e w2 ⟨x, hx, rfl, hcur2, hgr2⟩
  have hx1 := hx.1; have hx2 := hx.2.1 (by omega)
  obtain ⟨k, rfl⟩ := Int.eq_ofNat_of_zero_le hx1
  clear hx hcur
  have hk : k < xs.length := by omega
  obtain ⟨y, hy⟩ := getx hk
  have hcy := (grown_cell hgr2 hb hne k).trans (HC.out k y hy)
  have hmem := List.mem_of_getElem? hy
  have hkI : (k : Int) < (xs.length : Nat) := by omega
  clear hy
  go_wp2_with fail
  go_ret
  exact ⟨y, hmem, rfl, hcur2, hgr2⟩

def DrawnSp (B : Nat) (w : World) (g : Nat) (e : Ending) (w' : World) : Prop := ∃ s : Sp, e = .returned s.val ∧ Cur B w' g ∧ w.grownBy w' (some g)
set_option maxHeartbeats 1600000 in
theorem s_l09Any (B g : Nat) (w : World) (hcur : Cur B w g) : Calls Try.prog 113 #[.pointer (some ⟨g, 0, none⟩)] w (DrawnSp B w g) := by
  have hg := hcur.lt
  have hne : g ≠ w.heap.size := by omega
  (have hall := all_nil w; go_enter Try.func113, Try.ntmps113)
  go_wp2_with fail
  replace hcur := hcur.below ((Below.refl _ _).alloc (Nat.le_refl _) (.cells #[.int .i64 0, .int .i64 0, .int .i64 0] 31))
  refine (s_l09Span B g _ hcur).mono ?_; rintro e w2 ⟨s, rfl, -, -, -, hcur2, hgr2⟩
  have hc2_0 := grown_cell hgr2 (b := w.heap.size) (by simp) hne
  have hf2_0 := grown_frozen hgr2 (b := w.heap.size) (by simp) hne
  have hz2 := hgr2.size
  simp only [World.size_alloc] at hz2
  obtain ⟨p, c, b⟩ := s
  simp only [Sp.val] at *
  have hne2 : g ≠ w2.heap.size := by have := hcur2.lt; omega
  have hcur3 := hcur2.below ((Below.refl _ _).alloc (Nat.le_refl _) (.cells #[.int .i64 p, .int .i64 c, .int .i64 b] 31))
  have hBg := hcur2.1
  go_wp2_with fail
  refine (s_l01Below B g _ _ hcur3).mono ?_; rintro e w4 ⟨x, -, rfl, hcur4, hgr4⟩
  have hc4_0 := grown_cell hgr4 (b := w.heap.size) (by simp; omega) hne
  have hf4_0 := grown_frozen hgr4 (b := w.heap.size) (by simp; omega) hne
  have hc4_1 := grown_cell hgr4 (b := w2.heap.size) (by simp) hne2
  have hf4_1 := grown_frozen hgr4 (b := w2.heap.size) (by simp) hne2
  have hz4 := hgr4.size
  simp only [World.size_alloc] at hz4
  have HG := Lib.hid (grown_trans (grown_below (grown_trans (World.grownBy_alloc w (.cells #[.int .i64 0, .int .i64 0, .int .i64 0] 31) (some g)) hgr2) ((Below.refl _ w2).alloc (Nat.le_refl _) (.cells #[.int .i64 p, .int .i64 c, .int .i64 b] 31))) hgr4)
  have hn1 : ¬ w.heap.size = w2.heap.size := by omega
  have hn2 : ¬ w2.heap.size = w.heap.size := by omega
  have hx2 : w.heap.size < w2.heap.size := by omega
  have hx4 : w.heap.size < w4.heap.size := by omega
  have hy4 : w2.heap.size < w4.heap.size := by omega
  clear hcur hcur2 hcur3 hgr2 hgr4
  by_cases h0 : x = 0
  · subst h0
    have hcur5 := hcur4.below ((Below.refl _ _).alloc (Nat.le_refl _) (.cells #[.int .i64 (-1), .int .i64 (31), .int .i64 (32)] 3))
    go_wp2_with fail
    refine (s_l01PickInt B g w4.heap.size 3 3 [-1, 31, 32] rfl (by decide) (by decide) (by have := hcur4.lt; omega) _ hcur5 (by simp) ?_).mono ?_
    · intro i x hi
      match i, hi with
      | 0, hi => simp at hi; subst hi; go_simp
      | 1, hi => simp at hi; subst hi; go_simp
      | 2, hi => simp at hi; subst hi; go_simp
      | i + 3, hi => simp at hi
    rintro e w5 ⟨y, -, rfl, hcur6, hgr6⟩
    have hc6_0 := grown_cell hgr6 (b := w.heap.size) (by simp; omega) hne
    have hf6_0 := grown_frozen hgr6 (b := w.heap.size) (by simp; omega) hne
    have hc6_1 := grown_cell hgr6 (b := w2.heap.size) (by simp; omega) hne2
    have hf6_1 := grown_frozen hgr6 (b := w2.heap.size) (by simp; omega) hne2
    have hz6 := hgr6.size
    simp only [World.size_alloc] at hz6
    have hx5 : w.heap.size < w5.heap.size := by omega
    have hy5 : w2.heap.size < w5.heap.size := by omega
    have HG6 := Lib.hid (grown_trans (grown_below HG.out ((Below.refl _ w4).alloc (Nat.le_refl _) (.cells #[.int .i64 (-1), .int .i64 (31), .int .i64 (32)] 3))) hgr6)
    clear hcur5 hgr6 hcur4
    go_wp2_with fail
    refine bodyPost_ret (v := Sp.val ⟨y, c, b⟩) (by simp [results, Try.results113, go_sem, Sp.val, *]) rfl ⟨⟨y, c, b⟩, rfl, ?_, ?_⟩
    · exact (((hcur6.setCell (by omega) hne2 0 _).setCell (by omega) hne 0 _).setCell (by omega) hne 1 _).setCell (by omega) hne 2 _
    · exact grown_setNew (grown_setNew (grown_setNew (grown_setNew HG6.out (b := w2.heap.size) (by omega) 0 (.int .i64 y)) (Nat.le_refl _) 0 _) (Nat.le_refl _) 1 _) (Nat.le_refl _) 2 _
  by_cases h1 : x = 1
  · subst h1
    have hcur5 := hcur4.below ((Below.refl _ _).alloc (Nat.le_refl _) (.cells #[.int .i64 (-1), .int .i64 (4), .int .i64 (3), .int .i64 (0)] 3))
    go_wp2_with fail
    refine (s_l01PickInt B g w4.heap.size 4 4 [-1, 4, 3, 0] rfl (by decide) (by decide) (by have := hcur4.lt; omega) _ hcur5 (by simp) ?_).mono ?_
    · intro i x hi
      match i, hi with
      | 0, hi => simp at hi; subst hi; go_simp
      | 1, hi => simp at hi; subst hi; go_simp
      | 2, hi => simp at hi; subst hi; go_simp
      | 3, hi => simp at hi; subst hi; go_simp
      | i + 4, hi => simp at hi
    rintro e w5 ⟨y, -, rfl, hcur6, hgr6⟩
    have hc6_0 := grown_cell hgr6 (b := w.heap.size) (by simp; omega) hne
    have hf6_0 := grown_frozen hgr6 (b := w.heap.size) (by simp; omega) hne
    have hc6_1 := grown_cell hgr6 (b := w2.heap.size) (by simp; omega) hne2
    have hf6_1 := grown_frozen hgr6 (b := w2.heap.size) (by simp; omega) hne2
    have hz6 := hgr6.size
    simp only [World.size_alloc] at hz6
    have hx5 : w.heap.size < w5.heap.size := by omega
    have hy5 : w2.heap.size < w5.heap.size := by omega
    have HG6 := Lib.hid (grown_trans (grown_below HG.out ((Below.refl _ w4).alloc (Nat.le_refl _) (.cells #[.int .i64 (-1), .int .i64 (4), .int .i64 (3), .int .i64 (0)] 3))) hgr6)
    clear hcur5 hgr6 hcur4
    go_wp2_with fail
    refine bodyPost_ret (v := Sp.val ⟨p, y, b⟩) (by simp [results, Try.results113, go_sem, Sp.val, *]) rfl ⟨⟨p, y, b⟩, rfl, ?_, ?_⟩
    · exact (((hcur6.setCell (by omega) hne2 1 _).setCell (by omega) hne 0 _).setCell (by omega) hne 1 _).setCell (by omega) hne 2 _
    · exact grown_setNew (grown_setNew (grown_setNew (grown_setNew HG6.out (b := w2.heap.size) (by omega) 1 (.int .i64 y)) (Nat.le_refl _) 0 _) (Nat.le_refl _) 1 _) (Nat.le_refl _) 2 _
  by_cases h2 : x = 2
  · subst h2
    have hcur5 := hcur4.below ((Below.refl _ _).alloc (Nat.le_refl _) (.cells #[.int .i64 (-1), .int .i64 (65535), .int .i64 (65536), .int .i64 (3)] 3))
    go_wp2_with fail
    refine (s_l01PickInt B g w4.heap.size 4 4 [-1, 65535, 65536, 3] rfl (by decide) (by decide) (by have := hcur4.lt; omega) _ hcur5 (by simp) ?_).mono ?_
    · intro i x hi
      match i, hi with
      | 0, hi => simp at hi; subst hi; go_simp
      | 1, hi => simp at hi; subst hi; go_simp
      | 2, hi => simp at hi; subst hi; go_simp
      | 3, hi => simp at hi; subst hi; go_simp
      | i + 4, hi => simp at hi
    rintro e w5 ⟨y, -, rfl, hcur6, hgr6⟩
    have hc6_0 := grown_cell hgr6 (b := w.heap.size) (by simp; omega) hne
    have hf6_0 := grown_frozen hgr6 (b := w.heap.size) (by simp; omega) hne
    have hc6_1 := grown_cell hgr6 (b := w2.heap.size) (by simp; omega) hne2
    have hf6_1 := grown_frozen hgr6 (b := w2.heap.size) (by simp; omega) hne2
    have hz6 := hgr6.size
    simp only [World.size_alloc] at hz6
    have hx5 : w.heap.size < w5.heap.size := by omega
    have hy5 : w2.heap.size < w5.heap.size := by omega
    have HG6 := Lib.hid (grown_trans (grown_below HG.out ((Below.refl _ w4).alloc (Nat.le_refl _) (.cells #[.int .i64 (-1), .int .i64 (65535), .int .i64 (65536), .int .i64 (3)] 3))) hgr6)
    clear hcur5 hgr6 hcur4
    go_wp2_with fail
    refine bodyPost_ret (v := Sp.val ⟨p, c, y⟩) (by simp [results, Try.results113, go_sem, Sp.val, *]) rfl ⟨⟨p, c, y⟩, rfl, ?_, ?_⟩
    · exact (((hcur6.setCell (by omega) hne2 2 _).setCell (by omega) hne 0 _).setCell (by omega) hne 1 _).setCell (by omega) hne 2 _
    · exact grown_setNew (grown_setNew (grown_setNew (grown_setNew HG6.out (b := w2.heap.size) (by omega) 2 (.int .i64 y)) (Nat.le_refl _) 0 _) (Nat.le_refl _) 1 _) (Nat.le_refl _) 2 _
  · have q0 : (x == 0) = false := by simpa using h0
    have q1 : (x == 1) = false := by simpa using h1
    have q2 : (x == 2) = false := by simpa using h2
    go_wp2_with fail
    refine bodyPost_ret (v := Sp.val ⟨p, c, b⟩) (by simp [results, Try.results113, go_sem, Sp.val, *]) rfl ⟨⟨p, c, b⟩, rfl, ?_, ?_⟩
    · exact ((hcur4.setCell (by omega) hne 0 _).setCell (by omega) hne 1 _).setCell (by omega) hne 2 _
    · exact grown_setNew (grown_setNew (grown_setNew HG.out (Nat.le_refl _) 0 _) (Nat.le_refl _) 1 _) (Nat.le_refl _) 2 _

theorem Cur.setCellB {B : Nat} {w : World} {g b : Nat} (h : Cur B w g) (hB : B ≤ b) (hne : g ≠ b) (o : Nat) (v : Value) : Cur B (w.setCell ⟨b, o, none⟩ v) g := h.setCell hB hne o v
set_option maxHeartbeats 1600000 in
theorem s_l10Any (B g m : Nat) (hm : m ≤ 100) (w : World) (hcur : Cur B w g) : Calls Try.prog 78 #[.pointer (some ⟨g, 0, none⟩), .int .i64 m] w (DrawnSpans B w g m) := by
  have hg := hcur.lt
  have hBg := hcur.1
  (have hall := all_nil w; go_enter Try.func78, Try.ntmps78)
  go_wp2_with fail
  refine (s_l10List B g m hm _ hcur).mono ?_; rintro e w2 ⟨v, xs, rfl, hl, hown, hcur2, hgr2⟩
  obtain ⟨vo, vc, rfl, hvc, hvm, hvb⟩ := hown.shape
  have HO2 := Lib.hid hown; have HC2 := Lib.hid hcur2; have HG2 := Lib.hid hgr2
  clear hcur hown hcur2 hgr2
  rcases Nat.eq_zero_or_pos xs.length with h0 | hpos
  · obtain rfl : xs = [] := List.length_eq_zero_iff.1 h0
    go_wp2_with fail
    go_ret
    exact ⟨_, [], rfl, Nat.zero_le _, HO2.out, HC2.out, HG2.out⟩
  · have hpI : (0 : Int) < (xs.length : Nat) := by omega
    obtain ⟨go_, gc, he, hgB, hgl⟩ := Own.addr HO2.out hpos
    simp only [Value.slice.injEq] at he
    obtain ⟨rfl, -, rfl⟩ := he
    go_wp2_with fail
    refine (s_l01Once B g _ _ HC2.out).mono ?_; rintro e w3 ⟨r, rfl, hcur3, hgr3⟩
    have HO3 := Lib.hid (HO2.out.grown hgr3 hg)
    have HG3 := Lib.hid (grown_trans HG2.out hgr3)
    have hz3 := hgr3.size
    clear hgr3 HO2 HG2 HC2
    cases r
    · go_wp2_with fail
      go_ret
      exact ⟨_, xs, rfl, hl, HO3.out, hcur3, HG3.out⟩
    · go_wp2_with fail
      refine (s_l01Below B g _ _ hcur3).mono ?_; rintro e w4 ⟨x, hx, rfl, hcur4, hgr4⟩
      have hx1 := hx.1; have hx2 := hx.2.1 (by omega)
      obtain ⟨k, rfl⟩ := Int.eq_ofNat_of_zero_le hx1
      have HO4 := Lib.hid (HO3.out.grown hgr4 hg)
      have HG4 := Lib.hid (grown_trans HG3.out hgr4)
      have hz4 := hgr4.size
      clear hgr4 HO3 HG3 hx hcur3
      go_wp2_with fail
      refine (s_l09Any B g _ hcur4).mono ?_; rintro e w5 ⟨s, rfl, hcur5, hgr5⟩
      have HO5 := Lib.hid (HO4.out.grown hgr5 hg)
      have HG5 := Lib.hid (grown_trans HG4.out hgr5)
      have hz5 := hgr5.size
      clear hgr5 HO4 HG4 hcur4
      have hk : k < xs.length := by omega
      have hkI : (k : Int) < (xs.length : Nat) := by omega
      obtain ⟨hgo, e0, e1, e2, d0, d1, d2, f0, f1, f2⟩ := OwnSp.slot HO5.out k hk
      obtain ⟨p, c, b⟩ := s
      simp only [Sp.val]
      go_wp2_with fail
      go_ret
      have S := Own.setk lenSpan HO5.out rfl k hk (⟨p, c, b⟩ : Sp)
      have hne : g ≠ go_ := by omega
      exact ⟨_, xs.set k ⟨p, c, b⟩, rfl, by rw [List.length_set]; exact hl, S.1, ((hcur5.setCell (by omega) hne _ _).setCell (by omega) hne _ _).setCell (by omega) hne _ _, grown_setNew (grown_setNew (grown_setNew HG5.out hgB _ _) hgB _ _) hgB _ _⟩

theorem gcell {W w2 : World} {r : Option Nat} {b o : Nat} {v : Value} (h : W.grownBy w2 r) (hlt : b < W.heap.size) (hne : r ≠ some b) (hc : W.cell? ⟨b, o, none⟩ = some v) : w2.cell? ⟨b, o, none⟩ = some v :=
  (World.cell?_of_block (h.block b hlt (fun e => hne e.symm))).trans hc
theorem fspan_of {W : World} {b : Nat} {s : Sp} (h0 : W.cell? ⟨b, 0, none⟩ = some (.int .i64 s.p)) (h1 : W.cell? ⟨b, 1, none⟩ = some (.int .i64 s.c)) (h2 : W.cell? ⟨b, 2, none⟩ = some (.int .i64 s.b)) : ∀ j u, (fSpan s)[j]? = some u → W.cell? ⟨b, j, none⟩ = some u := by
  intro j u hj
  match j, hj with
  | 0, hj => simp [fSpan] at hj; subst hj; exact h0
  | 1, hj => simp [fSpan] at hj; subst hj; exact h1
  | 2, hj => simp [fSpan] at hj; subst hj; exact h2
  | j + 3, hj => simp [fSpan] at hj
set_option maxRecDepth 100000 in
set_option maxHeartbeats 3200000 in
theorem s_l10Group (B g : Nat) (w : World) (hcur : Cur B w g) : Calls Try.prog 77 #[.pointer (some ⟨g, 0, none⟩)] w (DrawnSpans B w g 6) := by
  have hg := hcur.lt
  have hBg := hcur.1
  (have hall := all_nil w; go_enter Try.func77, Try.ntmps77)
  go_wp2_with fail
  have hup : Below w.heap.size w (w.alloc (.cells #[] 31)) := (Below.refl _ _).alloc (Nat.le_refl _) _
  refine (s_l10List B g 6 (by omega) _ (hcur.below hup)).mono ?_; rintro e w2 ⟨v, ys, rfl, hl, hown, hcur2, hgr2⟩
  obtain ⟨lo, lc, rfl, hlc, hlm, -⟩ := hown.shape
  have HY := Lib.hid hown.at
  have HC := Lib.hid hcur2
  have HG := Lib.hid (grown_trans (World.grownBy_alloc w (.cells #[] 31) (some g)) hgr2)
  have HO := Lib.hid ((Own.empty 31 3 fSpan w.heap.size w (Nat.le_refl _)).grown hgr2 hg)
  have hz2 := hgr2.size
  simp only [World.size_alloc] at hz2
  clear hcur hown hcur2 hgr2 hup
  obtain ⟨wl, rfl⟩ : ∃ x, x = w2 := ⟨_, rfl⟩
  go_wp2_with fail
  go_loopw [3, 5] (fun o i wr => ∃ (k : Nat) (vo : Option Addr) (vc : Nat) (xs : List Sp), k ≤ ys.length ∧ xs.length ≤ k ∧ i = .int .i64 (k : Nat) ∧ o = .slice vo xs.length vc ∧ OwnSp w.heap.size wr (.slice vo xs.length vc) xs ∧ Below wl.heap.size wl wr) (fun _ i _ => ys.length - (intOf i).toNat)
  case atStart => exact ⟨0, _, _, [], Nat.zero_le _, Nat.le_refl _, rfl, rfl, HO.out, Below.refl _ _⟩
  case round =>
    clear HO
    obtain ⟨k, vo, vc, xs, hk, hxk, rfl, rfl, hown, hbel⟩ := hrel
    have HO := Lib.hid hown; have HOA := Lib.hid (hown.at).sl; have HL := Lib.hid hbel; have hsz := hbel.size
    clear hown hbel
    by_cases hlt : k < ys.length
    · have hkI : (k : Int) < (ys.length : Nat) := by omega
      have HYO := Lib.hid (HY.out.below HL.out).open
      obtain ⟨ly, cy, he, -, -, hry⟩ := HYO.out
      simp only [Value.slice.injEq] at he
      obtain ⟨rfl, -, rfl⟩ := he
      obtain ⟨gy, oy, rfl, hgy, y0, y1, y2⟩ := hry k hlt
      obtain ⟨s, hs⟩ : ∃ s, s = ys.getD k default := ⟨_, rfl⟩
      rw [← hs] at y0 y1 y2
      clear hs hry HYO
      obtain ⟨w1, rfl⟩ : ∃ x, x = wr := ⟨_, rfl⟩
      have hx := hgy
      go_upto_region 6 with fail
      go_cut [6] (fun vx wx => ∃ (vo' : Option Addr) (vc' : Nat), vx = .slice vo' (xs.length + 1) vc' ∧ OwnSp w1.heap.size wx (.slice vo' (xs.length + 1) vc') (xs ++ [s]) ∧ Below w1.heap.size w1 wx)
      case first =>
        go_region_law (first | (refine step_appendAll elemSpan rfl _ _ rfl lenSpan oneSpan rfl (xs := []) (B := w1.heap.size) (by first | exact (Own.empty' _ _ _ _ _ _ (by first | rfl | simp) (by exact zt)) | exact (Own.empty' _ _ _ _ _ _ (by first | rfl | simp) (by exact zt)).alloc _) (by exact zt) rfl (HOA.out.below (by exact bel)) (by simp only [List.length_nil, maxLen]; omega) ?_; intro v4 w2 hown4 hgr4 hat4 hb4; (try simp only [List.nil_append] at hown4); obtain ⟨v4o, v4c, rfl, -, -⟩ := hown4.shape; (try (have hk0_0 : w2.cell? ⟨w1.heap.size, 0, none⟩ = some (.int .i64 s.p) := ?_; rotate_left; (focus (refine gcell hgr4 ?_ ?_ ?_; (focus (exact zt)); (focus (simp [Act.eval, Act.put, Value.ownBlock]; done)); (focus (go_simp; done)))); have hk0_1 : w2.cell? ⟨w1.heap.size, 1, none⟩ = some (.int .i64 s.c) := ?_; rotate_left; (focus (refine gcell hgr4 ?_ ?_ ?_; (focus (exact zt)); (focus (simp [Act.eval, Act.put, Value.ownBlock]; done)); (focus (go_simp; done)))); have hk0_2 : w2.cell? ⟨w1.heap.size, 2, none⟩ = some (.int .i64 s.b) := ?_; rotate_left; (focus (refine gcell hgr4 ?_ ?_ ?_; (focus (exact zt)); (focus (simp [Act.eval, Act.put, Value.ownBlock]; done)); (focus (go_simp; done)))); have hk0 := fspan_of hk0_0 hk0_1 hk0_2)); (try (have hk1_0 : w2.cell? ⟨w1.heap.size + 1, 0, none⟩ = some (.int .i64 s.p) := ?_; rotate_left; (focus (refine gcell hgr4 ?_ ?_ ?_; (focus (exact zt)); (focus (simp [Act.eval, Act.put, Value.ownBlock]; done)); (focus (go_simp; done)))); have hk1_1 : w2.cell? ⟨w1.heap.size + 1, 1, none⟩ = some (.int .i64 s.c) := ?_; rotate_left; (focus (refine gcell hgr4 ?_ ?_ ?_; (focus (exact zt)); (focus (simp [Act.eval, Act.put, Value.ownBlock]; done)); (focus (go_simp; done)))); have hk1_2 : w2.cell? ⟨w1.heap.size + 1, 2, none⟩ = some (.int .i64 s.b) := ?_; rotate_left; (focus (refine gcell hgr4 ?_ ?_ ?_; (focus (exact zt)); (focus (simp [Act.eval, Act.put, Value.ownBlock]; done)); (focus (go_simp; done)))); have hk1 := fspan_of hk1_0 hk1_1 hk1_2)); have q0 : w2.cell? ⟨gy, oy + k * 3, none⟩ = some (.int .i64 s.p) := kc hb4; have q1 : w2.cell? ⟨gy, oy + k * 3 + 1, none⟩ = some (.int .i64 s.c) := kc hb4; have q2 : w2.cell? ⟨gy, oy + k * 3 + 2, none⟩ = some (.int .i64 s.b) := kc hb4; have hz4 := hb4.size; (try simp only [World.size_alloc, World.size_setCell, World.size_drew] at hz4); clear hgr4 hat4) | (refine step_append1 elemSpan rfl _ _ rfl lenSpan (by rfl) (xs := xs) (v := .slice v4o xs.length v4c) (B := w1.heap.size) (by first | exact hown4 | exact hown4.alloc _) (by exact zt) (by rfl) s (oneSpan _) (by first | exact hk0 | exact hk1 | exact fspan_cell _ _) (by simp only [maxLen]; omega) ?_; intro v5 w5 hown5 hgr5 hat5 hb5))
        all_goals (
          go_wp2_with fail
          go_meet
          have hbb : Below w1.heap.size w1 w5 := by exact bel
          obtain ⟨v5o, v5c, rfl, -, -⟩ := hown5.shape
          rw [List.length_append, List.length_singleton] at hown5
          exact ⟨v5o, v5c, by (try rw [List.length_append]; rfl), hown5, hbb⟩)
      case rest =>
        obtain ⟨vo', vc', rfl, hown5, hbb⟩ := hcut
        have hw1 : w.heap.size ≤ w1.heap.size := by have h1 := HG.out.size; have h2 := HL.out.size; omega
        have HB5 := Lib.hid (HL.out.trans (hbb.mono HL.out.size))
        have H5 := Lib.hid (hown5.mono hw1)
        have HO5 := Lib.hid (HO.out.below hbb)
        clear hown5 hbb y0 y1 y2 hgy hx HOA HO HL HY
        obtain ⟨gk, hgk⟩ : ∃ r, groupOk (xs ++ [s]) = r := ⟨_, rfl⟩
        have HGK := s_GroupOk _ (xs ++ [s]) wc (OwnSp.at H5.out)
        rw [hgk] at HGK
        cases gk
        all_goals (
          go_wp2_with fail
          refine HGK.mono ?_; rintro e w6 ⟨rfl, hb6⟩
          clear HGK
          go_wp2_with fail
          go_roundw)
        case rel =>
          have hh := HB5.out.trans (hb6.mono HB5.out.size)
          have ho := HO5.out.below hb6
          exact ⟨k + 1, vo, vc, xs, by omega, by omega, by go_num, rfl, ho, hh⟩
        case measure => simp [intOf]; omega
        case rel =>
          have hh := HB5.out.trans (hb6.mono HB5.out.size)
          have ho := H5.out.below hb6
          exact ⟨k + 1, vo', vc', xs ++ [s], by omega, by simp; omega, by go_num, by simp, by simpa using ho, hh⟩
        case measure => simp [intOf]; omega
    · have hlt' : ¬ (k : Int) < (ys.length : Nat) := by omega
      go_wp2_with fail
      go_ret
      exact ⟨_, xs, rfl, by omega, HO.out, HC.out.below HL.out, grown_below HG.out HL.out⟩

theorem s_DrawGroupOk (v : Value) (n : Nat) (w : World) (hv : BytesAt w.heap.size w v n) : Calls Try.prog 16 #[v] w (NewSpans 6 w) := by
  have hall := all_nil w
  have HV := Lib.hid hv; clear hv
  go_enter Try.func16, Try.ntmps16
  go_wp2_with fail
  refine (s_l01New _ n _ HV.out).mono ?_; rintro e w0 ⟨g, rfl, hcur, hb0⟩
  have hBg := hcur.1
  have hb1 := Lib.hid hb0
  clear hb0
  go_wp2_with fail
  refine (s_l01Once _ g _ _ hcur).mono ?_; rintro e w3 ⟨r, rfl, hcur3, hgr3⟩
  have hb2 := Lib.hid (hb1.out.trans (below_of_grown hgr3 hBg hb1.out.size))
  clear hgr3 hcur
  cases r
  · go_wp2_with fail
    refine (s_l10Any _ g 4 (by omega) _ hcur3).mono ?_; rintro e w1 ⟨v, xs, rfl, hl, hown, -, hgr⟩
    have hb3 := hb2.out.trans (below_of_grown hgr hBg hb2.out.size)
    clear hgr hcur3
    go_wp2_with fail
    go_ret
    exact ⟨_, xs, rfl, by omega, hown.mono hb2.out.size, hb3⟩
  · go_wp2_with fail
    refine (s_l10Group _ g _ hcur3).mono ?_; rintro e w1 ⟨v, xs, rfl, hl, hown, -, hgr⟩
    have hb3 := hb2.out.trans (below_of_grown hgr hBg hb2.out.size)
    clear hgr hcur3
    go_wp2_with fail
    go_ret
    exact ⟨_, xs, rfl, by omega, hown.mono hb2.out.size, hb3⟩
end Go.Proofs.Ytkdafincnmkjnaa
