/-
  Is an index part of a pair? The pairs that are found greedily, as plain lists.
-/
import Derived.Test.YtkdafincnmkjnaaFamC
set_option linter.unusedVariables false
set_option linter.unusedSimpArgs false
namespace Go.Proofs.Ytkdafincnmkjnaa
open Go.RowKit
def hitP (p : Pr) (i : Int) : Bool := (p.a == i) || (p.b == i)
def takenTo (ps : List Pr) (i : Int) : Nat → Bool
  | 0 => false
  | k + 1 => takenTo ps i k || hitP (ps.getD k default) i
def takenB (ps : List Pr) (i : Int) : Bool := takenTo ps i ps.length
theorem takenTo_succ {ps : List Pr} {i : Int} {y : Pr} {k : Nat} (h : ps[k]? = some y) : takenTo ps i (k + 1) = (takenTo ps i k || hitP y i) := by rw [takenTo, getD_of h]
theorem takenTo_true {ps : List Pr} {i : Int} {k n : Nat} (hk : k < n) (h : hitP (ps.getD k default) i = true) : takenTo ps i n = true := by
  induction n with
  | zero => omega
  | succ n ih =>
    rw [takenTo]
    rcases Nat.lt_or_ge k n with h1 | h1
    · rw [ih h1]; rfl
    · obtain rfl : k = n := by omega
      rw [h, Bool.or_true]
theorem takenTo_app (ps : List Pr) (q : Pr) (i : Int) : ∀ k, k ≤ ps.length → takenTo (ps ++ [q]) i k = takenTo ps i k
  | 0, _ => rfl
  | k + 1, h => by
    rw [takenTo, takenTo, takenTo_app ps q i k (by omega)]
    rw [List.getD_eq_getElem?_getD, List.getElem?_append_left (by omega), ← List.getD_eq_getElem?_getD]
theorem takenB_snoc (ps : List Pr) (q : Pr) (i : Int) : takenB (ps ++ [q]) i = (takenB ps i || hitP q i) := by
  unfold takenB
  rw [List.length_append, List.length_singleton, takenTo, takenTo_app ps q i _ (Nat.le_refl _)]
  congr 2
  rw [List.getD_eq_getElem?_getD, List.getElem?_append_right (Nat.le_refl _), Nat.sub_self]
  rfl
theorem takenB_nil (i : Int) : takenB [] i = false := rfl
/-! The greedy pairs. -/
def gStep (xs : List Sp) (out : List Pr) (a b : Nat) : List Pr := if !takenB out a && !takenB out b && meshS (xs.getD a default) (xs.getD b default) then out ++ [⟨a, b⟩] else out
def gRowP (xs : List Sp) (a : Nat) (out : List Pr) : Nat → List Pr
  | 0 => out
  | m + 1 => gStep xs (gRowP xs a out m) a (a + 1 + m)
def gAllP (xs : List Sp) : Nat → List Pr
  | 0 => []
  | k + 1 => gRowP xs k (gAllP xs k) (xs.length - (k + 1))
def greedy (xs : List Sp) : List Pr := if 16 < xs.length then [] else gAllP xs xs.length
theorem gStep_le (xs : List Sp) (out : List Pr) (a b : Nat) : (gStep xs out a b).length ≤ out.length + 1 := by
  unfold gStep; split <;> simp
theorem gRowP_le (xs : List Sp) (a : Nat) (out : List Pr) : ∀ m, (gRowP xs a out m).length ≤ out.length + m
  | 0 => Nat.le_refl _
  | m + 1 => by have := gRowP_le xs a out m; have := gStep_le xs (gRowP xs a out m) a (a + 1 + m); rw [gRowP]; omega
theorem gAllP_le (xs : List Sp) (h : xs.length ≤ 16) : ∀ k, (gAllP xs k).length ≤ k * 16
  | 0 => Nat.le_refl _
  | k + 1 => by have := gAllP_le xs h k; have := gRowP_le xs k (gAllP xs k) (xs.length - (k + 1)); rw [gAllP]; omega
theorem greedy_le (xs : List Sp) : (greedy xs).length ≤ 256 := by
  unfold greedy
  split
  · simp
  · have := gAllP_le xs (by omega) xs.length; omega
theorem eqcT (x y : Int) : ((x == y) = true ∧ (x != y) = false) ∨ ((x == y) = false ∧ (x != y) = true) := by
  by_cases h : x = y
  · exact .inl ⟨by simpa using h, by simpa using h⟩
  · exact .inr ⟨by simpa using h, by simpa using h⟩
theorem ltcT (x y : Int) : (x ≤ y ∧ decide (x ≤ y) = true) ∨ (¬ x ≤ y ∧ decide (x ≤ y) = false) := by
  by_cases h : x ≤ y
  · exact .inl ⟨h, by simpa using h⟩
  · exact .inr ⟨h, by simpa using h⟩
theorem i_taken1 (a b i : Int) (r : Bool) (hr : hitP ⟨a, b⟩ i = r) (g : Nat) (w : World) (hg : g < w.heap.size) (hc : w.cell? ⟨g, 0, none⟩ = some (.int .i64 i)) : Calls Try.prog 121 #[.agg #[.int .i64 a, .int .i64 b], .pointer (some ⟨g, 0, none⟩)] w fun e w' => e = .returned (.bool r) ∧ Below w.heap.size w w' := by
  have HR := Lib.hid hr; clear hr
  rcases eqcT a i with ⟨b1, b2⟩ | ⟨b1, b2⟩
  · (have hall := all_nil w; go_enter Try.func121, Try.ntmps121)
    go_wp2
    all_goals go_ret
    all_goals exact ⟨by rw [← HR.out]; simp [hitP, b1], by exact bel⟩
  · rcases eqcT b i with ⟨b3, b4⟩ | ⟨b3, b4⟩
    all_goals (have hall := all_nil w; go_enter Try.func121, Try.ntmps121)
    all_goals go_wp2
    all_goals go_ret
    all_goals exact ⟨by rw [← HR.out]; simp [hitP, b1, b3], by exact bel⟩
def IdxOfT (b : Bool) (w : World) (e : Ending) (w' : World) : Prop := ∃ i : Int, e = .returned (.int .i64 i) ∧ decide (0 ≤ i) = b ∧ Below w.heap.size w w'
set_option maxHeartbeats 1600000 in
theorem i_IndexTaken (va : Value) (xs : List Pr) (i0 : Int) (gq : Nat) (w : World) (ha : PrAt w va xs) (hg : gq < w.heap.size) (hc : w.cell? ⟨gq, 0, none⟩ = some (.int .i64 i0)) : Calls Try.prog 130 #[va, .func (Fn.func 121) #[] #[.pointer (some ⟨gq, 0, none⟩)]] w (IdxOfT (takenB xs i0) w) := by
  obtain ⟨ao, ca, rfl, _, hm, hra⟩ := PrAt.open ha
  have hle : xs.length ≤ 9223372036854775807 := by unfold maxLen at hm; omega
  have HA := Lib.hid hra
  clear ha hm hra
  (have hall := all_nil w; go_enter Try.func130, Try.ntmps130)
  go_wp2_with (first | (with_reducible refine wp_region_grew2 (by kernel_rfl) (by kernel_rfl) ?_; intro w2 hb; (first | have hn := nw4 hb hall (by exact zo) | have hn := nw3 hb hall (by exact zo) | have hn := nw2 hb hall (by exact zo) | have hn := nw1 hb hall (by exact zo) | have hn := nw0 hb hall (by exact zo)); obtain ⟨hc, hf, hn, hc0⟩ := hn; replace hall := hn; clear hn; have hz := hb.size; (try simp only [World.size_alloc, World.size_setCell, World.size_drew] at hz); have hx := hall; (try simp only [allLt, and_true] at hx); obtain ⟨w1, rfl⟩ : ∃ x, x = w2 := ⟨_, rfl⟩; (repeat (go_big_quiet_step (fail))); refine wpQuiet_nil ?_; intro w2 hw'; have hb := grew_below hw'; clear hw'; (first | have hn := nw4 hb hall (by exact zo) | have hn := nw3 hb hall (by exact zo) | have hn := nw2 hb hall (by exact zo) | have hn := nw1 hb hall (by exact zo) | have hn := nw0 hb hall (by exact zo)); obtain ⟨hc, hf, hn, hc0⟩ := hn; replace hall := hn; clear hn; have hz := hb.size; (try simp only [World.size_alloc, World.size_setCell, World.size_drew] at hz); have hx := hall; (try simp only [allLt, and_true] at hx); obtain ⟨w1, rfl⟩ : ∃ x, x = w2 := ⟨_, rfl⟩))
  go_loopw [8] (fun i wr => ∃ k : Nat, k ≤ xs.length ∧ i = .int .i64 k ∧ takenTo xs i0 k = false ∧ Below w.heap.size w wr ∧ wr.cell? ⟨gq, 0, none⟩ = some (.int .i64 i0) ∧ gq < wr.heap.size) (fun i _ => xs.length - (intOf i).toNat)
  case atStart => exact ⟨0, Nat.zero_le _, rfl, rfl, by exact bel, by go_simp, by go_simp⟩
  case round =>
    obtain ⟨k, hk, rfl, hn, hbel, q0, xw⟩ := hrel
    have HN := Lib.hid hn; have HB := Lib.hid hbel; have hsz := hbel.size
    clear hn
    obtain ⟨wo, rfl⟩ : ∃ x, x = wr := ⟨_, rfl⟩
    by_cases hlt : k < xs.length
    · have hlt' : (k : Int) < xs.length := by omega
      obtain ⟨y, hy⟩ := getx hlt
      obtain ⟨g, o, rfl, hg2, c0, c1⟩ := HA.out k y hy
      have HS := Lib.hid (takenTo_succ (i := i0) hy)
      have HY := Lib.hid (getD_of (d := default) hy)
      replace c0 := (hbel.cell (p := ⟨g, o + k * 2, none⟩) hg2).trans c0
      replace c1 := (hbel.cell (p := ⟨g, o + k * 2 + 1, none⟩) hg2).trans c1
      have xg : g < wo.heap.size := by omega
      clear hy hbel
      obtain ⟨ya, yb⟩ := y
      dsimp only at c0 c1
      cases hq : hitP ⟨ya, yb⟩ i0
      · go_wp2_with (first | (go_at_call 121; (refine (i_taken1 ya yb i0 _ hq gq _ (by first | assumption | omega) (by go_simp)).mono ?_; rintro e w2 ⟨rfl, hb⟩; have kwa_gq_0 : w2.cell? ⟨gq, 0, none⟩ = some (.int .i64 i0) := kc hb; have xwa_gq : gq < w2.heap.size := xc hb; have hzwa := hb.size; (try simp only [World.size_alloc, World.size_setCell, World.size_drew] at hzwa); have HB1 := Lib.hid hb; obtain ⟨wa, rfl⟩ : ∃ x, x = w2 := ⟨_, rfl⟩)))
        go_roundw
        case rel => exact ⟨k + 1, by omega, by go_num, by rw [HS.out, HN.out, hq]; rfl, by (have hB := HB.out; have hB1 := HB1.out; exact bel), by assumption, by assumption⟩
        case measure => simp [intOf]; omega
      · go_wp2_with (first | (go_at_call 121; (refine (i_taken1 ya yb i0 _ hq gq _ (by first | assumption | omega) (by go_simp)).mono ?_; rintro e w2 ⟨rfl, hb⟩; have kwa_gq_0 : w2.cell? ⟨gq, 0, none⟩ = some (.int .i64 i0) := kc hb; have xwa_gq : gq < w2.heap.size := xc hb; have hzwa := hb.size; (try simp only [World.size_alloc, World.size_setCell, World.size_drew] at hzwa); have HB1 := Lib.hid hb; obtain ⟨wa, rfl⟩ : ∃ x, x = w2 := ⟨_, rfl⟩)))
        go_ret
        have hB := HB.out; have hB1 := HB1.out
        exact ⟨k, rfl, by rw [show takenB xs i0 = true from takenTo_true hlt (by rw [HY.out]; exact hq)]; simp, by exact bel⟩
    · have hlt' : ¬ (k : Int) < xs.length := by omega
      obtain rfl : k = xs.length := by omega
      go_wp2_with (first | (with_reducible refine wp_region_grew2 (by kernel_rfl) (by kernel_rfl) ?_; intro w2 hb; (first | have hn := nw4 hb hall (by exact zo) | have hn := nw3 hb hall (by exact zo) | have hn := nw2 hb hall (by exact zo) | have hn := nw1 hb hall (by exact zo) | have hn := nw0 hb hall (by exact zo)); obtain ⟨hc, hf, hn, hc0⟩ := hn; replace hall := hn; clear hn; have hz := hb.size; (try simp only [World.size_alloc, World.size_setCell, World.size_drew] at hz); have hx := hall; (try simp only [allLt, and_true] at hx); obtain ⟨w1, rfl⟩ : ∃ x, x = w2 := ⟨_, rfl⟩; (repeat (go_big_quiet_step (fail))); refine wpQuiet_nil ?_; intro w2 hw'; have hb := grew_below hw'; clear hw'; (first | have hn := nw4 hb hall (by exact zo) | have hn := nw3 hb hall (by exact zo) | have hn := nw2 hb hall (by exact zo) | have hn := nw1 hb hall (by exact zo) | have hn := nw0 hb hall (by exact zo)); obtain ⟨hc, hf, hn, hc0⟩ := hn; replace hall := hn; clear hn; have hz := hb.size; (try simp only [World.size_alloc, World.size_setCell, World.size_drew] at hz); have hx := hall; (try simp only [allLt, and_true] at hx); obtain ⟨w1, rfl⟩ : ∃ x, x = w2 := ⟨_, rfl⟩))
      all_goals go_ret
      all_goals (have hB := HB.out; exact ⟨-1, rfl, by rw [show takenB xs i0 = false from HN.out]; rfl, by exact bel⟩)
theorem i_ContainsTaken (va : Value) (xs : List Pr) (i0 : Int) (gq : Nat) (w : World) (ha : PrAt w va xs) (hg : gq < w.heap.size) (hc : w.cell? ⟨gq, 0, none⟩ = some (.int .i64 i0)) : Calls Try.prog 120 #[va, .func (Fn.func 121) #[] #[.pointer (some ⟨gq, 0, none⟩)]] w fun e w' => e = .returned (.bool (takenB xs i0)) ∧ Below w.heap.size w w' := by
  have HA := Lib.hid ha; clear ha
  (have hall := all_nil w; go_enter Try.func120, Try.ntmps120)
  go_wp2_with fail
  refine (i_IndexTaken va xs i0 gq _ (HA.out.below (by exact bel)) (by first | assumption | exact zt) (by go_simp)).mono ?_
  rintro e w2 ⟨i, rfl, hi, hb⟩
  have HI := Lib.hid hi; have HB := Lib.hid hb; clear hi hb
  rcases ltcT 0 i with ⟨b1, b2⟩ | ⟨b1, b2⟩
  all_goals go_wp2
  all_goals go_ret
  all_goals (have hB := HB.out; exact ⟨by rw [← HI.out, b2]; rfl, by exact bel⟩)
theorem i_taken (va : Value) (xs : List Pr) (i0 : Int) (r : Bool) (hr : takenB xs i0 = r) (w : World) (ha : PrAt w va xs) : Calls Try.prog 91 #[va, .int .i64 i0] w fun e w' => e = .returned (.bool r) ∧ Below w.heap.size w w' := by
  have HA := Lib.hid ha; clear ha
  subst hr
  (have hall := all_nil w; go_enter Try.func91, Try.ntmps91)
  go_wp2_with fail
  refine (i_ContainsTaken va xs i0 _ _ (HA.out.below (by exact bel)) (by exact zt) (by go_simp)).mono ?_
  rintro e w2 ⟨rfl, hb⟩
  have HB := Lib.hid hb; clear hb
  go_wp2
  all_goals go_ret
  all_goals (have hB := HB.out; exact ⟨rfl, by exact bel⟩)

end Go.Proofs.Ytkdafincnmkjnaa
