/-
  Texts put together: KOk2, KLaw.
-/
import Derived.Test.YtkkebpcclklmcaaGB6
/-
  Tables, machines, kernels: are they valid?
-/
set_option linter.unusedVariables false
set_option linter.unusedSimpArgs false
namespace Go.Proofs.Ytkkebpcclklmcaa
open Go.RowKit
theorem ltc (x y : Int) : (decide (x < y) = true ∧ decide (y ≤ x) = false ∧ x < y) ∨ (decide (x < y) = false ∧ decide (y ≤ x) = true ∧ ¬ x < y) := by
  by_cases h : x < y
  · exact .inl ⟨by simpa using h, by simpa using h, h⟩
  · exact .inr ⟨by simpa using h, by simpa using h, h⟩
theorem lec (x y : Int) : (x ≤ y ∧ decide (x ≤ y) = true ∧ decide (y < x) = false) ∨ (¬ x ≤ y ∧ decide (x ≤ y) = false ∧ decide (y < x) = true) := by
  by_cases h : x ≤ y
  · exact .inl ⟨h, by simpa using h, by simpa using h⟩
  · exact .inr ⟨h, by simpa using h, by simpa using h⟩
theorem eqc (x y : Int) : ((x == y) = true ∧ (x != y) = false) ∨ ((x == y) = false ∧ (x != y) = true) := by
  by_cases h : x = y
  · exact .inl ⟨by simpa using h, by simpa using h⟩
  · exact .inr ⟨by simpa using h, by simpa using h⟩
def entsOk (es : List Ent) (n : Int) (k : Nat) : Bool := allTo (fun i => entOk (es.getD i default) n) k
theorem tableOk_eq (es : List Ent) (n : Int) : tableOk es n = (entsOk es n es.length && between es.length 1 32) := rfl
theorem entsOk_succ {es : List Ent} (n : Int) {k : Nat} {x : Ent} (h : es[k]? = some x) : entsOk es n (k + 1) = (entsOk es n k && entOk x n) := by unfold entsOk; rw [allTo, getD_of h]
theorem entsOk_not {es : List Ent} (n : Int) {k m : Nat} {x : Ent} (hk : k < m) (h : es[k]? = some x) (bad : entOk x n = false) : entsOk es n m = false := allTo_false hk (by rw [getD_of h]; exact bad)
theorem i_TableOk (v : Value) (es : List Ent) (n : Int) (r : Bool) (hr : tableOk es n = r) (w : World) (ha : EntAt w v es) : Calls Try.prog 75 #[.agg #[v], .int .i64 n] w fun e w' => e = .returned (.bool r) ∧ Below w.heap.size w w' := by
  subst hr
  obtain ⟨eo, ec, rfl, h1, h2, hrd⟩ := EntAt.open ha
  have hm : es.length ≤ 9223372036854775807 := by unfold maxLen at h2; omega
  have HE := Lib.hid hrd
  clear ha h1 h2 hrd
  (have hall := all_nil w; go_enter Try.func75, Try.ntmps75)
  go_wp2_with (fail)
  go_loopw [10] (fun i wr => ∃ k : Nat, k ≤ es.length ∧ i = .int .i64 k ∧ entsOk es n k = true ∧ Below w.heap.size w wr ∧ wr.cell? ⟨w.heap.size, 0, none⟩ = some (.slice eo es.length ec) ∧ w.heap.size < wr.heap.size) (fun i _ => es.length - (intOf i).toNat)
  case atStart => exact ⟨0, Nat.zero_le _, rfl, rfl, by exact bel, by go_simp, by go_simp⟩
  case round =>
    obtain ⟨k, hk, rfl, hok, hbel, kbox, xbox⟩ := hrel
    have HK := Lib.hid hok; have HB := Lib.hid hbel; have hsz := hbel.size; clear hok
    by_cases hlt : k < es.length
    · have hlt' : (k : Int) < es.length := by omega
      obtain ⟨x, hx⟩ := getx hlt
      obtain ⟨g, o, rfl, hg, c0, c1⟩ := HE.out k x hx
      have HS := Lib.hid (entsOk_succ n hx)
      have HN := Lib.hid (fun bad => entsOk_not n hlt hx bad)
      replace c0 := (hbel.cell (p := ⟨g, o + k * 2, none⟩) hg).trans c0
      replace c1 := (hbel.cell (p := ⟨g, o + k * 2 + 1, none⟩) hg).trans c1
      clear hx hbel
      obtain ⟨xm, xf⟩ := x
      dsimp only at c0 c1
      (obtain ⟨w1, rfl⟩ : ∃ x, x = wr := ⟨_, rfl⟩; have hall : allLt [g, w.heap.size] w1.heap.size := ⟨by omega, by omega, trivial⟩; have hx := hall; (try simp only [allLt, and_true] at hx))
      cases b1 : between xm 0 2
      · (go_wp2_with ((go_at_call 39; ((refine (i_between _ _ _ false (by assumption) _).mono ?_)); rintro e w2 ⟨rfl, rfl⟩)); all_goals (go_ret; exact ⟨ret_bool (a := false) (by rw [tableOk_eq, HN.out (by simp only [entOk, b1]; simp)]; rfl), by (have hB := HB.out; exact bel)⟩))
      · have b0 := between_iff.1 b1
        rcases ltc xf 0 with ⟨b2, b3, b4⟩ | ⟨b2, b3, b4⟩
        · have b7 : (xf == 0) = false := by simp; omega
          have b8 : (xf != 0) = true := by simp; omega
          rcases eqc xm 0 with ⟨b5, b6⟩ | ⟨b5, b6⟩
          · have b11 : decide (0 < xm) = false := by simp at b5 ⊢; omega
            (go_wp2_with ((go_at_call 39; ((refine (i_between _ _ _ true (by assumption) _).mono ?_)); rintro e w2 ⟨rfl, rfl⟩)); all_goals (go_ret; exact ⟨ret_bool (a := false) (by rw [tableOk_eq, HN.out (by simp only [entOk, b1, b3]; simp)]; rfl), by (have hB := HB.out; exact bel)⟩))
          · have b11 : decide (0 < xm) = true := by simp at b5 ⊢; omega
            (go_wp2_with ((go_at_call 39; ((refine (i_between _ _ _ true (by assumption) _).mono ?_)); rintro e w2 ⟨rfl, rfl⟩)); all_goals (go_ret; exact ⟨ret_bool (a := false) (by rw [tableOk_eq, HN.out (by simp only [entOk, b1, b3]; simp)]; rfl), by (have hB := HB.out; exact bel)⟩))
        · rcases eqc xm 0 with ⟨b5, b6⟩ | ⟨b5, b6⟩
          · have b11 : decide (0 < xm) = false := by simp at b5 ⊢; omega
            rcases eqc xf 0 with ⟨b7, b8⟩ | ⟨b7, b8⟩
            · (go_wp2_with ((go_at_call 39; ((refine (i_between _ _ _ true (by assumption) _).mono ?_)); rintro e w2 ⟨rfl, rfl⟩)); all_goals (go_roundw; (case rel => exact ⟨k + 1, by omega, by go_num, by rw [HS.out, HK.out]; simp only [entOk, b1, b3, b5, b6, b8]; simp, by (have hB := HB.out; exact bel), by go_simp, by (try simp only [World.size_alloc]); omega⟩); (case measure => (simp [intOf]; omega))))
            · (go_wp2_with ((go_at_call 39; ((refine (i_between _ _ _ true (by assumption) _).mono ?_)); rintro e w2 ⟨rfl, rfl⟩)); all_goals (go_ret; exact ⟨ret_bool (a := false) (by rw [tableOk_eq, HN.out (by simp only [entOk, b1, b3, b5, b6, b8]; simp)]; rfl), by (have hB := HB.out; exact bel)⟩))
          · have b11 : decide (0 < xm) = true := by simp at b5 ⊢; omega
            rcases lec n xf with ⟨b9, b10, b12⟩ | ⟨b9, b10, b12⟩
            · (go_wp2_with ((go_at_call 39; ((refine (i_between _ _ _ true (by assumption) _).mono ?_)); rintro e w2 ⟨rfl, rfl⟩)); all_goals (go_ret; exact ⟨ret_bool (a := false) (by rw [tableOk_eq, HN.out (by simp only [entOk, b1, b3, b5, b6, b10]; simp)]; rfl), by (have hB := HB.out; exact bel)⟩))
            · (go_wp2_with ((go_at_call 39; ((refine (i_between _ _ _ true (by assumption) _).mono ?_)); rintro e w2 ⟨rfl, rfl⟩)); all_goals (go_roundw; (case rel => exact ⟨k + 1, by omega, by go_num, by rw [HS.out, HK.out]; simp only [entOk, b1, b3, b5, b6, b10]; simp, by (have hB := HB.out; exact bel), by go_simp, by (try simp only [World.size_alloc]); omega⟩); (case measure => (simp [intOf]; omega))))
    · have hlt' : ¬ (k : Int) < es.length := by omega
      obtain rfl : k = es.length := by omega
      clear hbel
      go_wp2_with ((go_at_call 39; ((refine (i_between _ _ _ _ rfl _).mono ?_)); rintro e w2 ⟨rfl, rfl⟩))
      go_ret
      have hB := HB.out
      exact ⟨ret_bool (by rw [tableOk_eq, HK.out, Bool.true_and]), by exact bel⟩

theorem s_TableOk (v : Value) (es : List Ent) (n : Int) (r : Bool) (hr : tableOk es n = r) (w : World) (ha : EntAt w v es) : Calls Try.prog 71 #[.agg #[v], .int .i64 n] w fun e w' => e = .returned (.bool r) ∧ Below w.heap.size w w' := by
  subst hr
  obtain ⟨eo, ec, rfl, h1, h2, hrd⟩ := EntAt.open ha
  have hm : es.length ≤ 9223372036854775807 := by unfold maxLen at h2; omega
  have HE := Lib.hid hrd
  clear ha h1 h2 hrd
  (have hall := all_nil w; go_enter Try.func71, Try.ntmps71)
  go_wp2_with (fail)
  go_loopw [5] (fun i wr => ∃ k : Nat, k ≤ es.length ∧ i = .int .i64 k ∧ entsOk es n k = true ∧ Below w.heap.size w wr ∧ wr.cell? ⟨w.heap.size, 0, none⟩ = some (.slice eo es.length ec) ∧ w.heap.size < wr.heap.size) (fun i _ => es.length - (intOf i).toNat)
  case atStart => exact ⟨0, Nat.zero_le _, rfl, rfl, by exact bel, by go_simp, by go_simp⟩
  case round =>
    obtain ⟨k, hk, rfl, hok, hbel, kbox, xbox⟩ := hrel
    have HK := Lib.hid hok; have HB := Lib.hid hbel; have hsz := hbel.size; clear hok
    by_cases hlt : k < es.length
    · have hlt' : (k : Int) < es.length := by omega
      obtain ⟨x, hx⟩ := getx hlt
      obtain ⟨g, o, rfl, hg, c0, c1⟩ := HE.out k x hx
      have HS := Lib.hid (entsOk_succ n hx)
      have HN := Lib.hid (fun bad => entsOk_not n hlt hx bad)
      replace c0 := (hbel.cell (p := ⟨g, o + k * 2, none⟩) hg).trans c0
      replace c1 := (hbel.cell (p := ⟨g, o + k * 2 + 1, none⟩) hg).trans c1
      clear hx hbel
      obtain ⟨xm, xf⟩ := x
      dsimp only at c0 c1
      (obtain ⟨w1, rfl⟩ : ∃ x, x = wr := ⟨_, rfl⟩; have hall : allLt [g, w.heap.size] w1.heap.size := ⟨by omega, by omega, trivial⟩; have hx := hall; (try simp only [allLt, and_true] at hx))
      cases b1 : between xm 0 2
      · (go_wp2_with ((go_at_call 47; ((refine (s_l01In _ _ _ false (by assumption) _).mono ?_)); rintro e w2 ⟨rfl, rfl⟩)); all_goals (go_ret; exact ⟨ret_bool (a := false) (by rw [tableOk_eq, HN.out (by simp only [entOk, b1]; simp)]; rfl), by (have hB := HB.out; exact bel)⟩))
      · have b0 := between_iff.1 b1
        rcases ltc xf 0 with ⟨b2, b3, b4⟩ | ⟨b2, b3, b4⟩
        · have b7 : (xf == 0) = false := by simp; omega
          have b8 : (xf != 0) = true := by simp; omega
          rcases eqc xm 0 with ⟨b5, b6⟩ | ⟨b5, b6⟩
          · have b11 : decide (0 < xm) = false := by simp at b5 ⊢; omega
            (go_wp2_with ((go_at_call 47; ((refine (s_l01In _ _ _ true (by assumption) _).mono ?_)); rintro e w2 ⟨rfl, rfl⟩)); all_goals (go_ret; exact ⟨ret_bool (a := false) (by rw [tableOk_eq, HN.out (by simp only [entOk, b1, b3]; simp)]; rfl), by (have hB := HB.out; exact bel)⟩))
          · have b11 : decide (0 < xm) = true := by simp at b5 ⊢; omega
            (go_wp2_with ((go_at_call 47; ((refine (s_l01In _ _ _ true (by assumption) _).mono ?_)); rintro e w2 ⟨rfl, rfl⟩)); all_goals (go_ret; exact ⟨ret_bool (a := false) (by rw [tableOk_eq, HN.out (by simp only [entOk, b1, b3]; simp)]; rfl), by (have hB := HB.out; exact bel)⟩))
        · rcases eqc xm 0 with ⟨b5, b6⟩ | ⟨b5, b6⟩
          · have b11 : decide (0 < xm) = false := by simp at b5 ⊢; omega
            rcases eqc xf 0 with ⟨b7, b8⟩ | ⟨b7, b8⟩
            · (go_wp2_with ((go_at_call 47; ((refine (s_l01In _ _ _ true (by assumption) _).mono ?_)); rintro e w2 ⟨rfl, rfl⟩)); all_goals (go_roundw; (case rel => exact ⟨k + 1, by omega, by go_num, by rw [HS.out, HK.out]; simp only [entOk, b1, b3, b5, b6, b8]; simp, by (have hB := HB.out; exact bel), by go_simp, by (try simp only [World.size_alloc]); omega⟩); (case measure => (simp [intOf]; omega))))
            · (go_wp2_with ((go_at_call 47; ((refine (s_l01In _ _ _ true (by assumption) _).mono ?_)); rintro e w2 ⟨rfl, rfl⟩)); all_goals (go_ret; exact ⟨ret_bool (a := false) (by rw [tableOk_eq, HN.out (by simp only [entOk, b1, b3, b5, b6, b8]; simp)]; rfl), by (have hB := HB.out; exact bel)⟩))
          · have b11 : decide (0 < xm) = true := by simp at b5 ⊢; omega
            rcases lec n xf with ⟨b9, b10, b12⟩ | ⟨b9, b10, b12⟩
            · (go_wp2_with ((go_at_call 47; ((refine (s_l01In _ _ _ true (by assumption) _).mono ?_)); rintro e w2 ⟨rfl, rfl⟩)); all_goals (go_ret; exact ⟨ret_bool (a := false) (by rw [tableOk_eq, HN.out (by simp only [entOk, b1, b3, b5, b6, b10]; simp)]; rfl), by (have hB := HB.out; exact bel)⟩))
            · (go_wp2_with ((go_at_call 47; ((refine (s_l01In _ _ _ true (by assumption) _).mono ?_)); rintro e w2 ⟨rfl, rfl⟩)); all_goals (go_roundw; (case rel => exact ⟨k + 1, by omega, by go_num, by rw [HS.out, HK.out]; simp only [entOk, b1, b3, b5, b6, b10]; simp, by (have hB := HB.out; exact bel), by go_simp, by (try simp only [World.size_alloc]); omega⟩); (case measure => (simp [intOf]; omega))))
    · have hlt' : ¬ (k : Int) < es.length := by omega
      obtain rfl : k = es.length := by omega
      clear hbel
      go_wp2_with ((go_at_call 47; ((refine (s_l01In _ _ _ _ rfl _).mono ?_)); rintro e w2 ⟨rfl, rfl⟩))
      go_ret
      have hB := HB.out
      exact ⟨ret_bool (by rw [tableOk_eq, HK.out, Bool.true_and]), by exact bel⟩

end Go.Proofs.Ytkkebpcclklmcaa
/-
  The laws' functions on frames, tables, machines, kernels: size, copy, equal, marked, held.
-/
set_option linter.unusedVariables false
set_option linter.unusedSimpArgs false
namespace Go.Proofs.Ytkkebpcclklmcaa
open Go.RowKit
def szF (F : Frm) : Nat := F.cells.length + tot F.cells + F.used.length
def szM (M : Mac) : Nat := szF M.f + M.ents.length
def szK (K : Ker) : Nat := szM K.m + K.refuse.length




/-- What a call that hands back frames, a table, a machine, a kernel of its own leaves. -/
def NewF (w : World) (F : Frm) (e : Ending) (w' : World) : Prop := ∃ y : FV, e = .returned y.val ∧ FOwn w.heap.size w' y F ∧ Below w.heap.size w w'
def NewT (w : World) (es : List Ent) (e : Ending) (w' : World) : Prop := ∃ v : Value, e = .returned (.agg #[v]) ∧ OwnEnt w.heap.size w' v es ∧ Below w.heap.size w w'
def NewM (w : World) (M : Mac) (e : Ending) (w' : World) : Prop := ∃ y : MV, e = .returned y.val ∧ MOwn w.heap.size w' y M ∧ Below w.heap.size w w'
def NewK (w : World) (K : Ker) (e : Ending) (w' : World) : Prop := ∃ y : KV, e = .returned (y.val K.calls) ∧ KOwn w.heap.size w' y K ∧ Below w.heap.size w w'
end Go.Proofs.Ytkkebpcclklmcaa
