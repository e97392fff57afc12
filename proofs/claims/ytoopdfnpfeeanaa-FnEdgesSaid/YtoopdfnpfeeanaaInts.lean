/-
  Slices of ints of the call's own.
-/
import Derived.Test.YtoopdfnpfeeanaaScal
import Derived.Test.YtoopdfnpfeeanaaOwn
set_option linter.unusedVariables false
set_option linter.unusedSimpArgs false
namespace Go.Proofs.Ytoopdfnpfeeanaa
open Go.RowKit
theorem elemInt : ElemT Try.prog 37 3 (.int .i64 0) 1 8 := ⟨Try.underlying37, info_parts (by kernel_rfl), rfl, by decide⟩
def fInt (x : Int) : List Value := [.int .i64 x]
theorem lenInt : LenK 1 fInt := fun _ => rfl
theorem oneInt : ∀ y : Int, ∀ u ∈ fInt y, u.oneCell' = true := fun y u hu => by simp [fInt] at hu; subst hu; rfl
abbrev OwnI (B : Nat) (w : World) (v : Value) (xs : List Int) : Prop := Own 3 1 fInt B w v xs
theorem intCell (w : World) (x : Int) : ∀ j u, (fInt x)[j]? = some u → (w.alloc (.cells #[.int .i64 x] 3)).cell? ⟨w.heap.size, j, none⟩ = some u := by
  intro j u hj
  match j, hj with
  | 0, hj => simp [fInt] at hj; subst hj; go_simp
  | j + 1, hj => simp [fInt] at hj

theorem OwnI.readI {B : Nat} {w : World} {v : Value} {xs : List Int} (h : OwnI B w v xs) : ∃ ao cap, v = .slice ao xs.length cap ∧ xs.length ≤ cap ∧ cap ≤ maxLen ∧
    ∀ i, i < xs.length → ∃ g, ao = some ⟨g, 0, none⟩ ∧ B ≤ g ∧ g < w.heap.size ∧ (∀ o, w.frozen? ⟨g, o, none⟩ = false) ∧ w.cell? ⟨g, i, none⟩ = some (.int .i64 (xs.getD i 0)) := by
  obtain ⟨ao, cap, rfl, hc, hm, hr⟩ := h.read lenInt
  refine ⟨ao, cap, rfl, hc, hm, fun i hi => ?_⟩
  obtain ⟨g, rfl, hB, hg, hf, hcell⟩ := hr i hi
  refine ⟨g, rfl, hB, hg, hf, ?_⟩
  have := hcell 0 (by omega)
  simp only [Nat.mul_one, Nat.add_zero, fInt, List.getElem?_cons_zero] at this
  rw [this, List.getD_eq_getElem?_getD, List.getElem?_eq_getElem hi, Option.getD_some]
/-- What a call that hands back a slice of ints of its own leaves. -/
def NewInts (w : World) (xs : List Int) (e : Ending) (w' : World) : Prop := ∃ v, e = .returned v ∧ OwnI w.heap.size w' v xs ∧ Below w.heap.size w w'
def freeTo (b : Int) : Nat → List Int
  | 0 => []
  | k + 1 => freeTo b k ++ if hasSlot b k then [] else [(k : Int)]
theorem freeTo_le (b : Int) (k : Nat) : (freeTo b k).length ≤ k := by
  induction k with
  | zero => exact Nat.le_refl _
  | succ k ih => simp only [freeTo, List.length_append]; split <;> simp <;> omega
def freeSlots (n b : Int) : List Int := if bitmapOk n b then freeTo b n.toNat else []
theorem i_FreeSlots (n b : Int) (w : World) : Calls Try.prog 54 #[.int .i64 n, .int .i64 b] w (NewInts w (freeSlots n b)) := by
  cases h : bitmapOk n b
  · (have hall := all_nil w; go_enter Try.func54, Try.ntmps54)
    go_wp2_with (first | (go_at_call 72; (first | (refine (i_BitmapOk _ _ true (by assumption) _).mono ?_) | (refine (i_BitmapOk _ _ false (by assumption) _).mono ?_) | (refine (i_BitmapOk _ _ _ rfl _).mono ?_)); rintro e w2 ⟨rfl, rfl⟩) | (go_at_call 60; (first | (refine (i_HasSlot _ _ true (by assumption) _).mono ?_) | (refine (i_HasSlot _ _ false (by assumption) _).mono ?_) | (refine (i_HasSlot _ _ _ rfl _).mono ?_)); rintro e w2 ⟨rfl, rfl⟩))
    go_ret
    exact ⟨_, rfl, by simp only [freeSlots, h]; exact Own.nil _ _ _ _ _, Below.refl _ _⟩
  · have hb := h
    simp only [bitmapOk, Bool.and_eq_true, between_iff] at hb
    obtain ⟨m, rfl⟩ := Int.eq_ofNat_of_zero_le (show 0 ≤ n by omega)
    have H : Hid (freeSlots (m : Int) b = freeTo b m) := by unfold Hid; simp [freeSlots, h]
    have hm : m ≤ 16 := by omega
    clear hb
    (have hall := all_nil w; go_enter Try.func54, Try.ntmps54)
    go_wp2_with (first | (go_at_call 72; (first | (refine (i_BitmapOk _ _ true (by assumption) _).mono ?_) | (refine (i_BitmapOk _ _ false (by assumption) _).mono ?_) | (refine (i_BitmapOk _ _ _ rfl _).mono ?_)); rintro e w2 ⟨rfl, rfl⟩) | (go_at_call 60; (first | (refine (i_HasSlot _ _ true (by assumption) _).mono ?_) | (refine (i_HasSlot _ _ false (by assumption) _).mono ?_) | (refine (i_HasSlot _ _ _ rfl _).mono ?_)); rintro e w2 ⟨rfl, rfl⟩))
    go_loopw [5, 6] (fun o i wr => ∃ k : Nat, k ≤ m ∧ i = .int .i64 k ∧ OwnI w.heap.size wr o (freeTo b k) ∧ Below w.heap.size w wr) (fun _ i _ => m - (intOf i).toNat)
    case atStart => exact ⟨0, Nat.zero_le _, rfl, Own.empty _ _ _ _ _ (Nat.le_refl _), (Below.refl _ _).alloc (Nat.le_refl _) _⟩
    case round =>
      obtain ⟨k, hk, rfl, hown, hbel⟩ := hrel
      have HO := Lib.hid hown; have HB := Lib.hid hbel; have hsz := hbel.size
      clear hown hbel
      by_cases hlt : k < m
      · have hlt' : (k : Int) < m := by omega
        have hle := freeTo_le b k
        have hs : Hid (freeTo b (k + 1) = freeTo b k ++ if hasSlot b k then [] else [(k : Int)]) := rfl
        cases hh : hasSlot b k
        · go_wp2_with (first | (at_builtin; refine append1 elemInt rfl _ _ rfl lenInt oneInt rfl (HO.out.alloc _) (by simp only [World.size_alloc]; omega) rfl (k : Int) (intCell _ _) (by unfold maxLen; omega) ?_; intro v2 w2 hown2 _ hb2) | (go_at_call 72; (first | (refine (i_BitmapOk _ _ true (by assumption) _).mono ?_) | (refine (i_BitmapOk _ _ false (by assumption) _).mono ?_) | (refine (i_BitmapOk _ _ _ rfl _).mono ?_)); rintro e w2 ⟨rfl, rfl⟩) | (go_at_call 60; (first | (refine (i_HasSlot _ _ true (by assumption) _).mono ?_) | (refine (i_HasSlot _ _ false (by assumption) _).mono ?_) | (refine (i_HasSlot _ _ _ rfl _).mono ?_)); rintro e w2 ⟨rfl, rfl⟩))
          go_roundw
          case rel => exact ⟨k + 1, by omega, by go_num, by rw [hs.out, hh]; exact hown2, ((HB.out.alloc hsz _).trans hb2)⟩
          case measure => simp [intOf]; omega
        · go_wp2_with (first | (at_builtin; refine append1 elemInt rfl _ _ rfl lenInt oneInt rfl (HO.out.alloc _) (by simp only [World.size_alloc]; omega) rfl (k : Int) (intCell _ _) (by unfold maxLen; omega) ?_; intro v2 w2 hown2 _ hb2) | (go_at_call 72; (first | (refine (i_BitmapOk _ _ true (by assumption) _).mono ?_) | (refine (i_BitmapOk _ _ false (by assumption) _).mono ?_) | (refine (i_BitmapOk _ _ _ rfl _).mono ?_)); rintro e w2 ⟨rfl, rfl⟩) | (go_at_call 60; (first | (refine (i_HasSlot _ _ true (by assumption) _).mono ?_) | (refine (i_HasSlot _ _ false (by assumption) _).mono ?_) | (refine (i_HasSlot _ _ _ rfl _).mono ?_)); rintro e w2 ⟨rfl, rfl⟩))
          go_roundw
          case rel => exact ⟨k + 1, by omega, by go_num, by rw [hs.out, hh]; simpa using HO.out, HB.out⟩
          case measure => simp [intOf]; omega
      · have hlt' : ¬ (k : Int) < m := by omega
        obtain rfl : k = m := by omega
        go_wp2_with (first | (go_at_call 72; (first | (refine (i_BitmapOk _ _ true (by assumption) _).mono ?_) | (refine (i_BitmapOk _ _ false (by assumption) _).mono ?_) | (refine (i_BitmapOk _ _ _ rfl _).mono ?_)); rintro e w2 ⟨rfl, rfl⟩) | (go_at_call 60; (first | (refine (i_HasSlot _ _ true (by assumption) _).mono ?_) | (refine (i_HasSlot _ _ false (by assumption) _).mono ?_) | (refine (i_HasSlot _ _ _ rfl _).mono ?_)); rintro e w2 ⟨rfl, rfl⟩))
        go_ret
        exact ⟨_, rfl, by rw [H.out]; exact HO.out, HB.out⟩

theorem s_FreeSlots (n b : Int) (w : World) : Calls Try.prog 53 #[.int .i64 n, .int .i64 b] w (NewInts w (freeSlots n b)) := by
  cases h : bitmapOk n b
  · (have hall := all_nil w; go_enter Try.func53, Try.ntmps53)
    go_wp2_with (first | (go_at_call 75; (first | (refine (s_BitmapOk _ _ true (by assumption) _).mono ?_) | (refine (s_BitmapOk _ _ false (by assumption) _).mono ?_) | (refine (s_BitmapOk _ _ _ rfl _).mono ?_)); rintro e w2 ⟨rfl, rfl⟩) | (go_at_call 33; (first | (refine (s_HasSlot _ _ true (by assumption) _).mono ?_) | (refine (s_HasSlot _ _ false (by assumption) _).mono ?_) | (refine (s_HasSlot _ _ _ rfl _).mono ?_)); rintro e w2 ⟨rfl, rfl⟩))
    refine wp_loop_rounds 1 ?_
    rw [rounds_succ]
    go_wp2_with (first | (go_at_call 75; (first | (refine (s_BitmapOk _ _ true (by assumption) _).mono ?_) | (refine (s_BitmapOk _ _ false (by assumption) _).mono ?_) | (refine (s_BitmapOk _ _ _ rfl _).mono ?_)); rintro e w2 ⟨rfl, rfl⟩) | (go_at_call 33; (first | (refine (s_HasSlot _ _ true (by assumption) _).mono ?_) | (refine (s_HasSlot _ _ false (by assumption) _).mono ?_) | (refine (s_HasSlot _ _ _ rfl _).mono ?_)); rintro e w2 ⟨rfl, rfl⟩))
    all_goals go_ret
    all_goals exact ⟨_, rfl, by simp only [freeSlots, h]; exact Own.empty _ _ _ _ _ (Nat.le_refl _), (Below.refl _ _).alloc (Nat.le_refl _) _⟩
  · have hb := h
    simp only [bitmapOk, Bool.and_eq_true, between_iff] at hb
    obtain ⟨m, rfl⟩ := Int.eq_ofNat_of_zero_le (show 0 ≤ n by omega)
    have H : Hid (freeSlots (m : Int) b = freeTo b m) := by unfold Hid; simp [freeSlots, h]
    have hm : m ≤ 16 := by omega
    clear hb
    (have hall := all_nil w; go_enter Try.func53, Try.ntmps53)
    go_wp2_with (first | (go_at_call 75; (first | (refine (s_BitmapOk _ _ true (by assumption) _).mono ?_) | (refine (s_BitmapOk _ _ false (by assumption) _).mono ?_) | (refine (s_BitmapOk _ _ _ rfl _).mono ?_)); rintro e w2 ⟨rfl, rfl⟩) | (go_at_call 33; (first | (refine (s_HasSlot _ _ true (by assumption) _).mono ?_) | (refine (s_HasSlot _ _ false (by assumption) _).mono ?_) | (refine (s_HasSlot _ _ _ rfl _).mono ?_)); rintro e w2 ⟨rfl, rfl⟩))
    go_loopw [5, 6] (fun o i wr => ∃ k : Nat, k ≤ m ∧ i = .int .i64 k ∧ OwnI w.heap.size wr o (freeTo b k) ∧ Below w.heap.size w wr) (fun _ i _ => m - (intOf i).toNat)
    case atStart => exact ⟨0, Nat.zero_le _, rfl, Own.empty _ _ _ _ _ (Nat.le_refl _), (Below.refl _ _).alloc (Nat.le_refl _) _⟩
    case round =>
      obtain ⟨k, hk, rfl, hown, hbel⟩ := hrel
      have HO := Lib.hid hown; have HB := Lib.hid hbel; have hsz := hbel.size
      clear hown hbel
      by_cases hlt : k < m
      · have hlt' : (k : Int) < m := by omega
        have hle := freeTo_le b k
        have hs : Hid (freeTo b (k + 1) = freeTo b k ++ if hasSlot b k then [] else [(k : Int)]) := rfl
        cases hh : hasSlot b k
        · go_wp2_with (first | (at_builtin; refine append1 elemInt rfl _ _ rfl lenInt oneInt rfl (HO.out.alloc _) (by simp only [World.size_alloc]; omega) rfl (k : Int) (intCell _ _) (by unfold maxLen; omega) ?_; intro v2 w2 hown2 _ hb2) | (go_at_call 75; (first | (refine (s_BitmapOk _ _ true (by assumption) _).mono ?_) | (refine (s_BitmapOk _ _ false (by assumption) _).mono ?_) | (refine (s_BitmapOk _ _ _ rfl _).mono ?_)); rintro e w2 ⟨rfl, rfl⟩) | (go_at_call 33; (first | (refine (s_HasSlot _ _ true (by assumption) _).mono ?_) | (refine (s_HasSlot _ _ false (by assumption) _).mono ?_) | (refine (s_HasSlot _ _ _ rfl _).mono ?_)); rintro e w2 ⟨rfl, rfl⟩))
          go_roundw
          case rel => exact ⟨k + 1, by omega, by go_num, by rw [hs.out, hh]; exact hown2, ((HB.out.alloc hsz _).trans hb2)⟩
          case measure => simp [intOf]; omega
        · go_wp2_with (first | (at_builtin; refine append1 elemInt rfl _ _ rfl lenInt oneInt rfl (HO.out.alloc _) (by simp only [World.size_alloc]; omega) rfl (k : Int) (intCell _ _) (by unfold maxLen; omega) ?_; intro v2 w2 hown2 _ hb2) | (go_at_call 75; (first | (refine (s_BitmapOk _ _ true (by assumption) _).mono ?_) | (refine (s_BitmapOk _ _ false (by assumption) _).mono ?_) | (refine (s_BitmapOk _ _ _ rfl _).mono ?_)); rintro e w2 ⟨rfl, rfl⟩) | (go_at_call 33; (first | (refine (s_HasSlot _ _ true (by assumption) _).mono ?_) | (refine (s_HasSlot _ _ false (by assumption) _).mono ?_) | (refine (s_HasSlot _ _ _ rfl _).mono ?_)); rintro e w2 ⟨rfl, rfl⟩))
          go_roundw
          case rel => exact ⟨k + 1, by omega, by go_num, by rw [hs.out, hh]; simpa using HO.out, HB.out⟩
          case measure => simp [intOf]; omega
      · have hlt' : ¬ (k : Int) < m := by omega
        obtain rfl : k = m := by omega
        go_wp2_with (first | (go_at_call 75; (first | (refine (s_BitmapOk _ _ true (by assumption) _).mono ?_) | (refine (s_BitmapOk _ _ false (by assumption) _).mono ?_) | (refine (s_BitmapOk _ _ _ rfl _).mono ?_)); rintro e w2 ⟨rfl, rfl⟩) | (go_at_call 33; (first | (refine (s_HasSlot _ _ true (by assumption) _).mono ?_) | (refine (s_HasSlot _ _ false (by assumption) _).mono ?_) | (refine (s_HasSlot _ _ _ rfl _).mono ?_)); rintro e w2 ⟨rfl, rfl⟩))
        go_ret
        exact ⟨_, rfl, by rw [H.out]; exact HO.out, HB.out⟩

end Go.Proofs.Ytoopdfnpfeeanaa
