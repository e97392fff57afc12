/-
  The number of meshable pairs: its bound, and that it grows.
-/
import Derived.Test.YtkdafincnmkjnaaGroupE
import Derived.Test.YtkdafincnmkjnaaDraw5
import Derived.Test.YtkdafincnmkjnaaFrameB
set_option linter.unusedVariables false
set_option linter.unusedSimpArgs false
namespace Go.Proofs.Ytkdafincnmkjnaa
open Go.RowKit
theorem eTo_half (xs : List Sp) : ∀ k : Nat, 0 ≤ eTo xs k ∧ 2 * eTo xs k ≤ (k : Int) * ((k : Int) - 1)
  | 0 => by simp [eTo]
  | k + 1 => by
    have h1 := eTo_half xs k
    have h2 := eRow_le xs k k
    have e : ((k + 1 : Nat) : Int) * (((k + 1 : Nat) : Int) - 1) = (k : Int) * ((k : Int) - 1) + 2 * k := by
      rw [Int.natCast_add, Int.natCast_one, Int.add_sub_cancel, Int.add_mul, Int.mul_sub, Int.mul_one, Int.one_mul]; omega
    rw [e, eTo]; omega
theorem getD_take (xs : List Sp) (m i : Nat) (h : i < m) : (xs.take m).getD i default = xs.getD i default := by
  rw [List.getD_eq_getElem?_getD, List.getD_eq_getElem?_getD, List.getElem?_take, if_pos h]
theorem eRow_take (xs : List Sp) (m i : Nat) (hi : i < m) : ∀ k, k ≤ m → eRow (xs.take m) i k = eRow xs i k
  | 0, _ => rfl
  | k + 1, h => by rw [eRow, eRow, eRow_take xs m i hi k (by omega), getD_take xs m k (by omega), getD_take xs m i hi]
theorem eTo_take (xs : List Sp) (m : Nat) : ∀ k, k ≤ m → eTo (xs.take m) k = eTo xs k
  | 0, _ => rfl
  | k + 1, h => by rw [eTo, eTo, eTo_take xs m k (by omega), eRow_take xs m k (by omega) k (by omega)]
/-- The two spans of the law, laid in a new block. -/
theorem two_at (w : World) (g : Nat) (hg : g < w.heap.size) (c : ∀ j u, [(0 : Int), 0, 0, 1, 0, 0][j]? = some u → w.cell? ⟨g, j, none⟩ = some (.int .i64 u)) : SpansAt w (.slice (some ⟨g, 0, none⟩) 2 2) [⟨0, 0, 0⟩, ⟨1, 0, 0⟩] := by
  refine ⟨_, _, rfl, Nat.le_refl _, by unfold maxLen; omega, fun i hi => ⟨g, 0, rfl, hg, ?_⟩⟩
  match i, hi with
  | 0, _ => exact ⟨c 0 _ rfl, c 1 _ rfl, c 2 _ rfl⟩
  | 1, _ => exact ⟨c 3 _ rfl, c 4 _ rfl, c 5 _ rfl⟩
theorem i_two (g : Nat) (w : World) (hg : g < w.heap.size) (c : w.cell? ⟨g, 0, none⟩ = some (.int .i64 0) ∧ w.cell? ⟨g, 1, none⟩ = some (.int .i64 0) ∧ w.cell? ⟨g, 2, none⟩ = some (.int .i64 0) ∧ w.cell? ⟨g, 3, none⟩ = some (.int .i64 1) ∧ w.cell? ⟨g, 4, none⟩ = some (.int .i64 0) ∧ w.cell? ⟨g, 5, none⟩ = some (.int .i64 0)) :
    Calls Try.prog 44 #[.slice (some ⟨g, 0, none⟩) 2 2] w fun e w' => e = .returned (.int .i64 1) ∧ Below w.heap.size w w' := by
  have h := i_MeshEdges _ _ (by decide) w (two_at w g hg (fun j u hj => by
    obtain ⟨c0, c1, c2, c3, c4, c5⟩ := c
    match j, hj with
    | 0, hj => simp at hj; subst hj; exact c0
    | 1, hj => simp at hj; subst hj; exact c1
    | 2, hj => simp at hj; subst hj; exact c2
    | 3, hj => simp at hj; subst hj; exact c3
    | 4, hj => simp at hj; subst hj; exact c4
    | 5, hj => simp at hj; subst hj; exact c5
    | j + 6, hj => simp at hj))
  exact h
end Go.Proofs.Ytkdafincnmkjnaa
