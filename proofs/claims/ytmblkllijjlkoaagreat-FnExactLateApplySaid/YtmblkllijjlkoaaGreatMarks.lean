/-
  The marks of the laws, as plain lists.
-/
import Derived.Test.YtmblkllijjlkoaaGreatMem
set_option linter.unusedVariables false
set_option linter.unusedSimpArgs false
namespace Go.Proofs.YtmblkllijjlkoaaGreat
open Go.RowKit
variable {α : Type} {mk : Int → α} {s k : Int} {xs : List α} {j : Nat}
def marksG (mk : Int → α) (s k : Int) (n : Nat) : List α := (List.range n).map fun (i : Nat) => mk (k + s * (i : Int))
theorem marksG_len (mk : Int → α) (s k : Int) (n : Nat) : (marksG mk s k n).length = n := by simp [marksG]
theorem marksG_get (mk : Int → α) (s k : Int) {n i : Nat} (h : i < n) : (marksG mk s k n)[i]? = some (mk (k + s * i)) := by
  rw [List.getElem?_eq_getElem (by rw [marksG_len]; exact h)]; simp [marksG]
def mixG (mk : Int → α) (s k : Int) (xs : List α) (j : Nat) : List α := marksG mk s k j ++ xs.drop j
theorem mixG_len (h : j ≤ xs.length) : (mixG mk s k xs j).length = xs.length := by simp [mixG, marksG_len]; omega
theorem mixG_set (h : j < xs.length) : (mixG mk s k xs j).set j (mk (k + s * j)) = mixG mk s k xs (j + 1) := by
  unfold mixG
  rw [List.set_append_right _ _ (by rw [marksG_len]; exact Nat.le_refl _), marksG_len, Nat.sub_self, List.drop_eq_getElem_cons h, List.set_cons_zero]
  simp [marksG, List.range_succ]
theorem mixG_full (mk : Int → α) (s k : Int) (xs : List α) : mixG mk s k xs xs.length = marksG mk s k xs.length := by simp [mixG]
end Go.Proofs.YtmblkllijjlkoaaGreat
