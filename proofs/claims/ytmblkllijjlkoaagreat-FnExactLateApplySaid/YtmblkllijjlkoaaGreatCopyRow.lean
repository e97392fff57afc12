/-
  A row into which cells of another are copied: plain lists.
-/
import Derived.Test.YtmblkllijjlkoaaGreatMem
set_option linter.unusedVariables false
set_option linter.unusedSimpArgs false
namespace Go.Proofs.YtmblkllijjlkoaaGreat
def copyRow (ra rb cs : List Int) : List Int := cs.foldl (fun r c => r.set c.toNat (ra.getD c.toNat 0)) rb
theorem copyRow_snoc {ra rb cs : List Int} {j : Nat} {c : Int} (h : cs[j]? = some c) : copyRow ra rb (cs.take (j + 1)) = (copyRow ra rb (cs.take j)).set c.toNat (ra.getD c.toNat 0) := by
  unfold copyRow; rw [take_snoc h, List.foldl_append]; rfl
theorem copyRow_len (ra rb cs : List Int) : (copyRow ra rb cs).length = rb.length := by
  unfold copyRow
  induction cs generalizing rb with
  | nil => rfl
  | cons c cs ih => rw [List.foldl_cons, ih]; simp
theorem set_same (r : List Int) (i : Nat) : r.set i (r.getD i 0) = r := by
  by_cases h : i < r.length
  · rw [List.getD_eq_getElem?_getD, List.getElem?_eq_getElem h, Option.getD_some, List.set_getElem_self]
  · rw [List.set_eq_of_length_le (by omega)]
theorem copyRow_self (ra cs : List Int) : copyRow ra ra cs = ra := by
  unfold copyRow
  induction cs with
  | nil => rfl
  | cons c cs ih => rw [List.foldl_cons, set_same]; exact ih
end Go.Proofs.YtmblkllijjlkoaaGreat
