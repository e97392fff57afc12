/-
  A cut behind a drawn region that makes the box of a struct result: small facts on what lies where. No Go text is named here.
-/
import Derived.Test.YtkdafincnmkjnaaBox
import Derived.Test.YtkdafincnmkjnaaOwnL
set_option linter.unusedVariables false
set_option linter.unusedSimpArgs false
namespace Go.Proofs.Ytkdafincnmkjnaa
open Go.RowKit
theorem touch_setCell {S : List Nat} {w w' : World} {g i : Nat} {v : Value} (h : Touch S w w') (hg : g ∈ S) : Touch S w (w'.setCell ⟨g, i, none⟩ v) :=
  h.trans (grown_touch (r := some g) (grown_setCell (grown_refl w' _) _ _) (fun _ e => by cases e; exact hg))
theorem touch_box {g : Nat} {w w' : World} {i : Nat} {v : Value} (h : Touch [g] w w') : Touch [g] w (w'.setCell ⟨g, i, none⟩ v) := touch_setCell h (by simp)
end Go.Proofs.Ytkdafincnmkjnaa
