/-
  A counted call of a kernel: is it granted?
-/
import Derived.Test.YtmblkllijjlkoaaKCopyK
import Derived.Test.YtmblkllijjlkoaaHas
set_option linter.unusedVariables false
set_option linter.unusedSimpArgs false
namespace Go.Proofs.Ytmblkllijjlkoaa
open Go.RowKit
def grantedB (K : Ker) : Bool := !hasI K.refuse K.calls
abbrev countedK (K : Ker) : Ker := ⟨K.m, K.calls + 1, K.refuse⟩
def NewKB (w : World) (K : Ker) (b : Bool) (e : Ending) (w' : World) : Prop := ∃ y : KV, e = .returned (.tuple #[y.val K.calls, .bool b]) ∧ KOwn w.heap.size w' y K ∧ Below w.heap.size w w'
theorem KOwn.counted {B : Nat} {w : World} {y : KV} {K : Ker} (h : KOwn B w y K) : KOwn B w y (countedK K) := ⟨h.m, h.ref, h.nd⟩

end Go.Proofs.Ytmblkllijjlkoaa
