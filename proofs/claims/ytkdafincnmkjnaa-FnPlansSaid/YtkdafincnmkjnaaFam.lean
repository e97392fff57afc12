/-
  The laws' functions on slices of ints, bools, entries: their size, a copy of the call's own, equal, marked, held.
-/
import Derived.Test.YtkdafincnmkjnaaKDef
set_option linter.unusedVariables false
set_option linter.unusedSimpArgs false
namespace Go.Proofs.Ytkdafincnmkjnaa
open Go.RowKit
theorem zeroInt : fInt 0 = (Value.int .i64 0).cells.toList := rfl


end Go.Proofs.Ytkdafincnmkjnaa
