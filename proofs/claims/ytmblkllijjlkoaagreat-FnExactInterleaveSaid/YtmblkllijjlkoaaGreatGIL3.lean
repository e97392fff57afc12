/-
  Texts put together: Wr.
-/
import Derived.Test.YtmblkllijjlkoaaGreatGIL2
/-
  A writer, where the seat has no slices of writers.
-/
set_option linter.unusedVariables false
set_option linter.unusedSimpArgs false
namespace Go.Proofs.YtmblkllijjlkoaaGreat
open Go.RowKit
end Go.Proofs.YtmblkllijjlkoaaGreat
