/-
  Texts put together: OpenI.
-/
import Derived.Test.YtmblkllijjlkoaaGreatGB43
import Derived.Deep.Slices
import Derived.Deep.Fields
/-
  An argument of a law that is a slice of ints.
-/
set_option linter.unusedVariables false
set_option linter.unusedSimpArgs false
namespace Go.Proofs.YtmblkllijjlkoaaGreat
open Go.ChangeShapes Go.WideShapes Go.ChangeAt Go.RowKit Go.Deep
section
variable {H : Type} {enc : TypeId × Value → H} {P : Program} {W : World} {base : Nat} {t e : TypeId} {v : Value} {d : DataW H} {p : List MemPlace}
theorem arg_ints (ht : P.underlying t = some (.slice e)) (he : P.underlying e = some (.int .i64)) (hC : P.cellsOf e = 1) (hok : Value.okWide P W .any base t v) (h : DataW.Trod enc P W 0 (fun _ => true) true t v d p) : ∃ xs : List Int, SlAt 1 fInt W v xs := by
  obtain ⟨ao, len, cap, rfl⟩ := okWide_slice ht hok
  obtain ⟨fuel, hf⟩ := h
  exact ints_open ht he hC (by simpa [Value.cells] using hf)
end
end Go.Proofs.YtmblkllijjlkoaaGreat
