/-
  What the functions on the slots of a span return.
-/
import Derived.Test.YteebofhflbjimaaIntLaw
set_option linter.unusedVariables false
set_option linter.unusedSimpArgs false
namespace Go.Proofs.Yteebofhflbjimaa
open Go.RowKit
theorem spanOk_parts' {p c b : Int} (h : spanOk p c b = true) : (0 ≤ p ∧ p ≤ 31) ∧ (0 ≤ c ∧ c ≤ 3) ∧ bitmapOk (slotsOf c) b = true := by
  simp only [spanOk, Bool.and_eq_true, between_iff] at h; exact ⟨h.1.1, h.1.2, h.2⟩
theorem NewInts.open {w w' : World} {xs : List Int} {e : Ending} (h : NewInts w xs e w') : ∃ ao cap, e = .returned (.slice ao xs.length cap) ∧ OwnI w.heap.size w' (.slice ao xs.length cap) xs ∧ Below w.heap.size w w' := by
  obtain ⟨v, rfl, hown, hb⟩ := h
  obtain ⟨ao, cap, rfl, _⟩ := hown.shape
  exact ⟨ao, cap, rfl, hown, hb⟩
def spanFull (p c b : Int) : Bool := spanOk p c b && ((freeSlots (slotsOf c) b).length : Int) == 0

def giveBits (p c b slot : Int) : Int := if spanOk p c b && hasSlot b slot then withoutSlot b slot else b

end Go.Proofs.Yteebofhflbjimaa
