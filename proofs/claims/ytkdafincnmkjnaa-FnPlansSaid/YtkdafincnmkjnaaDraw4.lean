/-
  One span that is drawn anew.
-/
import Derived.Test.YtkdafincnmkjnaaDraw3
set_option linter.unusedVariables false
set_option linter.unusedSimpArgs false
namespace Go.Proofs.Ytkdafincnmkjnaa
open Go.RowKit
def NewSpan (w : World) (e : Ending) (w' : World) : Prop := ∃ s : Sp, e = .returned s.val ∧ (0 ≤ s.p ∧ s.p ≤ 7) ∧ (0 ≤ s.c ∧ s.c ≤ 3) ∧ (0 ≤ s.b ∧ s.b < 2 ^ slotsNat s.c) ∧ Below w.heap.size w w'
theorem BytesAt.mono {B B' : Nat} {w : World} {v : Value} {n : Nat} (h : BytesAt B w v n) (hB : B ≤ B') : BytesAt B' w v n := by
  obtain ⟨ao, cap, rfl, hn, hj⟩ := h
  refine ⟨ao, cap, rfl, hn, fun j hlt => ?_⟩
  obtain ⟨b, o, x, h1, h2, h3⟩ := hj j hlt
  exact ⟨b, o, x, h1, by omega, h3⟩
theorem BytesAt.grew {w w' : World} {v : Value} {n : Nat} (h : BytesAt w.heap.size w v n) (hb : Below w.heap.size w w') : BytesAt w'.heap.size w' v n :=
  (h.stays fun k hk => hb.block k hk).mono hb.size
end Go.Proofs.Ytkdafincnmkjnaa
