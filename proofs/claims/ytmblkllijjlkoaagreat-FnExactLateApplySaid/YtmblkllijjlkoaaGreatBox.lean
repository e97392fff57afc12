/-
  A box whose cells are known: any number of cells.
-/
import Derived.Test.YtmblkllijjlkoaaGreatRowLib
set_option linter.unusedVariables false
set_option linter.unusedSimpArgs false
namespace Go.Proofs.YtmblkllijjlkoaaGreat
open Go.RowKit
structure BoxAt (w : World) (g : Nat) (cs : List Value) : Prop where
  lt : g < w.heap.size
  cells : ∀ i v, cs[i]? = some v → w.cell? ⟨g, i, none⟩ = some v ∧ w.frozen? ⟨g, i, none⟩ = false
theorem BoxAt.below {w w' : World} {g : Nat} {cs : List Value} (h : BoxAt w g cs) (hb : Below w.heap.size w w') : BoxAt w' g cs :=
  have hs := hb.size
  have hl := h.lt
  ⟨by omega, fun i v hi => ⟨(hb.cell (p := ⟨g, i, none⟩) hl).trans (h.cells i v hi).1, (hb.frozen (p := ⟨g, i, none⟩) hl).trans (h.cells i v hi).2⟩⟩
theorem BoxAt.touch {S : List Nat} {w w' : World} {g : Nat} {cs : List Value} (h : BoxAt w g cs) (ht : Touch S w w') (hg : g ∉ S) : BoxAt w' g cs :=
  have hs := ht.size
  have hl := h.lt
  ⟨by omega, fun i v hi => ⟨(ht.cell hl hg).trans (h.cells i v hi).1, (ht.frozen hl hg).trans (h.cells i v hi).2⟩⟩
theorem BoxAt.nil {w : World} {g : Nat} (h : g < w.heap.size) : BoxAt w g [] := ⟨h, fun i v hi => by simp at hi⟩
theorem BoxAt.snoc {w : World} {g : Nat} {cs : List Value} (h : BoxAt w g cs) {v : Value} {i : Nat} (hi : i = cs.length) (hc : w.cell? ⟨g, i, none⟩ = some v) (hf : w.frozen? ⟨g, i, none⟩ = false) : BoxAt w g (cs ++ [v]) := by
  refine ⟨h.lt, fun j u hj => ?_⟩
  rcases Nat.lt_trichotomy j cs.length with hlt | heq | hgt
  · rw [List.getElem?_append_left hlt] at hj; exact h.cells j u hj
  · subst heq; subst hi
    rw [List.getElem?_append_right (Nat.le_refl _)] at hj
    simp at hj
    subst hj
    exact ⟨hc, hf⟩
  · rw [List.getElem?_append_right (by omega)] at hj
    rw [List.getElem?_eq_none (by simp; omega)] at hj
    cases hj
end Go.Proofs.YtmblkllijjlkoaaGreat
