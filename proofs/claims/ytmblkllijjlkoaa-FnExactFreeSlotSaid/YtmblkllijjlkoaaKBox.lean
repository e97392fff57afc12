/-
  A kernel behind a pointer: what the reference's steps leave there.
-/
import Derived.Test.YtmblkllijjlkoaaKProt
import Derived.Test.YtmblkllijjlkoaaKCopyL
set_option linter.unusedVariables false
set_option linter.unusedSimpArgs false
namespace Go.Proofs.Ytmblkllijjlkoaa
open Go.RowKit
structure KBox (w : World) (g : Nat) (y : KV) (calls : Int) : Prop where
  lt : g < w.heap.size
  c0 : w.cell? ⟨g, 0, none⟩ = some y.m.f.c
  c1 : w.cell? ⟨g, 1, none⟩ = some y.m.f.u
  c2 : w.cell? ⟨g, 2, none⟩ = some y.m.e
  c3 : w.cell? ⟨g, 3, none⟩ = some (.int .i64 calls)
  c4 : w.cell? ⟨g, 4, none⟩ = some y.r
  f0 : w.frozen? ⟨g, 0, none⟩ = false
  f1 : w.frozen? ⟨g, 1, none⟩ = false
  f2 : w.frozen? ⟨g, 2, none⟩ = false
  f3 : w.frozen? ⟨g, 3, none⟩ = false
  f4 : w.frozen? ⟨g, 4, none⟩ = false
theorem KBox.below {w w' : World} {g : Nat} {y : KV} {calls : Int} (h : KBox w g y calls) (hb : Below w.heap.size w w') : KBox w' g y calls :=
  have hs := hb.size
  have hl := h.lt
  ⟨by omega, (hb.cell (p := ⟨g, 0, none⟩) hl).trans h.c0, (hb.cell (p := ⟨g, 1, none⟩) hl).trans h.c1, (hb.cell (p := ⟨g, 2, none⟩) hl).trans h.c2, (hb.cell (p := ⟨g, 3, none⟩) hl).trans h.c3, (hb.cell (p := ⟨g, 4, none⟩) hl).trans h.c4,
    (hb.frozen (p := ⟨g, 0, none⟩) hl).trans h.f0, (hb.frozen (p := ⟨g, 1, none⟩) hl).trans h.f1, (hb.frozen (p := ⟨g, 2, none⟩) hl).trans h.f2, (hb.frozen (p := ⟨g, 3, none⟩) hl).trans h.f3, (hb.frozen (p := ⟨g, 4, none⟩) hl).trans h.f4⟩
theorem KBox.touch {S : List Nat} {w w' : World} {g : Nat} {y : KV} {calls : Int} (h : KBox w g y calls) (ht : Touch S w w') (hg : g ∉ S) : KBox w' g y calls :=
  have hs := ht.size
  have hl := h.lt
  ⟨by omega, (ht.cell hl hg).trans h.c0, (ht.cell hl hg).trans h.c1, (ht.cell hl hg).trans h.c2, (ht.cell hl hg).trans h.c3, (ht.cell hl hg).trans h.c4,
    (ht.frozen hl hg).trans h.f0, (ht.frozen hl hg).trans h.f1, (ht.frozen hl hg).trans h.f2, (ht.frozen hl hg).trans h.f3, (ht.frozen hl hg).trans h.f4⟩
/-- A kernel that the call owns, in a box of its own. -/
structure KIn (B : Nat) (w : World) (g : Nat) (y : KV) (K : Ker) : Prop where
  box : KBox w g y K.calls
  own : KOwn B w y K
  hB : B ≤ g
  ne : g ∉ blocks y.all
theorem KIn.below {B : Nat} {w w' : World} {g : Nat} {y : KV} {K : Ker} (h : KIn B w g y K) (hb : Below w.heap.size w w') : KIn B w' g y K := ⟨h.box.below hb, h.own.below hb, h.hB, h.ne⟩
theorem KOwn.setNe {B : Nat} {w : World} {y : KV} {K : Ker} (h : KOwn B w y K) {g o : Nat} (hg : g ∉ blocks y.all) (u : Value) : KOwn B (w.setCell ⟨g, o, none⟩ u) y K :=
  h.touch (S := [g]) (grown_touch (r := some g) (grown_setCell (grown_refl w _) o u) (by simp)) fun g' hg' hm => by simp at hm; subst hm; exact hg hg'
/-- What a step behind the pointer leaves. -/
def KDone (B g : Nat) (w : World) (b : Bool) (K : Ker) (e : Ending) (w' : World) : Prop := ∃ y : KV, e = .returned (.bool b) ∧ KIn B w' g y K ∧ Below B w w'
end Go.Proofs.Ytmblkllijjlkoaa
