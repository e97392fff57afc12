/-
  Kernels as plain data, how they lie, and what it means that a call owns one.
-/
import Derived.Test.YtkdafincnmkjnaaMarks
import Derived.Test.YtkdafincnmkjnaaIntLaw
import Derived.Test.YtkdafincnmkjnaaMake
set_option linter.unusedVariables false
set_option linter.unusedSimpArgs false
namespace Go.Proofs.Ytkdafincnmkjnaa
open Go.RowKit
theorem IntsAt.open {w : World} {v : Value} {xs : List Int} (h : SlAt 1 fInt w v xs) : ∃ ao cap, v = .slice ao xs.length cap ∧ xs.length ≤ cap ∧ cap ≤ maxLen ∧
    ∀ i x, xs[i]? = some x → ∃ g o, ao = some ⟨g, o, none⟩ ∧ g < w.heap.size ∧ w.cell? ⟨g, o + i, none⟩ = some (.int .i64 x) := SlAt.open1 h fun _ => rfl
abbrev IntsAt (w : World) (v : Value) (xs : List Int) : Prop := SlAt 1 fInt w v xs
theorem OwnI.slotI {B : Nat} {w : World} {g n cap : Nat} {xs : List Int} (h : OwnI B w (.slice (some ⟨g, 0, none⟩) n cap) xs) {i : Nat} {x : Int} (hi : xs[i]? = some x) : B ≤ g ∧ g < w.heap.size ∧ w.cell? ⟨g, i, none⟩ = some (.int .i64 x) ∧ w.frozen? ⟨g, i, none⟩ = false := by
  obtain ⟨hB, hg, hz, hc⟩ := Own.slot h lenInt hi
  exact ⟨hB, hg, by simpa [fInt] using hc 0 (.int .i64 x), hz _⟩
/-! bools -/
def fBool (x : Bool) : List Value := [.bool x]
theorem elemBool : ElemT Try.prog 106 4 (.bool false) 1 1 := ⟨Try.underlying106, info_parts (by kernel_rfl), rfl, by decide⟩
theorem lenBool : LenK 1 fBool := fun _ => rfl
theorem oneBool : ∀ y : Bool, ∀ u ∈ fBool y, u.oneCell' = true := fun y u hu => by simp [fBool] at hu; subst hu; rfl
abbrev OwnB (B : Nat) (w : World) (v : Value) (xs : List Bool) : Prop := Own 4 1 fBool B w v xs
abbrev BoolsAt (w : World) (v : Value) (xs : List Bool) : Prop := SlAt 1 fBool w v xs
theorem zeroBool : fBool false = (Value.bool false).cells.toList := rfl
theorem BoolsAt.open {w : World} {v : Value} {xs : List Bool} (h : BoolsAt w v xs) : ∃ ao cap, v = .slice ao xs.length cap ∧ xs.length ≤ cap ∧ cap ≤ maxLen ∧
    ∀ i x, xs[i]? = some x → ∃ g o, ao = some ⟨g, o, none⟩ ∧ g < w.heap.size ∧ w.cell? ⟨g, o + i, none⟩ = some (.bool x) := SlAt.open1 h fun _ => rfl
theorem OwnB.slotB {B : Nat} {w : World} {g n cap : Nat} {xs : List Bool} (h : OwnB B w (.slice (some ⟨g, 0, none⟩) n cap) xs) {i : Nat} {x : Bool} (hi : xs[i]? = some x) : B ≤ g ∧ g < w.heap.size ∧ w.cell? ⟨g, i, none⟩ = some (.bool x) ∧ w.frozen? ⟨g, i, none⟩ = false := by
  obtain ⟨hB, hg, hz, hc⟩ := Own.slot h lenBool hi
  exact ⟨hB, hg, by simpa [fBool] using hc 0 (.bool x), hz _⟩
theorem elemRow : ElemT Try.prog 71 50 (.slice none 0 0) 1 24 := ⟨Try.underlying71, info_parts (by kernel_rfl), rfl, by decide⟩
abbrev OwnR (B : Nat) (w : World) (c : Value) (vs : List Value) (rows : List (List Int)) : Prop := OwnRows 50 3 fInt B w c vs rows
end Go.Proofs.Ytkdafincnmkjnaa
