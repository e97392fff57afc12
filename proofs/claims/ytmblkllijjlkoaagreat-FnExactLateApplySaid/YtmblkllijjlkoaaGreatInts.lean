/-
  Slices of ints of the call's own.
-/
import Derived.Test.YtmblkllijjlkoaaGreatScal
import Derived.Test.YtmblkllijjlkoaaGreatOwn
set_option linter.unusedVariables false
set_option linter.unusedSimpArgs false
namespace Go.Proofs.YtmblkllijjlkoaaGreat
open Go.RowKit
theorem elemInt : ElemT Tryz.prog 31 3 (.int .i64 0) 1 8 := ⟨Tryz.underlying31, info_parts (by kernel_rfl), rfl, by decide⟩
def fInt (x : Int) : List Value := [.int .i64 x]
theorem lenInt : LenK 1 fInt := fun _ => rfl
theorem oneInt : ∀ y : Int, ∀ u ∈ fInt y, u.oneCell' = true := fun y u hu => by simp [fInt] at hu; subst hu; rfl
abbrev OwnI (B : Nat) (w : World) (v : Value) (xs : List Int) : Prop := Own 3 1 fInt B w v xs
theorem intCell (w : World) (x : Int) : ∀ j u, (fInt x)[j]? = some u → (w.alloc (.cells #[.int .i64 x] 3)).cell? ⟨w.heap.size, j, none⟩ = some u := by
  intro j u hj
  match j, hj with
  | 0, hj => simp [fInt] at hj; subst hj; go_simp
  | j + 1, hj => simp [fInt] at hj

theorem OwnI.readI {B : Nat} {w : World} {v : Value} {xs : List Int} (h : OwnI B w v xs) : ∃ ao cap, v = .slice ao xs.length cap ∧ xs.length ≤ cap ∧ cap ≤ maxLen ∧
    ∀ i, i < xs.length → ∃ g, ao = some ⟨g, 0, none⟩ ∧ B ≤ g ∧ g < w.heap.size ∧ (∀ o, w.frozen? ⟨g, o, none⟩ = false) ∧ w.cell? ⟨g, i, none⟩ = some (.int .i64 (xs.getD i 0)) := by
  obtain ⟨ao, cap, rfl, hc, hm, hr⟩ := h.read lenInt
  refine ⟨ao, cap, rfl, hc, hm, fun i hi => ?_⟩
  obtain ⟨g, rfl, hB, hg, hf, hcell⟩ := hr i hi
  refine ⟨g, rfl, hB, hg, hf, ?_⟩
  have := hcell 0 (by omega)
  simp only [Nat.mul_one, Nat.add_zero, fInt, List.getElem?_cons_zero] at this
  rw [this, List.getD_eq_getElem?_getD, List.getElem?_eq_getElem hi, Option.getD_some]
/-- What a call that hands back a slice of ints of its own leaves. -/
def NewInts (w : World) (xs : List Int) (e : Ending) (w' : World) : Prop := ∃ v, e = .returned v ∧ OwnI w.heap.size w' v xs ∧ Below w.heap.size w w'
def freeTo (b : Int) : Nat → List Int
  | 0 => []
  | k + 1 => freeTo b k ++ if hasSlot b k then [] else [(k : Int)]
theorem freeTo_le (b : Int) (k : Nat) : (freeTo b k).length ≤ k := by
  induction k with
  | zero => exact Nat.le_refl _
  | succ k ih => simp only [freeTo, List.length_append]; split <;> simp <;> omega
def freeSlots (n b : Int) : List Int := if bitmapOk n b then freeTo b n.toNat else []
end Go.Proofs.YtmblkllijjlkoaaGreat
