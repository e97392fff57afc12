/-
  The blocks of what the call owns, and marks on slices of ints (for seats without kernels).
-/
import Derived.Test.YtkdafincnmkjnaaMarks
import Derived.Test.YtkdafincnmkjnaaIntLaw
set_option linter.unusedVariables false
set_option linter.unusedSimpArgs false
namespace Go.Proofs.Ytkdafincnmkjnaa
open Go.RowKit
theorem Own.lts {α : Type} {E k B : Nat} {f : α → List Value} {w : World} {v : Value} {xs : List α} (h : Own E k f B w v xs) : ∀ g ∈ blocks [v], B ≤ g ∧ g < w.heap.size := by
  intro g hg
  obtain ⟨u, hu, hb⟩ := mem_blocks.1 hg
  simp at hu; subst hu
  exact h.lt g hb
theorem mem_one {v : Value} {g : Nat} (h : v.ownBlock = some g) : g ∈ blocks [v] := mem_blocks.2 ⟨v, by simp, h⟩
theorem Own.touchs {α : Type} {E k B : Nat} {f : α → List Value} {w w' : World} {v : Value} {xs : List α} {S : List Nat} (h : Own E k f B w v xs) (ht : Touch S w w') (hne : ∀ g ∈ blocks [v], g ∉ S) : Own E k f B w' v xs :=
  h.touch ht fun g hg => hne g (mem_one hg)
theorem markInt' (B : Nat) (va : Value) (xs : List Int) (k : Int) (hk : 0 ≤ k ∧ k + xs.length ≤ 9223372036854775807) (w : World) (ha : OwnI B w va xs) : Calls Try.prog 100 #[va, .int .i64 k] w fun e w' => e = .returned (.int .i64 (k + xs.length)) ∧ OwnI B w' va (marksI k xs.length) ∧ Touch (blocks [va]) w w' :=
  (l_markIntS B va xs k hk w ha).mono fun _ _ ⟨h1, h2, h3⟩ => ⟨h1, h2, grown_touch h3 fun g hg => mem_one hg⟩
end Go.Proofs.Ytkdafincnmkjnaa
