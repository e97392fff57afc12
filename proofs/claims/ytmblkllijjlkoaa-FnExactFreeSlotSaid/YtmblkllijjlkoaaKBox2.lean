/-
  The reference's protection of a page.
-/
import Derived.Test.YtmblkllijjlkoaaKBox
set_option linter.unusedVariables false
set_option linter.unusedSimpArgs false
namespace Go.Proofs.Ytmblkllijjlkoaa
open Go.RowKit
/-- The mode of a page, asked behind the pointer. -/
theorem s_mode {B g : Nat} {y : KV} {K : Ker} {w : World} (h : KIn B w g y K) (p : Int) : Calls Try.prog 61 #[.pointer (some ⟨g, 0, none⟩), .int .i64 p] w fun e w' => e = .returned (.int .i64 (pageEntry K.m.ents p).m) ∧ Below w.heap.size w w' :=
  s_l08Mode g y.m.e K.m.ents p w h.box.lt h.box.c2 (h.own.m.ents.at lenEnt)
theorem KIn.setMode {B : Nat} {w : World} {gb : Nat} {y : KV} {K : Ker} {g n cap i : Nat} {x : Ent} (h : KIn B w gb y K) (hv : y.m.e = .slice (some ⟨g, 0, none⟩) n cap) (hi : K.m.ents[i]? = some x) (m : Int) :
    KIn B (w.setCell ⟨g, i * 2, none⟩ (.int .i64 m)) gb y (setEnt K i ⟨m, x.f⟩) := by
  refine ⟨?_, KOwn.setMode h.own hv hi m, h.hB, h.ne⟩
  have hne : gb ≠ g := fun e => h.ne (by rw [e]; exact mem_blocks.2 ⟨y.m.e, by simp [KV.all, MV.all], by rw [hv]; rfl⟩)
  exact h.box.touch (S := [g]) (grown_touch (r := some g) (grown_setCell (grown_refl w _) _ _) (by simp)) (by simpa using hne)
theorem mapped_not {es : List Ent} {p : Int} (h : mappedB es p = false) : (pageEntry es p).m = 0 := by
  unfold mappedB at h; simpa using h
end Go.Proofs.Ytmblkllijjlkoaa
