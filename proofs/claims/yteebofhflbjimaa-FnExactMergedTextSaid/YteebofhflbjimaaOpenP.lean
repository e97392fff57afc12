/-
  A law's argument that is a plan.
-/
import Derived.Test.YteebofhflbjimaaOpen
import Derived.Test.YteebofhflbjimaaKMath
set_option linter.unusedVariables false
set_option linter.unusedSimpArgs false
namespace Go.Proofs.Yteebofhflbjimaa
open Go.ChangeShapes Go.WideShapes Go.ChangeAt Go.RowKit Go.Deep
section
variable {H : Type} {enc : TypeId × Value → H} {W : World} {base : Nat} {v : Value} {d : DataW H} {p : List MemPlace}
set_option maxRecDepth 100000 in
theorem plan_open (hok : Value.okWide Try.prog W .any base 24 v) (h : DataW.Trod enc Try.prog W 0 (fun _ => true) true 24 v d p) :
    ∃ (kp mv : Int) (c : Value) (cs : List Int), v = .agg #[.int .i64 kp, .int .i64 mv, c] ∧ IntsAt W c cs ∧ (Lit.int .i64 kp).wf = true ∧ (Lit.int .i64 mv).wf = true := by
  obtain ⟨cs, rfl, hsz, n, hg⟩ := fields_open Try.underlying24 hok h
  have hC : Try.prog.cellsOf 24 = 3 := by kernel_rfl
  have hI : Try.prog.cellsOf 3 = 1 := by kernel_rfl
  have hS : Try.prog.cellsOf 22 = 1 := by kernel_rfl
  obtain ⟨c, u, e, rfl⟩ := arr3 (hsz.trans hC)
  obtain ⟨y0, h0⟩ := hg 0 _ rfl
  obtain ⟨y1, h1⟩ := hg 1 _ rfl
  obtain ⟨y2, h2⟩ := hg 2 _ rfl
  simp [hI, hS] at h0 h1 h2
  obtain ⟨kp, e0, _, wf0⟩ := DataW.trod_int Try.underlying3 h0
  obtain ⟨mv, e1, _, wf1⟩ := DataW.trod_int Try.underlying3 h1
  simp only [List.cons.injEq, and_true] at e0 e1
  subst e0 e1
  obtain ⟨xs, hxs⟩ := ints_open Try.underlying22 Try.underlying3 hI h2
  exact ⟨kp, mv, _, xs, rfl, hxs, wf0, wf1⟩
end
end Go.Proofs.Yteebofhflbjimaa
