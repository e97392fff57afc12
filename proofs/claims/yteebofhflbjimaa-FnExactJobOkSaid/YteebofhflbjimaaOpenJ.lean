/-
  A law's argument that is a job.
-/
import Derived.Test.YteebofhflbjimaaOpenP
set_option linter.unusedVariables false
set_option linter.unusedSimpArgs false
namespace Go.Proofs.Yteebofhflbjimaa
open Go.ChangeShapes Go.WideShapes Go.ChangeAt Go.RowKit Go.Deep
section
variable {H : Type} {enc : TypeId × Value → H} {W : World} {base : Nat} {v : Value} {d : DataW H} {p : List MemPlace}
set_option maxRecDepth 100000 in
theorem job_open (hok : Value.okWide Try.prog W .any base 33 v) (h : DataW.Trod enc Try.prog W 0 (fun _ => true) true 33 v d p) :
    ∃ (kp mv : Int) (c : Value) (cs : List Int) (ph nx : Int), v = .agg #[.int .i64 kp, .int .i64 mv, c, .int .i64 ph, .int .i64 nx] ∧ IntsAt W c cs ∧ (Lit.int .i64 kp).wf = true ∧ (Lit.int .i64 mv).wf = true ∧ (Lit.int .i64 ph).wf = true ∧ (Lit.int .i64 nx).wf = true := by
  obtain ⟨cs, rfl, hsz, n, hg⟩ := fields_open Try.underlying33 hok h
  have hC : Try.prog.cellsOf 33 = 5 := by kernel_rfl
  have hP : Try.prog.cellsOf 24 = 3 := by kernel_rfl
  have hI : Try.prog.cellsOf 3 = 1 := by kernel_rfl
  have hS : Try.prog.cellsOf 22 = 1 := by kernel_rfl
  obtain ⟨c, u, e, k, r, rfl⟩ := arr5 (hsz.trans hC)
  obtain ⟨y0, h0⟩ := hg 0 _ rfl
  obtain ⟨y1, h1⟩ := hg 1 _ rfl
  obtain ⟨y2, h2⟩ := hg 2 _ rfl
  simp [hP, hI] at h0 h1 h2
  obtain ⟨ph, e3, _, wf3⟩ := DataW.trod_int Try.underlying3 h1
  obtain ⟨nx, e4, _, wf4⟩ := DataW.trod_int Try.underlying3 h2
  simp only [List.cons.injEq, and_true] at e3 e4
  subst e3 e4
  obtain ⟨n0, g0⟩ := sub_open Try.underlying24 h0
  obtain ⟨z0, k0⟩ := g0 0 _ rfl
  obtain ⟨z1, k1⟩ := g0 1 _ rfl
  obtain ⟨z2, k2⟩ := g0 2 _ rfl
  simp [hI, hS] at k0 k1 k2
  obtain ⟨kp, e0, _, wf0⟩ := DataW.trod_int Try.underlying3 k0
  obtain ⟨mv, e1, _, wf1⟩ := DataW.trod_int Try.underlying3 k1
  simp only [List.cons.injEq, and_true] at e0 e1
  subst e0 e1
  obtain ⟨xs, hxs⟩ := ints_open Try.underlying22 Try.underlying3 hI k2
  exact ⟨kp, mv, _, xs, ph, nx, rfl, hxs, wf0, wf1, wf3, wf4⟩
end
end Go.Proofs.Yteebofhflbjimaa
