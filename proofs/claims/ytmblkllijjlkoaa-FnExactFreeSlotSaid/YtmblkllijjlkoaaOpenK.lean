/-
  A law's argument that is a kernel.
-/
import Derived.Test.YtmblkllijjlkoaaOpen
import Derived.Test.YtmblkllijjlkoaaKMath
set_option linter.unusedVariables false
set_option linter.unusedSimpArgs false
namespace Go.Proofs.Ytmblkllijjlkoaa
open Go.ChangeShapes Go.WideShapes Go.ChangeAt Go.RowKit Go.Deep
section
variable {H : Type} {enc : TypeId × Value → H} {W : World} {base : Nat} {v : Value} {d : DataW H} {p : List MemPlace}
set_option maxRecDepth 100000 in
theorem ents_open {fuel : Nat} {y : DataW H × List MemPlace} (h : DataW.trod enc Try.prog W 0 (fun _ => true) true fuel 26 [v] = some y) : ∃ es : List Ent, EntAt W v es := by
  have hC : Try.prog.cellsOf 122 = 2 := by kernel_rfl
  have hI : Try.prog.cellsOf 3 = 1 := by kernel_rfl
  obtain ⟨es, hs, _⟩ := slat_open (f := fEnt) (fun _ => True) Try.underlying26 hC (by omega) (fun m cs y hl hy => by
    obtain ⟨n, hg⟩ := sub_open Try.underlying122 hy
    match cs, hl with
    | [a, b], _ =>
      obtain ⟨y0, h0⟩ := hg 0 _ rfl
      obtain ⟨y1, h1⟩ := hg 1 _ rfl
      simp [hI] at h0 h1
      obtain ⟨m0, e0, _, _⟩ := DataW.trod_int Try.underlying3 h0
      obtain ⟨m1, e1, _, _⟩ := DataW.trod_int Try.underlying3 h1
      simp only [List.cons.injEq, and_true] at e0 e1
      subst e0 e1
      exact ⟨⟨m0, m1⟩, rfl, trivial⟩) h
  exact ⟨es, hs⟩
set_option maxRecDepth 100000 in
theorem kernel_open (hok : Value.okWide Try.prog W .any base 33 v) (h : DataW.Trod enc Try.prog W 0 (fun _ => true) true 33 v d p) :
    ∃ (x : KV) (K : Ker), v = x.val K.calls ∧ KAt W x K ∧ (Lit.int .i64 K.calls).wf = true := by
  obtain ⟨cs, rfl, hsz, n, hg⟩ := fields_open Try.underlying33 hok h
  have hC : Try.prog.cellsOf 33 = 5 := by kernel_rfl
  have hM : Try.prog.cellsOf 30 = 3 := by kernel_rfl
  have hF : Try.prog.cellsOf 25 = 2 := by kernel_rfl
  have hT : Try.prog.cellsOf 28 = 1 := by kernel_rfl
  have hI : Try.prog.cellsOf 3 = 1 := by kernel_rfl
  have hB : Try.prog.cellsOf 4 = 1 := by kernel_rfl
  have hS : Try.prog.cellsOf 31 = 1 := by kernel_rfl
  have hR : Try.prog.cellsOf 22 = 1 := by kernel_rfl
  have hU : Try.prog.cellsOf 23 = 1 := by kernel_rfl
  have hE : Try.prog.cellsOf 26 = 1 := by kernel_rfl
  obtain ⟨c, u, e, k, r, rfl⟩ := arr5 (hsz.trans hC)
  obtain ⟨y0, h0⟩ := hg 0 _ rfl
  obtain ⟨y1, h1⟩ := hg 1 _ rfl
  obtain ⟨y2, h2⟩ := hg 2 _ rfl
  simp [hM, hI, hS] at h0 h1 h2
  obtain ⟨calls, e1, _, wf⟩ := DataW.trod_int Try.underlying3 h1
  simp only [List.cons.injEq, and_true] at e1
  subst e1
  obtain ⟨refuse, href⟩ := ints_open Try.underlying31 Try.underlying3 hI h2
  obtain ⟨n0, g0⟩ := sub_open Try.underlying30 h0
  obtain ⟨z0, k0⟩ := g0 0 _ rfl
  obtain ⟨z1, k1⟩ := g0 1 _ rfl
  simp [hF, hT] at k0 k1
  obtain ⟨n1, g1⟩ := sub_open Try.underlying25 k0
  obtain ⟨z2, k2⟩ := g1 0 _ rfl
  obtain ⟨z3, k3⟩ := g1 1 _ rfl
  simp [hR, hU] at k2 k3
  obtain ⟨n2, g2⟩ := sub_open Try.underlying28 k1
  obtain ⟨z4, k4⟩ := g2 0 _ rfl
  simp [hE] at k4
  obtain ⟨vs, rows, hrows⟩ := rows_open Try.underlying22 Try.underlying31 Try.underlying3 hS hI k2
  obtain ⟨used, hused⟩ := bools_open (f := fBool) (fun _ => rfl) Try.underlying23 Try.underlying4 hB k3
  obtain ⟨es, hes⟩ := ents_open k4
  exact ⟨⟨⟨⟨c, u, vs⟩, e⟩, r⟩, ⟨⟨⟨rows, used⟩, es⟩, calls, refuse⟩, rfl, ⟨⟨⟨hrows, hused⟩, hes⟩, href⟩, wf⟩
end
end Go.Proofs.Ytmblkllijjlkoaa
