/-
  A law's argument that is a kernel.
-/
import Derived.Test.YtmblkllijjlkoaaGreatOpen
import Derived.Test.YtmblkllijjlkoaaGreatKMath
set_option linter.unusedVariables false
set_option linter.unusedSimpArgs false
namespace Go.Proofs.YtmblkllijjlkoaaGreat
open Go.ChangeShapes Go.WideShapes Go.ChangeAt Go.RowKit Go.Deep
section
variable {H : Type} {enc : TypeId × Value → H} {W : World} {base : Nat} {v : Value} {d : DataW H} {p : List MemPlace}
set_option maxRecDepth 100000 in
theorem ents_open {fuel : Nat} {y : DataW H × List MemPlace} (h : DataW.trod enc Tryz.prog W 0 (fun _ => true) true fuel 26 [v] = some y) : ∃ es : List Ent, EntAt W v es := by
  have hC : Tryz.prog.cellsOf 188 = 2 := by kernel_rfl
  have hI : Tryz.prog.cellsOf 3 = 1 := by kernel_rfl
  obtain ⟨es, hs, _⟩ := slat_open (f := fEnt) (fun _ => True) Tryz.underlying26 hC (by omega) (fun m cs y hl hy => by
    obtain ⟨n, hg⟩ := sub_open Tryz.underlying188 hy
    match cs, hl with
    | [a, b], _ =>
      obtain ⟨y0, h0⟩ := hg 0 _ rfl
      obtain ⟨y1, h1⟩ := hg 1 _ rfl
      simp [hI] at h0 h1
      obtain ⟨m0, e0, _, _⟩ := DataW.trod_int Tryz.underlying3 h0
      obtain ⟨m1, e1, _, _⟩ := DataW.trod_int Tryz.underlying3 h1
      simp only [List.cons.injEq, and_true] at e0 e1
      subst e0 e1
      exact ⟨⟨m0, m1⟩, rfl, trivial⟩) h
  exact ⟨es, hs⟩
set_option maxRecDepth 100000 in
theorem kernel_open (hok : Value.okWide Tryz.prog W .any base 33 v) (h : DataW.Trod enc Tryz.prog W 0 (fun _ => true) true 33 v d p) :
    ∃ (x : KV) (K : Ker), v = x.val K.calls ∧ KAt W x K ∧ (Lit.int .i64 K.calls).wf = true := by
  obtain ⟨cs, rfl, hsz, n, hg⟩ := fields_open Tryz.underlying33 hok h
  have hC : Tryz.prog.cellsOf 33 = 5 := by kernel_rfl
  have hM : Tryz.prog.cellsOf 30 = 3 := by kernel_rfl
  have hF : Tryz.prog.cellsOf 25 = 2 := by kernel_rfl
  have hT : Tryz.prog.cellsOf 28 = 1 := by kernel_rfl
  have hI : Tryz.prog.cellsOf 3 = 1 := by kernel_rfl
  have hB : Tryz.prog.cellsOf 4 = 1 := by kernel_rfl
  have hS : Tryz.prog.cellsOf 31 = 1 := by kernel_rfl
  have hR : Tryz.prog.cellsOf 22 = 1 := by kernel_rfl
  have hU : Tryz.prog.cellsOf 23 = 1 := by kernel_rfl
  have hE : Tryz.prog.cellsOf 26 = 1 := by kernel_rfl
  obtain ⟨c, u, e, k, r, rfl⟩ := arr5 (hsz.trans hC)
  obtain ⟨y0, h0⟩ := hg 0 _ rfl
  obtain ⟨y1, h1⟩ := hg 1 _ rfl
  obtain ⟨y2, h2⟩ := hg 2 _ rfl
  simp [hM, hI, hS] at h0 h1 h2
  obtain ⟨calls, e1, _, wf⟩ := DataW.trod_int Tryz.underlying3 h1
  simp only [List.cons.injEq, and_true] at e1
  subst e1
  obtain ⟨refuse, href⟩ := ints_open Tryz.underlying31 Tryz.underlying3 hI h2
  obtain ⟨n0, g0⟩ := sub_open Tryz.underlying30 h0
  obtain ⟨z0, k0⟩ := g0 0 _ rfl
  obtain ⟨z1, k1⟩ := g0 1 _ rfl
  simp [hF, hT] at k0 k1
  obtain ⟨n1, g1⟩ := sub_open Tryz.underlying25 k0
  obtain ⟨z2, k2⟩ := g1 0 _ rfl
  obtain ⟨z3, k3⟩ := g1 1 _ rfl
  simp [hR, hU] at k2 k3
  obtain ⟨n2, g2⟩ := sub_open Tryz.underlying28 k1
  obtain ⟨z4, k4⟩ := g2 0 _ rfl
  simp [hE] at k4
  obtain ⟨vs, rows, hrows⟩ := rows_open Tryz.underlying22 Tryz.underlying31 Tryz.underlying3 hS hI k2
  obtain ⟨used, hused⟩ := bools_open (f := fBool) (fun _ => rfl) Tryz.underlying23 Tryz.underlying4 hB k3
  obtain ⟨es, hes⟩ := ents_open k4
  exact ⟨⟨⟨⟨c, u, vs⟩, e⟩, r⟩, ⟨⟨⟨rows, used⟩, es⟩, calls, refuse⟩, rfl, ⟨⟨⟨hrows, hused⟩, hes⟩, href⟩, wf⟩
end
end Go.Proofs.YtmblkllijjlkoaaGreat
