/-
  A law's argument that is a list of spans.
-/
import Derived.Test.YtmblkllijjlkoaaGreatFrameS
import Derived.Test.YtmblkllijjlkoaaGreatSpans
set_option linter.unusedVariables false
set_option linter.unusedSimpArgs false
namespace Go.Proofs.YtmblkllijjlkoaaGreat
open Go.ChangeShapes Go.WideShapes Go.ChangeAt Go.RowKit Go.Deep
theorem list_of {α : Type} (R : Nat → α → Prop) : ∀ n, (∀ i, i < n → ∃ x, R i x) → ∃ xs : List α, xs.length = n ∧ ∀ i (hi : i < xs.length), R i xs[i]
  | 0, _ => ⟨[], rfl, fun i hi => absurd hi (Nat.not_lt_zero _)⟩
  | n + 1, h => by
    obtain ⟨xs, hl, hx⟩ := list_of R n (fun i hi => h i (by omega))
    obtain ⟨x, hr⟩ := h n (by omega)
    refine ⟨xs ++ [x], by simp [hl], fun i hi => ?_⟩
    rcases Nat.lt_or_ge i n with h1 | h1
    · rw [List.getElem_append_left (by omega)]; exact hx i (by omega)
    · have : i = n := by simp [hl] at hi; omega
      subst this
      rw [List.getElem_append_right (by omega)]
      simpa [hl] using hr
section
variable {H : Type} {enc : TypeId × Value → H} {P : Program} {W : World} {base : Nat} {t e ti : TypeId} {v : Value} {d : DataW H} {p : List MemPlace}
theorem spans_open {f0 f1 f2 : Field} (ht : P.underlying t = some (.slice e)) (he : P.underlying e = some (.struct #[f0, f1, f2])) (hone : oneCellFields P #[f0, f1, f2] = true) (hC : P.cellsOf e = 3) (hi : P.underlying ti = some (.int .i64))
    (h0 : f0.type = ti) (h1 : f1.type = ti) (h2 : f2.type = ti)
    (hok : Value.okWide P W .any base t v) (h : DataW.Trod enc P W 0 (fun _ => true) true t v d p) : ∃ xs, SpansAt W v xs := by
  obtain ⟨ao, n, cap, rfl, hl, hm, hc⟩ := structs_open ht he hone hC (by simp) hok h
  obtain ⟨xs, hlen, hx⟩ := list_of (fun i (s : Sp) => ∃ g o, ao = some ⟨g, o, none⟩ ∧ g < W.heap.size ∧ W.cell? ⟨g, o + i * 3, none⟩ = some (.int .i64 s.p) ∧ W.cell? ⟨g, o + i * 3 + 1, none⟩ = some (.int .i64 s.c) ∧ W.cell? ⟨g, o + i * 3 + 2, none⟩ = some (.int .i64 s.b)) n (fun i hi' => by
    obtain ⟨b, o, rfl, hb, hf⟩ := hc i hi'
    obtain ⟨u0, m0, y0, c0, t0⟩ := hf 0 f0 rfl
    obtain ⟨u1, m1, y1, c1, t1⟩ := hf 1 f1 rfl
    obtain ⟨u2, m2, y2, c2, t2⟩ := hf 2 f2 rfl
    rw [h0] at t0; rw [h1] at t1; rw [h2] at t2
    obtain ⟨x0, e0, _, _⟩ := DataW.trod_int hi t0
    obtain ⟨x1, e1, _, _⟩ := DataW.trod_int hi t1
    obtain ⟨x2, e2, _, _⟩ := DataW.trod_int hi t2
    simp only [List.cons.injEq, and_true] at e0 e1 e2
    subst e0 e1 e2
    exact ⟨⟨x0, x1, x2⟩, b, o, rfl, hb, c0, c1, c2⟩)
  subst hlen
  exact ⟨xs, ao, cap, rfl, hl, hm, hx⟩
end
end Go.Proofs.YtmblkllijjlkoaaGreat
