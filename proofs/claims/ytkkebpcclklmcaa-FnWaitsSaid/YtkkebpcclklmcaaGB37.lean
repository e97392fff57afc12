/-
  Texts put together: FrameS, FamC, Wr.
-/
import Derived.Test.YtkkebpcclklmcaaGB36
import Derived.Test.YtkkebpcclklmcaaGB4
import Derived.Deep.Slices
import Derived.Deep.Fields
import Derived.Test.YtkkebpcclklmcaaGB6
/-
  Arguments of the laws that are slices: what can be read of them.
-/
set_option linter.unusedVariables false
set_option linter.unusedSimpArgs false
namespace Go.Proofs.Ytkkebpcclklmcaa
open Go.ChangeShapes Go.WideShapes Go.ChangeAt Go.RowKit Go.Deep
theorem addr_plain (a : Addr) (w : World) (v : Value) (h : w.cell? a = some v) : ∃ b o, a = ⟨b, o, none⟩ ∧ b < w.heap.size := by
  obtain ⟨b, o, s⟩ := a
  cases s with
  | none => exact ⟨b, o, rfl, World.block_lt_of_cell? w ⟨b, o, none⟩ h⟩
  | some s =>
    exfalso
    unfold World.cell? at h
    split at h
    · simp at h
    · simp at h
theorem addr_add (b o i : Nat) : (⟨b, o, none⟩ : Addr).add i = ⟨b, o + i, none⟩ := by unfold Addr.add; split <;> simp_all
section
variable {H : Type} {enc : TypeId × Value → H} {P : Program} {W : World} {base : Nat} {t e : TypeId} {v : Value} {d : DataW H} {p : List MemPlace}
/-- A slice of structs of one-cell fields. -/
theorem structs_open {fs : Array Field} (ht : P.underlying t = some (.slice e)) (he : P.underlying e = some (.struct fs)) (hone : oneCellFields P fs = true) (hC : P.cellsOf e = fs.size) (hpos : 0 < fs.size)
    (hok : Value.okWide P W .any base t v) (h : DataW.Trod enc P W 0 (fun _ => true) true t v d p) :
    ∃ ao n cap, v = .slice ao n cap ∧ n ≤ cap ∧ cap ≤ maxLen ∧ ∀ i, i < n → ∃ b o, ao = some ⟨b, o, none⟩ ∧ b < W.heap.size ∧
      ∀ j f, fs[j]? = some f → ∃ u m y, W.cell? ⟨b, o + (i * fs.size + j), none⟩ = some u ∧ DataW.trod enc P W 0 (fun _ => true) true m f.type [u] = some y := by
  obtain ⟨ao, len, cap, rfl⟩ := okWide_slice ht hok
  obtain ⟨fuel, hf⟩ := h
  rcases open_slice ht hf with ⟨hcs, _⟩ | ⟨a, len', cap', m, n, D, Pl, hcs, hb, hl, hm, hmm, _, hi⟩
  · simp only [Value.cells, List.cons.injEq, Value.slice.injEq, and_true] at hcs
    obtain ⟨rfl, rfl, rfl⟩ := hcs
    exact ⟨none, 0, 0, rfl, Nat.le_refl _, Nat.zero_le _, fun i hi => by omega⟩
  · simp only [Value.cells, List.cons.injEq, Value.slice.injEq, and_true] at hcs
    obtain ⟨rfl, rfl, rfl⟩ := hcs
    simp only [if_true] at hmm
    refine ⟨some a, len, cap, rfl, hl, hm, fun i hlt => ?_⟩
    have cellAt : ∀ i, i < len → ∀ j f, fs[j]? = some f → ∃ u m y, W.cell? (a.add (i * fs.size + j)) = some u ∧ DataW.trod enc P W 0 (fun _ => true) true m f.type [u] = some y := by
      intro i hlt j f hj
      obtain ⟨cs', hc, ht'⟩ := hi i (by omega)
      rw [hC] at hc
      obtain ⟨ys, n', _, _, _, hyl, hg⟩ := DataW.trod_struct he ht'
      obtain ⟨_, hcl, hat⟩ := World.cells?_some hc
      have hjl : j < fs.size := (Array.getElem?_eq_some_iff.1 hj).1
      obtain ⟨ho, hk⟩ := hone_of hone j f hj
      have h1 := hg j f hj
      rw [ho, hk, List.drop_eq_getElem_cons (by omega)] at h1
      have hys : ys[j]? = some (ys[j]'(by omega)) := List.getElem?_eq_getElem (by omega)
      refine ⟨cs'[j]'(by omega), n', _, ?_, h1.trans hys⟩
      have := hat j hjl
      rw [add_add] at this
      rw [this]
      exact List.getElem?_eq_getElem (by omega)
    have hf0 : fs[0]? = some fs[0] := Array.getElem?_eq_getElem hpos
    obtain ⟨u0, _, _, h0, _⟩ := cellAt 0 (by omega) 0 _ hf0
    rw [Nat.zero_mul] at h0
    obtain ⟨b, o, rfl, hbW⟩ := addr_plain a W _ h0
    refine ⟨b, o, rfl, hbW, fun j f hj => ?_⟩
    obtain ⟨u, m', y, hc, hy⟩ := cellAt i hlt j f hj
    rw [addr_add] at hc
    exact ⟨u, m', y, hc, hy⟩
end
end Go.Proofs.Ytkkebpcclklmcaa
/-
  The laws' functions on slices of writers, of waiting frees, of pairs, of spans.
-/
set_option linter.unusedVariables false
set_option linter.unusedSimpArgs false
namespace Go.Proofs.Ytkkebpcclklmcaa
open Go.ChangeShapes Go.WideShapes Go.ChangeAt Go.RowKit Go.Deep
theorem list_of' {α : Type} (R : Nat → α → Prop) : ∀ n, (∀ i, i < n → ∃ x, R i x) → ∃ xs : List α, xs.length = n ∧ ∀ i x, xs[i]? = some x → R i x
  | 0, _ => ⟨[], rfl, fun i x hi => by simp at hi⟩
  | n + 1, h => by
    obtain ⟨xs, hl, hx⟩ := list_of' R n (fun i hi => h i (by omega))
    obtain ⟨x, hr⟩ := h n (by omega)
    refine ⟨xs ++ [x], by simp [hl], fun i y hi => ?_⟩
    rcases Nat.lt_or_ge i n with h1 | h1
    · rw [List.getElem?_append_left (by omega)] at hi; exact hx i y hi
    · have := getx_lt hi
      simp at this
      obtain rfl : i = n := by omega
      rw [List.getElem?_append_right (by omega)] at hi
      simp [hl] at hi
      subst hi; exact hr
structure Wr where
  ad : Int
  va : Int
  dn : Bool
  wt : Int
deriving DecidableEq, Inhabited
def Wr.val (x : Wr) : Value := .agg #[.int .i64 x.ad, .int .i64 x.va, .bool x.dn, .int .i64 x.wt]
def fWr (x : Wr) : List Value := [.int .i64 x.ad, .int .i64 x.va, .bool x.dn, .int .i64 x.wt]
theorem elemWr : ElemT Try.prog 60 65 (.agg #[.int .i64 0, .int .i64 0, .bool false, .int .i64 0]) 4 32 := ⟨Try.underlying60, info_parts (by kernel_rfl), rfl, by decide⟩
theorem lenWr : LenK 4 fWr := fun _ => rfl
theorem oneWr : ∀ y : Wr, ∀ u ∈ fWr y, u.oneCell' = true := fun y u hu => by simp [fWr] at hu; rcases hu with rfl | rfl | rfl | rfl <;> rfl
abbrev OwnWr (B : Nat) (w : World) (v : Value) (xs : List Wr) : Prop := Own 65 4 fWr B w v xs
theorem zeroWr : fWr ⟨0, 0, false, 0⟩ = (Value.agg #[.int .i64 0, .int .i64 0, .bool false, .int .i64 0]).cells.toList := by first | rfl | kernel_rfl | simp [fWr, Value.cells]
abbrev WrAt (w : World) (v : Value) (xs : List Wr) : Prop := SlAt 4 fWr w v xs
theorem WrAt.open {w : World} {v : Value} {xs : List Wr} (h : WrAt w v xs) : ∃ ao cap, v = .slice ao xs.length cap ∧ xs.length ≤ cap ∧ cap ≤ maxLen ∧
    ∀ i x, xs[i]? = some x → ∃ g o, ao = some ⟨g, o, none⟩ ∧ g < w.heap.size ∧ w.cell? ⟨g, o + i * 4, none⟩ = some (.int .i64 x.ad) ∧ w.cell? ⟨g, o + i * 4 + 1, none⟩ = some (.int .i64 x.va) ∧ w.cell? ⟨g, o + i * 4 + 2, none⟩ = some (.bool x.dn) ∧ w.cell? ⟨g, o + i * 4 + 3, none⟩ = some (.int .i64 x.wt) := SlAt.open4 h fun _ => rfl
theorem OwnWr.slot {B : Nat} {w : World} {g n cap : Nat} {xs : List Wr} (h : OwnWr B w (.slice (some ⟨g, 0, none⟩) n cap) xs) {i : Nat} {x : Wr} (hi : xs[i]? = some x) : B ≤ g ∧ g < w.heap.size ∧ w.cell? ⟨g, i * 4, none⟩ = some (.int .i64 x.ad) ∧ w.frozen? ⟨g, i * 4, none⟩ = false ∧ w.cell? ⟨g, i * 4 + 1, none⟩ = some (.int .i64 x.va) ∧ w.frozen? ⟨g, i * 4 + 1, none⟩ = false ∧ w.cell? ⟨g, i * 4 + 2, none⟩ = some (.bool x.dn) ∧ w.frozen? ⟨g, i * 4 + 2, none⟩ = false ∧ w.cell? ⟨g, i * 4 + 3, none⟩ = some (.int .i64 x.wt) ∧ w.frozen? ⟨g, i * 4 + 3, none⟩ = false := by
  obtain ⟨hB, hg, hz, hc⟩ := Own.slot h lenWr hi
  exact ⟨hB, hg, by simpa [fWr] using hc 0 (.int .i64 x.ad), hz _, by simpa [fWr] using hc 1 (.int .i64 x.va), hz _, by simpa [fWr] using hc 2 (.bool x.dn), hz _, by simpa [fWr] using hc 3 (.int .i64 x.wt), hz _⟩
def mkWr (k : Int) : Wr := ⟨k, k + 1, ((k + 1 + 1) % 3 == 0), k + 1 + 1 + 1⟩




end Go.Proofs.Ytkkebpcclklmcaa
/-
  A writer, where the seat has no slices of writers.
-/
set_option linter.unusedVariables false
set_option linter.unusedSimpArgs false
namespace Go.Proofs.Ytkkebpcclklmcaa
open Go.RowKit
end Go.Proofs.Ytkkebpcclklmcaa
