/-
  The bytes of a draw, copied behind one more.
-/
import Derived.Test.YtoopdfnpfeeanaaFrameB
import Derived.Test.YtoopdfnpfeeanaaAppend
set_option linter.unusedVariables false
set_option linter.unusedSimpArgs false
namespace Go.Proofs.Ytoopdfnpfeeanaa
open Go.ChangeShapes Go.WideShapes Go.ChangeAt Go.RowKit
def fByte (x : Int) : List Value := [.int .u8 x]
theorem elemByte : ElemT Try.prog 28 5 (.int .u8 0) 1 1 := ⟨Try.underlying28, info_parts (by kernel_rfl), rfl, by decide⟩
theorem lenByte : LenK 1 fByte := fun _ => rfl
theorem oneByte : ∀ y : Int, ∀ u ∈ fByte y, u.oneCell' = true := fun y u hu => by simp [fByte] at hu; subst hu; rfl
/-- Bytes that can be read, with their values. -/
def ByteAt (w : World) (v : Value) (xs : List Int) : Prop := SlAt 1 fByte w v xs ∧ ∀ x ∈ xs, 0 ≤ x ∧ x ≤ 255
theorem ByteAt.bytes {w : World} {v : Value} {xs : List Int} (h : ByteAt w v xs) : BytesAt w.heap.size w v xs.length := by
  obtain ⟨ao, cap, rfl, h1, h2, hr⟩ := SlAt.open1 h.1 (c0 := fun x => .int .u8 x) (fun _ => rfl)
  refine ⟨ao, cap, rfl, by unfold maxLen at h2; omega, fun j hj => ?_⟩
  obtain ⟨x, hx⟩ := getx hj
  obtain ⟨b, o, rfl, hb, hc⟩ := hr j x hx
  obtain ⟨q0, q1⟩ := h.2 x (List.mem_of_getElem? hx)
  exact ⟨b, o, x, rfl, hb, hc, q0, q1⟩
theorem ByteAt.below {w w' : World} {v : Value} {xs : List Int} (h : ByteAt w v xs) (hb : Below w.heap.size w w') : ByteAt w' v xs := ⟨h.1.below hb, h.2⟩
theorem bytes_list {R : Nat → Int → Prop} : ∀ n, (∀ i, i < n → ∃ x, R i x) → ∃ xs : List Int, xs.length = n ∧ ∀ i x, xs[i]? = some x → R i x
  | 0, _ => ⟨[], rfl, fun i x hi => by simp at hi⟩
  | n + 1, h => by
    obtain ⟨xs, hl, hx⟩ := bytes_list n (fun i hi => h i (by omega))
    obtain ⟨x, hr⟩ := h n (by omega)
    refine ⟨xs ++ [x], by simp [hl], fun i y hi => ?_⟩
    rcases Nat.lt_or_ge i n with h1 | h1
    · rw [List.getElem?_append_left (by omega)] at hi; exact hx i y hi
    · have : i = n := by have := getx_lt hi; simp [hl] at this; omega
      subst this
      rw [List.getElem?_append_right (by omega), hl] at hi
      simp at hi; subst hi; exact hr
theorem byte_open {H : Type} {enc : TypeId × Value → H} {P : Program} {W : World} {base : Nat} {t e : TypeId} {v : Value} {d : DataW H} {p : List MemPlace} (ht : P.underlying t = some (.slice e)) (he : P.underlying e = some (.int .u8)) (hC : P.cellsOf e = 1)
    (hok : Value.okWide P W .any base t v) (h : DataW.Trod enc P W 0 (fun _ => true) true t v d p) : ∃ xs, ByteAt W v xs := by
  have hB := bytes_open ht he hC hok h
  obtain ⟨ao, len, cap, rfl⟩ := okWide_slice ht hok
  obtain ⟨fuel, hf⟩ := h
  obtain ⟨n, ao', cap', hv, hn, hj⟩ := hB
  simp only [Value.slice.injEq] at hv
  obtain ⟨rfl, rfl, rfl⟩ := hv
  have hcap : len ≤ cap ∧ cap ≤ maxLen := by
    rcases open_ints ht he hC hf with ⟨hcs, _⟩ | ⟨a, len', cap', zs, hcs, h1, hl, hm, _⟩
    · simp only [Value.cells, List.cons.injEq, Value.slice.injEq, and_true] at hcs
      obtain ⟨rfl, rfl, rfl⟩ := hcs
      exact ⟨Nat.le_refl _, Nat.zero_le _⟩
    · simp only [Value.cells, List.cons.injEq, Value.slice.injEq, and_true] at hcs
      obtain ⟨rfl, rfl, rfl⟩ := hcs
      exact ⟨by omega, by omega⟩
  obtain ⟨xs, hl, hx⟩ := bytes_list (R := fun j x => ∃ (b o : Nat), ao = some ⟨b, o, none⟩ ∧ b < W.heap.size ∧ W.cell? ⟨b, o + j, none⟩ = some (.int .u8 x) ∧ 0 ≤ x ∧ x ≤ 255) len (fun j h => by obtain ⟨b, o, x, q⟩ := hj j h; exact ⟨x, b, o, q⟩)
  subst hl
  refine ⟨xs, ⟨ao, cap, rfl, hcap.1, hcap.2, fun i x hi => ?_⟩, fun x hm => ?_⟩
  · obtain ⟨b, o, rfl, hb, hc, _⟩ := hx i x hi
    refine ⟨b, o, rfl, hb, fun j u hj => ?_⟩
    match j, hj with
    | 0, hj => simp [fByte] at hj; subst hj; simpa using hc
    | j + 1, hj => simp [fByte] at hj
  · obtain ⟨i, hi⟩ := List.getElem?_of_mem hm
    obtain ⟨b, o, rfl, hb, hc, q⟩ := hx i x hi
    exact q
theorem ownByte1 (x : Int) (w : World) (g : Nat) (hg : g = w.heap.size) : Own 5 1 fByte g (w.alloc (.cells #[.int .u8 x] 5)) (.slice (some ⟨g, 0, none⟩) 1 1) [x] := by
  subst hg
  exact World.ownsRow_lit w #[.int .u8 x] 1 (Nat.le_refl _) (by unfold maxLen; omega) (by simp)
theorem ByteAt.own {E B : Nat} {w : World} {v : Value} {x : Int} {xs : List Int} (h : Own E 1 fByte B w v ([x] ++ xs)) (hx : 0 ≤ x ∧ x ≤ 255) (hxs : ∀ y ∈ xs, 0 ≤ y ∧ y ≤ 255) : ByteAt w v ([x] ++ xs) :=
  ⟨h.at lenByte, fun y hy => by rcases List.mem_append.1 hy with h1 | h1
                                · simp at h1; subst h1; exact hx
                                · exact hxs y h1⟩
end Go.Proofs.Ytoopdfnpfeeanaa
