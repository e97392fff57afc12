/-
  Texts put together: Own.
-/
import Derived.Test.YtkkebpcclklmcaaGB1
/-
  Slices of the call's own, of whatever element: what they hold is a plain list, each element laid in k cells by a function f. After the library's 'ownsRow'.
-/
set_option linter.unusedVariables false
set_option linter.unusedSimpArgs false
namespace Go.Proofs.Ytkkebpcclklmcaa
open Go.RowKit
/-- The row of an element type: T the slice's type, E the element's, z its zero value, k its cells, by its bytes. -/
structure ElemT (P : Program) (T E : TypeId) (z : Value) (k bytes : Nat) : Prop where
  und : P.underlying T = some (.slice E)
  info : ∃ i, P.info? E = some i ∧ i.zero = some z ∧ i.size = k ∧ i.bytes = bytes
  zc : z.cells.size = k
  pos : 0 < k
theorem grown_refl (w : World) (r : Option Nat) : w.grownBy w r := ⟨rfl, rfl, rfl, Nat.le_refl _, fun _ _ _ => rfl⟩
theorem grown_trans {a b c : World} {r : Option Nat} (h : a.grownBy b r) (k : b.grownBy c r) : a.grownBy c r :=
  ⟨k.os.trans h.os, k.tape.trans h.tape, k.output.trans h.output, Nat.le_trans h.size k.size, fun i hi hr => (k.block i (Nat.lt_of_lt_of_le hi h.size) hr).trans (h.block i hi hr)⟩
theorem grown_below {a b c : World} {r : Option Nat} (h : a.grownBy b r) (k : Below b.heap.size b c) : a.grownBy c r :=
  grown_trans h ⟨k.os, k.tape, k.output, k.size, fun i hi _ => k.block i hi⟩
theorem grown_setCell {a b : World} {g : Nat} (h : a.grownBy b (some g)) (o : Nat) (v : Value) : a.grownBy (b.setCell ⟨g, o, none⟩ v) (some g) :=
  grown_trans h ⟨rfl, rfl, rfl, by simp, fun i hi hr => Below.heap_setCell _ _ _ _ (fun e => hr (by simp [e]))⟩
theorem below_of_grown {a b : World} {g B : Nat} (h : a.grownBy b (some g)) (hB : B ≤ g) (hz : B ≤ a.heap.size) : Below B a b :=
  ⟨h.os, h.tape, h.output, h.size, fun k hk => h.block k (by omega) (by simp; omega)⟩

variable {α : Type}
/-- The slice value v owns the elements xs, in a block from B on. -/
def Own (E k : Nat) (f : α → List Value) (B : Nat) (w : World) (v : Value) (xs : List α) : Prop := w.ownsRow B E k v xs.length (xs.flatMap f)
def LenK (k : Nat) (f : α → List Value) : Prop := ∀ x, (f x).length = k
theorem flat_len {k : Nat} {f : α → List Value} (hf : LenK k f) (xs : List α) : (xs.flatMap f).length = xs.length * k := by
  induction xs with
  | nil => simp
  | cons x xs ih => rw [List.flatMap_cons, List.length_append, hf, ih, List.length_cons, Nat.add_mul]; omega
theorem flat_get {k : Nat} {f : α → List Value} (hf : LenK k f) (xs : List α) (i j : Nat) (hi : i < xs.length) (hj : j < k) : (xs.flatMap f)[i * k + j]? = (f xs[i])[j]? := by
  induction xs generalizing i with
  | nil => simp at hi
  | cons x xs ih =>
    rw [List.flatMap_cons]
    cases i with
    | zero => rw [List.getElem?_append_left (by rw [hf]; omega)]; simp
    | succ i =>
      rw [List.getElem?_append_right (by rw [hf, Nat.add_mul]; omega), hf, show (i + 1) * k + j - k = i * k + j by rw [Nat.add_mul]; omega]
      simpa using ih i (by simpa using hi)
section
variable {E k : Nat} {f : α → List Value} {B : Nat} {w w' : World} {v : Value} {xs : List α}
theorem Own.nil (E k : Nat) (f : α → List Value) (B : Nat) (w : World) : Own E k f B w (.slice none 0 0) [] := World.ownsRow_nil w B E k
/-- '[]T{}': an empty block. -/
theorem Own.empty (E k : Nat) (f : α → List Value) (B : Nat) (w : World) (hB : B ≤ w.heap.size) : Own E k f B (w.alloc (.cells #[] E)) (.slice (some ⟨w.heap.size, 0, none⟩) 0 0) [] :=
  World.ownsRow_lit w #[] 0 hB (Nat.zero_le _) (by simp)
theorem Own.empty' (E k : Nat) (f : α → List Value) (B : Nat) (w : World) (g : Nat) (hg : g = w.heap.size) (hB : B ≤ w.heap.size) : Own E k f B (w.alloc (.cells #[] E)) (.slice (some ⟨g, 0, none⟩) 0 0) [] := by
  subst hg; exact Own.empty E k f B w hB
theorem Own.kept (h : Own E k f B w v xs) (hs : ∀ g, v.ownBlock = some g → w'.heap[g]? = w.heap[g]?) : Own E k f B w' v xs := by
  refine ⟨h.1, ?_⟩
  rcases h.2 with hn | ⟨g, cap, cur, rfl, hb, hgg, rest⟩
  · exact .inl hn
  · exact .inr ⟨g, cap, cur, rfl, hb, by rw [hs g rfl]; exact hgg, rest⟩
theorem Own.lt (h : Own E k f B w v xs) : ∀ g, v.ownBlock = some g → B ≤ g ∧ g < w.heap.size := World.ownsRow.lt h
theorem Own.below (h : Own E k f B w v xs) (hb : Below w.heap.size w w') : Own E k f B w' v xs := h.kept fun g hg => hb.block g (h.lt g hg).2
/-- Another row has been written. -/
theorem Own.other {β : Type} {E' k' B' : Nat} {f' : β → List Value} {v' : Value} {ys : List β} (h : Own E k f B w v xs) (h' : Own E' k' f' B' w v' ys) (hlt : ∀ g, v.ownBlock = some g → g < B') (hgr : w.grownBy w' v'.ownBlock) : Own E k f B w' v xs :=
  h.kept fun g hg => hgr.block g (h.lt g hg).2 (fun e => by have h1 := (h'.lt g e.symm).1; have h2 := hlt g hg; omega)
theorem Own.belowOf (h : Own E k f B w v xs) (hgr : w.grownBy w' v.ownBlock) (hB : B ≤ w.heap.size) : Below B w w' := (Below.refl B w).grown hgr hB fun g hg => (h.lt g hg).1
theorem Own.alloc (h : Own E k f B w v xs) (o : Obj) : Own E k f B (w.alloc o) v xs := World.ownsRow.alloc h o
theorem Own.mono {B' : Nat} (h : Own E k f B w v xs) (hB : B' ≤ B) : Own E k f B' w v xs := by
  refine ⟨h.1, ?_⟩
  rcases h.2 with hn | ⟨g, cap, cur, rfl, hb, hgg, rest⟩
  · exact .inl hn
  · exact .inr ⟨g, cap, cur, rfl, Nat.le_trans hB hb, hgg, rest⟩
theorem Own.drew (h : Own E k f B w v xs) : Own E k f B w.drew v xs := h
/-- A store elsewhere. -/
theorem Own.setCell (h : Own E k f B w v xs) (a : Addr) (u : Value) (hne : v.ownBlock ≠ some a.block) : Own E k f B (w.setCell a u) v xs :=
  h.kept fun g hg => Below.heap_setCell _ _ _ _ (fun e => hne (by rw [hg, e]))
/-- What can be read of it. -/
theorem Own.read (h : Own E k f B w v xs) (hf : LenK k f) : ∃ ao cap, v = .slice ao xs.length cap ∧ xs.length ≤ cap ∧ cap ≤ maxLen ∧ ∀ i (hi : i < xs.length), ∃ g, ao = some ⟨g, 0, none⟩ ∧ B ≤ g ∧ g < w.heap.size ∧ (∀ o, w.frozen? ⟨g, o, none⟩ = false) ∧ ∀ j, j < k → w.cell? ⟨g, i * k + j, none⟩ = (f xs[i])[j]? := by
  have h0 := h
  rcases h.2 with ⟨rfl, hn⟩ | ⟨g, cap, cur, rfl, hb, hgg, hnc, hcm, hrest⟩
  · exact ⟨none, 0, by rw [hn], by omega, Nat.zero_le _, fun i hi => by omega⟩
  · refine ⟨_, cap, rfl, hnc, hcm, fun i hi => ⟨g, rfl, hb, (Array.getElem?_eq_some_iff.1 hgg).1, fun o => World.ownsRow.frozenAt h0 o, fun j hj => ?_⟩⟩
    have hle : (i + 1) * k ≤ xs.length * k := Nat.mul_le_mul_right _ hi
    rw [Nat.add_mul] at hle
    rw [World.ownsRow.cellAt h0 _ (by omega), flat_get hf xs i j hi hj]
/-- Its length, whatever its address. -/
theorem Own.shape (h : Own E k f B w v xs) : ∃ ao cap, v = .slice ao xs.length cap ∧ xs.length ≤ cap ∧ cap ≤ maxLen ∧ (ao = none ∨ ∃ g, ao = some ⟨g, 0, none⟩ ∧ B ≤ g ∧ g < w.heap.size) := by
  rcases h.2 with ⟨rfl, hn⟩ | ⟨g, cap, cur, rfl, hb, hgg, hnc, hcm, hrest⟩
  · exact ⟨none, 0, by rw [hn], by omega, Nat.zero_le _, .inl rfl⟩
  · exact ⟨_, cap, rfl, hnc, hcm, .inr ⟨g, rfl, hb, (Array.getElem?_eq_some_iff.1 hgg).1⟩⟩
end
section
variable {P : Program} {ops : Array Oper} {rest : List Oper} {o : Oper} {a : Act} {Q : Exit → Act → World → Prop} {w : World}
/-- 'append(s, y)': s a slice of the call's own, y laid in a new block ahead of it. Behind it below B nothing has turned. -/
theorem append1 {T E : TypeId} {z : Value} {k bytes : Nat} (ht : ElemT P T E z k bytes) (hgd : o.guard = none) (s x : Operand) (ho : o.op = .call { callee := .builtin .append, args := #[s, x], argTypes := #[T, T] })
    {f : α → List Value} (hf : LenK k f) (h1c : ∀ y, ∀ u ∈ f y, u.oneCell' = true) {B : Nat} {v : Value} {xs : List α} (hs : a.eval s = v) (hown : Own E k f B w v xs) (hB : B ≤ w.heap.size) {g c : Nat} (hx : a.eval x = .slice (some ⟨g, 0, none⟩) 1 c)
    (y : α) (hcell : ∀ j u, (f y)[j]? = some u → w.cell? ⟨g, j, none⟩ = some u) (hlen : xs.length + 1 ≤ maxLen ∧ (xs.length + 1) * bytes ≤ 140737488355328)
    (h : ∀ v' w', Own E k f B w' v' (xs ++ [y]) → w.grownBy w' v.ownBlock → Below B w w' → wpList P ops Q rest (a.put o.dst v') w') : wpList P ops Q (o :: rest) a w := by
  obtain ⟨i, hi, hz, hk, hby⟩ := ht.info
  refine wpList_append_own (P := P) w hgd s x T ho B E i z k bytes ht.und hi hz hk hby ht.zc ht.pos v xs.length (xs.flatMap f) hs hown ⟨g, 0, none⟩ 1 c (f y) hx (by rw [hf]; omega) (fun j u hj => ?_) (h1c y) hlen.1 hlen.2 hB fun v' w' h2 h3 _ => ?_
  · have hadd : (⟨g, 0, none⟩ : Addr).add j = ⟨g, j, none⟩ := by unfold Addr.add; split <;> simp_all
    rw [hadd]; exact hcell j u hj
  · have hbel : Below B w w' := (Below.refl B w).grown h3 hB fun k hk => (hown.lt k hk).1
    refine h v' w' ?_ h3 hbel
    unfold Own
    simpa [List.flatMap_append] using h2
end
end Go.Proofs.Ytkkebpcclklmcaa
