/-
  Texts put together: Mem, Marks.
-/
import Derived.Test.YtkkebpcclklmcaaGB2
/-
  Slices that are read where they lie, slices of slices, and what stays when other blocks are written. No Go text is named here.
-/
set_option linter.unusedVariables false
set_option linter.unusedSimpArgs false
namespace Go.Proofs.Ytkkebpcclklmcaa
open Go.RowKit
variable {α β : Type}
theorem take_snoc {xs : List α} {k : Nat} {x : α} (h : xs[k]? = some x) : xs.take (k + 1) = xs.take k ++ [x] := by
  rw [List.take_add_one, h]; rfl
theorem getx {xs : List α} {k : Nat} (h : k < xs.length) : ∃ x, xs[k]? = some x := ⟨xs[k], List.getElem?_eq_getElem h⟩
theorem getx_lt {xs : List α} {k : Nat} {x : α} (h : xs[k]? = some x) : k < xs.length := (List.getElem?_eq_some_iff.1 h).1
theorem getD_of {xs : List α} {k : Nat} {x d : α} (h : xs[k]? = some x) : xs.getD k d = x := by rw [List.getD_eq_getElem?_getD, h]; rfl
/-- All numbers below k have p. -/
def allTo (p : Nat → Bool) : Nat → Bool
  | 0 => true
  | k + 1 => allTo p k && p k
theorem allTo_false {p : Nat → Bool} {k n : Nat} (hk : k < n) (hp : p k = false) : allTo p n = false := by
  induction n with
  | zero => omega
  | succ n ih =>
    rw [allTo]
    rcases Nat.lt_or_ge k n with h | h
    · rw [ih h]; rfl
    · obtain rfl : k = n := by omega
      rw [hp, Bool.and_false]
theorem allTo_iff {p : Nat → Bool} {n : Nat} : allTo p n = true ↔ ∀ k, k < n → p k = true := by
  induction n with
  | zero => simp [allTo]
  | succ n ih =>
    rw [allTo, Bool.and_eq_true, ih]
    constructor
    · rintro ⟨h, h0⟩ k hk
      rcases Nat.lt_or_ge k n with h1 | h1
      · exact h k h1
      · obtain rfl : k = n := by omega
        exact h0
    · exact fun h => ⟨fun k hk => h k (by omega), h n (by omega)⟩

/-- A slice whose elements lie in k cells each: they can be read. -/
def SlAt (k : Nat) (f : α → List Value) (w : World) (v : Value) (xs : List α) : Prop := ∃ ao cap, v = .slice ao xs.length cap ∧ xs.length ≤ cap ∧ cap ≤ maxLen ∧
  ∀ i x, xs[i]? = some x → ∃ g o, ao = some ⟨g, o, none⟩ ∧ g < w.heap.size ∧ ∀ j u, (f x)[j]? = some u → w.cell? ⟨g, o + i * k + j, none⟩ = some u
section
variable {k : Nat} {f : α → List Value} {w w' : World} {v : Value} {xs : List α} {c0 c1 c2 c3 : α → Value}
theorem SlAt.below (h : SlAt k f w v xs) (hb : Below w.heap.size w w') : SlAt k f w' v xs := by
  obtain ⟨ao, cap, rfl, h1, h2, hr⟩ := h
  refine ⟨ao, cap, rfl, h1, h2, fun i x hi => ?_⟩
  obtain ⟨g, o, rfl, hg, c⟩ := hr i x hi
  have := hb.size
  exact ⟨g, o, rfl, by omega, fun j u hj => (hb.cell (p := ⟨g, o + i * k + j, none⟩) hg).trans (c j u hj)⟩
theorem SlAt.open1 (h : SlAt 1 f w v xs) (hf : ∀ x, f x = [c0 x]) : ∃ ao cap, v = .slice ao xs.length cap ∧ xs.length ≤ cap ∧ cap ≤ maxLen ∧
    ∀ i x, xs[i]? = some x → ∃ g o, ao = some ⟨g, o, none⟩ ∧ g < w.heap.size ∧ w.cell? ⟨g, o + i, none⟩ = some (c0 x) := by
  obtain ⟨ao, cap, rfl, h1, h2, hr⟩ := h
  refine ⟨ao, cap, rfl, h1, h2, fun i x hi => ?_⟩
  obtain ⟨g, o, rfl, hg, c⟩ := hr i x hi
  exact ⟨g, o, rfl, hg, by simpa [hf] using c 0 (c0 x)⟩
theorem SlAt.open2 (h : SlAt 2 f w v xs) (hf : ∀ x, f x = [c0 x, c1 x]) : ∃ ao cap, v = .slice ao xs.length cap ∧ xs.length ≤ cap ∧ cap ≤ maxLen ∧
    ∀ i x, xs[i]? = some x → ∃ g o, ao = some ⟨g, o, none⟩ ∧ g < w.heap.size ∧ w.cell? ⟨g, o + i * 2, none⟩ = some (c0 x) ∧ w.cell? ⟨g, o + i * 2 + 1, none⟩ = some (c1 x) := by
  obtain ⟨ao, cap, rfl, h1, h2, hr⟩ := h
  refine ⟨ao, cap, rfl, h1, h2, fun i x hi => ?_⟩
  obtain ⟨g, o, rfl, hg, c⟩ := hr i x hi
  exact ⟨g, o, rfl, hg, by simpa [hf] using c 0 (c0 x), by simpa [hf] using c 1 (c1 x)⟩
theorem SlAt.open3 (h : SlAt 3 f w v xs) (hf : ∀ x, f x = [c0 x, c1 x, c2 x]) : ∃ ao cap, v = .slice ao xs.length cap ∧ xs.length ≤ cap ∧ cap ≤ maxLen ∧
    ∀ i x, xs[i]? = some x → ∃ g o, ao = some ⟨g, o, none⟩ ∧ g < w.heap.size ∧ w.cell? ⟨g, o + i * 3, none⟩ = some (c0 x) ∧ w.cell? ⟨g, o + i * 3 + 1, none⟩ = some (c1 x) ∧ w.cell? ⟨g, o + i * 3 + 2, none⟩ = some (c2 x) := by
  obtain ⟨ao, cap, rfl, h1, h2, hr⟩ := h
  refine ⟨ao, cap, rfl, h1, h2, fun i x hi => ?_⟩
  obtain ⟨g, o, rfl, hg, c⟩ := hr i x hi
  exact ⟨g, o, rfl, hg, by simpa [hf] using c 0 (c0 x), by simpa [hf] using c 1 (c1 x), by simpa [hf] using c 2 (c2 x)⟩
theorem SlAt.open4 (h : SlAt 4 f w v xs) (hf : ∀ x, f x = [c0 x, c1 x, c2 x, c3 x]) : ∃ ao cap, v = .slice ao xs.length cap ∧ xs.length ≤ cap ∧ cap ≤ maxLen ∧
    ∀ i x, xs[i]? = some x → ∃ g o, ao = some ⟨g, o, none⟩ ∧ g < w.heap.size ∧ w.cell? ⟨g, o + i * 4, none⟩ = some (c0 x) ∧ w.cell? ⟨g, o + i * 4 + 1, none⟩ = some (c1 x) ∧ w.cell? ⟨g, o + i * 4 + 2, none⟩ = some (c2 x) ∧ w.cell? ⟨g, o + i * 4 + 3, none⟩ = some (c3 x) := by
  obtain ⟨ao, cap, rfl, h1, h2, hr⟩ := h
  refine ⟨ao, cap, rfl, h1, h2, fun i x hi => ?_⟩
  obtain ⟨g, o, rfl, hg, c⟩ := hr i x hi
  exact ⟨g, o, rfl, hg, by simpa [hf] using c 0 (c0 x), by simpa [hf] using c 1 (c1 x), by simpa [hf] using c 2 (c2 x), by simpa [hf] using c 3 (c3 x)⟩
theorem SlAt.shape (h : SlAt k f w v xs) : ∃ ao cap, v = .slice ao xs.length cap ∧ xs.length ≤ cap ∧ cap ≤ maxLen := by
  obtain ⟨ao, cap, rfl, h1, h2, _⟩ := h
  exact ⟨ao, cap, rfl, h1, h2⟩
theorem SlAt.len (h : SlAt k f w v xs) : xs.length ≤ maxLen := by obtain ⟨ao, cap, rfl, h1, h2, _⟩ := h; omega
/-- The beginning of it. -/
theorem SlAt.take {ao : Option Addr} {n cap : Nat} (h : SlAt k f w (.slice ao n cap) xs) (m : Nat) (hm : m ≤ xs.length) : SlAt k f w (.slice ao m cap) (xs.take m) := by
  obtain ⟨ao', cap', he, h1, h2, hr⟩ := h
  simp only [Value.slice.injEq] at he
  obtain ⟨rfl, rfl, rfl⟩ := he
  have hl : (xs.take m).length = m := by simp; omega
  refine ⟨ao, cap, by rw [hl], by omega, h2, fun i x hi => ?_⟩
  rw [List.getElem?_take] at hi
  split at hi
  · exact hr i x hi
  · cases hi
/-- A slice of the call's own can be read. -/
theorem Own.at {E B : Nat} (h : Own E k f B w v xs) (hf : LenK k f) : SlAt k f w v xs := by
  obtain ⟨ao, cap, rfl, h1, h2, hr⟩ := h.read hf
  refine ⟨ao, cap, rfl, h1, h2, fun i x hi => ?_⟩
  have hlt := getx_lt hi
  obtain ⟨g, rfl, hB, hg, _, hc⟩ := hr i hlt
  have hx : xs[i] = x := by rw [List.getElem?_eq_getElem hlt] at hi; exact Option.some.inj hi
  refine ⟨g, 0, rfl, hg, fun j u hj => ?_⟩
  have hjk : j < k := by rw [← hf x]; exact getx_lt hj
  rw [Nat.zero_add, hc j hjk, hx, hj]
/-- What stands at one element of it, and that it may be written. -/
theorem Own.slot {E B g n cap : Nat} (h : Own E k f B w (.slice (some ⟨g, 0, none⟩) n cap) xs) (hf : LenK k f) {i : Nat} {x : α} (hi : xs[i]? = some x) :
    B ≤ g ∧ g < w.heap.size ∧ (∀ o, w.frozen? ⟨g, o, none⟩ = false) ∧ ∀ j u, (f x)[j]? = some u → w.cell? ⟨g, i * k + j, none⟩ = some u := by
  obtain ⟨ao, ca, he, _, _, hr⟩ := h.read hf
  have hlt := getx_lt hi
  obtain ⟨g', he', hB, hg', hz', hc'⟩ := hr i hlt
  simp only [Value.slice.injEq] at he
  obtain ⟨rfl, _, rfl⟩ := he
  simp only [Option.some.injEq, Addr.mk.injEq, and_true] at he'
  obtain rfl := he'
  have hx : xs[i] = x := by rw [List.getElem?_eq_getElem hlt] at hi; exact Option.some.inj hi
  refine ⟨hB, hg', hz', fun j u hj => ?_⟩
  rw [hc' j (by rw [← hf x]; exact getx_lt hj), hx, hj]
/-- Its address, if it holds an element. -/
theorem Own.addr {E B : Nat} (h : Own E k f B w v xs) (hpos : 0 < xs.length) : ∃ g cap, v = .slice (some ⟨g, 0, none⟩) xs.length cap ∧ B ≤ g ∧ g < w.heap.size := by
  rcases h.2 with ⟨rfl, hn⟩ | ⟨g, cap, cur, rfl, hb, hgg, rest⟩
  · omega
  · exact ⟨g, cap, rfl, hb, (Array.getElem?_eq_some_iff.1 hgg).1⟩
end

/-! What a step may have written. -/
/-- Of the blocks that were there only those of S may have turned. -/
structure Touch (S : List Nat) (w w' : World) : Prop where
  os : w'.os = w.os
  tape : w'.tape = w.tape
  output : w'.output = w.output
  size : w.heap.size ≤ w'.heap.size
  block : ∀ k, k < w.heap.size → k ∉ S → w'.heap[k]? = w.heap[k]?
section
variable {S S' : List Nat} {w w' w'' : World}
theorem Touch.refl (S : List Nat) (w : World) : Touch S w w := ⟨rfl, rfl, rfl, Nat.le_refl _, fun _ _ _ => rfl⟩
theorem Touch.trans (h : Touch S w w') (h' : Touch S w' w'') : Touch S w w'' :=
  ⟨h'.os.trans h.os, h'.tape.trans h.tape, h'.output.trans h.output, Nat.le_trans h.size h'.size, fun k hk hS => (h'.block k (Nat.lt_of_lt_of_le hk h.size) hS).trans (h.block k hk hS)⟩
theorem Touch.mono (h : Touch S w w') (hs : ∀ g ∈ S, g ∈ S') : Touch S' w w' := ⟨h.os, h.tape, h.output, h.size, fun k hk hS => h.block k hk fun hg => hS (hs k hg)⟩
theorem touch_of_below (h : Below w.heap.size w w') (S : List Nat) : Touch S w w' := ⟨h.os, h.tape, h.output, h.size, fun k hk _ => h.block k hk⟩
theorem grown_touch {r : Option Nat} (h : w.grownBy w' r) (hs : ∀ g, r = some g → g ∈ S) : Touch S w w' := ⟨h.os, h.tape, h.output, h.size, fun k hk hS => h.block k hk fun e => hS (hs k e.symm)⟩
theorem Touch.toBelow {B : Nat} (h : Touch S w w') (hS : ∀ g ∈ S, B ≤ g) (hB : B ≤ w.heap.size) : Below B w w' :=
  ⟨h.os, h.tape, h.output, h.size, fun k hk => h.block k (by omega) fun hg => by have := hS k hg; omega⟩
theorem Touch.cell (h : Touch S w w') {g o : Nat} (hg : g < w.heap.size) (hS : g ∉ S) : w'.cell? ⟨g, o, none⟩ = w.cell? ⟨g, o, none⟩ := World.cell?_of_block (w := w) (h.block g hg hS)
theorem Touch.frozen (h : Touch S w w') {g o : Nat} (hg : g < w.heap.size) (hS : g ∉ S) : w'.frozen? ⟨g, o, none⟩ = w.frozen? ⟨g, o, none⟩ := World.frozen?_of_block (w := w) (h.block g hg hS)
theorem Own.touch {E k B : Nat} {f : α → List Value} {v : Value} {xs : List α} (h : Own E k f B w v xs) (ht : Touch S w w') (hne : ∀ g, v.ownBlock = some g → g ∉ S) : Own E k f B w' v xs :=
  h.kept fun g hg => ht.block g (h.lt g hg).2 (hne g hg)
end
/-- The blocks of slices of the call's own. -/
def blocks (l : List Value) : List Nat := l.filterMap Value.ownBlock
theorem mem_blocks {l : List Value} {g : Nat} : g ∈ blocks l ↔ ∃ v ∈ l, v.ownBlock = some g := by simp [blocks]
theorem blocks_append (l m : List Value) : blocks (l ++ m) = blocks l ++ blocks m := by simp [blocks, List.filterMap_append]
theorem blocks_sub {l m : List Value} (h : ∀ v ∈ l, v ∈ m) : ∀ g ∈ blocks l, g ∈ blocks m := by
  intro g hg
  obtain ⟨v, hv, hb⟩ := mem_blocks.1 hg
  exact mem_blocks.2 ⟨v, h v hv, hb⟩
theorem nodup_blocks {l m : List Value} (hl : (blocks l).Nodup) (hm : (blocks m).Nodup) (hd : ∀ g ∈ blocks l, g ∉ blocks m) : (blocks (l ++ m)).Nodup := by
  rw [blocks_append, List.nodup_append]
  exact ⟨hl, hm, fun a ha b hb e => hd a ha (e ▸ hb)⟩
theorem nodup_left {l m : List Value} (h : (blocks (l ++ m)).Nodup) : (blocks l).Nodup := by rw [blocks_append, List.nodup_append] at h; exact h.1
theorem nodup_right {l m : List Value} (h : (blocks (l ++ m)).Nodup) : (blocks m).Nodup := by rw [blocks_append, List.nodup_append] at h; exact h.2.1
theorem nodup_apart {l m : List Value} (h : (blocks (l ++ m)).Nodup) : ∀ g ∈ blocks l, g ∉ blocks m := by rw [blocks_append, List.nodup_append] at h; exact fun g hg hm => h.2.2 g hg g hm rfl
theorem nodup_one (v : Value) : (blocks [v]).Nodup := by unfold blocks; simp only [List.filterMap]; split <;> simp
/-- Two numbers of one list without doubles. -/
theorem nodup_at {vs : List Value} (h : (blocks vs).Nodup) {i j : Nat} {a b : Value} {g : Nat} (hi : vs[i]? = some a) (hj : vs[j]? = some b) (ha : a.ownBlock = some g) (hb : b.ownBlock = some g) : i = j := by
  induction vs generalizing i j with
  | nil => simp at hi
  | cons v vs ih =>
    have hcons : blocks (v :: vs) = blocks [v] ++ blocks vs := by rw [← blocks_append]; rfl
    have h2 : (blocks ([v] ++ vs)).Nodup := h
    have hap := nodup_apart h2
    have htl := nodup_right h2
    cases i with
    | zero =>
      cases j with
      | zero => rfl
      | succ j =>
        simp only [List.getElem?_cons_zero, Option.some.injEq] at hi
        simp only [List.getElem?_cons_succ] at hj
        subst hi
        exact absurd (mem_blocks.2 ⟨b, List.mem_of_getElem? hj, hb⟩) (hap g (mem_blocks.2 ⟨v, by simp, ha⟩))
    | succ i =>
      simp only [List.getElem?_cons_succ] at hi
      cases j with
      | zero =>
        simp only [List.getElem?_cons_zero, Option.some.injEq] at hj
        subst hj
        exact absurd (mem_blocks.2 ⟨a, List.mem_of_getElem? hi, ha⟩) (hap g (mem_blocks.2 ⟨v, by simp, hb⟩))
      | succ j =>
        simp only [List.getElem?_cons_succ] at hj
        rw [ih htl hi hj]

/-! Slices of slices. -/
def fVal (v : Value) : List Value := [v]
theorem lenVal : LenK 1 fVal := fun _ => rfl
/-- vs are the slices of c, and they read as the rows. -/
structure RowsAt (f : α → List Value) (w : World) (c : Value) (vs : List Value) (rows : List (List α)) : Prop where
  out : SlAt 1 fVal w c vs
  len : vs.length = rows.length
  row : ∀ (i : Nat) (v : Value) (r : List α), vs[i]? = some v → rows[i]? = some r → SlAt 1 f w v r
theorem RowsAt.below {f : α → List Value} {w w' : World} {c : Value} {vs : List Value} {rows : List (List α)} (h : RowsAt f w c vs rows) (hb : Below w.heap.size w w') : RowsAt f w' c vs rows :=
  ⟨h.out.below hb, h.len, fun i v r hv hr => (h.row i v r hv hr).below hb⟩
structure OwnRows (ES E : Nat) (f : α → List Value) (B : Nat) (w : World) (c : Value) (vs : List Value) (rows : List (List α)) : Prop where
  out : Own ES 1 fVal B w c vs
  len : vs.length = rows.length
  row : ∀ (i : Nat) (v : Value) (r : List α), vs[i]? = some v → rows[i]? = some r → Own E 1 f B w v r
section
variable {ES E : Nat} {f : α → List Value} {B B' : Nat} {w w' : World} {c : Value} {vs : List Value} {rows : List (List α)} {S : List Nat}
theorem OwnRows.at (h : OwnRows ES E f B w c vs rows) (hf : LenK 1 f) : RowsAt f w c vs rows := ⟨h.out.at lenVal, h.len, fun i v r hv hr => (h.row i v r hv hr).at hf⟩
theorem OwnRows.rowAt (h : OwnRows ES E f B w c vs rows) {v : Value} (hv : v ∈ vs) : ∃ r ∈ rows, Own E 1 f B w v r := by
  obtain ⟨i, hi⟩ := List.getElem?_of_mem hv
  have hlt := getx_lt hi
  rw [h.len] at hlt
  obtain ⟨r, hr⟩ := getx hlt
  exact ⟨r, List.mem_of_getElem? hr, h.row i v r hi hr⟩
theorem OwnRows.lt (h : OwnRows ES E f B w c vs rows) : ∀ g ∈ blocks (c :: vs), B ≤ g ∧ g < w.heap.size := by
  intro g hg
  obtain ⟨v, hv, hb⟩ := mem_blocks.1 hg
  rcases List.mem_cons.1 hv with rfl | hv
  · exact h.out.lt g hb
  · obtain ⟨r, _, ho⟩ := h.rowAt hv
    exact ho.lt g hb
theorem OwnRows.touch (h : OwnRows ES E f B w c vs rows) (ht : Touch S w w') (hne : ∀ g ∈ blocks (c :: vs), g ∉ S) : OwnRows ES E f B w' c vs rows :=
  ⟨h.out.touch ht fun g hg => hne g (mem_blocks.2 ⟨c, by simp, hg⟩), h.len, fun i v r hv hr => (h.row i v r hv hr).touch ht fun g hg => hne g (mem_blocks.2 ⟨v, List.mem_cons_of_mem _ (List.mem_of_getElem? hv), hg⟩)⟩
theorem OwnRows.below (h : OwnRows ES E f B w c vs rows) (hb : Below w.heap.size w w') : OwnRows ES E f B w' c vs rows := h.touch (touch_of_below hb []) (by simp)
theorem OwnRows.mono (h : OwnRows ES E f B w c vs rows) (hB : B' ≤ B) : OwnRows ES E f B' w c vs rows := ⟨h.out.mono hB, h.len, fun i v r hv hr => (h.row i v r hv hr).mono hB⟩
/-- One row has been written: the others stay. -/
theorem OwnRows.setRow (h : OwnRows ES E f B w c vs rows) (hnd : (blocks (c :: vs)).Nodup) {i : Nat} {v : Value} (hi : vs[i]? = some v) {r' : List α} (hgr : w.grownBy w' v.ownBlock) (ho : Own E 1 f B w' v r') : OwnRows ES E f B w' c vs (rows.set i r') := by
  have hnd2 : (blocks ([c] ++ vs)).Nodup := hnd
  have hap := nodup_apart hnd2
  have hnv := nodup_right hnd2
  refine ⟨h.out.kept fun g hg => hgr.block g (h.out.lt g hg).2 fun e => ?_, by rw [List.length_set]; exact h.len, fun j u r hu hr => ?_⟩
  · exact hap g (mem_blocks.2 ⟨c, by simp, hg⟩) (mem_blocks.2 ⟨v, List.mem_of_getElem? hi, e.symm⟩)
  · rw [List.getElem?_set] at hr
    split at hr
    · rename_i e
      subst e
      rw [hi] at hu
      cases hu
      split at hr
      · cases hr; exact ho
      · cases hr
    · rename_i hne
      exact (h.row j u r hu hr).kept fun g hg => hgr.block g ((h.row j u r hu hr).lt g hg).2 fun e => hne (nodup_at hnv hi hu e.symm hg)
end
end Go.Proofs.Ytkkebpcclklmcaa
/-
  The marks of the laws, as plain lists.
-/
set_option linter.unusedVariables false
set_option linter.unusedSimpArgs false
namespace Go.Proofs.Ytkkebpcclklmcaa
open Go.RowKit
variable {α : Type} {mk : Int → α} {s k : Int} {xs : List α} {j : Nat}
def marksG (mk : Int → α) (s k : Int) (n : Nat) : List α := (List.range n).map fun (i : Nat) => mk (k + s * (i : Int))
theorem marksG_len (mk : Int → α) (s k : Int) (n : Nat) : (marksG mk s k n).length = n := by simp [marksG]
theorem marksG_get (mk : Int → α) (s k : Int) {n i : Nat} (h : i < n) : (marksG mk s k n)[i]? = some (mk (k + s * i)) := by
  rw [List.getElem?_eq_getElem (by rw [marksG_len]; exact h)]; simp [marksG]
def mixG (mk : Int → α) (s k : Int) (xs : List α) (j : Nat) : List α := marksG mk s k j ++ xs.drop j
theorem mixG_len (h : j ≤ xs.length) : (mixG mk s k xs j).length = xs.length := by simp [mixG, marksG_len]; omega
theorem mixG_set (h : j < xs.length) : (mixG mk s k xs j).set j (mk (k + s * j)) = mixG mk s k xs (j + 1) := by
  unfold mixG
  rw [List.set_append_right _ _ (by rw [marksG_len]; exact Nat.le_refl _), marksG_len, Nat.sub_self, List.drop_eq_getElem_cons h, List.set_cons_zero]
  simp [marksG, List.range_succ]
theorem mixG_full (mk : Int → α) (s k : Int) (xs : List α) : mixG mk s k xs xs.length = marksG mk s k xs.length := by simp [mixG]
end Go.Proofs.Ytkkebpcclklmcaa
