/-
  Texts put together: Base, Own, Mem, Marks, Tail.
-/
import Derived.Test.YtobechjagckdfaaRows
import Derived.WalkKit
import Derived.BigQuiet
import Derived.Lib.Hide
import Derived.StillTail
/-
  Small plain facts on worlds and on integers, for the walks of this seat. No Go text is named here.
-/
set_option linter.unusedVariables false
set_option linter.unusedSimpArgs false
namespace Go.Proofs.Ytobechjagckdfaa
open Go.RowKit

/-- Old cells and old marks read as before. -/
theorem bcell {W w1 : World} (hb : Below W.heap.size W w1) : (∀ b o, b < W.heap.size → w1.cell? ⟨b, o, none⟩ = W.cell? ⟨b, o, none⟩) ∧ (∀ b o, b < W.heap.size → w1.frozen? ⟨b, o, none⟩ = W.frozen? ⟨b, o, none⟩) :=
  ⟨fun b o h => hb.cell (p := ⟨b, o, none⟩) h, fun b o h => hb.frozen (p := ⟨b, o, none⟩) h⟩

/-- A WORLD THAT HAS GROWN OUT OF w: all that was there reads as it did. The class of worlds of a region that draws its order and whose callees make memory of their own. -/
structure Grew (w : World) where
  to : World
  below : Below w.heap.size w to
theorem Grew.cell {w : World} (g : Grew w) (b o : Nat) (h : b < w.heap.size) : g.to.cell? ⟨b, o, none⟩ = w.cell? ⟨b, o, none⟩ := g.below.cell (p := ⟨b, o, none⟩) h
theorem Grew.frozen {w : World} (g : Grew w) (b o : Nat) (h : b < w.heap.size) : g.to.frozen? ⟨b, o, none⟩ = w.frozen? ⟨b, o, none⟩ := g.below.frozen (p := ⟨b, o, none⟩) h
attribute [go_sem] Grew.cell Grew.frozen
instance (w : World) : Nonempty (Grew w) := ⟨⟨w, Below.refl _ _⟩⟩
/-- A region that draws its order: one walk in the order of the text, its callees may make memory. -/
theorem wp_region_grew {P : Program} {id : Nat} {Q : Exit → Act → World → Prop} {a : Act} {w : World} {l : List Oper} (hm : P.follows .mixedOrders = true) (hB : Region.lexB .any l.toArray = true)
    (h : wpQuiet P l.toArray (fun w' => ∃ g : Grew w, w' = g.to) (fun a' => ∀ w', (∃ g : Grew w, w' = g.to) → Q .normal a' w') l a) : (Code.region id l.toArray true).wp P Q a w :=
  wp_region_quiet (C := fun w' => ∃ g : Grew w, w' = g.to) hm hB ⟨⟨_, (Below.refl _ w).drew⟩, rfl⟩ (by simpa using h)
/-- .. begun in a world that is a letter. -/
theorem wp_region_grew2 {P : Program} {id : Nat} {Q : Exit → Act → World → Prop} {a : Act} {w : World} {l : List Oper} (hm : P.follows .mixedOrders = true) (hB : Region.lexB .any l.toArray = true)
    (h : ∀ w0, Below w.heap.size w w0 → wpQuiet P l.toArray (fun w' => ∃ g : Grew w0, w' = g.to) (fun a' => ∀ w', (∃ g : Grew w0, w' = g.to) → Q .normal a' w') l a) : (Code.region id l.toArray true).wp P Q a w :=
  wp_region_quiet (C := fun w' => ∃ g : Grew w.drew, w' = g.to) hm hB ⟨⟨_, Below.refl _ w.drew⟩, rfl⟩ (by simpa using h w.drew (Below.refl _ w).drew)
theorem grew_below {w w' : World} (h : ∃ g : Grew w, w' = g.to) : Below w.heap.size w w' := by obtain ⟨g, rfl⟩ := h; exact g.below
theorem calls_grew {P : Program} {f : FuncId} {args : Array Value} {w : World} {g : Grew w} {v : Value}
    (h : Calls P f args g.to fun e w' => e = .returned v ∧ Below g.to.heap.size g.to w') : Calls P f args g.to fun e w'' => e = .returned v ∧ ∃ g' : Grew w, w'' = g'.to :=
  h.mono fun _ w' ⟨he, hm⟩ => ⟨he, ⟨w', g.below.trans (hm.mono g.below.size)⟩, rfl⟩
theorem calls_same {P : Program} {f : FuncId} {args : Array Value} {w : World} {g : Grew w} {v : Value}
    (h : Calls P f args g.to fun e w' => e = .returned v ∧ g.to = w') : Calls P f args g.to fun e w'' => e = .returned v ∧ ∃ g' : Grew w, w'' = g'.to :=
  h.mono fun _ w' ⟨he, hm⟩ => ⟨he, g, hm.symm⟩

/-! Steps that come back thousands of times, each named once: the tactic stands behind the name. -/
theorem zt {p : Prop} (h : p := by first | (simp only [World.size_alloc, World.size_setCell, World.size_drew]; done) | (simp only [World.size_alloc, World.size_setCell, World.size_drew]; omega) | omega) : p := h
theorem zo {p : Prop} (h : p := by ((try simp only [World.size_alloc, World.size_setCell, World.size_drew]); omega)) : p := h
theorem bel {B : Nat} {w w' : World} (h : Below B w w' := by (repeat (first | with_reducible exact Below.refl _ _ | (with_reducible refine Below.alloc ?_ (by first | (simp only [World.size_alloc, World.size_setCell, World.size_drew]; done) | (simp only [World.size_alloc, World.size_setCell, World.size_drew]; omega) | omega) _) | (with_reducible refine Below.setCell ?_ (by first | (simp only [World.size_alloc, World.size_setCell, World.size_drew]; done) | (simp only [World.size_alloc, World.size_setCell, World.size_drew]; omega) | omega) _) | (with_reducible refine Below.drew ?_) | (refine Below.trans ?_ (Below.mono (by with_reducible assumption) (by first | (simp only [World.size_alloc, World.size_setCell, World.size_drew]; done) | (simp only [World.size_alloc, World.size_setCell, World.size_drew]; omega) | omega)))))) : Below B w w' := h
/-! Blocks that are known to lie in the world: a list that each call hands on, the blocks laid since then put ahead of it. -/
def allLt : List Nat → Nat → Prop
  | [], _ => True
  | n :: l, m => n < m ∧ allLt l m
theorem allLt.mono {l : List Nat} {a b : Nat} (h : allLt l a) (hab : a ≤ b) : allLt l b := by
  induction l with
  | nil => trivial
  | cons n l ih => exact ⟨Nat.lt_of_lt_of_le h.1 hab, ih h.2⟩
theorem all_nil (w : World) : allLt [] w.heap.size := trivial
theorem ext0 {X w2 : World} {L : List Nat} (h : allLt L X.heap.size) (hle : X.heap.size ≤ w2.heap.size) : allLt L w2.heap.size := h.mono hle
theorem ext1 {X w2 : World} {L : List Nat} (h : allLt L X.heap.size) (hle : X.heap.size + 1 ≤ w2.heap.size) : allLt (X.heap.size :: L) w2.heap.size := ⟨hle, h.mono (by omega)⟩
theorem ext2 {X w2 : World} {L : List Nat} (h : allLt L X.heap.size) (hle : X.heap.size + 1 + 1 ≤ w2.heap.size) : allLt ((X.heap.size + 1) :: X.heap.size :: L) w2.heap.size := ⟨hle, ext1 h (by omega)⟩
theorem ext3 {X w2 : World} {L : List Nat} (h : allLt L X.heap.size) (hle : X.heap.size + 1 + 1 + 1 ≤ w2.heap.size) : allLt ((X.heap.size + 1 + 1) :: (X.heap.size + 1) :: X.heap.size :: L) w2.heap.size := ⟨hle, ext2 h (by omega)⟩
theorem ext4 {X w2 : World} {L : List Nat} (h : allLt L X.heap.size) (hle : X.heap.size + 1 + 1 + 1 + 1 ≤ w2.heap.size) : allLt ((X.heap.size + 1 + 1 + 1) :: (X.heap.size + 1 + 1) :: (X.heap.size + 1) :: X.heap.size :: L) w2.heap.size := ⟨hle, ext3 h (by omega)⟩

section
variable {W w2 X : World} {L : List Nat}
theorem cellX (hb : Below W.heap.size W w2) (_h : allLt L X.heap.size) (hle : X.heap.size ≤ W.heap.size) : ∀ b o, b < X.heap.size → w2.cell? ⟨b, o, none⟩ = W.cell? ⟨b, o, none⟩ := fun b o h => hb.cell (p := ⟨b, o, none⟩) (Nat.lt_of_lt_of_le h hle)
theorem cell0 (hb : Below W.heap.size W w2) (_h : allLt L X.heap.size) (hle : X.heap.size + 1 ≤ W.heap.size) : ∀ o, w2.cell? ⟨X.heap.size, o, none⟩ = W.cell? ⟨X.heap.size, o, none⟩ := fun o => hb.cell (p := ⟨X.heap.size, o, none⟩) hle
theorem cell1 (hb : Below W.heap.size W w2) (_h : allLt L X.heap.size) (hle : X.heap.size + 1 + 1 ≤ W.heap.size) : ∀ o, w2.cell? ⟨X.heap.size + 1, o, none⟩ = W.cell? ⟨X.heap.size + 1, o, none⟩ := fun o => hb.cell (p := ⟨X.heap.size + 1, o, none⟩) hle
theorem cell2 (hb : Below W.heap.size W w2) (_h : allLt L X.heap.size) (hle : X.heap.size + 1 + 1 + 1 ≤ W.heap.size) : ∀ o, w2.cell? ⟨X.heap.size + 1 + 1, o, none⟩ = W.cell? ⟨X.heap.size + 1 + 1, o, none⟩ := fun o => hb.cell (p := ⟨X.heap.size + 1 + 1, o, none⟩) hle
theorem cell3 (hb : Below W.heap.size W w2) (_h : allLt L X.heap.size) (hle : X.heap.size + 1 + 1 + 1 + 1 ≤ W.heap.size) : ∀ o, w2.cell? ⟨X.heap.size + 1 + 1 + 1, o, none⟩ = W.cell? ⟨X.heap.size + 1 + 1 + 1, o, none⟩ := fun o => hb.cell (p := ⟨X.heap.size + 1 + 1 + 1, o, none⟩) hle
theorem frozenX (hb : Below W.heap.size W w2) (_h : allLt L X.heap.size) (hle : X.heap.size ≤ W.heap.size) : ∀ b o, b < X.heap.size → w2.frozen? ⟨b, o, none⟩ = W.frozen? ⟨b, o, none⟩ := fun b o h => hb.frozen (p := ⟨b, o, none⟩) (Nat.lt_of_lt_of_le h hle)
theorem frozen0 (hb : Below W.heap.size W w2) (_h : allLt L X.heap.size) (hle : X.heap.size + 1 ≤ W.heap.size) : ∀ o, w2.frozen? ⟨X.heap.size, o, none⟩ = W.frozen? ⟨X.heap.size, o, none⟩ := fun o => hb.frozen (p := ⟨X.heap.size, o, none⟩) hle
theorem frozen1 (hb : Below W.heap.size W w2) (_h : allLt L X.heap.size) (hle : X.heap.size + 1 + 1 ≤ W.heap.size) : ∀ o, w2.frozen? ⟨X.heap.size + 1, o, none⟩ = W.frozen? ⟨X.heap.size + 1, o, none⟩ := fun o => hb.frozen (p := ⟨X.heap.size + 1, o, none⟩) hle
theorem frozen2 (hb : Below W.heap.size W w2) (_h : allLt L X.heap.size) (hle : X.heap.size + 1 + 1 + 1 ≤ W.heap.size) : ∀ o, w2.frozen? ⟨X.heap.size + 1 + 1, o, none⟩ = W.frozen? ⟨X.heap.size + 1 + 1, o, none⟩ := fun o => hb.frozen (p := ⟨X.heap.size + 1 + 1, o, none⟩) hle
theorem frozen3 (hb : Below W.heap.size W w2) (_h : allLt L X.heap.size) (hle : X.heap.size + 1 + 1 + 1 + 1 ≤ W.heap.size) : ∀ o, w2.frozen? ⟨X.heap.size + 1 + 1 + 1, o, none⟩ = W.frozen? ⟨X.heap.size + 1 + 1 + 1, o, none⟩ := fun o => hb.frozen (p := ⟨X.heap.size + 1 + 1 + 1, o, none⟩) hle
/-- All of it at once, with k blocks laid since X. -/
theorem nw0 (hb : Below W.heap.size W w2) (hall : allLt L X.heap.size) (hle : X.heap.size ≤ W.heap.size := by exact zo) : (∀ b o, b < X.heap.size → w2.cell? ⟨b, o, none⟩ = W.cell? ⟨b, o, none⟩) ∧ (∀ b o, b < X.heap.size → w2.frozen? ⟨b, o, none⟩ = W.frozen? ⟨b, o, none⟩) ∧ allLt L w2.heap.size ∧ True :=
  ⟨cellX hb hall hle, frozenX hb hall hle, ext0 hall (Nat.le_trans hle hb.size), trivial⟩
theorem nw1 (hb : Below W.heap.size W w2) (hall : allLt L X.heap.size) (hle : X.heap.size + 1 ≤ W.heap.size := by exact zo) : (∀ b o, b < X.heap.size → w2.cell? ⟨b, o, none⟩ = W.cell? ⟨b, o, none⟩) ∧ (∀ b o, b < X.heap.size → w2.frozen? ⟨b, o, none⟩ = W.frozen? ⟨b, o, none⟩) ∧ allLt (X.heap.size :: L) w2.heap.size ∧
    (∀ o, w2.cell? ⟨X.heap.size, o, none⟩ = W.cell? ⟨X.heap.size, o, none⟩) ∧ (∀ o, w2.frozen? ⟨X.heap.size, o, none⟩ = W.frozen? ⟨X.heap.size, o, none⟩) :=
  ⟨cellX hb hall (by omega), frozenX hb hall (by omega), ext1 hall (Nat.le_trans hle hb.size), cell0 hb hall hle, frozen0 hb hall hle⟩
theorem nw2 (hb : Below W.heap.size W w2) (hall : allLt L X.heap.size) (hle : X.heap.size + 1 + 1 ≤ W.heap.size := by exact zo) : (∀ b o, b < X.heap.size → w2.cell? ⟨b, o, none⟩ = W.cell? ⟨b, o, none⟩) ∧ (∀ b o, b < X.heap.size → w2.frozen? ⟨b, o, none⟩ = W.frozen? ⟨b, o, none⟩) ∧ allLt ((X.heap.size + 1) :: X.heap.size :: L) w2.heap.size ∧
    (∀ o, w2.cell? ⟨X.heap.size, o, none⟩ = W.cell? ⟨X.heap.size, o, none⟩) ∧ (∀ o, w2.frozen? ⟨X.heap.size, o, none⟩ = W.frozen? ⟨X.heap.size, o, none⟩) ∧ (∀ o, w2.cell? ⟨X.heap.size + 1, o, none⟩ = W.cell? ⟨X.heap.size + 1, o, none⟩) ∧ (∀ o, w2.frozen? ⟨X.heap.size + 1, o, none⟩ = W.frozen? ⟨X.heap.size + 1, o, none⟩) :=
  ⟨cellX hb hall (by omega), frozenX hb hall (by omega), ext2 hall (Nat.le_trans hle hb.size), cell0 hb hall (by omega), frozen0 hb hall (by omega), cell1 hb hall hle, frozen1 hb hall hle⟩
theorem nw3 (hb : Below W.heap.size W w2) (hall : allLt L X.heap.size) (hle : X.heap.size + 1 + 1 + 1 ≤ W.heap.size := by exact zo) : (∀ b o, b < X.heap.size → w2.cell? ⟨b, o, none⟩ = W.cell? ⟨b, o, none⟩) ∧ (∀ b o, b < X.heap.size → w2.frozen? ⟨b, o, none⟩ = W.frozen? ⟨b, o, none⟩) ∧ allLt ((X.heap.size + 1 + 1) :: (X.heap.size + 1) :: X.heap.size :: L) w2.heap.size ∧
    (∀ o, w2.cell? ⟨X.heap.size, o, none⟩ = W.cell? ⟨X.heap.size, o, none⟩) ∧ (∀ o, w2.frozen? ⟨X.heap.size, o, none⟩ = W.frozen? ⟨X.heap.size, o, none⟩) ∧ (∀ o, w2.cell? ⟨X.heap.size + 1, o, none⟩ = W.cell? ⟨X.heap.size + 1, o, none⟩) ∧ (∀ o, w2.frozen? ⟨X.heap.size + 1, o, none⟩ = W.frozen? ⟨X.heap.size + 1, o, none⟩) ∧
    (∀ o, w2.cell? ⟨X.heap.size + 1 + 1, o, none⟩ = W.cell? ⟨X.heap.size + 1 + 1, o, none⟩) ∧ (∀ o, w2.frozen? ⟨X.heap.size + 1 + 1, o, none⟩ = W.frozen? ⟨X.heap.size + 1 + 1, o, none⟩) :=
  ⟨cellX hb hall (by omega), frozenX hb hall (by omega), ext3 hall (Nat.le_trans hle hb.size), cell0 hb hall (by omega), frozen0 hb hall (by omega), cell1 hb hall (by omega), frozen1 hb hall (by omega), cell2 hb hall hle, frozen2 hb hall hle⟩
theorem nw4 (hb : Below W.heap.size W w2) (hall : allLt L X.heap.size) (hle : X.heap.size + 1 + 1 + 1 + 1 ≤ W.heap.size := by exact zo) : (∀ b o, b < X.heap.size → w2.cell? ⟨b, o, none⟩ = W.cell? ⟨b, o, none⟩) ∧ (∀ b o, b < X.heap.size → w2.frozen? ⟨b, o, none⟩ = W.frozen? ⟨b, o, none⟩) ∧ allLt ((X.heap.size + 1 + 1 + 1) :: (X.heap.size + 1 + 1) :: (X.heap.size + 1) :: X.heap.size :: L) w2.heap.size ∧
    (∀ o, w2.cell? ⟨X.heap.size, o, none⟩ = W.cell? ⟨X.heap.size, o, none⟩) ∧ (∀ o, w2.frozen? ⟨X.heap.size, o, none⟩ = W.frozen? ⟨X.heap.size, o, none⟩) ∧ (∀ o, w2.cell? ⟨X.heap.size + 1, o, none⟩ = W.cell? ⟨X.heap.size + 1, o, none⟩) ∧ (∀ o, w2.frozen? ⟨X.heap.size + 1, o, none⟩ = W.frozen? ⟨X.heap.size + 1, o, none⟩) ∧
    (∀ o, w2.cell? ⟨X.heap.size + 1 + 1, o, none⟩ = W.cell? ⟨X.heap.size + 1 + 1, o, none⟩) ∧ (∀ o, w2.frozen? ⟨X.heap.size + 1 + 1, o, none⟩ = W.frozen? ⟨X.heap.size + 1 + 1, o, none⟩) ∧ (∀ o, w2.cell? ⟨X.heap.size + 1 + 1 + 1, o, none⟩ = W.cell? ⟨X.heap.size + 1 + 1 + 1, o, none⟩) ∧ (∀ o, w2.frozen? ⟨X.heap.size + 1 + 1 + 1, o, none⟩ = W.frozen? ⟨X.heap.size + 1 + 1 + 1, o, none⟩) :=
  ⟨cellX hb hall (by omega), frozenX hb hall (by omega), ext4 hall (Nat.le_trans hle hb.size), cell0 hb hall (by omega), frozen0 hb hall (by omega), cell1 hb hall (by omega), frozen1 hb hall (by omega), cell2 hb hall (by omega), frozen2 hb hall (by omega), cell3 hb hall hle, frozen3 hb hall hle⟩
/-- A cell that stays, its mark, its block. -/
theorem kc {n b o : Nat} {v : Value} (hb : Below n W w2) (hlt : b < n := by exact zt) (h : W.cell? ⟨b, o, none⟩ = some v := by go_simp) : w2.cell? ⟨b, o, none⟩ = some v := (hb.cell (p := ⟨b, o, none⟩) hlt).trans h
theorem fc {n b o : Nat} (hb : Below n W w2) (hlt : b < n := by exact zt) (h : W.frozen? ⟨b, o, none⟩ = false := by go_simp) : w2.frozen? ⟨b, o, none⟩ = false := (hb.frozen (p := ⟨b, o, none⟩) hlt).trans h
theorem xc {n b : Nat} (hb : Below n W w2) (hlt : b < W.heap.size := by exact zt) : b < w2.heap.size := Nat.lt_of_lt_of_le hlt hb.size
end
theorem kp2 {W w2 : World} {n : Nat} (hb : Below n W w2) (b : Nat) (v0 v1 : Value) (hlt : b < n := by exact zt) (h0 : W.cell? ⟨b, 0, none⟩ = some v0 := by go_simp) (h1 : W.cell? ⟨b, 1, none⟩ = some v1 := by go_simp)  : w2.cell? ⟨b, 0, none⟩ = some v0 ∧ w2.cell? ⟨b, 1, none⟩ = some v1 := ⟨kc hb hlt h0, kc hb hlt h1⟩
theorem kf2 {W w2 : World} {n : Nat} (hb : Below n W w2) (b : Nat) (v0 v1 : Value) (hlt : b < n := by exact zt) (h0 : W.cell? ⟨b, 0, none⟩ = some v0 := by go_simp) (h1 : W.cell? ⟨b, 1, none⟩ = some v1 := by go_simp) (g0 : W.frozen? ⟨b, 0, none⟩ = false := by go_simp) (g1 : W.frozen? ⟨b, 1, none⟩ = false := by go_simp) : w2.cell? ⟨b, 0, none⟩ = some v0 ∧ w2.frozen? ⟨b, 0, none⟩ = false ∧ w2.cell? ⟨b, 1, none⟩ = some v1 ∧ w2.frozen? ⟨b, 1, none⟩ = false := ⟨kc hb hlt h0, fc hb hlt g0, kc hb hlt h1, fc hb hlt g1⟩
theorem kp3 {W w2 : World} {n : Nat} (hb : Below n W w2) (b : Nat) (v0 v1 v2 : Value) (hlt : b < n := by exact zt) (h0 : W.cell? ⟨b, 0, none⟩ = some v0 := by go_simp) (h1 : W.cell? ⟨b, 1, none⟩ = some v1 := by go_simp) (h2 : W.cell? ⟨b, 2, none⟩ = some v2 := by go_simp)  : w2.cell? ⟨b, 0, none⟩ = some v0 ∧ w2.cell? ⟨b, 1, none⟩ = some v1 ∧ w2.cell? ⟨b, 2, none⟩ = some v2 := ⟨kc hb hlt h0, kc hb hlt h1, kc hb hlt h2⟩
theorem kf3 {W w2 : World} {n : Nat} (hb : Below n W w2) (b : Nat) (v0 v1 v2 : Value) (hlt : b < n := by exact zt) (h0 : W.cell? ⟨b, 0, none⟩ = some v0 := by go_simp) (h1 : W.cell? ⟨b, 1, none⟩ = some v1 := by go_simp) (h2 : W.cell? ⟨b, 2, none⟩ = some v2 := by go_simp) (g0 : W.frozen? ⟨b, 0, none⟩ = false := by go_simp) (g1 : W.frozen? ⟨b, 1, none⟩ = false := by go_simp) (g2 : W.frozen? ⟨b, 2, none⟩ = false := by go_simp) : w2.cell? ⟨b, 0, none⟩ = some v0 ∧ w2.frozen? ⟨b, 0, none⟩ = false ∧ w2.cell? ⟨b, 1, none⟩ = some v1 ∧ w2.frozen? ⟨b, 1, none⟩ = false ∧ w2.cell? ⟨b, 2, none⟩ = some v2 ∧ w2.frozen? ⟨b, 2, none⟩ = false := ⟨kc hb hlt h0, fc hb hlt g0, kc hb hlt h1, fc hb hlt g1, kc hb hlt h2, fc hb hlt g2⟩
theorem kp4 {W w2 : World} {n : Nat} (hb : Below n W w2) (b : Nat) (v0 v1 v2 v3 : Value) (hlt : b < n := by exact zt) (h0 : W.cell? ⟨b, 0, none⟩ = some v0 := by go_simp) (h1 : W.cell? ⟨b, 1, none⟩ = some v1 := by go_simp) (h2 : W.cell? ⟨b, 2, none⟩ = some v2 := by go_simp) (h3 : W.cell? ⟨b, 3, none⟩ = some v3 := by go_simp)  : w2.cell? ⟨b, 0, none⟩ = some v0 ∧ w2.cell? ⟨b, 1, none⟩ = some v1 ∧ w2.cell? ⟨b, 2, none⟩ = some v2 ∧ w2.cell? ⟨b, 3, none⟩ = some v3 := ⟨kc hb hlt h0, kc hb hlt h1, kc hb hlt h2, kc hb hlt h3⟩
theorem kf4 {W w2 : World} {n : Nat} (hb : Below n W w2) (b : Nat) (v0 v1 v2 v3 : Value) (hlt : b < n := by exact zt) (h0 : W.cell? ⟨b, 0, none⟩ = some v0 := by go_simp) (h1 : W.cell? ⟨b, 1, none⟩ = some v1 := by go_simp) (h2 : W.cell? ⟨b, 2, none⟩ = some v2 := by go_simp) (h3 : W.cell? ⟨b, 3, none⟩ = some v3 := by go_simp) (g0 : W.frozen? ⟨b, 0, none⟩ = false := by go_simp) (g1 : W.frozen? ⟨b, 1, none⟩ = false := by go_simp) (g2 : W.frozen? ⟨b, 2, none⟩ = false := by go_simp) (g3 : W.frozen? ⟨b, 3, none⟩ = false := by go_simp) : w2.cell? ⟨b, 0, none⟩ = some v0 ∧ w2.frozen? ⟨b, 0, none⟩ = false ∧ w2.cell? ⟨b, 1, none⟩ = some v1 ∧ w2.frozen? ⟨b, 1, none⟩ = false ∧ w2.cell? ⟨b, 2, none⟩ = some v2 ∧ w2.frozen? ⟨b, 2, none⟩ = false ∧ w2.cell? ⟨b, 3, none⟩ = some v3 ∧ w2.frozen? ⟨b, 3, none⟩ = false := ⟨kc hb hlt h0, fc hb hlt g0, kc hb hlt h1, fc hb hlt g1, kc hb hlt h2, fc hb hlt g2, kc hb hlt h3, fc hb hlt g3⟩
theorem kp5 {W w2 : World} {n : Nat} (hb : Below n W w2) (b : Nat) (v0 v1 v2 v3 v4 : Value) (hlt : b < n := by exact zt) (h0 : W.cell? ⟨b, 0, none⟩ = some v0 := by go_simp) (h1 : W.cell? ⟨b, 1, none⟩ = some v1 := by go_simp) (h2 : W.cell? ⟨b, 2, none⟩ = some v2 := by go_simp) (h3 : W.cell? ⟨b, 3, none⟩ = some v3 := by go_simp) (h4 : W.cell? ⟨b, 4, none⟩ = some v4 := by go_simp)  : w2.cell? ⟨b, 0, none⟩ = some v0 ∧ w2.cell? ⟨b, 1, none⟩ = some v1 ∧ w2.cell? ⟨b, 2, none⟩ = some v2 ∧ w2.cell? ⟨b, 3, none⟩ = some v3 ∧ w2.cell? ⟨b, 4, none⟩ = some v4 := ⟨kc hb hlt h0, kc hb hlt h1, kc hb hlt h2, kc hb hlt h3, kc hb hlt h4⟩
theorem kf5 {W w2 : World} {n : Nat} (hb : Below n W w2) (b : Nat) (v0 v1 v2 v3 v4 : Value) (hlt : b < n := by exact zt) (h0 : W.cell? ⟨b, 0, none⟩ = some v0 := by go_simp) (h1 : W.cell? ⟨b, 1, none⟩ = some v1 := by go_simp) (h2 : W.cell? ⟨b, 2, none⟩ = some v2 := by go_simp) (h3 : W.cell? ⟨b, 3, none⟩ = some v3 := by go_simp) (h4 : W.cell? ⟨b, 4, none⟩ = some v4 := by go_simp) (g0 : W.frozen? ⟨b, 0, none⟩ = false := by go_simp) (g1 : W.frozen? ⟨b, 1, none⟩ = false := by go_simp) (g2 : W.frozen? ⟨b, 2, none⟩ = false := by go_simp) (g3 : W.frozen? ⟨b, 3, none⟩ = false := by go_simp) (g4 : W.frozen? ⟨b, 4, none⟩ = false := by go_simp) : w2.cell? ⟨b, 0, none⟩ = some v0 ∧ w2.frozen? ⟨b, 0, none⟩ = false ∧ w2.cell? ⟨b, 1, none⟩ = some v1 ∧ w2.frozen? ⟨b, 1, none⟩ = false ∧ w2.cell? ⟨b, 2, none⟩ = some v2 ∧ w2.frozen? ⟨b, 2, none⟩ = false ∧ w2.cell? ⟨b, 3, none⟩ = some v3 ∧ w2.frozen? ⟨b, 3, none⟩ = false ∧ w2.cell? ⟨b, 4, none⟩ = some v4 ∧ w2.frozen? ⟨b, 4, none⟩ = false := ⟨kc hb hlt h0, fc hb hlt g0, kc hb hlt h1, fc hb hlt g1, kc hb hlt h2, fc hb hlt g2, kc hb hlt h3, fc hb hlt g3, kc hb hlt h4, fc hb hlt g4⟩

def between (n lo hi : Int) : Bool := decide (lo ≤ n) && decide (n ≤ hi)
theorem between_iff {n lo hi : Int} : between n lo hi = true ↔ lo ≤ n ∧ n ≤ hi := by simp [between]
theorem between_not {n lo hi : Int} : between n lo hi = false ↔ n < lo ∨ hi < n := by
  rw [← Bool.not_eq_true, between_iff]; omega

/-- The number of cells of a slot of a class. -/
def classSize (c : Int) : Int := if between c 0 3 then 2 ^ c.toNat else 0
/-- The number of slots of a page of a class. -/
def slotsOf (c : Int) : Int := if between c 0 3 then 16 / 2 ^ c.toNat else 0
theorem class_cases {c : Int} (h : between c 0 3 = true) : c = 0 ∨ c = 1 ∨ c = 2 ∨ c = 3 := by rw [between_iff] at h; omega
theorem classSize_in {c : Int} (h : between c 0 3 = true) : classSize c = 2 ^ c.toNat := by simp [classSize, h]
theorem slotsOf_in {c : Int} (h : between c 0 3 = true) : slotsOf c = 16 / 2 ^ c.toNat := by simp [slotsOf, h]
theorem classSize_out {c : Int} (h : between c 0 3 = false) : classSize c = 0 := by simp [classSize, h]
theorem slotsOf_out {c : Int} (h : between c 0 3 = false) : slotsOf c = 0 := by simp [slotsOf, h]
theorem classSize_bound (c : Int) : 0 ≤ classSize c ∧ classSize c ≤ 8 := by
  cases h : between c 0 3 with
  | false => simp [classSize, h]
  | true => rcases class_cases h with rfl | rfl | rfl | rfl <;> decide
theorem slotsOf_bound (c : Int) : 0 ≤ slotsOf c ∧ slotsOf c ≤ 16 := by
  cases h : between c 0 3 with
  | false => simp [slotsOf, h]
  | true => rcases class_cases h with rfl | rfl | rfl | rfl <;> decide
theorem class_mul {c : Int} (h : between c 0 3 = true) : slotsOf c * classSize c = 16 := by
  rcases class_cases h with rfl | rfl | rfl | rfl <;> decide

def bitmapOk (n b : Int) : Bool := between n 1 16 && between b 0 (2 ^ n.toNat - 1)
theorem bitmapOk_zero (b : Int) : bitmapOk 0 b = false := by simp [bitmapOk, between]
def slotOk (b i : Int) : Bool := decide (0 ≤ b) && between i 0 15
def withSlot (b i : Int) : Int := if slotOk b i then bits .or .i64 b (2 ^ i.toNat) else b
def withoutSlot (b i : Int) : Int := if slotOk b i then bits .andNot .i64 b (2 ^ i.toNat) else b
def hasSlot (b i : Int) : Bool := slotOk b i && (bits .and .i64 (b / 2 ^ i.toNat) 1 == 1)
def spanOk (p c b : Int) : Bool := between p 0 31 && between c 0 3 && bitmapOk (slotsOf c) b
theorem spanOk_alt (p c b : Int) : spanOk p c b = (between p 0 31 && bitmapOk (slotsOf c) b) := by
  cases h : between c 0 3 with
  | false => simp [spanOk, h, slotsOf, bitmapOk_zero]
  | true => simp [spanOk, h]

theorem ret_int {k : IntKind} {a b : Int} (h : a = b) : Ending.returned (.int k a) = .returned (.int k b) := by rw [h]
theorem ret_bool {a b : Bool} (h : a = b) : Ending.returned (.bool a) = .returned (.bool b) := by rw [h]
theorem pow_in {c : Int} (h0 : 0 ≤ c) (h : c ≤ 16) : wrap64 (2 ^ c.toNat) = 2 ^ c.toNat ∧ wrap64 (2 ^ c.toNat - 1) = 2 ^ c.toNat - 1 ∧ (1 : Int) ≤ 2 ^ c.toNat ∧ (2 : Int) ^ c.toNat ≤ 65536 := by
  have h3 := (by decide : ∀ m : Fin 17, (1 : Int) ≤ 2 ^ m.val ∧ (2 : Int) ^ m.val ≤ 65536) ⟨c.toNat, by omega⟩
  have h1 : (2 : Int) ^ c.toNat ≤ 65536 := h3.2
  have h2 : (1 : Int) ≤ 2 ^ c.toNat := h3.1
  exact ⟨IntWalk.wrap64_in _ ⟨by omega, by omega⟩, IntWalk.wrap64_in _ ⟨by omega, by omega⟩, h2, h1⟩

end Go.Proofs.Ytobechjagckdfaa
/-
  Slices of the call's own, of whatever element: what they hold is a plain list, each element laid in k cells by a function f. After the library's 'ownsRow'.
-/
set_option linter.unusedVariables false
set_option linter.unusedSimpArgs false
namespace Go.Proofs.Ytobechjagckdfaa
open Go.RowKit
/-- The row of an element type: T the slice's type, E the element's, z its zero value, k its cells, by its bytes. -/
structure ElemT (P : Program) (T E : TypeId) (z : Value) (k bytes : Nat) : Prop where
  und : P.underlying T = some (.slice E)
  info : ∃ i, P.info? E = some i ∧ i.zero = some z ∧ i.size = k ∧ i.bytes = bytes
  zc : z.cells.size = k
  pos : 0 < k
theorem grown_refl (w : World) (r : Option Nat) : w.grownBy w r := ⟨rfl, rfl, rfl, Nat.le_refl _, fun _ _ _ => rfl⟩
theorem grown_trans {a b c : World} {r : Option Nat} (h : a.grownBy b r) (k : b.grownBy c r) : a.grownBy c r :=
  ⟨k.os.trans h.os, k.tape.trans h.tape, k.output.trans h.output, Nat.le_trans h.size k.size, fun i hi hr => (k.block i (Nat.lt_of_lt_of_le hi h.size) hr).trans (h.block i hi hr)⟩
theorem grown_below {a b c : World} {r : Option Nat} (h : a.grownBy b r) (k : Below b.heap.size b c) : a.grownBy c r :=
  grown_trans h ⟨k.os, k.tape, k.output, k.size, fun i hi _ => k.block i hi⟩
theorem grown_setCell {a b : World} {g : Nat} (h : a.grownBy b (some g)) (o : Nat) (v : Value) : a.grownBy (b.setCell ⟨g, o, none⟩ v) (some g) :=
  grown_trans h ⟨rfl, rfl, rfl, by simp, fun i hi hr => Below.heap_setCell _ _ _ _ (fun e => hr (by simp [e]))⟩
theorem below_of_grown {a b : World} {g B : Nat} (h : a.grownBy b (some g)) (hB : B ≤ g) (hz : B ≤ a.heap.size) : Below B a b :=
  ⟨h.os, h.tape, h.output, h.size, fun k hk => h.block k (by omega) (by simp; omega)⟩

variable {α : Type}
/-- The slice value v owns the elements xs, in a block from B on. -/
def Own (E k : Nat) (f : α → List Value) (B : Nat) (w : World) (v : Value) (xs : List α) : Prop := w.ownsRow B E k v xs.length (xs.flatMap f)
def LenK (k : Nat) (f : α → List Value) : Prop := ∀ x, (f x).length = k
theorem flat_len {k : Nat} {f : α → List Value} (hf : LenK k f) (xs : List α) : (xs.flatMap f).length = xs.length * k := by
  induction xs with
  | nil => simp
  | cons x xs ih => rw [List.flatMap_cons, List.length_append, hf, ih, List.length_cons, Nat.add_mul]; omega
theorem flat_get {k : Nat} {f : α → List Value} (hf : LenK k f) (xs : List α) (i j : Nat) (hi : i < xs.length) (hj : j < k) : (xs.flatMap f)[i * k + j]? = (f xs[i])[j]? := by
  induction xs generalizing i with
  | nil => simp at hi
  | cons x xs ih =>
    rw [List.flatMap_cons]
    cases i with
    | zero => rw [List.getElem?_append_left (by rw [hf]; omega)]; simp
    | succ i =>
      rw [List.getElem?_append_right (by rw [hf, Nat.add_mul]; omega), hf, show (i + 1) * k + j - k = i * k + j by rw [Nat.add_mul]; omega]
      simpa using ih i (by simpa using hi)
section
variable {E k : Nat} {f : α → List Value} {B : Nat} {w w' : World} {v : Value} {xs : List α}
theorem Own.nil (E k : Nat) (f : α → List Value) (B : Nat) (w : World) : Own E k f B w (.slice none 0 0) [] := World.ownsRow_nil w B E k
/-- '[]T{}': an empty block. -/
theorem Own.empty (E k : Nat) (f : α → List Value) (B : Nat) (w : World) (hB : B ≤ w.heap.size) : Own E k f B (w.alloc (.cells #[] E)) (.slice (some ⟨w.heap.size, 0, none⟩) 0 0) [] :=
  World.ownsRow_lit w #[] 0 hB (Nat.zero_le _) (by simp)
theorem Own.empty' (E k : Nat) (f : α → List Value) (B : Nat) (w : World) (g : Nat) (hg : g = w.heap.size) (hB : B ≤ w.heap.size) : Own E k f B (w.alloc (.cells #[] E)) (.slice (some ⟨g, 0, none⟩) 0 0) [] := by
  subst hg; exact Own.empty E k f B w hB
theorem Own.kept (h : Own E k f B w v xs) (hs : ∀ g, v.ownBlock = some g → w'.heap[g]? = w.heap[g]?) : Own E k f B w' v xs := by
  refine ⟨h.1, ?_⟩
  rcases h.2 with hn | ⟨g, cap, cur, rfl, hb, hgg, rest⟩
  · exact .inl hn
  · exact .inr ⟨g, cap, cur, rfl, hb, by rw [hs g rfl]; exact hgg, rest⟩
theorem Own.lt (h : Own E k f B w v xs) : ∀ g, v.ownBlock = some g → B ≤ g ∧ g < w.heap.size := World.ownsRow.lt h
theorem Own.below (h : Own E k f B w v xs) (hb : Below w.heap.size w w') : Own E k f B w' v xs := h.kept fun g hg => hb.block g (h.lt g hg).2
/-- Another row has been written. -/
theorem Own.other {β : Type} {E' k' B' : Nat} {f' : β → List Value} {v' : Value} {ys : List β} (h : Own E k f B w v xs) (h' : Own E' k' f' B' w v' ys) (hlt : ∀ g, v.ownBlock = some g → g < B') (hgr : w.grownBy w' v'.ownBlock) : Own E k f B w' v xs :=
  h.kept fun g hg => hgr.block g (h.lt g hg).2 (fun e => by have h1 := (h'.lt g e.symm).1; have h2 := hlt g hg; omega)
theorem Own.belowOf (h : Own E k f B w v xs) (hgr : w.grownBy w' v.ownBlock) (hB : B ≤ w.heap.size) : Below B w w' := (Below.refl B w).grown hgr hB fun g hg => (h.lt g hg).1
theorem Own.alloc (h : Own E k f B w v xs) (o : Obj) : Own E k f B (w.alloc o) v xs := World.ownsRow.alloc h o
theorem Own.mono {B' : Nat} (h : Own E k f B w v xs) (hB : B' ≤ B) : Own E k f B' w v xs := by
  refine ⟨h.1, ?_⟩
  rcases h.2 with hn | ⟨g, cap, cur, rfl, hb, hgg, rest⟩
  · exact .inl hn
  · exact .inr ⟨g, cap, cur, rfl, Nat.le_trans hB hb, hgg, rest⟩
theorem Own.drew (h : Own E k f B w v xs) : Own E k f B w.drew v xs := h
/-- A store elsewhere. -/
theorem Own.setCell (h : Own E k f B w v xs) (a : Addr) (u : Value) (hne : v.ownBlock ≠ some a.block) : Own E k f B (w.setCell a u) v xs :=
  h.kept fun g hg => Below.heap_setCell _ _ _ _ (fun e => hne (by rw [hg, e]))
/-- What can be read of it. -/
theorem Own.read (h : Own E k f B w v xs) (hf : LenK k f) : ∃ ao cap, v = .slice ao xs.length cap ∧ xs.length ≤ cap ∧ cap ≤ maxLen ∧ ∀ i (hi : i < xs.length), ∃ g, ao = some ⟨g, 0, none⟩ ∧ B ≤ g ∧ g < w.heap.size ∧ (∀ o, w.frozen? ⟨g, o, none⟩ = false) ∧ ∀ j, j < k → w.cell? ⟨g, i * k + j, none⟩ = (f xs[i])[j]? := by
  have h0 := h
  rcases h.2 with ⟨rfl, hn⟩ | ⟨g, cap, cur, rfl, hb, hgg, hnc, hcm, hrest⟩
  · exact ⟨none, 0, by rw [hn], by omega, Nat.zero_le _, fun i hi => by omega⟩
  · refine ⟨_, cap, rfl, hnc, hcm, fun i hi => ⟨g, rfl, hb, (Array.getElem?_eq_some_iff.1 hgg).1, fun o => World.ownsRow.frozenAt h0 o, fun j hj => ?_⟩⟩
    have hle : (i + 1) * k ≤ xs.length * k := Nat.mul_le_mul_right _ hi
    rw [Nat.add_mul] at hle
    rw [World.ownsRow.cellAt h0 _ (by omega), flat_get hf xs i j hi hj]
/-- Its length, whatever its address. -/
theorem Own.shape (h : Own E k f B w v xs) : ∃ ao cap, v = .slice ao xs.length cap ∧ xs.length ≤ cap ∧ cap ≤ maxLen ∧ (ao = none ∨ ∃ g, ao = some ⟨g, 0, none⟩ ∧ B ≤ g ∧ g < w.heap.size) := by
  rcases h.2 with ⟨rfl, hn⟩ | ⟨g, cap, cur, rfl, hb, hgg, hnc, hcm, hrest⟩
  · exact ⟨none, 0, by rw [hn], by omega, Nat.zero_le _, .inl rfl⟩
  · exact ⟨_, cap, rfl, hnc, hcm, .inr ⟨g, rfl, hb, (Array.getElem?_eq_some_iff.1 hgg).1⟩⟩
end
section
variable {P : Program} {ops : Array Oper} {rest : List Oper} {o : Oper} {a : Act} {Q : Exit → Act → World → Prop} {w : World}
/-- 'append(s, y)': s a slice of the call's own, y laid in a new block ahead of it. Behind it below B nothing has turned. -/
theorem append1 {T E : TypeId} {z : Value} {k bytes : Nat} (ht : ElemT P T E z k bytes) (hgd : o.guard = none) (s x : Operand) (ho : o.op = .call { callee := .builtin .append, args := #[s, x], argTypes := #[T, T] })
    {f : α → List Value} (hf : LenK k f) (h1c : ∀ y, ∀ u ∈ f y, u.oneCell' = true) {B : Nat} {v : Value} {xs : List α} (hs : a.eval s = v) (hown : Own E k f B w v xs) (hB : B ≤ w.heap.size) {g c : Nat} (hx : a.eval x = .slice (some ⟨g, 0, none⟩) 1 c)
    (y : α) (hcell : ∀ j u, (f y)[j]? = some u → w.cell? ⟨g, j, none⟩ = some u) (hlen : xs.length + 1 ≤ maxLen ∧ (xs.length + 1) * bytes ≤ 140737488355328)
    (h : ∀ v' w', Own E k f B w' v' (xs ++ [y]) → w.grownBy w' v.ownBlock → Below B w w' → wpList P ops Q rest (a.put o.dst v') w') : wpList P ops Q (o :: rest) a w := by
  obtain ⟨i, hi, hz, hk, hby⟩ := ht.info
  refine wpList_append_own (P := P) w hgd s x T ho B E i z k bytes ht.und hi hz hk hby ht.zc ht.pos v xs.length (xs.flatMap f) hs hown ⟨g, 0, none⟩ 1 c (f y) hx (by rw [hf]; omega) (fun j u hj => ?_) (h1c y) hlen.1 hlen.2 hB fun v' w' h2 h3 _ => ?_
  · have hadd : (⟨g, 0, none⟩ : Addr).add j = ⟨g, j, none⟩ := by unfold Addr.add; split <;> simp_all
    rw [hadd]; exact hcell j u hj
  · have hbel : Below B w w' := (Below.refl B w).grown h3 hB fun k hk => (hown.lt k hk).1
    refine h v' w' ?_ h3 hbel
    unfold Own
    simpa [List.flatMap_append] using h2
end
end Go.Proofs.Ytobechjagckdfaa
/-
  Slices that are read where they lie, slices of slices, and what stays when other blocks are written. No Go text is named here.
-/
set_option linter.unusedVariables false
set_option linter.unusedSimpArgs false
namespace Go.Proofs.Ytobechjagckdfaa
open Go.RowKit
variable {α β : Type}
theorem take_snoc {xs : List α} {k : Nat} {x : α} (h : xs[k]? = some x) : xs.take (k + 1) = xs.take k ++ [x] := by
  rw [List.take_add_one, h]; rfl
theorem getx {xs : List α} {k : Nat} (h : k < xs.length) : ∃ x, xs[k]? = some x := ⟨xs[k], List.getElem?_eq_getElem h⟩
theorem getx_lt {xs : List α} {k : Nat} {x : α} (h : xs[k]? = some x) : k < xs.length := (List.getElem?_eq_some_iff.1 h).1
theorem getD_of {xs : List α} {k : Nat} {x d : α} (h : xs[k]? = some x) : xs.getD k d = x := by rw [List.getD_eq_getElem?_getD, h]; rfl
/-- All numbers below k have p. -/
def allTo (p : Nat → Bool) : Nat → Bool
  | 0 => true
  | k + 1 => allTo p k && p k
theorem allTo_false {p : Nat → Bool} {k n : Nat} (hk : k < n) (hp : p k = false) : allTo p n = false := by
  induction n with
  | zero => omega
  | succ n ih =>
    rw [allTo]
    rcases Nat.lt_or_ge k n with h | h
    · rw [ih h]; rfl
    · obtain rfl : k = n := by omega
      rw [hp, Bool.and_false]
theorem allTo_iff {p : Nat → Bool} {n : Nat} : allTo p n = true ↔ ∀ k, k < n → p k = true := by
  induction n with
  | zero => simp [allTo]
  | succ n ih =>
    rw [allTo, Bool.and_eq_true, ih]
    constructor
    · rintro ⟨h, h0⟩ k hk
      rcases Nat.lt_or_ge k n with h1 | h1
      · exact h k h1
      · obtain rfl : k = n := by omega
        exact h0
    · exact fun h => ⟨fun k hk => h k (by omega), h n (by omega)⟩

/-- A slice whose elements lie in k cells each: they can be read. -/
def SlAt (k : Nat) (f : α → List Value) (w : World) (v : Value) (xs : List α) : Prop := ∃ ao cap, v = .slice ao xs.length cap ∧ xs.length ≤ cap ∧ cap ≤ maxLen ∧
  ∀ i x, xs[i]? = some x → ∃ g o, ao = some ⟨g, o, none⟩ ∧ g < w.heap.size ∧ ∀ j u, (f x)[j]? = some u → w.cell? ⟨g, o + i * k + j, none⟩ = some u
section
variable {k : Nat} {f : α → List Value} {w w' : World} {v : Value} {xs : List α} {c0 c1 c2 c3 : α → Value}
theorem SlAt.below (h : SlAt k f w v xs) (hb : Below w.heap.size w w') : SlAt k f w' v xs := by
  obtain ⟨ao, cap, rfl, h1, h2, hr⟩ := h
  refine ⟨ao, cap, rfl, h1, h2, fun i x hi => ?_⟩
  obtain ⟨g, o, rfl, hg, c⟩ := hr i x hi
  have := hb.size
  exact ⟨g, o, rfl, by omega, fun j u hj => (hb.cell (p := ⟨g, o + i * k + j, none⟩) hg).trans (c j u hj)⟩
theorem SlAt.open1 (h : SlAt 1 f w v xs) (hf : ∀ x, f x = [c0 x]) : ∃ ao cap, v = .slice ao xs.length cap ∧ xs.length ≤ cap ∧ cap ≤ maxLen ∧
    ∀ i x, xs[i]? = some x → ∃ g o, ao = some ⟨g, o, none⟩ ∧ g < w.heap.size ∧ w.cell? ⟨g, o + i, none⟩ = some (c0 x) := by
  obtain ⟨ao, cap, rfl, h1, h2, hr⟩ := h
  refine ⟨ao, cap, rfl, h1, h2, fun i x hi => ?_⟩
  obtain ⟨g, o, rfl, hg, c⟩ := hr i x hi
  exact ⟨g, o, rfl, hg, by simpa [hf] using c 0 (c0 x)⟩
theorem SlAt.open2 (h : SlAt 2 f w v xs) (hf : ∀ x, f x = [c0 x, c1 x]) : ∃ ao cap, v = .slice ao xs.length cap ∧ xs.length ≤ cap ∧ cap ≤ maxLen ∧
    ∀ i x, xs[i]? = some x → ∃ g o, ao = some ⟨g, o, none⟩ ∧ g < w.heap.size ∧ w.cell? ⟨g, o + i * 2, none⟩ = some (c0 x) ∧ w.cell? ⟨g, o + i * 2 + 1, none⟩ = some (c1 x) := by
  obtain ⟨ao, cap, rfl, h1, h2, hr⟩ := h
  refine ⟨ao, cap, rfl, h1, h2, fun i x hi => ?_⟩
  obtain ⟨g, o, rfl, hg, c⟩ := hr i x hi
  exact ⟨g, o, rfl, hg, by simpa [hf] using c 0 (c0 x), by simpa [hf] using c 1 (c1 x)⟩
theorem SlAt.open3 (h : SlAt 3 f w v xs) (hf : ∀ x, f x = [c0 x, c1 x, c2 x]) : ∃ ao cap, v = .slice ao xs.length cap ∧ xs.length ≤ cap ∧ cap ≤ maxLen ∧
    ∀ i x, xs[i]? = some x → ∃ g o, ao = some ⟨g, o, none⟩ ∧ g < w.heap.size ∧ w.cell? ⟨g, o + i * 3, none⟩ = some (c0 x) ∧ w.cell? ⟨g, o + i * 3 + 1, none⟩ = some (c1 x) ∧ w.cell? ⟨g, o + i * 3 + 2, none⟩ = some (c2 x) := by
  obtain ⟨ao, cap, rfl, h1, h2, hr⟩ := h
  refine ⟨ao, cap, rfl, h1, h2, fun i x hi => ?_⟩
  obtain ⟨g, o, rfl, hg, c⟩ := hr i x hi
  exact ⟨g, o, rfl, hg, by simpa [hf] using c 0 (c0 x), by simpa [hf] using c 1 (c1 x), by simpa [hf] using c 2 (c2 x)⟩
theorem SlAt.open4 (h : SlAt 4 f w v xs) (hf : ∀ x, f x = [c0 x, c1 x, c2 x, c3 x]) : ∃ ao cap, v = .slice ao xs.length cap ∧ xs.length ≤ cap ∧ cap ≤ maxLen ∧
    ∀ i x, xs[i]? = some x → ∃ g o, ao = some ⟨g, o, none⟩ ∧ g < w.heap.size ∧ w.cell? ⟨g, o + i * 4, none⟩ = some (c0 x) ∧ w.cell? ⟨g, o + i * 4 + 1, none⟩ = some (c1 x) ∧ w.cell? ⟨g, o + i * 4 + 2, none⟩ = some (c2 x) ∧ w.cell? ⟨g, o + i * 4 + 3, none⟩ = some (c3 x) := by
  obtain ⟨ao, cap, rfl, h1, h2, hr⟩ := h
  refine ⟨ao, cap, rfl, h1, h2, fun i x hi => ?_⟩
  obtain ⟨g, o, rfl, hg, c⟩ := hr i x hi
  exact ⟨g, o, rfl, hg, by simpa [hf] using c 0 (c0 x), by simpa [hf] using c 1 (c1 x), by simpa [hf] using c 2 (c2 x), by simpa [hf] using c 3 (c3 x)⟩
theorem SlAt.shape (h : SlAt k f w v xs) : ∃ ao cap, v = .slice ao xs.length cap ∧ xs.length ≤ cap ∧ cap ≤ maxLen := by
  obtain ⟨ao, cap, rfl, h1, h2, _⟩ := h
  exact ⟨ao, cap, rfl, h1, h2⟩
theorem SlAt.len (h : SlAt k f w v xs) : xs.length ≤ maxLen := by obtain ⟨ao, cap, rfl, h1, h2, _⟩ := h; omega
/-- The beginning of it. -/
theorem SlAt.take {ao : Option Addr} {n cap : Nat} (h : SlAt k f w (.slice ao n cap) xs) (m : Nat) (hm : m ≤ xs.length) : SlAt k f w (.slice ao m cap) (xs.take m) := by
  obtain ⟨ao', cap', he, h1, h2, hr⟩ := h
  simp only [Value.slice.injEq] at he
  obtain ⟨rfl, rfl, rfl⟩ := he
  have hl : (xs.take m).length = m := by simp; omega
  refine ⟨ao, cap, by rw [hl], by omega, h2, fun i x hi => ?_⟩
  rw [List.getElem?_take] at hi
  split at hi
  · exact hr i x hi
  · cases hi
/-- A slice of the call's own can be read. -/
theorem Own.at {E B : Nat} (h : Own E k f B w v xs) (hf : LenK k f) : SlAt k f w v xs := by
  obtain ⟨ao, cap, rfl, h1, h2, hr⟩ := h.read hf
  refine ⟨ao, cap, rfl, h1, h2, fun i x hi => ?_⟩
  have hlt := getx_lt hi
  obtain ⟨g, rfl, hB, hg, _, hc⟩ := hr i hlt
  have hx : xs[i] = x := by rw [List.getElem?_eq_getElem hlt] at hi; exact Option.some.inj hi
  refine ⟨g, 0, rfl, hg, fun j u hj => ?_⟩
  have hjk : j < k := by rw [← hf x]; exact getx_lt hj
  rw [Nat.zero_add, hc j hjk, hx, hj]
/-- What stands at one element of it, and that it may be written. -/
theorem Own.slot {E B g n cap : Nat} (h : Own E k f B w (.slice (some ⟨g, 0, none⟩) n cap) xs) (hf : LenK k f) {i : Nat} {x : α} (hi : xs[i]? = some x) :
    B ≤ g ∧ g < w.heap.size ∧ (∀ o, w.frozen? ⟨g, o, none⟩ = false) ∧ ∀ j u, (f x)[j]? = some u → w.cell? ⟨g, i * k + j, none⟩ = some u := by
  obtain ⟨ao, ca, he, _, _, hr⟩ := h.read hf
  have hlt := getx_lt hi
  obtain ⟨g', he', hB, hg', hz', hc'⟩ := hr i hlt
  simp only [Value.slice.injEq] at he
  obtain ⟨rfl, _, rfl⟩ := he
  simp only [Option.some.injEq, Addr.mk.injEq, and_true] at he'
  obtain rfl := he'
  have hx : xs[i] = x := by rw [List.getElem?_eq_getElem hlt] at hi; exact Option.some.inj hi
  refine ⟨hB, hg', hz', fun j u hj => ?_⟩
  rw [hc' j (by rw [← hf x]; exact getx_lt hj), hx, hj]
/-- Its address, if it holds an element. -/
theorem Own.addr {E B : Nat} (h : Own E k f B w v xs) (hpos : 0 < xs.length) : ∃ g cap, v = .slice (some ⟨g, 0, none⟩) xs.length cap ∧ B ≤ g ∧ g < w.heap.size := by
  rcases h.2 with ⟨rfl, hn⟩ | ⟨g, cap, cur, rfl, hb, hgg, rest⟩
  · omega
  · exact ⟨g, cap, rfl, hb, (Array.getElem?_eq_some_iff.1 hgg).1⟩
end

/-! What a step may have written. -/
/-- Of the blocks that were there only those of S may have turned. -/
structure Touch (S : List Nat) (w w' : World) : Prop where
  os : w'.os = w.os
  tape : w'.tape = w.tape
  output : w'.output = w.output
  size : w.heap.size ≤ w'.heap.size
  block : ∀ k, k < w.heap.size → k ∉ S → w'.heap[k]? = w.heap[k]?
section
variable {S S' : List Nat} {w w' w'' : World}
theorem Touch.refl (S : List Nat) (w : World) : Touch S w w := ⟨rfl, rfl, rfl, Nat.le_refl _, fun _ _ _ => rfl⟩
theorem Touch.trans (h : Touch S w w') (h' : Touch S w' w'') : Touch S w w'' :=
  ⟨h'.os.trans h.os, h'.tape.trans h.tape, h'.output.trans h.output, Nat.le_trans h.size h'.size, fun k hk hS => (h'.block k (Nat.lt_of_lt_of_le hk h.size) hS).trans (h.block k hk hS)⟩
theorem Touch.mono (h : Touch S w w') (hs : ∀ g ∈ S, g ∈ S') : Touch S' w w' := ⟨h.os, h.tape, h.output, h.size, fun k hk hS => h.block k hk fun hg => hS (hs k hg)⟩
theorem touch_of_below (h : Below w.heap.size w w') (S : List Nat) : Touch S w w' := ⟨h.os, h.tape, h.output, h.size, fun k hk _ => h.block k hk⟩
theorem grown_touch {r : Option Nat} (h : w.grownBy w' r) (hs : ∀ g, r = some g → g ∈ S) : Touch S w w' := ⟨h.os, h.tape, h.output, h.size, fun k hk hS => h.block k hk fun e => hS (hs k e.symm)⟩
theorem Touch.toBelow {B : Nat} (h : Touch S w w') (hS : ∀ g ∈ S, B ≤ g) (hB : B ≤ w.heap.size) : Below B w w' :=
  ⟨h.os, h.tape, h.output, h.size, fun k hk => h.block k (by omega) fun hg => by have := hS k hg; omega⟩
theorem Touch.cell (h : Touch S w w') {g o : Nat} (hg : g < w.heap.size) (hS : g ∉ S) : w'.cell? ⟨g, o, none⟩ = w.cell? ⟨g, o, none⟩ := World.cell?_of_block (w := w) (h.block g hg hS)
theorem Touch.frozen (h : Touch S w w') {g o : Nat} (hg : g < w.heap.size) (hS : g ∉ S) : w'.frozen? ⟨g, o, none⟩ = w.frozen? ⟨g, o, none⟩ := World.frozen?_of_block (w := w) (h.block g hg hS)
theorem Own.touch {E k B : Nat} {f : α → List Value} {v : Value} {xs : List α} (h : Own E k f B w v xs) (ht : Touch S w w') (hne : ∀ g, v.ownBlock = some g → g ∉ S) : Own E k f B w' v xs :=
  h.kept fun g hg => ht.block g (h.lt g hg).2 (hne g hg)
end
/-- The blocks of slices of the call's own. -/
def blocks (l : List Value) : List Nat := l.filterMap Value.ownBlock
theorem mem_blocks {l : List Value} {g : Nat} : g ∈ blocks l ↔ ∃ v ∈ l, v.ownBlock = some g := by simp [blocks]
theorem blocks_append (l m : List Value) : blocks (l ++ m) = blocks l ++ blocks m := by simp [blocks, List.filterMap_append]
theorem blocks_sub {l m : List Value} (h : ∀ v ∈ l, v ∈ m) : ∀ g ∈ blocks l, g ∈ blocks m := by
  intro g hg
  obtain ⟨v, hv, hb⟩ := mem_blocks.1 hg
  exact mem_blocks.2 ⟨v, h v hv, hb⟩
theorem nodup_blocks {l m : List Value} (hl : (blocks l).Nodup) (hm : (blocks m).Nodup) (hd : ∀ g ∈ blocks l, g ∉ blocks m) : (blocks (l ++ m)).Nodup := by
  rw [blocks_append, List.nodup_append]
  exact ⟨hl, hm, fun a ha b hb e => hd a ha (e ▸ hb)⟩
theorem nodup_left {l m : List Value} (h : (blocks (l ++ m)).Nodup) : (blocks l).Nodup := by rw [blocks_append, List.nodup_append] at h; exact h.1
theorem nodup_right {l m : List Value} (h : (blocks (l ++ m)).Nodup) : (blocks m).Nodup := by rw [blocks_append, List.nodup_append] at h; exact h.2.1
theorem nodup_apart {l m : List Value} (h : (blocks (l ++ m)).Nodup) : ∀ g ∈ blocks l, g ∉ blocks m := by rw [blocks_append, List.nodup_append] at h; exact fun g hg hm => h.2.2 g hg g hm rfl
theorem nodup_one (v : Value) : (blocks [v]).Nodup := by unfold blocks; simp only [List.filterMap]; split <;> simp
/-- Two numbers of one list without doubles. -/
theorem nodup_at {vs : List Value} (h : (blocks vs).Nodup) {i j : Nat} {a b : Value} {g : Nat} (hi : vs[i]? = some a) (hj : vs[j]? = some b) (ha : a.ownBlock = some g) (hb : b.ownBlock = some g) : i = j := by
  induction vs generalizing i j with
  | nil => simp at hi
  | cons v vs ih =>
    have hcons : blocks (v :: vs) = blocks [v] ++ blocks vs := by rw [← blocks_append]; rfl
    have h2 : (blocks ([v] ++ vs)).Nodup := h
    have hap := nodup_apart h2
    have htl := nodup_right h2
    cases i with
    | zero =>
      cases j with
      | zero => rfl
      | succ j =>
        simp only [List.getElem?_cons_zero, Option.some.injEq] at hi
        simp only [List.getElem?_cons_succ] at hj
        subst hi
        exact absurd (mem_blocks.2 ⟨b, List.mem_of_getElem? hj, hb⟩) (hap g (mem_blocks.2 ⟨v, by simp, ha⟩))
    | succ i =>
      simp only [List.getElem?_cons_succ] at hi
      cases j with
      | zero =>
        simp only [List.getElem?_cons_zero, Option.some.injEq] at hj
        subst hj
        exact absurd (mem_blocks.2 ⟨a, List.mem_of_getElem? hi, ha⟩) (hap g (mem_blocks.2 ⟨v, by simp, hb⟩))
      | succ j =>
        simp only [List.getElem?_cons_succ] at hj
        rw [ih htl hi hj]

/-! Slices of slices. -/
def fVal (v : Value) : List Value := [v]
theorem lenVal : LenK 1 fVal := fun _ => rfl
/-- vs are the slices of c, and they read as the rows. -/
structure RowsAt (f : α → List Value) (w : World) (c : Value) (vs : List Value) (rows : List (List α)) : Prop where
  out : SlAt 1 fVal w c vs
  len : vs.length = rows.length
  row : ∀ (i : Nat) (v : Value) (r : List α), vs[i]? = some v → rows[i]? = some r → SlAt 1 f w v r
theorem RowsAt.below {f : α → List Value} {w w' : World} {c : Value} {vs : List Value} {rows : List (List α)} (h : RowsAt f w c vs rows) (hb : Below w.heap.size w w') : RowsAt f w' c vs rows :=
  ⟨h.out.below hb, h.len, fun i v r hv hr => (h.row i v r hv hr).below hb⟩
structure OwnRows (ES E : Nat) (f : α → List Value) (B : Nat) (w : World) (c : Value) (vs : List Value) (rows : List (List α)) : Prop where
  out : Own ES 1 fVal B w c vs
  len : vs.length = rows.length
  row : ∀ (i : Nat) (v : Value) (r : List α), vs[i]? = some v → rows[i]? = some r → Own E 1 f B w v r
section
variable {ES E : Nat} {f : α → List Value} {B B' : Nat} {w w' : World} {c : Value} {vs : List Value} {rows : List (List α)} {S : List Nat}
theorem OwnRows.at (h : OwnRows ES E f B w c vs rows) (hf : LenK 1 f) : RowsAt f w c vs rows := ⟨h.out.at lenVal, h.len, fun i v r hv hr => (h.row i v r hv hr).at hf⟩
theorem OwnRows.rowAt (h : OwnRows ES E f B w c vs rows) {v : Value} (hv : v ∈ vs) : ∃ r ∈ rows, Own E 1 f B w v r := by
  obtain ⟨i, hi⟩ := List.getElem?_of_mem hv
  have hlt := getx_lt hi
  rw [h.len] at hlt
  obtain ⟨r, hr⟩ := getx hlt
  exact ⟨r, List.mem_of_getElem? hr, h.row i v r hi hr⟩
theorem OwnRows.lt (h : OwnRows ES E f B w c vs rows) : ∀ g ∈ blocks (c :: vs), B ≤ g ∧ g < w.heap.size := by
  intro g hg
  obtain ⟨v, hv, hb⟩ := mem_blocks.1 hg
  rcases List.mem_cons.1 hv with rfl | hv
  · exact h.out.lt g hb
  · obtain ⟨r, _, ho⟩ := h.rowAt hv
    exact ho.lt g hb
theorem OwnRows.touch (h : OwnRows ES E f B w c vs rows) (ht : Touch S w w') (hne : ∀ g ∈ blocks (c :: vs), g ∉ S) : OwnRows ES E f B w' c vs rows :=
  ⟨h.out.touch ht fun g hg => hne g (mem_blocks.2 ⟨c, by simp, hg⟩), h.len, fun i v r hv hr => (h.row i v r hv hr).touch ht fun g hg => hne g (mem_blocks.2 ⟨v, List.mem_cons_of_mem _ (List.mem_of_getElem? hv), hg⟩)⟩
theorem OwnRows.below (h : OwnRows ES E f B w c vs rows) (hb : Below w.heap.size w w') : OwnRows ES E f B w' c vs rows := h.touch (touch_of_below hb []) (by simp)
theorem OwnRows.mono (h : OwnRows ES E f B w c vs rows) (hB : B' ≤ B) : OwnRows ES E f B' w c vs rows := ⟨h.out.mono hB, h.len, fun i v r hv hr => (h.row i v r hv hr).mono hB⟩
/-- One row has been written: the others stay. -/
theorem OwnRows.setRow (h : OwnRows ES E f B w c vs rows) (hnd : (blocks (c :: vs)).Nodup) {i : Nat} {v : Value} (hi : vs[i]? = some v) {r' : List α} (hgr : w.grownBy w' v.ownBlock) (ho : Own E 1 f B w' v r') : OwnRows ES E f B w' c vs (rows.set i r') := by
  have hnd2 : (blocks ([c] ++ vs)).Nodup := hnd
  have hap := nodup_apart hnd2
  have hnv := nodup_right hnd2
  refine ⟨h.out.kept fun g hg => hgr.block g (h.out.lt g hg).2 fun e => ?_, by rw [List.length_set]; exact h.len, fun j u r hu hr => ?_⟩
  · exact hap g (mem_blocks.2 ⟨c, by simp, hg⟩) (mem_blocks.2 ⟨v, List.mem_of_getElem? hi, e.symm⟩)
  · rw [List.getElem?_set] at hr
    split at hr
    · rename_i e
      subst e
      rw [hi] at hu
      cases hu
      split at hr
      · cases hr; exact ho
      · cases hr
    · rename_i hne
      exact (h.row j u r hu hr).kept fun g hg => hgr.block g ((h.row j u r hu hr).lt g hg).2 fun e => hne (nodup_at hnv hi hu e.symm hg)
end
end Go.Proofs.Ytobechjagckdfaa
/-
  The marks of the laws, as plain lists.
-/
set_option linter.unusedVariables false
set_option linter.unusedSimpArgs false
namespace Go.Proofs.Ytobechjagckdfaa
open Go.RowKit
variable {α : Type} {mk : Int → α} {s k : Int} {xs : List α} {j : Nat}
def marksG (mk : Int → α) (s k : Int) (n : Nat) : List α := (List.range n).map fun (i : Nat) => mk (k + s * (i : Int))
theorem marksG_len (mk : Int → α) (s k : Int) (n : Nat) : (marksG mk s k n).length = n := by simp [marksG]
theorem marksG_get (mk : Int → α) (s k : Int) {n i : Nat} (h : i < n) : (marksG mk s k n)[i]? = some (mk (k + s * i)) := by
  rw [List.getElem?_eq_getElem (by rw [marksG_len]; exact h)]; simp [marksG]
def mixG (mk : Int → α) (s k : Int) (xs : List α) (j : Nat) : List α := marksG mk s k j ++ xs.drop j
theorem mixG_len (h : j ≤ xs.length) : (mixG mk s k xs j).length = xs.length := by simp [mixG, marksG_len]; omega
theorem mixG_set (h : j < xs.length) : (mixG mk s k xs j).set j (mk (k + s * j)) = mixG mk s k xs (j + 1) := by
  unfold mixG
  rw [List.set_append_right _ _ (by rw [marksG_len]; exact Nat.le_refl _), marksG_len, Nat.sub_self, List.drop_eq_getElem_cons h, List.set_cons_zero]
  simp [marksG, List.range_succ]
theorem mixG_full (mk : Int → α) (s k : Int) (xs : List α) : mixG mk s k xs xs.length = marksG mk s k xs.length := by simp [mixG]
end Go.Proofs.Ytobechjagckdfaa
/-
  A region that draws its order, whose first n operations are quiet in a class of worlds (they read, or call what makes memory of its own), and whose tail (a store, an append, a call that hands back new memory) comes up in one order behind all of them.
  One walk in the order of the text serves every order: after the library's theorems on regions with a tail (one world) and on quiet regions (a class, no tail).
-/
set_option linter.unusedVariables false
set_option linter.unusedSimpArgs false
namespace Go.Proofs.Ytobechjagckdfaa
open Go.RowKit
section
variable {P : Program} {ops : Array Oper} {md : Region.Mode} {C : World → Prop}
/-- f operations of the head, in whatever order; then L. -/
def anyHead (P : Program) (md : Region.Mode) (ops : Array Oper) (C : World → Prop) (n : Nat) (L : Array Bool → Act → Prop) : Nat → Array Bool → Act → Prop
  | 0, listed, a => L listed a
  | f + 1, listed, a => Region.ready md ops listed ≠ [] ∧ ∀ i ∈ Region.ready md ops listed, i < n ∧ qOp P ops C i (anyHead P md ops C n L f (listed.setIfInBounds i true)) a
theorem any_of_head {n g : Nat} {L : Array Bool → Act → Prop} {Q' : Exit → Act → World → Prop} (hL : ∀ listed a w, C w → L listed a → wpAny P md ops Q' g listed a w) :
    ∀ (f : Nat) (listed : Array Bool) (a : Act) (w : World), C w → anyHead P md ops C n L f listed a → wpAny P md ops Q' (f + g) listed a w
  | 0, listed, a, w, hw, h => by rw [Nat.zero_add]; exact hL _ _ _ hw h
  | f + 1, listed, a, w, hw, h => by
    rw [show f + 1 + g = (f + g) + 1 by omega]
    exact ⟨fun h0 => absurd h0 h.1, fun i hi => wpOp_of_qOp hw (fun a' w' hw' h' => any_of_head hL f _ a' w' hw' h') (h.2 i hi).2⟩
theorem head_first {n i : Nat} {oi : Oper} {v : Value} {L : Array Bool → Act → Prop} (hi : ops[i]? = some oi) (hsel : ∀ (j : Nat) (o : Oper) cs b, ops[j]? = some o → o.op ≠ .select cs b)
    (hs : Region.sinkB md ops n = true) (hc : Region.chainB md ops n = true) (hn : n < ops.size) (hin : i < n) (hdone : ∀ listed a, L listed a → ∀ j ∈ Region.ready md ops listed, n ≤ j) :
    ∀ (f : Nat) (listed : Array Bool) (a : Act), HeadInv md ops n listed →
      (∀ j oj, ops[j]? = some oj → j ≠ i → listed.getD j true = false → (∀ e ∈ oj.after, Region.binds md e = true → e.on ≠ i) → oi.apart ops oj = true) →
      i ∈ Region.ready md ops listed → YieldsIn P ops C oi v a →
      anyHead P md ops C n L f (listed.setIfInBounds i true) (a.put oi.dst v) → anyHead P md ops C n L (f + 1) listed a := by
  intro f
  have below : ∀ (listed : Array Bool), HeadInv md ops n listed → listed.getD i true = false → ∀ j ∈ Region.ready md ops listed, j < n := by
    intro listed inv hun j hj
    rcases Nat.lt_or_ge j n with h | h
    · exact h
    · exact absurd hj (tail_waits hs hc hn inv _ i rfl hin hun j h)
  induction f with
  | zero =>
    intro listed a inv _ hr hy H
    refine ⟨fun h => (by rw [h] at hr; cases hr), fun j hj => ⟨below listed inv (mem_ready.1 hr).1 j hj, ?_⟩⟩
    by_cases hji : j = i
    · subst hji; exact hy.qOp hi H
    · have h1 := hdone _ _ H j (ready_mono hj hji)
      have h2 := below listed inv (mem_ready.1 hr).1 j hj
      omega
  | succ f ih =>
    intro listed a inv hfree hr hy H
    have hun := (mem_ready.1 hr).1
    refine ⟨fun h => (by rw [h] at hr; cases hr), fun j hj => ⟨below listed inv hun j hj, ?_⟩⟩
    by_cases hji : j = i
    · subst hji; exact hy.qOp hi H
    · have h1 := (H.2 j (ready_mono hj hji)).2
      obtain ⟨hjun, oj, hoj, hall⟩ := mem_ready.1 hj
      have hnot : ∀ e ∈ oj.after, Region.binds md e = true → e.on ≠ i := fun e he hb heq => by
        have h1 := hall e he hb
        rw [heq, getD_both hun] at h1
        cases h1
      have h2 := qOp_put hoj (hfree j oj hoj hji hjun hnot) (fun cs b => hsel i oi cs b hi) (fun cs b => hsel j oj cs b hoj) hy h1
      have hfree' : ∀ k ok, ops[k]? = some ok → k ≠ i → (listed.setIfInBounds j true).getD k true = false →
          (∀ e ∈ ok.after, Region.binds md e = true → e.on ≠ i) → oi.apart ops ok = true := fun k ok hk hki hun' hno => by
        refine hfree k ok hk hki ?_ hno
        by_cases hjk : j = k
        · subst hjk; exact hjun
        · rw [getD_set_ne true hjk] at hun'; exact hun'
      refine qOp_mono (fun a' h3 => ih (listed.setIfInBounds j true) a' (inv.set hj (below listed inv hun j hj)) hfree' (ready_mono hr (Ne.symm hji)) h3.1 ?_) h2
      rw [Array.setIfInBounds_comm _ _ hji]
      exact h3.2
theorem head_lex {n g : Nat} {Lq : Act → Prop} (hsel : Region.noSelect ops = true) (hs : Region.sinkB md ops n = true) (hc : Region.chainB md ops n = true) (hn : n < ops.size) :
    ∀ (l : List Oper) (k : Nat) (listed : Array Bool) (a : Act), (∀ j, j < l.length → l[j]? = ops[k + j]?) → k + l.length = n → HeadInv md ops n listed →
    Region.lexHead md ops g l.length k listed = true → wpQuiet P ops C Lq l a →
    anyHead P md ops C n (fun listed' a' => Region.seqB md ops g n listed' = true ∧ Lq a') l.length listed a
  | [], k, listed, a, _, hk, _, hB, h => by
    have : k = n := by simpa using hk
    subst this
    exact ⟨by simpa [Region.lexHead] using hB, h⟩
  | o :: l, k, listed, a, hl, hk, inv, hB, h => by
    have h0 : ops[k]? = some o := by simpa using (hl 0 (by simp)).symm
    simp only [List.length_cons, Region.lexHead, Bool.and_eq_true] at hB
    obtain ⟨⟨hr, hf⟩, hB'⟩ := hB
    have hkn : k < n := by simp only [List.length_cons] at hk; omega
    have hr' : k ∈ Region.ready md ops listed := by simpa using hr
    have hst : qOp P ops C k (wpQuiet P ops C Lq l) a := by unfold qOp; simp only [h0]; exact h
    obtain ⟨v, hy, hK⟩ := yieldsIn_of_qOp h0 hst
    exact head_first h0 (Region.noSelect_spec hsel) hs hc hn hkn (fun listed' a' hL => seqB_ready hL.1) l.length listed a inv (Region.free_spec h0 hf) hr' hy
      (head_lex hsel hs hc hn l (k + 1) _ _ (fun j hj => by have := hl (j + 1) (by simp; omega); simpa [Nat.add_assoc, Nat.add_comm 1 j] using this) (by simp only [List.length_cons] at hk; omega) (inv.set hr' hkn) hB' hK)
/-- **A quiet head, then the tail in its order.** -/
theorem wp_region_tail {id : Nat} {Q : Exit → Act → World → Prop} {a : Act} {w : World} {l : List Oper} (n : Nat) (hm : P.follows .mixedOrders = true) (hB : Region.lexTailB .any l.toArray n = true) (hC : C { w with drawn := w.drawn + 1 })
    (h : wpQuiet P l.toArray C (fun a' => ∀ w', C w' → wpList P l.toArray Q (l.drop n) a' w') (l.take n) a) : (Code.region id l.toArray true).wp P Q a w := by
  simp only [Region.lexTailB, Bool.and_eq_true, decide_eq_true_eq] at hB
  obtain ⟨⟨⟨⟨hsel, hn⟩, hs⟩, hc⟩, hlex⟩ := hB
  have hn' : n < l.length := by simpa using hn
  have htl : (l.take n).length = n := by simp; omega
  have hdl : (l.drop n).length = l.toArray.size - n := by simp
  have inv0 : HeadInv .any l.toArray n (Array.replicate l.toArray.size false) :=
    ⟨by simp, fun j oj _ hl => (by rw [getD_replicate_false] at hl; cases hl), fun t _ ht => getD_in (by simpa using ht) (getD_replicate_false _ _)⟩
  have H := head_lex (md := .any) (g := l.toArray.size - n) hsel hs hc hn (l.take n) 0 _ a (fun j hj => by
    have hj' : j < n := by rw [htl] at hj; exact hj
    simp [hj']) (by simpa using htl) inv0 (by rw [htl]; exact hlex) h
  refine wp_region_any hm ?_
  have := any_of_head (Q' := Q) (g := l.toArray.size - n) (fun listed a' w' hw' hL => by
    have := wpAny_of_seq (md := .any) (Q' := Q) (l.drop n) n listed a' w' (fun j => by simp [List.getElem?_drop]) (by rw [hdl]; exact hL.1) (hL.2 w' hw')
    rwa [hdl] at this) _ _ _ _ hC H
  rw [htl, show n + (l.toArray.size - n) = l.toArray.size by omega] at this
  exact this
/-- .. the class: the worlds that have grown out of w. -/
theorem wp_region_grew_tail {id : Nat} {Q : Exit → Act → World → Prop} {a : Act} {w : World} {l : List Oper} (n : Nat) (hm : P.follows .mixedOrders = true) (hB : Region.lexTailB .any l.toArray n = true)
    (h : wpQuiet P l.toArray (fun w' => ∃ g : Grew w, w' = g.to) (fun a' => ∀ w', (∃ g : Grew w, w' = g.to) → wpList P l.toArray Q (l.drop n) a' w') (l.take n) a) : (Code.region id l.toArray true).wp P Q a w :=
  wp_region_tail (C := fun w' => ∃ g : Grew w, w' = g.to) n hm hB ⟨⟨_, (Below.refl _ w).drew⟩, rfl⟩ h
/-- .. begun in a world that is a letter. -/
theorem wp_region_grew_tail2 {id : Nat} {Q : Exit → Act → World → Prop} {a : Act} {w : World} {l : List Oper} (n : Nat) (hm : P.follows .mixedOrders = true) (hB : Region.lexTailB .any l.toArray n = true)
    (h : ∀ w0, Below w.heap.size w w0 → wpQuiet P l.toArray (fun w' => ∃ g : Grew w0, w' = g.to) (fun a' => ∀ w', (∃ g : Grew w0, w' = g.to) → wpList P l.toArray Q (l.drop n) a' w') (l.take n) a) : (Code.region id l.toArray true).wp P Q a w :=
  wp_region_tail (C := fun w' => ∃ g : Grew w.drew, w' = g.to) n hm hB ⟨⟨_, Below.refl _ w.drew⟩, rfl⟩ (h w.drew (Below.refl _ w).drew)
end
end Go.Proofs.Ytobechjagckdfaa
