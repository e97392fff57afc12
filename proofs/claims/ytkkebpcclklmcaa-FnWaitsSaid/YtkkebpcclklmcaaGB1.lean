/-
  Texts put together: Base.
-/
import Derived.Test.YtkkebpcclklmcaaRows
import Derived.WalkKit
import Derived.BigQuiet
import Derived.Lib.Hide
/-
  Small plain facts on worlds and on integers, for the walks of this seat. No Go text is named here.
-/
set_option linter.unusedVariables false
set_option linter.unusedSimpArgs false
namespace Go.Proofs.Ytkkebpcclklmcaa
open Go.RowKit

/-- Old cells and old marks read as before. -/
theorem bcell {W w1 : World} (hb : Below W.heap.size W w1) : (∀ b o, b < W.heap.size → w1.cell? ⟨b, o, none⟩ = W.cell? ⟨b, o, none⟩) ∧ (∀ b o, b < W.heap.size → w1.frozen? ⟨b, o, none⟩ = W.frozen? ⟨b, o, none⟩) :=
  ⟨fun b o h => hb.cell (p := ⟨b, o, none⟩) h, fun b o h => hb.frozen (p := ⟨b, o, none⟩) h⟩

/-- A WORLD THAT HAS GROWN OUT OF w: all that was there reads as it did. The class of worlds of a region that draws its order and whose callees make memory of their own. -/
structure Grew (w : World) where
  to : World
  below : Below w.heap.size w to
theorem Grew.cell {w : World} (g : Grew w) (b o : Nat) (h : b < w.heap.size) : g.to.cell? ⟨b, o, none⟩ = w.cell? ⟨b, o, none⟩ := g.below.cell (p := ⟨b, o, none⟩) h
theorem Grew.frozen {w : World} (g : Grew w) (b o : Nat) (h : b < w.heap.size) : g.to.frozen? ⟨b, o, none⟩ = w.frozen? ⟨b, o, none⟩ := g.below.frozen (p := ⟨b, o, none⟩) h
attribute [go_sem] Grew.cell Grew.frozen
instance (w : World) : Nonempty (Grew w) := ⟨⟨w, Below.refl _ _⟩⟩
/-- A region that draws its order: one walk in the order of the text, its callees may make memory. -/
theorem wp_region_grew {P : Program} {id : Nat} {Q : Exit → Act → World → Prop} {a : Act} {w : World} {l : List Oper} (hm : P.follows .mixedOrders = true) (hB : Region.lexB .any l.toArray = true)
    (h : wpQuiet P l.toArray (fun w' => ∃ g : Grew w, w' = g.to) (fun a' => ∀ w', (∃ g : Grew w, w' = g.to) → Q .normal a' w') l a) : (Code.region id l.toArray true).wp P Q a w :=
  wp_region_quiet (C := fun w' => ∃ g : Grew w, w' = g.to) hm hB ⟨⟨_, (Below.refl _ w).drew⟩, rfl⟩ (by simpa using h)
/-- .. begun in a world that is a letter. -/
theorem wp_region_grew2 {P : Program} {id : Nat} {Q : Exit → Act → World → Prop} {a : Act} {w : World} {l : List Oper} (hm : P.follows .mixedOrders = true) (hB : Region.lexB .any l.toArray = true)
    (h : ∀ w0, Below w.heap.size w w0 → wpQuiet P l.toArray (fun w' => ∃ g : Grew w0, w' = g.to) (fun a' => ∀ w', (∃ g : Grew w0, w' = g.to) → Q .normal a' w') l a) : (Code.region id l.toArray true).wp P Q a w :=
  wp_region_quiet (C := fun w' => ∃ g : Grew w.drew, w' = g.to) hm hB ⟨⟨_, Below.refl _ w.drew⟩, rfl⟩ (by simpa using h w.drew (Below.refl _ w).drew)
theorem grew_below {w w' : World} (h : ∃ g : Grew w, w' = g.to) : Below w.heap.size w w' := by obtain ⟨g, rfl⟩ := h; exact g.below
theorem calls_grew {P : Program} {f : FuncId} {args : Array Value} {w : World} {g : Grew w} {v : Value}
    (h : Calls P f args g.to fun e w' => e = .returned v ∧ Below g.to.heap.size g.to w') : Calls P f args g.to fun e w'' => e = .returned v ∧ ∃ g' : Grew w, w'' = g'.to :=
  h.mono fun _ w' ⟨he, hm⟩ => ⟨he, ⟨w', g.below.trans (hm.mono g.below.size)⟩, rfl⟩
theorem calls_same {P : Program} {f : FuncId} {args : Array Value} {w : World} {g : Grew w} {v : Value}
    (h : Calls P f args g.to fun e w' => e = .returned v ∧ g.to = w') : Calls P f args g.to fun e w'' => e = .returned v ∧ ∃ g' : Grew w, w'' = g'.to :=
  h.mono fun _ w' ⟨he, hm⟩ => ⟨he, g, hm.symm⟩

/-! Steps that come back thousands of times, each named once: the tactic stands behind the name. -/
theorem zt {p : Prop} (h : p := by first | (simp only [World.size_alloc, World.size_setCell, World.size_drew]; done) | (simp only [World.size_alloc, World.size_setCell, World.size_drew]; omega) | omega) : p := h
theorem zo {p : Prop} (h : p := by ((try simp only [World.size_alloc, World.size_setCell, World.size_drew]); omega)) : p := h
theorem bel {B : Nat} {w w' : World} (h : Below B w w' := by (repeat (first | with_reducible exact Below.refl _ _ | (with_reducible refine Below.alloc ?_ (by first | (simp only [World.size_alloc, World.size_setCell, World.size_drew]; done) | (simp only [World.size_alloc, World.size_setCell, World.size_drew]; omega) | omega) _) | (with_reducible refine Below.setCell ?_ (by first | (simp only [World.size_alloc, World.size_setCell, World.size_drew]; done) | (simp only [World.size_alloc, World.size_setCell, World.size_drew]; omega) | omega) _) | (with_reducible refine Below.drew ?_) | (refine Below.trans ?_ (Below.mono (by with_reducible assumption) (by first | (simp only [World.size_alloc, World.size_setCell, World.size_drew]; done) | (simp only [World.size_alloc, World.size_setCell, World.size_drew]; omega) | omega)))))) : Below B w w' := h
/-! Blocks that are known to lie in the world: a list that each call hands on, the blocks laid since then put ahead of it. -/
def allLt : List Nat → Nat → Prop
  | [], _ => True
  | n :: l, m => n < m ∧ allLt l m
theorem allLt.mono {l : List Nat} {a b : Nat} (h : allLt l a) (hab : a ≤ b) : allLt l b := by
  induction l with
  | nil => trivial
  | cons n l ih => exact ⟨Nat.lt_of_lt_of_le h.1 hab, ih h.2⟩
theorem all_nil (w : World) : allLt [] w.heap.size := trivial
theorem ext0 {X w2 : World} {L : List Nat} (h : allLt L X.heap.size) (hle : X.heap.size ≤ w2.heap.size) : allLt L w2.heap.size := h.mono hle
theorem ext1 {X w2 : World} {L : List Nat} (h : allLt L X.heap.size) (hle : X.heap.size + 1 ≤ w2.heap.size) : allLt (X.heap.size :: L) w2.heap.size := ⟨hle, h.mono (by omega)⟩
theorem ext2 {X w2 : World} {L : List Nat} (h : allLt L X.heap.size) (hle : X.heap.size + 1 + 1 ≤ w2.heap.size) : allLt ((X.heap.size + 1) :: X.heap.size :: L) w2.heap.size := ⟨hle, ext1 h (by omega)⟩
theorem ext3 {X w2 : World} {L : List Nat} (h : allLt L X.heap.size) (hle : X.heap.size + 1 + 1 + 1 ≤ w2.heap.size) : allLt ((X.heap.size + 1 + 1) :: (X.heap.size + 1) :: X.heap.size :: L) w2.heap.size := ⟨hle, ext2 h (by omega)⟩
theorem ext4 {X w2 : World} {L : List Nat} (h : allLt L X.heap.size) (hle : X.heap.size + 1 + 1 + 1 + 1 ≤ w2.heap.size) : allLt ((X.heap.size + 1 + 1 + 1) :: (X.heap.size + 1 + 1) :: (X.heap.size + 1) :: X.heap.size :: L) w2.heap.size := ⟨hle, ext3 h (by omega)⟩

section
variable {W w2 X : World} {L : List Nat}
theorem cellX (hb : Below W.heap.size W w2) (_h : allLt L X.heap.size) (hle : X.heap.size ≤ W.heap.size) : ∀ b o, b < X.heap.size → w2.cell? ⟨b, o, none⟩ = W.cell? ⟨b, o, none⟩ := fun b o h => hb.cell (p := ⟨b, o, none⟩) (Nat.lt_of_lt_of_le h hle)
theorem cell0 (hb : Below W.heap.size W w2) (_h : allLt L X.heap.size) (hle : X.heap.size + 1 ≤ W.heap.size) : ∀ o, w2.cell? ⟨X.heap.size, o, none⟩ = W.cell? ⟨X.heap.size, o, none⟩ := fun o => hb.cell (p := ⟨X.heap.size, o, none⟩) hle
theorem cell1 (hb : Below W.heap.size W w2) (_h : allLt L X.heap.size) (hle : X.heap.size + 1 + 1 ≤ W.heap.size) : ∀ o, w2.cell? ⟨X.heap.size + 1, o, none⟩ = W.cell? ⟨X.heap.size + 1, o, none⟩ := fun o => hb.cell (p := ⟨X.heap.size + 1, o, none⟩) hle
theorem cell2 (hb : Below W.heap.size W w2) (_h : allLt L X.heap.size) (hle : X.heap.size + 1 + 1 + 1 ≤ W.heap.size) : ∀ o, w2.cell? ⟨X.heap.size + 1 + 1, o, none⟩ = W.cell? ⟨X.heap.size + 1 + 1, o, none⟩ := fun o => hb.cell (p := ⟨X.heap.size + 1 + 1, o, none⟩) hle
theorem cell3 (hb : Below W.heap.size W w2) (_h : allLt L X.heap.size) (hle : X.heap.size + 1 + 1 + 1 + 1 ≤ W.heap.size) : ∀ o, w2.cell? ⟨X.heap.size + 1 + 1 + 1, o, none⟩ = W.cell? ⟨X.heap.size + 1 + 1 + 1, o, none⟩ := fun o => hb.cell (p := ⟨X.heap.size + 1 + 1 + 1, o, none⟩) hle
theorem frozenX (hb : Below W.heap.size W w2) (_h : allLt L X.heap.size) (hle : X.heap.size ≤ W.heap.size) : ∀ b o, b < X.heap.size → w2.frozen? ⟨b, o, none⟩ = W.frozen? ⟨b, o, none⟩ := fun b o h => hb.frozen (p := ⟨b, o, none⟩) (Nat.lt_of_lt_of_le h hle)
theorem frozen0 (hb : Below W.heap.size W w2) (_h : allLt L X.heap.size) (hle : X.heap.size + 1 ≤ W.heap.size) : ∀ o, w2.frozen? ⟨X.heap.size, o, none⟩ = W.frozen? ⟨X.heap.size, o, none⟩ := fun o => hb.frozen (p := ⟨X.heap.size, o, none⟩) hle
theorem frozen1 (hb : Below W.heap.size W w2) (_h : allLt L X.heap.size) (hle : X.heap.size + 1 + 1 ≤ W.heap.size) : ∀ o, w2.frozen? ⟨X.heap.size + 1, o, none⟩ = W.frozen? ⟨X.heap.size + 1, o, none⟩ := fun o => hb.frozen (p := ⟨X.heap.size + 1, o, none⟩) hle
theorem frozen2 (hb : Below W.heap.size W w2) (_h : allLt L X.heap.size) (hle : X.heap.size + 1 + 1 + 1 ≤ W.heap.size) : ∀ o, w2.frozen? ⟨X.heap.size + 1 + 1, o, none⟩ = W.frozen? ⟨X.heap.size + 1 + 1, o, none⟩ := fun o => hb.frozen (p := ⟨X.heap.size + 1 + 1, o, none⟩) hle
theorem frozen3 (hb : Below W.heap.size W w2) (_h : allLt L X.heap.size) (hle : X.heap.size + 1 + 1 + 1 + 1 ≤ W.heap.size) : ∀ o, w2.frozen? ⟨X.heap.size + 1 + 1 + 1, o, none⟩ = W.frozen? ⟨X.heap.size + 1 + 1 + 1, o, none⟩ := fun o => hb.frozen (p := ⟨X.heap.size + 1 + 1 + 1, o, none⟩) hle
/-- All of it at once, with k blocks laid since X. -/
theorem nw0 (hb : Below W.heap.size W w2) (hall : allLt L X.heap.size) (hle : X.heap.size ≤ W.heap.size := by exact zo) : (∀ b o, b < X.heap.size → w2.cell? ⟨b, o, none⟩ = W.cell? ⟨b, o, none⟩) ∧ (∀ b o, b < X.heap.size → w2.frozen? ⟨b, o, none⟩ = W.frozen? ⟨b, o, none⟩) ∧ allLt L w2.heap.size ∧ True :=
  ⟨cellX hb hall hle, frozenX hb hall hle, ext0 hall (Nat.le_trans hle hb.size), trivial⟩
theorem nw1 (hb : Below W.heap.size W w2) (hall : allLt L X.heap.size) (hle : X.heap.size + 1 ≤ W.heap.size := by exact zo) : (∀ b o, b < X.heap.size → w2.cell? ⟨b, o, none⟩ = W.cell? ⟨b, o, none⟩) ∧ (∀ b o, b < X.heap.size → w2.frozen? ⟨b, o, none⟩ = W.frozen? ⟨b, o, none⟩) ∧ allLt (X.heap.size :: L) w2.heap.size ∧
    (∀ o, w2.cell? ⟨X.heap.size, o, none⟩ = W.cell? ⟨X.heap.size, o, none⟩) ∧ (∀ o, w2.frozen? ⟨X.heap.size, o, none⟩ = W.frozen? ⟨X.heap.size, o, none⟩) :=
  ⟨cellX hb hall (by omega), frozenX hb hall (by omega), ext1 hall (Nat.le_trans hle hb.size), cell0 hb hall hle, frozen0 hb hall hle⟩
theorem nw2 (hb : Below W.heap.size W w2) (hall : allLt L X.heap.size) (hle : X.heap.size + 1 + 1 ≤ W.heap.size := by exact zo) : (∀ b o, b < X.heap.size → w2.cell? ⟨b, o, none⟩ = W.cell? ⟨b, o, none⟩) ∧ (∀ b o, b < X.heap.size → w2.frozen? ⟨b, o, none⟩ = W.frozen? ⟨b, o, none⟩) ∧ allLt ((X.heap.size + 1) :: X.heap.size :: L) w2.heap.size ∧
    (∀ o, w2.cell? ⟨X.heap.size, o, none⟩ = W.cell? ⟨X.heap.size, o, none⟩) ∧ (∀ o, w2.frozen? ⟨X.heap.size, o, none⟩ = W.frozen? ⟨X.heap.size, o, none⟩) ∧ (∀ o, w2.cell? ⟨X.heap.size + 1, o, none⟩ = W.cell? ⟨X.heap.size + 1, o, none⟩) ∧ (∀ o, w2.frozen? ⟨X.heap.size + 1, o, none⟩ = W.frozen? ⟨X.heap.size + 1, o, none⟩) :=
  ⟨cellX hb hall (by omega), frozenX hb hall (by omega), ext2 hall (Nat.le_trans hle hb.size), cell0 hb hall (by omega), frozen0 hb hall (by omega), cell1 hb hall hle, frozen1 hb hall hle⟩
theorem nw3 (hb : Below W.heap.size W w2) (hall : allLt L X.heap.size) (hle : X.heap.size + 1 + 1 + 1 ≤ W.heap.size := by exact zo) : (∀ b o, b < X.heap.size → w2.cell? ⟨b, o, none⟩ = W.cell? ⟨b, o, none⟩) ∧ (∀ b o, b < X.heap.size → w2.frozen? ⟨b, o, none⟩ = W.frozen? ⟨b, o, none⟩) ∧ allLt ((X.heap.size + 1 + 1) :: (X.heap.size + 1) :: X.heap.size :: L) w2.heap.size ∧
    (∀ o, w2.cell? ⟨X.heap.size, o, none⟩ = W.cell? ⟨X.heap.size, o, none⟩) ∧ (∀ o, w2.frozen? ⟨X.heap.size, o, none⟩ = W.frozen? ⟨X.heap.size, o, none⟩) ∧ (∀ o, w2.cell? ⟨X.heap.size + 1, o, none⟩ = W.cell? ⟨X.heap.size + 1, o, none⟩) ∧ (∀ o, w2.frozen? ⟨X.heap.size + 1, o, none⟩ = W.frozen? ⟨X.heap.size + 1, o, none⟩) ∧
    (∀ o, w2.cell? ⟨X.heap.size + 1 + 1, o, none⟩ = W.cell? ⟨X.heap.size + 1 + 1, o, none⟩) ∧ (∀ o, w2.frozen? ⟨X.heap.size + 1 + 1, o, none⟩ = W.frozen? ⟨X.heap.size + 1 + 1, o, none⟩) :=
  ⟨cellX hb hall (by omega), frozenX hb hall (by omega), ext3 hall (Nat.le_trans hle hb.size), cell0 hb hall (by omega), frozen0 hb hall (by omega), cell1 hb hall (by omega), frozen1 hb hall (by omega), cell2 hb hall hle, frozen2 hb hall hle⟩
theorem nw4 (hb : Below W.heap.size W w2) (hall : allLt L X.heap.size) (hle : X.heap.size + 1 + 1 + 1 + 1 ≤ W.heap.size := by exact zo) : (∀ b o, b < X.heap.size → w2.cell? ⟨b, o, none⟩ = W.cell? ⟨b, o, none⟩) ∧ (∀ b o, b < X.heap.size → w2.frozen? ⟨b, o, none⟩ = W.frozen? ⟨b, o, none⟩) ∧ allLt ((X.heap.size + 1 + 1 + 1) :: (X.heap.size + 1 + 1) :: (X.heap.size + 1) :: X.heap.size :: L) w2.heap.size ∧
    (∀ o, w2.cell? ⟨X.heap.size, o, none⟩ = W.cell? ⟨X.heap.size, o, none⟩) ∧ (∀ o, w2.frozen? ⟨X.heap.size, o, none⟩ = W.frozen? ⟨X.heap.size, o, none⟩) ∧ (∀ o, w2.cell? ⟨X.heap.size + 1, o, none⟩ = W.cell? ⟨X.heap.size + 1, o, none⟩) ∧ (∀ o, w2.frozen? ⟨X.heap.size + 1, o, none⟩ = W.frozen? ⟨X.heap.size + 1, o, none⟩) ∧
    (∀ o, w2.cell? ⟨X.heap.size + 1 + 1, o, none⟩ = W.cell? ⟨X.heap.size + 1 + 1, o, none⟩) ∧ (∀ o, w2.frozen? ⟨X.heap.size + 1 + 1, o, none⟩ = W.frozen? ⟨X.heap.size + 1 + 1, o, none⟩) ∧ (∀ o, w2.cell? ⟨X.heap.size + 1 + 1 + 1, o, none⟩ = W.cell? ⟨X.heap.size + 1 + 1 + 1, o, none⟩) ∧ (∀ o, w2.frozen? ⟨X.heap.size + 1 + 1 + 1, o, none⟩ = W.frozen? ⟨X.heap.size + 1 + 1 + 1, o, none⟩) :=
  ⟨cellX hb hall (by omega), frozenX hb hall (by omega), ext4 hall (Nat.le_trans hle hb.size), cell0 hb hall (by omega), frozen0 hb hall (by omega), cell1 hb hall (by omega), frozen1 hb hall (by omega), cell2 hb hall (by omega), frozen2 hb hall (by omega), cell3 hb hall hle, frozen3 hb hall hle⟩
/-- A cell that stays, its mark, its block. -/
theorem kc {n b o : Nat} {v : Value} (hb : Below n W w2) (hlt : b < n := by exact zt) (h : W.cell? ⟨b, o, none⟩ = some v := by go_simp) : w2.cell? ⟨b, o, none⟩ = some v := (hb.cell (p := ⟨b, o, none⟩) hlt).trans h
theorem fc {n b o : Nat} (hb : Below n W w2) (hlt : b < n := by exact zt) (h : W.frozen? ⟨b, o, none⟩ = false := by go_simp) : w2.frozen? ⟨b, o, none⟩ = false := (hb.frozen (p := ⟨b, o, none⟩) hlt).trans h
theorem xc {n b : Nat} (hb : Below n W w2) (hlt : b < W.heap.size := by exact zt) : b < w2.heap.size := Nat.lt_of_lt_of_le hlt hb.size
end
theorem kp2 {W w2 : World} {n : Nat} (hb : Below n W w2) (b : Nat) (v0 v1 : Value) (hlt : b < n := by exact zt) (h0 : W.cell? ⟨b, 0, none⟩ = some v0 := by go_simp) (h1 : W.cell? ⟨b, 1, none⟩ = some v1 := by go_simp)  : w2.cell? ⟨b, 0, none⟩ = some v0 ∧ w2.cell? ⟨b, 1, none⟩ = some v1 := ⟨kc hb hlt h0, kc hb hlt h1⟩
theorem kf2 {W w2 : World} {n : Nat} (hb : Below n W w2) (b : Nat) (v0 v1 : Value) (hlt : b < n := by exact zt) (h0 : W.cell? ⟨b, 0, none⟩ = some v0 := by go_simp) (h1 : W.cell? ⟨b, 1, none⟩ = some v1 := by go_simp) (g0 : W.frozen? ⟨b, 0, none⟩ = false := by go_simp) (g1 : W.frozen? ⟨b, 1, none⟩ = false := by go_simp) : w2.cell? ⟨b, 0, none⟩ = some v0 ∧ w2.frozen? ⟨b, 0, none⟩ = false ∧ w2.cell? ⟨b, 1, none⟩ = some v1 ∧ w2.frozen? ⟨b, 1, none⟩ = false := ⟨kc hb hlt h0, fc hb hlt g0, kc hb hlt h1, fc hb hlt g1⟩
theorem kp3 {W w2 : World} {n : Nat} (hb : Below n W w2) (b : Nat) (v0 v1 v2 : Value) (hlt : b < n := by exact zt) (h0 : W.cell? ⟨b, 0, none⟩ = some v0 := by go_simp) (h1 : W.cell? ⟨b, 1, none⟩ = some v1 := by go_simp) (h2 : W.cell? ⟨b, 2, none⟩ = some v2 := by go_simp)  : w2.cell? ⟨b, 0, none⟩ = some v0 ∧ w2.cell? ⟨b, 1, none⟩ = some v1 ∧ w2.cell? ⟨b, 2, none⟩ = some v2 := ⟨kc hb hlt h0, kc hb hlt h1, kc hb hlt h2⟩
theorem kf3 {W w2 : World} {n : Nat} (hb : Below n W w2) (b : Nat) (v0 v1 v2 : Value) (hlt : b < n := by exact zt) (h0 : W.cell? ⟨b, 0, none⟩ = some v0 := by go_simp) (h1 : W.cell? ⟨b, 1, none⟩ = some v1 := by go_simp) (h2 : W.cell? ⟨b, 2, none⟩ = some v2 := by go_simp) (g0 : W.frozen? ⟨b, 0, none⟩ = false := by go_simp) (g1 : W.frozen? ⟨b, 1, none⟩ = false := by go_simp) (g2 : W.frozen? ⟨b, 2, none⟩ = false := by go_simp) : w2.cell? ⟨b, 0, none⟩ = some v0 ∧ w2.frozen? ⟨b, 0, none⟩ = false ∧ w2.cell? ⟨b, 1, none⟩ = some v1 ∧ w2.frozen? ⟨b, 1, none⟩ = false ∧ w2.cell? ⟨b, 2, none⟩ = some v2 ∧ w2.frozen? ⟨b, 2, none⟩ = false := ⟨kc hb hlt h0, fc hb hlt g0, kc hb hlt h1, fc hb hlt g1, kc hb hlt h2, fc hb hlt g2⟩
theorem kp4 {W w2 : World} {n : Nat} (hb : Below n W w2) (b : Nat) (v0 v1 v2 v3 : Value) (hlt : b < n := by exact zt) (h0 : W.cell? ⟨b, 0, none⟩ = some v0 := by go_simp) (h1 : W.cell? ⟨b, 1, none⟩ = some v1 := by go_simp) (h2 : W.cell? ⟨b, 2, none⟩ = some v2 := by go_simp) (h3 : W.cell? ⟨b, 3, none⟩ = some v3 := by go_simp)  : w2.cell? ⟨b, 0, none⟩ = some v0 ∧ w2.cell? ⟨b, 1, none⟩ = some v1 ∧ w2.cell? ⟨b, 2, none⟩ = some v2 ∧ w2.cell? ⟨b, 3, none⟩ = some v3 := ⟨kc hb hlt h0, kc hb hlt h1, kc hb hlt h2, kc hb hlt h3⟩
theorem kf4 {W w2 : World} {n : Nat} (hb : Below n W w2) (b : Nat) (v0 v1 v2 v3 : Value) (hlt : b < n := by exact zt) (h0 : W.cell? ⟨b, 0, none⟩ = some v0 := by go_simp) (h1 : W.cell? ⟨b, 1, none⟩ = some v1 := by go_simp) (h2 : W.cell? ⟨b, 2, none⟩ = some v2 := by go_simp) (h3 : W.cell? ⟨b, 3, none⟩ = some v3 := by go_simp) (g0 : W.frozen? ⟨b, 0, none⟩ = false := by go_simp) (g1 : W.frozen? ⟨b, 1, none⟩ = false := by go_simp) (g2 : W.frozen? ⟨b, 2, none⟩ = false := by go_simp) (g3 : W.frozen? ⟨b, 3, none⟩ = false := by go_simp) : w2.cell? ⟨b, 0, none⟩ = some v0 ∧ w2.frozen? ⟨b, 0, none⟩ = false ∧ w2.cell? ⟨b, 1, none⟩ = some v1 ∧ w2.frozen? ⟨b, 1, none⟩ = false ∧ w2.cell? ⟨b, 2, none⟩ = some v2 ∧ w2.frozen? ⟨b, 2, none⟩ = false ∧ w2.cell? ⟨b, 3, none⟩ = some v3 ∧ w2.frozen? ⟨b, 3, none⟩ = false := ⟨kc hb hlt h0, fc hb hlt g0, kc hb hlt h1, fc hb hlt g1, kc hb hlt h2, fc hb hlt g2, kc hb hlt h3, fc hb hlt g3⟩
theorem kp5 {W w2 : World} {n : Nat} (hb : Below n W w2) (b : Nat) (v0 v1 v2 v3 v4 : Value) (hlt : b < n := by exact zt) (h0 : W.cell? ⟨b, 0, none⟩ = some v0 := by go_simp) (h1 : W.cell? ⟨b, 1, none⟩ = some v1 := by go_simp) (h2 : W.cell? ⟨b, 2, none⟩ = some v2 := by go_simp) (h3 : W.cell? ⟨b, 3, none⟩ = some v3 := by go_simp) (h4 : W.cell? ⟨b, 4, none⟩ = some v4 := by go_simp)  : w2.cell? ⟨b, 0, none⟩ = some v0 ∧ w2.cell? ⟨b, 1, none⟩ = some v1 ∧ w2.cell? ⟨b, 2, none⟩ = some v2 ∧ w2.cell? ⟨b, 3, none⟩ = some v3 ∧ w2.cell? ⟨b, 4, none⟩ = some v4 := ⟨kc hb hlt h0, kc hb hlt h1, kc hb hlt h2, kc hb hlt h3, kc hb hlt h4⟩
theorem kf5 {W w2 : World} {n : Nat} (hb : Below n W w2) (b : Nat) (v0 v1 v2 v3 v4 : Value) (hlt : b < n := by exact zt) (h0 : W.cell? ⟨b, 0, none⟩ = some v0 := by go_simp) (h1 : W.cell? ⟨b, 1, none⟩ = some v1 := by go_simp) (h2 : W.cell? ⟨b, 2, none⟩ = some v2 := by go_simp) (h3 : W.cell? ⟨b, 3, none⟩ = some v3 := by go_simp) (h4 : W.cell? ⟨b, 4, none⟩ = some v4 := by go_simp) (g0 : W.frozen? ⟨b, 0, none⟩ = false := by go_simp) (g1 : W.frozen? ⟨b, 1, none⟩ = false := by go_simp) (g2 : W.frozen? ⟨b, 2, none⟩ = false := by go_simp) (g3 : W.frozen? ⟨b, 3, none⟩ = false := by go_simp) (g4 : W.frozen? ⟨b, 4, none⟩ = false := by go_simp) : w2.cell? ⟨b, 0, none⟩ = some v0 ∧ w2.frozen? ⟨b, 0, none⟩ = false ∧ w2.cell? ⟨b, 1, none⟩ = some v1 ∧ w2.frozen? ⟨b, 1, none⟩ = false ∧ w2.cell? ⟨b, 2, none⟩ = some v2 ∧ w2.frozen? ⟨b, 2, none⟩ = false ∧ w2.cell? ⟨b, 3, none⟩ = some v3 ∧ w2.frozen? ⟨b, 3, none⟩ = false ∧ w2.cell? ⟨b, 4, none⟩ = some v4 ∧ w2.frozen? ⟨b, 4, none⟩ = false := ⟨kc hb hlt h0, fc hb hlt g0, kc hb hlt h1, fc hb hlt g1, kc hb hlt h2, fc hb hlt g2, kc hb hlt h3, fc hb hlt g3, kc hb hlt h4, fc hb hlt g4⟩

def between (n lo hi : Int) : Bool := decide (lo ≤ n) && decide (n ≤ hi)
theorem between_iff {n lo hi : Int} : between n lo hi = true ↔ lo ≤ n ∧ n ≤ hi := by simp [between]
theorem between_not {n lo hi : Int} : between n lo hi = false ↔ n < lo ∨ hi < n := by
  rw [← Bool.not_eq_true, between_iff]; omega

/-- The number of cells of a slot of a class. -/
def classSize (c : Int) : Int := if between c 0 3 then 2 ^ c.toNat else 0
/-- The number of slots of a page of a class. -/
def slotsOf (c : Int) : Int := if between c 0 3 then 16 / 2 ^ c.toNat else 0
theorem class_cases {c : Int} (h : between c 0 3 = true) : c = 0 ∨ c = 1 ∨ c = 2 ∨ c = 3 := by rw [between_iff] at h; omega
theorem classSize_in {c : Int} (h : between c 0 3 = true) : classSize c = 2 ^ c.toNat := by simp [classSize, h]
theorem slotsOf_in {c : Int} (h : between c 0 3 = true) : slotsOf c = 16 / 2 ^ c.toNat := by simp [slotsOf, h]
theorem classSize_out {c : Int} (h : between c 0 3 = false) : classSize c = 0 := by simp [classSize, h]
theorem slotsOf_out {c : Int} (h : between c 0 3 = false) : slotsOf c = 0 := by simp [slotsOf, h]
theorem classSize_bound (c : Int) : 0 ≤ classSize c ∧ classSize c ≤ 8 := by
  cases h : between c 0 3 with
  | false => simp [classSize, h]
  | true => rcases class_cases h with rfl | rfl | rfl | rfl <;> decide
theorem slotsOf_bound (c : Int) : 0 ≤ slotsOf c ∧ slotsOf c ≤ 16 := by
  cases h : between c 0 3 with
  | false => simp [slotsOf, h]
  | true => rcases class_cases h with rfl | rfl | rfl | rfl <;> decide
theorem class_mul {c : Int} (h : between c 0 3 = true) : slotsOf c * classSize c = 16 := by
  rcases class_cases h with rfl | rfl | rfl | rfl <;> decide

def bitmapOk (n b : Int) : Bool := between n 1 16 && between b 0 (2 ^ n.toNat - 1)
theorem bitmapOk_zero (b : Int) : bitmapOk 0 b = false := by simp [bitmapOk, between]
def slotOk (b i : Int) : Bool := decide (0 ≤ b) && between i 0 15
def withSlot (b i : Int) : Int := if slotOk b i then bits .or .i64 b (2 ^ i.toNat) else b
def withoutSlot (b i : Int) : Int := if slotOk b i then bits .andNot .i64 b (2 ^ i.toNat) else b
def hasSlot (b i : Int) : Bool := slotOk b i && (bits .and .i64 (b / 2 ^ i.toNat) 1 == 1)
def spanOk (p c b : Int) : Bool := between p 0 31 && between c 0 3 && bitmapOk (slotsOf c) b
theorem spanOk_alt (p c b : Int) : spanOk p c b = (between p 0 31 && bitmapOk (slotsOf c) b) := by
  cases h : between c 0 3 with
  | false => simp [spanOk, h, slotsOf, bitmapOk_zero]
  | true => simp [spanOk, h]

theorem ret_int {k : IntKind} {a b : Int} (h : a = b) : Ending.returned (.int k a) = .returned (.int k b) := by rw [h]
theorem ret_bool {a b : Bool} (h : a = b) : Ending.returned (.bool a) = .returned (.bool b) := by rw [h]
theorem pow_in {c : Int} (h0 : 0 ≤ c) (h : c ≤ 16) : wrap64 (2 ^ c.toNat) = 2 ^ c.toNat ∧ wrap64 (2 ^ c.toNat - 1) = 2 ^ c.toNat - 1 ∧ (1 : Int) ≤ 2 ^ c.toNat ∧ (2 : Int) ^ c.toNat ≤ 65536 := by
  have h3 := (by decide : ∀ m : Fin 17, (1 : Int) ≤ 2 ^ m.val ∧ (2 : Int) ^ m.val ≤ 65536) ⟨c.toNat, by omega⟩
  have h1 : (2 : Int) ^ c.toNat ≤ 65536 := h3.2
  have h2 : (1 : Int) ≤ 2 ^ c.toNat := h3.1
  exact ⟨IntWalk.wrap64_in _ ⟨by omega, by omega⟩, IntWalk.wrap64_in _ ⟨by omega, by omega⟩, h2, h1⟩

end Go.Proofs.Ytkkebpcclklmcaa
