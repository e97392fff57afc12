/-
  Texts put together: KDef.
-/
import Derived.Test.YtmblkllijjlkoaaGreatGB3
import Derived.Test.YtmblkllijjlkoaaGreatGB6
/-
  Kernels as plain data, how they lie, and what it means that a call owns one.
-/
set_option linter.unusedVariables false
set_option linter.unusedSimpArgs false
namespace Go.Proofs.YtmblkllijjlkoaaGreat
open Go.RowKit
theorem IntsAt.open {w : World} {v : Value} {xs : List Int} (h : SlAt 1 fInt w v xs) : ∃ ao cap, v = .slice ao xs.length cap ∧ xs.length ≤ cap ∧ cap ≤ maxLen ∧
    ∀ i x, xs[i]? = some x → ∃ g o, ao = some ⟨g, o, none⟩ ∧ g < w.heap.size ∧ w.cell? ⟨g, o + i, none⟩ = some (.int .i64 x) := SlAt.open1 h fun _ => rfl
abbrev IntsAt (w : World) (v : Value) (xs : List Int) : Prop := SlAt 1 fInt w v xs
theorem OwnI.slotI {B : Nat} {w : World} {g n cap : Nat} {xs : List Int} (h : OwnI B w (.slice (some ⟨g, 0, none⟩) n cap) xs) {i : Nat} {x : Int} (hi : xs[i]? = some x) : B ≤ g ∧ g < w.heap.size ∧ w.cell? ⟨g, i, none⟩ = some (.int .i64 x) ∧ w.frozen? ⟨g, i, none⟩ = false := by
  obtain ⟨hB, hg, hz, hc⟩ := Own.slot h lenInt hi
  exact ⟨hB, hg, by simpa [fInt] using hc 0 (.int .i64 x), hz _⟩
/-! bools -/
def fBool (x : Bool) : List Value := [.bool x]
theorem elemBool : ElemT Tryz.prog 23 4 (.bool false) 1 1 := ⟨Tryz.underlying23, info_parts (by kernel_rfl), rfl, by decide⟩
theorem lenBool : LenK 1 fBool := fun _ => rfl
theorem oneBool : ∀ y : Bool, ∀ u ∈ fBool y, u.oneCell' = true := fun y u hu => by simp [fBool] at hu; subst hu; rfl
abbrev OwnB (B : Nat) (w : World) (v : Value) (xs : List Bool) : Prop := Own 4 1 fBool B w v xs
abbrev BoolsAt (w : World) (v : Value) (xs : List Bool) : Prop := SlAt 1 fBool w v xs
theorem zeroBool : fBool false = (Value.bool false).cells.toList := rfl
theorem BoolsAt.open {w : World} {v : Value} {xs : List Bool} (h : BoolsAt w v xs) : ∃ ao cap, v = .slice ao xs.length cap ∧ xs.length ≤ cap ∧ cap ≤ maxLen ∧
    ∀ i x, xs[i]? = some x → ∃ g o, ao = some ⟨g, o, none⟩ ∧ g < w.heap.size ∧ w.cell? ⟨g, o + i, none⟩ = some (.bool x) := SlAt.open1 h fun _ => rfl
theorem OwnB.slotB {B : Nat} {w : World} {g n cap : Nat} {xs : List Bool} (h : OwnB B w (.slice (some ⟨g, 0, none⟩) n cap) xs) {i : Nat} {x : Bool} (hi : xs[i]? = some x) : B ≤ g ∧ g < w.heap.size ∧ w.cell? ⟨g, i, none⟩ = some (.bool x) ∧ w.frozen? ⟨g, i, none⟩ = false := by
  obtain ⟨hB, hg, hz, hc⟩ := Own.slot h lenBool hi
  exact ⟨hB, hg, by simpa [fBool] using hc 0 (.bool x), hz _⟩
theorem elemRow : ElemT Tryz.prog 22 31 (.slice none 0 0) 1 24 := ⟨Tryz.underlying22, info_parts (by kernel_rfl), rfl, by decide⟩
abbrev OwnR (B : Nat) (w : World) (c : Value) (vs : List Value) (rows : List (List Int)) : Prop := OwnRows 31 3 fInt B w c vs rows
/-! entries -/
structure Ent where
  m : Int
  f : Int
deriving DecidableEq, Inhabited
def Ent.val (x : Ent) : Value := .agg #[.int .i64 x.m, .int .i64 x.f]
def fEnt (x : Ent) : List Value := [.int .i64 x.m, .int .i64 x.f]
theorem elemEnt : ElemT Tryz.prog 40 122 (.agg #[.int .i64 0, .int .i64 0]) 2 16 := ⟨Tryz.underlying40, info_parts (by kernel_rfl), rfl, by decide⟩
theorem lenEnt : LenK 2 fEnt := fun _ => rfl
theorem oneEnt : ∀ y : Ent, ∀ u ∈ fEnt y, u.oneCell' = true := fun y u hu => by simp [fEnt] at hu; rcases hu with rfl | rfl <;> rfl
abbrev OwnEnt (B : Nat) (w : World) (v : Value) (xs : List Ent) : Prop := Own 122 2 fEnt B w v xs
theorem zeroEnt : fEnt ⟨0, 0⟩ = (Value.agg #[.int .i64 0, .int .i64 0]).cells.toList := by first | rfl | kernel_rfl | simp [fEnt, Value.cells]
abbrev EntAt (w : World) (v : Value) (xs : List Ent) : Prop := SlAt 2 fEnt w v xs
theorem EntAt.open {w : World} {v : Value} {xs : List Ent} (h : EntAt w v xs) : ∃ ao cap, v = .slice ao xs.length cap ∧ xs.length ≤ cap ∧ cap ≤ maxLen ∧
    ∀ i x, xs[i]? = some x → ∃ g o, ao = some ⟨g, o, none⟩ ∧ g < w.heap.size ∧ w.cell? ⟨g, o + i * 2, none⟩ = some (.int .i64 x.m) ∧ w.cell? ⟨g, o + i * 2 + 1, none⟩ = some (.int .i64 x.f) := SlAt.open2 h fun _ => rfl
theorem OwnEnt.slot {B : Nat} {w : World} {g n cap : Nat} {xs : List Ent} (h : OwnEnt B w (.slice (some ⟨g, 0, none⟩) n cap) xs) {i : Nat} {x : Ent} (hi : xs[i]? = some x) : B ≤ g ∧ g < w.heap.size ∧ w.cell? ⟨g, i * 2, none⟩ = some (.int .i64 x.m) ∧ w.frozen? ⟨g, i * 2, none⟩ = false ∧ w.cell? ⟨g, i * 2 + 1, none⟩ = some (.int .i64 x.f) ∧ w.frozen? ⟨g, i * 2 + 1, none⟩ = false := by
  obtain ⟨hB, hg, hz, hc⟩ := Own.slot h lenEnt hi
  exact ⟨hB, hg, by simpa [fEnt] using hc 0 (.int .i64 x.m), hz _, by simpa [fEnt] using hc 1 (.int .i64 x.f), hz _⟩
def mkEnt (k : Int) : Ent := ⟨k, k + 1⟩

/-- frames -/
structure Frm where
  cells : List (List Int)
  used : List Bool
deriving Inhabited
structure Mac where
  f : Frm
  ents : List Ent
deriving Inhabited
structure Ker where
  m : Mac
  calls : Int
  refuse : List Int
deriving Inhabited
/-- the slices of one -/
structure FV where
  c : Value
  u : Value
  vs : List Value
structure MV where
  f : FV
  e : Value
structure KV where
  m : MV
  r : Value
def FV.val (x : FV) : Value := .agg #[x.c, x.u]
def MV.val (x : MV) : Value := .agg #[x.f.c, x.f.u, x.e]
def KV.val (x : KV) (calls : Int) : Value := .agg #[x.m.f.c, x.m.f.u, x.m.e, .int .i64 calls, x.r]
def FV.all (x : FV) : List Value := [x.u] ++ (x.c :: x.vs)
def MV.all (x : MV) : List Value := [x.e] ++ x.f.all
def KV.all (x : KV) : List Value := [x.r] ++ x.m.all
structure FAt (w : World) (x : FV) (F : Frm) : Prop where
  rows : RowsAt fInt w x.c x.vs F.cells
  used : BoolsAt w x.u F.used
structure MAt (w : World) (x : MV) (M : Mac) : Prop where
  f : FAt w x.f M.f
  ents : EntAt w x.e M.ents
structure KAt (w : World) (x : KV) (K : Ker) : Prop where
  m : MAt w x.m K.m
  ref : IntsAt w x.r K.refuse
structure FOwn (B : Nat) (w : World) (x : FV) (F : Frm) : Prop where
  rows : OwnR B w x.c x.vs F.cells
  used : OwnB B w x.u F.used
  nd : (blocks x.all).Nodup
structure MOwn (B : Nat) (w : World) (x : MV) (M : Mac) : Prop where
  f : FOwn B w x.f M.f
  ents : OwnEnt B w x.e M.ents
  nd : (blocks x.all).Nodup
structure KOwn (B : Nat) (w : World) (x : KV) (K : Ker) : Prop where
  m : MOwn B w x.m K.m
  ref : OwnI B w x.r K.refuse
  nd : (blocks x.all).Nodup
section
variable {w w' : World} {B B' : Nat} {S : List Nat}
theorem FAt.below {x : FV} {F : Frm} (h : FAt w x F) (hb : Below w.heap.size w w') : FAt w' x F := ⟨h.rows.below hb, h.used.below hb⟩
theorem MAt.below {x : MV} {M : Mac} (h : MAt w x M) (hb : Below w.heap.size w w') : MAt w' x M := ⟨h.f.below hb, h.ents.below hb⟩
theorem KAt.below {x : KV} {K : Ker} (h : KAt w x K) (hb : Below w.heap.size w w') : KAt w' x K := ⟨h.m.below hb, h.ref.below hb⟩
theorem FOwn.at {x : FV} {F : Frm} (h : FOwn B w x F) : FAt w x F := ⟨h.rows.at lenInt, h.used.at lenBool⟩
theorem MOwn.at {x : MV} {M : Mac} (h : MOwn B w x M) : MAt w x M := ⟨h.f.at, h.ents.at lenEnt⟩
theorem KOwn.at {x : KV} {K : Ker} (h : KOwn B w x K) : KAt w x K := ⟨h.m.at, h.ref.at lenInt⟩
theorem Own.lts {α : Type} {E k : Nat} {f : α → List Value} {v : Value} {xs : List α} (h : Own E k f B w v xs) : ∀ g ∈ blocks [v], B ≤ g ∧ g < w.heap.size := by
  intro g hg
  obtain ⟨u, hu, hb⟩ := mem_blocks.1 hg
  simp at hu; subst hu
  exact h.lt g hb
theorem lts_append {l m : List Value} {p : Nat → Prop} (hl : ∀ g ∈ blocks l, p g) (hm : ∀ g ∈ blocks m, p g) : ∀ g ∈ blocks (l ++ m), p g := by
  intro g hg
  rw [blocks_append, List.mem_append] at hg
  exact hg.elim (hl g) (hm g)
theorem FOwn.lts {x : FV} {F : Frm} (h : FOwn B w x F) : ∀ g ∈ blocks x.all, B ≤ g ∧ g < w.heap.size := lts_append (Own.lts h.used) h.rows.lt
theorem MOwn.lts {x : MV} {M : Mac} (h : MOwn B w x M) : ∀ g ∈ blocks x.all, B ≤ g ∧ g < w.heap.size := lts_append (Own.lts h.ents) h.f.lts
theorem KOwn.lts {x : KV} {K : Ker} (h : KOwn B w x K) : ∀ g ∈ blocks x.all, B ≤ g ∧ g < w.heap.size := lts_append (Own.lts h.ref) h.m.lts
theorem sub_left (l m : List Value) : ∀ g ∈ blocks l, g ∈ blocks (l ++ m) := fun g hg => by rw [blocks_append]; exact List.mem_append_left _ hg
theorem sub_right (l m : List Value) : ∀ g ∈ blocks m, g ∈ blocks (l ++ m) := fun g hg => by rw [blocks_append]; exact List.mem_append_right _ hg
theorem mem_one {v : Value} {g : Nat} (h : v.ownBlock = some g) : g ∈ blocks [v] := mem_blocks.2 ⟨v, by simp, h⟩
theorem FOwn.touch {x : FV} {F : Frm} (h : FOwn B w x F) (ht : Touch S w w') (hne : ∀ g ∈ blocks x.all, g ∉ S) : FOwn B w' x F :=
  ⟨h.rows.touch ht fun g hg => hne g (sub_right _ _ g hg), h.used.touch ht fun g hg => hne g (sub_left _ _ g (mem_one hg)), h.nd⟩
theorem MOwn.touch {x : MV} {M : Mac} (h : MOwn B w x M) (ht : Touch S w w') (hne : ∀ g ∈ blocks x.all, g ∉ S) : MOwn B w' x M :=
  ⟨h.f.touch ht fun g hg => hne g (sub_right _ _ g hg), h.ents.touch ht fun g hg => hne g (sub_left _ _ g (mem_one hg)), h.nd⟩
theorem KOwn.touch {x : KV} {K : Ker} (h : KOwn B w x K) (ht : Touch S w w') (hne : ∀ g ∈ blocks x.all, g ∉ S) : KOwn B w' x K :=
  ⟨h.m.touch ht fun g hg => hne g (sub_right _ _ g hg), h.ref.touch ht fun g hg => hne g (sub_left _ _ g (mem_one hg)), h.nd⟩
theorem FOwn.below {x : FV} {F : Frm} (h : FOwn B w x F) (hb : Below w.heap.size w w') : FOwn B w' x F := h.touch (touch_of_below hb []) (by simp)
theorem MOwn.below {x : MV} {M : Mac} (h : MOwn B w x M) (hb : Below w.heap.size w w') : MOwn B w' x M := h.touch (touch_of_below hb []) (by simp)
theorem KOwn.below {x : KV} {K : Ker} (h : KOwn B w x K) (hb : Below w.heap.size w w') : KOwn B w' x K := h.touch (touch_of_below hb []) (by simp)
theorem FOwn.offb {x : FV} {F : Frm} (h : FOwn B w x F) {b o : Nat} (hb : b < B) (u : Value) : FOwn B (w.setCell ⟨b, o, none⟩ u) x F :=
  h.touch (S := [b]) (grown_touch (r := some b) (grown_setCell (grown_refl w _) o u) (by simp)) fun g hg hm => by have := (h.lts g hg).1; simp at hm; omega
theorem MOwn.offb {x : MV} {M : Mac} (h : MOwn B w x M) {b o : Nat} (hb : b < B) (u : Value) : MOwn B (w.setCell ⟨b, o, none⟩ u) x M :=
  h.touch (S := [b]) (grown_touch (r := some b) (grown_setCell (grown_refl w _) o u) (by simp)) fun g hg hm => by have := (h.lts g hg).1; simp at hm; omega
theorem KOwn.offb {x : KV} {K : Ker} (h : KOwn B w x K) {b o : Nat} (hb : b < B) (u : Value) : KOwn B (w.setCell ⟨b, o, none⟩ u) x K :=
  h.touch (S := [b]) (grown_touch (r := some b) (grown_setCell (grown_refl w _) o u) (by simp)) fun g hg hm => by have := (h.lts g hg).1; simp at hm; omega
theorem FOwn.mono {x : FV} {F : Frm} (h : FOwn B w x F) (hB : B' ≤ B) : FOwn B' w x F := ⟨h.rows.mono hB, Own.mono h.used hB, h.nd⟩
theorem MOwn.mono {x : MV} {M : Mac} (h : MOwn B w x M) (hB : B' ≤ B) : MOwn B' w x M := ⟨h.f.mono hB, Own.mono h.ents hB, h.nd⟩
theorem KOwn.mono {x : KV} {K : Ker} (h : KOwn B w x K) (hB : B' ≤ B) : KOwn B' w x K := ⟨h.m.mono hB, Own.mono h.ref hB, h.nd⟩
theorem FOwn.shapes {x : FV} {F : Frm} (h : FOwn B w x F) : ∃ co cc uo uc vs, x = ⟨.slice co (List.length vs) cc, .slice uo F.used.length uc, vs⟩ := by
  obtain ⟨c, u, vs⟩ := x
  obtain ⟨co, cc, h1, _⟩ := Own.shape h.rows.out
  obtain ⟨uo, uc, h2, _⟩ := Own.shape h.used
  dsimp only at h1 h2
  subst h1 h2
  exact ⟨co, cc, uo, uc, vs, rfl⟩
theorem MOwn.shapes {x : MV} {M : Mac} (h : MOwn B w x M) : ∃ co cc uo uc vs eo ec, x = ⟨⟨.slice co (List.length vs) cc, .slice uo M.f.used.length uc, vs⟩, .slice eo M.ents.length ec⟩ := by
  obtain ⟨f, e⟩ := x
  obtain ⟨co, cc, uo, uc, vs, rfl⟩ := h.f.shapes
  obtain ⟨eo, ec, h1, _⟩ := Own.shape h.ents
  dsimp only at h1
  subst h1
  exact ⟨co, cc, uo, uc, vs, eo, ec, rfl⟩
theorem KOwn.shapes {x : KV} {K : Ker} (h : KOwn B w x K) : ∃ co cc uo uc vs eo ec ro rc, x = ⟨⟨⟨.slice co (List.length vs) cc, .slice uo K.m.f.used.length uc, vs⟩, .slice eo K.m.ents.length ec⟩, .slice ro K.refuse.length rc⟩ := by
  obtain ⟨m, r⟩ := x
  obtain ⟨co, cc, uo, uc, vs, eo, ec, rfl⟩ := h.m.shapes
  obtain ⟨ro, rc, h1, _⟩ := Own.shape h.ref
  dsimp only at h1
  subst h1
  exact ⟨co, cc, uo, uc, vs, eo, ec, ro, rc, rfl⟩
end
end Go.Proofs.YtmblkllijjlkoaaGreat
