/-
  Texts put together: KDef, Fam, RowLib.
-/
import Derived.Test.YtkkebpcclklmcaaGB3
import Derived.Test.YtkkebpcclklmcaaGB4
/-
  Kernels as plain data, how they lie, and what it means that a call owns one.
-/
set_option linter.unusedVariables false
set_option linter.unusedSimpArgs false
namespace Go.Proofs.Ytkkebpcclklmcaa
open Go.RowKit
theorem IntsAt.open {w : World} {v : Value} {xs : List Int} (h : SlAt 1 fInt w v xs) : ∃ ao cap, v = .slice ao xs.length cap ∧ xs.length ≤ cap ∧ cap ≤ maxLen ∧
    ∀ i x, xs[i]? = some x → ∃ g o, ao = some ⟨g, o, none⟩ ∧ g < w.heap.size ∧ w.cell? ⟨g, o + i, none⟩ = some (.int .i64 x) := SlAt.open1 h fun _ => rfl
abbrev IntsAt (w : World) (v : Value) (xs : List Int) : Prop := SlAt 1 fInt w v xs
theorem OwnI.slotI {B : Nat} {w : World} {g n cap : Nat} {xs : List Int} (h : OwnI B w (.slice (some ⟨g, 0, none⟩) n cap) xs) {i : Nat} {x : Int} (hi : xs[i]? = some x) : B ≤ g ∧ g < w.heap.size ∧ w.cell? ⟨g, i, none⟩ = some (.int .i64 x) ∧ w.frozen? ⟨g, i, none⟩ = false := by
  obtain ⟨hB, hg, hz, hc⟩ := Own.slot h lenInt hi
  exact ⟨hB, hg, by simpa [fInt] using hc 0 (.int .i64 x), hz _⟩
/-! bools -/
def fBool (x : Bool) : List Value := [.bool x]
theorem elemBool : ElemT Try.prog 25 4 (.bool false) 1 1 := ⟨Try.underlying25, info_parts (by kernel_rfl), rfl, by decide⟩
theorem lenBool : LenK 1 fBool := fun _ => rfl
theorem oneBool : ∀ y : Bool, ∀ u ∈ fBool y, u.oneCell' = true := fun y u hu => by simp [fBool] at hu; subst hu; rfl
abbrev OwnB (B : Nat) (w : World) (v : Value) (xs : List Bool) : Prop := Own 4 1 fBool B w v xs
abbrev BoolsAt (w : World) (v : Value) (xs : List Bool) : Prop := SlAt 1 fBool w v xs
theorem zeroBool : fBool false = (Value.bool false).cells.toList := rfl
theorem BoolsAt.open {w : World} {v : Value} {xs : List Bool} (h : BoolsAt w v xs) : ∃ ao cap, v = .slice ao xs.length cap ∧ xs.length ≤ cap ∧ cap ≤ maxLen ∧
    ∀ i x, xs[i]? = some x → ∃ g o, ao = some ⟨g, o, none⟩ ∧ g < w.heap.size ∧ w.cell? ⟨g, o + i, none⟩ = some (.bool x) := SlAt.open1 h fun _ => rfl
theorem OwnB.slotB {B : Nat} {w : World} {g n cap : Nat} {xs : List Bool} (h : OwnB B w (.slice (some ⟨g, 0, none⟩) n cap) xs) {i : Nat} {x : Bool} (hi : xs[i]? = some x) : B ≤ g ∧ g < w.heap.size ∧ w.cell? ⟨g, i, none⟩ = some (.bool x) ∧ w.frozen? ⟨g, i, none⟩ = false := by
  obtain ⟨hB, hg, hz, hc⟩ := Own.slot h lenBool hi
  exact ⟨hB, hg, by simpa [fBool] using hc 0 (.bool x), hz _⟩
theorem elemRow : ElemT Try.prog 24 33 (.slice none 0 0) 1 24 := ⟨Try.underlying24, info_parts (by kernel_rfl), rfl, by decide⟩
abbrev OwnR (B : Nat) (w : World) (c : Value) (vs : List Value) (rows : List (List Int)) : Prop := OwnRows 33 3 fInt B w c vs rows
/-! entries -/
structure Ent where
  m : Int
  f : Int
deriving DecidableEq, Inhabited
def Ent.val (x : Ent) : Value := .agg #[.int .i64 x.m, .int .i64 x.f]
def fEnt (x : Ent) : List Value := [.int .i64 x.m, .int .i64 x.f]
theorem elemEnt : ElemT Try.prog 28 52 (.agg #[.int .i64 0, .int .i64 0]) 2 16 := ⟨Try.underlying28, info_parts (by kernel_rfl), rfl, by decide⟩
theorem lenEnt : LenK 2 fEnt := fun _ => rfl
theorem oneEnt : ∀ y : Ent, ∀ u ∈ fEnt y, u.oneCell' = true := fun y u hu => by simp [fEnt] at hu; rcases hu with rfl | rfl <;> rfl
abbrev OwnEnt (B : Nat) (w : World) (v : Value) (xs : List Ent) : Prop := Own 52 2 fEnt B w v xs
theorem zeroEnt : fEnt ⟨0, 0⟩ = (Value.agg #[.int .i64 0, .int .i64 0]).cells.toList := by first | rfl | kernel_rfl | simp [fEnt, Value.cells]
abbrev EntAt (w : World) (v : Value) (xs : List Ent) : Prop := SlAt 2 fEnt w v xs
theorem EntAt.open {w : World} {v : Value} {xs : List Ent} (h : EntAt w v xs) : ∃ ao cap, v = .slice ao xs.length cap ∧ xs.length ≤ cap ∧ cap ≤ maxLen ∧
    ∀ i x, xs[i]? = some x → ∃ g o, ao = some ⟨g, o, none⟩ ∧ g < w.heap.size ∧ w.cell? ⟨g, o + i * 2, none⟩ = some (.int .i64 x.m) ∧ w.cell? ⟨g, o + i * 2 + 1, none⟩ = some (.int .i64 x.f) := SlAt.open2 h fun _ => rfl
theorem OwnEnt.slot {B : Nat} {w : World} {g n cap : Nat} {xs : List Ent} (h : OwnEnt B w (.slice (some ⟨g, 0, none⟩) n cap) xs) {i : Nat} {x : Ent} (hi : xs[i]? = some x) : B ≤ g ∧ g < w.heap.size ∧ w.cell? ⟨g, i * 2, none⟩ = some (.int .i64 x.m) ∧ w.frozen? ⟨g, i * 2, none⟩ = false ∧ w.cell? ⟨g, i * 2 + 1, none⟩ = some (.int .i64 x.f) ∧ w.frozen? ⟨g, i * 2 + 1, none⟩ = false := by
  obtain ⟨hB, hg, hz, hc⟩ := Own.slot h lenEnt hi
  exact ⟨hB, hg, by simpa [fEnt] using hc 0 (.int .i64 x.m), hz _, by simpa [fEnt] using hc 1 (.int .i64 x.f), hz _⟩
def mkEnt (k : Int) : Ent := ⟨k, k + 1⟩

/-- frames -/
structure Frm where
  cells : List (List Int)
  used : List Bool
deriving Inhabited
structure Mac where
  f : Frm
  ents : List Ent
deriving Inhabited
structure Ker where
  m : Mac
  calls : Int
  refuse : List Int
deriving Inhabited
/-- the slices of one -/
structure FV where
  c : Value
  u : Value
  vs : List Value
structure MV where
  f : FV
  e : Value
structure KV where
  m : MV
  r : Value
def FV.val (x : FV) : Value := .agg #[x.c, x.u]
def MV.val (x : MV) : Value := .agg #[x.f.c, x.f.u, x.e]
def KV.val (x : KV) (calls : Int) : Value := .agg #[x.m.f.c, x.m.f.u, x.m.e, .int .i64 calls, x.r]
def FV.all (x : FV) : List Value := [x.u] ++ (x.c :: x.vs)
def MV.all (x : MV) : List Value := [x.e] ++ x.f.all
def KV.all (x : KV) : List Value := [x.r] ++ x.m.all
structure FAt (w : World) (x : FV) (F : Frm) : Prop where
  rows : RowsAt fInt w x.c x.vs F.cells
  used : BoolsAt w x.u F.used
structure MAt (w : World) (x : MV) (M : Mac) : Prop where
  f : FAt w x.f M.f
  ents : EntAt w x.e M.ents
structure KAt (w : World) (x : KV) (K : Ker) : Prop where
  m : MAt w x.m K.m
  ref : IntsAt w x.r K.refuse
structure FOwn (B : Nat) (w : World) (x : FV) (F : Frm) : Prop where
  rows : OwnR B w x.c x.vs F.cells
  used : OwnB B w x.u F.used
  nd : (blocks x.all).Nodup
structure MOwn (B : Nat) (w : World) (x : MV) (M : Mac) : Prop where
  f : FOwn B w x.f M.f
  ents : OwnEnt B w x.e M.ents
  nd : (blocks x.all).Nodup
structure KOwn (B : Nat) (w : World) (x : KV) (K : Ker) : Prop where
  m : MOwn B w x.m K.m
  ref : OwnI B w x.r K.refuse
  nd : (blocks x.all).Nodup
section
variable {w w' : World} {B B' : Nat} {S : List Nat}
theorem FAt.below {x : FV} {F : Frm} (h : FAt w x F) (hb : Below w.heap.size w w') : FAt w' x F := ⟨h.rows.below hb, h.used.below hb⟩
theorem MAt.below {x : MV} {M : Mac} (h : MAt w x M) (hb : Below w.heap.size w w') : MAt w' x M := ⟨h.f.below hb, h.ents.below hb⟩
theorem KAt.below {x : KV} {K : Ker} (h : KAt w x K) (hb : Below w.heap.size w w') : KAt w' x K := ⟨h.m.below hb, h.ref.below hb⟩
theorem FOwn.at {x : FV} {F : Frm} (h : FOwn B w x F) : FAt w x F := ⟨h.rows.at lenInt, h.used.at lenBool⟩
theorem MOwn.at {x : MV} {M : Mac} (h : MOwn B w x M) : MAt w x M := ⟨h.f.at, h.ents.at lenEnt⟩
theorem KOwn.at {x : KV} {K : Ker} (h : KOwn B w x K) : KAt w x K := ⟨h.m.at, h.ref.at lenInt⟩
theorem Own.lts {α : Type} {E k : Nat} {f : α → List Value} {v : Value} {xs : List α} (h : Own E k f B w v xs) : ∀ g ∈ blocks [v], B ≤ g ∧ g < w.heap.size := by
  intro g hg
  obtain ⟨u, hu, hb⟩ := mem_blocks.1 hg
  simp at hu; subst hu
  exact h.lt g hb
theorem lts_append {l m : List Value} {p : Nat → Prop} (hl : ∀ g ∈ blocks l, p g) (hm : ∀ g ∈ blocks m, p g) : ∀ g ∈ blocks (l ++ m), p g := by
  intro g hg
  rw [blocks_append, List.mem_append] at hg
  exact hg.elim (hl g) (hm g)
theorem FOwn.lts {x : FV} {F : Frm} (h : FOwn B w x F) : ∀ g ∈ blocks x.all, B ≤ g ∧ g < w.heap.size := lts_append (Own.lts h.used) h.rows.lt
theorem MOwn.lts {x : MV} {M : Mac} (h : MOwn B w x M) : ∀ g ∈ blocks x.all, B ≤ g ∧ g < w.heap.size := lts_append (Own.lts h.ents) h.f.lts
theorem KOwn.lts {x : KV} {K : Ker} (h : KOwn B w x K) : ∀ g ∈ blocks x.all, B ≤ g ∧ g < w.heap.size := lts_append (Own.lts h.ref) h.m.lts
theorem sub_left (l m : List Value) : ∀ g ∈ blocks l, g ∈ blocks (l ++ m) := fun g hg => by rw [blocks_append]; exact List.mem_append_left _ hg
theorem sub_right (l m : List Value) : ∀ g ∈ blocks m, g ∈ blocks (l ++ m) := fun g hg => by rw [blocks_append]; exact List.mem_append_right _ hg
theorem mem_one {v : Value} {g : Nat} (h : v.ownBlock = some g) : g ∈ blocks [v] := mem_blocks.2 ⟨v, by simp, h⟩
theorem FOwn.touch {x : FV} {F : Frm} (h : FOwn B w x F) (ht : Touch S w w') (hne : ∀ g ∈ blocks x.all, g ∉ S) : FOwn B w' x F :=
  ⟨h.rows.touch ht fun g hg => hne g (sub_right _ _ g hg), h.used.touch ht fun g hg => hne g (sub_left _ _ g (mem_one hg)), h.nd⟩
theorem MOwn.touch {x : MV} {M : Mac} (h : MOwn B w x M) (ht : Touch S w w') (hne : ∀ g ∈ blocks x.all, g ∉ S) : MOwn B w' x M :=
  ⟨h.f.touch ht fun g hg => hne g (sub_right _ _ g hg), h.ents.touch ht fun g hg => hne g (sub_left _ _ g (mem_one hg)), h.nd⟩
theorem KOwn.touch {x : KV} {K : Ker} (h : KOwn B w x K) (ht : Touch S w w') (hne : ∀ g ∈ blocks x.all, g ∉ S) : KOwn B w' x K :=
  ⟨h.m.touch ht fun g hg => hne g (sub_right _ _ g hg), h.ref.touch ht fun g hg => hne g (sub_left _ _ g (mem_one hg)), h.nd⟩
theorem FOwn.below {x : FV} {F : Frm} (h : FOwn B w x F) (hb : Below w.heap.size w w') : FOwn B w' x F := h.touch (touch_of_below hb []) (by simp)
theorem MOwn.below {x : MV} {M : Mac} (h : MOwn B w x M) (hb : Below w.heap.size w w') : MOwn B w' x M := h.touch (touch_of_below hb []) (by simp)
theorem KOwn.below {x : KV} {K : Ker} (h : KOwn B w x K) (hb : Below w.heap.size w w') : KOwn B w' x K := h.touch (touch_of_below hb []) (by simp)
theorem FOwn.offb {x : FV} {F : Frm} (h : FOwn B w x F) {b o : Nat} (hb : b < B) (u : Value) : FOwn B (w.setCell ⟨b, o, none⟩ u) x F :=
  h.touch (S := [b]) (grown_touch (r := some b) (grown_setCell (grown_refl w _) o u) (by simp)) fun g hg hm => by have := (h.lts g hg).1; simp at hm; omega
theorem MOwn.offb {x : MV} {M : Mac} (h : MOwn B w x M) {b o : Nat} (hb : b < B) (u : Value) : MOwn B (w.setCell ⟨b, o, none⟩ u) x M :=
  h.touch (S := [b]) (grown_touch (r := some b) (grown_setCell (grown_refl w _) o u) (by simp)) fun g hg hm => by have := (h.lts g hg).1; simp at hm; omega
theorem KOwn.offb {x : KV} {K : Ker} (h : KOwn B w x K) {b o : Nat} (hb : b < B) (u : Value) : KOwn B (w.setCell ⟨b, o, none⟩ u) x K :=
  h.touch (S := [b]) (grown_touch (r := some b) (grown_setCell (grown_refl w _) o u) (by simp)) fun g hg hm => by have := (h.lts g hg).1; simp at hm; omega
theorem FOwn.mono {x : FV} {F : Frm} (h : FOwn B w x F) (hB : B' ≤ B) : FOwn B' w x F := ⟨h.rows.mono hB, Own.mono h.used hB, h.nd⟩
theorem MOwn.mono {x : MV} {M : Mac} (h : MOwn B w x M) (hB : B' ≤ B) : MOwn B' w x M := ⟨h.f.mono hB, Own.mono h.ents hB, h.nd⟩
theorem KOwn.mono {x : KV} {K : Ker} (h : KOwn B w x K) (hB : B' ≤ B) : KOwn B' w x K := ⟨h.m.mono hB, Own.mono h.ref hB, h.nd⟩
theorem FOwn.shapes {x : FV} {F : Frm} (h : FOwn B w x F) : ∃ co cc uo uc vs, x = ⟨.slice co (List.length vs) cc, .slice uo F.used.length uc, vs⟩ := by
  obtain ⟨c, u, vs⟩ := x
  obtain ⟨co, cc, h1, _⟩ := Own.shape h.rows.out
  obtain ⟨uo, uc, h2, _⟩ := Own.shape h.used
  dsimp only at h1 h2
  subst h1 h2
  exact ⟨co, cc, uo, uc, vs, rfl⟩
theorem MOwn.shapes {x : MV} {M : Mac} (h : MOwn B w x M) : ∃ co cc uo uc vs eo ec, x = ⟨⟨.slice co (List.length vs) cc, .slice uo M.f.used.length uc, vs⟩, .slice eo M.ents.length ec⟩ := by
  obtain ⟨f, e⟩ := x
  obtain ⟨co, cc, uo, uc, vs, rfl⟩ := h.f.shapes
  obtain ⟨eo, ec, h1, _⟩ := Own.shape h.ents
  dsimp only at h1
  subst h1
  exact ⟨co, cc, uo, uc, vs, eo, ec, rfl⟩
theorem KOwn.shapes {x : KV} {K : Ker} (h : KOwn B w x K) : ∃ co cc uo uc vs eo ec ro rc, x = ⟨⟨⟨.slice co (List.length vs) cc, .slice uo K.m.f.used.length uc, vs⟩, .slice eo K.m.ents.length ec⟩, .slice ro K.refuse.length rc⟩ := by
  obtain ⟨m, r⟩ := x
  obtain ⟨co, cc, uo, uc, vs, eo, ec, rfl⟩ := h.m.shapes
  obtain ⟨ro, rc, h1, _⟩ := Own.shape h.ref
  dsimp only at h1
  subst h1
  exact ⟨co, cc, uo, uc, vs, eo, ec, ro, rc, rfl⟩
end
end Go.Proofs.Ytkkebpcclklmcaa
/-
  The laws' functions on slices of ints, bools, entries: their size, a copy of the call's own, equal, marked, held.
-/
set_option linter.unusedVariables false
set_option linter.unusedSimpArgs false
namespace Go.Proofs.Ytkkebpcclklmcaa
open Go.RowKit
theorem zeroInt : fInt 0 = (Value.int .i64 0).cells.toList := rfl



end Go.Proofs.Ytkkebpcclklmcaa
/-
  Slices of slices of the call's own: one of the slices is put in place of another, or appended. No Go text is named here.
-/
set_option linter.unusedVariables false
set_option linter.unusedSimpArgs false
namespace Go.Proofs.Ytkkebpcclklmcaa
open Go.RowKit
theorem blocks_set {l : List Value} {i : Nat} {v : Value} : ∀ g ∈ blocks (l.set i v), g ∈ blocks l ∨ v.ownBlock = some g := by
  intro g hg
  obtain ⟨u, hu, hb⟩ := mem_blocks.1 hg
  rcases List.mem_or_eq_of_mem_set hu with h | h
  · exact .inl (mem_blocks.2 ⟨u, h, hb⟩)
  · exact .inr (h ▸ hb)
theorem nodup_set {l : List Value} {i : Nat} {v : Value} (h : (blocks l).Nodup) (hv : ∀ g, v.ownBlock = some g → g ∉ blocks l) : (blocks (l.set i v)).Nodup := by
  induction l generalizing i with
  | nil => simpa using h
  | cons a l ih =>
    have h2 : (blocks ([a] ++ l)).Nodup := h
    have hsub : ∀ g, g ∈ blocks l → g ∈ blocks (a :: l) := fun g hg => blocks_sub (fun u hu => List.mem_cons_of_mem _ hu) g hg
    cases i with
    | zero =>
      rw [List.set_cons_zero]
      exact nodup_blocks (l := [v]) (nodup_one v) (nodup_right h2) fun g hg hm => by
        obtain ⟨u, hu, hb⟩ := mem_blocks.1 hg
        simp at hu; subst hu
        exact hv g hb (hsub g hm)
    | succ i =>
      rw [List.set_cons_succ]
      refine nodup_blocks (l := [a]) (nodup_one a) (ih (nodup_right h2) fun g hg hm => hv g hg (hsub g hm)) fun g hg hm => ?_
      rcases blocks_set g hm with h3 | h3
      · exact nodup_apart h2 g hg h3
      · exact hv g h3 (blocks_sub (l := [a]) (fun u hu => by simp at hu; subst hu; simp) g hg)
theorem nodup_snoc {l : List Value} {v : Value} (h : (blocks l).Nodup) (hv : ∀ g, v.ownBlock = some g → g ∉ blocks l) : (blocks (l ++ [v])).Nodup :=
  nodup_blocks h (nodup_one v) fun g hg hm => by
    obtain ⟨u, hu, hb⟩ := mem_blocks.1 hm
    simp at hu; subst hu
    exact hv g hb hg
theorem nodup_head {c c' : Value} {l : List Value} (h : (blocks (c :: l)).Nodup) (hc : ∀ g, c'.ownBlock = some g → g ∉ blocks l) : (blocks (c' :: l)).Nodup :=
  nodup_blocks (l := [c']) (nodup_one c') (nodup_right (l := [c]) h) fun g hg hm => by
    obtain ⟨u, hu, hb⟩ := mem_blocks.1 hg
    simp at hu; subst hu
    exact hc g hb hm
section
variable {α : Type} {ES E : Nat} {f : α → List Value} {B B' : Nat} {w w' : World} {c : Value} {vs : List Value} {rows : List (List α)}
theorem OwnRows.nilAll (n : Nat) (h : Own ES 1 fVal B w c (List.replicate n (.slice none 0 0))) : OwnRows ES E f B w c (List.replicate n (.slice none 0 0)) (List.replicate n ([] : List α)) :=
  ⟨h, by simp, fun i v r hv hr => by
    rw [List.getElem?_replicate] at hv hr
    split at hv
    · cases hv
      rename_i hi
      rw [if_pos hi] at hr
      cases hr
      exact Own.nil _ _ _ _ _
    · cases hv⟩
theorem blocks_nils (n : Nat) : blocks (List.replicate n (.slice none 0 0)) = [] := by
  induction n with
  | zero => rfl
  | succ n ih => rw [List.replicate_succ]; exact ih
/-- One of the slices is stored anew. -/
theorem OwnRows.setVal (h : OwnRows ES E f B w c vs rows) (hnd : (blocks (c :: vs)).Nodup) {g n cap i : Nat} (hc : c = .slice (some ⟨g, 0, none⟩) n cap) {v : Value} {r : List α} (hv : Own E 1 f B w v r) (hne : v.ownBlock ≠ some g) (hi : i < vs.length) :
    OwnRows ES E f B (w.setCell ⟨g, i, none⟩ v) c (vs.set i v) (rows.set i r) ∧ w.grownBy (w.setCell ⟨g, i, none⟩ v) c.ownBlock := by
  have S := Own.set1 lenVal h.out hc i v v rfl
  have hap := nodup_apart (l := [c]) hnd
  refine ⟨⟨S.1, by rw [List.length_set, List.length_set]; exact h.len, fun j u r' hu hr => ?_⟩, S.2⟩
  have hcg : c.ownBlock = some g := by rw [hc]; rfl
  rw [List.getElem?_set] at hu hr
  split at hu
  · rename_i e
    subst e
    try rw [if_pos hi] at hu
    cases hu
    rw [if_pos rfl] at hr
    try rw [if_pos (by rw [← h.len]; exact hi)] at hr
    cases hr
    exact hv.setCell _ _ hne
  · rename_i e
    rw [if_neg e] at hr
    refine (h.row j u r' hu hr).setCell _ _ fun e2 => ?_
    exact hap g (mem_blocks.2 ⟨c, by simp, hcg⟩) (mem_blocks.2 ⟨u, List.mem_of_getElem? hu, e2⟩)
/-- One more has been appended. -/
theorem OwnRows.snoc {c' v : Value} {r : List α} (h : OwnRows ES E f B w c vs rows) (hnd : (blocks (c :: vs)).Nodup) (ho : Own ES 1 fVal B w' c' (vs ++ [v])) (hgr : w.grownBy w' c.ownBlock) (hv : Own E 1 f B w' v r) : OwnRows ES E f B w' c' (vs ++ [v]) (rows ++ [r]) := by
  have hap := nodup_apart (l := [c]) hnd
  refine ⟨ho, by simp [h.len], fun j u r' hu hr => ?_⟩
  rcases Nat.lt_or_ge j vs.length with h1 | h1
  · rw [List.getElem?_append_left h1] at hu
    rw [List.getElem?_append_left (by rw [← h.len]; exact h1)] at hr
    exact (h.row j u r' hu hr).kept fun g hg => hgr.block g ((h.row j u r' hu hr).lt g hg).2 fun e => hap g (mem_blocks.2 ⟨c, by simp, e.symm⟩) (mem_blocks.2 ⟨u, List.mem_of_getElem? hu, hg⟩)
  · have hj : j = vs.length := by have := getx_lt hu; simp at this; omega
    subst hj
    rw [List.getElem?_append_right (Nat.le_refl _), Nat.sub_self] at hu
    rw [List.getElem?_append_right (by rw [h.len]; exact Nat.le_refl _), h.len, Nat.sub_self] at hr
    simp at hu hr
    subst hu hr
    exact hv
end
/-- A store into a block below what the call owns. -/
theorem Own.offb {α : Type} {E k B : Nat} {f : α → List Value} {w : World} {v : Value} {xs : List α} (h : Own E k f B w v xs) {b o : Nat} (hb : b < B) (u : Value) : Own E k f B (w.setCell ⟨b, o, none⟩ u) v xs :=
  h.setCell _ _ fun e => by have := (h.lt b e).1; omega
theorem OwnRows.offb {α : Type} {ES E B : Nat} {f : α → List Value} {w : World} {c : Value} {vs : List Value} {rows : List (List α)} (h : OwnRows ES E f B w c vs rows) {b o : Nat} (hb : b < B) (u : Value) : OwnRows ES E f B (w.setCell ⟨b, o, none⟩ u) c vs rows :=
  ⟨h.out.offb hb u, h.len, fun i v r hv hr => (h.row i v r hv hr).offb hb u⟩
theorem nodup_grow {c c' nv : Value} {us : List Value} {N : Nat} (h : (blocks (c :: us)).Nodup) (hn : ∀ g, nv.ownBlock = some g → g ∉ blocks (c :: us)) (hat : c'.ownBlock = c.ownBlock ∨ c'.ownBlock = some N) (hlt : ∀ g ∈ blocks (us ++ [nv]), g < N) : (blocks (c' :: (us ++ [nv]))).Nodup := by
  have h1 : (blocks (c :: (us ++ [nv]))).Nodup := nodup_snoc (l := c :: us) h hn
  refine nodup_head h1 fun g hg hm => ?_
  rcases hat with e | e
  · exact nodup_apart (l := [c]) h1 g (mem_blocks.2 ⟨c, by simp, e ▸ hg⟩) hm
  · have := hlt g hm
    rw [e] at hg
    cases hg
    omega
theorem Own.belowB {α : Type} {E k B B2 : Nat} {f : α → List Value} {w w' : World} {v : Value} {xs : List α} (h : Own E k f B w v xs) (hb : Below B2 w w') (hlt : ∀ g, v.ownBlock = some g → g < B2) : Own E k f B w' v xs :=
  h.kept fun g hg => hb.block g (hlt g hg)
theorem Own.grownNe {α : Type} {E k B : Nat} {f : α → List Value} {w w' : World} {v : Value} {xs : List α} {row : Option Nat} (h : Own E k f B w v xs) (hgr : w.grownBy w' row) (hne : ∀ g, v.ownBlock = some g → some g ≠ row) : Own E k f B w' v xs :=
  h.kept fun g hg => hgr.block g (h.lt g hg).2 (hne g hg)
/-! The numbers of cells, and the marks. -/
def lensTo (rows : List (List Int)) : Nat → Nat
  | 0 => 0
  | k + 1 => lensTo rows k + (rows.getD k []).length
def tot (rows : List (List Int)) : Nat := lensTo rows rows.length
theorem lensTo_mono (rows : List (List Int)) {j k : Nat} (h : j ≤ k) : lensTo rows j ≤ lensTo rows k := by
  induction k with
  | zero => obtain rfl : j = 0 := by omega
            exact Nat.le_refl _
  | succ k ih =>
    rcases Nat.lt_or_ge j (k + 1) with h1 | h1
    · have := ih (by omega); rw [lensTo]; omega
    · obtain rfl : j = k + 1 := by omega
      exact Nat.le_refl _
theorem lensTo_succ {rows : List (List Int)} {j : Nat} {r : List Int} (h : rows[j]? = some r) : lensTo rows (j + 1) = lensTo rows j + r.length := by rw [lensTo, getD_of h]
def markRows (k : Int) (rows : List (List Int)) : List (List Int) := (List.range rows.length).map fun i => marksI (k + lensTo rows i) (rows.getD i []).length
theorem markRows_len (k : Int) (rows : List (List Int)) : (markRows k rows).length = rows.length := by simp [markRows]
theorem markRows_get {k : Int} {rows : List (List Int)} {j : Nat} {r : List Int} (h : rows[j]? = some r) : (markRows k rows)[j]? = some (marksI (k + lensTo rows j) r.length) := by
  have hlt := getx_lt h
  rw [List.getElem?_eq_getElem (by rw [markRows_len]; exact hlt)]
  simp only [markRows, List.getElem_map, List.getElem_range, getD_of h]
def mixRows (k : Int) (rows : List (List Int)) (j : Nat) : List (List Int) := (markRows k rows).take j ++ rows.drop j
theorem mixRows_len {k : Int} {rows : List (List Int)} {j : Nat} (h : j ≤ rows.length) : (mixRows k rows j).length = rows.length := by simp [mixRows, markRows_len]; omega
theorem mixRows_get {k : Int} {rows : List (List Int)} {j : Nat} {r : List Int} (h : rows[j]? = some r) : (mixRows k rows j)[j]? = some r := by
  have hlt := getx_lt h
  unfold mixRows
  rw [List.getElem?_append_right (by rw [List.length_take]; exact Nat.min_le_left _ _), List.length_take, markRows_len, Nat.min_eq_left (by omega), Nat.sub_self, List.getElem?_drop, Nat.add_zero, h]
theorem mixRows_set {k : Int} {rows : List (List Int)} {j : Nat} {r : List Int} (h : rows[j]? = some r) : (mixRows k rows j).set j (marksI (k + lensTo rows j) r.length) = mixRows k rows (j + 1) := by
  have hlt := getx_lt h
  have hl : ((markRows k rows).take j).length = j := by rw [List.length_take, markRows_len]; omega
  unfold mixRows
  rw [List.set_append_right _ _ (by omega), hl, Nat.sub_self, List.drop_eq_getElem_cons hlt, List.set_cons_zero, List.take_add_one, markRows_get h]
  simp
theorem mixRows_full (k : Int) (rows : List (List Int)) : mixRows k rows rows.length = markRows k rows := by
  unfold mixRows; rw [List.drop_length, List.append_nil, List.take_of_length_le (by rw [markRows_len]; exact Nat.le_refl _)]
theorem mixRows_zero (k : Int) (rows : List (List Int)) : mixRows k rows 0 = rows := by simp [mixRows]
theorem setx {α : Type} {xs : List α} {j : Nat} {x : α} (z : α) (n : Nat) (hx : xs[j]? = some x) (hn : n = xs.length) : (xs.take j ++ List.replicate (n - j) z).set j x = xs.take (j + 1) ++ List.replicate (n - (j + 1)) z := by
  have hlt := getx_lt hx
  have e : xs[j] = x := by rw [List.getElem?_eq_getElem hlt] at hx; exact Option.some.inj hx
  rw [← e]; exact mix_set xs z hn hlt
end Go.Proofs.Ytkkebpcclklmcaa
