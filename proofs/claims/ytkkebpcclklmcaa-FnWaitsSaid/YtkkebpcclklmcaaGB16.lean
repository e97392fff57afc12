/-
  Texts put together: KCopyL, KBox, KBox2.
-/
import Derived.Test.YtkkebpcclklmcaaGB14
import Derived.Test.YtkkebpcclklmcaaGB15
/-
  Copies of kernels, by the reference.
-/
set_option linter.unusedVariables false
set_option linter.unusedSimpArgs false
namespace Go.Proofs.Ytkkebpcclklmcaa
open Go.RowKit
theorem MOwn.grownNe {B : Nat} {w w' : World} {x : MV} {M : Mac} {row : Option Nat} (h : MOwn B w x M) (hgr : w.grownBy w' row) (hne : ∀ g ∈ blocks x.all, some g ≠ row) : MOwn B w' x M :=
  h.touch (S := row.toList) (grown_touch hgr (by simp)) fun g hg hm => hne g hg (by simp at hm; exact hm.symm)

end Go.Proofs.Ytkkebpcclklmcaa
/-
  A kernel behind a pointer: what the reference's steps leave there.
-/
set_option linter.unusedVariables false
set_option linter.unusedSimpArgs false
namespace Go.Proofs.Ytkkebpcclklmcaa
open Go.RowKit
structure KBox (w : World) (g : Nat) (y : KV) (calls : Int) : Prop where
  lt : g < w.heap.size
  c0 : w.cell? ⟨g, 0, none⟩ = some y.m.f.c
  c1 : w.cell? ⟨g, 1, none⟩ = some y.m.f.u
  c2 : w.cell? ⟨g, 2, none⟩ = some y.m.e
  c3 : w.cell? ⟨g, 3, none⟩ = some (.int .i64 calls)
  c4 : w.cell? ⟨g, 4, none⟩ = some y.r
  f0 : w.frozen? ⟨g, 0, none⟩ = false
  f1 : w.frozen? ⟨g, 1, none⟩ = false
  f2 : w.frozen? ⟨g, 2, none⟩ = false
  f3 : w.frozen? ⟨g, 3, none⟩ = false
  f4 : w.frozen? ⟨g, 4, none⟩ = false
theorem KBox.below {w w' : World} {g : Nat} {y : KV} {calls : Int} (h : KBox w g y calls) (hb : Below w.heap.size w w') : KBox w' g y calls :=
  have hs := hb.size
  have hl := h.lt
  ⟨by omega, (hb.cell (p := ⟨g, 0, none⟩) hl).trans h.c0, (hb.cell (p := ⟨g, 1, none⟩) hl).trans h.c1, (hb.cell (p := ⟨g, 2, none⟩) hl).trans h.c2, (hb.cell (p := ⟨g, 3, none⟩) hl).trans h.c3, (hb.cell (p := ⟨g, 4, none⟩) hl).trans h.c4,
    (hb.frozen (p := ⟨g, 0, none⟩) hl).trans h.f0, (hb.frozen (p := ⟨g, 1, none⟩) hl).trans h.f1, (hb.frozen (p := ⟨g, 2, none⟩) hl).trans h.f2, (hb.frozen (p := ⟨g, 3, none⟩) hl).trans h.f3, (hb.frozen (p := ⟨g, 4, none⟩) hl).trans h.f4⟩
theorem KBox.touch {S : List Nat} {w w' : World} {g : Nat} {y : KV} {calls : Int} (h : KBox w g y calls) (ht : Touch S w w') (hg : g ∉ S) : KBox w' g y calls :=
  have hs := ht.size
  have hl := h.lt
  ⟨by omega, (ht.cell hl hg).trans h.c0, (ht.cell hl hg).trans h.c1, (ht.cell hl hg).trans h.c2, (ht.cell hl hg).trans h.c3, (ht.cell hl hg).trans h.c4,
    (ht.frozen hl hg).trans h.f0, (ht.frozen hl hg).trans h.f1, (ht.frozen hl hg).trans h.f2, (ht.frozen hl hg).trans h.f3, (ht.frozen hl hg).trans h.f4⟩
/-- A kernel that the call owns, in a box of its own. -/
structure KIn (B : Nat) (w : World) (g : Nat) (y : KV) (K : Ker) : Prop where
  box : KBox w g y K.calls
  own : KOwn B w y K
  hB : B ≤ g
  ne : g ∉ blocks y.all
theorem KIn.below {B : Nat} {w w' : World} {g : Nat} {y : KV} {K : Ker} (h : KIn B w g y K) (hb : Below w.heap.size w w') : KIn B w' g y K := ⟨h.box.below hb, h.own.below hb, h.hB, h.ne⟩
theorem KOwn.setNe {B : Nat} {w : World} {y : KV} {K : Ker} (h : KOwn B w y K) {g o : Nat} (hg : g ∉ blocks y.all) (u : Value) : KOwn B (w.setCell ⟨g, o, none⟩ u) y K :=
  h.touch (S := [g]) (grown_touch (r := some g) (grown_setCell (grown_refl w _) o u) (by simp)) fun g' hg' hm => by simp at hm; subst hm; exact hg hg'
/-- What a step behind the pointer leaves. -/
theorem touch_cellT {S : List Nat} {w w' : World} {g i : Nat} {v : Value} (h : Touch S w w') (hg : g ∈ S) : Touch S w (w'.setCell ⟨g, i, none⟩ v) :=
  h.trans (grown_touch (r := some g) (grown_setCell (grown_refl w' _) _ _) (fun _ e => by cases e; exact hg))
def KDone (B g : Nat) (w : World) (b : Bool) (K : Ker) (e : Ending) (w' : World) : Prop := ∃ y : KV, e = .returned (.bool b) ∧ KIn B w' g y K ∧ Below B w w'
/-- The same, and nothing but the kernel's own blocks and its box are written. -/
def KDoneT (B g : Nat) (y : KV) (w : World) (b : Bool) (K : Ker) (e : Ending) (w' : World) : Prop := ∃ y' : KV, e = .returned (.bool b) ∧ KIn B w' g y' K ∧ Below B w w' ∧ Touch (g :: blocks y.all) w w' ∧ ∀ b ∈ blocks y'.all, b ∈ blocks y.all ∨ w.heap.size ≤ b
def KLeftT (B g : Nat) (y : KV) (w : World) (K : Ker) (e : Ending) (w' : World) : Prop := ∃ y' : KV, e = .returned (.tuple #[]) ∧ KIn B w' g y' K ∧ Below B w w' ∧ Touch (g :: blocks y.all) w w' ∧ ∀ b ∈ blocks y'.all, b ∈ blocks y.all ∨ w.heap.size ≤ b
theorem blocks_setV {y : KV} {i n : Nat} {v : Value} (hv : ∀ b, v.ownBlock = some b → n ≤ b) : ∀ b ∈ blocks (KV.all ⟨⟨⟨y.m.f.c, y.m.f.u, y.m.f.vs.set i v⟩, y.m.e⟩, y.r⟩), b ∈ blocks y.all ∨ n ≤ b := by
  intro b hb
  obtain ⟨u, hu, ho⟩ := mem_blocks.1 hb
  simp only [KV.all, MV.all, FV.all, List.mem_append, List.mem_cons, List.not_mem_nil, or_false] at hu
  by_cases hm : u ∈ y.all
  · exact .inl (mem_blocks.2 ⟨u, hm, ho⟩)
  · right
    simp only [KV.all, MV.all, FV.all, List.mem_append, List.mem_cons, List.not_mem_nil, or_false, not_or] at hm
    rcases hu with h | h | h | h | h
    · exact absurd h hm.1
    · exact absurd h hm.2.1
    · exact absurd h hm.2.2.1
    · exact absurd h hm.2.2.2.1
    · rcases List.mem_or_eq_of_mem_set h with h | h
      · exact absurd h hm.2.2.2.2
      · subst h; exact hv b ho
theorem touch_drw {S : List Nat} {w w' : World} (h : Touch S w w') : Touch S w w'.drew := h.trans (touch_of_below (Below.drew (Below.refl _ _)) S)
theorem touch_alc {S : List Nat} {w w' : World} (o : Obj) (h : Touch S w w') : Touch S w (w'.alloc o) := h.trans (touch_of_below ((Below.refl _ _).alloc (Nat.le_refl _) o) S)
set_option maxRecDepth 20000 in
set_option maxHeartbeats 800000 in
theorem s_l08CallT (B g : Nat) (y : KV) (K : Ker) (hc : 0 ≤ K.calls ∧ K.calls ≤ 100000) (w : World) (h : KIn B w g y K) : Calls Try.prog 83 #[.pointer (some ⟨g, 0, none⟩)] w fun e w' => e = .returned (.bool (grantedB K)) ∧ KIn B w' g y (countedK K) ∧ Below B w w' ∧ Touch (g :: blocks y.all) w w' := by
  have HI := Lib.hid h
  obtain ⟨xg, c0, c1, c2, c3, c4, f0, f1, f2, f3, f4⟩ := h.box
  obtain ⟨b, hb⟩ : ∃ b, b = hasI K.refuse K.calls := ⟨_, rfl⟩
  have HG := Lib.hid hb.symm
  have HE : Hid (grantedB K = !b) := by unfold Hid grantedB; rw [hb]
  rw [HE.out]
  clear h hb
  have hBz : B ≤ w.heap.size := by have := HI.out.hB; omega
  have hBg := HI.out.hB
  (have hall := all_nil w; go_enter Try.func83, Try.ntmps83)
  go_wp2
  have D1 : IntKind.i64.wrap (K.calls + 1 - 1) = K.calls := by rw [show K.calls + 1 - 1 = K.calls by omega]; exact IntWalk.i64_in _ (by omega)
  have D2 : wrap64 (K.calls + 1 - 1) = K.calls := by rw [show K.calls + 1 - 1 = K.calls by omega]; exact IntWalk.wrap64_in _ (by omega)
  have D3 : IntKind.i64.wrap K.calls = K.calls := IntWalk.i64_in _ (by omega)
  have D4 : wrap64 K.calls = K.calls := IntWalk.wrap64_in _ (by omega)
  have KI : Hid (KIn B (w.setCell ⟨g, 3, none⟩ (.int .i64 (K.calls + 1))) g y (countedK K)) := ⟨⟨by go_simp, by go_simp, by go_simp, by go_simp, by go_simp, by go_simp, by go_simp, by go_simp, by go_simp, by go_simp, by go_simp⟩, (KOwn.setNe HI.out.own HI.out.ne _).counted, hBg, HI.out.ne⟩
  have KB : Hid (Below B w (w.setCell ⟨g, 3, none⟩ (.int .i64 (K.calls + 1)))) := (Below.refl _ _).setCell hBg _
  have KT : Hid (Touch (g :: blocks y.all) w (w.setCell ⟨g, 3, none⟩ (.int .i64 (K.calls + 1)))) := touch_cellT (Touch.refl _ _) (List.mem_cons_self ..)
  clear xg c0 c1 c2 c3 c4 f0 f1 f2 f3 f4
  generalize w.setCell ⟨g, 3, none⟩ (.int .i64 (K.calls + 1)) = w1 at *
  obtain ⟨xg, c0, c1, c2, c3, c4, f0, f1, f2, f3, f4⟩ := KI.out.box
  dsimp only at c3
  go_region_held3 (fun w' => w'.cell? ⟨g, 3, none⟩ = some (.int .i64 (K.calls + 1)) ∧ w'.cell? ⟨g, 4, none⟩ = some y.r) (first | (refine ⟨?_, ?_⟩ <;> (go_simp; done)) | go_keep) (first | (go_at_call 61; refine (s_l08Has _ K.refuse K.calls _ HG.out _ (SlAt.below (KI.out.own.ref.at lenInt) (by exact bel))).mono ?_; rintro e w2 ⟨rfl, rfl⟩))
  all_goals go_wp2
  all_goals go_ret
  all_goals exact ⟨rfl, KI.out.below (by exact bel), by (have hK := KB.out; exact bel), KT.out.trans (touch_of_below (by exact bel) _)⟩
theorem s_l08Call (B g : Nat) (y : KV) (K : Ker) (hc : 0 ≤ K.calls ∧ K.calls ≤ 100000) (w : World) (h : KIn B w g y K) : Calls Try.prog 83 #[.pointer (some ⟨g, 0, none⟩)] w fun e w' => e = .returned (.bool (grantedB K)) ∧ KIn B w' g y (countedK K) ∧ Below B w w' :=
  (s_l08CallT B g y K hc w h).mono fun e w' ⟨h1, h2, h3, _⟩ => ⟨h1, h2, h3⟩
end Go.Proofs.Ytkkebpcclklmcaa
/-
  The reference's protection of a page.
-/
set_option linter.unusedVariables false
set_option linter.unusedSimpArgs false
namespace Go.Proofs.Ytkkebpcclklmcaa
open Go.RowKit
/-- The mode of a page, asked behind the pointer. -/
theorem s_mode {B g : Nat} {y : KV} {K : Ker} {w : World} (h : KIn B w g y K) (p : Int) : Calls Try.prog 84 #[.pointer (some ⟨g, 0, none⟩), .int .i64 p] w fun e w' => e = .returned (.int .i64 (pageEntry K.m.ents p).m) ∧ Below w.heap.size w w' :=
  s_l08Mode g y.m.e K.m.ents p w h.box.lt h.box.c2 (h.own.m.ents.at lenEnt)
theorem KIn.setMode {B : Nat} {w : World} {gb : Nat} {y : KV} {K : Ker} {g n cap i : Nat} {x : Ent} (h : KIn B w gb y K) (hv : y.m.e = .slice (some ⟨g, 0, none⟩) n cap) (hi : K.m.ents[i]? = some x) (m : Int) :
    KIn B (w.setCell ⟨g, i * 2, none⟩ (.int .i64 m)) gb y (setEnt K i ⟨m, x.f⟩) := by
  refine ⟨?_, KOwn.setMode h.own hv hi m, h.hB, h.ne⟩
  have hne : gb ≠ g := fun e => h.ne (by rw [e]; exact mem_blocks.2 ⟨y.m.e, by simp [KV.all, MV.all], by rw [hv]; rfl⟩)
  exact h.box.touch (S := [g]) (grown_touch (r := some g) (grown_setCell (grown_refl w _) _ _) (by simp)) (by simpa using hne)
theorem mapped_not {es : List Ent} {p : Int} (h : mappedB es p = false) : (pageEntry es p).m = 0 := by
  unfold mappedB at h; simpa using h
end Go.Proofs.Ytkkebpcclklmcaa
