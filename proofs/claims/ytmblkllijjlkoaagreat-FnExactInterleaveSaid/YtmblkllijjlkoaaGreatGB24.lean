/-
  Texts put together: KCopyL, KBox, KBox2.
-/
import Derived.Test.YtmblkllijjlkoaaGreatGB22
import Derived.Test.YtmblkllijjlkoaaGreatGB23
/-
  Copies of kernels, by the reference.
-/
set_option linter.unusedVariables false
set_option linter.unusedSimpArgs false
namespace Go.Proofs.YtmblkllijjlkoaaGreat
open Go.RowKit
theorem MOwn.grownNe {B : Nat} {w w' : World} {x : MV} {M : Mac} {row : Option Nat} (h : MOwn B w x M) (hgr : w.grownBy w' row) (hne : ∀ g ∈ blocks x.all, some g ≠ row) : MOwn B w' x M :=
  h.touch (S := row.toList) (grown_touch hgr (by simp)) fun g hg hm => hne g hg (by simp at hm; exact hm.symm)
set_option maxRecDepth 20000 in
set_option maxHeartbeats 3200000 in
theorem s_l08Copy (x : KV) (K : Ker) (hs : szK K ≤ 1048576) (w : World) (ha : KAt w x K) : Calls Tryz.prog 48 #[x.val K.calls] w (NewK w K) := by
  obtain ⟨m, r⟩ := x
  obtain ⟨rvo, rvc, hr, _, _⟩ := ha.ref.shape
  dsimp only at hr
  subst hr
  have HM := Lib.hid ha.m; have HR := Lib.hid ha.ref
  dsimp only at HM HR
  simp only [KV.val]
  have hs1 : szM K.m ≤ 1048576 := by unfold szK at hs; omega
  have hs2 : K.refuse.length ≤ 1048576 := by unfold szK at hs; omega
  have H1 := Lib.hid hs1; have H2 := Lib.hid hs2
  clear ha hs hs1
  (have hall := all_nil w; go_enter Tryz.func48, Tryz.ntmps48)
  go_wp2
  go_region_held3 (fun w' => w'.cell? ⟨w.heap.size, 0, none⟩ = some (m.f.c) ∧ w'.cell? ⟨w.heap.size, 1, none⟩ = some (m.f.u) ∧ w'.cell? ⟨w.heap.size, 2, none⟩ = some (m.e) ∧ w'.cell? ⟨w.heap.size, 3, none⟩ = some (.int .i64 K.calls) ∧ w'.cell? ⟨w.heap.size, 4, none⟩ = some (.slice rvo K.refuse.length rvc)) ((refine ⟨?_, ?_, ?_, ?_, ?_⟩ <;> (go_simp; done))) (first | (go_at_call 89; (refine (s_l07Copy m K.m H1.out _ (HM.out.below (by exact bel))).mono ?_; rintro e w2 ⟨y, rfl, hyo, hb⟩; (obtain ⟨yco, ycc, yuo, yuc, yvs, yeo, yec, rfl⟩ := MOwn.shapes hyo); have OM := Lib.hid hyo; have HB1 := Lib.hid hb; obtain ⟨kwa_0_0, kwa_0_1, kwa_0_2, kwa_0_3, kwa_0_4⟩ := kp5 hb (w.heap.size) (m.f.c) (m.f.u) (m.e) (.int .i64 K.calls) (.slice rvo K.refuse.length rvc); obtain ⟨kwa_1_0, fwa_1_0, kwa_1_1, fwa_1_1, kwa_1_2, fwa_1_2, kwa_1_3, fwa_1_3, kwa_1_4, fwa_1_4⟩ := kf5 hb (w.heap.size + 1) (.slice none 0 0) (.slice none 0 0) (.slice none 0 0) (.int .i64 0) (.slice none 0 0); have xwa_0 : w.heap.size < w2.heap.size := xc hb; have xwa_1 : w.heap.size + 1 < w2.heap.size := xc hb; have hzwa := hb.size; (try simp only [World.size_alloc, World.size_setCell, World.size_drew] at hzwa); clear hyo; simp only [MV.val]; obtain ⟨wa, rfl⟩ : ∃ x, x = w2 := ⟨_, rfl⟩)) | (((refine step_appendAll elemInt rfl _ _ rfl lenInt oneInt rfl (xs := []) (B := (w.heap.size + 1 + 1)) (Own.empty' _ _ _ (w.heap.size + 1 + 1) _ _ (by first | rfl | simp) (by exact zt)) (by exact zt) rfl (HR.out.below (by exact bel)) (by simp only [List.length_nil, maxLen]; omega) ?_; intro v4 w2 hro hgr4 hat4 hb; (try simp only [List.nil_append] at hro); obtain ⟨ro, rc, rfl, -, -⟩ := hro.shape; have OI := Lib.hid hro; have HB2 := Lib.hid hb; have HG4 := Lib.hid hgr4; have HA4 := Lib.hid hat4; clear hgr4 hat4; obtain ⟨kwb_0_0, kwb_0_1, kwb_0_2, kwb_0_3, kwb_0_4⟩ := kp5 hb (w.heap.size) (m.f.c) (m.f.u) (m.e) (.int .i64 K.calls) (.slice rvo K.refuse.length rvc); obtain ⟨kwb_1_0, fwb_1_0, kwb_1_1, fwb_1_1, kwb_1_2, fwb_1_2, kwb_1_3, fwb_1_3, kwb_1_4, fwb_1_4⟩ := kf5 hb (w.heap.size + 1) (.slice none 0 0) (.slice none 0 0) (.slice none 0 0) (.int .i64 0) (.slice none 0 0); have xwb_0 : w.heap.size < w2.heap.size := xc hb; have xwb_1 : w.heap.size + 1 < w2.heap.size := xc hb; have hzwb := hb.size; (try simp only [World.size_alloc, World.size_setCell, World.size_drew] at hzwb); clear hro; obtain ⟨wb, rfl⟩ : ∃ x, x = w2 := ⟨_, rfl⟩))) | (((refine step_appendAll elemInt rfl _ _ rfl lenInt oneInt rfl (xs := []) (B := (w.heap.size + 1 + 1)) (Own.below (Own.drew (Own.empty' _ _ _ (w.heap.size + 1 + 1) _ _ (by first | rfl | simp) (by exact zt))) HB1.out) (by exact zt) rfl (HR.out.below (by exact bel)) (by simp only [List.length_nil, maxLen]; omega) ?_; intro v4 w2 hro hgr4 hat4 hb; (try simp only [List.nil_append] at hro); obtain ⟨ro, rc, rfl, -, -⟩ := hro.shape; have OI := Lib.hid hro; have HB2 := Lib.hid hb; have HG4 := Lib.hid hgr4; have HA4 := Lib.hid hat4; clear hgr4 hat4; obtain ⟨kwb_0_0, kwb_0_1, kwb_0_2, kwb_0_3, kwb_0_4⟩ := kp5 hb (w.heap.size) (m.f.c) (m.f.u) (m.e) (.int .i64 K.calls) (.slice rvo K.refuse.length rvc); obtain ⟨kwb_1_0, fwb_1_0, kwb_1_1, fwb_1_1, kwb_1_2, fwb_1_2, kwb_1_3, fwb_1_3, kwb_1_4, fwb_1_4⟩ := kf5 hb (w.heap.size + 1) (.slice none 0 0) (.slice none 0 0) (.slice none 0 0) (.int .i64 0) (.slice none 0 0); have xwb_0 : w.heap.size < w2.heap.size := xc hb; have xwb_1 : w.heap.size + 1 < w2.heap.size := xc hb; have hzwb := hb.size; (try simp only [World.size_alloc, World.size_setCell, World.size_drew] at hzwb); clear hro; obtain ⟨wb, rfl⟩ : ∃ x, x = w2 := ⟨_, rfl⟩))))
  all_goals go_wp2
  all_goals refine bodyPost_ret (v := .agg #[.slice yco yvs.length ycc, .slice yuo K.m.f.used.length yuc, .slice yeo K.m.ents.length yec, .int .i64 K.calls, .slice ro K.refuse.length rc]) (by simp [results, Tryz.results48, go_sem, kwa_1_0, fwa_1_0, kwa_1_1, fwa_1_1, kwa_1_2, fwa_1_2, kwa_1_3, fwa_1_3, kwa_1_4, fwa_1_4, xwa_1, kwb_1_0, fwb_1_0, kwb_1_1, fwb_1_1, kwb_1_2, fwb_1_2, kwb_1_3, fwb_1_3, kwb_1_4, fwb_1_4, xwb_1]) rfl ?_
  all_goals have hB1 := HB1.out
  all_goals have hB2 := HB2.out
  all_goals first
    | (have OIa := Own.below OI.out hB1
       have OMa := OM.out.mono (B' := (w.heap.size + 1 + 1)) (by exact zt)
       refine ⟨⟨⟨⟨_, _, yvs⟩, _⟩, _⟩, rfl, ⟨by (have hm := MOwn.mono (B' := w.heap.size + 1 + 1) (OMa) (by exact zt); refine MOwn.mono (B := w.heap.size + 1 + 1) ?_ (by exact zt); (repeat (fail))), by (have hm := Own.mono (B' := w.heap.size + 1 + 1) (OIa) (by exact zt); refine Own.mono (B := w.heap.size + 1 + 1) ?_ (by exact zt); (repeat (fail))), ?_⟩, by exact bel⟩
       exact nodup_blocks (l := [_]) (nodup_one _) OM.out.nd (fun g hg hm => by have h1 := (Own.lts OI.out) g hg; have h2 := (OM.out.lts) g hm; simp only [World.size_alloc, World.size_setCell, World.size_drew] at h1 h2; omega))
    | (have OMb := MOwn.grownNe (MOwn.below OM.out (by exact bel)) HG4.out (fun g hg e => by
         have h2 := OM.out.lts g hg
         simp [Value.ownBlock, Act.eval] at e
         (try simp only [World.size_alloc, World.size_setCell, World.size_drew] at h2)
         omega)
       have OMa := OMb.mono (B' := (w.heap.size + 1 + 1)) (by exact zt)
       refine ⟨⟨⟨⟨_, _, yvs⟩, _⟩, _⟩, rfl, ⟨by (have hm := MOwn.mono (B' := w.heap.size + 1 + 1) (OMa) (by exact zt); refine MOwn.mono (B := w.heap.size + 1 + 1) ?_ (by exact zt); (repeat (first | with_reducible exact hm | (with_reducible refine MOwn.offb ?_ (by omega) _)))), by (have hm := Own.mono (B' := w.heap.size + 1 + 1) (OI.out) (by exact zt); refine Own.mono (B := w.heap.size + 1 + 1) ?_ (by exact zt); (repeat (first | with_reducible exact hm | (with_reducible refine Own.offb ?_ (by omega) _)))), ?_⟩, by exact bel⟩
       refine nodup_blocks (l := [_]) (nodup_one _) OM.out.nd (fun g hg hm => ?_)
       have h2 := OM.out.lts g hm
       obtain ⟨u, hu, hb5⟩ := mem_blocks.1 hg
       simp only [List.mem_singleton] at hu
       subst hu
       rcases HA4.out with e | e
       · rw [hb5] at e
         simp [Value.ownBlock, Act.eval] at e
         (try simp only [World.size_alloc, World.size_setCell, World.size_drew] at h2)
         omega
       · rw [hb5] at e
         simp only [Option.some.injEq] at e
         (try simp only [World.size_alloc, World.size_setCell, World.size_drew] at h2 e)
         omega)

end Go.Proofs.YtmblkllijjlkoaaGreat
/-
  A kernel behind a pointer: what the reference's steps leave there.
-/
set_option linter.unusedVariables false
set_option linter.unusedSimpArgs false
namespace Go.Proofs.YtmblkllijjlkoaaGreat
open Go.RowKit
structure KBox (w : World) (g : Nat) (y : KV) (calls : Int) : Prop where
  lt : g < w.heap.size
  c0 : w.cell? ⟨g, 0, none⟩ = some y.m.f.c
  c1 : w.cell? ⟨g, 1, none⟩ = some y.m.f.u
  c2 : w.cell? ⟨g, 2, none⟩ = some y.m.e
  c3 : w.cell? ⟨g, 3, none⟩ = some (.int .i64 calls)
  c4 : w.cell? ⟨g, 4, none⟩ = some y.r
  f0 : w.frozen? ⟨g, 0, none⟩ = false
  f1 : w.frozen? ⟨g, 1, none⟩ = false
  f2 : w.frozen? ⟨g, 2, none⟩ = false
  f3 : w.frozen? ⟨g, 3, none⟩ = false
  f4 : w.frozen? ⟨g, 4, none⟩ = false
theorem KBox.below {w w' : World} {g : Nat} {y : KV} {calls : Int} (h : KBox w g y calls) (hb : Below w.heap.size w w') : KBox w' g y calls :=
  have hs := hb.size
  have hl := h.lt
  ⟨by omega, (hb.cell (p := ⟨g, 0, none⟩) hl).trans h.c0, (hb.cell (p := ⟨g, 1, none⟩) hl).trans h.c1, (hb.cell (p := ⟨g, 2, none⟩) hl).trans h.c2, (hb.cell (p := ⟨g, 3, none⟩) hl).trans h.c3, (hb.cell (p := ⟨g, 4, none⟩) hl).trans h.c4,
    (hb.frozen (p := ⟨g, 0, none⟩) hl).trans h.f0, (hb.frozen (p := ⟨g, 1, none⟩) hl).trans h.f1, (hb.frozen (p := ⟨g, 2, none⟩) hl).trans h.f2, (hb.frozen (p := ⟨g, 3, none⟩) hl).trans h.f3, (hb.frozen (p := ⟨g, 4, none⟩) hl).trans h.f4⟩
theorem KBox.touch {S : List Nat} {w w' : World} {g : Nat} {y : KV} {calls : Int} (h : KBox w g y calls) (ht : Touch S w w') (hg : g ∉ S) : KBox w' g y calls :=
  have hs := ht.size
  have hl := h.lt
  ⟨by omega, (ht.cell hl hg).trans h.c0, (ht.cell hl hg).trans h.c1, (ht.cell hl hg).trans h.c2, (ht.cell hl hg).trans h.c3, (ht.cell hl hg).trans h.c4,
    (ht.frozen hl hg).trans h.f0, (ht.frozen hl hg).trans h.f1, (ht.frozen hl hg).trans h.f2, (ht.frozen hl hg).trans h.f3, (ht.frozen hl hg).trans h.f4⟩
/-- A kernel that the call owns, in a box of its own. -/
structure KIn (B : Nat) (w : World) (g : Nat) (y : KV) (K : Ker) : Prop where
  box : KBox w g y K.calls
  own : KOwn B w y K
  hB : B ≤ g
  ne : g ∉ blocks y.all
theorem KIn.below {B : Nat} {w w' : World} {g : Nat} {y : KV} {K : Ker} (h : KIn B w g y K) (hb : Below w.heap.size w w') : KIn B w' g y K := ⟨h.box.below hb, h.own.below hb, h.hB, h.ne⟩
theorem KOwn.setNe {B : Nat} {w : World} {y : KV} {K : Ker} (h : KOwn B w y K) {g o : Nat} (hg : g ∉ blocks y.all) (u : Value) : KOwn B (w.setCell ⟨g, o, none⟩ u) y K :=
  h.touch (S := [g]) (grown_touch (r := some g) (grown_setCell (grown_refl w _) o u) (by simp)) fun g' hg' hm => by simp at hm; subst hm; exact hg hg'
/-- What a step behind the pointer leaves. -/
theorem touch_cellT {S : List Nat} {w w' : World} {g i : Nat} {v : Value} (h : Touch S w w') (hg : g ∈ S) : Touch S w (w'.setCell ⟨g, i, none⟩ v) :=
  h.trans (grown_touch (r := some g) (grown_setCell (grown_refl w' _) _ _) (fun _ e => by cases e; exact hg))
def KDone (B g : Nat) (w : World) (b : Bool) (K : Ker) (e : Ending) (w' : World) : Prop := ∃ y : KV, e = .returned (.bool b) ∧ KIn B w' g y K ∧ Below B w w'
/-- The same, and nothing but the kernel's own blocks and its box are written. -/
def KDoneT (B g : Nat) (y : KV) (w : World) (b : Bool) (K : Ker) (e : Ending) (w' : World) : Prop := ∃ y' : KV, e = .returned (.bool b) ∧ KIn B w' g y' K ∧ Below B w w' ∧ Touch (g :: blocks y.all) w w' ∧ ∀ b ∈ blocks y'.all, b ∈ blocks y.all ∨ w.heap.size ≤ b
def KLeftT (B g : Nat) (y : KV) (w : World) (K : Ker) (e : Ending) (w' : World) : Prop := ∃ y' : KV, e = .returned (.tuple #[]) ∧ KIn B w' g y' K ∧ Below B w w' ∧ Touch (g :: blocks y.all) w w' ∧ ∀ b ∈ blocks y'.all, b ∈ blocks y.all ∨ w.heap.size ≤ b
theorem blocks_setV {y : KV} {i n : Nat} {v : Value} (hv : ∀ b, v.ownBlock = some b → n ≤ b) : ∀ b ∈ blocks (KV.all ⟨⟨⟨y.m.f.c, y.m.f.u, y.m.f.vs.set i v⟩, y.m.e⟩, y.r⟩), b ∈ blocks y.all ∨ n ≤ b := by
  intro b hb
  obtain ⟨u, hu, ho⟩ := mem_blocks.1 hb
  simp only [KV.all, MV.all, FV.all, List.mem_append, List.mem_cons, List.not_mem_nil, or_false] at hu
  by_cases hm : u ∈ y.all
  · exact .inl (mem_blocks.2 ⟨u, hm, ho⟩)
  · right
    simp only [KV.all, MV.all, FV.all, List.mem_append, List.mem_cons, List.not_mem_nil, or_false, not_or] at hm
    rcases hu with h | h | h | h | h
    · exact absurd h hm.1
    · exact absurd h hm.2.1
    · exact absurd h hm.2.2.1
    · exact absurd h hm.2.2.2.1
    · rcases List.mem_or_eq_of_mem_set h with h | h
      · exact absurd h hm.2.2.2.2
      · subst h; exact hv b ho
theorem touch_drw {S : List Nat} {w w' : World} (h : Touch S w w') : Touch S w w'.drew := h.trans (touch_of_below (Below.drew (Below.refl _ _)) S)
theorem touch_alc {S : List Nat} {w w' : World} (o : Obj) (h : Touch S w w') : Touch S w (w'.alloc o) := h.trans (touch_of_below ((Below.refl _ _).alloc (Nat.le_refl _) o) S)
set_option maxRecDepth 20000 in
set_option maxHeartbeats 800000 in
theorem s_l08CallT (B g : Nat) (y : KV) (K : Ker) (hc : 0 ≤ K.calls ∧ K.calls ≤ 100000) (w : World) (h : KIn B w g y K) : Calls Tryz.prog 154 #[.pointer (some ⟨g, 0, none⟩)] w fun e w' => e = .returned (.bool (grantedB K)) ∧ KIn B w' g y (countedK K) ∧ Below B w w' ∧ Touch (g :: blocks y.all) w w' := by
  have HI := Lib.hid h
  obtain ⟨xg, c0, c1, c2, c3, c4, f0, f1, f2, f3, f4⟩ := h.box
  obtain ⟨b, hb⟩ : ∃ b, b = hasI K.refuse K.calls := ⟨_, rfl⟩
  have HG := Lib.hid hb.symm
  have HE : Hid (grantedB K = !b) := by unfold Hid grantedB; rw [hb]
  rw [HE.out]
  clear h hb
  have hBz : B ≤ w.heap.size := by have := HI.out.hB; omega
  have hBg := HI.out.hB
  (have hall := all_nil w; go_enter Tryz.func154, Tryz.ntmps154)
  go_wp2
  have D1 : IntKind.i64.wrap (K.calls + 1 - 1) = K.calls := by rw [show K.calls + 1 - 1 = K.calls by omega]; exact IntWalk.i64_in _ (by omega)
  have D2 : wrap64 (K.calls + 1 - 1) = K.calls := by rw [show K.calls + 1 - 1 = K.calls by omega]; exact IntWalk.wrap64_in _ (by omega)
  have D3 : IntKind.i64.wrap K.calls = K.calls := IntWalk.i64_in _ (by omega)
  have D4 : wrap64 K.calls = K.calls := IntWalk.wrap64_in _ (by omega)
  have KI : Hid (KIn B (w.setCell ⟨g, 3, none⟩ (.int .i64 (K.calls + 1))) g y (countedK K)) := ⟨⟨by go_simp, by go_simp, by go_simp, by go_simp, by go_simp, by go_simp, by go_simp, by go_simp, by go_simp, by go_simp, by go_simp⟩, (KOwn.setNe HI.out.own HI.out.ne _).counted, hBg, HI.out.ne⟩
  have KB : Hid (Below B w (w.setCell ⟨g, 3, none⟩ (.int .i64 (K.calls + 1)))) := (Below.refl _ _).setCell hBg _
  have KT : Hid (Touch (g :: blocks y.all) w (w.setCell ⟨g, 3, none⟩ (.int .i64 (K.calls + 1)))) := touch_cellT (Touch.refl _ _) (List.mem_cons_self ..)
  clear xg c0 c1 c2 c3 c4 f0 f1 f2 f3 f4
  generalize w.setCell ⟨g, 3, none⟩ (.int .i64 (K.calls + 1)) = w1 at *
  obtain ⟨xg, c0, c1, c2, c3, c4, f0, f1, f2, f3, f4⟩ := KI.out.box
  dsimp only at c3
  go_region_held3 (fun w' => w'.cell? ⟨g, 3, none⟩ = some (.int .i64 (K.calls + 1)) ∧ w'.cell? ⟨g, 4, none⟩ = some y.r) (first | (refine ⟨?_, ?_⟩ <;> (go_simp; done)) | go_keep) (first | (go_at_call 171; refine (s_l08Has _ K.refuse K.calls _ HG.out _ (SlAt.below (KI.out.own.ref.at lenInt) (by exact bel))).mono ?_; rintro e w2 ⟨rfl, rfl⟩))
  all_goals go_wp2
  all_goals go_ret
  all_goals exact ⟨rfl, KI.out.below (by exact bel), by (have hK := KB.out; exact bel), KT.out.trans (touch_of_below (by exact bel) _)⟩
theorem s_l08Call (B g : Nat) (y : KV) (K : Ker) (hc : 0 ≤ K.calls ∧ K.calls ≤ 100000) (w : World) (h : KIn B w g y K) : Calls Tryz.prog 154 #[.pointer (some ⟨g, 0, none⟩)] w fun e w' => e = .returned (.bool (grantedB K)) ∧ KIn B w' g y (countedK K) ∧ Below B w w' :=
  (s_l08CallT B g y K hc w h).mono fun e w' ⟨h1, h2, h3, _⟩ => ⟨h1, h2, h3⟩
end Go.Proofs.YtmblkllijjlkoaaGreat
/-
  The reference's protection of a page.
-/
set_option linter.unusedVariables false
set_option linter.unusedSimpArgs false
namespace Go.Proofs.YtmblkllijjlkoaaGreat
open Go.RowKit
/-- The mode of a page, asked behind the pointer. -/
theorem s_mode {B g : Nat} {y : KV} {K : Ker} {w : World} (h : KIn B w g y K) (p : Int) : Calls Tryz.prog 91 #[.pointer (some ⟨g, 0, none⟩), .int .i64 p] w fun e w' => e = .returned (.int .i64 (pageEntry K.m.ents p).m) ∧ Below w.heap.size w w' :=
  s_l08Mode g y.m.e K.m.ents p w h.box.lt h.box.c2 (h.own.m.ents.at lenEnt)
theorem KIn.setMode {B : Nat} {w : World} {gb : Nat} {y : KV} {K : Ker} {g n cap i : Nat} {x : Ent} (h : KIn B w gb y K) (hv : y.m.e = .slice (some ⟨g, 0, none⟩) n cap) (hi : K.m.ents[i]? = some x) (m : Int) :
    KIn B (w.setCell ⟨g, i * 2, none⟩ (.int .i64 m)) gb y (setEnt K i ⟨m, x.f⟩) := by
  refine ⟨?_, KOwn.setMode h.own hv hi m, h.hB, h.ne⟩
  have hne : gb ≠ g := fun e => h.ne (by rw [e]; exact mem_blocks.2 ⟨y.m.e, by simp [KV.all, MV.all], by rw [hv]; rfl⟩)
  exact h.box.touch (S := [g]) (grown_touch (r := some g) (grown_setCell (grown_refl w _) _ _) (by simp)) (by simpa using hne)
theorem mapped_not {es : List Ent} {p : Int} (h : mappedB es p = false) : (pageEntry es p).m = 0 := by
  unfold mappedB at h; simpa using h
set_option maxRecDepth 20000 in
set_option maxHeartbeats 1600000 in
theorem s_l08ProtectT (B g : Nat) (y : KV) (K : Ker) (p mode : Int) (hc : 0 ≤ K.calls ∧ K.calls ≤ 100000) (w : World) (h : KIn B w g y K) : Calls Tryz.prog 112 #[.pointer (some ⟨g, 0, none⟩), .int .i64 p, .int .i64 mode] w fun e w' => e = .returned (.bool (protB K p mode)) ∧ KIn B w' g y (if protB K p mode then setEnt (countedK K) p ⟨mode, (pageEntry K.m.ents p).f⟩ else countedK K) ∧ Below B w w' ∧ Touch (g :: blocks y.all) w w' := by
  have HI := Lib.hid h
  have HC := Lib.hid hc
  clear h hc
  have CALL := Lib.hid (s_l08CallT B g y K HC.out w HI.out)
  cases h2 : grantedB K
  · rw [h2] at CALL
    have HE : Hid (protB K p mode = false) := by unfold Hid protB; rw [h2]; rfl
    rw [HE.out, if_neg Bool.false_ne_true]
    (have hall := all_nil w; go_enter Tryz.func112, Tryz.ntmps112)
    go_wp2_with ((go_at_call 154; (refine (CALL.out).mono ?_; rintro e w2 ⟨rfl, hki, hb, ht⟩; have KI := Lib.hid hki; have HB1 := Lib.hid hb; have HT1 := Lib.hid ht; clear hki hb ht; obtain ⟨wa, rfl⟩ : ∃ x, x = w2 := ⟨_, rfl⟩)))
    go_ret
    exact ⟨rfl, KI.out, HB1.out, HT1.out⟩
  · rw [h2] at CALL
    cases h3 : mappedB K.m.ents p
    · have HE : Hid (protB K p mode = false) := by unfold Hid protB; rw [h2, h3]; rfl
      have HM := Lib.hid (mapped_not h3)
      rw [HE.out, if_neg Bool.false_ne_true]
      (have hall := all_nil w; go_enter Tryz.func112, Tryz.ntmps112)
      go_wp2_with (first | (go_at_call 154; (refine (CALL.out).mono ?_; rintro e w2 ⟨rfl, hki, hb, ht⟩; have KI := Lib.hid hki; have HB1 := Lib.hid hb; have HT1 := Lib.hid ht; clear hki hb ht; obtain ⟨wa, rfl⟩ : ∃ x, x = w2 := ⟨_, rfl⟩)) | (go_at_call 91; (refine (s_mode KI.out p).mono ?_; rintro e w2 ⟨rfl, hb⟩; (try rw [HM.out]); have HB2 := Lib.hid hb; clear hb; obtain ⟨wb, rfl⟩ : ∃ x, x = w2 := ⟨_, rfl⟩)))
      go_ret
      have hB1 := HB1.out; have hB2 := HB2.out
      have hz := KI.out.box.lt; have hBg := KI.out.hB
      exact ⟨rfl, KI.out.below hB2, by exact bel, HT1.out.trans (touch_of_below hB2 _)⟩
    · obtain ⟨k, en, rfl, hen, hpe⟩ := mapped_in h3
      obtain ⟨yco, ycc, yuo, yuc, yvs, yeo, yec, yro, yrc, rfl⟩ := HI.out.own.shapes
      obtain ⟨ge, gec, hge, -, -⟩ := Own.addr HI.out.own.m.ents (getx_lt hen |> Nat.lt_of_le_of_lt (Nat.zero_le _))
      simp only [Value.slice.injEq] at hge
      obtain ⟨rfl, -, rfl⟩ := hge
      have HN := Lib.hid hen
      have HPE := Lib.hid hpe
      have hlt' : (k : Int) < K.m.ents.length := by have := getx_lt hen; omega
      have hltN : k < K.m.ents.length := getx_lt hen
      have hle9 : K.m.ents.length ≤ 9223372036854775807 := by
        obtain ⟨_, _, _, h1, h2⟩ := (HI.out.own.m.ents.at lenEnt).shape
        unfold maxLen at h2; omega
      have hm0 : (en.m == 0) = false := by unfold mappedB at h3; rw [hpe] at h3; simpa using h3
      clear hen hpe
      rw [HPE.out]
      cases h4 : between mode 1 2
      · have HE : Hid (protB K k mode = false) := by unfold Hid protB; rw [h2, h3, h4]; rfl
        rw [HE.out, if_neg Bool.false_ne_true]
        (have hall := all_nil w; go_enter Tryz.func112, Tryz.ntmps112)
        go_wp2_with (first | (go_at_call 154; (refine (CALL.out).mono ?_; rintro e w2 ⟨rfl, hki, hb, ht⟩; have KI := Lib.hid hki; have HB1 := Lib.hid hb; have HT1 := Lib.hid ht; clear hki hb ht; obtain ⟨wa, rfl⟩ : ∃ x, x = w2 := ⟨_, rfl⟩)) | (go_at_call 91; (refine (s_mode KI.out k).mono ?_; rintro e w2 ⟨rfl, hb⟩; rw [HPE.out]; have HB2 := Lib.hid hb; clear hb; obtain ⟨wb, rfl⟩ : ∃ x, x = w2 := ⟨_, rfl⟩)) | (go_at_call 49; ((refine (s_l01In _ _ _ false (by assumption) _).mono ?_)); rintro e w2 ⟨rfl, rfl⟩))
        go_ret
        have hB1 := HB1.out; have hB2 := HB2.out
        have hz := KI.out.box.lt; have hBg := KI.out.hB
        exact ⟨rfl, KI.out.below hB2, by exact bel, HT1.out.trans (touch_of_below hB2 _)⟩
      · have HE : Hid (protB K k mode = true) := by unfold Hid protB; rw [h2, h3, h4]; rfl
        rw [HE.out, if_pos rfl]
        (have hall := all_nil w; go_enter Tryz.func112, Tryz.ntmps112)
        go_wp2_with (first | (go_at_call 154; (refine (CALL.out).mono ?_; rintro e w2 ⟨rfl, hki, hb, ht⟩; have KI := Lib.hid hki; have HB1 := Lib.hid hb; have HT1 := Lib.hid ht; clear hki hb ht; obtain ⟨wa, rfl⟩ : ∃ x, x = w2 := ⟨_, rfl⟩)) | (go_at_call 91; (refine (s_mode KI.out k).mono ?_; rintro e w2 ⟨rfl, hb⟩; rw [HPE.out]; have HB2 := Lib.hid hb; (have K2 := KI.out.below hb); (obtain ⟨xg, c0, c1, c2, c3, c4, f0, f1, f2, f3, f4⟩ := K2.box); (dsimp only at c2); (obtain ⟨hBge, xge, e0, z0, e1, z1⟩ := OwnEnt.slot K2.own.m.ents HN.out); have KJ := Lib.hid K2; clear hb K2; obtain ⟨wb, rfl⟩ : ∃ x, x = w2 := ⟨_, rfl⟩)) | (go_at_call 49; ((refine (s_l01In _ _ _ true (by assumption) _).mono ?_)); rintro e w2 ⟨rfl, rfl⟩))
        go_ret
        have hB1 := HB1.out; have hB2 := HB2.out
        have hz := KI.out.box.lt; have hBg := KI.out.hB
        exact ⟨rfl, KIn.setMode KJ.out rfl HN.out mode, by exact bel, touch_cellT (HT1.out.trans (touch_of_below hB2 _)) (List.mem_cons_of_mem _ (mem_blocks.2 ⟨.slice (some ⟨ge, 0, none⟩) K.m.ents.length yec, by simp [KV.all, MV.all], rfl⟩))⟩
theorem s_l08Protect (B g : Nat) (y : KV) (K : Ker) (p mode : Int) (hc : 0 ≤ K.calls ∧ K.calls ≤ 100000) (w : World) (h : KIn B w g y K) : Calls Tryz.prog 112 #[.pointer (some ⟨g, 0, none⟩), .int .i64 p, .int .i64 mode] w fun e w' => e = .returned (.bool (protB K p mode)) ∧ KIn B w' g y (if protB K p mode then setEnt (countedK K) p ⟨mode, (pageEntry K.m.ents p).f⟩ else countedK K) ∧ Below B w w' :=
  (s_l08ProtectT B g y K p mode hc w h).mono fun e w' ⟨h1, h2, h3, _⟩ => ⟨h1, h2, h3⟩
end Go.Proofs.YtmblkllijjlkoaaGreat
