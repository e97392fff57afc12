/-
  A frame is given back if no page is mapped to it.
-/
import Derived.Test.YtmblkllijjlkoaaKStep
import Derived.Deep.RegionHeld3
set_option linter.unusedVariables false
set_option linter.unusedSimpArgs false
namespace Go.Proofs.Ytmblkllijjlkoaa
open Go.RowKit
/-- What a step without a result leaves behind the pointer. -/
def KLeft (B g : Nat) (w : World) (K : Ker) (e : Ending) (w' : World) : Prop := ∃ y : KV, e = .returned (.tuple #[]) ∧ KIn B w' g y K ∧ Below B w w'
theorem OwnI.zeros {B : Nat} (w : World) (hB : B ≤ w.heap.size) : OwnI B (w.alloc (.cells #[.int .i64 0, .int .i64 0, .int .i64 0, .int .i64 0, .int .i64 0, .int .i64 0, .int .i64 0, .int .i64 0, .int .i64 0, .int .i64 0, .int .i64 0, .int .i64 0, .int .i64 0, .int .i64 0, .int .i64 0, .int .i64 0] 3)) (.slice (some ⟨w.heap.size, 0, none⟩) 16 16) (List.replicate 16 0) :=
  World.ownsRow_lit w #[.int .i64 0, .int .i64 0, .int .i64 0, .int .i64 0, .int .i64 0, .int .i64 0, .int .i64 0, .int .i64 0, .int .i64 0, .int .i64 0, .int .i64 0, .int .i64 0, .int .i64 0, .int .i64 0, .int .i64 0, .int .i64 0] 16 hB (by unfold maxLen; omega) rfl
theorem mk16 (w : World) : (Instr.makeSlice 31 (.int .i64 16) (.int .i64 16)).run Try.prog w = .ok (.slice (some ⟨w.heap.size, 0, none⟩) 16 16) (w.alloc (.cells #[.int .i64 0, .int .i64 0, .int .i64 0, .int .i64 0, .int .i64 0, .int .i64 0, .int .i64 0, .int .i64 0, .int .i64 0, .int .i64 0, .int .i64 0, .int .i64 0, .int .i64 0, .int .i64 0, .int .i64 0, .int .i64 0] 3)) := by kernel_rfl
attribute [go_sem] mk16
/-- The two stores of a frame that is given back. -/
theorem KIn.drop {B g : Nat} {w : World} {y : KV} {K : Ker} {gu un uc gc cn cc fr : Nat} (h : KIn B w g y K) (hu : y.m.f.u = .slice (some ⟨gu, 0, none⟩) un uc) (hc : y.m.f.c = .slice (some ⟨gc, 0, none⟩) cn cc) (hl : fr < K.m.f.cells.length) (hB : B ≤ w.heap.size)
    {w1 : World} {v : Value} (hw1 : Below (w.setCell ⟨gu, fr, none⟩ (.bool false)).heap.size (w.setCell ⟨gu, fr, none⟩ (.bool false)) w1) (hv : OwnI B w1 v (List.replicate 16 0)) (hnew : ∀ b, v.ownBlock = some b → w.heap.size ≤ b) :
    KIn B (w1.setCell ⟨gc, fr, none⟩ v) g ⟨⟨⟨y.m.f.c, y.m.f.u, y.m.f.vs.set fr v⟩, y.m.e⟩, y.r⟩ (withF K (dropF K.m.f fr)) := by
  have h1 := h.own.m.f.setUsed hu fr false
  have s1 : (w.setCell ⟨gu, fr, none⟩ (.bool false)).heap.size = w.heap.size := by simp
  have h2 := FOwn.below h1.1 hw1
  have hfar : ∀ b, v.ownBlock = some b → b ∉ blocks y.all ∧ b ≠ g := fun b hb => by
    have h3 := hnew b hb
    exact ⟨fun hm => by have := (h.own.lts b hm).2; omega, fun e => by have := h.box.lt; omega⟩
  have h3 := FOwn.setRowVal h2 hc hl hv fun b hb hm => (hfar b hb).1 (mem_all hm)
  have t1 : Touch (blocks [y.m.f.u]) w w1 := h1.2.trans (touch_of_below hw1 _)
  have t2 : Touch (blocks [y.m.f.u] ++ blocks [y.m.f.c]) w (w1.setCell ⟨gc, fr, none⟩ v) := (t1.mono fun b hb => List.mem_append_left _ hb).trans (h3.2.mono fun b hb => List.mem_append_right _ hb)
  refine KIn.setF h t2 (fun b hb => ?_) h3.1 (fun b hb => ?_) rfl rfl
  · rcases List.mem_append.1 hb with hb | hb
    · exact mem_u _ b hb
    · exact mem_c _ b hb
  · rw [show (FV.mk y.m.f.c y.m.f.u (y.m.f.vs.set fr v)).all = [y.m.f.u] ++ ([y.m.f.c] ++ y.m.f.vs.set fr v) from rfl, blocks_append, blocks_append, List.mem_append, List.mem_append] at hb
    rcases hb with hb | hb | hb
    · exact .inl (mem_u _ b hb)
    · exact .inl (mem_c _ b hb)
    · rcases blocks_set b hb with h4 | h4
      · exact .inl (sub_right [y.m.f.u] _ b (blocks_sub (fun u hu => List.mem_cons_of_mem _ hu) b h4))
      · exact .inr (hfar b h4)


end Go.Proofs.Ytmblkllijjlkoaa
