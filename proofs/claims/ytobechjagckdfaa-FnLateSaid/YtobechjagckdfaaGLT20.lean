/-
  Texts put together: SetPage, FrameB.
-/
import Derived.Test.YtobechjagckdfaaGLT8
import Derived.Test.YtobechjagckdfaaGLT9
import Derived.Test.YtobechjagckdfaaGLT10
import Derived.Deep.DeepCutAuto
import Derived.Test.YtobechjagckdfaaGLT14
/-
  An entry of a table is set, by the reference.
-/
set_option linter.unusedVariables false
set_option linter.unusedSimpArgs false
namespace Go.Proofs.Ytobechjagckdfaa
open Go.RowKit
def SetT (w : World) (es : List Ent) (e : Ending) (w' : World) : Prop := ∃ v : Value, e = .returned (.tuple #[.agg #[v], .bool true]) ∧ OwnEnt w.heap.size w' v es ∧ Below w.heap.size w w'
set_option maxRecDepth 20000 in
set_option maxHeartbeats 3200000 in
theorem s_SetPage (v : Value) (es : List Ent) (p : Nat) (f : Int) (e0 : Ent) (hp : es[p]? = some e0) (hf : 0 ≤ f) (hl : es.length ≤ 32) (w : World) (ha : EntAt w v es) : Calls Try.prog 9 #[.agg #[v], .int .i64 p, .agg #[.int .i64 2, .int .i64 f]] w (SetT w (es.set p ⟨2, f⟩)) := by
  obtain ⟨ao, ca, rfl, -, -⟩ := ha.shape
  have HA := Lib.hid ha
  have HP := Lib.hid hp
  have hpl := getx_lt hp
  have hplI : (p : Int) < es.length := by omega
  have hp0 : (0 : Int) ≤ p := by omega
  have HL : Hid (es.length ≤ 1048576) := Lib.hid (by omega)
  have b1 : between (p : Int) 0 (es.length - 1) = true := between_iff.2 ⟨by omega, by omega⟩
  have b2 : between 2 0 2 = true := by decide
  have hf2 : ¬ f < 0 := by omega
  clear ha hp
  (have hall := all_nil w; go_enter Try.func9, Try.ntmps9)
  go_upto_region 4 with (first | (go_at_call 27; (refine (s_l06Copy _ es HL.out _ (HA.out.below (by exact bel))).mono ?_; rintro e w2 ⟨v9, rfl, hvo, hb⟩; (obtain ⟨gv, gc, hgv, hgB, hgl⟩ := Own.addr hvo (by have := getx_lt HP.out; omega)); subst hgv; (have HGB : Hid (w.heap.size + 1 + 1 + 1 ≤ gv ∧ gv < w2.heap.size) := Lib.hid ⟨by (try simp only [World.size_alloc] at hgB); omega, hgl⟩); (obtain ⟨-, -, e0c, d0c, e1c, d1c⟩ := OwnEnt.slot hvo HP.out); have OV := Lib.hid hvo; have HB1 := Lib.hid hb; have kwa_0_0 : w2.cell? ⟨w.heap.size, 0, none⟩ = some (.slice ao es.length ca) := kc hb; obtain ⟨kwa_1_0, kwa_1_1⟩ := kp2 hb (w.heap.size + 1) (.int .i64 2) (.int .i64 f); have kwa_2_0 : w2.cell? ⟨w.heap.size + 1 + 1, 0, none⟩ = some (.slice none 0 0) := kc hb; have fwa_2_0 : w2.frozen? ⟨w.heap.size + 1 + 1, 0, none⟩ = false := fc hb; have xwa_0 : w.heap.size < w2.heap.size := xc hb; have xwa_1 : w.heap.size + 1 < w2.heap.size := xc hb; have xwa_2 : w.heap.size + 1 + 1 < w2.heap.size := xc hb; have hzwa := hb.size; (try simp only [World.size_alloc, World.size_setCell, World.size_drew] at hzwa); clear hvo hgB hgl; (try dsimp only at e0c e1c); obtain ⟨wa, rfl⟩ : ∃ x, x = w2 := ⟨_, rfl⟩)) | (first | (go_at_call 28; (first | (refine (s_l01In _ _ _ true (by assumption) _).mono ?_) | (refine (s_l01In _ _ _ false (by assumption) _).mono ?_) | (refine (s_l01In _ _ _ _ rfl _).mono ?_)); rintro e w2 ⟨rfl, rfl⟩) | (with_reducible refine wp_region_grew2 (by kernel_rfl) (by kernel_rfl) ?_; intro w2 hb; (first | have hn := nw4 hb hall (by exact zo) | have hn := nw3 hb hall (by exact zo) | have hn := nw2 hb hall (by exact zo) | have hn := nw1 hb hall (by exact zo) | have hn := nw0 hb hall (by exact zo)); obtain ⟨hc, hf, hn, hc0⟩ := hn; replace hall := hn; clear hn; have hz := hb.size; (try simp only [World.size_alloc, World.size_setCell, World.size_drew] at hz); have hx := hall; (try simp only [allLt, and_true] at hx); obtain ⟨w1, rfl⟩ : ∃ x, x = w2 := ⟨_, rfl⟩; (repeat (go_big_quiet_step (first | (go_at_call 28; first | exact calls_same (s_l01In _ _ _ true (by assumption) _) | exact calls_same (s_l01In _ _ _ false (by assumption) _) | exact calls_same (s_l01In _ _ _ _ rfl _))))); refine wpQuiet_nil ?_; intro w2 hw'; have hb := grew_below hw'; clear hw'; (first | have hn := nw4 hb hall (by exact zo) | have hn := nw3 hb hall (by exact zo) | have hn := nw2 hb hall (by exact zo) | have hn := nw1 hb hall (by exact zo) | have hn := nw0 hb hall (by exact zo)); obtain ⟨hc, hf, hn, hc0⟩ := hn; replace hall := hn; clear hn; have hz := hb.size; (try simp only [World.size_alloc, World.size_setCell, World.size_drew] at hz); have hx := hall; (try simp only [allLt, and_true] at hx); obtain ⟨w1, rfl⟩ : ∃ x, x = w2 := ⟨_, rfl⟩)))
  skip
  have hg0 := HGB.out.1; have hg1 := HGB.out.2
  have n0 : ¬ gv = w.heap.size := by omega
  have n1 : ¬ gv = w.heap.size + 1 := by omega
  have n2 : ¬ gv = w.heap.size + 1 + 1 := by omega
  have n3 : ¬ w.heap.size + 1 + 1 = gv := by omega
  have n4 : ¬ gv = wa.heap.size := by omega
  have n5 : ¬ wa.heap.size = gv := by omega
  go_wp2_with fail
  refine bodyPost_ret (v := .tuple #[.agg #[.slice (some ⟨gv, 0, none⟩) es.length gc], .bool true]) (by simp [results, Try.results9, go_sem, *]) rfl ?_
  have hB1 := HB1.out
  refine ⟨_, rfl, ?_, by exact bel⟩
  have S := (OwnEnt.put (Own.mono (B' := w.heap.size + 1 + 1 + 1) OV.out (by exact zt)) rfl hpl 2 f).1
  exact (Own.mono (B' := w.heap.size + 1 + 1 + 1) (by repeat (first | (with_reducible exact S) | (with_reducible refine Own.offb ?_ (by omega) _) | (with_reducible refine Own.alloc ?_ _))) (Nat.le_refl _)).mono (by omega)

end Go.Proofs.Ytobechjagckdfaa
/-
  The frame of a law of one argument of bytes.
-/
set_option linter.unusedVariables false
set_option linter.unusedSimpArgs false
namespace Go.Proofs.Ytobechjagckdfaa
open Go.ChangeShapes Go.WideShapes Go.ChangeAt Go.RowKit
theorem addr_plainB (a : Addr) (w : World) (v : Value) (h : w.cell? (a.add 0) = some v) : ∃ b o, a = ⟨b, o, none⟩ ∧ b < w.heap.size := by
  have h0 : a.add 0 = a := rfl
  rw [h0] at h
  obtain ⟨b, o, s⟩ := a
  cases s with
  | none => exact ⟨b, o, rfl, World.block_lt_of_cell? w ⟨b, o, none⟩ h⟩
  | some s =>
    exfalso
    unfold World.cell? at h
    split at h
    · simp at h
    · simp at h
theorem addr_addB (b o i : Nat) : (⟨b, o, none⟩ : Addr).add i = ⟨b, o + i, none⟩ := by unfold Addr.add; split <;> simp_all
theorem bytes_open {H : Type} {enc : TypeId × Value → H} {P : Program} {W : World} {base : Nat} {t e : TypeId} {v : Value} {d : DataW H} {p : List MemPlace} (ht : P.underlying t = some (.slice e)) (he : P.underlying e = some (.int .u8)) (hC : P.cellsOf e = 1)
    (hok : Value.okWide P W .any base t v) (h : DataW.Trod enc P W 0 (fun _ => true) true t v d p) : ∃ n, BytesAt W.heap.size W v n := by
  obtain ⟨ao, len, cap, rfl⟩ := okWide_slice ht hok
  obtain ⟨fuel, hf⟩ := h
  rcases open_ints ht he hC hf with ⟨hcs, _⟩ | ⟨a, len', cap', zs, hcs, _, hl, hm, hz, _, hcell, hwf⟩
  · simp only [Value.cells, List.cons.injEq, Value.slice.injEq, and_true] at hcs
    obtain ⟨rfl, rfl, rfl⟩ := hcs
    exact ⟨0, none, 0, rfl, by omega, fun j hj => by omega⟩
  · simp only [Value.cells, List.cons.injEq, Value.slice.injEq, and_true] at hcs
    obtain ⟨rfl, rfl, rfl⟩ := hcs
    simp only [if_true] at hz
    refine ⟨len, some a, cap, rfl, by unfold maxLen at hm; omega, fun j hj => ?_⟩
    obtain ⟨b, o, rfl, hb⟩ := addr_plainB a W _ (hcell 0 (by omega))
    have hc := hcell j (by omega)
    rw [addr_addB] at hc
    refine ⟨b, o, _, rfl, hb, hc, ?_⟩
    have hmem : zs.getD j 0 ∈ zs := by
      rw [List.getD_eq_getElem?_getD, List.getElem?_eq_getElem (by omega), Option.getD_some]; exact List.getElem_mem _
    have := hwf _ hmem
    simpa [Lit.wf, IntKind.min, IntKind.max, IntKind.signed, IntKind.bits] using this
theorem l_big (v : Value) (n : Nat) (w : World) (hv : BytesAt w.heap.size w v n) : Calls Try.prog 5 #[v] w fun e w' => e = .returned (.bool (decide ((1048576 : Int) < n))) ∧ w = w' := by
  obtain ⟨ao, cap, rfl, hn, hb⟩ := hv
  clear hb
  (have hall := all_nil w; go_enter Try.func5, Try.ntmps5)
  go_wp2
  all_goals (go_ret; exact ⟨rfl, rfl⟩)
end Go.Proofs.Ytobechjagckdfaa
