/-
  Texts put together: SameJ, FrameB, VisLaw.
-/
import Derived.Test.YtkkebpcclklmcaaGB44
import Derived.Test.YtkkebpcclklmcaaGB32
import Derived.Test.YtkkebpcclklmcaaGB36
import Derived.Test.YtkkebpcclklmcaaGB30
import Derived.Test.YtkkebpcclklmcaaGB42
import Derived.Test.YtkkebpcclklmcaaGB40
/-
  Two jobs that hold the same; a box in a later world.
-/
set_option linter.unusedVariables false
set_option linter.unusedSimpArgs false
namespace Go.Proofs.Ytkkebpcclklmcaa
open Go.RowKit
theorem bx3 {W w2 : World} (hb : Below W.heap.size W w2) (b : Nat) (v0 v1 v2 : Value) (hlt : b < W.heap.size := by exact zt) (h0 : W.cell? ⟨b, 0, none⟩ = some v0 := by go_simp) (h1 : W.cell? ⟨b, 1, none⟩ = some v1 := by go_simp) (h2 : W.cell? ⟨b, 2, none⟩ = some v2 := by go_simp) (g0 : W.frozen? ⟨b, 0, none⟩ = false := by go_simp) (g1 : W.frozen? ⟨b, 1, none⟩ = false := by go_simp) (g2 : W.frozen? ⟨b, 2, none⟩ = false := by go_simp) : BoxAt w2 b [v0, v1, v2] := (BoxAt.snoc (BoxAt.snoc (BoxAt.snoc (BoxAt.nil (xc hb hlt)) (v := v0) (i := 0) rfl (kc hb hlt h0) (fc hb hlt g0)) (v := v1) (i := 1) rfl (kc hb hlt h1) (fc hb hlt g1)) (v := v2) (i := 2) rfl (kc hb hlt h2) (fc hb hlt g2))
theorem bx4 {W w2 : World} (hb : Below W.heap.size W w2) (b : Nat) (v0 v1 v2 v3 : Value) (hlt : b < W.heap.size := by exact zt) (h0 : W.cell? ⟨b, 0, none⟩ = some v0 := by go_simp) (h1 : W.cell? ⟨b, 1, none⟩ = some v1 := by go_simp) (h2 : W.cell? ⟨b, 2, none⟩ = some v2 := by go_simp) (h3 : W.cell? ⟨b, 3, none⟩ = some v3 := by go_simp) (g0 : W.frozen? ⟨b, 0, none⟩ = false := by go_simp) (g1 : W.frozen? ⟨b, 1, none⟩ = false := by go_simp) (g2 : W.frozen? ⟨b, 2, none⟩ = false := by go_simp) (g3 : W.frozen? ⟨b, 3, none⟩ = false := by go_simp) : BoxAt w2 b [v0, v1, v2, v3] := (BoxAt.snoc (BoxAt.snoc (BoxAt.snoc (BoxAt.snoc (BoxAt.nil (xc hb hlt)) (v := v0) (i := 0) rfl (kc hb hlt h0) (fc hb hlt g0)) (v := v1) (i := 1) rfl (kc hb hlt h1) (fc hb hlt g1)) (v := v2) (i := 2) rfl (kc hb hlt h2) (fc hb hlt g2)) (v := v3) (i := 3) rfl (kc hb hlt h3) (fc hb hlt g3))
theorem bx5 {W w2 : World} (hb : Below W.heap.size W w2) (b : Nat) (v0 v1 v2 v3 v4 : Value) (hlt : b < W.heap.size := by exact zt) (h0 : W.cell? ⟨b, 0, none⟩ = some v0 := by go_simp) (h1 : W.cell? ⟨b, 1, none⟩ = some v1 := by go_simp) (h2 : W.cell? ⟨b, 2, none⟩ = some v2 := by go_simp) (h3 : W.cell? ⟨b, 3, none⟩ = some v3 := by go_simp) (h4 : W.cell? ⟨b, 4, none⟩ = some v4 := by go_simp) (g0 : W.frozen? ⟨b, 0, none⟩ = false := by go_simp) (g1 : W.frozen? ⟨b, 1, none⟩ = false := by go_simp) (g2 : W.frozen? ⟨b, 2, none⟩ = false := by go_simp) (g3 : W.frozen? ⟨b, 3, none⟩ = false := by go_simp) (g4 : W.frozen? ⟨b, 4, none⟩ = false := by go_simp) : BoxAt w2 b [v0, v1, v2, v3, v4] := (BoxAt.snoc (BoxAt.snoc (BoxAt.snoc (BoxAt.snoc (BoxAt.snoc (BoxAt.nil (xc hb hlt)) (v := v0) (i := 0) rfl (kc hb hlt h0) (fc hb hlt g0)) (v := v1) (i := 1) rfl (kc hb hlt h1) (fc hb hlt g1)) (v := v2) (i := 2) rfl (kc hb hlt h2) (fc hb hlt g2)) (v := v3) (i := 3) rfl (kc hb hlt h3) (fc hb hlt g3)) (v := v4) (i := 4) rfl (kc hb hlt h4) (fc hb hlt g4))
theorem lstep {w W w2 : World} (hb : Below W.heap.size W w2) (hup : Below w.heap.size w W := by exact bel) : Below w.heap.size w w2 := hup.trans (hb.mono hup.size)
theorem l_sameJob (kp mv : Int) (x y : Value) (cs : List Int) (ph nx : Int) (w : World) (ha : IntsAt w x cs) (hb : IntsAt w y cs) : Calls Try.prog 25 #[.agg #[.int .i64 kp, .int .i64 mv, x, .int .i64 ph, .int .i64 nx], .agg #[.int .i64 kp, .int .i64 mv, y, .int .i64 ph, .int .i64 nx]] w fun e w' => e = .returned (.bool true) ∧ Below w.heap.size w w' := by
  have HA := Lib.hid ha; have HB := Lib.hid hb
  have h1 : (kp == kp) = true := beq_self_eq_true _
  have h2 : (mv == mv) = true := beq_self_eq_true _
  have h3 : (ph == ph) = true := beq_self_eq_true _
  have h4 : (nx == nx) = true := beq_self_eq_true _
  clear ha hb
  (have hall := all_nil w; go_enter Try.func25, Try.ntmps25)
  go_wp2_with (first | (go_at_call 22; (refine (l_sameInts _ _ cs _ (HA.out.below (by exact bel)) (HB.out.below (by exact bel))).mono ?_; rintro e w2 ⟨rfl, hb⟩; have HB1 := Lib.hid hb; obtain ⟨kwa_0_0, kwa_0_1, kwa_0_2, kwa_0_3, kwa_0_4⟩ := kp5 hb (w.heap.size) (.int .i64 kp) (.int .i64 mv) (x) (.int .i64 ph) (.int .i64 nx); obtain ⟨kwa_1_0, kwa_1_1, kwa_1_2, kwa_1_3, kwa_1_4⟩ := kp5 hb (w.heap.size + 1) (.int .i64 kp) (.int .i64 mv) (y) (.int .i64 ph) (.int .i64 nx); have xwa_0 : w.heap.size < w2.heap.size := xc hb; have xwa_1 : w.heap.size + 1 < w2.heap.size := xc hb; have hzwa := hb.size; (try simp only [World.size_alloc, World.size_setCell, World.size_drew] at hzwa); obtain ⟨wa, rfl⟩ : ∃ x, x = w2 := ⟨_, rfl⟩)) | (with_reducible refine wp_region_grew2 (by kernel_rfl) (by kernel_rfl) ?_; intro w2 hb; (first | have hn := nw4 hb hall (by exact zo) | have hn := nw3 hb hall (by exact zo) | have hn := nw2 hb hall (by exact zo) | have hn := nw1 hb hall (by exact zo) | have hn := nw0 hb hall (by exact zo)); obtain ⟨hc, hf, hn, hc0⟩ := hn; replace hall := hn; clear hn; have hz := hb.size; (try simp only [World.size_alloc, World.size_setCell, World.size_drew] at hz); have hx := hall; (try simp only [allLt, and_true] at hx); obtain ⟨w1, rfl⟩ : ∃ x, x = w2 := ⟨_, rfl⟩; (repeat (go_big_quiet_step (fail))); refine wpQuiet_nil ?_; intro w2 hw'; have hb := grew_below hw'; clear hw'; (first | have hn := nw4 hb hall (by exact zo) | have hn := nw3 hb hall (by exact zo) | have hn := nw2 hb hall (by exact zo) | have hn := nw1 hb hall (by exact zo) | have hn := nw0 hb hall (by exact zo)); obtain ⟨hc, hf, hn, hc0⟩ := hn; replace hall := hn; clear hn; have hz := hb.size; (try simp only [World.size_alloc, World.size_setCell, World.size_drew] at hz); have hx := hall; (try simp only [allLt, and_true] at hx); obtain ⟨w1, rfl⟩ : ∃ x, x = w2 := ⟨_, rfl⟩))
  have hB1 := HB1.out
  go_ret
  exact ⟨by first | rfl | simp_all, by exact bel⟩

end Go.Proofs.Ytkkebpcclklmcaa
/-
  The frame of a law of one argument of bytes.
-/
set_option linter.unusedVariables false
set_option linter.unusedSimpArgs false
namespace Go.Proofs.Ytkkebpcclklmcaa
open Go.ChangeShapes Go.WideShapes Go.ChangeAt Go.RowKit
theorem addr_plainB (a : Addr) (w : World) (v : Value) (h : w.cell? (a.add 0) = some v) : ∃ b o, a = ⟨b, o, none⟩ ∧ b < w.heap.size := by
  have h0 : a.add 0 = a := rfl
  rw [h0] at h
  obtain ⟨b, o, s⟩ := a
  cases s with
  | none => exact ⟨b, o, rfl, World.block_lt_of_cell? w ⟨b, o, none⟩ h⟩
  | some s =>
    exfalso
    unfold World.cell? at h
    split at h
    · simp at h
    · simp at h
theorem addr_addB (b o i : Nat) : (⟨b, o, none⟩ : Addr).add i = ⟨b, o + i, none⟩ := by unfold Addr.add; split <;> simp_all
theorem bytes_open {H : Type} {enc : TypeId × Value → H} {P : Program} {W : World} {base : Nat} {t e : TypeId} {v : Value} {d : DataW H} {p : List MemPlace} (ht : P.underlying t = some (.slice e)) (he : P.underlying e = some (.int .u8)) (hC : P.cellsOf e = 1)
    (hok : Value.okWide P W .any base t v) (h : DataW.Trod enc P W 0 (fun _ => true) true t v d p) : ∃ n, BytesAt W.heap.size W v n := by
  obtain ⟨ao, len, cap, rfl⟩ := okWide_slice ht hok
  obtain ⟨fuel, hf⟩ := h
  rcases open_ints ht he hC hf with ⟨hcs, _⟩ | ⟨a, len', cap', zs, hcs, _, hl, hm, hz, _, hcell, hwf⟩
  · simp only [Value.cells, List.cons.injEq, Value.slice.injEq, and_true] at hcs
    obtain ⟨rfl, rfl, rfl⟩ := hcs
    exact ⟨0, none, 0, rfl, by omega, fun j hj => by omega⟩
  · simp only [Value.cells, List.cons.injEq, Value.slice.injEq, and_true] at hcs
    obtain ⟨rfl, rfl, rfl⟩ := hcs
    simp only [if_true] at hz
    refine ⟨len, some a, cap, rfl, by unfold maxLen at hm; omega, fun j hj => ?_⟩
    obtain ⟨b, o, rfl, hb⟩ := addr_plainB a W _ (hcell 0 (by omega))
    have hc := hcell j (by omega)
    rw [addr_addB] at hc
    refine ⟨b, o, _, rfl, hb, hc, ?_⟩
    have hmem : zs.getD j 0 ∈ zs := by
      rw [List.getD_eq_getElem?_getD, List.getElem?_eq_getElem (by omega), Option.getD_some]; exact List.getElem_mem _
    have := hwf _ hmem
    simpa [Lit.wf, IntKind.min, IntKind.max, IntKind.signed, IntKind.bits] using this
theorem l_big (v : Value) (n : Nat) (w : World) (hv : BytesAt w.heap.size w v n) : Calls Try.prog 8 #[v] w fun e w' => e = .returned (.bool (decide ((1048576 : Int) < n))) ∧ w = w' := by
  obtain ⟨ao, cap, rfl, hn, hb⟩ := hv
  clear hb
  (have hall := all_nil w; go_enter Try.func8, Try.ntmps8)
  go_wp2
  all_goals (go_ret; exact ⟨rfl, rfl⟩)
end Go.Proofs.Ytkkebpcclklmcaa
/-
  What a run of a job shows, whether the pages are mapped or not. Plain laws.
-/
set_option linter.unusedVariables false
set_option linter.unusedSimpArgs false
namespace Go.Proofs.Ytkkebpcclklmcaa
open Go.RowKit
theorem run_unmapped {K : Ker} {kp mv : Nat} {cs : List Int} (h0 : (pageEntry K.m.ents kp).m = 0 ∨ (pageEntry K.m.ents mv).m = 0) (most : Int) : runTo kp mv cs most ⟨K, 0, 0⟩ = ⟨K, 0, 0⟩ := by
  unfold runTo
  split
  · refine runJ_not _ ?_
    unfold jobMay mappedB
    rcases h0 with h | h <;> simp [h]
  · rfl
theorem dinv_kok {K : Ker} {kp mv : Nat} {cs : List Int} (h : DInv K kp mv cs) : kernelOk K = true :=
  (kernelOk_iff _).2 ⟨fun x hx => (h.ref x hx).1, ⟨h.calls.1, by have := h.calls.2; omega⟩, h.rl, h.ok⟩
theorem dinv_ref {K : Ker} {kp mv : Nat} {cs : List Int} (h : DInv K kp mv cs) : ∀ y ∈ K.refuse, y < 12 := fun y hy => (h.ref y hy).2
/-- What is to be seen behind a run. -/
structure Vis (K : Ker) (kp mv : Nat) (cs : List Int) (R : JS) : Prop where
  load : ∀ i : Nat, i < 16 → loadV R.k.m (16 * (livePg kp mv cs i : Int) + i) = loadV K.m (16 * (livePg kp mv cs i : Int) + i) ∧ loadF R.k.m (16 * (livePg kp mv cs i : Int) + i) = loadF K.m (16 * (livePg kp mv cs i : Int) + i)
  job : jobOk kp mv cs R.ph R.nx = true
  kok : kernelOk R.k = true
theorem jobOk_of {kp mv : Int} {cs : List Int} {ph nx : Int} (h : planOk kp mv cs = true) (hp : 0 ≤ ph ∧ ph ≤ 5) (hn : 0 ≤ nx ∧ nx ≤ (cs.length : Int)) : jobOk kp mv cs ph nx = true := by
  unfold jobOk
  rw [h, between_iff.2 hp, between_iff.2 hn]; rfl
theorem vis_run {K : Ker} {kp mv : Nat} {cs : List Int} (h : DInv K kp mv cs) (m : Nat) (hm : m ≤ 200) : Vis K kp mv cs (runTo kp mv cs (m : Int) ⟨K, 0, 0⟩) := by
  by_cases h0 : (pageEntry K.m.ents kp).m = 0 ∨ (pageEntry K.m.ents mv).m = 0
  · rw [run_unmapped h0]
    exact ⟨fun i hi => ⟨rfl, rfl⟩, jobOk_of h.plan (by dsimp only; omega) (by dsimp only; omega), dinv_kok h⟩
  · have h1 : (pageEntry K.m.ents kp).m ≠ 0 := fun e => h0 (.inl e)
    have h2 : (pageEntry K.m.ents mv).m ≠ 0 := fun e => h0 (.inr e)
    obtain ⟨fa, fb, ra, rb, P⟩ := dinv_pair h h1 h2
    have hc := h.calls
    obtain ⟨n, calls, ⟨e1, e2, e3, e4, e5, e6, e7, e8, e9⟩, g2, g3, g4⟩ := jv_run P h.c16 (dinv_ref h) m ⟨K, 0, 0⟩ 0 K.calls (jv_start P hc.1) (by omega)
    have hr : runTo kp mv cs (m : Int) ⟨K, 0, 0⟩ = runJ kp mv cs m ⟨K, 0, 0⟩ := by
      unfold runTo
      rw [between_iff.2 ⟨by omega, by omega⟩, if_pos rfl, Int.toNat_natCast]
    rw [hr]
    generalize runJ kp mv cs m ⟨K, 0, 0⟩ = R at *
    obtain ⟨k, ph, nx⟩ := R
    dsimp only at *
    subst e1 e2
    refine ⟨fun i hi => ?_, jobOk_of h.plan e4 (by dsimp only; omega), view_kok P ph n calls ⟨e9, by omega⟩⟩
    obtain ⟨a1, a2⟩ := view_load P ph n calls i hi
    obtain ⟨b1, b2⟩ := base_load P i hi
    exact ⟨a1.trans b1.symm, a2.trans b2.symm⟩
/-- The page behind n cells of the plan. -/
def pgTo (kp mv : Nat) (cs : List Int) (i n : Nat) : Nat := if (i : Int) ∈ cs.take n then mv else kp
theorem pgTo_zero (kp mv : Nat) (cs : List Int) (i : Nat) : pgTo kp mv cs i 0 = kp := by unfold pgTo; simp
theorem pgTo_all (kp mv : Nat) (cs : List Int) (i : Nat) : pgTo kp mv cs i cs.length = livePg kp mv cs i := by unfold pgTo livePg; rw [List.take_length]
theorem pgTo_yes {kp mv : Nat} {cs : List Int} {i n : Nat} (h : cs[n]? = some (i : Int)) : pgTo kp mv cs i (n + 1) = mv := by
  unfold pgTo
  rw [if_pos]
  rw [List.take_add_one, h]
  simp
theorem pgTo_no {kp mv : Nat} {cs : List Int} {i n : Nat} {c : Int} (h : cs[n]? = some c) (hne : c ≠ (i : Int)) : pgTo kp mv cs i (n + 1) = pgTo kp mv cs i n := by
  unfold pgTo
  rw [List.take_add_one, h]
  have : ((i : Int) ∈ cs.take n ++ (some c).toList) ↔ (i : Int) ∈ cs.take n := by
    simp only [Option.toList_some, List.mem_append, List.mem_singleton]
    exact ⟨fun x => x.resolve_right (fun e => hne e.symm), .inl⟩
  simp only [this]
theorem pgTo_lt {kp mv : Nat} {cs : List Int} {i n : Nat} (h1 : kp < 4) (h2 : mv < 4) : pgTo kp mv cs i n < 4 := by unfold pgTo; split <;> assumption
theorem pg_wraps {p i : Nat} (hp : p < 4) (hi : i < 16) : wrap64 (16 * (p : Int)) = 16 * (p : Int) ∧ IntKind.i64.wrap (16 * (p : Int)) = 16 * (p : Int) ∧ wrap64 (16 * (p : Int) + (i : Int)) = 16 * (p : Int) + (i : Int) ∧ IntKind.i64.wrap (16 * (p : Int) + (i : Int)) = 16 * (p : Int) + (i : Int) :=
  ⟨IntWalk.wrap64_in _ (by omega), IntWalk.i64_in _ (by omega), IntWalk.wrap64_in _ (by omega), IntWalk.i64_in _ (by omega)⟩
theorem nat_next {k : Nat} (h : k ≤ 99999) : (Value.int .i64 (wrap64 ((k : Int) + 1))) = .int .i64 ((k + 1 : Nat) : Int) := by rw [IntWalk.wrap64_in _ (by omega)]; rfl
theorem nat_meas {k m : Nat} (hm : m ≤ 99999) (h : k < m) : m - (intOf (.int .i64 (wrap64 ((k : Int) + 1)))).toNat < m - (intOf (.int .i64 (k : Int))).toNat := by rw [IntWalk.wrap64_in _ (by omega)]; simp [intOf]; omega
end Go.Proofs.Ytkkebpcclklmcaa
