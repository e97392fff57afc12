/- 'laws.FnExactInterleave' returns true, whatever the arguments: no condition. -/
import Derived.Test.YtmblkllijjlkoaaGreatGIL7
import Derived.Test.YtmblkllijjlkoaaGreatGIL8
import Derived.Test.YtmblkllijjlkoaaGreatGB31
import Derived.Test.YtmblkllijjlkoaaGreatGB16
import Derived.Test.YtmblkllijjlkoaaGreatGB15
import Derived.Test.YtmblkllijjlkoaaGreatGB43
import Derived.Test.YtmblkllijjlkoaaGreatGIL9
import Derived.Deep.DeepCutAuto
set_option linter.unusedVariables false
set_option linter.unusedSimpArgs false
namespace Go.Proofs.YtmblkllijjlkoaaGreat
open Go.ChangeShapes Go.WideShapes Go.ChangeAt Go.RowKit Go.Deep
section
variable {H : Type} {enc : TypeId × Value → H} {P : Program} {W : World} {base : Nat} {t e ti tb : TypeId} {v : Value} {d : DataW H} {p : List MemPlace}
theorem argWrAd {f0 f1 f2 f3 : Field} (ht : P.underlying t = some (.slice e)) (he : P.underlying e = some (.struct #[f0, f1, f2, f3])) (hone : oneCellFields P #[f0, f1, f2, f3] = true) (hC : P.cellsOf e = 4) (hi : P.underlying ti = some (.int .i64)) (hbo : P.underlying tb = some .bool)
    (h0 : f0.type = ti) (h1 : f1.type = ti) (h2 : f2.type = tb) (h3 : f3.type = ti)
    (hok : Value.okWide P W .any base t v) (h : DataW.Trod enc P W 0 (fun _ => true) true t v d p) : ∃ xs, WrAt W v xs ∧ AdOk xs := by
  obtain ⟨ao, n, cap, rfl, hl, hm, hc⟩ := structs_open ht he hone hC (by simp) hok h
  obtain ⟨xs, hlen, hx⟩ := list_of' (fun i (s : Wr) => (-9223372036854775808 ≤ s.ad ∧ s.ad ≤ 9223372036854775807) ∧ ∃ g o, ao = some ⟨g, o, none⟩ ∧ g < W.heap.size ∧ ∀ j u, (fWr s)[j]? = some u → W.cell? ⟨g, o + i * 4 + j, none⟩ = some u) n (fun i hi' => by
    obtain ⟨b, o, rfl, hb, hf⟩ := hc i hi'
    obtain ⟨u0, m0, y0, c0, t0⟩ := hf 0 f0 rfl
    rw [h0] at t0
    obtain ⟨x0, e0, -, q0⟩ := DataW.trod_int hi t0
    simp only [List.cons.injEq, and_true] at e0
    subst e0
    obtain ⟨u1, m1, y1, c1, t1⟩ := hf 1 f1 rfl
    rw [h1] at t1
    obtain ⟨x1, e1, _⟩ := DataW.trod_int hi t1
    simp only [List.cons.injEq, and_true] at e1
    subst e1
    obtain ⟨u2, m2, y2, c2, t2⟩ := hf 2 f2 rfl
    rw [h2] at t2
    obtain ⟨x2, e2, _⟩ := DataW.trod_bool hbo t2
    simp only [List.cons.injEq, and_true] at e2
    subst e2
    obtain ⟨u3, m3, y3, c3, t3⟩ := hf 3 f3 rfl
    rw [h3] at t3
    obtain ⟨x3, e3, _⟩ := DataW.trod_int hi t3
    simp only [List.cons.injEq, and_true] at e3
    subst e3
    refine ⟨⟨x0, x1, x2, x3⟩, by simpa [Lit.wf, IntKind.min, IntKind.max, IntKind.signed, IntKind.bits] using q0, b, o, rfl, hb, fun j u hj => ?_⟩
    simp only [List.size_toArray, List.length_cons, List.length_nil, Nat.zero_add, Nat.reduceAdd, ← Nat.add_assoc] at c0 c1 c2 c3
    match j, hj with
      | 0, hj => simp [fWr] at hj; subst hj; simpa using c0
      | 1, hj => simp [fWr] at hj; subst hj; simpa using c1
      | 2, hj => simp [fWr] at hj; subst hj; simpa using c2
      | 3, hj => simp [fWr] at hj; subst hj; simpa using c3
      | j + 4, hj => simp [fWr] at hj)
  subst hlen
  exact ⟨xs, ⟨ao, cap, rfl, hl, hm, fun i x h => (hx i x h).2⟩, fun i x h => (hx i x h).1⟩
end

theorem cntK_le {K : Ker} (h : szK K ≤ 1048576) : cntK K ≤ 2097152 := by
  unfold szK szM szF at h
  unfold cntK cntM cntF
  omega
theorem sz_interl (kp mv : Int) (cs order : List Int) (t : IS) : szK (interl kp mv cs order t).s.k = szK t.s.k := by
  unfold interl
  split
  · exact sz_ilTo ..
  · rfl
theorem len_interl (kp mv : Int) (cs order : List Int) (t : IS) : (interl kp mv cs order t).ws.length = t.ws.length := by
  unfold interl
  split
  · exact ilTo_len ..
  · rfl
set_option maxRecDepth 100000 in
set_option maxHeartbeats 12800000 in
theorem w_FnExactInterleave (x : KV) (K : Ker) (kp mv : Int) (c : Value) (cs : List Int) (ph nx : Int) (vx : Value) (xs : List Wr) (vr : Value) (order : List Int) (had : AdOk xs) (w : World) (ha0 : KAt w x K) (ha1 : IntsAt w c cs) (ha2 : WrAt w vx xs) (ha3 : IntsAt w vr order) : Calls Tryz.prog 6 #[x.val K.calls, .agg #[.int .i64 kp, .int .i64 mv, c, .int .i64 ph, .int .i64 nx], vx, vr] w fun e w' => e = .returned (.bool true) ∧ Below w.heap.size w w' := by
  simp only [KV.val]; skip
  have HAw0 := Lib.hid ha0; have HA0 := Lib.hid ha0
  have HAw1 := Lib.hid ha1; have HA1 := Lib.hid ha1
  have HAw2 := Lib.hid ha2; have HA2 := Lib.hid ha2
  have HAw3 := Lib.hid ha3; have HA3 := Lib.hid ha3
  obtain ⟨ao2, ca2, hv2, hl2, hm2⟩ := ha2.shape
  have hlm2 := Nat.le_trans hl2 hm2; clear hl2 hm2; subst hv2
  have hl92 : xs.length ≤ 9223372036854775807 := by unfold maxLen at hlm2; omega
  obtain ⟨ao3, ca3, hv3, hl3, hm3⟩ := ha3.shape
  have hlm3 := Nat.le_trans hl3 hm3; clear hl3 hm3; subst hv3
  have hl93 : order.length ≤ 9223372036854775807 := by unfold maxLen at hlm3; omega
  have HT := Lib.hid (Below.refl w.heap.size w)
  clear ha0 ha1 ha2 ha3
  by_cases hI3 : order.length ≤ 1048576
  rotate_left
  · (have hall := all_nil w; go_enter Tryz.func6, Tryz.ntmps6)
    go_wp2_with fail
    go_ret
    exact ⟨rfl, by exact bel⟩
  have hJ3 : decide ((1048576 : Int) < (order.length : Nat)) = false := by simp; omega
  by_cases hS0 : szK K ≤ 1048576
  rotate_left
  · (have hall := all_nil w; go_enter Tryz.func6, Tryz.ntmps6)
    go_wp2_with (first | (go_at_call 8; (refine (l_szKernel x K _ (by omega) _ (HA0.out.below (by exact bel))).mono ?_; rintro e w2 ⟨rfl, hb⟩; rw [szRes_neg (by omega)])))
    go_ret
    exact ⟨rfl, by exact bel⟩
  by_cases hS1 : szK K + cs.length ≤ 1048576
  rotate_left
  · (have hall := all_nil w; go_enter Tryz.func6, Tryz.ntmps6)
    go_wp2_with (first | (go_at_call 8; (refine (l_szKernel x K _ (by omega) _ (HA0.out.below (by exact bel))).mono ?_; rintro e w2 ⟨rfl, hb⟩; rw [szRes_pos (by omega)]; (first | have hn := nw4 hb hall (by exact zo) | have hn := nw3 hb hall (by exact zo) | have hn := nw2 hb hall (by exact zo) | have hn := nw1 hb hall (by exact zo) | have hn := nw0 hb hall (by exact zo)); obtain ⟨hc, hf, hn, hc0⟩ := hn; replace hall := hn; clear hn; have hz := hb.size; (try simp only [World.size_alloc, World.size_setCell, World.size_drew] at hz); have hx := hall; (try simp only [allLt, and_true] at hx); obtain ⟨w1, rfl⟩ : ∃ x, x = w2 := ⟨_, rfl⟩)) | (go_at_call 25; (refine (l_szJob kp mv c cs ph nx _ (by omega) _ (HA1.out.below (by exact bel))).mono ?_; rintro e w2 ⟨rfl, hb⟩; rw [szRes_neg (by omega)])))
    go_ret
    exact ⟨rfl, by exact bel⟩
  by_cases hS2 : szK K + cs.length + xs.length ≤ 1048576
  rotate_left
  · (have hall := all_nil w; go_enter Tryz.func6, Tryz.ntmps6)
    go_wp2_with (first | (go_at_call 8; (refine (l_szKernel x K _ (by omega) _ (HA0.out.below (by exact bel))).mono ?_; rintro e w2 ⟨rfl, hb⟩; rw [szRes_pos (by omega)]; (first | have hn := nw4 hb hall (by exact zo) | have hn := nw3 hb hall (by exact zo) | have hn := nw2 hb hall (by exact zo) | have hn := nw1 hb hall (by exact zo) | have hn := nw0 hb hall (by exact zo)); obtain ⟨hc, hf, hn, hc0⟩ := hn; replace hall := hn; clear hn; have hz := hb.size; (try simp only [World.size_alloc, World.size_setCell, World.size_drew] at hz); have hx := hall; (try simp only [allLt, and_true] at hx); obtain ⟨w1, rfl⟩ : ∃ x, x = w2 := ⟨_, rfl⟩)) | (go_at_call 25; (refine (l_szJob kp mv c cs ph nx _ (by omega) _ (HA1.out.below (by exact bel))).mono ?_; rintro e w2 ⟨rfl, hb⟩; rw [szRes_pos (by omega)]; (first | have hn := nw4 hb hall (by exact zo) | have hn := nw3 hb hall (by exact zo) | have hn := nw2 hb hall (by exact zo) | have hn := nw1 hb hall (by exact zo) | have hn := nw0 hb hall (by exact zo)); obtain ⟨hc, hf, hn, hc0⟩ := hn; replace hall := hn; clear hn; have hz := hb.size; (try simp only [World.size_alloc, World.size_setCell, World.size_drew] at hz); have hx := hall; (try simp only [allLt, and_true] at hx); obtain ⟨w1, rfl⟩ : ∃ x, x = w2 := ⟨_, rfl⟩)) | (go_at_call 34; (refine (szWriterS' _ _ _ (by omega) _ (by omega) _).mono ?_; rintro e w2 ⟨rfl, hb⟩; rw [szRes_neg (by omega)])))
    go_ret
    exact ⟨rfl, by exact bel⟩
  have hcn : cntK (interl kp mv cs order ⟨⟨K, ph, nx⟩, xs⟩).s.k ≤ 4194304 := by
    have h := cntK_sz (K := (interl kp mv cs order ⟨⟨K, ph, nx⟩, xs⟩).s.k) (by rw [sz_interl]; exact hS0)
    omega
  have hcK := cntK_le hS0
  have hcl : cs.length ≤ 1048576 := by omega
  have hxl : xs.length ≤ 1048576 := by omega
  have hrl : (interl kp mv cs order ⟨⟨K, ph, nx⟩, xs⟩).ws.length ≤ 1048576 := by rw [len_interl]; exact hxl
  have HI := Lib.hid (fun y u z r w (h : KAt w y K) (h2 : IntsAt w u cs) (h3 : WrAt w z xs) (h4 : IntsAt w r order) => i_Interleave y K kp mv u cs ph nx z xs r order hS0 hcl hxl had w h h2 h3 h4)
  have HS := Lib.hid (fun y u z r w (h : KAt w y K) (h2 : IntsAt w u cs) (h3 : WrAt w z xs) (h4 : IntsAt w r order) => s_Interleave y K kp mv u cs ph nx z xs r order hS0 hcl hxl had w h h2 h3 h4)
  generalize (interl kp mv cs order ⟨⟨K, ph, nx⟩, xs⟩) = R2 at *
  obtain ⟨⟨K2, ph2, nx2⟩, rs⟩ := R2
  dsimp only at HI HS hcn hrl
  (have hall := all_nil w; go_enter Tryz.func6, Tryz.ntmps6)
  go_wp2_with fail
  replace HA0 := Lib.hid (HA0.out.below ((Below.refl _ w).alloc (Nat.le_refl _) (.cells #[x.m.f.c, x.m.f.u, x.m.e, .int .i64 K.calls, x.r] 33)))
  replace HA1 := Lib.hid (HA1.out.below ((Below.refl _ w).alloc (Nat.le_refl _) (.cells #[x.m.f.c, x.m.f.u, x.m.e, .int .i64 K.calls, x.r] 33)))
  replace HA2 := Lib.hid (HA2.out.below ((Below.refl _ w).alloc (Nat.le_refl _) (.cells #[x.m.f.c, x.m.f.u, x.m.e, .int .i64 K.calls, x.r] 33)))
  replace HA3 := Lib.hid (HA3.out.below ((Below.refl _ w).alloc (Nat.le_refl _) (.cells #[x.m.f.c, x.m.f.u, x.m.e, .int .i64 K.calls, x.r] 33)))
  replace HT := Lib.hid (HT.out.trans (((Below.refl _ w).alloc (Nat.le_refl _) (.cells #[x.m.f.c, x.m.f.u, x.m.e, .int .i64 K.calls, x.r] 33)).mono HT.out.size))
  have BP0 : Hid (BoxAt (w.alloc (.cells #[x.m.f.c, x.m.f.u, x.m.e, .int .i64 K.calls, x.r] 33)) (w.heap.size) [x.m.f.c, x.m.f.u, x.m.e, .int .i64 K.calls, x.r]) := (BoxAt.snoc (BoxAt.snoc (BoxAt.snoc (BoxAt.snoc (BoxAt.snoc (BoxAt.nil (w := w.alloc (.cells #[x.m.f.c, x.m.f.u, x.m.e, .int .i64 K.calls, x.r] 33)) (g := w.heap.size) (by go_simp)) (v := x.m.f.c) (i := 0) rfl (by go_simp) (by go_simp)) (v := x.m.f.u) (i := 1) rfl (by go_simp) (by go_simp)) (v := x.m.e) (i := 2) rfl (by go_simp) (by go_simp)) (v := .int .i64 K.calls) (i := 3) rfl (by go_simp) (by go_simp)) (v := x.r) (i := 4) rfl (by go_simp) (by go_simp))
  replace BP0 := Lib.hid (BP0.out.below ((Below.refl _ (w.alloc (.cells #[x.m.f.c, x.m.f.u, x.m.e, .int .i64 K.calls, x.r] 33))).alloc (Nat.le_refl _) (.cells #[.int .i64 kp, .int .i64 mv, c, .int .i64 ph, .int .i64 nx] 64)))
  replace HA0 := Lib.hid (HA0.out.below ((Below.refl _ (w.alloc (.cells #[x.m.f.c, x.m.f.u, x.m.e, .int .i64 K.calls, x.r] 33))).alloc (Nat.le_refl _) (.cells #[.int .i64 kp, .int .i64 mv, c, .int .i64 ph, .int .i64 nx] 64)))
  replace HA1 := Lib.hid (HA1.out.below ((Below.refl _ (w.alloc (.cells #[x.m.f.c, x.m.f.u, x.m.e, .int .i64 K.calls, x.r] 33))).alloc (Nat.le_refl _) (.cells #[.int .i64 kp, .int .i64 mv, c, .int .i64 ph, .int .i64 nx] 64)))
  replace HA2 := Lib.hid (HA2.out.below ((Below.refl _ (w.alloc (.cells #[x.m.f.c, x.m.f.u, x.m.e, .int .i64 K.calls, x.r] 33))).alloc (Nat.le_refl _) (.cells #[.int .i64 kp, .int .i64 mv, c, .int .i64 ph, .int .i64 nx] 64)))
  replace HA3 := Lib.hid (HA3.out.below ((Below.refl _ (w.alloc (.cells #[x.m.f.c, x.m.f.u, x.m.e, .int .i64 K.calls, x.r] 33))).alloc (Nat.le_refl _) (.cells #[.int .i64 kp, .int .i64 mv, c, .int .i64 ph, .int .i64 nx] 64)))
  replace HT := Lib.hid (HT.out.trans (((Below.refl _ (w.alloc (.cells #[x.m.f.c, x.m.f.u, x.m.e, .int .i64 K.calls, x.r] 33))).alloc (Nat.le_refl _) (.cells #[.int .i64 kp, .int .i64 mv, c, .int .i64 ph, .int .i64 nx] 64)).mono HT.out.size))
  have BP1 : Hid (BoxAt ((w.alloc (.cells #[x.m.f.c, x.m.f.u, x.m.e, .int .i64 K.calls, x.r] 33)).alloc (.cells #[.int .i64 kp, .int .i64 mv, c, .int .i64 ph, .int .i64 nx] 64)) (w.heap.size + 1) [.int .i64 kp, .int .i64 mv, c, .int .i64 ph, .int .i64 nx]) := (BoxAt.snoc (BoxAt.snoc (BoxAt.snoc (BoxAt.snoc (BoxAt.snoc (BoxAt.nil (w := (w.alloc (.cells #[x.m.f.c, x.m.f.u, x.m.e, .int .i64 K.calls, x.r] 33)).alloc (.cells #[.int .i64 kp, .int .i64 mv, c, .int .i64 ph, .int .i64 nx] 64)) (g := w.heap.size + 1) (by go_simp)) (v := .int .i64 kp) (i := 0) rfl (by go_simp) (by go_simp)) (v := .int .i64 mv) (i := 1) rfl (by go_simp) (by go_simp)) (v := c) (i := 2) rfl (by go_simp) (by go_simp)) (v := .int .i64 ph) (i := 3) rfl (by go_simp) (by go_simp)) (v := .int .i64 nx) (i := 4) rfl (by go_simp) (by go_simp))
  have cP00 := (BP0.out.cells 0 _ rfl).1; have fP00 := (BP0.out.cells 0 _ rfl).2
  have cP01 := (BP0.out.cells 1 _ rfl).1; have fP01 := (BP0.out.cells 1 _ rfl).2
  have cP02 := (BP0.out.cells 2 _ rfl).1; have fP02 := (BP0.out.cells 2 _ rfl).2
  have cP03 := (BP0.out.cells 3 _ rfl).1; have fP03 := (BP0.out.cells 3 _ rfl).2
  have cP04 := (BP0.out.cells 4 _ rfl).1; have fP04 := (BP0.out.cells 4 _ rfl).2
  have xP0 := BP0.out.lt
  go_wp2_with fail
  refine (l_szKernel x K _ (by omega) _ HA0.out).mono ?_; rintro e w2 ⟨rfl, hb⟩
  rw [szRes_pos (by omega)]
  clear xP0 cP00 fP00 cP01 fP01 cP02 fP02 cP03 fP03 cP04 fP04
  replace BP0 := Lib.hid (BP0.out.below hb)
  replace BP1 := Lib.hid (BP1.out.below hb)
  replace HA0 := Lib.hid (HA0.out.below hb)
  replace HA1 := Lib.hid (HA1.out.below hb)
  replace HA2 := Lib.hid (HA2.out.below hb)
  replace HA3 := Lib.hid (HA3.out.below hb)
  replace HT := Lib.hid (HT.out.trans (hb.mono HT.out.size))
  have zwA := hb.size; (try simp only [World.size_alloc] at zwA); clear hb; obtain ⟨wA, rfl⟩ : ∃ x, x = w2 := ⟨_, rfl⟩
  have cP10 := (BP1.out.cells 0 _ rfl).1; have fP10 := (BP1.out.cells 0 _ rfl).2
  have cP11 := (BP1.out.cells 1 _ rfl).1; have fP11 := (BP1.out.cells 1 _ rfl).2
  have cP12 := (BP1.out.cells 2 _ rfl).1; have fP12 := (BP1.out.cells 2 _ rfl).2
  have cP13 := (BP1.out.cells 3 _ rfl).1; have fP13 := (BP1.out.cells 3 _ rfl).2
  have cP14 := (BP1.out.cells 4 _ rfl).1; have fP14 := (BP1.out.cells 4 _ rfl).2
  have xP1 := BP1.out.lt
  go_wp2_with fail
  refine (l_szJob kp mv c cs ph nx _ (by omega) _ HA1.out).mono ?_; rintro e w2 ⟨rfl, hb⟩
  rw [szRes_pos (by omega)]
  clear xP1 cP10 fP10 cP11 fP11 cP12 fP12 cP13 fP13 cP14 fP14
  replace BP0 := Lib.hid (BP0.out.below hb)
  replace BP1 := Lib.hid (BP1.out.below hb)
  replace HA0 := Lib.hid (HA0.out.below hb)
  replace HA1 := Lib.hid (HA1.out.below hb)
  replace HA2 := Lib.hid (HA2.out.below hb)
  replace HA3 := Lib.hid (HA3.out.below hb)
  replace HT := Lib.hid (HT.out.trans (hb.mono HT.out.size))
  have zwB := hb.size; (try simp only [World.size_alloc] at zwB); clear hb; obtain ⟨wB, rfl⟩ : ∃ x, x = w2 := ⟨_, rfl⟩
  go_wp2_with fail
  refine (szWriterS' _ _ _ (by omega) _ (by omega) _).mono ?_; rintro e w2 ⟨rfl, hb⟩
  rw [szRes_pos (by omega)]
  replace BP0 := Lib.hid (BP0.out.below hb)
  replace BP1 := Lib.hid (BP1.out.below hb)
  replace HA0 := Lib.hid (HA0.out.below hb)
  replace HA1 := Lib.hid (HA1.out.below hb)
  replace HA2 := Lib.hid (HA2.out.below hb)
  replace HA3 := Lib.hid (HA3.out.below hb)
  replace HT := Lib.hid (HT.out.trans (hb.mono HT.out.size))
  have zwC := hb.size; (try simp only [World.size_alloc] at zwC); clear hb; obtain ⟨wC, rfl⟩ : ∃ x, x = w2 := ⟨_, rfl⟩
  have cP00 := (BP0.out.cells 0 _ rfl).1; have fP00 := (BP0.out.cells 0 _ rfl).2
  have cP01 := (BP0.out.cells 1 _ rfl).1; have fP01 := (BP0.out.cells 1 _ rfl).2
  have cP02 := (BP0.out.cells 2 _ rfl).1; have fP02 := (BP0.out.cells 2 _ rfl).2
  have cP03 := (BP0.out.cells 3 _ rfl).1; have fP03 := (BP0.out.cells 3 _ rfl).2
  have cP04 := (BP0.out.cells 4 _ rfl).1; have fP04 := (BP0.out.cells 4 _ rfl).2
  have xP0 := BP0.out.lt
  have cP10 := (BP1.out.cells 0 _ rfl).1; have fP10 := (BP1.out.cells 0 _ rfl).2
  have cP11 := (BP1.out.cells 1 _ rfl).1; have fP11 := (BP1.out.cells 1 _ rfl).2
  have cP12 := (BP1.out.cells 2 _ rfl).1; have fP12 := (BP1.out.cells 2 _ rfl).2
  have cP13 := (BP1.out.cells 3 _ rfl).1; have fP13 := (BP1.out.cells 3 _ rfl).2
  have cP14 := (BP1.out.cells 4 _ rfl).1; have fP14 := (BP1.out.cells 4 _ rfl).2
  have xP1 := BP1.out.lt
  go_wp2_with fail
  go_upto_region 13 with fail
  go_cut [10, 11, 12] (fun ss10 ss11 ss12 wx => ∃ yW0co yW0cc yW0uo yW0uc yW0vs yW0eo yW0ec yW0ro yW0rc yW1o yW1c yW2o yW2c gW0 gW1, ss10 = .pointer (some ⟨gW0, 0, none⟩) ∧ ss11 = .pointer (some ⟨gW1, 0, none⟩) ∧ ss12 = .slice yW2o (rs).length yW2c ∧ BoxAt wx gW0 [.slice yW0co yW0vs.length yW0cc, .slice yW0uo K2.m.f.used.length yW0uc, .slice yW0eo K2.m.ents.length yW0ec, .int .i64 (K2.calls), .slice yW0ro K2.refuse.length yW0rc] ∧ BoxAt wx gW1 [.int .i64 kp, .int .i64 mv, .slice yW1o cs.length yW1c, .int .i64 ph2, .int .i64 nx2] ∧ KOwn (wC.heap.size) wx (⟨⟨⟨.slice yW0co yW0vs.length yW0cc, .slice yW0uo K2.m.f.used.length yW0uc, yW0vs⟩, .slice yW0eo K2.m.ents.length yW0ec⟩, .slice yW0ro K2.refuse.length yW0rc⟩ : KV) K2 ∧ OwnI (wC.heap.size) wx (.slice yW1o cs.length yW1c) cs ∧ OwnWr (wC.heap.size) wx (.slice yW2o rs.length yW2c) rs ∧ gW0 ∉ blocks (KV.all (⟨⟨⟨.slice yW0co yW0vs.length yW0cc, .slice yW0uo K2.m.f.used.length yW0uc, yW0vs⟩, .slice yW0eo K2.m.ents.length yW0ec⟩, .slice yW0ro K2.refuse.length yW0rc⟩ : KV)) ∧ gW0 ∉ blocks ([.slice yW1o cs.length yW1c]) ∧ gW0 ∉ blocks ([.slice yW2o rs.length yW2c]) ∧ gW1 ∉ blocks (KV.all (⟨⟨⟨.slice yW0co yW0vs.length yW0cc, .slice yW0uo K2.m.f.used.length yW0uc, yW0vs⟩, .slice yW0eo K2.m.ents.length yW0ec⟩, .slice yW0ro K2.refuse.length yW0rc⟩ : KV)) ∧ gW1 ∉ blocks ([.slice yW1o cs.length yW1c]) ∧ gW1 ∉ blocks ([.slice yW2o rs.length yW2c]) ∧ (∀ g ∈ blocks (KV.all (⟨⟨⟨.slice yW0co yW0vs.length yW0cc, .slice yW0uo K2.m.f.used.length yW0uc, yW0vs⟩, .slice yW0eo K2.m.ents.length yW0ec⟩, .slice yW0ro K2.refuse.length yW0rc⟩ : KV)), g ∉ blocks ([.slice yW1o cs.length yW1c])) ∧ (∀ g ∈ blocks (KV.all (⟨⟨⟨.slice yW0co yW0vs.length yW0cc, .slice yW0uo K2.m.f.used.length yW0uc, yW0vs⟩, .slice yW0eo K2.m.ents.length yW0ec⟩, .slice yW0ro K2.refuse.length yW0rc⟩ : KV)), g ∉ blocks ([.slice yW2o rs.length yW2c])) ∧ (∀ g ∈ blocks ([.slice yW1o cs.length yW1c]), g ∉ blocks ([.slice yW2o rs.length yW2c])) ∧ wC.heap.size ≤ gW0 ∧ wC.heap.size ≤ gW1 ∧ Below (wC).heap.size (wC) wx)
  case first =>
      refine wp_gen (fun a0 ha0 => ?_)
      have hsz : a0.tmps.size = 216 := by rw [ha0]; rfl
      have hps : (wC).heap.size = wC.heap.size := by first | rfl | simp only [World.size_alloc, World.size_drew]
      have X4 : ∀ u, (frAll a0 [45, 46, 47, 48, 49, 50, 51, 52, 53, 44, 54, 55, 56, 10, 11, 12] u).tmps.getD 4 undef = .pointer (some ⟨w.heap.size, 0, none⟩) := fun u => (frAll_other (by decide)).trans (by rw [ha0]; rfl)
      have X5 : ∀ u, (frAll a0 [45, 46, 47, 48, 49, 50, 51, 52, 53, 44, 54, 55, 56, 10, 11, 12] u).tmps.getD 5 undef = .pointer (some ⟨w.heap.size + 1, 0, none⟩) := fun u => (frAll_other (by decide)).trans (by rw [ha0]; rfl)
      have X2 : ∀ u, (frAll a0 [45, 46, 47, 48, 49, 50, 51, 52, 53, 44, 54, 55, 56, 10, 11, 12] u).tmps.getD 2 undef = .slice ao2 xs.length ca2 := fun u => (frAll_other (by decide)).trans (by rw [ha0]; rfl)
      have X3 : ∀ u, (frAll a0 [45, 46, 47, 48, 49, 50, 51, 52, 53, 44, 54, 55, 56, 10, 11, 12] u).tmps.getD 3 undef = .slice ao3 order.length ca3 := fun u => (frAll_other (by decide)).trans (by rw [ha0]; rfl)
      have E45 : ∀ u, (frAll a0 [45, 46, 47, 48, 49, 50, 51, 52, 53, 44, 54, 55, 56, 10, 11, 12] u).tmps.getD 45 undef = u 45 := fun u => frAll_eval (by decide) (by rw [hsz]; decide)
      have P45 : ∀ u v, (frAll a0 [45, 46, 47, 48, 49, 50, 51, 52, 53, 44, 54, 55, 56, 10, 11, 12] u).put (some 45) v = frAll a0 [45, 46, 47, 48, 49, 50, 51, 52, 53, 44, 54, 55, 56, 10, 11, 12] (frUpd u 45 v) := fun u v => frAll_put v (by decide)
      have E46 : ∀ u, (frAll a0 [45, 46, 47, 48, 49, 50, 51, 52, 53, 44, 54, 55, 56, 10, 11, 12] u).tmps.getD 46 undef = u 46 := fun u => frAll_eval (by decide) (by rw [hsz]; decide)
      have P46 : ∀ u v, (frAll a0 [45, 46, 47, 48, 49, 50, 51, 52, 53, 44, 54, 55, 56, 10, 11, 12] u).put (some 46) v = frAll a0 [45, 46, 47, 48, 49, 50, 51, 52, 53, 44, 54, 55, 56, 10, 11, 12] (frUpd u 46 v) := fun u v => frAll_put v (by decide)
      have E47 : ∀ u, (frAll a0 [45, 46, 47, 48, 49, 50, 51, 52, 53, 44, 54, 55, 56, 10, 11, 12] u).tmps.getD 47 undef = u 47 := fun u => frAll_eval (by decide) (by rw [hsz]; decide)
      have P47 : ∀ u v, (frAll a0 [45, 46, 47, 48, 49, 50, 51, 52, 53, 44, 54, 55, 56, 10, 11, 12] u).put (some 47) v = frAll a0 [45, 46, 47, 48, 49, 50, 51, 52, 53, 44, 54, 55, 56, 10, 11, 12] (frUpd u 47 v) := fun u v => frAll_put v (by decide)
      have E48 : ∀ u, (frAll a0 [45, 46, 47, 48, 49, 50, 51, 52, 53, 44, 54, 55, 56, 10, 11, 12] u).tmps.getD 48 undef = u 48 := fun u => frAll_eval (by decide) (by rw [hsz]; decide)
      have P48 : ∀ u v, (frAll a0 [45, 46, 47, 48, 49, 50, 51, 52, 53, 44, 54, 55, 56, 10, 11, 12] u).put (some 48) v = frAll a0 [45, 46, 47, 48, 49, 50, 51, 52, 53, 44, 54, 55, 56, 10, 11, 12] (frUpd u 48 v) := fun u v => frAll_put v (by decide)
      have E49 : ∀ u, (frAll a0 [45, 46, 47, 48, 49, 50, 51, 52, 53, 44, 54, 55, 56, 10, 11, 12] u).tmps.getD 49 undef = u 49 := fun u => frAll_eval (by decide) (by rw [hsz]; decide)
      have P49 : ∀ u v, (frAll a0 [45, 46, 47, 48, 49, 50, 51, 52, 53, 44, 54, 55, 56, 10, 11, 12] u).put (some 49) v = frAll a0 [45, 46, 47, 48, 49, 50, 51, 52, 53, 44, 54, 55, 56, 10, 11, 12] (frUpd u 49 v) := fun u v => frAll_put v (by decide)
      have E50 : ∀ u, (frAll a0 [45, 46, 47, 48, 49, 50, 51, 52, 53, 44, 54, 55, 56, 10, 11, 12] u).tmps.getD 50 undef = u 50 := fun u => frAll_eval (by decide) (by rw [hsz]; decide)
      have P50 : ∀ u v, (frAll a0 [45, 46, 47, 48, 49, 50, 51, 52, 53, 44, 54, 55, 56, 10, 11, 12] u).put (some 50) v = frAll a0 [45, 46, 47, 48, 49, 50, 51, 52, 53, 44, 54, 55, 56, 10, 11, 12] (frUpd u 50 v) := fun u v => frAll_put v (by decide)
      have E51 : ∀ u, (frAll a0 [45, 46, 47, 48, 49, 50, 51, 52, 53, 44, 54, 55, 56, 10, 11, 12] u).tmps.getD 51 undef = u 51 := fun u => frAll_eval (by decide) (by rw [hsz]; decide)
      have P51 : ∀ u v, (frAll a0 [45, 46, 47, 48, 49, 50, 51, 52, 53, 44, 54, 55, 56, 10, 11, 12] u).put (some 51) v = frAll a0 [45, 46, 47, 48, 49, 50, 51, 52, 53, 44, 54, 55, 56, 10, 11, 12] (frUpd u 51 v) := fun u v => frAll_put v (by decide)
      have E52 : ∀ u, (frAll a0 [45, 46, 47, 48, 49, 50, 51, 52, 53, 44, 54, 55, 56, 10, 11, 12] u).tmps.getD 52 undef = u 52 := fun u => frAll_eval (by decide) (by rw [hsz]; decide)
      have P52 : ∀ u v, (frAll a0 [45, 46, 47, 48, 49, 50, 51, 52, 53, 44, 54, 55, 56, 10, 11, 12] u).put (some 52) v = frAll a0 [45, 46, 47, 48, 49, 50, 51, 52, 53, 44, 54, 55, 56, 10, 11, 12] (frUpd u 52 v) := fun u v => frAll_put v (by decide)
      have E53 : ∀ u, (frAll a0 [45, 46, 47, 48, 49, 50, 51, 52, 53, 44, 54, 55, 56, 10, 11, 12] u).tmps.getD 53 undef = u 53 := fun u => frAll_eval (by decide) (by rw [hsz]; decide)
      have P53 : ∀ u v, (frAll a0 [45, 46, 47, 48, 49, 50, 51, 52, 53, 44, 54, 55, 56, 10, 11, 12] u).put (some 53) v = frAll a0 [45, 46, 47, 48, 49, 50, 51, 52, 53, 44, 54, 55, 56, 10, 11, 12] (frUpd u 53 v) := fun u v => frAll_put v (by decide)
      have E44 : ∀ u, (frAll a0 [45, 46, 47, 48, 49, 50, 51, 52, 53, 44, 54, 55, 56, 10, 11, 12] u).tmps.getD 44 undef = u 44 := fun u => frAll_eval (by decide) (by rw [hsz]; decide)
      have P44 : ∀ u v, (frAll a0 [45, 46, 47, 48, 49, 50, 51, 52, 53, 44, 54, 55, 56, 10, 11, 12] u).put (some 44) v = frAll a0 [45, 46, 47, 48, 49, 50, 51, 52, 53, 44, 54, 55, 56, 10, 11, 12] (frUpd u 44 v) := fun u v => frAll_put v (by decide)
      have E54 : ∀ u, (frAll a0 [45, 46, 47, 48, 49, 50, 51, 52, 53, 44, 54, 55, 56, 10, 11, 12] u).tmps.getD 54 undef = u 54 := fun u => frAll_eval (by decide) (by rw [hsz]; decide)
      have P54 : ∀ u v, (frAll a0 [45, 46, 47, 48, 49, 50, 51, 52, 53, 44, 54, 55, 56, 10, 11, 12] u).put (some 54) v = frAll a0 [45, 46, 47, 48, 49, 50, 51, 52, 53, 44, 54, 55, 56, 10, 11, 12] (frUpd u 54 v) := fun u v => frAll_put v (by decide)
      have E55 : ∀ u, (frAll a0 [45, 46, 47, 48, 49, 50, 51, 52, 53, 44, 54, 55, 56, 10, 11, 12] u).tmps.getD 55 undef = u 55 := fun u => frAll_eval (by decide) (by rw [hsz]; decide)
      have P55 : ∀ u v, (frAll a0 [45, 46, 47, 48, 49, 50, 51, 52, 53, 44, 54, 55, 56, 10, 11, 12] u).put (some 55) v = frAll a0 [45, 46, 47, 48, 49, 50, 51, 52, 53, 44, 54, 55, 56, 10, 11, 12] (frUpd u 55 v) := fun u v => frAll_put v (by decide)
      have E56 : ∀ u, (frAll a0 [45, 46, 47, 48, 49, 50, 51, 52, 53, 44, 54, 55, 56, 10, 11, 12] u).tmps.getD 56 undef = u 56 := fun u => frAll_eval (by decide) (by rw [hsz]; decide)
      have P56 : ∀ u v, (frAll a0 [45, 46, 47, 48, 49, 50, 51, 52, 53, 44, 54, 55, 56, 10, 11, 12] u).put (some 56) v = frAll a0 [45, 46, 47, 48, 49, 50, 51, 52, 53, 44, 54, 55, 56, 10, 11, 12] (frUpd u 56 v) := fun u v => frAll_put v (by decide)
      have E10 : ∀ u, (frAll a0 [45, 46, 47, 48, 49, 50, 51, 52, 53, 44, 54, 55, 56, 10, 11, 12] u).tmps.getD 10 undef = u 10 := fun u => frAll_eval (by decide) (by rw [hsz]; decide)
      have P10 : ∀ u v, (frAll a0 [45, 46, 47, 48, 49, 50, 51, 52, 53, 44, 54, 55, 56, 10, 11, 12] u).put (some 10) v = frAll a0 [45, 46, 47, 48, 49, 50, 51, 52, 53, 44, 54, 55, 56, 10, 11, 12] (frUpd u 10 v) := fun u v => frAll_put v (by decide)
      have E11 : ∀ u, (frAll a0 [45, 46, 47, 48, 49, 50, 51, 52, 53, 44, 54, 55, 56, 10, 11, 12] u).tmps.getD 11 undef = u 11 := fun u => frAll_eval (by decide) (by rw [hsz]; decide)
      have P11 : ∀ u v, (frAll a0 [45, 46, 47, 48, 49, 50, 51, 52, 53, 44, 54, 55, 56, 10, 11, 12] u).put (some 11) v = frAll a0 [45, 46, 47, 48, 49, 50, 51, 52, 53, 44, 54, 55, 56, 10, 11, 12] (frUpd u 11 v) := fun u v => frAll_put v (by decide)
      have E12 : ∀ u, (frAll a0 [45, 46, 47, 48, 49, 50, 51, 52, 53, 44, 54, 55, 56, 10, 11, 12] u).tmps.getD 12 undef = u 12 := fun u => frAll_eval (by decide) (by rw [hsz]; decide)
      have P12 : ∀ u v, (frAll a0 [45, 46, 47, 48, 49, 50, 51, 52, 53, 44, 54, 55, 56, 10, 11, 12] u).put (some 12) v = frAll a0 [45, 46, 47, 48, 49, 50, 51, 52, 53, 44, 54, 55, 56, 10, 11, 12] (frUpd u 12 v) := fun u v => frAll_put v (by decide)
      replace ha0 := Lib.hid ha0
      refine wp_region_frame [45, 46, 47, 48, 49, 50, 51, 52, 53, 44, 54, 55, 56, 10, 11, 12] (fun D u wv => ∃ yC0co yC0cc yC0uo yC0uc yC0vs yC0eo yC0ec yC0ro yC0rc yC1o yC1c yC2o yC2c yC3o yC3c yW0co yW0cc yW0uo yW0uc yW0vs yW0eo yW0ec yW0ro yW0rc yW1o yW1c yW2o yW2c gW0 gW1, Hid (Below (wC).heap.size (wC) wv) ∧ Hid (D 0 → u 45 = .agg #[x.m.f.c, x.m.f.u, x.m.e, .int .i64 K.calls, x.r]) ∧ Hid (D 1 → u 46 = .agg #[.slice yC0co yC0vs.length yC0cc, .slice yC0uo K.m.f.used.length yC0uc, .slice yC0eo K.m.ents.length yC0ec, .int .i64 (K.calls), .slice yC0ro K.refuse.length yC0rc]) ∧ Hid (D 2 → u 47 = .agg #[.int .i64 kp, .int .i64 mv, c, .int .i64 ph, .int .i64 nx]) ∧ Hid (D 3 → u 48 = .agg #[.int .i64 kp, .int .i64 mv, .slice yC1o cs.length yC1c, .int .i64 ph, .int .i64 nx]) ∧ Hid (D 4 → u 49 = .slice ao2 xs.length ca2) ∧ Hid (D 5 → u 50 = .slice yC2o xs.length yC2c) ∧ Hid (D 6 → u 51 = .slice ao3 order.length ca3) ∧ Hid (D 7 → u 52 = .slice yC3o order.length yC3c) ∧ Hid (D 8 → u 53 = .tuple #[.agg #[.slice yW0co yW0vs.length yW0cc, .slice yW0uo K2.m.f.used.length yW0uc, .slice yW0eo K2.m.ents.length yW0ec, .int .i64 (K2.calls), .slice yW0ro K2.refuse.length yW0rc], .agg #[.int .i64 kp, .int .i64 mv, .slice yW1o cs.length yW1c, .int .i64 ph2, .int .i64 nx2], .slice yW2o rs.length yW2c]) ∧ Hid (D 9 → u 44 = .tuple #[.agg #[.slice yW0co yW0vs.length yW0cc, .slice yW0uo K2.m.f.used.length yW0uc, .slice yW0eo K2.m.ents.length yW0ec, .int .i64 (K2.calls), .slice yW0ro K2.refuse.length yW0rc], .agg #[.int .i64 kp, .int .i64 mv, .slice yW1o cs.length yW1c, .int .i64 ph2, .int .i64 nx2], .slice yW2o rs.length yW2c]) ∧ Hid (D 10 → u 54 = .agg #[.slice yW0co yW0vs.length yW0cc, .slice yW0uo K2.m.f.used.length yW0uc, .slice yW0eo K2.m.ents.length yW0ec, .int .i64 (K2.calls), .slice yW0ro K2.refuse.length yW0rc]) ∧ Hid (D 11 → u 55 = .agg #[.int .i64 kp, .int .i64 mv, .slice yW1o cs.length yW1c, .int .i64 ph2, .int .i64 nx2]) ∧ Hid (D 12 → u 56 = .slice yW2o rs.length yW2c) ∧ Hid (D 13 → u 10 = .pointer (some ⟨gW0, 0, none⟩)) ∧ Hid (D 14 → u 11 = .pointer (some ⟨gW1, 0, none⟩)) ∧ Hid (D 17 → u 12 = .slice yW2o rs.length yW2c) ∧ Hid (D 1 → ¬ D 8 → KOwn (wC.heap.size) wv (⟨⟨⟨.slice yC0co yC0vs.length yC0cc, .slice yC0uo K.m.f.used.length yC0uc, yC0vs⟩, .slice yC0eo K.m.ents.length yC0ec⟩, .slice yC0ro K.refuse.length yC0rc⟩ : KV) K) ∧ Hid (D 3 → ¬ D 8 → OwnI (wC.heap.size) wv (.slice yC1o cs.length yC1c) cs) ∧ Hid (D 5 → ¬ D 8 → OwnWr (wC.heap.size) wv (.slice yC2o xs.length yC2c) xs) ∧ Hid (D 7 → ¬ D 8 → OwnI (wC.heap.size) wv (.slice yC3o order.length yC3c) order) ∧ Hid (D 8 → KOwn (wC.heap.size) wv (⟨⟨⟨.slice yW0co yW0vs.length yW0cc, .slice yW0uo K2.m.f.used.length yW0uc, yW0vs⟩, .slice yW0eo K2.m.ents.length yW0ec⟩, .slice yW0ro K2.refuse.length yW0rc⟩ : KV) K2) ∧ Hid (D 8 → OwnI (wC.heap.size) wv (.slice yW1o cs.length yW1c) cs) ∧ Hid (D 8 → OwnWr (wC.heap.size) wv (.slice yW2o rs.length yW2c) rs) ∧ Hid (D 8 → (∀ g ∈ blocks (KV.all (⟨⟨⟨.slice yW0co yW0vs.length yW0cc, .slice yW0uo K2.m.f.used.length yW0uc, yW0vs⟩, .slice yW0eo K2.m.ents.length yW0ec⟩, .slice yW0ro K2.refuse.length yW0rc⟩ : KV)), g ∉ blocks ([.slice yW1o cs.length yW1c]))) ∧ Hid (D 8 → (∀ g ∈ blocks (KV.all (⟨⟨⟨.slice yW0co yW0vs.length yW0cc, .slice yW0uo K2.m.f.used.length yW0uc, yW0vs⟩, .slice yW0eo K2.m.ents.length yW0ec⟩, .slice yW0ro K2.refuse.length yW0rc⟩ : KV)), g ∉ blocks ([.slice yW2o rs.length yW2c]))) ∧ Hid (D 8 → (∀ g ∈ blocks ([.slice yW1o cs.length yW1c]), g ∉ blocks ([.slice yW2o rs.length yW2c]))) ∧ Hid (D 13 → wC.heap.size ≤ gW0 ∧ gW0 < wv.heap.size) ∧ Hid (D 13 → ¬ D 15 → BoxAt wv gW0 [.slice none 0 0, .slice none 0 0, .slice none 0 0, .int .i64 0, .slice none 0 0]) ∧ Hid (D 15 → BoxAt wv gW0 [.slice yW0co yW0vs.length yW0cc, .slice yW0uo K2.m.f.used.length yW0uc, .slice yW0eo K2.m.ents.length yW0ec, .int .i64 (K2.calls), .slice yW0ro K2.refuse.length yW0rc]) ∧ Hid (D 13 → D 8 → gW0 ∉ blocks (KV.all (⟨⟨⟨.slice yW0co yW0vs.length yW0cc, .slice yW0uo K2.m.f.used.length yW0uc, yW0vs⟩, .slice yW0eo K2.m.ents.length yW0ec⟩, .slice yW0ro K2.refuse.length yW0rc⟩ : KV))) ∧ Hid (D 13 → D 8 → gW0 ∉ blocks ([.slice yW1o cs.length yW1c])) ∧ Hid (D 13 → D 8 → gW0 ∉ blocks ([.slice yW2o rs.length yW2c])) ∧ Hid (D 14 → wC.heap.size ≤ gW1 ∧ gW1 < wv.heap.size) ∧ Hid (D 14 → ¬ D 16 → BoxAt wv gW1 [.int .i64 0, .int .i64 0, .slice none 0 0, .int .i64 0, .int .i64 0]) ∧ Hid (D 16 → BoxAt wv gW1 [.int .i64 kp, .int .i64 mv, .slice yW1o cs.length yW1c, .int .i64 ph2, .int .i64 nx2]) ∧ Hid (D 14 → D 8 → gW1 ∉ blocks (KV.all (⟨⟨⟨.slice yW0co yW0vs.length yW0cc, .slice yW0uo K2.m.f.used.length yW0uc, yW0vs⟩, .slice yW0eo K2.m.ents.length yW0ec⟩, .slice yW0ro K2.refuse.length yW0rc⟩ : KV))) ∧ Hid (D 14 → D 8 → gW1 ∉ blocks ([.slice yW1o cs.length yW1c])) ∧ Hid (D 14 → D 8 → gW1 ∉ blocks ([.slice yW2o rs.length yW2c])) ∧ Hid (D 13 → D 14 → gW0 ≠ gW1)) (by kernel_rfl) (by kernel_rfl) ?_ ?_ ?_
      · exact ⟨default, default, default, default, default, default, default, default, default, default, default, default, default, default, default, default, default, default, default, default, default, default, default, default, default, default, default, default, default, default, Lib.hid (by exact bel), Lib.hid (fun h => h.elim), Lib.hid (fun h => h.elim), Lib.hid (fun h => h.elim), Lib.hid (fun h => h.elim), Lib.hid (fun h => h.elim), Lib.hid (fun h => h.elim), Lib.hid (fun h => h.elim), Lib.hid (fun h => h.elim), Lib.hid (fun h => h.elim), Lib.hid (fun h => h.elim), Lib.hid (fun h => h.elim), Lib.hid (fun h => h.elim), Lib.hid (fun h => h.elim), Lib.hid (fun h => h.elim), Lib.hid (fun h => h.elim), Lib.hid (fun h => h.elim), Lib.hid (fun h => h.elim), Lib.hid (fun h => h.elim), Lib.hid (fun h => h.elim), Lib.hid (fun h => h.elim), Lib.hid (fun h => h.elim), Lib.hid (fun h => h.elim), Lib.hid (fun h => h.elim), Lib.hid (fun h => h.elim), Lib.hid (fun h => h.elim), Lib.hid (fun h => h.elim), Lib.hid (fun h => h.elim), Lib.hid (fun h => h.elim), Lib.hid (fun h => h.elim), Lib.hid (fun h => h.elim), Lib.hid (fun h => h.elim), Lib.hid (fun h => h.elim), Lib.hid (fun h => h.elim), Lib.hid (fun h => h.elim), Lib.hid (fun h => h.elim), Lib.hid (fun h => h.elim), Lib.hid (fun h => h.elim), Lib.hid (fun h => h.elim), Lib.hid (fun h => h.elim)⟩
      · rintro D u wv ⟨yC0co, yC0cc, yC0uo, yC0uc, yC0vs, yC0eo, yC0ec, yC0ro, yC0rc, yC1o, yC1c, yC2o, yC2c, yC3o, yC3c, yW0co, yW0cc, yW0uo, yW0uc, yW0vs, yW0eo, yW0ec, yW0ro, yW0rc, yW1o, yW1c, yW2o, yW2c, gW0, gW1, HBW, U0, U1, U2, U3, U4, U5, U6, U7, U8, U9, U10, U11, U12, U13, U14, U17, OC0, OC1, OC2, OC3, OW0, OW1, OW2, DW0_1, DW0_2, DW1_2, A2gW0, A3gW0, A4gW0, A5gW0W0, A5gW0W1, A5gW0W2, A2gW1, A3gW1, A4gW1, A5gW1W0, A5gW1W1, A5gW1W2, A6gW0gW1⟩ hcl i hi hn hw
        have hi9 : i < 18 := hi; clear hi
        replace hcl := Lib.hid hcl; replace hw := Lib.hid hw
        have hbw := HBW.out; have hlw := hbw.size; rw [hps] at hlw
        rcases (by omega : i = 0 ∨ i = 1 ∨ i = 2 ∨ i = 3 ∨ i = 4 ∨ i = 5 ∨ i = 6 ∨ i = 7 ∨ i = 8 ∨ i = 9 ∨ i = 10 ∨ i = 11 ∨ i = 12 ∨ i = 13 ∨ i = 14 ∨ i = 15 ∨ i = 16 ∨ i = 17) with rfl | rfl | rfl | rfl | rfl | rfl | rfl | rfl | rfl | rfl | rfl | rfl | rfl | rfl | rfl | rfl | rfl | rfl
        · skip
          refine wpOp_step (o := _) rfl (fun KK hKK => ?_)
          rw [if_pos (wanted_nil _ rfl)]
          have E4_ := X4 u
          have bx := BP0.out.below hbw
          have c0 := (bx.cells 0 _ rfl).1
          have c1 := (bx.cells 1 _ rfl).1
          have c2 := (bx.cells 2 _ rfl).1
          have c3 := (bx.cells 3 _ rfl).1
          have c4 := (bx.cells 4 _ rfl).1
          skip
          go_simp
          exact hKK _ _ ⟨_, P45 u _, yC0co, yC0cc, yC0uo, yC0uc, yC0vs, yC0eo, yC0ec, yC0ro, yC0rc, yC1o, yC1c, yC2o, yC2c, yC3o, yC3c, yW0co, yW0cc, yW0uo, yW0uc, yW0vs, yW0eo, yW0ec, yW0ro, yW0rc, yW1o, yW1c, yW2o, yW2c, gW0, gW1, HBW, Lib.hid (fun h0 => frUpd_self), (u10 U1), (u10 U2), (u10 U3), (u10 U4), (u10 U5), (u10 U6), (u10 U7), (u10 U8), (u10 U9), (u10 U10), (u10 U11), (u10 U12), (u10 U13), (u10 U14), (u10 U17), (k11 OC0), (k11 OC1), (k11 OC2), (k11 OC3), (k10 OW0), (k10 OW1), (k10 OW2), (k10 DW0_1), (k10 DW0_2), (k10 DW1_2), (k10 A2gW0), (k11 A3gW0), (k10 A4gW0), (k20 A5gW0W0), (k20 A5gW0W1), (k20 A5gW0W2), (k10 A2gW1), (k11 A3gW1), (k10 A4gW1), (k20 A5gW1W0), (k20 A5gW1W1), (k20 A5gW1W2), (k20 A6gW0gW1)⟩
        · skip
          refine wpOp_step (o := _) rfl (fun KK hKK => ?_)
          rw [if_pos (wanted_nil _ rfl)]
          have e45 := U0.out (hw.out 0 (by kernel_rfl)); have E45_ := (E45 u).trans e45
          skip
          go_simp
          refine (l_toKernel x K (by omega) _ (HA0.out.below hbw)).mono ?_; rintro e w2 ⟨yC0, rfl, OC0, hb⟩
          obtain ⟨yC0co, yC0cc, yC0uo, yC0uc, yC0vs, yC0eo, yC0ec, yC0ro, yC0rc, rfl⟩ := KOwn.shapes OC0
          simp only [KV.val]
          have hbn := hb.size
          try dsimp only
          exact hKK _ _ ⟨_, P46 u _, yC0co, yC0cc, yC0uo, yC0uc, yC0vs, yC0eo, yC0ec, yC0ro, yC0rc, yC1o, yC1c, yC2o, yC2c, yC3o, yC3c, yW0co, yW0cc, yW0uo, yW0uc, yW0vs, yW0eo, yW0ec, yW0ro, yW0rc, yW1o, yW1c, yW2o, yW2c, gW0, gW1, (Lib.hid (hbw.trans (hb.mono (by rw [hps]; omega)))), (u10 U0), Lib.hid (fun h0 => frUpd_self), (u10 U2), (u10 U3), (u10 U4), (u10 U5), (u10 U6), (u10 U7), (u10 U8), (u10 U9), (u10 U10), (u10 U11), (u10 U12), (u10 U13), (u10 U14), (u10 U17), Lib.hid (fun h0 m0 => KOwn.mono OC0 (by omega)), (m11 (fun h => Own.below h hb) OC1), (m11 (fun h => Own.below h hb) OC2), (m11 (fun h => Own.below h hb) OC3), (m10 (fun h => h.below hb) OW0), (m10 (fun h => Own.below h hb) OW1), (m10 (fun h => Own.below h hb) OW2), (k10 DW0_1), (k10 DW0_2), (k10 DW1_2), (m10 (lt_grow hb.size) A2gW0), (m11 (fun h => h.below hb) A3gW0), (m10 (fun h => h.below hb) A4gW0), (k20 A5gW0W0), (k20 A5gW0W1), (k20 A5gW0W2), (m10 (lt_grow hb.size) A2gW1), (m11 (fun h => h.below hb) A3gW1), (m10 (fun h => h.below hb) A4gW1), (k20 A5gW1W0), (k20 A5gW1W1), (k20 A5gW1W2), (k20 A6gW0gW1)⟩
        · skip
          refine wpOp_step (o := _) rfl (fun KK hKK => ?_)
          rw [if_pos (wanted_nil _ rfl)]
          have E5_ := X5 u
          have bx := BP1.out.below hbw
          have c0 := (bx.cells 0 _ rfl).1
          have c1 := (bx.cells 1 _ rfl).1
          have c2 := (bx.cells 2 _ rfl).1
          have c3 := (bx.cells 3 _ rfl).1
          have c4 := (bx.cells 4 _ rfl).1
          skip
          go_simp
          exact hKK _ _ ⟨_, P47 u _, yC0co, yC0cc, yC0uo, yC0uc, yC0vs, yC0eo, yC0ec, yC0ro, yC0rc, yC1o, yC1c, yC2o, yC2c, yC3o, yC3c, yW0co, yW0cc, yW0uo, yW0uc, yW0vs, yW0eo, yW0ec, yW0ro, yW0rc, yW1o, yW1c, yW2o, yW2c, gW0, gW1, HBW, (u10 U0), (u10 U1), Lib.hid (fun h0 => frUpd_self), (u10 U3), (u10 U4), (u10 U5), (u10 U6), (u10 U7), (u10 U8), (u10 U9), (u10 U10), (u10 U11), (u10 U12), (u10 U13), (u10 U14), (u10 U17), (k11 OC0), (k11 OC1), (k11 OC2), (k11 OC3), (k10 OW0), (k10 OW1), (k10 OW2), (k10 DW0_1), (k10 DW0_2), (k10 DW1_2), (k10 A2gW0), (k11 A3gW0), (k10 A4gW0), (k20 A5gW0W0), (k20 A5gW0W1), (k20 A5gW0W2), (k10 A2gW1), (k11 A3gW1), (k10 A4gW1), (k20 A5gW1W0), (k20 A5gW1W1), (k20 A5gW1W2), (k20 A6gW0gW1)⟩
        · skip
          refine wpOp_step (o := _) rfl (fun KK hKK => ?_)
          rw [if_pos (wanted_nil _ rfl)]
          have e47 := U2.out (hw.out 2 (by kernel_rfl)); have E47_ := (E47 u).trans e47
          skip
          go_simp
          refine (l_toJob kp mv c cs ph nx (by omega) _ (HA1.out.below hbw)).mono ?_; rintro e w2 ⟨vC1, rfl, OC1, hb⟩
          obtain ⟨yC1o, yC1c, rfl, -, -⟩ := OC1.shape
          have hbn := hb.size
          try dsimp only
          exact hKK _ _ ⟨_, P48 u _, yC0co, yC0cc, yC0uo, yC0uc, yC0vs, yC0eo, yC0ec, yC0ro, yC0rc, yC1o, yC1c, yC2o, yC2c, yC3o, yC3c, yW0co, yW0cc, yW0uo, yW0uc, yW0vs, yW0eo, yW0ec, yW0ro, yW0rc, yW1o, yW1c, yW2o, yW2c, gW0, gW1, (Lib.hid (hbw.trans (hb.mono (by rw [hps]; omega)))), (u10 U0), (u10 U1), (u10 U2), Lib.hid (fun h0 => frUpd_self), (u10 U4), (u10 U5), (u10 U6), (u10 U7), (u10 U8), (u10 U9), (u10 U10), (u10 U11), (u10 U12), (u10 U13), (u10 U14), (u10 U17), (m11 (fun h => h.below hb) OC0), Lib.hid (fun h0 m0 => Own.mono OC1 (by omega)), (m11 (fun h => Own.below h hb) OC2), (m11 (fun h => Own.below h hb) OC3), (m10 (fun h => h.below hb) OW0), (m10 (fun h => Own.below h hb) OW1), (m10 (fun h => Own.below h hb) OW2), (k10 DW0_1), (k10 DW0_2), (k10 DW1_2), (m10 (lt_grow hb.size) A2gW0), (m11 (fun h => h.below hb) A3gW0), (m10 (fun h => h.below hb) A4gW0), (k20 A5gW0W0), (k20 A5gW0W1), (k20 A5gW0W2), (m10 (lt_grow hb.size) A2gW1), (m11 (fun h => h.below hb) A3gW1), (m10 (fun h => h.below hb) A4gW1), (k20 A5gW1W0), (k20 A5gW1W1), (k20 A5gW1W2), (k20 A6gW0gW1)⟩
        · skip
          refine wpOp_step (o := _) rfl (fun KK hKK => ?_)
          rw [if_pos (wanted_nil _ rfl)]
          have E2_ := X2 u
          skip
          go_simp
          exact hKK _ _ ⟨_, P49 u _, yC0co, yC0cc, yC0uo, yC0uc, yC0vs, yC0eo, yC0ec, yC0ro, yC0rc, yC1o, yC1c, yC2o, yC2c, yC3o, yC3c, yW0co, yW0cc, yW0uo, yW0uc, yW0vs, yW0eo, yW0ec, yW0ro, yW0rc, yW1o, yW1c, yW2o, yW2c, gW0, gW1, HBW, (u10 U0), (u10 U1), (u10 U2), (u10 U3), Lib.hid (fun h0 => frUpd_self), (u10 U5), (u10 U6), (u10 U7), (u10 U8), (u10 U9), (u10 U10), (u10 U11), (u10 U12), (u10 U13), (u10 U14), (u10 U17), (k11 OC0), (k11 OC1), (k11 OC2), (k11 OC3), (k10 OW0), (k10 OW1), (k10 OW2), (k10 DW0_1), (k10 DW0_2), (k10 DW1_2), (k10 A2gW0), (k11 A3gW0), (k10 A4gW0), (k20 A5gW0W0), (k20 A5gW0W1), (k20 A5gW0W2), (k10 A2gW1), (k11 A3gW1), (k10 A4gW1), (k20 A5gW1W0), (k20 A5gW1W1), (k20 A5gW1W2), (k20 A6gW0gW1)⟩
        · skip
          refine wpOp_step (o := _) rfl (fun KK hKK => ?_)
          rw [if_pos (wanted_nil _ rfl)]
          have e49 := U4.out (hw.out 4 (by kernel_rfl)); have E49_ := (E49 u).trans e49
          skip
          go_simp
          refine (l_toWriterS _ xs (by omega) _ (HA2.out.below hbw)).mono ?_; rintro e w2 ⟨vC2, rfl, OC2, hb⟩
          obtain ⟨yC2o, yC2c, rfl, -, -⟩ := OC2.shape
          have hbn := hb.size
          try dsimp only
          exact hKK _ _ ⟨_, P50 u _, yC0co, yC0cc, yC0uo, yC0uc, yC0vs, yC0eo, yC0ec, yC0ro, yC0rc, yC1o, yC1c, yC2o, yC2c, yC3o, yC3c, yW0co, yW0cc, yW0uo, yW0uc, yW0vs, yW0eo, yW0ec, yW0ro, yW0rc, yW1o, yW1c, yW2o, yW2c, gW0, gW1, (Lib.hid (hbw.trans (hb.mono (by rw [hps]; omega)))), (u10 U0), (u10 U1), (u10 U2), (u10 U3), (u10 U4), Lib.hid (fun h0 => frUpd_self), (u10 U6), (u10 U7), (u10 U8), (u10 U9), (u10 U10), (u10 U11), (u10 U12), (u10 U13), (u10 U14), (u10 U17), (m11 (fun h => h.below hb) OC0), (m11 (fun h => Own.below h hb) OC1), Lib.hid (fun h0 m0 => Own.mono OC2 (by omega)), (m11 (fun h => Own.below h hb) OC3), (m10 (fun h => h.below hb) OW0), (m10 (fun h => Own.below h hb) OW1), (m10 (fun h => Own.below h hb) OW2), (k10 DW0_1), (k10 DW0_2), (k10 DW1_2), (m10 (lt_grow hb.size) A2gW0), (m11 (fun h => h.below hb) A3gW0), (m10 (fun h => h.below hb) A4gW0), (k20 A5gW0W0), (k20 A5gW0W1), (k20 A5gW0W2), (m10 (lt_grow hb.size) A2gW1), (m11 (fun h => h.below hb) A3gW1), (m10 (fun h => h.below hb) A4gW1), (k20 A5gW1W0), (k20 A5gW1W1), (k20 A5gW1W2), (k20 A6gW0gW1)⟩
        · skip
          refine wpOp_step (o := _) rfl (fun KK hKK => ?_)
          rw [if_pos (wanted_nil _ rfl)]
          have E3_ := X3 u
          skip
          go_simp
          exact hKK _ _ ⟨_, P51 u _, yC0co, yC0cc, yC0uo, yC0uc, yC0vs, yC0eo, yC0ec, yC0ro, yC0rc, yC1o, yC1c, yC2o, yC2c, yC3o, yC3c, yW0co, yW0cc, yW0uo, yW0uc, yW0vs, yW0eo, yW0ec, yW0ro, yW0rc, yW1o, yW1c, yW2o, yW2c, gW0, gW1, HBW, (u10 U0), (u10 U1), (u10 U2), (u10 U3), (u10 U4), (u10 U5), Lib.hid (fun h0 => frUpd_self), (u10 U7), (u10 U8), (u10 U9), (u10 U10), (u10 U11), (u10 U12), (u10 U13), (u10 U14), (u10 U17), (k11 OC0), (k11 OC1), (k11 OC2), (k11 OC3), (k10 OW0), (k10 OW1), (k10 OW2), (k10 DW0_1), (k10 DW0_2), (k10 DW1_2), (k10 A2gW0), (k11 A3gW0), (k10 A4gW0), (k20 A5gW0W0), (k20 A5gW0W1), (k20 A5gW0W2), (k10 A2gW1), (k11 A3gW1), (k10 A4gW1), (k20 A5gW1W0), (k20 A5gW1W1), (k20 A5gW1W2), (k20 A6gW0gW1)⟩
        · skip
          refine wpOp_step (o := _) rfl (fun KK hKK => ?_)
          rw [if_pos (wanted_nil _ rfl)]
          have e51 := U6.out (hw.out 6 (by kernel_rfl)); have E51_ := (E51 u).trans e51
          skip
          go_simp
          refine (l_toIntS _ order (by omega) _ (HA3.out.below hbw)).mono ?_; rintro e w2 ⟨vC3, rfl, OC3, hb⟩
          obtain ⟨yC3o, yC3c, rfl, -, -⟩ := OC3.shape
          have hbn := hb.size
          try dsimp only
          exact hKK _ _ ⟨_, P52 u _, yC0co, yC0cc, yC0uo, yC0uc, yC0vs, yC0eo, yC0ec, yC0ro, yC0rc, yC1o, yC1c, yC2o, yC2c, yC3o, yC3c, yW0co, yW0cc, yW0uo, yW0uc, yW0vs, yW0eo, yW0ec, yW0ro, yW0rc, yW1o, yW1c, yW2o, yW2c, gW0, gW1, (Lib.hid (hbw.trans (hb.mono (by rw [hps]; omega)))), (u10 U0), (u10 U1), (u10 U2), (u10 U3), (u10 U4), (u10 U5), (u10 U6), Lib.hid (fun h0 => frUpd_self), (u10 U8), (u10 U9), (u10 U10), (u10 U11), (u10 U12), (u10 U13), (u10 U14), (u10 U17), (m11 (fun h => h.below hb) OC0), (m11 (fun h => Own.below h hb) OC1), (m11 (fun h => Own.below h hb) OC2), Lib.hid (fun h0 m0 => Own.mono OC3 (by omega)), (m10 (fun h => h.below hb) OW0), (m10 (fun h => Own.below h hb) OW1), (m10 (fun h => Own.below h hb) OW2), (k10 DW0_1), (k10 DW0_2), (k10 DW1_2), (m10 (lt_grow hb.size) A2gW0), (m11 (fun h => h.below hb) A3gW0), (m10 (fun h => h.below hb) A4gW0), (k20 A5gW0W0), (k20 A5gW0W1), (k20 A5gW0W2), (m10 (lt_grow hb.size) A2gW1), (m11 (fun h => h.below hb) A3gW1), (m10 (fun h => h.below hb) A4gW1), (k20 A5gW1W0), (k20 A5gW1W1), (k20 A5gW1W2), (k20 A6gW0gW1)⟩
        · skip
          refine wpOp_step (o := _) rfl (fun KK hKK => ?_)
          rw [if_pos (wanted_nil _ rfl)]
          have e46 := U1.out (hw.out 1 (by kernel_rfl)); have E46_ := (E46 u).trans e46
          have e48 := U3.out (hw.out 3 (by kernel_rfl)); have E48_ := (E48 u).trans e48
          have e50 := U5.out (hw.out 5 (by kernel_rfl)); have E50_ := (E50 u).trans e50
          have e52 := U7.out (hw.out 7 (by kernel_rfl)); have E52_ := (E52 u).trans e52
          skip
          go_simp
          refine (HS.out _ _ _ _ _ (KOwn.at (OC0.out (hw.out 1 (by kernel_rfl)) hn)) (Own.at (OC1.out (hw.out 3 (by kernel_rfl)) hn) lenInt) (Own.at (OC2.out (hw.out 5 (by kernel_rfl)) hn) lenWr) (Own.at (OC3.out (hw.out 7 (by kernel_rfl)) hn) lenInt)).mono ?_; rintro e w2 ⟨yW0, vW1, vW2, rfl, OW0, OW1, OW2, DW0_1, DW0_2, DW1_2, hb⟩
          obtain ⟨yW0co, yW0cc, yW0uo, yW0uc, yW0vs, yW0eo, yW0ec, yW0ro, yW0rc, rfl⟩ := KOwn.shapes OW0
          obtain ⟨yW1o, yW1c, rfl, -, -⟩ := OW1.shape
          obtain ⟨yW2o, yW2c, rfl, -, -⟩ := OW2.shape
          simp only [KV.val]
          have hbn := hb.size
          try dsimp only
          exact hKK _ _ ⟨_, P53 u _, yC0co, yC0cc, yC0uo, yC0uc, yC0vs, yC0eo, yC0ec, yC0ro, yC0rc, yC1o, yC1c, yC2o, yC2c, yC3o, yC3c, yW0co, yW0cc, yW0uo, yW0uc, yW0vs, yW0eo, yW0ec, yW0ro, yW0rc, yW1o, yW1c, yW2o, yW2c, gW0, gW1, (Lib.hid (hbw.trans (hb.mono (by rw [hps]; omega)))), (u10 U0), (u10 U1), (u10 U2), (u10 U3), (u10 U4), (u10 U5), (u10 U6), (u10 U7), Lib.hid (fun h0 => frUpd_self), Lib.hid (fun h0 => absurd (hcl.out 9 8 (by kernel_rfl) (addD_of h0 (by decide))) hn), Lib.hid (fun h0 => absurd (hcl.out 9 8 (by kernel_rfl) (hcl.out 10 9 (by kernel_rfl) (addD_of h0 (by decide)))) hn), Lib.hid (fun h0 => absurd (hcl.out 9 8 (by kernel_rfl) (hcl.out 11 9 (by kernel_rfl) (addD_of h0 (by decide)))) hn), Lib.hid (fun h0 => absurd (hcl.out 9 8 (by kernel_rfl) (hcl.out 12 9 (by kernel_rfl) (addD_of h0 (by decide)))) hn), (u10 U13), (u10 U14), Lib.hid (fun h0 => absurd (hcl.out 9 8 (by kernel_rfl) (hcl.out 12 9 (by kernel_rfl) (hcl.out 17 12 (by kernel_rfl) (addD_of h0 (by decide))))) hn), x11, x11, x11, x11, Lib.hid (fun h0 => KOwn.mono OW0 (by omega)), Lib.hid (fun h0 => Own.mono OW1 (by omega)), Lib.hid (fun h0 => Own.mono OW2 (by omega)), Lib.hid (fun h0 => DW0_1), Lib.hid (fun h0 => DW0_2), Lib.hid (fun h0 => DW1_2), (m10 (lt_grow hb.size) A2gW0), (m11 (fun h => h.below hb) A3gW0), Lib.hid (fun h0 => absurd (hcl.out 9 8 (by kernel_rfl) (hcl.out 10 9 (by kernel_rfl) (hcl.out 15 10 (by kernel_rfl) (addD_of h0 (by decide))))) hn), Lib.hid (fun h0 h1 => fun hm => Nat.lt_irrefl _ (Nat.lt_of_lt_of_le (A2gW0.out (addD_of h0 (by decide))).2 (((OW0).lts) _ hm).1)), Lib.hid (fun h0 h1 => fun hm => Nat.lt_irrefl _ (Nat.lt_of_lt_of_le (A2gW0.out (addD_of h0 (by decide))).2 ((Own.lts (OW1)) _ hm).1)), Lib.hid (fun h0 h1 => fun hm => Nat.lt_irrefl _ (Nat.lt_of_lt_of_le (A2gW0.out (addD_of h0 (by decide))).2 ((Own.lts (OW2)) _ hm).1)), (m10 (lt_grow hb.size) A2gW1), (m11 (fun h => h.below hb) A3gW1), Lib.hid (fun h0 => absurd (hcl.out 9 8 (by kernel_rfl) (hcl.out 11 9 (by kernel_rfl) (hcl.out 16 11 (by kernel_rfl) (addD_of h0 (by decide))))) hn), Lib.hid (fun h0 h1 => fun hm => Nat.lt_irrefl _ (Nat.lt_of_lt_of_le (A2gW1.out (addD_of h0 (by decide))).2 (((OW0).lts) _ hm).1)), Lib.hid (fun h0 h1 => fun hm => Nat.lt_irrefl _ (Nat.lt_of_lt_of_le (A2gW1.out (addD_of h0 (by decide))).2 ((Own.lts (OW1)) _ hm).1)), Lib.hid (fun h0 h1 => fun hm => Nat.lt_irrefl _ (Nat.lt_of_lt_of_le (A2gW1.out (addD_of h0 (by decide))).2 ((Own.lts (OW2)) _ hm).1)), (k20 A6gW0gW1)⟩
        · skip
          refine wpOp_step (o := _) rfl (fun KK hKK => ?_)
          rw [if_pos (wanted_nil _ rfl)]
          have e53 := U8.out (hw.out 8 (by kernel_rfl)); have E53_ := (E53 u).trans e53
          skip
          go_simp
          exact hKK _ _ ⟨_, P44 u _, yC0co, yC0cc, yC0uo, yC0uc, yC0vs, yC0eo, yC0ec, yC0ro, yC0rc, yC1o, yC1c, yC2o, yC2c, yC3o, yC3c, yW0co, yW0cc, yW0uo, yW0uc, yW0vs, yW0eo, yW0ec, yW0ro, yW0rc, yW1o, yW1c, yW2o, yW2c, gW0, gW1, HBW, (u10 U0), (u10 U1), (u10 U2), (u10 U3), (u10 U4), (u10 U5), (u10 U6), (u10 U7), (u10 U8), Lib.hid (fun h0 => frUpd_self), (u10 U10), (u10 U11), (u10 U12), (u10 U13), (u10 U14), (u10 U17), (k11 OC0), (k11 OC1), (k11 OC2), (k11 OC3), (k10 OW0), (k10 OW1), (k10 OW2), (k10 DW0_1), (k10 DW0_2), (k10 DW1_2), (k10 A2gW0), (k11 A3gW0), (k10 A4gW0), (k20 A5gW0W0), (k20 A5gW0W1), (k20 A5gW0W2), (k10 A2gW1), (k11 A3gW1), (k10 A4gW1), (k20 A5gW1W0), (k20 A5gW1W1), (k20 A5gW1W2), (k20 A6gW0gW1)⟩
        · skip
          refine wpOp_step (o := _) rfl (fun KK hKK => ?_)
          rw [if_pos (wanted_nil _ rfl)]
          have e44 := U9.out (hw.out 9 (by kernel_rfl)); have E44_ := (E44 u).trans e44
          skip
          go_simp
          exact hKK _ _ ⟨_, P54 u _, yC0co, yC0cc, yC0uo, yC0uc, yC0vs, yC0eo, yC0ec, yC0ro, yC0rc, yC1o, yC1c, yC2o, yC2c, yC3o, yC3c, yW0co, yW0cc, yW0uo, yW0uc, yW0vs, yW0eo, yW0ec, yW0ro, yW0rc, yW1o, yW1c, yW2o, yW2c, gW0, gW1, HBW, (u10 U0), (u10 U1), (u10 U2), (u10 U3), (u10 U4), (u10 U5), (u10 U6), (u10 U7), (u10 U8), (u10 U9), Lib.hid (fun h0 => frUpd_self), (u10 U11), (u10 U12), (u10 U13), (u10 U14), (u10 U17), (k11 OC0), (k11 OC1), (k11 OC2), (k11 OC3), (k10 OW0), (k10 OW1), (k10 OW2), (k10 DW0_1), (k10 DW0_2), (k10 DW1_2), (k10 A2gW0), (k11 A3gW0), (k10 A4gW0), (k20 A5gW0W0), (k20 A5gW0W1), (k20 A5gW0W2), (k10 A2gW1), (k11 A3gW1), (k10 A4gW1), (k20 A5gW1W0), (k20 A5gW1W1), (k20 A5gW1W2), (k20 A6gW0gW1)⟩
        · skip
          refine wpOp_step (o := _) rfl (fun KK hKK => ?_)
          rw [if_pos (wanted_nil _ rfl)]
          have e44 := U9.out (hw.out 9 (by kernel_rfl)); have E44_ := (E44 u).trans e44
          skip
          go_simp
          exact hKK _ _ ⟨_, P55 u _, yC0co, yC0cc, yC0uo, yC0uc, yC0vs, yC0eo, yC0ec, yC0ro, yC0rc, yC1o, yC1c, yC2o, yC2c, yC3o, yC3c, yW0co, yW0cc, yW0uo, yW0uc, yW0vs, yW0eo, yW0ec, yW0ro, yW0rc, yW1o, yW1c, yW2o, yW2c, gW0, gW1, HBW, (u10 U0), (u10 U1), (u10 U2), (u10 U3), (u10 U4), (u10 U5), (u10 U6), (u10 U7), (u10 U8), (u10 U9), (u10 U10), Lib.hid (fun h0 => frUpd_self), (u10 U12), (u10 U13), (u10 U14), (u10 U17), (k11 OC0), (k11 OC1), (k11 OC2), (k11 OC3), (k10 OW0), (k10 OW1), (k10 OW2), (k10 DW0_1), (k10 DW0_2), (k10 DW1_2), (k10 A2gW0), (k11 A3gW0), (k10 A4gW0), (k20 A5gW0W0), (k20 A5gW0W1), (k20 A5gW0W2), (k10 A2gW1), (k11 A3gW1), (k10 A4gW1), (k20 A5gW1W0), (k20 A5gW1W1), (k20 A5gW1W2), (k20 A6gW0gW1)⟩
        · skip
          refine wpOp_step (o := _) rfl (fun KK hKK => ?_)
          rw [if_pos (wanted_nil _ rfl)]
          have e44 := U9.out (hw.out 9 (by kernel_rfl)); have E44_ := (E44 u).trans e44
          skip
          go_simp
          exact hKK _ _ ⟨_, P56 u _, yC0co, yC0cc, yC0uo, yC0uc, yC0vs, yC0eo, yC0ec, yC0ro, yC0rc, yC1o, yC1c, yC2o, yC2c, yC3o, yC3c, yW0co, yW0cc, yW0uo, yW0uc, yW0vs, yW0eo, yW0ec, yW0ro, yW0rc, yW1o, yW1c, yW2o, yW2c, gW0, gW1, HBW, (u10 U0), (u10 U1), (u10 U2), (u10 U3), (u10 U4), (u10 U5), (u10 U6), (u10 U7), (u10 U8), (u10 U9), (u10 U10), (u10 U11), Lib.hid (fun h0 => frUpd_self), (u10 U13), (u10 U14), (u10 U17), (k11 OC0), (k11 OC1), (k11 OC2), (k11 OC3), (k10 OW0), (k10 OW1), (k10 OW2), (k10 DW0_1), (k10 DW0_2), (k10 DW1_2), (k10 A2gW0), (k11 A3gW0), (k10 A4gW0), (k20 A5gW0W0), (k20 A5gW0W1), (k20 A5gW0W2), (k10 A2gW1), (k11 A3gW1), (k10 A4gW1), (k20 A5gW1W0), (k20 A5gW1W1), (k20 A5gW1W2), (k20 A6gW0gW1)⟩
        · skip
          refine wpOp_step (o := _) rfl (fun KK hKK => ?_)
          rw [if_pos (wanted_nil _ rfl)]
          skip
          go_simp
          have hb : Below wv.heap.size wv (wv.alloc (.cells #[.slice none 0 0, .slice none 0 0, .slice none 0 0, .int .i64 0, .slice none 0 0] 46)) := (Below.refl _ wv).alloc (Nat.le_refl _) (.cells #[.slice none 0 0, .slice none 0 0, .slice none 0 0, .int .i64 0, .slice none 0 0] 46)
          have hbn : wv.heap.size < (wv.alloc (.cells #[.slice none 0 0, .slice none 0 0, .slice none 0 0, .int .i64 0, .slice none 0 0] 46)).heap.size := by rw [World.size_alloc]; omega
          have BN : BoxAt (wv.alloc (.cells #[.slice none 0 0, .slice none 0 0, .slice none 0 0, .int .i64 0, .slice none 0 0] 46)) wv.heap.size [.slice none 0 0, .slice none 0 0, .slice none 0 0, .int .i64 0, .slice none 0 0] := (BoxAt.snoc (BoxAt.snoc (BoxAt.snoc (BoxAt.snoc (BoxAt.snoc (BoxAt.nil (w := (wv.alloc (.cells #[.slice none 0 0, .slice none 0 0, .slice none 0 0, .int .i64 0, .slice none 0 0] 46))) (g := wv.heap.size) (by go_simp)) (v := .slice none 0 0) (i := 0) rfl (by go_simp) (by go_simp)) (v := .slice none 0 0) (i := 1) rfl (by go_simp) (by go_simp)) (v := .slice none 0 0) (i := 2) rfl (by go_simp) (by go_simp)) (v := .int .i64 0) (i := 3) rfl (by go_simp) (by go_simp)) (v := .slice none 0 0) (i := 4) rfl (by go_simp) (by go_simp))
          exact hKK _ _ ⟨_, P10 u _, yC0co, yC0cc, yC0uo, yC0uc, yC0vs, yC0eo, yC0ec, yC0ro, yC0rc, yC1o, yC1c, yC2o, yC2c, yC3o, yC3c, yW0co, yW0cc, yW0uo, yW0uc, yW0vs, yW0eo, yW0ec, yW0ro, yW0rc, yW1o, yW1c, yW2o, yW2c, wv.heap.size, gW1, (Lib.hid (hbw.trans (hb.mono (by rw [hps]; omega)))), (u10 U0), (u10 U1), (u10 U2), (u10 U3), (u10 U4), (u10 U5), (u10 U6), (u10 U7), (u10 U8), (u10 U9), (u10 U10), (u10 U11), (u10 U12), Lib.hid (fun h0 => frUpd_self), (u10 U14), (u10 U17), (m11 (fun h => h.below hb) OC0), (m11 (fun h => Own.below h hb) OC1), (m11 (fun h => Own.below h hb) OC2), (m11 (fun h => Own.below h hb) OC3), (m10 (fun h => h.below hb) OW0), (m10 (fun h => Own.below h hb) OW1), (m10 (fun h => Own.below h hb) OW2), (k10 DW0_1), (k10 DW0_2), (k10 DW1_2), Lib.hid (fun h0 => ⟨by omega, hbn⟩), Lib.hid (fun h0 m0 => BN), Lib.hid (fun h0 => absurd (hcl.out 15 13 (by kernel_rfl) (addD_of h0 (by decide))) hn), Lib.hid (fun h0 h1 => fun hm => Nat.lt_irrefl _ ((((OW0.out (addD_of h1 (by decide)))).lts) _ hm).2), Lib.hid (fun h0 h1 => fun hm => Nat.lt_irrefl _ ((Own.lts ((OW1.out (addD_of h1 (by decide))))) _ hm).2), Lib.hid (fun h0 h1 => fun hm => Nat.lt_irrefl _ ((Own.lts ((OW2.out (addD_of h1 (by decide))))) _ hm).2), (m10 (lt_grow hb.size) A2gW1), (m11 (fun h => h.below hb) A3gW1), (m10 (fun h => h.below hb) A4gW1), (k20 A5gW1W0), (k20 A5gW1W1), (k20 A5gW1W2), Lib.hid (fun h0 h1 => Nat.ne_of_gt (A2gW1.out (addD_of h1 (by decide))).2)⟩
        · skip
          refine wpOp_step (o := _) rfl (fun KK hKK => ?_)
          rw [if_pos (wanted_nil _ rfl)]
          skip
          go_simp
          have hb : Below wv.heap.size wv (wv.alloc (.cells #[.int .i64 0, .int .i64 0, .slice none 0 0, .int .i64 0, .int .i64 0] 68)) := (Below.refl _ wv).alloc (Nat.le_refl _) (.cells #[.int .i64 0, .int .i64 0, .slice none 0 0, .int .i64 0, .int .i64 0] 68)
          have hbn : wv.heap.size < (wv.alloc (.cells #[.int .i64 0, .int .i64 0, .slice none 0 0, .int .i64 0, .int .i64 0] 68)).heap.size := by rw [World.size_alloc]; omega
          have BN : BoxAt (wv.alloc (.cells #[.int .i64 0, .int .i64 0, .slice none 0 0, .int .i64 0, .int .i64 0] 68)) wv.heap.size [.int .i64 0, .int .i64 0, .slice none 0 0, .int .i64 0, .int .i64 0] := (BoxAt.snoc (BoxAt.snoc (BoxAt.snoc (BoxAt.snoc (BoxAt.snoc (BoxAt.nil (w := (wv.alloc (.cells #[.int .i64 0, .int .i64 0, .slice none 0 0, .int .i64 0, .int .i64 0] 68))) (g := wv.heap.size) (by go_simp)) (v := .int .i64 0) (i := 0) rfl (by go_simp) (by go_simp)) (v := .int .i64 0) (i := 1) rfl (by go_simp) (by go_simp)) (v := .slice none 0 0) (i := 2) rfl (by go_simp) (by go_simp)) (v := .int .i64 0) (i := 3) rfl (by go_simp) (by go_simp)) (v := .int .i64 0) (i := 4) rfl (by go_simp) (by go_simp))
          exact hKK _ _ ⟨_, P11 u _, yC0co, yC0cc, yC0uo, yC0uc, yC0vs, yC0eo, yC0ec, yC0ro, yC0rc, yC1o, yC1c, yC2o, yC2c, yC3o, yC3c, yW0co, yW0cc, yW0uo, yW0uc, yW0vs, yW0eo, yW0ec, yW0ro, yW0rc, yW1o, yW1c, yW2o, yW2c, gW0, wv.heap.size, (Lib.hid (hbw.trans (hb.mono (by rw [hps]; omega)))), (u10 U0), (u10 U1), (u10 U2), (u10 U3), (u10 U4), (u10 U5), (u10 U6), (u10 U7), (u10 U8), (u10 U9), (u10 U10), (u10 U11), (u10 U12), (u10 U13), Lib.hid (fun h0 => frUpd_self), (u10 U17), (m11 (fun h => h.below hb) OC0), (m11 (fun h => Own.below h hb) OC1), (m11 (fun h => Own.below h hb) OC2), (m11 (fun h => Own.below h hb) OC3), (m10 (fun h => h.below hb) OW0), (m10 (fun h => Own.below h hb) OW1), (m10 (fun h => Own.below h hb) OW2), (k10 DW0_1), (k10 DW0_2), (k10 DW1_2), (m10 (lt_grow hb.size) A2gW0), (m11 (fun h => h.below hb) A3gW0), (m10 (fun h => h.below hb) A4gW0), (k20 A5gW0W0), (k20 A5gW0W1), (k20 A5gW0W2), Lib.hid (fun h0 => ⟨by omega, hbn⟩), Lib.hid (fun h0 m0 => BN), Lib.hid (fun h0 => absurd (hcl.out 16 14 (by kernel_rfl) (addD_of h0 (by decide))) hn), Lib.hid (fun h0 h1 => fun hm => Nat.lt_irrefl _ ((((OW0.out (addD_of h1 (by decide)))).lts) _ hm).2), Lib.hid (fun h0 h1 => fun hm => Nat.lt_irrefl _ ((Own.lts ((OW1.out (addD_of h1 (by decide))))) _ hm).2), Lib.hid (fun h0 h1 => fun hm => Nat.lt_irrefl _ ((Own.lts ((OW2.out (addD_of h1 (by decide))))) _ hm).2), Lib.hid (fun h0 h1 => Nat.ne_of_lt (A2gW0.out (addD_of h0 (by decide))).2)⟩
        · skip
          refine wpOp_step (o := _) rfl (fun KK hKK => ?_)
          rw [if_pos (wanted_nil _ rfl)]
          have e10 := U13.out (hw.out 13 (by kernel_rfl)); have E10_ := (E10 u).trans e10
          have e54 := U10.out (hw.out 10 (by kernel_rfl)); have E54_ := (E54 u).trans e54
          have bx := A3gW0.out (hw.out 13 (by kernel_rfl)) hn
          have c0 := (bx.cells 0 _ rfl).1; have f0 := (bx.cells 0 _ rfl).2
          have c1 := (bx.cells 1 _ rfl).1; have f1 := (bx.cells 1 _ rfl).2
          have c2 := (bx.cells 2 _ rfl).1; have f2 := (bx.cells 2 _ rfl).2
          have c3 := (bx.cells 3 _ rfl).1; have f3 := (bx.cells 3 _ rfl).2
          have c4 := (bx.cells 4 _ rfl).1; have f4 := (bx.cells 4 _ rfl).2
          have hgl := A2gW0.out (hw.out 13 (by kernel_rfl))
          skip
          go_simp
          have ht : Touch [gW0] wv (((((wv.setCell ⟨gW0, 0, none⟩ (.slice yW0co yW0vs.length yW0cc)).setCell ⟨gW0, 1, none⟩ (.slice yW0uo K2.m.f.used.length yW0uc)).setCell ⟨gW0, 2, none⟩ (.slice yW0eo K2.m.ents.length yW0ec)).setCell ⟨gW0, 3, none⟩ (.int .i64 (K2.calls))).setCell ⟨gW0, 4, none⟩ (.slice yW0ro K2.refuse.length yW0rc)) := touch_bx (touch_bx (touch_bx (touch_bx (touch_bx (Touch.refl [gW0] wv)))))
          have hb := ht.toBelow (B := wC.heap.size) (fun g hg => by have := List.mem_singleton.1 hg; omega) (by omega)
          have BN : BoxAt (((((wv.setCell ⟨gW0, 0, none⟩ (.slice yW0co yW0vs.length yW0cc)).setCell ⟨gW0, 1, none⟩ (.slice yW0uo K2.m.f.used.length yW0uc)).setCell ⟨gW0, 2, none⟩ (.slice yW0eo K2.m.ents.length yW0ec)).setCell ⟨gW0, 3, none⟩ (.int .i64 (K2.calls))).setCell ⟨gW0, 4, none⟩ (.slice yW0ro K2.refuse.length yW0rc)) gW0 [.slice yW0co yW0vs.length yW0cc, .slice yW0uo K2.m.f.used.length yW0uc, .slice yW0eo K2.m.ents.length yW0ec, .int .i64 (K2.calls), .slice yW0ro K2.refuse.length yW0rc] := (BoxAt.snoc (BoxAt.snoc (BoxAt.snoc (BoxAt.snoc (BoxAt.snoc (BoxAt.nil (w := (((((wv.setCell ⟨gW0, 0, none⟩ (.slice yW0co yW0vs.length yW0cc)).setCell ⟨gW0, 1, none⟩ (.slice yW0uo K2.m.f.used.length yW0uc)).setCell ⟨gW0, 2, none⟩ (.slice yW0eo K2.m.ents.length yW0ec)).setCell ⟨gW0, 3, none⟩ (.int .i64 (K2.calls))).setCell ⟨gW0, 4, none⟩ (.slice yW0ro K2.refuse.length yW0rc))) (g := gW0) (by have := ht.size; omega)) (v := .slice yW0co yW0vs.length yW0cc) (i := 0) rfl (by go_simp) (by go_simp)) (v := .slice yW0uo K2.m.f.used.length yW0uc) (i := 1) rfl (by go_simp) (by go_simp)) (v := .slice yW0eo K2.m.ents.length yW0ec) (i := 2) rfl (by go_simp) (by go_simp)) (v := .int .i64 (K2.calls)) (i := 3) rfl (by go_simp) (by go_simp)) (v := .slice yW0ro K2.refuse.length yW0rc) (i := 4) rfl (by go_simp) (by go_simp))
          have HDM : D 8 := (hcl.out 9 8 (by kernel_rfl) (hcl.out 10 9 (by kernel_rfl) (hw.out 10 (by kernel_rfl))))
          exact hKK _ _ ⟨u, rfl, yC0co, yC0cc, yC0uo, yC0uc, yC0vs, yC0eo, yC0ec, yC0ro, yC0rc, yC1o, yC1c, yC2o, yC2c, yC3o, yC3c, yW0co, yW0cc, yW0uo, yW0uc, yW0vs, yW0eo, yW0ec, yW0ro, yW0rc, yW1o, yW1c, yW2o, yW2c, gW0, gW1, (Lib.hid (hbw.trans (hb.mono (by rw [hps]; exact Nat.le_refl _)))), (k10 U0), (k10 U1), (k10 U2), (k10 U3), (k10 U4), (k10 U5), (k10 U6), (k10 U7), (k10 U8), (k10 U9), (k10 U10), (k10 U11), (k10 U12), (k10 U13), (k10 U14), (k10 U17), Lib.hid (fun h0 m0 => absurd (addD_mem HDM) m0), Lib.hid (fun h0 m0 => absurd (addD_mem HDM) m0), Lib.hid (fun h0 m0 => absurd (addD_mem HDM) m0), Lib.hid (fun h0 m0 => absurd (addD_mem HDM) m0), (md10 (fun d h => h.touch ht (fun g hg hm => by cases List.mem_singleton.1 hm; exact A5gW0W0.out (hw.out 13 (by kernel_rfl)) d hg)) OW0), (md10 (fun d h => Own.touchs h ht (fun g hg hm => by cases List.mem_singleton.1 hm; exact A5gW0W1.out (hw.out 13 (by kernel_rfl)) d hg)) OW1), (md10 (fun d h => Own.touchs h ht (fun g hg hm => by cases List.mem_singleton.1 hm; exact A5gW0W2.out (hw.out 13 (by kernel_rfl)) d hg)) OW2), (k10 DW0_1), (k10 DW0_2), (k10 DW1_2), (m10 (lt_grow ht.size) A2gW0), x11, Lib.hid (fun h0 => BN), (k20 A5gW0W0), (k20 A5gW0W1), (k20 A5gW0W2), (m10 (lt_grow ht.size) A2gW1), Lib.hid (fun h0 m0 => (A3gW1.out (addD_of h0 (by decide)) (fun x => m0 (addD_mem x))).touch ht (fun hm => (A6gW0gW1.out (hw.out 13 (by kernel_rfl)) (addD_of h0 (by decide))) (List.mem_singleton.1 hm).symm)), Lib.hid (fun h0 => (A4gW1.out (addD_of h0 (by decide))).touch ht (fun hm => (A6gW0gW1.out (hw.out 13 (by kernel_rfl)) (hcl.out 16 14 (by kernel_rfl) (addD_of h0 (by decide)))) (List.mem_singleton.1 hm).symm)), (k20 A5gW1W0), (k20 A5gW1W1), (k20 A5gW1W2), (k20 A6gW0gW1)⟩
        · skip
          refine wpOp_step (o := _) rfl (fun KK hKK => ?_)
          rw [if_pos (wanted_nil _ rfl)]
          have e11 := U14.out (hw.out 14 (by kernel_rfl)); have E11_ := (E11 u).trans e11
          have e55 := U11.out (hw.out 11 (by kernel_rfl)); have E55_ := (E55 u).trans e55
          have bx := A3gW1.out (hw.out 14 (by kernel_rfl)) hn
          have c0 := (bx.cells 0 _ rfl).1; have f0 := (bx.cells 0 _ rfl).2
          have c1 := (bx.cells 1 _ rfl).1; have f1 := (bx.cells 1 _ rfl).2
          have c2 := (bx.cells 2 _ rfl).1; have f2 := (bx.cells 2 _ rfl).2
          have c3 := (bx.cells 3 _ rfl).1; have f3 := (bx.cells 3 _ rfl).2
          have c4 := (bx.cells 4 _ rfl).1; have f4 := (bx.cells 4 _ rfl).2
          have hgl := A2gW1.out (hw.out 14 (by kernel_rfl))
          skip
          go_simp
          have ht : Touch [gW1] wv (((((wv.setCell ⟨gW1, 0, none⟩ (.int .i64 kp)).setCell ⟨gW1, 1, none⟩ (.int .i64 mv)).setCell ⟨gW1, 2, none⟩ (.slice yW1o cs.length yW1c)).setCell ⟨gW1, 3, none⟩ (.int .i64 ph2)).setCell ⟨gW1, 4, none⟩ (.int .i64 nx2)) := touch_bx (touch_bx (touch_bx (touch_bx (touch_bx (Touch.refl [gW1] wv)))))
          have hb := ht.toBelow (B := wC.heap.size) (fun g hg => by have := List.mem_singleton.1 hg; omega) (by omega)
          have BN : BoxAt (((((wv.setCell ⟨gW1, 0, none⟩ (.int .i64 kp)).setCell ⟨gW1, 1, none⟩ (.int .i64 mv)).setCell ⟨gW1, 2, none⟩ (.slice yW1o cs.length yW1c)).setCell ⟨gW1, 3, none⟩ (.int .i64 ph2)).setCell ⟨gW1, 4, none⟩ (.int .i64 nx2)) gW1 [.int .i64 kp, .int .i64 mv, .slice yW1o cs.length yW1c, .int .i64 ph2, .int .i64 nx2] := (BoxAt.snoc (BoxAt.snoc (BoxAt.snoc (BoxAt.snoc (BoxAt.snoc (BoxAt.nil (w := (((((wv.setCell ⟨gW1, 0, none⟩ (.int .i64 kp)).setCell ⟨gW1, 1, none⟩ (.int .i64 mv)).setCell ⟨gW1, 2, none⟩ (.slice yW1o cs.length yW1c)).setCell ⟨gW1, 3, none⟩ (.int .i64 ph2)).setCell ⟨gW1, 4, none⟩ (.int .i64 nx2))) (g := gW1) (by have := ht.size; omega)) (v := .int .i64 kp) (i := 0) rfl (by go_simp) (by go_simp)) (v := .int .i64 mv) (i := 1) rfl (by go_simp) (by go_simp)) (v := .slice yW1o cs.length yW1c) (i := 2) rfl (by go_simp) (by go_simp)) (v := .int .i64 ph2) (i := 3) rfl (by go_simp) (by go_simp)) (v := .int .i64 nx2) (i := 4) rfl (by go_simp) (by go_simp))
          have HDM : D 8 := (hcl.out 9 8 (by kernel_rfl) (hcl.out 11 9 (by kernel_rfl) (hw.out 11 (by kernel_rfl))))
          exact hKK _ _ ⟨u, rfl, yC0co, yC0cc, yC0uo, yC0uc, yC0vs, yC0eo, yC0ec, yC0ro, yC0rc, yC1o, yC1c, yC2o, yC2c, yC3o, yC3c, yW0co, yW0cc, yW0uo, yW0uc, yW0vs, yW0eo, yW0ec, yW0ro, yW0rc, yW1o, yW1c, yW2o, yW2c, gW0, gW1, (Lib.hid (hbw.trans (hb.mono (by rw [hps]; exact Nat.le_refl _)))), (k10 U0), (k10 U1), (k10 U2), (k10 U3), (k10 U4), (k10 U5), (k10 U6), (k10 U7), (k10 U8), (k10 U9), (k10 U10), (k10 U11), (k10 U12), (k10 U13), (k10 U14), (k10 U17), Lib.hid (fun h0 m0 => absurd (addD_mem HDM) m0), Lib.hid (fun h0 m0 => absurd (addD_mem HDM) m0), Lib.hid (fun h0 m0 => absurd (addD_mem HDM) m0), Lib.hid (fun h0 m0 => absurd (addD_mem HDM) m0), (md10 (fun d h => h.touch ht (fun g hg hm => by cases List.mem_singleton.1 hm; exact A5gW1W0.out (hw.out 14 (by kernel_rfl)) d hg)) OW0), (md10 (fun d h => Own.touchs h ht (fun g hg hm => by cases List.mem_singleton.1 hm; exact A5gW1W1.out (hw.out 14 (by kernel_rfl)) d hg)) OW1), (md10 (fun d h => Own.touchs h ht (fun g hg hm => by cases List.mem_singleton.1 hm; exact A5gW1W2.out (hw.out 14 (by kernel_rfl)) d hg)) OW2), (k10 DW0_1), (k10 DW0_2), (k10 DW1_2), (m10 (lt_grow ht.size) A2gW0), Lib.hid (fun h0 m0 => (A3gW0.out (addD_of h0 (by decide)) (fun x => m0 (addD_mem x))).touch ht (fun hm => (A6gW0gW1.out (addD_of h0 (by decide)) (hw.out 14 (by kernel_rfl))) (List.mem_singleton.1 hm))), Lib.hid (fun h0 => (A4gW0.out (addD_of h0 (by decide))).touch ht (fun hm => (A6gW0gW1.out (hcl.out 15 13 (by kernel_rfl) (addD_of h0 (by decide))) (hw.out 14 (by kernel_rfl))) (List.mem_singleton.1 hm))), (k20 A5gW0W0), (k20 A5gW0W1), (k20 A5gW0W2), (m10 (lt_grow ht.size) A2gW1), x11, Lib.hid (fun h0 => BN), (k20 A5gW1W0), (k20 A5gW1W1), (k20 A5gW1W2), (k20 A6gW0gW1)⟩
        · skip
          refine wpOp_step (o := _) rfl (fun KK hKK => ?_)
          rw [if_pos (wanted_nil _ rfl)]
          have e56 := U12.out (hw.out 12 (by kernel_rfl)); have E56_ := (E56 u).trans e56
          skip
          go_simp
          exact hKK _ _ ⟨_, P12 u _, yC0co, yC0cc, yC0uo, yC0uc, yC0vs, yC0eo, yC0ec, yC0ro, yC0rc, yC1o, yC1c, yC2o, yC2c, yC3o, yC3c, yW0co, yW0cc, yW0uo, yW0uc, yW0vs, yW0eo, yW0ec, yW0ro, yW0rc, yW1o, yW1c, yW2o, yW2c, gW0, gW1, HBW, (u10 U0), (u10 U1), (u10 U2), (u10 U3), (u10 U4), (u10 U5), (u10 U6), (u10 U7), (u10 U8), (u10 U9), (u10 U10), (u10 U11), (u10 U12), (u10 U13), (u10 U14), Lib.hid (fun h0 => frUpd_self), (k11 OC0), (k11 OC1), (k11 OC2), (k11 OC3), (k10 OW0), (k10 OW1), (k10 OW2), (k10 DW0_1), (k10 DW0_2), (k10 DW1_2), (k10 A2gW0), (k11 A3gW0), (k10 A4gW0), (k20 A5gW0W0), (k20 A5gW0W1), (k20 A5gW0W2), (k10 A2gW1), (k11 A3gW1), (k10 A4gW1), (k20 A5gW1W0), (k20 A5gW1W1), (k20 A5gW1W2), (k20 A6gW0gW1)⟩
      · rintro D u wv ⟨yC0co, yC0cc, yC0uo, yC0uc, yC0vs, yC0eo, yC0ec, yC0ro, yC0rc, yC1o, yC1c, yC2o, yC2c, yC3o, yC3c, yW0co, yW0cc, yW0uo, yW0uc, yW0vs, yW0eo, yW0ec, yW0ro, yW0rc, yW1o, yW1c, yW2o, yW2c, gW0, gW1, HBW, U0, U1, U2, U3, U4, U5, U6, U7, U8, U9, U10, U11, U12, U13, U14, U17, OC0, OC1, OC2, OC3, OW0, OW1, OW2, DW0_1, DW0_2, DW1_2, A2gW0, A3gW0, A4gW0, A5gW0W0, A5gW0W1, A5gW0W2, A2gW1, A3gW1, A4gW1, A5gW1W0, A5gW1W1, A5gW1W2, A6gW0gW1⟩ hall
        have d0 := hall 0 (by show 0 < 18; decide)
        have d1 := hall 1 (by show 1 < 18; decide)
        have d2 := hall 2 (by show 2 < 18; decide)
        have d3 := hall 3 (by show 3 < 18; decide)
        have d4 := hall 4 (by show 4 < 18; decide)
        have d5 := hall 5 (by show 5 < 18; decide)
        have d6 := hall 6 (by show 6 < 18; decide)
        have d7 := hall 7 (by show 7 < 18; decide)
        have d8 := hall 8 (by show 8 < 18; decide)
        have d9 := hall 9 (by show 9 < 18; decide)
        have d10 := hall 10 (by show 10 < 18; decide)
        have d11 := hall 11 (by show 11 < 18; decide)
        have d12 := hall 12 (by show 12 < 18; decide)
        have d13 := hall 13 (by show 13 < 18; decide)
        have d14 := hall 14 (by show 14 < 18; decide)
        have d15 := hall 15 (by show 15 < 18; decide)
        have d16 := hall 16 (by show 16 < 18; decide)
        have d17 := hall 17 (by show 17 < 18; decide)
        have ha1 := ha0.out; subst ha1
        simp only [frAll, frTo, List.setIfInBounds_toArray, List.set_cons_succ, List.set_cons_zero]
        go_wp2_with fail
        go_meet
        exact ⟨yW0co, yW0cc, yW0uo, yW0uc, yW0vs, yW0eo, yW0ec, yW0ro, yW0rc, yW1o, yW1c, yW2o, yW2c, gW0, gW1, (U13.out d13), (U14.out d14), (U17.out d17), (A4gW0.out d15), (A4gW1.out d16), (OW0.out d8), (OW1.out d8), (OW2.out d8), (A5gW0W0.out d13 d8), (A5gW0W1.out d13 d8), (A5gW0W2.out d13 d8), (A5gW1W0.out d14 d8), (A5gW1W1.out d14 d8), (A5gW1W2.out d14 d8), (DW0_1.out d8), (DW0_2.out d8), (DW1_2.out d8), (A2gW0.out d13).1, (A2gW1.out d14).1, HBW.out⟩
  obtain ⟨yW0co, yW0cc, yW0uo, yW0uc, yW0vs, yW0eo, yW0ec, yW0ro, yW0rc, yW1o, yW1c, yW2o, yW2c, gW0, gW1, rfl, rfl, rfl, BW0, BW1, OW0, OW1, OW2, NW0_W0, NW0_W1, NW0_W2, NW1_W0, NW1_W1, NW1_W2, DW0_1, DW0_2, DW1_2, hloW0, hloW1, hb⟩ := hcut
  obtain ⟨w2, rfl⟩ : ∃ x, x = wc := ⟨_, rfl⟩
  clear xP0 cP00 fP00 cP01 fP01 cP02 fP02 cP03 fP03 cP04 fP04
  clear xP1 cP10 fP10 cP11 fP11 cP12 fP12 cP13 fP13 cP14 fP14
  replace BP0 := Lib.hid (BP0.out.below hb)
  replace BP1 := Lib.hid (BP1.out.below hb)
  replace HA0 := Lib.hid (HA0.out.below hb)
  replace HA1 := Lib.hid (HA1.out.below hb)
  replace HA2 := Lib.hid (HA2.out.below hb)
  replace HA3 := Lib.hid (HA3.out.below hb)
  replace HT := Lib.hid (HT.out.trans (hb.mono HT.out.size))
  have zwD := hb.size; (try simp only [World.size_alloc] at zwD); clear hb; obtain ⟨wD, rfl⟩ : ∃ x, x = w2 := ⟨_, rfl⟩
  have hgtW0 := BW0.lt; replace BW0 := Lib.hid BW0
  have hgtW1 := BW1.lt; replace BW1 := Lib.hid BW1
  have LW0 := Lib.hid (OW0.lts); replace OW0 := Lib.hid OW0
  have LW1 := Lib.hid (Own.lts OW1); replace OW1 := Lib.hid OW1
  have LW2 := Lib.hid (Own.lts OW2); replace OW2 := Lib.hid OW2
  replace NW0_W0 := Lib.hid NW0_W0
  replace NW0_W1 := Lib.hid NW0_W1
  replace NW0_W2 := Lib.hid NW0_W2
  replace NW1_W0 := Lib.hid NW1_W0
  replace NW1_W1 := Lib.hid NW1_W1
  replace NW1_W2 := Lib.hid NW1_W2
  replace DW0_1 := Lib.hid DW0_1
  replace DW0_2 := Lib.hid DW0_2
  replace DW1_2 := Lib.hid DW1_2
  have cP00 := (BP0.out.cells 0 _ rfl).1; have fP00 := (BP0.out.cells 0 _ rfl).2
  have cP01 := (BP0.out.cells 1 _ rfl).1; have fP01 := (BP0.out.cells 1 _ rfl).2
  have cP02 := (BP0.out.cells 2 _ rfl).1; have fP02 := (BP0.out.cells 2 _ rfl).2
  have cP03 := (BP0.out.cells 3 _ rfl).1; have fP03 := (BP0.out.cells 3 _ rfl).2
  have cP04 := (BP0.out.cells 4 _ rfl).1; have fP04 := (BP0.out.cells 4 _ rfl).2
  have xP0 := BP0.out.lt
  go_wp2_with fail
  refine (l_toKernel x K (by omega) _ HA0.out).mono ?_; rintro e w2 ⟨yX0, rfl, OX0, hb⟩
  clear xP0 cP00 fP00 cP01 fP01 cP02 fP02 cP03 fP03 cP04 fP04
  obtain ⟨yX0co, yX0cc, yX0uo, yX0uc, yX0vs, yX0eo, yX0ec, yX0ro, yX0rc, rfl⟩ := KOwn.shapes OX0
  have LX0 := Lib.hid (OX0.lts); replace OX0 := Lib.hid OX0
  replace BP0 := Lib.hid (BP0.out.below hb)
  replace BP1 := Lib.hid (BP1.out.below hb)
  replace BW0 := Lib.hid (BW0.out.below hb)
  replace BW1 := Lib.hid (BW1.out.below hb)
  replace OW0 := Lib.hid (OW0.out.below hb)
  replace OW1 := Lib.hid (Own.below OW1.out hb)
  replace OW2 := Lib.hid (Own.below OW2.out hb)
  replace HA0 := Lib.hid (HA0.out.below hb)
  replace HA1 := Lib.hid (HA1.out.below hb)
  replace HA2 := Lib.hid (HA2.out.below hb)
  replace HA3 := Lib.hid (HA3.out.below hb)
  replace HT := Lib.hid (HT.out.trans (hb.mono HT.out.size))
  have zwE := hb.size; (try simp only [World.size_alloc] at zwE); clear hb; obtain ⟨wE, rfl⟩ : ∃ x, x = w2 := ⟨_, rfl⟩
  simp only [KV.val]
  replace BP0 := Lib.hid (BP0.out.below ((Below.refl _ wE).alloc (Nat.le_refl _) (.cells #[.slice yX0co yX0vs.length yX0cc, .slice yX0uo K.m.f.used.length yX0uc, .slice yX0eo K.m.ents.length yX0ec, .int .i64 (K.calls), .slice yX0ro K.refuse.length yX0rc] 46)))
  replace BP1 := Lib.hid (BP1.out.below ((Below.refl _ wE).alloc (Nat.le_refl _) (.cells #[.slice yX0co yX0vs.length yX0cc, .slice yX0uo K.m.f.used.length yX0uc, .slice yX0eo K.m.ents.length yX0ec, .int .i64 (K.calls), .slice yX0ro K.refuse.length yX0rc] 46)))
  replace BW0 := Lib.hid (BW0.out.below ((Below.refl _ wE).alloc (Nat.le_refl _) (.cells #[.slice yX0co yX0vs.length yX0cc, .slice yX0uo K.m.f.used.length yX0uc, .slice yX0eo K.m.ents.length yX0ec, .int .i64 (K.calls), .slice yX0ro K.refuse.length yX0rc] 46)))
  replace BW1 := Lib.hid (BW1.out.below ((Below.refl _ wE).alloc (Nat.le_refl _) (.cells #[.slice yX0co yX0vs.length yX0cc, .slice yX0uo K.m.f.used.length yX0uc, .slice yX0eo K.m.ents.length yX0ec, .int .i64 (K.calls), .slice yX0ro K.refuse.length yX0rc] 46)))
  replace OW0 := Lib.hid (OW0.out.below ((Below.refl _ wE).alloc (Nat.le_refl _) (.cells #[.slice yX0co yX0vs.length yX0cc, .slice yX0uo K.m.f.used.length yX0uc, .slice yX0eo K.m.ents.length yX0ec, .int .i64 (K.calls), .slice yX0ro K.refuse.length yX0rc] 46)))
  replace OW1 := Lib.hid (Own.below OW1.out ((Below.refl _ wE).alloc (Nat.le_refl _) (.cells #[.slice yX0co yX0vs.length yX0cc, .slice yX0uo K.m.f.used.length yX0uc, .slice yX0eo K.m.ents.length yX0ec, .int .i64 (K.calls), .slice yX0ro K.refuse.length yX0rc] 46)))
  replace OW2 := Lib.hid (Own.below OW2.out ((Below.refl _ wE).alloc (Nat.le_refl _) (.cells #[.slice yX0co yX0vs.length yX0cc, .slice yX0uo K.m.f.used.length yX0uc, .slice yX0eo K.m.ents.length yX0ec, .int .i64 (K.calls), .slice yX0ro K.refuse.length yX0rc] 46)))
  replace OX0 := Lib.hid (OX0.out.below ((Below.refl _ wE).alloc (Nat.le_refl _) (.cells #[.slice yX0co yX0vs.length yX0cc, .slice yX0uo K.m.f.used.length yX0uc, .slice yX0eo K.m.ents.length yX0ec, .int .i64 (K.calls), .slice yX0ro K.refuse.length yX0rc] 46)))
  replace HA0 := Lib.hid (HA0.out.below ((Below.refl _ wE).alloc (Nat.le_refl _) (.cells #[.slice yX0co yX0vs.length yX0cc, .slice yX0uo K.m.f.used.length yX0uc, .slice yX0eo K.m.ents.length yX0ec, .int .i64 (K.calls), .slice yX0ro K.refuse.length yX0rc] 46)))
  replace HA1 := Lib.hid (HA1.out.below ((Below.refl _ wE).alloc (Nat.le_refl _) (.cells #[.slice yX0co yX0vs.length yX0cc, .slice yX0uo K.m.f.used.length yX0uc, .slice yX0eo K.m.ents.length yX0ec, .int .i64 (K.calls), .slice yX0ro K.refuse.length yX0rc] 46)))
  replace HA2 := Lib.hid (HA2.out.below ((Below.refl _ wE).alloc (Nat.le_refl _) (.cells #[.slice yX0co yX0vs.length yX0cc, .slice yX0uo K.m.f.used.length yX0uc, .slice yX0eo K.m.ents.length yX0ec, .int .i64 (K.calls), .slice yX0ro K.refuse.length yX0rc] 46)))
  replace HA3 := Lib.hid (HA3.out.below ((Below.refl _ wE).alloc (Nat.le_refl _) (.cells #[.slice yX0co yX0vs.length yX0cc, .slice yX0uo K.m.f.used.length yX0uc, .slice yX0eo K.m.ents.length yX0ec, .int .i64 (K.calls), .slice yX0ro K.refuse.length yX0rc] 46)))
  replace HT := Lib.hid (HT.out.trans (((Below.refl _ wE).alloc (Nat.le_refl _) (.cells #[.slice yX0co yX0vs.length yX0cc, .slice yX0uo K.m.f.used.length yX0uc, .slice yX0eo K.m.ents.length yX0ec, .int .i64 (K.calls), .slice yX0ro K.refuse.length yX0rc] 46)).mono HT.out.size))
  have BX0 : Hid (BoxAt (wE.alloc (.cells #[.slice yX0co yX0vs.length yX0cc, .slice yX0uo K.m.f.used.length yX0uc, .slice yX0eo K.m.ents.length yX0ec, .int .i64 (K.calls), .slice yX0ro K.refuse.length yX0rc] 46)) (wE.heap.size) [.slice yX0co yX0vs.length yX0cc, .slice yX0uo K.m.f.used.length yX0uc, .slice yX0eo K.m.ents.length yX0ec, .int .i64 (K.calls), .slice yX0ro K.refuse.length yX0rc]) := (BoxAt.snoc (BoxAt.snoc (BoxAt.snoc (BoxAt.snoc (BoxAt.snoc (BoxAt.nil (w := wE.alloc (.cells #[.slice yX0co yX0vs.length yX0cc, .slice yX0uo K.m.f.used.length yX0uc, .slice yX0eo K.m.ents.length yX0ec, .int .i64 (K.calls), .slice yX0ro K.refuse.length yX0rc] 46)) (g := wE.heap.size) (by go_simp)) (v := .slice yX0co yX0vs.length yX0cc) (i := 0) rfl (by go_simp) (by go_simp)) (v := .slice yX0uo K.m.f.used.length yX0uc) (i := 1) rfl (by go_simp) (by go_simp)) (v := .slice yX0eo K.m.ents.length yX0ec) (i := 2) rfl (by go_simp) (by go_simp)) (v := .int .i64 (K.calls)) (i := 3) rfl (by go_simp) (by go_simp)) (v := .slice yX0ro K.refuse.length yX0rc) (i := 4) rfl (by go_simp) (by go_simp))
  have cP10 := (BP1.out.cells 0 _ rfl).1; have fP10 := (BP1.out.cells 0 _ rfl).2
  have cP11 := (BP1.out.cells 1 _ rfl).1; have fP11 := (BP1.out.cells 1 _ rfl).2
  have cP12 := (BP1.out.cells 2 _ rfl).1; have fP12 := (BP1.out.cells 2 _ rfl).2
  have cP13 := (BP1.out.cells 3 _ rfl).1; have fP13 := (BP1.out.cells 3 _ rfl).2
  have cP14 := (BP1.out.cells 4 _ rfl).1; have fP14 := (BP1.out.cells 4 _ rfl).2
  have xP1 := BP1.out.lt
  go_wp2_with fail
  refine (l_toJob kp mv c cs ph nx (by omega) _ HA1.out).mono ?_; rintro e w2 ⟨vX1, rfl, OX1, hb⟩
  clear xP1 cP10 fP10 cP11 fP11 cP12 fP12 cP13 fP13 cP14 fP14
  obtain ⟨yX1o, yX1c, rfl, -, -⟩ := OX1.shape
  have LX1 := Lib.hid (Own.lts OX1); replace OX1 := Lib.hid OX1
  replace BP0 := Lib.hid (BP0.out.below hb)
  replace BP1 := Lib.hid (BP1.out.below hb)
  replace BW0 := Lib.hid (BW0.out.below hb)
  replace BW1 := Lib.hid (BW1.out.below hb)
  replace BX0 := Lib.hid (BX0.out.below hb)
  replace OW0 := Lib.hid (OW0.out.below hb)
  replace OW1 := Lib.hid (Own.below OW1.out hb)
  replace OW2 := Lib.hid (Own.below OW2.out hb)
  replace OX0 := Lib.hid (OX0.out.below hb)
  replace HA0 := Lib.hid (HA0.out.below hb)
  replace HA1 := Lib.hid (HA1.out.below hb)
  replace HA2 := Lib.hid (HA2.out.below hb)
  replace HA3 := Lib.hid (HA3.out.below hb)
  replace HT := Lib.hid (HT.out.trans (hb.mono HT.out.size))
  have zwF := hb.size; (try simp only [World.size_alloc] at zwF); clear hb; obtain ⟨wF, rfl⟩ : ∃ x, x = w2 := ⟨_, rfl⟩
  skip
  replace BP0 := Lib.hid (BP0.out.below ((Below.refl _ wF).alloc (Nat.le_refl _) (.cells #[.int .i64 kp, .int .i64 mv, .slice yX1o cs.length yX1c, .int .i64 ph, .int .i64 nx] 68)))
  replace BP1 := Lib.hid (BP1.out.below ((Below.refl _ wF).alloc (Nat.le_refl _) (.cells #[.int .i64 kp, .int .i64 mv, .slice yX1o cs.length yX1c, .int .i64 ph, .int .i64 nx] 68)))
  replace BW0 := Lib.hid (BW0.out.below ((Below.refl _ wF).alloc (Nat.le_refl _) (.cells #[.int .i64 kp, .int .i64 mv, .slice yX1o cs.length yX1c, .int .i64 ph, .int .i64 nx] 68)))
  replace BW1 := Lib.hid (BW1.out.below ((Below.refl _ wF).alloc (Nat.le_refl _) (.cells #[.int .i64 kp, .int .i64 mv, .slice yX1o cs.length yX1c, .int .i64 ph, .int .i64 nx] 68)))
  replace BX0 := Lib.hid (BX0.out.below ((Below.refl _ wF).alloc (Nat.le_refl _) (.cells #[.int .i64 kp, .int .i64 mv, .slice yX1o cs.length yX1c, .int .i64 ph, .int .i64 nx] 68)))
  replace OW0 := Lib.hid (OW0.out.below ((Below.refl _ wF).alloc (Nat.le_refl _) (.cells #[.int .i64 kp, .int .i64 mv, .slice yX1o cs.length yX1c, .int .i64 ph, .int .i64 nx] 68)))
  replace OW1 := Lib.hid (Own.below OW1.out ((Below.refl _ wF).alloc (Nat.le_refl _) (.cells #[.int .i64 kp, .int .i64 mv, .slice yX1o cs.length yX1c, .int .i64 ph, .int .i64 nx] 68)))
  replace OW2 := Lib.hid (Own.below OW2.out ((Below.refl _ wF).alloc (Nat.le_refl _) (.cells #[.int .i64 kp, .int .i64 mv, .slice yX1o cs.length yX1c, .int .i64 ph, .int .i64 nx] 68)))
  replace OX0 := Lib.hid (OX0.out.below ((Below.refl _ wF).alloc (Nat.le_refl _) (.cells #[.int .i64 kp, .int .i64 mv, .slice yX1o cs.length yX1c, .int .i64 ph, .int .i64 nx] 68)))
  replace OX1 := Lib.hid (Own.below OX1.out ((Below.refl _ wF).alloc (Nat.le_refl _) (.cells #[.int .i64 kp, .int .i64 mv, .slice yX1o cs.length yX1c, .int .i64 ph, .int .i64 nx] 68)))
  replace HA0 := Lib.hid (HA0.out.below ((Below.refl _ wF).alloc (Nat.le_refl _) (.cells #[.int .i64 kp, .int .i64 mv, .slice yX1o cs.length yX1c, .int .i64 ph, .int .i64 nx] 68)))
  replace HA1 := Lib.hid (HA1.out.below ((Below.refl _ wF).alloc (Nat.le_refl _) (.cells #[.int .i64 kp, .int .i64 mv, .slice yX1o cs.length yX1c, .int .i64 ph, .int .i64 nx] 68)))
  replace HA2 := Lib.hid (HA2.out.below ((Below.refl _ wF).alloc (Nat.le_refl _) (.cells #[.int .i64 kp, .int .i64 mv, .slice yX1o cs.length yX1c, .int .i64 ph, .int .i64 nx] 68)))
  replace HA3 := Lib.hid (HA3.out.below ((Below.refl _ wF).alloc (Nat.le_refl _) (.cells #[.int .i64 kp, .int .i64 mv, .slice yX1o cs.length yX1c, .int .i64 ph, .int .i64 nx] 68)))
  replace HT := Lib.hid (HT.out.trans (((Below.refl _ wF).alloc (Nat.le_refl _) (.cells #[.int .i64 kp, .int .i64 mv, .slice yX1o cs.length yX1c, .int .i64 ph, .int .i64 nx] 68)).mono HT.out.size))
  have BX1 : Hid (BoxAt (wF.alloc (.cells #[.int .i64 kp, .int .i64 mv, .slice yX1o cs.length yX1c, .int .i64 ph, .int .i64 nx] 68)) (wF.heap.size) [.int .i64 kp, .int .i64 mv, .slice yX1o cs.length yX1c, .int .i64 ph, .int .i64 nx]) := (BoxAt.snoc (BoxAt.snoc (BoxAt.snoc (BoxAt.snoc (BoxAt.snoc (BoxAt.nil (w := wF.alloc (.cells #[.int .i64 kp, .int .i64 mv, .slice yX1o cs.length yX1c, .int .i64 ph, .int .i64 nx] 68)) (g := wF.heap.size) (by go_simp)) (v := .int .i64 kp) (i := 0) rfl (by go_simp) (by go_simp)) (v := .int .i64 mv) (i := 1) rfl (by go_simp) (by go_simp)) (v := .slice yX1o cs.length yX1c) (i := 2) rfl (by go_simp) (by go_simp)) (v := .int .i64 ph) (i := 3) rfl (by go_simp) (by go_simp)) (v := .int .i64 nx) (i := 4) rfl (by go_simp) (by go_simp))
  go_wp2_with fail
  refine (l_toWriterS _ xs (by omega) _ HA2.out).mono ?_; rintro e w2 ⟨vX2, rfl, OX2, hb⟩
  obtain ⟨yX2o, yX2c, rfl, -, -⟩ := OX2.shape
  have LX2 := Lib.hid (Own.lts OX2); replace OX2 := Lib.hid OX2
  replace BP0 := Lib.hid (BP0.out.below hb)
  replace BP1 := Lib.hid (BP1.out.below hb)
  replace BW0 := Lib.hid (BW0.out.below hb)
  replace BW1 := Lib.hid (BW1.out.below hb)
  replace BX0 := Lib.hid (BX0.out.below hb)
  replace BX1 := Lib.hid (BX1.out.below hb)
  replace OW0 := Lib.hid (OW0.out.below hb)
  replace OW1 := Lib.hid (Own.below OW1.out hb)
  replace OW2 := Lib.hid (Own.below OW2.out hb)
  replace OX0 := Lib.hid (OX0.out.below hb)
  replace OX1 := Lib.hid (Own.below OX1.out hb)
  replace HA0 := Lib.hid (HA0.out.below hb)
  replace HA1 := Lib.hid (HA1.out.below hb)
  replace HA2 := Lib.hid (HA2.out.below hb)
  replace HA3 := Lib.hid (HA3.out.below hb)
  replace HT := Lib.hid (HT.out.trans (hb.mono HT.out.size))
  have zwG := hb.size; (try simp only [World.size_alloc] at zwG); clear hb; obtain ⟨wG, rfl⟩ : ∃ x, x = w2 := ⟨_, rfl⟩
  skip
  go_wp2_with fail
  refine (l_toIntS _ order (by omega) _ HA3.out).mono ?_; rintro e w2 ⟨vX3, rfl, OX3, hb⟩
  obtain ⟨yX3o, yX3c, rfl, -, -⟩ := OX3.shape
  have LX3 := Lib.hid (Own.lts OX3); replace OX3 := Lib.hid OX3
  replace BP0 := Lib.hid (BP0.out.below hb)
  replace BP1 := Lib.hid (BP1.out.below hb)
  replace BW0 := Lib.hid (BW0.out.below hb)
  replace BW1 := Lib.hid (BW1.out.below hb)
  replace BX0 := Lib.hid (BX0.out.below hb)
  replace BX1 := Lib.hid (BX1.out.below hb)
  replace OW0 := Lib.hid (OW0.out.below hb)
  replace OW1 := Lib.hid (Own.below OW1.out hb)
  replace OW2 := Lib.hid (Own.below OW2.out hb)
  replace OX0 := Lib.hid (OX0.out.below hb)
  replace OX1 := Lib.hid (Own.below OX1.out hb)
  replace OX2 := Lib.hid (Own.below OX2.out hb)
  replace HA0 := Lib.hid (HA0.out.below hb)
  replace HA1 := Lib.hid (HA1.out.below hb)
  replace HA2 := Lib.hid (HA2.out.below hb)
  replace HA3 := Lib.hid (HA3.out.below hb)
  replace HT := Lib.hid (HT.out.trans (hb.mono HT.out.size))
  have zwH := hb.size; (try simp only [World.size_alloc] at zwH); clear hb; obtain ⟨wH, rfl⟩ : ∃ x, x = w2 := ⟨_, rfl⟩
  skip
  have cX00 := (BX0.out.cells 0 _ rfl).1; have fX00 := (BX0.out.cells 0 _ rfl).2
  have cX01 := (BX0.out.cells 1 _ rfl).1; have fX01 := (BX0.out.cells 1 _ rfl).2
  have cX02 := (BX0.out.cells 2 _ rfl).1; have fX02 := (BX0.out.cells 2 _ rfl).2
  have cX03 := (BX0.out.cells 3 _ rfl).1; have fX03 := (BX0.out.cells 3 _ rfl).2
  have cX04 := (BX0.out.cells 4 _ rfl).1; have fX04 := (BX0.out.cells 4 _ rfl).2
  have xX0 := BX0.out.lt
  have cX10 := (BX1.out.cells 0 _ rfl).1; have fX10 := (BX1.out.cells 0 _ rfl).2
  have cX11 := (BX1.out.cells 1 _ rfl).1; have fX11 := (BX1.out.cells 1 _ rfl).2
  have cX12 := (BX1.out.cells 2 _ rfl).1; have fX12 := (BX1.out.cells 2 _ rfl).2
  have cX13 := (BX1.out.cells 3 _ rfl).1; have fX13 := (BX1.out.cells 3 _ rfl).2
  have cX14 := (BX1.out.cells 4 _ rfl).1; have fX14 := (BX1.out.cells 4 _ rfl).2
  have xX1 := BX1.out.lt
  go_wp2_with fail
  refine (HI.out _ _ _ _ _ (KOwn.at OX0.out) (Own.at OX1.out lenInt) (Own.at OX2.out lenWr) (Own.at OX3.out lenInt)).mono ?_; rintro e w2 ⟨yG0, vG1, vG2, rfl, OG0, OG1, OG2, DG0_1, DG0_2, DG1_2, hb⟩
  clear xX0 cX00 fX00 cX01 fX01 cX02 fX02 cX03 fX03 cX04 fX04
  clear xX1 cX10 fX10 cX11 fX11 cX12 fX12 cX13 fX13 cX14 fX14
  obtain ⟨yG0co, yG0cc, yG0uo, yG0uc, yG0vs, yG0eo, yG0ec, yG0ro, yG0rc, rfl⟩ := KOwn.shapes OG0
  have LG0 := Lib.hid (OG0.lts); replace OG0 := Lib.hid OG0
  obtain ⟨yG1o, yG1c, rfl, -, -⟩ := OG1.shape
  have LG1 := Lib.hid (Own.lts OG1); replace OG1 := Lib.hid OG1
  obtain ⟨yG2o, yG2c, rfl, -, -⟩ := OG2.shape
  have LG2 := Lib.hid (Own.lts OG2); replace OG2 := Lib.hid OG2
  replace DG0_1 := Lib.hid DG0_1
  replace DG0_2 := Lib.hid DG0_2
  replace DG1_2 := Lib.hid DG1_2
  replace BP0 := Lib.hid (BP0.out.below hb)
  replace BP1 := Lib.hid (BP1.out.below hb)
  replace BW0 := Lib.hid (BW0.out.below hb)
  replace BW1 := Lib.hid (BW1.out.below hb)
  replace BX0 := Lib.hid (BX0.out.below hb)
  replace BX1 := Lib.hid (BX1.out.below hb)
  replace OW0 := Lib.hid (OW0.out.below hb)
  replace OW1 := Lib.hid (Own.below OW1.out hb)
  replace OW2 := Lib.hid (Own.below OW2.out hb)
  replace OX0 := Lib.hid (OX0.out.below hb)
  replace OX1 := Lib.hid (Own.below OX1.out hb)
  replace OX2 := Lib.hid (Own.below OX2.out hb)
  replace OX3 := Lib.hid (Own.below OX3.out hb)
  replace HA0 := Lib.hid (HA0.out.below hb)
  replace HA1 := Lib.hid (HA1.out.below hb)
  replace HA2 := Lib.hid (HA2.out.below hb)
  replace HA3 := Lib.hid (HA3.out.below hb)
  replace HT := Lib.hid (HT.out.trans (hb.mono HT.out.size))
  have zwI := hb.size; (try simp only [World.size_alloc] at zwI); clear hb; obtain ⟨wI, rfl⟩ : ∃ x, x = w2 := ⟨_, rfl⟩
  simp only [KV.val]
  replace BP0 := Lib.hid (BP0.out.below ((Below.refl _ wI).alloc (Nat.le_refl _) (.cells #[.slice yG0co yG0vs.length yG0cc, .slice yG0uo K2.m.f.used.length yG0uc, .slice yG0eo K2.m.ents.length yG0ec, .int .i64 (K2.calls), .slice yG0ro K2.refuse.length yG0rc] 46)))
  replace BP1 := Lib.hid (BP1.out.below ((Below.refl _ wI).alloc (Nat.le_refl _) (.cells #[.slice yG0co yG0vs.length yG0cc, .slice yG0uo K2.m.f.used.length yG0uc, .slice yG0eo K2.m.ents.length yG0ec, .int .i64 (K2.calls), .slice yG0ro K2.refuse.length yG0rc] 46)))
  replace BW0 := Lib.hid (BW0.out.below ((Below.refl _ wI).alloc (Nat.le_refl _) (.cells #[.slice yG0co yG0vs.length yG0cc, .slice yG0uo K2.m.f.used.length yG0uc, .slice yG0eo K2.m.ents.length yG0ec, .int .i64 (K2.calls), .slice yG0ro K2.refuse.length yG0rc] 46)))
  replace BW1 := Lib.hid (BW1.out.below ((Below.refl _ wI).alloc (Nat.le_refl _) (.cells #[.slice yG0co yG0vs.length yG0cc, .slice yG0uo K2.m.f.used.length yG0uc, .slice yG0eo K2.m.ents.length yG0ec, .int .i64 (K2.calls), .slice yG0ro K2.refuse.length yG0rc] 46)))
  replace BX0 := Lib.hid (BX0.out.below ((Below.refl _ wI).alloc (Nat.le_refl _) (.cells #[.slice yG0co yG0vs.length yG0cc, .slice yG0uo K2.m.f.used.length yG0uc, .slice yG0eo K2.m.ents.length yG0ec, .int .i64 (K2.calls), .slice yG0ro K2.refuse.length yG0rc] 46)))
  replace BX1 := Lib.hid (BX1.out.below ((Below.refl _ wI).alloc (Nat.le_refl _) (.cells #[.slice yG0co yG0vs.length yG0cc, .slice yG0uo K2.m.f.used.length yG0uc, .slice yG0eo K2.m.ents.length yG0ec, .int .i64 (K2.calls), .slice yG0ro K2.refuse.length yG0rc] 46)))
  replace OW0 := Lib.hid (OW0.out.below ((Below.refl _ wI).alloc (Nat.le_refl _) (.cells #[.slice yG0co yG0vs.length yG0cc, .slice yG0uo K2.m.f.used.length yG0uc, .slice yG0eo K2.m.ents.length yG0ec, .int .i64 (K2.calls), .slice yG0ro K2.refuse.length yG0rc] 46)))
  replace OW1 := Lib.hid (Own.below OW1.out ((Below.refl _ wI).alloc (Nat.le_refl _) (.cells #[.slice yG0co yG0vs.length yG0cc, .slice yG0uo K2.m.f.used.length yG0uc, .slice yG0eo K2.m.ents.length yG0ec, .int .i64 (K2.calls), .slice yG0ro K2.refuse.length yG0rc] 46)))
  replace OW2 := Lib.hid (Own.below OW2.out ((Below.refl _ wI).alloc (Nat.le_refl _) (.cells #[.slice yG0co yG0vs.length yG0cc, .slice yG0uo K2.m.f.used.length yG0uc, .slice yG0eo K2.m.ents.length yG0ec, .int .i64 (K2.calls), .slice yG0ro K2.refuse.length yG0rc] 46)))
  replace OX0 := Lib.hid (OX0.out.below ((Below.refl _ wI).alloc (Nat.le_refl _) (.cells #[.slice yG0co yG0vs.length yG0cc, .slice yG0uo K2.m.f.used.length yG0uc, .slice yG0eo K2.m.ents.length yG0ec, .int .i64 (K2.calls), .slice yG0ro K2.refuse.length yG0rc] 46)))
  replace OX1 := Lib.hid (Own.below OX1.out ((Below.refl _ wI).alloc (Nat.le_refl _) (.cells #[.slice yG0co yG0vs.length yG0cc, .slice yG0uo K2.m.f.used.length yG0uc, .slice yG0eo K2.m.ents.length yG0ec, .int .i64 (K2.calls), .slice yG0ro K2.refuse.length yG0rc] 46)))
  replace OX2 := Lib.hid (Own.below OX2.out ((Below.refl _ wI).alloc (Nat.le_refl _) (.cells #[.slice yG0co yG0vs.length yG0cc, .slice yG0uo K2.m.f.used.length yG0uc, .slice yG0eo K2.m.ents.length yG0ec, .int .i64 (K2.calls), .slice yG0ro K2.refuse.length yG0rc] 46)))
  replace OX3 := Lib.hid (Own.below OX3.out ((Below.refl _ wI).alloc (Nat.le_refl _) (.cells #[.slice yG0co yG0vs.length yG0cc, .slice yG0uo K2.m.f.used.length yG0uc, .slice yG0eo K2.m.ents.length yG0ec, .int .i64 (K2.calls), .slice yG0ro K2.refuse.length yG0rc] 46)))
  replace OG0 := Lib.hid (OG0.out.below ((Below.refl _ wI).alloc (Nat.le_refl _) (.cells #[.slice yG0co yG0vs.length yG0cc, .slice yG0uo K2.m.f.used.length yG0uc, .slice yG0eo K2.m.ents.length yG0ec, .int .i64 (K2.calls), .slice yG0ro K2.refuse.length yG0rc] 46)))
  replace OG1 := Lib.hid (Own.below OG1.out ((Below.refl _ wI).alloc (Nat.le_refl _) (.cells #[.slice yG0co yG0vs.length yG0cc, .slice yG0uo K2.m.f.used.length yG0uc, .slice yG0eo K2.m.ents.length yG0ec, .int .i64 (K2.calls), .slice yG0ro K2.refuse.length yG0rc] 46)))
  replace OG2 := Lib.hid (Own.below OG2.out ((Below.refl _ wI).alloc (Nat.le_refl _) (.cells #[.slice yG0co yG0vs.length yG0cc, .slice yG0uo K2.m.f.used.length yG0uc, .slice yG0eo K2.m.ents.length yG0ec, .int .i64 (K2.calls), .slice yG0ro K2.refuse.length yG0rc] 46)))
  replace HA0 := Lib.hid (HA0.out.below ((Below.refl _ wI).alloc (Nat.le_refl _) (.cells #[.slice yG0co yG0vs.length yG0cc, .slice yG0uo K2.m.f.used.length yG0uc, .slice yG0eo K2.m.ents.length yG0ec, .int .i64 (K2.calls), .slice yG0ro K2.refuse.length yG0rc] 46)))
  replace HA1 := Lib.hid (HA1.out.below ((Below.refl _ wI).alloc (Nat.le_refl _) (.cells #[.slice yG0co yG0vs.length yG0cc, .slice yG0uo K2.m.f.used.length yG0uc, .slice yG0eo K2.m.ents.length yG0ec, .int .i64 (K2.calls), .slice yG0ro K2.refuse.length yG0rc] 46)))
  replace HA2 := Lib.hid (HA2.out.below ((Below.refl _ wI).alloc (Nat.le_refl _) (.cells #[.slice yG0co yG0vs.length yG0cc, .slice yG0uo K2.m.f.used.length yG0uc, .slice yG0eo K2.m.ents.length yG0ec, .int .i64 (K2.calls), .slice yG0ro K2.refuse.length yG0rc] 46)))
  replace HA3 := Lib.hid (HA3.out.below ((Below.refl _ wI).alloc (Nat.le_refl _) (.cells #[.slice yG0co yG0vs.length yG0cc, .slice yG0uo K2.m.f.used.length yG0uc, .slice yG0eo K2.m.ents.length yG0ec, .int .i64 (K2.calls), .slice yG0ro K2.refuse.length yG0rc] 46)))
  replace HT := Lib.hid (HT.out.trans (((Below.refl _ wI).alloc (Nat.le_refl _) (.cells #[.slice yG0co yG0vs.length yG0cc, .slice yG0uo K2.m.f.used.length yG0uc, .slice yG0eo K2.m.ents.length yG0ec, .int .i64 (K2.calls), .slice yG0ro K2.refuse.length yG0rc] 46)).mono HT.out.size))
  have BG0 : Hid (BoxAt (wI.alloc (.cells #[.slice yG0co yG0vs.length yG0cc, .slice yG0uo K2.m.f.used.length yG0uc, .slice yG0eo K2.m.ents.length yG0ec, .int .i64 (K2.calls), .slice yG0ro K2.refuse.length yG0rc] 46)) (wI.heap.size) [.slice yG0co yG0vs.length yG0cc, .slice yG0uo K2.m.f.used.length yG0uc, .slice yG0eo K2.m.ents.length yG0ec, .int .i64 (K2.calls), .slice yG0ro K2.refuse.length yG0rc]) := (BoxAt.snoc (BoxAt.snoc (BoxAt.snoc (BoxAt.snoc (BoxAt.snoc (BoxAt.nil (w := wI.alloc (.cells #[.slice yG0co yG0vs.length yG0cc, .slice yG0uo K2.m.f.used.length yG0uc, .slice yG0eo K2.m.ents.length yG0ec, .int .i64 (K2.calls), .slice yG0ro K2.refuse.length yG0rc] 46)) (g := wI.heap.size) (by go_simp)) (v := .slice yG0co yG0vs.length yG0cc) (i := 0) rfl (by go_simp) (by go_simp)) (v := .slice yG0uo K2.m.f.used.length yG0uc) (i := 1) rfl (by go_simp) (by go_simp)) (v := .slice yG0eo K2.m.ents.length yG0ec) (i := 2) rfl (by go_simp) (by go_simp)) (v := .int .i64 (K2.calls)) (i := 3) rfl (by go_simp) (by go_simp)) (v := .slice yG0ro K2.refuse.length yG0rc) (i := 4) rfl (by go_simp) (by go_simp))
  replace BP0 := Lib.hid (BP0.out.below ((Below.refl _ (wI.alloc (.cells #[.slice yG0co yG0vs.length yG0cc, .slice yG0uo K2.m.f.used.length yG0uc, .slice yG0eo K2.m.ents.length yG0ec, .int .i64 (K2.calls), .slice yG0ro K2.refuse.length yG0rc] 46))).alloc (Nat.le_refl _) (.cells #[.int .i64 kp, .int .i64 mv, .slice yG1o cs.length yG1c, .int .i64 ph2, .int .i64 nx2] 68)))
  replace BP1 := Lib.hid (BP1.out.below ((Below.refl _ (wI.alloc (.cells #[.slice yG0co yG0vs.length yG0cc, .slice yG0uo K2.m.f.used.length yG0uc, .slice yG0eo K2.m.ents.length yG0ec, .int .i64 (K2.calls), .slice yG0ro K2.refuse.length yG0rc] 46))).alloc (Nat.le_refl _) (.cells #[.int .i64 kp, .int .i64 mv, .slice yG1o cs.length yG1c, .int .i64 ph2, .int .i64 nx2] 68)))
  replace BW0 := Lib.hid (BW0.out.below ((Below.refl _ (wI.alloc (.cells #[.slice yG0co yG0vs.length yG0cc, .slice yG0uo K2.m.f.used.length yG0uc, .slice yG0eo K2.m.ents.length yG0ec, .int .i64 (K2.calls), .slice yG0ro K2.refuse.length yG0rc] 46))).alloc (Nat.le_refl _) (.cells #[.int .i64 kp, .int .i64 mv, .slice yG1o cs.length yG1c, .int .i64 ph2, .int .i64 nx2] 68)))
  replace BW1 := Lib.hid (BW1.out.below ((Below.refl _ (wI.alloc (.cells #[.slice yG0co yG0vs.length yG0cc, .slice yG0uo K2.m.f.used.length yG0uc, .slice yG0eo K2.m.ents.length yG0ec, .int .i64 (K2.calls), .slice yG0ro K2.refuse.length yG0rc] 46))).alloc (Nat.le_refl _) (.cells #[.int .i64 kp, .int .i64 mv, .slice yG1o cs.length yG1c, .int .i64 ph2, .int .i64 nx2] 68)))
  replace BX0 := Lib.hid (BX0.out.below ((Below.refl _ (wI.alloc (.cells #[.slice yG0co yG0vs.length yG0cc, .slice yG0uo K2.m.f.used.length yG0uc, .slice yG0eo K2.m.ents.length yG0ec, .int .i64 (K2.calls), .slice yG0ro K2.refuse.length yG0rc] 46))).alloc (Nat.le_refl _) (.cells #[.int .i64 kp, .int .i64 mv, .slice yG1o cs.length yG1c, .int .i64 ph2, .int .i64 nx2] 68)))
  replace BX1 := Lib.hid (BX1.out.below ((Below.refl _ (wI.alloc (.cells #[.slice yG0co yG0vs.length yG0cc, .slice yG0uo K2.m.f.used.length yG0uc, .slice yG0eo K2.m.ents.length yG0ec, .int .i64 (K2.calls), .slice yG0ro K2.refuse.length yG0rc] 46))).alloc (Nat.le_refl _) (.cells #[.int .i64 kp, .int .i64 mv, .slice yG1o cs.length yG1c, .int .i64 ph2, .int .i64 nx2] 68)))
  replace BG0 := Lib.hid (BG0.out.below ((Below.refl _ (wI.alloc (.cells #[.slice yG0co yG0vs.length yG0cc, .slice yG0uo K2.m.f.used.length yG0uc, .slice yG0eo K2.m.ents.length yG0ec, .int .i64 (K2.calls), .slice yG0ro K2.refuse.length yG0rc] 46))).alloc (Nat.le_refl _) (.cells #[.int .i64 kp, .int .i64 mv, .slice yG1o cs.length yG1c, .int .i64 ph2, .int .i64 nx2] 68)))
  replace OW0 := Lib.hid (OW0.out.below ((Below.refl _ (wI.alloc (.cells #[.slice yG0co yG0vs.length yG0cc, .slice yG0uo K2.m.f.used.length yG0uc, .slice yG0eo K2.m.ents.length yG0ec, .int .i64 (K2.calls), .slice yG0ro K2.refuse.length yG0rc] 46))).alloc (Nat.le_refl _) (.cells #[.int .i64 kp, .int .i64 mv, .slice yG1o cs.length yG1c, .int .i64 ph2, .int .i64 nx2] 68)))
  replace OW1 := Lib.hid (Own.below OW1.out ((Below.refl _ (wI.alloc (.cells #[.slice yG0co yG0vs.length yG0cc, .slice yG0uo K2.m.f.used.length yG0uc, .slice yG0eo K2.m.ents.length yG0ec, .int .i64 (K2.calls), .slice yG0ro K2.refuse.length yG0rc] 46))).alloc (Nat.le_refl _) (.cells #[.int .i64 kp, .int .i64 mv, .slice yG1o cs.length yG1c, .int .i64 ph2, .int .i64 nx2] 68)))
  replace OW2 := Lib.hid (Own.below OW2.out ((Below.refl _ (wI.alloc (.cells #[.slice yG0co yG0vs.length yG0cc, .slice yG0uo K2.m.f.used.length yG0uc, .slice yG0eo K2.m.ents.length yG0ec, .int .i64 (K2.calls), .slice yG0ro K2.refuse.length yG0rc] 46))).alloc (Nat.le_refl _) (.cells #[.int .i64 kp, .int .i64 mv, .slice yG1o cs.length yG1c, .int .i64 ph2, .int .i64 nx2] 68)))
  replace OX0 := Lib.hid (OX0.out.below ((Below.refl _ (wI.alloc (.cells #[.slice yG0co yG0vs.length yG0cc, .slice yG0uo K2.m.f.used.length yG0uc, .slice yG0eo K2.m.ents.length yG0ec, .int .i64 (K2.calls), .slice yG0ro K2.refuse.length yG0rc] 46))).alloc (Nat.le_refl _) (.cells #[.int .i64 kp, .int .i64 mv, .slice yG1o cs.length yG1c, .int .i64 ph2, .int .i64 nx2] 68)))
  replace OX1 := Lib.hid (Own.below OX1.out ((Below.refl _ (wI.alloc (.cells #[.slice yG0co yG0vs.length yG0cc, .slice yG0uo K2.m.f.used.length yG0uc, .slice yG0eo K2.m.ents.length yG0ec, .int .i64 (K2.calls), .slice yG0ro K2.refuse.length yG0rc] 46))).alloc (Nat.le_refl _) (.cells #[.int .i64 kp, .int .i64 mv, .slice yG1o cs.length yG1c, .int .i64 ph2, .int .i64 nx2] 68)))
  replace OX2 := Lib.hid (Own.below OX2.out ((Below.refl _ (wI.alloc (.cells #[.slice yG0co yG0vs.length yG0cc, .slice yG0uo K2.m.f.used.length yG0uc, .slice yG0eo K2.m.ents.length yG0ec, .int .i64 (K2.calls), .slice yG0ro K2.refuse.length yG0rc] 46))).alloc (Nat.le_refl _) (.cells #[.int .i64 kp, .int .i64 mv, .slice yG1o cs.length yG1c, .int .i64 ph2, .int .i64 nx2] 68)))
  replace OX3 := Lib.hid (Own.below OX3.out ((Below.refl _ (wI.alloc (.cells #[.slice yG0co yG0vs.length yG0cc, .slice yG0uo K2.m.f.used.length yG0uc, .slice yG0eo K2.m.ents.length yG0ec, .int .i64 (K2.calls), .slice yG0ro K2.refuse.length yG0rc] 46))).alloc (Nat.le_refl _) (.cells #[.int .i64 kp, .int .i64 mv, .slice yG1o cs.length yG1c, .int .i64 ph2, .int .i64 nx2] 68)))
  replace OG0 := Lib.hid (OG0.out.below ((Below.refl _ (wI.alloc (.cells #[.slice yG0co yG0vs.length yG0cc, .slice yG0uo K2.m.f.used.length yG0uc, .slice yG0eo K2.m.ents.length yG0ec, .int .i64 (K2.calls), .slice yG0ro K2.refuse.length yG0rc] 46))).alloc (Nat.le_refl _) (.cells #[.int .i64 kp, .int .i64 mv, .slice yG1o cs.length yG1c, .int .i64 ph2, .int .i64 nx2] 68)))
  replace OG1 := Lib.hid (Own.below OG1.out ((Below.refl _ (wI.alloc (.cells #[.slice yG0co yG0vs.length yG0cc, .slice yG0uo K2.m.f.used.length yG0uc, .slice yG0eo K2.m.ents.length yG0ec, .int .i64 (K2.calls), .slice yG0ro K2.refuse.length yG0rc] 46))).alloc (Nat.le_refl _) (.cells #[.int .i64 kp, .int .i64 mv, .slice yG1o cs.length yG1c, .int .i64 ph2, .int .i64 nx2] 68)))
  replace OG2 := Lib.hid (Own.below OG2.out ((Below.refl _ (wI.alloc (.cells #[.slice yG0co yG0vs.length yG0cc, .slice yG0uo K2.m.f.used.length yG0uc, .slice yG0eo K2.m.ents.length yG0ec, .int .i64 (K2.calls), .slice yG0ro K2.refuse.length yG0rc] 46))).alloc (Nat.le_refl _) (.cells #[.int .i64 kp, .int .i64 mv, .slice yG1o cs.length yG1c, .int .i64 ph2, .int .i64 nx2] 68)))
  replace HA0 := Lib.hid (HA0.out.below ((Below.refl _ (wI.alloc (.cells #[.slice yG0co yG0vs.length yG0cc, .slice yG0uo K2.m.f.used.length yG0uc, .slice yG0eo K2.m.ents.length yG0ec, .int .i64 (K2.calls), .slice yG0ro K2.refuse.length yG0rc] 46))).alloc (Nat.le_refl _) (.cells #[.int .i64 kp, .int .i64 mv, .slice yG1o cs.length yG1c, .int .i64 ph2, .int .i64 nx2] 68)))
  replace HA1 := Lib.hid (HA1.out.below ((Below.refl _ (wI.alloc (.cells #[.slice yG0co yG0vs.length yG0cc, .slice yG0uo K2.m.f.used.length yG0uc, .slice yG0eo K2.m.ents.length yG0ec, .int .i64 (K2.calls), .slice yG0ro K2.refuse.length yG0rc] 46))).alloc (Nat.le_refl _) (.cells #[.int .i64 kp, .int .i64 mv, .slice yG1o cs.length yG1c, .int .i64 ph2, .int .i64 nx2] 68)))
  replace HA2 := Lib.hid (HA2.out.below ((Below.refl _ (wI.alloc (.cells #[.slice yG0co yG0vs.length yG0cc, .slice yG0uo K2.m.f.used.length yG0uc, .slice yG0eo K2.m.ents.length yG0ec, .int .i64 (K2.calls), .slice yG0ro K2.refuse.length yG0rc] 46))).alloc (Nat.le_refl _) (.cells #[.int .i64 kp, .int .i64 mv, .slice yG1o cs.length yG1c, .int .i64 ph2, .int .i64 nx2] 68)))
  replace HA3 := Lib.hid (HA3.out.below ((Below.refl _ (wI.alloc (.cells #[.slice yG0co yG0vs.length yG0cc, .slice yG0uo K2.m.f.used.length yG0uc, .slice yG0eo K2.m.ents.length yG0ec, .int .i64 (K2.calls), .slice yG0ro K2.refuse.length yG0rc] 46))).alloc (Nat.le_refl _) (.cells #[.int .i64 kp, .int .i64 mv, .slice yG1o cs.length yG1c, .int .i64 ph2, .int .i64 nx2] 68)))
  replace HT := Lib.hid (HT.out.trans (((Below.refl _ (wI.alloc (.cells #[.slice yG0co yG0vs.length yG0cc, .slice yG0uo K2.m.f.used.length yG0uc, .slice yG0eo K2.m.ents.length yG0ec, .int .i64 (K2.calls), .slice yG0ro K2.refuse.length yG0rc] 46))).alloc (Nat.le_refl _) (.cells #[.int .i64 kp, .int .i64 mv, .slice yG1o cs.length yG1c, .int .i64 ph2, .int .i64 nx2] 68)).mono HT.out.size))
  have BG1 : Hid (BoxAt ((wI.alloc (.cells #[.slice yG0co yG0vs.length yG0cc, .slice yG0uo K2.m.f.used.length yG0uc, .slice yG0eo K2.m.ents.length yG0ec, .int .i64 (K2.calls), .slice yG0ro K2.refuse.length yG0rc] 46)).alloc (.cells #[.int .i64 kp, .int .i64 mv, .slice yG1o cs.length yG1c, .int .i64 ph2, .int .i64 nx2] 68)) (wI.heap.size + 1) [.int .i64 kp, .int .i64 mv, .slice yG1o cs.length yG1c, .int .i64 ph2, .int .i64 nx2]) := (BoxAt.snoc (BoxAt.snoc (BoxAt.snoc (BoxAt.snoc (BoxAt.snoc (BoxAt.nil (w := (wI.alloc (.cells #[.slice yG0co yG0vs.length yG0cc, .slice yG0uo K2.m.f.used.length yG0uc, .slice yG0eo K2.m.ents.length yG0ec, .int .i64 (K2.calls), .slice yG0ro K2.refuse.length yG0rc] 46)).alloc (.cells #[.int .i64 kp, .int .i64 mv, .slice yG1o cs.length yG1c, .int .i64 ph2, .int .i64 nx2] 68)) (g := wI.heap.size + 1) (by go_simp)) (v := .int .i64 kp) (i := 0) rfl (by go_simp) (by go_simp)) (v := .int .i64 mv) (i := 1) rfl (by go_simp) (by go_simp)) (v := .slice yG1o cs.length yG1c) (i := 2) rfl (by go_simp) (by go_simp)) (v := .int .i64 ph2) (i := 3) rfl (by go_simp) (by go_simp)) (v := .int .i64 nx2) (i := 4) rfl (by go_simp) (by go_simp))
  have cG00 := (BG0.out.cells 0 _ rfl).1; have fG00 := (BG0.out.cells 0 _ rfl).2
  have cG01 := (BG0.out.cells 1 _ rfl).1; have fG01 := (BG0.out.cells 1 _ rfl).2
  have cG02 := (BG0.out.cells 2 _ rfl).1; have fG02 := (BG0.out.cells 2 _ rfl).2
  have cG03 := (BG0.out.cells 3 _ rfl).1; have fG03 := (BG0.out.cells 3 _ rfl).2
  have cG04 := (BG0.out.cells 4 _ rfl).1; have fG04 := (BG0.out.cells 4 _ rfl).2
  have xG0 := BG0.out.lt
  have cW00 := (BW0.out.cells 0 _ rfl).1; have fW00 := (BW0.out.cells 0 _ rfl).2
  have cW01 := (BW0.out.cells 1 _ rfl).1; have fW01 := (BW0.out.cells 1 _ rfl).2
  have cW02 := (BW0.out.cells 2 _ rfl).1; have fW02 := (BW0.out.cells 2 _ rfl).2
  have cW03 := (BW0.out.cells 3 _ rfl).1; have fW03 := (BW0.out.cells 3 _ rfl).2
  have cW04 := (BW0.out.cells 4 _ rfl).1; have fW04 := (BW0.out.cells 4 _ rfl).2
  have xW0 := BW0.out.lt
  go_wp2_with fail
  refine (l_eqKernel _ _ (⟨⟨⟨.slice yG0co yG0vs.length yG0cc, .slice yG0uo K2.m.f.used.length yG0uc, yG0vs⟩, .slice yG0eo K2.m.ents.length yG0ec⟩, .slice yG0ro K2.refuse.length yG0rc⟩ : KV) (⟨⟨⟨.slice yW0co yW0vs.length yW0cc, .slice yW0uo K2.m.f.used.length yW0uc, yW0vs⟩, .slice yW0eo K2.m.ents.length yW0ec⟩, .slice yW0ro K2.refuse.length yW0rc⟩ : KV) _ _ OG0.out OW0.out).mono ?_; rintro e w2 ⟨rfl, hb⟩
  clear xG0 cG00 fG00 cG01 fG01 cG02 fG02 cG03 fG03 cG04 fG04
  clear xW0 cW00 fW00 cW01 fW01 cW02 fW02 cW03 fW03 cW04 fW04
  replace BP0 := Lib.hid (BP0.out.below hb)
  replace BP1 := Lib.hid (BP1.out.below hb)
  replace BW0 := Lib.hid (BW0.out.below hb)
  replace BW1 := Lib.hid (BW1.out.below hb)
  replace BX0 := Lib.hid (BX0.out.below hb)
  replace BX1 := Lib.hid (BX1.out.below hb)
  replace BG0 := Lib.hid (BG0.out.below hb)
  replace BG1 := Lib.hid (BG1.out.below hb)
  replace OW0 := Lib.hid (OW0.out.below hb)
  replace OW1 := Lib.hid (Own.below OW1.out hb)
  replace OW2 := Lib.hid (Own.below OW2.out hb)
  replace OX0 := Lib.hid (OX0.out.below hb)
  replace OX1 := Lib.hid (Own.below OX1.out hb)
  replace OX2 := Lib.hid (Own.below OX2.out hb)
  replace OX3 := Lib.hid (Own.below OX3.out hb)
  replace OG0 := Lib.hid (OG0.out.below hb)
  replace OG1 := Lib.hid (Own.below OG1.out hb)
  replace OG2 := Lib.hid (Own.below OG2.out hb)
  replace HA0 := Lib.hid (HA0.out.below hb)
  replace HA1 := Lib.hid (HA1.out.below hb)
  replace HA2 := Lib.hid (HA2.out.below hb)
  replace HA3 := Lib.hid (HA3.out.below hb)
  replace HT := Lib.hid (HT.out.trans (hb.mono HT.out.size))
  have zwJ := hb.size; (try simp only [World.size_alloc] at zwJ); clear hb; obtain ⟨wJ, rfl⟩ : ∃ x, x = w2 := ⟨_, rfl⟩
  have cG10 := (BG1.out.cells 0 _ rfl).1; have fG10 := (BG1.out.cells 0 _ rfl).2
  have cG11 := (BG1.out.cells 1 _ rfl).1; have fG11 := (BG1.out.cells 1 _ rfl).2
  have cG12 := (BG1.out.cells 2 _ rfl).1; have fG12 := (BG1.out.cells 2 _ rfl).2
  have cG13 := (BG1.out.cells 3 _ rfl).1; have fG13 := (BG1.out.cells 3 _ rfl).2
  have cG14 := (BG1.out.cells 4 _ rfl).1; have fG14 := (BG1.out.cells 4 _ rfl).2
  have xG1 := BG1.out.lt
  have cW10 := (BW1.out.cells 0 _ rfl).1; have fW10 := (BW1.out.cells 0 _ rfl).2
  have cW11 := (BW1.out.cells 1 _ rfl).1; have fW11 := (BW1.out.cells 1 _ rfl).2
  have cW12 := (BW1.out.cells 2 _ rfl).1; have fW12 := (BW1.out.cells 2 _ rfl).2
  have cW13 := (BW1.out.cells 3 _ rfl).1; have fW13 := (BW1.out.cells 3 _ rfl).2
  have cW14 := (BW1.out.cells 4 _ rfl).1; have fW14 := (BW1.out.cells 4 _ rfl).2
  have xW1 := BW1.out.lt
  go_wp2_with fail
  refine (l_eqJob _ _ kp mv _ _ cs ph2 nx2 _ OG1.out OW1.out).mono ?_; rintro e w2 ⟨rfl, hb⟩
  clear xG1 cG10 fG10 cG11 fG11 cG12 fG12 cG13 fG13 cG14 fG14
  clear xW1 cW10 fW10 cW11 fW11 cW12 fW12 cW13 fW13 cW14 fW14
  replace BP0 := Lib.hid (BP0.out.below hb)
  replace BP1 := Lib.hid (BP1.out.below hb)
  replace BW0 := Lib.hid (BW0.out.below hb)
  replace BW1 := Lib.hid (BW1.out.below hb)
  replace BX0 := Lib.hid (BX0.out.below hb)
  replace BX1 := Lib.hid (BX1.out.below hb)
  replace BG0 := Lib.hid (BG0.out.below hb)
  replace BG1 := Lib.hid (BG1.out.below hb)
  replace OW0 := Lib.hid (OW0.out.below hb)
  replace OW1 := Lib.hid (Own.below OW1.out hb)
  replace OW2 := Lib.hid (Own.below OW2.out hb)
  replace OX0 := Lib.hid (OX0.out.below hb)
  replace OX1 := Lib.hid (Own.below OX1.out hb)
  replace OX2 := Lib.hid (Own.below OX2.out hb)
  replace OX3 := Lib.hid (Own.below OX3.out hb)
  replace OG0 := Lib.hid (OG0.out.below hb)
  replace OG1 := Lib.hid (Own.below OG1.out hb)
  replace OG2 := Lib.hid (Own.below OG2.out hb)
  replace HA0 := Lib.hid (HA0.out.below hb)
  replace HA1 := Lib.hid (HA1.out.below hb)
  replace HA2 := Lib.hid (HA2.out.below hb)
  replace HA3 := Lib.hid (HA3.out.below hb)
  replace HT := Lib.hid (HT.out.trans (hb.mono HT.out.size))
  have zwK := hb.size; (try simp only [World.size_alloc] at zwK); clear hb; obtain ⟨wK, rfl⟩ : ∃ x, x = w2 := ⟨_, rfl⟩
  go_wp2_with fail
  refine (l_eqWriterS _ _ rs _ (Own.at OG2.out lenWr) (Own.at OW2.out lenWr)).mono ?_; rintro e w2 ⟨rfl, hb⟩
  replace BP0 := Lib.hid (BP0.out.below hb)
  replace BP1 := Lib.hid (BP1.out.below hb)
  replace BW0 := Lib.hid (BW0.out.below hb)
  replace BW1 := Lib.hid (BW1.out.below hb)
  replace BX0 := Lib.hid (BX0.out.below hb)
  replace BX1 := Lib.hid (BX1.out.below hb)
  replace BG0 := Lib.hid (BG0.out.below hb)
  replace BG1 := Lib.hid (BG1.out.below hb)
  replace OW0 := Lib.hid (OW0.out.below hb)
  replace OW1 := Lib.hid (Own.below OW1.out hb)
  replace OW2 := Lib.hid (Own.below OW2.out hb)
  replace OX0 := Lib.hid (OX0.out.below hb)
  replace OX1 := Lib.hid (Own.below OX1.out hb)
  replace OX2 := Lib.hid (Own.below OX2.out hb)
  replace OX3 := Lib.hid (Own.below OX3.out hb)
  replace OG0 := Lib.hid (OG0.out.below hb)
  replace OG1 := Lib.hid (Own.below OG1.out hb)
  replace OG2 := Lib.hid (Own.below OG2.out hb)
  replace HA0 := Lib.hid (HA0.out.below hb)
  replace HA1 := Lib.hid (HA1.out.below hb)
  replace HA2 := Lib.hid (HA2.out.below hb)
  replace HA3 := Lib.hid (HA3.out.below hb)
  replace HT := Lib.hid (HT.out.trans (hb.mono HT.out.size))
  have zwL := hb.size; (try simp only [World.size_alloc] at zwL); clear hb; obtain ⟨wL, rfl⟩ : ∃ x, x = w2 := ⟨_, rfl⟩
  have cX00 := (BX0.out.cells 0 _ rfl).1; have fX00 := (BX0.out.cells 0 _ rfl).2
  have cX01 := (BX0.out.cells 1 _ rfl).1; have fX01 := (BX0.out.cells 1 _ rfl).2
  have cX02 := (BX0.out.cells 2 _ rfl).1; have fX02 := (BX0.out.cells 2 _ rfl).2
  have cX03 := (BX0.out.cells 3 _ rfl).1; have fX03 := (BX0.out.cells 3 _ rfl).2
  have cX04 := (BX0.out.cells 4 _ rfl).1; have fX04 := (BX0.out.cells 4 _ rfl).2
  have xX0 := BX0.out.lt
  have cP00 := (BP0.out.cells 0 _ rfl).1; have fP00 := (BP0.out.cells 0 _ rfl).2
  have cP01 := (BP0.out.cells 1 _ rfl).1; have fP01 := (BP0.out.cells 1 _ rfl).2
  have cP02 := (BP0.out.cells 2 _ rfl).1; have fP02 := (BP0.out.cells 2 _ rfl).2
  have cP03 := (BP0.out.cells 3 _ rfl).1; have fP03 := (BP0.out.cells 3 _ rfl).2
  have cP04 := (BP0.out.cells 4 _ rfl).1; have fP04 := (BP0.out.cells 4 _ rfl).2
  have xP0 := BP0.out.lt
  go_wp2_with fail
  go_region_held3 (fun w' => w'.cell? ⟨wE.heap.size, 0, none⟩ = some (.slice yX0co yX0vs.length yX0cc) ∧ w'.cell? ⟨wE.heap.size, 1, none⟩ = some (.slice yX0uo K.m.f.used.length yX0uc) ∧ w'.cell? ⟨wE.heap.size, 2, none⟩ = some (.slice yX0eo K.m.ents.length yX0ec) ∧ w'.cell? ⟨wE.heap.size, 3, none⟩ = some (.int .i64 (K.calls)) ∧ w'.cell? ⟨wE.heap.size, 4, none⟩ = some (.slice yX0ro K.refuse.length yX0rc) ∧ w'.cell? ⟨w.heap.size, 0, none⟩ = some (x.m.f.c) ∧ w'.cell? ⟨w.heap.size, 1, none⟩ = some (x.m.f.u) ∧ w'.cell? ⟨w.heap.size, 2, none⟩ = some (x.m.e) ∧ w'.cell? ⟨w.heap.size, 3, none⟩ = some (.int .i64 K.calls) ∧ w'.cell? ⟨w.heap.size, 4, none⟩ = some (x.r)) (first | (refine ⟨?_, ?_, ?_, ?_, ?_, ?_, ?_, ?_, ?_, ?_⟩ <;> (go_simp; done)) | go_keep) (first | (go_at_call 12; (refine (l_toKernel x K (by omega) _ (HA0.out.below (by exact bel))).mono ?_; rintro e w2 ⟨yE, rfl, OE, hb⟩; (obtain ⟨yEco, yEcc, yEuo, yEuc, yEvs, yEeo, yEec, yEro, yErc, rfl⟩ := KOwn.shapes OE); have HQ1 := Lib.hid hb; obtain ⟨kwq1_X0_0, kwq1_X0_1, kwq1_X0_2, kwq1_X0_3, kwq1_X0_4⟩ := kp5 hb (wE.heap.size) (.slice yX0co yX0vs.length yX0cc) (.slice yX0uo K.m.f.used.length yX0uc) (.slice yX0eo K.m.ents.length yX0ec) (.int .i64 (K.calls)) (.slice yX0ro K.refuse.length yX0rc); obtain ⟨kwq1_P0_0, kwq1_P0_1, kwq1_P0_2, kwq1_P0_3, kwq1_P0_4⟩ := kp5 hb (w.heap.size) (x.m.f.c) (x.m.f.u) (x.m.e) (.int .i64 K.calls) (x.r); have xwq1_X0 : wE.heap.size < w2.heap.size := xc hb; have xwq1_P0 : w.heap.size < w2.heap.size := xc hb; have hzwq1 := hb.size; (try simp only [World.size_alloc, World.size_setCell, World.size_drew] at hzwq1); obtain ⟨wq1, rfl⟩ : ∃ x, x = w2 := ⟨_, rfl⟩; simp only [KV.val])) | (go_at_call 16; (refine (l_eqKernel _ _ (⟨⟨⟨.slice yX0co yX0vs.length yX0cc, .slice yX0uo K.m.f.used.length yX0uc, yX0vs⟩, .slice yX0eo K.m.ents.length yX0ec⟩, .slice yX0ro K.refuse.length yX0rc⟩ : KV) (⟨⟨⟨.slice yEco yEvs.length yEcc, .slice yEuo K.m.f.used.length yEuc, yEvs⟩, .slice yEeo K.m.ents.length yEec⟩, .slice yEro K.refuse.length yErc⟩ : KV) _ _ (OX0.out.below (by exact bel)) (OE.below (by exact bel))).mono ?_; rintro e w2 ⟨rfl, hb⟩; have HQ2 := Lib.hid hb; obtain ⟨kwq2_X0_0, kwq2_X0_1, kwq2_X0_2, kwq2_X0_3, kwq2_X0_4⟩ := kp5 hb (wE.heap.size) (.slice yX0co yX0vs.length yX0cc) (.slice yX0uo K.m.f.used.length yX0uc) (.slice yX0eo K.m.ents.length yX0ec) (.int .i64 (K.calls)) (.slice yX0ro K.refuse.length yX0rc); obtain ⟨kwq2_P0_0, kwq2_P0_1, kwq2_P0_2, kwq2_P0_3, kwq2_P0_4⟩ := kp5 hb (w.heap.size) (x.m.f.c) (x.m.f.u) (x.m.e) (.int .i64 K.calls) (x.r); have xwq2_X0 : wE.heap.size < w2.heap.size := xc hb; have xwq2_P0 : w.heap.size < w2.heap.size := xc hb; have hzwq2 := hb.size; (try simp only [World.size_alloc, World.size_setCell, World.size_drew] at hzwq2); obtain ⟨wq2, rfl⟩ : ∃ x, x = w2 := ⟨_, rfl⟩)))
  have hb : Below (wL).heap.size (wL) wq2 := by (have hq1 := HQ1.out; have hq2 := HQ2.out; exact bel)
  clear xX0 cX00 fX00 cX01 fX01 cX02 fX02 cX03 fX03 cX04 fX04
  clear xP0 cP00 fP00 cP01 fP01 cP02 fP02 cP03 fP03 cP04 fP04
  clear kwq1_X0_0 kwq1_X0_1 kwq1_X0_2 kwq1_X0_3 kwq1_X0_4 kwq1_P0_0 kwq1_P0_1 kwq1_P0_2 kwq1_P0_3 kwq1_P0_4 hzwq1
  clear kwq2_X0_0 kwq2_X0_1 kwq2_X0_2 kwq2_X0_3 kwq2_X0_4 kwq2_P0_0 kwq2_P0_1 kwq2_P0_2 kwq2_P0_3 kwq2_P0_4 hzwq2
  obtain ⟨w2, rfl⟩ : ∃ x, x = wq2 := ⟨_, rfl⟩
  clear HQ1 HQ2 OE
  replace BP0 := Lib.hid (BP0.out.below hb)
  replace BP1 := Lib.hid (BP1.out.below hb)
  replace BW0 := Lib.hid (BW0.out.below hb)
  replace BW1 := Lib.hid (BW1.out.below hb)
  replace BX0 := Lib.hid (BX0.out.below hb)
  replace BX1 := Lib.hid (BX1.out.below hb)
  replace BG0 := Lib.hid (BG0.out.below hb)
  replace BG1 := Lib.hid (BG1.out.below hb)
  replace OW0 := Lib.hid (OW0.out.below hb)
  replace OW1 := Lib.hid (Own.below OW1.out hb)
  replace OW2 := Lib.hid (Own.below OW2.out hb)
  replace OX0 := Lib.hid (OX0.out.below hb)
  replace OX1 := Lib.hid (Own.below OX1.out hb)
  replace OX2 := Lib.hid (Own.below OX2.out hb)
  replace OX3 := Lib.hid (Own.below OX3.out hb)
  replace OG0 := Lib.hid (OG0.out.below hb)
  replace OG1 := Lib.hid (Own.below OG1.out hb)
  replace OG2 := Lib.hid (Own.below OG2.out hb)
  replace HA0 := Lib.hid (HA0.out.below hb)
  replace HA1 := Lib.hid (HA1.out.below hb)
  replace HA2 := Lib.hid (HA2.out.below hb)
  replace HA3 := Lib.hid (HA3.out.below hb)
  replace HT := Lib.hid (HT.out.trans (hb.mono HT.out.size))
  have zwM := hb.size; (try simp only [World.size_alloc] at zwM); clear hb; obtain ⟨wM, rfl⟩ : ∃ x, x = w2 := ⟨_, rfl⟩
  have cX10 := (BX1.out.cells 0 _ rfl).1; have fX10 := (BX1.out.cells 0 _ rfl).2
  have cX11 := (BX1.out.cells 1 _ rfl).1; have fX11 := (BX1.out.cells 1 _ rfl).2
  have cX12 := (BX1.out.cells 2 _ rfl).1; have fX12 := (BX1.out.cells 2 _ rfl).2
  have cX13 := (BX1.out.cells 3 _ rfl).1; have fX13 := (BX1.out.cells 3 _ rfl).2
  have cX14 := (BX1.out.cells 4 _ rfl).1; have fX14 := (BX1.out.cells 4 _ rfl).2
  have xX1 := BX1.out.lt
  have cP10 := (BP1.out.cells 0 _ rfl).1; have fP10 := (BP1.out.cells 0 _ rfl).2
  have cP11 := (BP1.out.cells 1 _ rfl).1; have fP11 := (BP1.out.cells 1 _ rfl).2
  have cP12 := (BP1.out.cells 2 _ rfl).1; have fP12 := (BP1.out.cells 2 _ rfl).2
  have cP13 := (BP1.out.cells 3 _ rfl).1; have fP13 := (BP1.out.cells 3 _ rfl).2
  have cP14 := (BP1.out.cells 4 _ rfl).1; have fP14 := (BP1.out.cells 4 _ rfl).2
  have xP1 := BP1.out.lt
  go_wp2_with fail
  go_region_held3 (fun w' => w'.cell? ⟨wF.heap.size, 0, none⟩ = some (.int .i64 kp) ∧ w'.cell? ⟨wF.heap.size, 1, none⟩ = some (.int .i64 mv) ∧ w'.cell? ⟨wF.heap.size, 2, none⟩ = some (.slice yX1o cs.length yX1c) ∧ w'.cell? ⟨wF.heap.size, 3, none⟩ = some (.int .i64 ph) ∧ w'.cell? ⟨wF.heap.size, 4, none⟩ = some (.int .i64 nx) ∧ w'.cell? ⟨w.heap.size + 1, 0, none⟩ = some (.int .i64 kp) ∧ w'.cell? ⟨w.heap.size + 1, 1, none⟩ = some (.int .i64 mv) ∧ w'.cell? ⟨w.heap.size + 1, 2, none⟩ = some (c) ∧ w'.cell? ⟨w.heap.size + 1, 3, none⟩ = some (.int .i64 ph) ∧ w'.cell? ⟨w.heap.size + 1, 4, none⟩ = some (.int .i64 nx)) (first | (refine ⟨?_, ?_, ?_, ?_, ?_, ?_, ?_, ?_, ?_, ?_⟩ <;> (go_simp; done)) | go_keep) (first | (go_at_call 27; (refine (l_toJob kp mv c cs ph nx (by omega) _ (HA1.out.below (by exact bel))).mono ?_; rintro e w2 ⟨vE, rfl, OE, hb⟩; (obtain ⟨yEo, yEc, rfl, -, -⟩ := OE.shape); have HQ1 := Lib.hid hb; obtain ⟨kwq1_X1_0, kwq1_X1_1, kwq1_X1_2, kwq1_X1_3, kwq1_X1_4⟩ := kp5 hb (wF.heap.size) (.int .i64 kp) (.int .i64 mv) (.slice yX1o cs.length yX1c) (.int .i64 ph) (.int .i64 nx); obtain ⟨kwq1_P1_0, kwq1_P1_1, kwq1_P1_2, kwq1_P1_3, kwq1_P1_4⟩ := kp5 hb (w.heap.size + 1) (.int .i64 kp) (.int .i64 mv) (c) (.int .i64 ph) (.int .i64 nx); have xwq1_X1 : wF.heap.size < w2.heap.size := xc hb; have xwq1_P1 : w.heap.size + 1 < w2.heap.size := xc hb; have hzwq1 := hb.size; (try simp only [World.size_alloc, World.size_setCell, World.size_drew] at hzwq1); obtain ⟨wq1, rfl⟩ : ∃ x, x = w2 := ⟨_, rfl⟩; skip)) | (go_at_call 29; (refine (l_eqJob _ _ kp mv _ _ cs ph nx _ (Own.below OX1.out (by exact bel)) (Own.below OE (by exact bel))).mono ?_; rintro e w2 ⟨rfl, hb⟩; have HQ2 := Lib.hid hb; obtain ⟨kwq2_X1_0, kwq2_X1_1, kwq2_X1_2, kwq2_X1_3, kwq2_X1_4⟩ := kp5 hb (wF.heap.size) (.int .i64 kp) (.int .i64 mv) (.slice yX1o cs.length yX1c) (.int .i64 ph) (.int .i64 nx); obtain ⟨kwq2_P1_0, kwq2_P1_1, kwq2_P1_2, kwq2_P1_3, kwq2_P1_4⟩ := kp5 hb (w.heap.size + 1) (.int .i64 kp) (.int .i64 mv) (c) (.int .i64 ph) (.int .i64 nx); have xwq2_X1 : wF.heap.size < w2.heap.size := xc hb; have xwq2_P1 : w.heap.size + 1 < w2.heap.size := xc hb; have hzwq2 := hb.size; (try simp only [World.size_alloc, World.size_setCell, World.size_drew] at hzwq2); obtain ⟨wq2, rfl⟩ : ∃ x, x = w2 := ⟨_, rfl⟩)))
  have hb : Below (wM).heap.size (wM) wq2 := by (have hq1 := HQ1.out; have hq2 := HQ2.out; exact bel)
  clear xX1 cX10 fX10 cX11 fX11 cX12 fX12 cX13 fX13 cX14 fX14
  clear xP1 cP10 fP10 cP11 fP11 cP12 fP12 cP13 fP13 cP14 fP14
  clear kwq1_X1_0 kwq1_X1_1 kwq1_X1_2 kwq1_X1_3 kwq1_X1_4 kwq1_P1_0 kwq1_P1_1 kwq1_P1_2 kwq1_P1_3 kwq1_P1_4 hzwq1
  clear kwq2_X1_0 kwq2_X1_1 kwq2_X1_2 kwq2_X1_3 kwq2_X1_4 kwq2_P1_0 kwq2_P1_1 kwq2_P1_2 kwq2_P1_3 kwq2_P1_4 hzwq2
  obtain ⟨w2, rfl⟩ : ∃ x, x = wq2 := ⟨_, rfl⟩
  clear HQ1 HQ2 OE
  replace BP0 := Lib.hid (BP0.out.below hb)
  replace BP1 := Lib.hid (BP1.out.below hb)
  replace BW0 := Lib.hid (BW0.out.below hb)
  replace BW1 := Lib.hid (BW1.out.below hb)
  replace BX0 := Lib.hid (BX0.out.below hb)
  replace BX1 := Lib.hid (BX1.out.below hb)
  replace BG0 := Lib.hid (BG0.out.below hb)
  replace BG1 := Lib.hid (BG1.out.below hb)
  replace OW0 := Lib.hid (OW0.out.below hb)
  replace OW1 := Lib.hid (Own.below OW1.out hb)
  replace OW2 := Lib.hid (Own.below OW2.out hb)
  replace OX0 := Lib.hid (OX0.out.below hb)
  replace OX1 := Lib.hid (Own.below OX1.out hb)
  replace OX2 := Lib.hid (Own.below OX2.out hb)
  replace OX3 := Lib.hid (Own.below OX3.out hb)
  replace OG0 := Lib.hid (OG0.out.below hb)
  replace OG1 := Lib.hid (Own.below OG1.out hb)
  replace OG2 := Lib.hid (Own.below OG2.out hb)
  replace HA0 := Lib.hid (HA0.out.below hb)
  replace HA1 := Lib.hid (HA1.out.below hb)
  replace HA2 := Lib.hid (HA2.out.below hb)
  replace HA3 := Lib.hid (HA3.out.below hb)
  replace HT := Lib.hid (HT.out.trans (hb.mono HT.out.size))
  have zwN := hb.size; (try simp only [World.size_alloc] at zwN); clear hb; obtain ⟨wN, rfl⟩ : ∃ x, x = w2 := ⟨_, rfl⟩
  go_wp2_with fail
  refine (l_toWriterS _ xs (by omega) _ HA2.out).mono ?_; rintro e w2 ⟨vE, rfl, OE, hb⟩
  obtain ⟨yEo, yEc, rfl, -, -⟩ := OE.shape
  replace OE := Lib.hid OE
  replace BP0 := Lib.hid (BP0.out.below hb)
  replace BP1 := Lib.hid (BP1.out.below hb)
  replace BW0 := Lib.hid (BW0.out.below hb)
  replace BW1 := Lib.hid (BW1.out.below hb)
  replace BX0 := Lib.hid (BX0.out.below hb)
  replace BX1 := Lib.hid (BX1.out.below hb)
  replace BG0 := Lib.hid (BG0.out.below hb)
  replace BG1 := Lib.hid (BG1.out.below hb)
  replace OW0 := Lib.hid (OW0.out.below hb)
  replace OW1 := Lib.hid (Own.below OW1.out hb)
  replace OW2 := Lib.hid (Own.below OW2.out hb)
  replace OX0 := Lib.hid (OX0.out.below hb)
  replace OX1 := Lib.hid (Own.below OX1.out hb)
  replace OX2 := Lib.hid (Own.below OX2.out hb)
  replace OX3 := Lib.hid (Own.below OX3.out hb)
  replace OG0 := Lib.hid (OG0.out.below hb)
  replace OG1 := Lib.hid (Own.below OG1.out hb)
  replace OG2 := Lib.hid (Own.below OG2.out hb)
  replace HA0 := Lib.hid (HA0.out.below hb)
  replace HA1 := Lib.hid (HA1.out.below hb)
  replace HA2 := Lib.hid (HA2.out.below hb)
  replace HA3 := Lib.hid (HA3.out.below hb)
  replace HT := Lib.hid (HT.out.trans (hb.mono HT.out.size))
  have zwO := hb.size; (try simp only [World.size_alloc] at zwO); clear hb; obtain ⟨wO, rfl⟩ : ∃ x, x = w2 := ⟨_, rfl⟩
  go_wp2_with fail
  refine (l_eqWriterS _ _ xs _ (Own.at OX2.out lenWr) (Own.at OE.out lenWr)).mono ?_; rintro e w2 ⟨rfl, hb⟩
  clear OE
  replace BP0 := Lib.hid (BP0.out.below hb)
  replace BP1 := Lib.hid (BP1.out.below hb)
  replace BW0 := Lib.hid (BW0.out.below hb)
  replace BW1 := Lib.hid (BW1.out.below hb)
  replace BX0 := Lib.hid (BX0.out.below hb)
  replace BX1 := Lib.hid (BX1.out.below hb)
  replace BG0 := Lib.hid (BG0.out.below hb)
  replace BG1 := Lib.hid (BG1.out.below hb)
  replace OW0 := Lib.hid (OW0.out.below hb)
  replace OW1 := Lib.hid (Own.below OW1.out hb)
  replace OW2 := Lib.hid (Own.below OW2.out hb)
  replace OX0 := Lib.hid (OX0.out.below hb)
  replace OX1 := Lib.hid (Own.below OX1.out hb)
  replace OX2 := Lib.hid (Own.below OX2.out hb)
  replace OX3 := Lib.hid (Own.below OX3.out hb)
  replace OG0 := Lib.hid (OG0.out.below hb)
  replace OG1 := Lib.hid (Own.below OG1.out hb)
  replace OG2 := Lib.hid (Own.below OG2.out hb)
  replace HA0 := Lib.hid (HA0.out.below hb)
  replace HA1 := Lib.hid (HA1.out.below hb)
  replace HA2 := Lib.hid (HA2.out.below hb)
  replace HA3 := Lib.hid (HA3.out.below hb)
  replace HT := Lib.hid (HT.out.trans (hb.mono HT.out.size))
  have zwP := hb.size; (try simp only [World.size_alloc] at zwP); clear hb; obtain ⟨wP, rfl⟩ : ∃ x, x = w2 := ⟨_, rfl⟩
  go_wp2_with fail
  refine (l_toIntS _ order (by omega) _ HA3.out).mono ?_; rintro e w2 ⟨vE, rfl, OE, hb⟩
  obtain ⟨yEo, yEc, rfl, -, -⟩ := OE.shape
  replace OE := Lib.hid OE
  replace BP0 := Lib.hid (BP0.out.below hb)
  replace BP1 := Lib.hid (BP1.out.below hb)
  replace BW0 := Lib.hid (BW0.out.below hb)
  replace BW1 := Lib.hid (BW1.out.below hb)
  replace BX0 := Lib.hid (BX0.out.below hb)
  replace BX1 := Lib.hid (BX1.out.below hb)
  replace BG0 := Lib.hid (BG0.out.below hb)
  replace BG1 := Lib.hid (BG1.out.below hb)
  replace OW0 := Lib.hid (OW0.out.below hb)
  replace OW1 := Lib.hid (Own.below OW1.out hb)
  replace OW2 := Lib.hid (Own.below OW2.out hb)
  replace OX0 := Lib.hid (OX0.out.below hb)
  replace OX1 := Lib.hid (Own.below OX1.out hb)
  replace OX2 := Lib.hid (Own.below OX2.out hb)
  replace OX3 := Lib.hid (Own.below OX3.out hb)
  replace OG0 := Lib.hid (OG0.out.below hb)
  replace OG1 := Lib.hid (Own.below OG1.out hb)
  replace OG2 := Lib.hid (Own.below OG2.out hb)
  replace HA0 := Lib.hid (HA0.out.below hb)
  replace HA1 := Lib.hid (HA1.out.below hb)
  replace HA2 := Lib.hid (HA2.out.below hb)
  replace HA3 := Lib.hid (HA3.out.below hb)
  replace HT := Lib.hid (HT.out.trans (hb.mono HT.out.size))
  have zwQ := hb.size; (try simp only [World.size_alloc] at zwQ); clear hb; obtain ⟨wQ, rfl⟩ : ∃ x, x = w2 := ⟨_, rfl⟩
  go_wp2_with fail
  refine (l_eqIntS _ _ _ _ order _ OX3.out OE.out).mono ?_; rintro e w2 ⟨rfl, hb⟩
  clear OE
  replace BP0 := Lib.hid (BP0.out.below hb)
  replace BP1 := Lib.hid (BP1.out.below hb)
  replace BW0 := Lib.hid (BW0.out.below hb)
  replace BW1 := Lib.hid (BW1.out.below hb)
  replace BX0 := Lib.hid (BX0.out.below hb)
  replace BX1 := Lib.hid (BX1.out.below hb)
  replace BG0 := Lib.hid (BG0.out.below hb)
  replace BG1 := Lib.hid (BG1.out.below hb)
  replace OW0 := Lib.hid (OW0.out.below hb)
  replace OW1 := Lib.hid (Own.below OW1.out hb)
  replace OW2 := Lib.hid (Own.below OW2.out hb)
  replace OX0 := Lib.hid (OX0.out.below hb)
  replace OX1 := Lib.hid (Own.below OX1.out hb)
  replace OX2 := Lib.hid (Own.below OX2.out hb)
  replace OX3 := Lib.hid (Own.below OX3.out hb)
  replace OG0 := Lib.hid (OG0.out.below hb)
  replace OG1 := Lib.hid (Own.below OG1.out hb)
  replace OG2 := Lib.hid (Own.below OG2.out hb)
  replace HA0 := Lib.hid (HA0.out.below hb)
  replace HA1 := Lib.hid (HA1.out.below hb)
  replace HA2 := Lib.hid (HA2.out.below hb)
  replace HA3 := Lib.hid (HA3.out.below hb)
  replace HT := Lib.hid (HT.out.trans (hb.mono HT.out.size))
  have zwR := hb.size; (try simp only [World.size_alloc] at zwR); clear hb; obtain ⟨wR, rfl⟩ : ∃ x, x = w2 := ⟨_, rfl⟩
  have cX00 := (BX0.out.cells 0 _ rfl).1; have fX00 := (BX0.out.cells 0 _ rfl).2
  have cX01 := (BX0.out.cells 1 _ rfl).1; have fX01 := (BX0.out.cells 1 _ rfl).2
  have cX02 := (BX0.out.cells 2 _ rfl).1; have fX02 := (BX0.out.cells 2 _ rfl).2
  have cX03 := (BX0.out.cells 3 _ rfl).1; have fX03 := (BX0.out.cells 3 _ rfl).2
  have cX04 := (BX0.out.cells 4 _ rfl).1; have fX04 := (BX0.out.cells 4 _ rfl).2
  have xX0 := BX0.out.lt
  go_wp2_with fail
  refine (l_markKernel _ (⟨⟨⟨.slice yX0co yX0vs.length yX0cc, .slice yX0uo K.m.f.used.length yX0uc, yX0vs⟩, .slice yX0eo K.m.ents.length yX0ec⟩, .slice yX0ro K.refuse.length yX0rc⟩ : KV) K 1 (by omega) _ OX0.out).mono ?_; rintro e w2 ⟨rfl, OM, ht⟩
  clear xX0 cX00 fX00 cX01 fX01 cX02 fX02 cX03 fX03 cX04 fX04
  replace BP0 := Lib.hid (BP0.out.touch ht (fun hm => by first | exact NP0_X0.out hm | (have := LX0.out _ hm; (try simp only [World.size_alloc] at this); omega)))
  replace BP1 := Lib.hid (BP1.out.touch ht (fun hm => by first | exact NP1_X0.out hm | (have := LX0.out _ hm; (try simp only [World.size_alloc] at this); omega)))
  replace BW0 := Lib.hid (BW0.out.touch ht (fun hm => by first | exact NW0_X0.out hm | (have := LX0.out _ hm; (try simp only [World.size_alloc] at this); omega)))
  replace BW1 := Lib.hid (BW1.out.touch ht (fun hm => by first | exact NW1_X0.out hm | (have := LX0.out _ hm; (try simp only [World.size_alloc] at this); omega)))
  replace BX0 := Lib.hid (BX0.out.touch ht (fun hm => by first | exact NX0_X0.out hm | (have := LX0.out _ hm; (try simp only [World.size_alloc] at this); omega)))
  replace BX1 := Lib.hid (BX1.out.touch ht (fun hm => by first | exact NX1_X0.out hm | (have := LX0.out _ hm; (try simp only [World.size_alloc] at this); omega)))
  replace BG0 := Lib.hid (BG0.out.touch ht (fun hm => by first | exact NG0_X0.out hm | (have := LX0.out _ hm; (try simp only [World.size_alloc] at this); omega)))
  replace BG1 := Lib.hid (BG1.out.touch ht (fun hm => by first | exact NG1_X0.out hm | (have := LX0.out _ hm; (try simp only [World.size_alloc] at this); omega)))
  replace OW0 := Lib.hid (OW0.out.touch ht (fun g hg hm => by (have h1 := LW0.out g hg; have h2 := LX0.out _ hm; (try simp only [World.size_alloc] at h1 h2); omega)))
  replace OW1 := Lib.hid (Own.touchs OW1.out ht (fun g hg hm => by (have h1 := LW1.out g hg; have h2 := LX0.out _ hm; (try simp only [World.size_alloc] at h1 h2); omega)))
  replace OW2 := Lib.hid (Own.touchs OW2.out ht (fun g hg hm => by (have h1 := LW2.out g hg; have h2 := LX0.out _ hm; (try simp only [World.size_alloc] at h1 h2); omega)))
  replace OX1 := Lib.hid (Own.touchs OX1.out ht (fun g hg hm => by (have h1 := LX1.out g hg; have h2 := LX0.out _ hm; (try simp only [World.size_alloc] at h1 h2); omega)))
  replace OX2 := Lib.hid (Own.touchs OX2.out ht (fun g hg hm => by (have h1 := LX2.out g hg; have h2 := LX0.out _ hm; (try simp only [World.size_alloc] at h1 h2); omega)))
  replace OX3 := Lib.hid (Own.touchs OX3.out ht (fun g hg hm => by (have h1 := LX3.out g hg; have h2 := LX0.out _ hm; (try simp only [World.size_alloc] at h1 h2); omega)))
  replace OG0 := Lib.hid (OG0.out.touch ht (fun g hg hm => by (have h1 := LG0.out g hg; have h2 := LX0.out _ hm; (try simp only [World.size_alloc] at h1 h2); omega)))
  replace OG1 := Lib.hid (Own.touchs OG1.out ht (fun g hg hm => by (have h1 := LG1.out g hg; have h2 := LX0.out _ hm; (try simp only [World.size_alloc] at h1 h2); omega)))
  replace OG2 := Lib.hid (Own.touchs OG2.out ht (fun g hg hm => by (have h1 := LG2.out g hg; have h2 := LX0.out _ hm; (try simp only [World.size_alloc] at h1 h2); omega)))
  have hb := ht.toBelow (B := w.heap.size) (fun g hg => by have h2 := LX0.out _ hg; (try simp only [World.size_alloc] at h2); omega) (by omega)
  replace HA0 := Lib.hid (KAt.below HAw0.out (HT.out.trans hb))
  replace HA1 := Lib.hid (SlAt.below HAw1.out (HT.out.trans hb))
  replace HA2 := Lib.hid (SlAt.below HAw2.out (HT.out.trans hb))
  replace HA3 := Lib.hid (SlAt.below HAw3.out (HT.out.trans hb))
  replace HT := Lib.hid (HT.out.trans hb)
  have zwS := ht.size; clear ht hb; obtain ⟨wS, rfl⟩ : ∃ x, x = w2 := ⟨_, rfl⟩
  clear OX0
  clear OM
  clear BX0
  have cX10 := (BX1.out.cells 0 _ rfl).1; have fX10 := (BX1.out.cells 0 _ rfl).2
  have cX11 := (BX1.out.cells 1 _ rfl).1; have fX11 := (BX1.out.cells 1 _ rfl).2
  have cX12 := (BX1.out.cells 2 _ rfl).1; have fX12 := (BX1.out.cells 2 _ rfl).2
  have cX13 := (BX1.out.cells 3 _ rfl).1; have fX13 := (BX1.out.cells 3 _ rfl).2
  have cX14 := (BX1.out.cells 4 _ rfl).1; have fX14 := (BX1.out.cells 4 _ rfl).2
  have xX1 := BX1.out.lt
  go_wp2_with fail
  refine (l_markJob _ kp mv _ cs ph nx _ (by omega) _ OX1.out).mono ?_; rintro e w2 ⟨rfl, OM, ht⟩
  clear xX1 cX10 fX10 cX11 fX11 cX12 fX12 cX13 fX13 cX14 fX14
  replace BP0 := Lib.hid (BP0.out.touch ht (fun hm => by first | exact NP0_X1.out hm | (have := LX1.out _ hm; (try simp only [World.size_alloc] at this); omega)))
  replace BP1 := Lib.hid (BP1.out.touch ht (fun hm => by first | exact NP1_X1.out hm | (have := LX1.out _ hm; (try simp only [World.size_alloc] at this); omega)))
  replace BW0 := Lib.hid (BW0.out.touch ht (fun hm => by first | exact NW0_X1.out hm | (have := LX1.out _ hm; (try simp only [World.size_alloc] at this); omega)))
  replace BW1 := Lib.hid (BW1.out.touch ht (fun hm => by first | exact NW1_X1.out hm | (have := LX1.out _ hm; (try simp only [World.size_alloc] at this); omega)))
  replace BX1 := Lib.hid (BX1.out.touch ht (fun hm => by first | exact NX1_X1.out hm | (have := LX1.out _ hm; (try simp only [World.size_alloc] at this); omega)))
  replace BG0 := Lib.hid (BG0.out.touch ht (fun hm => by first | exact NG0_X1.out hm | (have := LX1.out _ hm; (try simp only [World.size_alloc] at this); omega)))
  replace BG1 := Lib.hid (BG1.out.touch ht (fun hm => by first | exact NG1_X1.out hm | (have := LX1.out _ hm; (try simp only [World.size_alloc] at this); omega)))
  replace OW0 := Lib.hid (OW0.out.touch ht (fun g hg hm => by (have h1 := LW0.out g hg; have h2 := LX1.out _ hm; (try simp only [World.size_alloc] at h1 h2); omega)))
  replace OW1 := Lib.hid (Own.touchs OW1.out ht (fun g hg hm => by (have h1 := LW1.out g hg; have h2 := LX1.out _ hm; (try simp only [World.size_alloc] at h1 h2); omega)))
  replace OW2 := Lib.hid (Own.touchs OW2.out ht (fun g hg hm => by (have h1 := LW2.out g hg; have h2 := LX1.out _ hm; (try simp only [World.size_alloc] at h1 h2); omega)))
  replace OX2 := Lib.hid (Own.touchs OX2.out ht (fun g hg hm => by (have h1 := LX2.out g hg; have h2 := LX1.out _ hm; (try simp only [World.size_alloc] at h1 h2); omega)))
  replace OX3 := Lib.hid (Own.touchs OX3.out ht (fun g hg hm => by (have h1 := LX3.out g hg; have h2 := LX1.out _ hm; (try simp only [World.size_alloc] at h1 h2); omega)))
  replace OG0 := Lib.hid (OG0.out.touch ht (fun g hg hm => by (have h1 := LG0.out g hg; have h2 := LX1.out _ hm; (try simp only [World.size_alloc] at h1 h2); omega)))
  replace OG1 := Lib.hid (Own.touchs OG1.out ht (fun g hg hm => by (have h1 := LG1.out g hg; have h2 := LX1.out _ hm; (try simp only [World.size_alloc] at h1 h2); omega)))
  replace OG2 := Lib.hid (Own.touchs OG2.out ht (fun g hg hm => by (have h1 := LG2.out g hg; have h2 := LX1.out _ hm; (try simp only [World.size_alloc] at h1 h2); omega)))
  have hb := ht.toBelow (B := w.heap.size) (fun g hg => by have h2 := LX1.out _ hg; (try simp only [World.size_alloc] at h2); omega) (by omega)
  replace HA0 := Lib.hid (KAt.below HAw0.out (HT.out.trans hb))
  replace HA1 := Lib.hid (SlAt.below HAw1.out (HT.out.trans hb))
  replace HA2 := Lib.hid (SlAt.below HAw2.out (HT.out.trans hb))
  replace HA3 := Lib.hid (SlAt.below HAw3.out (HT.out.trans hb))
  replace HT := Lib.hid (HT.out.trans hb)
  have zwT := ht.size; clear ht hb; obtain ⟨wT, rfl⟩ : ∃ x, x = w2 := ⟨_, rfl⟩
  clear OX1
  clear OM
  clear BX1
  go_wp2_with fail
  refine (l_markWriterS _ _ xs _ (by omega) _ OX2.out).mono ?_; rintro e w2 ⟨rfl, OM, hgr⟩
  have ht := grown_touch (S := blocks [_]) hgr fun g hg => mem_one hg; clear hgr
  replace BP0 := Lib.hid (BP0.out.touch ht (fun hm => by first | exact NP0_X2.out hm | (have := LX2.out _ hm; (try simp only [World.size_alloc] at this); omega)))
  replace BP1 := Lib.hid (BP1.out.touch ht (fun hm => by first | exact NP1_X2.out hm | (have := LX2.out _ hm; (try simp only [World.size_alloc] at this); omega)))
  replace BW0 := Lib.hid (BW0.out.touch ht (fun hm => by first | exact NW0_X2.out hm | (have := LX2.out _ hm; (try simp only [World.size_alloc] at this); omega)))
  replace BW1 := Lib.hid (BW1.out.touch ht (fun hm => by first | exact NW1_X2.out hm | (have := LX2.out _ hm; (try simp only [World.size_alloc] at this); omega)))
  replace BG0 := Lib.hid (BG0.out.touch ht (fun hm => by first | exact NG0_X2.out hm | (have := LX2.out _ hm; (try simp only [World.size_alloc] at this); omega)))
  replace BG1 := Lib.hid (BG1.out.touch ht (fun hm => by first | exact NG1_X2.out hm | (have := LX2.out _ hm; (try simp only [World.size_alloc] at this); omega)))
  replace OW0 := Lib.hid (OW0.out.touch ht (fun g hg hm => by (have h1 := LW0.out g hg; have h2 := LX2.out _ hm; (try simp only [World.size_alloc] at h1 h2); omega)))
  replace OW1 := Lib.hid (Own.touchs OW1.out ht (fun g hg hm => by (have h1 := LW1.out g hg; have h2 := LX2.out _ hm; (try simp only [World.size_alloc] at h1 h2); omega)))
  replace OW2 := Lib.hid (Own.touchs OW2.out ht (fun g hg hm => by (have h1 := LW2.out g hg; have h2 := LX2.out _ hm; (try simp only [World.size_alloc] at h1 h2); omega)))
  replace OX3 := Lib.hid (Own.touchs OX3.out ht (fun g hg hm => by (have h1 := LX3.out g hg; have h2 := LX2.out _ hm; (try simp only [World.size_alloc] at h1 h2); omega)))
  replace OG0 := Lib.hid (OG0.out.touch ht (fun g hg hm => by (have h1 := LG0.out g hg; have h2 := LX2.out _ hm; (try simp only [World.size_alloc] at h1 h2); omega)))
  replace OG1 := Lib.hid (Own.touchs OG1.out ht (fun g hg hm => by (have h1 := LG1.out g hg; have h2 := LX2.out _ hm; (try simp only [World.size_alloc] at h1 h2); omega)))
  replace OG2 := Lib.hid (Own.touchs OG2.out ht (fun g hg hm => by (have h1 := LG2.out g hg; have h2 := LX2.out _ hm; (try simp only [World.size_alloc] at h1 h2); omega)))
  have hb := ht.toBelow (B := w.heap.size) (fun g hg => by have h2 := LX2.out _ hg; (try simp only [World.size_alloc] at h2); omega) (by omega)
  replace HA0 := Lib.hid (KAt.below HAw0.out (HT.out.trans hb))
  replace HA1 := Lib.hid (SlAt.below HAw1.out (HT.out.trans hb))
  replace HA2 := Lib.hid (SlAt.below HAw2.out (HT.out.trans hb))
  replace HA3 := Lib.hid (SlAt.below HAw3.out (HT.out.trans hb))
  replace HT := Lib.hid (HT.out.trans hb)
  have zwU := ht.size; clear ht hb; obtain ⟨wU, rfl⟩ : ∃ x, x = w2 := ⟨_, rfl⟩
  clear OX2
  clear OM
  go_wp2_with fail
  refine (markInt' _ _ _ _ (by omega) _ OX3.out).mono ?_; rintro e w2 ⟨rfl, OM, ht⟩
  replace BP0 := Lib.hid (BP0.out.touch ht (fun hm => by first | exact NP0_X3.out hm | (have := LX3.out _ hm; (try simp only [World.size_alloc] at this); omega)))
  replace BP1 := Lib.hid (BP1.out.touch ht (fun hm => by first | exact NP1_X3.out hm | (have := LX3.out _ hm; (try simp only [World.size_alloc] at this); omega)))
  replace BW0 := Lib.hid (BW0.out.touch ht (fun hm => by first | exact NW0_X3.out hm | (have := LX3.out _ hm; (try simp only [World.size_alloc] at this); omega)))
  replace BW1 := Lib.hid (BW1.out.touch ht (fun hm => by first | exact NW1_X3.out hm | (have := LX3.out _ hm; (try simp only [World.size_alloc] at this); omega)))
  replace BG0 := Lib.hid (BG0.out.touch ht (fun hm => by first | exact NG0_X3.out hm | (have := LX3.out _ hm; (try simp only [World.size_alloc] at this); omega)))
  replace BG1 := Lib.hid (BG1.out.touch ht (fun hm => by first | exact NG1_X3.out hm | (have := LX3.out _ hm; (try simp only [World.size_alloc] at this); omega)))
  replace OW0 := Lib.hid (OW0.out.touch ht (fun g hg hm => by (have h1 := LW0.out g hg; have h2 := LX3.out _ hm; (try simp only [World.size_alloc] at h1 h2); omega)))
  replace OW1 := Lib.hid (Own.touchs OW1.out ht (fun g hg hm => by (have h1 := LW1.out g hg; have h2 := LX3.out _ hm; (try simp only [World.size_alloc] at h1 h2); omega)))
  replace OW2 := Lib.hid (Own.touchs OW2.out ht (fun g hg hm => by (have h1 := LW2.out g hg; have h2 := LX3.out _ hm; (try simp only [World.size_alloc] at h1 h2); omega)))
  replace OG0 := Lib.hid (OG0.out.touch ht (fun g hg hm => by (have h1 := LG0.out g hg; have h2 := LX3.out _ hm; (try simp only [World.size_alloc] at h1 h2); omega)))
  replace OG1 := Lib.hid (Own.touchs OG1.out ht (fun g hg hm => by (have h1 := LG1.out g hg; have h2 := LX3.out _ hm; (try simp only [World.size_alloc] at h1 h2); omega)))
  replace OG2 := Lib.hid (Own.touchs OG2.out ht (fun g hg hm => by (have h1 := LG2.out g hg; have h2 := LX3.out _ hm; (try simp only [World.size_alloc] at h1 h2); omega)))
  have hb := ht.toBelow (B := w.heap.size) (fun g hg => by have h2 := LX3.out _ hg; (try simp only [World.size_alloc] at h2); omega) (by omega)
  replace HA0 := Lib.hid (KAt.below HAw0.out (HT.out.trans hb))
  replace HA1 := Lib.hid (SlAt.below HAw1.out (HT.out.trans hb))
  replace HA2 := Lib.hid (SlAt.below HAw2.out (HT.out.trans hb))
  replace HA3 := Lib.hid (SlAt.below HAw3.out (HT.out.trans hb))
  replace HT := Lib.hid (HT.out.trans hb)
  have zwV := ht.size; clear ht hb; obtain ⟨wV, rfl⟩ : ∃ x, x = w2 := ⟨_, rfl⟩
  clear OX3
  clear OM
  have cG00 := (BG0.out.cells 0 _ rfl).1; have fG00 := (BG0.out.cells 0 _ rfl).2
  have cG01 := (BG0.out.cells 1 _ rfl).1; have fG01 := (BG0.out.cells 1 _ rfl).2
  have cG02 := (BG0.out.cells 2 _ rfl).1; have fG02 := (BG0.out.cells 2 _ rfl).2
  have cG03 := (BG0.out.cells 3 _ rfl).1; have fG03 := (BG0.out.cells 3 _ rfl).2
  have cG04 := (BG0.out.cells 4 _ rfl).1; have fG04 := (BG0.out.cells 4 _ rfl).2
  have xG0 := BG0.out.lt
  have cW00 := (BW0.out.cells 0 _ rfl).1; have fW00 := (BW0.out.cells 0 _ rfl).2
  have cW01 := (BW0.out.cells 1 _ rfl).1; have fW01 := (BW0.out.cells 1 _ rfl).2
  have cW02 := (BW0.out.cells 2 _ rfl).1; have fW02 := (BW0.out.cells 2 _ rfl).2
  have cW03 := (BW0.out.cells 3 _ rfl).1; have fW03 := (BW0.out.cells 3 _ rfl).2
  have cW04 := (BW0.out.cells 4 _ rfl).1; have fW04 := (BW0.out.cells 4 _ rfl).2
  have xW0 := BW0.out.lt
  go_wp2_with fail
  refine (l_eqKernel _ _ (⟨⟨⟨.slice yG0co yG0vs.length yG0cc, .slice yG0uo K2.m.f.used.length yG0uc, yG0vs⟩, .slice yG0eo K2.m.ents.length yG0ec⟩, .slice yG0ro K2.refuse.length yG0rc⟩ : KV) (⟨⟨⟨.slice yW0co yW0vs.length yW0cc, .slice yW0uo K2.m.f.used.length yW0uc, yW0vs⟩, .slice yW0eo K2.m.ents.length yW0ec⟩, .slice yW0ro K2.refuse.length yW0rc⟩ : KV) _ _ OG0.out OW0.out).mono ?_; rintro e w2 ⟨rfl, hb⟩
  clear xG0 cG00 fG00 cG01 fG01 cG02 fG02 cG03 fG03 cG04 fG04
  clear xW0 cW00 fW00 cW01 fW01 cW02 fW02 cW03 fW03 cW04 fW04
  replace BP0 := Lib.hid (BP0.out.below hb)
  replace BP1 := Lib.hid (BP1.out.below hb)
  replace BW0 := Lib.hid (BW0.out.below hb)
  replace BW1 := Lib.hid (BW1.out.below hb)
  replace BG0 := Lib.hid (BG0.out.below hb)
  replace BG1 := Lib.hid (BG1.out.below hb)
  replace OW0 := Lib.hid (OW0.out.below hb)
  replace OW1 := Lib.hid (Own.below OW1.out hb)
  replace OW2 := Lib.hid (Own.below OW2.out hb)
  replace OG0 := Lib.hid (OG0.out.below hb)
  replace OG1 := Lib.hid (Own.below OG1.out hb)
  replace OG2 := Lib.hid (Own.below OG2.out hb)
  replace HA0 := Lib.hid (HA0.out.below hb)
  replace HA1 := Lib.hid (HA1.out.below hb)
  replace HA2 := Lib.hid (HA2.out.below hb)
  replace HA3 := Lib.hid (HA3.out.below hb)
  replace HT := Lib.hid (HT.out.trans (hb.mono HT.out.size))
  have zwW := hb.size; (try simp only [World.size_alloc] at zwW); clear hb; obtain ⟨wW, rfl⟩ : ∃ x, x = w2 := ⟨_, rfl⟩
  have cG10 := (BG1.out.cells 0 _ rfl).1; have fG10 := (BG1.out.cells 0 _ rfl).2
  have cG11 := (BG1.out.cells 1 _ rfl).1; have fG11 := (BG1.out.cells 1 _ rfl).2
  have cG12 := (BG1.out.cells 2 _ rfl).1; have fG12 := (BG1.out.cells 2 _ rfl).2
  have cG13 := (BG1.out.cells 3 _ rfl).1; have fG13 := (BG1.out.cells 3 _ rfl).2
  have cG14 := (BG1.out.cells 4 _ rfl).1; have fG14 := (BG1.out.cells 4 _ rfl).2
  have xG1 := BG1.out.lt
  have cW10 := (BW1.out.cells 0 _ rfl).1; have fW10 := (BW1.out.cells 0 _ rfl).2
  have cW11 := (BW1.out.cells 1 _ rfl).1; have fW11 := (BW1.out.cells 1 _ rfl).2
  have cW12 := (BW1.out.cells 2 _ rfl).1; have fW12 := (BW1.out.cells 2 _ rfl).2
  have cW13 := (BW1.out.cells 3 _ rfl).1; have fW13 := (BW1.out.cells 3 _ rfl).2
  have cW14 := (BW1.out.cells 4 _ rfl).1; have fW14 := (BW1.out.cells 4 _ rfl).2
  have xW1 := BW1.out.lt
  go_wp2_with fail
  refine (l_eqJob _ _ kp mv _ _ cs ph2 nx2 _ OG1.out OW1.out).mono ?_; rintro e w2 ⟨rfl, hb⟩
  clear xG1 cG10 fG10 cG11 fG11 cG12 fG12 cG13 fG13 cG14 fG14
  clear xW1 cW10 fW10 cW11 fW11 cW12 fW12 cW13 fW13 cW14 fW14
  replace BP0 := Lib.hid (BP0.out.below hb)
  replace BP1 := Lib.hid (BP1.out.below hb)
  replace BW0 := Lib.hid (BW0.out.below hb)
  replace BW1 := Lib.hid (BW1.out.below hb)
  replace BG0 := Lib.hid (BG0.out.below hb)
  replace BG1 := Lib.hid (BG1.out.below hb)
  replace OW0 := Lib.hid (OW0.out.below hb)
  replace OW1 := Lib.hid (Own.below OW1.out hb)
  replace OW2 := Lib.hid (Own.below OW2.out hb)
  replace OG0 := Lib.hid (OG0.out.below hb)
  replace OG1 := Lib.hid (Own.below OG1.out hb)
  replace OG2 := Lib.hid (Own.below OG2.out hb)
  replace HA0 := Lib.hid (HA0.out.below hb)
  replace HA1 := Lib.hid (HA1.out.below hb)
  replace HA2 := Lib.hid (HA2.out.below hb)
  replace HA3 := Lib.hid (HA3.out.below hb)
  replace HT := Lib.hid (HT.out.trans (hb.mono HT.out.size))
  have zwX := hb.size; (try simp only [World.size_alloc] at zwX); clear hb; obtain ⟨wX, rfl⟩ : ∃ x, x = w2 := ⟨_, rfl⟩
  go_wp2_with fail
  refine (l_eqWriterS _ _ rs _ (Own.at OG2.out lenWr) (Own.at OW2.out lenWr)).mono ?_; rintro e w2 ⟨rfl, hb⟩
  replace BP0 := Lib.hid (BP0.out.below hb)
  replace BP1 := Lib.hid (BP1.out.below hb)
  replace BW0 := Lib.hid (BW0.out.below hb)
  replace BW1 := Lib.hid (BW1.out.below hb)
  replace BG0 := Lib.hid (BG0.out.below hb)
  replace BG1 := Lib.hid (BG1.out.below hb)
  replace OW0 := Lib.hid (OW0.out.below hb)
  replace OW1 := Lib.hid (Own.below OW1.out hb)
  replace OW2 := Lib.hid (Own.below OW2.out hb)
  replace OG0 := Lib.hid (OG0.out.below hb)
  replace OG1 := Lib.hid (Own.below OG1.out hb)
  replace OG2 := Lib.hid (Own.below OG2.out hb)
  replace HA0 := Lib.hid (HA0.out.below hb)
  replace HA1 := Lib.hid (HA1.out.below hb)
  replace HA2 := Lib.hid (HA2.out.below hb)
  replace HA3 := Lib.hid (HA3.out.below hb)
  replace HT := Lib.hid (HT.out.trans (hb.mono HT.out.size))
  have zwY := hb.size; (try simp only [World.size_alloc] at zwY); clear hb; obtain ⟨wY, rfl⟩ : ∃ x, x = w2 := ⟨_, rfl⟩
  have cG00 := (BG0.out.cells 0 _ rfl).1; have fG00 := (BG0.out.cells 0 _ rfl).2
  have cG01 := (BG0.out.cells 1 _ rfl).1; have fG01 := (BG0.out.cells 1 _ rfl).2
  have cG02 := (BG0.out.cells 2 _ rfl).1; have fG02 := (BG0.out.cells 2 _ rfl).2
  have cG03 := (BG0.out.cells 3 _ rfl).1; have fG03 := (BG0.out.cells 3 _ rfl).2
  have cG04 := (BG0.out.cells 4 _ rfl).1; have fG04 := (BG0.out.cells 4 _ rfl).2
  have xG0 := BG0.out.lt
  go_wp2_with fail
  refine (l_markKernel _ (⟨⟨⟨.slice yG0co yG0vs.length yG0cc, .slice yG0uo K2.m.f.used.length yG0uc, yG0vs⟩, .slice yG0eo K2.m.ents.length yG0ec⟩, .slice yG0ro K2.refuse.length yG0rc⟩ : KV) K2 1 (by omega) _ OG0.out).mono ?_; rintro e w2 ⟨rfl, OM, ht⟩
  clear xG0 cG00 fG00 cG01 fG01 cG02 fG02 cG03 fG03 cG04 fG04
  replace BP0 := Lib.hid (BP0.out.touch ht (fun hm => by first | exact NP0_G0.out hm | (have := LG0.out _ hm; (try simp only [World.size_alloc] at this); omega)))
  replace BP1 := Lib.hid (BP1.out.touch ht (fun hm => by first | exact NP1_G0.out hm | (have := LG0.out _ hm; (try simp only [World.size_alloc] at this); omega)))
  replace BW0 := Lib.hid (BW0.out.touch ht (fun hm => by first | exact NW0_G0.out hm | (have := LG0.out _ hm; (try simp only [World.size_alloc] at this); omega)))
  replace BW1 := Lib.hid (BW1.out.touch ht (fun hm => by first | exact NW1_G0.out hm | (have := LG0.out _ hm; (try simp only [World.size_alloc] at this); omega)))
  replace BG0 := Lib.hid (BG0.out.touch ht (fun hm => by first | exact NG0_G0.out hm | (have := LG0.out _ hm; (try simp only [World.size_alloc] at this); omega)))
  replace BG1 := Lib.hid (BG1.out.touch ht (fun hm => by first | exact NG1_G0.out hm | (have := LG0.out _ hm; (try simp only [World.size_alloc] at this); omega)))
  replace OW0 := Lib.hid (OW0.out.touch ht (fun g hg hm => by (have h1 := LW0.out g hg; have h2 := LG0.out _ hm; (try simp only [World.size_alloc] at h1 h2); omega)))
  replace OW1 := Lib.hid (Own.touchs OW1.out ht (fun g hg hm => by (have h1 := LW1.out g hg; have h2 := LG0.out _ hm; (try simp only [World.size_alloc] at h1 h2); omega)))
  replace OW2 := Lib.hid (Own.touchs OW2.out ht (fun g hg hm => by (have h1 := LW2.out g hg; have h2 := LG0.out _ hm; (try simp only [World.size_alloc] at h1 h2); omega)))
  replace OG1 := Lib.hid (Own.touchs OG1.out ht (fun g hg hm => by first | exact DG0_1.out g hg hm | exact DG0_1.out g hm hg | (have h1 := LG1.out g hg; have h2 := LG0.out _ hm; (try simp only [World.size_alloc] at h1 h2); omega)))
  replace OG2 := Lib.hid (Own.touchs OG2.out ht (fun g hg hm => by first | exact DG0_2.out g hg hm | exact DG0_2.out g hm hg | (have h1 := LG2.out g hg; have h2 := LG0.out _ hm; (try simp only [World.size_alloc] at h1 h2); omega)))
  have hb := ht.toBelow (B := w.heap.size) (fun g hg => by have h2 := LG0.out _ hg; (try simp only [World.size_alloc] at h2); omega) (by omega)
  replace HA0 := Lib.hid (KAt.below HAw0.out (HT.out.trans hb))
  replace HA1 := Lib.hid (SlAt.below HAw1.out (HT.out.trans hb))
  replace HA2 := Lib.hid (SlAt.below HAw2.out (HT.out.trans hb))
  replace HA3 := Lib.hid (SlAt.below HAw3.out (HT.out.trans hb))
  replace HT := Lib.hid (HT.out.trans hb)
  have zwZ := ht.size; clear ht hb; obtain ⟨wZ, rfl⟩ : ∃ x, x = w2 := ⟨_, rfl⟩
  clear OG0
  have OG0 := Lib.hid OM; clear OM
  have cG10 := (BG1.out.cells 0 _ rfl).1; have fG10 := (BG1.out.cells 0 _ rfl).2
  have cG11 := (BG1.out.cells 1 _ rfl).1; have fG11 := (BG1.out.cells 1 _ rfl).2
  have cG12 := (BG1.out.cells 2 _ rfl).1; have fG12 := (BG1.out.cells 2 _ rfl).2
  have cG13 := (BG1.out.cells 3 _ rfl).1; have fG13 := (BG1.out.cells 3 _ rfl).2
  have cG14 := (BG1.out.cells 4 _ rfl).1; have fG14 := (BG1.out.cells 4 _ rfl).2
  have xG1 := BG1.out.lt
  go_wp2_with fail
  refine (l_markJob _ kp mv _ cs ph2 nx2 _ (by omega) _ OG1.out).mono ?_; rintro e w2 ⟨rfl, OM, ht⟩
  clear xG1 cG10 fG10 cG11 fG11 cG12 fG12 cG13 fG13 cG14 fG14
  replace BP0 := Lib.hid (BP0.out.touch ht (fun hm => by first | exact NP0_G1.out hm | (have := LG1.out _ hm; (try simp only [World.size_alloc] at this); omega)))
  replace BP1 := Lib.hid (BP1.out.touch ht (fun hm => by first | exact NP1_G1.out hm | (have := LG1.out _ hm; (try simp only [World.size_alloc] at this); omega)))
  replace BW0 := Lib.hid (BW0.out.touch ht (fun hm => by first | exact NW0_G1.out hm | (have := LG1.out _ hm; (try simp only [World.size_alloc] at this); omega)))
  replace BW1 := Lib.hid (BW1.out.touch ht (fun hm => by first | exact NW1_G1.out hm | (have := LG1.out _ hm; (try simp only [World.size_alloc] at this); omega)))
  replace BG0 := Lib.hid (BG0.out.touch ht (fun hm => by first | exact NG0_G1.out hm | (have := LG1.out _ hm; (try simp only [World.size_alloc] at this); omega)))
  replace BG1 := Lib.hid (BG1.out.touch ht (fun hm => by first | exact NG1_G1.out hm | (have := LG1.out _ hm; (try simp only [World.size_alloc] at this); omega)))
  replace OW0 := Lib.hid (OW0.out.touch ht (fun g hg hm => by (have h1 := LW0.out g hg; have h2 := LG1.out _ hm; (try simp only [World.size_alloc] at h1 h2); omega)))
  replace OW1 := Lib.hid (Own.touchs OW1.out ht (fun g hg hm => by (have h1 := LW1.out g hg; have h2 := LG1.out _ hm; (try simp only [World.size_alloc] at h1 h2); omega)))
  replace OW2 := Lib.hid (Own.touchs OW2.out ht (fun g hg hm => by (have h1 := LW2.out g hg; have h2 := LG1.out _ hm; (try simp only [World.size_alloc] at h1 h2); omega)))
  replace OG0 := Lib.hid (OG0.out.touch ht (fun g hg hm => by first | exact DG0_1.out g hg hm | exact DG0_1.out g hm hg | (have h1 := LG0.out g hg; have h2 := LG1.out _ hm; (try simp only [World.size_alloc] at h1 h2); omega)))
  replace OG2 := Lib.hid (Own.touchs OG2.out ht (fun g hg hm => by first | exact DG1_2.out g hg hm | exact DG1_2.out g hm hg | (have h1 := LG2.out g hg; have h2 := LG1.out _ hm; (try simp only [World.size_alloc] at h1 h2); omega)))
  have hb := ht.toBelow (B := w.heap.size) (fun g hg => by have h2 := LG1.out _ hg; (try simp only [World.size_alloc] at h2); omega) (by omega)
  replace HA0 := Lib.hid (KAt.below HAw0.out (HT.out.trans hb))
  replace HA1 := Lib.hid (SlAt.below HAw1.out (HT.out.trans hb))
  replace HA2 := Lib.hid (SlAt.below HAw2.out (HT.out.trans hb))
  replace HA3 := Lib.hid (SlAt.below HAw3.out (HT.out.trans hb))
  replace HT := Lib.hid (HT.out.trans hb)
  have zwzA := ht.size; clear ht hb; obtain ⟨wzA, rfl⟩ : ∃ x, x = w2 := ⟨_, rfl⟩
  clear OG1
  have OG1 := Lib.hid OM; clear OM
  go_wp2_with fail
  refine (l_markWriterS _ _ rs _ (by omega) _ OG2.out).mono ?_; rintro e w2 ⟨rfl, OM, hgr⟩
  have ht := grown_touch (S := blocks [_]) hgr fun g hg => mem_one hg; clear hgr
  replace BP0 := Lib.hid (BP0.out.touch ht (fun hm => by first | exact NP0_G2.out hm | (have := LG2.out _ hm; (try simp only [World.size_alloc] at this); omega)))
  replace BP1 := Lib.hid (BP1.out.touch ht (fun hm => by first | exact NP1_G2.out hm | (have := LG2.out _ hm; (try simp only [World.size_alloc] at this); omega)))
  replace BW0 := Lib.hid (BW0.out.touch ht (fun hm => by first | exact NW0_G2.out hm | (have := LG2.out _ hm; (try simp only [World.size_alloc] at this); omega)))
  replace BW1 := Lib.hid (BW1.out.touch ht (fun hm => by first | exact NW1_G2.out hm | (have := LG2.out _ hm; (try simp only [World.size_alloc] at this); omega)))
  replace BG0 := Lib.hid (BG0.out.touch ht (fun hm => by first | exact NG0_G2.out hm | (have := LG2.out _ hm; (try simp only [World.size_alloc] at this); omega)))
  replace BG1 := Lib.hid (BG1.out.touch ht (fun hm => by first | exact NG1_G2.out hm | (have := LG2.out _ hm; (try simp only [World.size_alloc] at this); omega)))
  replace OW0 := Lib.hid (OW0.out.touch ht (fun g hg hm => by (have h1 := LW0.out g hg; have h2 := LG2.out _ hm; (try simp only [World.size_alloc] at h1 h2); omega)))
  replace OW1 := Lib.hid (Own.touchs OW1.out ht (fun g hg hm => by (have h1 := LW1.out g hg; have h2 := LG2.out _ hm; (try simp only [World.size_alloc] at h1 h2); omega)))
  replace OW2 := Lib.hid (Own.touchs OW2.out ht (fun g hg hm => by (have h1 := LW2.out g hg; have h2 := LG2.out _ hm; (try simp only [World.size_alloc] at h1 h2); omega)))
  replace OG0 := Lib.hid (OG0.out.touch ht (fun g hg hm => by first | exact DG0_2.out g hg hm | exact DG0_2.out g hm hg | (have h1 := LG0.out g hg; have h2 := LG2.out _ hm; (try simp only [World.size_alloc] at h1 h2); omega)))
  replace OG1 := Lib.hid (Own.touchs OG1.out ht (fun g hg hm => by first | exact DG1_2.out g hg hm | exact DG1_2.out g hm hg | (have h1 := LG1.out g hg; have h2 := LG2.out _ hm; (try simp only [World.size_alloc] at h1 h2); omega)))
  have hb := ht.toBelow (B := w.heap.size) (fun g hg => by have h2 := LG2.out _ hg; (try simp only [World.size_alloc] at h2); omega) (by omega)
  replace HA0 := Lib.hid (KAt.below HAw0.out (HT.out.trans hb))
  replace HA1 := Lib.hid (SlAt.below HAw1.out (HT.out.trans hb))
  replace HA2 := Lib.hid (SlAt.below HAw2.out (HT.out.trans hb))
  replace HA3 := Lib.hid (SlAt.below HAw3.out (HT.out.trans hb))
  replace HT := Lib.hid (HT.out.trans hb)
  have zwzB := ht.size; clear ht hb; obtain ⟨wzB, rfl⟩ : ∃ x, x = w2 := ⟨_, rfl⟩
  clear OG2
  have OG2 := Lib.hid OM; clear OM
  have cG00 := (BG0.out.cells 0 _ rfl).1; have fG00 := (BG0.out.cells 0 _ rfl).2
  have cG01 := (BG0.out.cells 1 _ rfl).1; have fG01 := (BG0.out.cells 1 _ rfl).2
  have cG02 := (BG0.out.cells 2 _ rfl).1; have fG02 := (BG0.out.cells 2 _ rfl).2
  have cG03 := (BG0.out.cells 3 _ rfl).1; have fG03 := (BG0.out.cells 3 _ rfl).2
  have cG04 := (BG0.out.cells 4 _ rfl).1; have fG04 := (BG0.out.cells 4 _ rfl).2
  have xG0 := BG0.out.lt
  go_wp2_with fail
  refine (l_heldKernel _ (⟨⟨⟨.slice yG0co yG0vs.length yG0cc, .slice yG0uo K2.m.f.used.length yG0uc, yG0vs⟩, .slice yG0eo K2.m.ents.length yG0ec⟩, .slice yG0ro K2.refuse.length yG0rc⟩ : KV) K2 1 (by omega) _ OG0.out).mono ?_; rintro e w2 ⟨rfl, hb⟩
  clear xG0 cG00 fG00 cG01 fG01 cG02 fG02 cG03 fG03 cG04 fG04
  replace BP0 := Lib.hid (BP0.out.below hb)
  replace BP1 := Lib.hid (BP1.out.below hb)
  replace BW0 := Lib.hid (BW0.out.below hb)
  replace BW1 := Lib.hid (BW1.out.below hb)
  replace BG0 := Lib.hid (BG0.out.below hb)
  replace BG1 := Lib.hid (BG1.out.below hb)
  replace OW0 := Lib.hid (OW0.out.below hb)
  replace OW1 := Lib.hid (Own.below OW1.out hb)
  replace OW2 := Lib.hid (Own.below OW2.out hb)
  replace OG0 := Lib.hid (OG0.out.below hb)
  replace OG1 := Lib.hid (Own.below OG1.out hb)
  replace OG2 := Lib.hid (Own.below OG2.out hb)
  replace HA0 := Lib.hid (HA0.out.below hb)
  replace HA1 := Lib.hid (HA1.out.below hb)
  replace HA2 := Lib.hid (HA2.out.below hb)
  replace HA3 := Lib.hid (HA3.out.below hb)
  replace HT := Lib.hid (HT.out.trans (hb.mono HT.out.size))
  have zwzC := hb.size; (try simp only [World.size_alloc] at zwzC); clear hb; obtain ⟨wzC, rfl⟩ : ∃ x, x = w2 := ⟨_, rfl⟩
  have cG10 := (BG1.out.cells 0 _ rfl).1; have fG10 := (BG1.out.cells 0 _ rfl).2
  have cG11 := (BG1.out.cells 1 _ rfl).1; have fG11 := (BG1.out.cells 1 _ rfl).2
  have cG12 := (BG1.out.cells 2 _ rfl).1; have fG12 := (BG1.out.cells 2 _ rfl).2
  have cG13 := (BG1.out.cells 3 _ rfl).1; have fG13 := (BG1.out.cells 3 _ rfl).2
  have cG14 := (BG1.out.cells 4 _ rfl).1; have fG14 := (BG1.out.cells 4 _ rfl).2
  have xG1 := BG1.out.lt
  go_wp2_with fail
  refine (l_heldJob _ kp mv _ cs.length ph2 nx2 _ (by omega) _ OG1.out).mono ?_; rintro e w2 ⟨rfl, hb⟩
  clear xG1 cG10 fG10 cG11 fG11 cG12 fG12 cG13 fG13 cG14 fG14
  replace BP0 := Lib.hid (BP0.out.below hb)
  replace BP1 := Lib.hid (BP1.out.below hb)
  replace BW0 := Lib.hid (BW0.out.below hb)
  replace BW1 := Lib.hid (BW1.out.below hb)
  replace BG0 := Lib.hid (BG0.out.below hb)
  replace BG1 := Lib.hid (BG1.out.below hb)
  replace OW0 := Lib.hid (OW0.out.below hb)
  replace OW1 := Lib.hid (Own.below OW1.out hb)
  replace OW2 := Lib.hid (Own.below OW2.out hb)
  replace OG0 := Lib.hid (OG0.out.below hb)
  replace OG1 := Lib.hid (Own.below OG1.out hb)
  replace OG2 := Lib.hid (Own.below OG2.out hb)
  replace HA0 := Lib.hid (HA0.out.below hb)
  replace HA1 := Lib.hid (HA1.out.below hb)
  replace HA2 := Lib.hid (HA2.out.below hb)
  replace HA3 := Lib.hid (HA3.out.below hb)
  replace HT := Lib.hid (HT.out.trans (hb.mono HT.out.size))
  have zwzD := hb.size; (try simp only [World.size_alloc] at zwzD); clear hb; obtain ⟨wzD, rfl⟩ : ∃ x, x = w2 := ⟨_, rfl⟩
  go_wp2_with fail
  refine (l_heldWriterS _ rs.length _ (by omega) _ (Own.at OG2.out lenWr)).mono ?_; rintro e w2 ⟨rfl, hb⟩
  replace BP0 := Lib.hid (BP0.out.below hb)
  replace BP1 := Lib.hid (BP1.out.below hb)
  replace BW0 := Lib.hid (BW0.out.below hb)
  replace BW1 := Lib.hid (BW1.out.below hb)
  replace BG0 := Lib.hid (BG0.out.below hb)
  replace BG1 := Lib.hid (BG1.out.below hb)
  replace OW0 := Lib.hid (OW0.out.below hb)
  replace OW1 := Lib.hid (Own.below OW1.out hb)
  replace OW2 := Lib.hid (Own.below OW2.out hb)
  replace OG0 := Lib.hid (OG0.out.below hb)
  replace OG1 := Lib.hid (Own.below OG1.out hb)
  replace OG2 := Lib.hid (Own.below OG2.out hb)
  replace HA0 := Lib.hid (HA0.out.below hb)
  replace HA1 := Lib.hid (HA1.out.below hb)
  replace HA2 := Lib.hid (HA2.out.below hb)
  replace HA3 := Lib.hid (HA3.out.below hb)
  replace HT := Lib.hid (HT.out.trans (hb.mono HT.out.size))
  have zwzE := hb.size; (try simp only [World.size_alloc] at zwzE); clear hb; obtain ⟨wzE, rfl⟩ : ∃ x, x = w2 := ⟨_, rfl⟩
  have cP00 := (BP0.out.cells 0 _ rfl).1; have fP00 := (BP0.out.cells 0 _ rfl).2
  have cP01 := (BP0.out.cells 1 _ rfl).1; have fP01 := (BP0.out.cells 1 _ rfl).2
  have cP02 := (BP0.out.cells 2 _ rfl).1; have fP02 := (BP0.out.cells 2 _ rfl).2
  have cP03 := (BP0.out.cells 3 _ rfl).1; have fP03 := (BP0.out.cells 3 _ rfl).2
  have cP04 := (BP0.out.cells 4 _ rfl).1; have fP04 := (BP0.out.cells 4 _ rfl).2
  have xP0 := BP0.out.lt
  have cP10 := (BP1.out.cells 0 _ rfl).1; have fP10 := (BP1.out.cells 0 _ rfl).2
  have cP11 := (BP1.out.cells 1 _ rfl).1; have fP11 := (BP1.out.cells 1 _ rfl).2
  have cP12 := (BP1.out.cells 2 _ rfl).1; have fP12 := (BP1.out.cells 2 _ rfl).2
  have cP13 := (BP1.out.cells 3 _ rfl).1; have fP13 := (BP1.out.cells 3 _ rfl).2
  have cP14 := (BP1.out.cells 4 _ rfl).1; have fP14 := (BP1.out.cells 4 _ rfl).2
  have xP1 := BP1.out.lt
  go_wp2_with fail
  go_upto_region 52 with fail
  go_cut [23, 24, 25] (fun ss23 ss24 ss25 wx => ∃ yH0co yH0cc yH0uo yH0uc yH0vs yH0eo yH0ec yH0ro yH0rc yH1o yH1c yH2o yH2c gH0 gH1, ss23 = .pointer (some ⟨gH0, 0, none⟩) ∧ ss24 = .pointer (some ⟨gH1, 0, none⟩) ∧ ss25 = .slice yH2o (rs).length yH2c ∧ BoxAt wx gH0 [.slice yH0co yH0vs.length yH0cc, .slice yH0uo K2.m.f.used.length yH0uc, .slice yH0eo K2.m.ents.length yH0ec, .int .i64 (K2.calls), .slice yH0ro K2.refuse.length yH0rc] ∧ BoxAt wx gH1 [.int .i64 kp, .int .i64 mv, .slice yH1o cs.length yH1c, .int .i64 ph2, .int .i64 nx2] ∧ KOwn (wzE.heap.size) wx (⟨⟨⟨.slice yH0co yH0vs.length yH0cc, .slice yH0uo K2.m.f.used.length yH0uc, yH0vs⟩, .slice yH0eo K2.m.ents.length yH0ec⟩, .slice yH0ro K2.refuse.length yH0rc⟩ : KV) K2 ∧ OwnI (wzE.heap.size) wx (.slice yH1o cs.length yH1c) cs ∧ OwnWr (wzE.heap.size) wx (.slice yH2o rs.length yH2c) rs ∧ gH0 ∉ blocks (KV.all (⟨⟨⟨.slice yH0co yH0vs.length yH0cc, .slice yH0uo K2.m.f.used.length yH0uc, yH0vs⟩, .slice yH0eo K2.m.ents.length yH0ec⟩, .slice yH0ro K2.refuse.length yH0rc⟩ : KV)) ∧ gH0 ∉ blocks ([.slice yH1o cs.length yH1c]) ∧ gH0 ∉ blocks ([.slice yH2o rs.length yH2c]) ∧ gH1 ∉ blocks (KV.all (⟨⟨⟨.slice yH0co yH0vs.length yH0cc, .slice yH0uo K2.m.f.used.length yH0uc, yH0vs⟩, .slice yH0eo K2.m.ents.length yH0ec⟩, .slice yH0ro K2.refuse.length yH0rc⟩ : KV)) ∧ gH1 ∉ blocks ([.slice yH1o cs.length yH1c]) ∧ gH1 ∉ blocks ([.slice yH2o rs.length yH2c]) ∧ (∀ g ∈ blocks (KV.all (⟨⟨⟨.slice yH0co yH0vs.length yH0cc, .slice yH0uo K2.m.f.used.length yH0uc, yH0vs⟩, .slice yH0eo K2.m.ents.length yH0ec⟩, .slice yH0ro K2.refuse.length yH0rc⟩ : KV)), g ∉ blocks ([.slice yH1o cs.length yH1c])) ∧ (∀ g ∈ blocks (KV.all (⟨⟨⟨.slice yH0co yH0vs.length yH0cc, .slice yH0uo K2.m.f.used.length yH0uc, yH0vs⟩, .slice yH0eo K2.m.ents.length yH0ec⟩, .slice yH0ro K2.refuse.length yH0rc⟩ : KV)), g ∉ blocks ([.slice yH2o rs.length yH2c])) ∧ (∀ g ∈ blocks ([.slice yH1o cs.length yH1c]), g ∉ blocks ([.slice yH2o rs.length yH2c])) ∧ wzE.heap.size ≤ gH0 ∧ wzE.heap.size ≤ gH1 ∧ Below (wzE).heap.size (wzE) wx)
  case first =>
      refine wp_gen (fun a0 ha0 => ?_)
      have hsz : a0.tmps.size = 216 := by rw [ha0]; rfl
      have hps : (wzE).heap.size = wzE.heap.size := by first | rfl | simp only [World.size_alloc, World.size_drew]
      have X4 : ∀ u, (frAll a0 [170, 171, 172, 173, 174, 175, 176, 177, 178, 169, 179, 180, 181, 23, 24, 25] u).tmps.getD 4 undef = .pointer (some ⟨w.heap.size, 0, none⟩) := fun u => (frAll_other (by decide)).trans (by rw [ha0]; rfl)
      have X5 : ∀ u, (frAll a0 [170, 171, 172, 173, 174, 175, 176, 177, 178, 169, 179, 180, 181, 23, 24, 25] u).tmps.getD 5 undef = .pointer (some ⟨w.heap.size + 1, 0, none⟩) := fun u => (frAll_other (by decide)).trans (by rw [ha0]; rfl)
      have X2 : ∀ u, (frAll a0 [170, 171, 172, 173, 174, 175, 176, 177, 178, 169, 179, 180, 181, 23, 24, 25] u).tmps.getD 2 undef = .slice ao2 xs.length ca2 := fun u => (frAll_other (by decide)).trans (by rw [ha0]; rfl)
      have X3 : ∀ u, (frAll a0 [170, 171, 172, 173, 174, 175, 176, 177, 178, 169, 179, 180, 181, 23, 24, 25] u).tmps.getD 3 undef = .slice ao3 order.length ca3 := fun u => (frAll_other (by decide)).trans (by rw [ha0]; rfl)
      have E170 : ∀ u, (frAll a0 [170, 171, 172, 173, 174, 175, 176, 177, 178, 169, 179, 180, 181, 23, 24, 25] u).tmps.getD 170 undef = u 170 := fun u => frAll_eval (by decide) (by rw [hsz]; decide)
      have P170 : ∀ u v, (frAll a0 [170, 171, 172, 173, 174, 175, 176, 177, 178, 169, 179, 180, 181, 23, 24, 25] u).put (some 170) v = frAll a0 [170, 171, 172, 173, 174, 175, 176, 177, 178, 169, 179, 180, 181, 23, 24, 25] (frUpd u 170 v) := fun u v => frAll_put v (by decide)
      have E171 : ∀ u, (frAll a0 [170, 171, 172, 173, 174, 175, 176, 177, 178, 169, 179, 180, 181, 23, 24, 25] u).tmps.getD 171 undef = u 171 := fun u => frAll_eval (by decide) (by rw [hsz]; decide)
      have P171 : ∀ u v, (frAll a0 [170, 171, 172, 173, 174, 175, 176, 177, 178, 169, 179, 180, 181, 23, 24, 25] u).put (some 171) v = frAll a0 [170, 171, 172, 173, 174, 175, 176, 177, 178, 169, 179, 180, 181, 23, 24, 25] (frUpd u 171 v) := fun u v => frAll_put v (by decide)
      have E172 : ∀ u, (frAll a0 [170, 171, 172, 173, 174, 175, 176, 177, 178, 169, 179, 180, 181, 23, 24, 25] u).tmps.getD 172 undef = u 172 := fun u => frAll_eval (by decide) (by rw [hsz]; decide)
      have P172 : ∀ u v, (frAll a0 [170, 171, 172, 173, 174, 175, 176, 177, 178, 169, 179, 180, 181, 23, 24, 25] u).put (some 172) v = frAll a0 [170, 171, 172, 173, 174, 175, 176, 177, 178, 169, 179, 180, 181, 23, 24, 25] (frUpd u 172 v) := fun u v => frAll_put v (by decide)
      have E173 : ∀ u, (frAll a0 [170, 171, 172, 173, 174, 175, 176, 177, 178, 169, 179, 180, 181, 23, 24, 25] u).tmps.getD 173 undef = u 173 := fun u => frAll_eval (by decide) (by rw [hsz]; decide)
      have P173 : ∀ u v, (frAll a0 [170, 171, 172, 173, 174, 175, 176, 177, 178, 169, 179, 180, 181, 23, 24, 25] u).put (some 173) v = frAll a0 [170, 171, 172, 173, 174, 175, 176, 177, 178, 169, 179, 180, 181, 23, 24, 25] (frUpd u 173 v) := fun u v => frAll_put v (by decide)
      have E174 : ∀ u, (frAll a0 [170, 171, 172, 173, 174, 175, 176, 177, 178, 169, 179, 180, 181, 23, 24, 25] u).tmps.getD 174 undef = u 174 := fun u => frAll_eval (by decide) (by rw [hsz]; decide)
      have P174 : ∀ u v, (frAll a0 [170, 171, 172, 173, 174, 175, 176, 177, 178, 169, 179, 180, 181, 23, 24, 25] u).put (some 174) v = frAll a0 [170, 171, 172, 173, 174, 175, 176, 177, 178, 169, 179, 180, 181, 23, 24, 25] (frUpd u 174 v) := fun u v => frAll_put v (by decide)
      have E175 : ∀ u, (frAll a0 [170, 171, 172, 173, 174, 175, 176, 177, 178, 169, 179, 180, 181, 23, 24, 25] u).tmps.getD 175 undef = u 175 := fun u => frAll_eval (by decide) (by rw [hsz]; decide)
      have P175 : ∀ u v, (frAll a0 [170, 171, 172, 173, 174, 175, 176, 177, 178, 169, 179, 180, 181, 23, 24, 25] u).put (some 175) v = frAll a0 [170, 171, 172, 173, 174, 175, 176, 177, 178, 169, 179, 180, 181, 23, 24, 25] (frUpd u 175 v) := fun u v => frAll_put v (by decide)
      have E176 : ∀ u, (frAll a0 [170, 171, 172, 173, 174, 175, 176, 177, 178, 169, 179, 180, 181, 23, 24, 25] u).tmps.getD 176 undef = u 176 := fun u => frAll_eval (by decide) (by rw [hsz]; decide)
      have P176 : ∀ u v, (frAll a0 [170, 171, 172, 173, 174, 175, 176, 177, 178, 169, 179, 180, 181, 23, 24, 25] u).put (some 176) v = frAll a0 [170, 171, 172, 173, 174, 175, 176, 177, 178, 169, 179, 180, 181, 23, 24, 25] (frUpd u 176 v) := fun u v => frAll_put v (by decide)
      have E177 : ∀ u, (frAll a0 [170, 171, 172, 173, 174, 175, 176, 177, 178, 169, 179, 180, 181, 23, 24, 25] u).tmps.getD 177 undef = u 177 := fun u => frAll_eval (by decide) (by rw [hsz]; decide)
      have P177 : ∀ u v, (frAll a0 [170, 171, 172, 173, 174, 175, 176, 177, 178, 169, 179, 180, 181, 23, 24, 25] u).put (some 177) v = frAll a0 [170, 171, 172, 173, 174, 175, 176, 177, 178, 169, 179, 180, 181, 23, 24, 25] (frUpd u 177 v) := fun u v => frAll_put v (by decide)
      have E178 : ∀ u, (frAll a0 [170, 171, 172, 173, 174, 175, 176, 177, 178, 169, 179, 180, 181, 23, 24, 25] u).tmps.getD 178 undef = u 178 := fun u => frAll_eval (by decide) (by rw [hsz]; decide)
      have P178 : ∀ u v, (frAll a0 [170, 171, 172, 173, 174, 175, 176, 177, 178, 169, 179, 180, 181, 23, 24, 25] u).put (some 178) v = frAll a0 [170, 171, 172, 173, 174, 175, 176, 177, 178, 169, 179, 180, 181, 23, 24, 25] (frUpd u 178 v) := fun u v => frAll_put v (by decide)
      have E169 : ∀ u, (frAll a0 [170, 171, 172, 173, 174, 175, 176, 177, 178, 169, 179, 180, 181, 23, 24, 25] u).tmps.getD 169 undef = u 169 := fun u => frAll_eval (by decide) (by rw [hsz]; decide)
      have P169 : ∀ u v, (frAll a0 [170, 171, 172, 173, 174, 175, 176, 177, 178, 169, 179, 180, 181, 23, 24, 25] u).put (some 169) v = frAll a0 [170, 171, 172, 173, 174, 175, 176, 177, 178, 169, 179, 180, 181, 23, 24, 25] (frUpd u 169 v) := fun u v => frAll_put v (by decide)
      have E179 : ∀ u, (frAll a0 [170, 171, 172, 173, 174, 175, 176, 177, 178, 169, 179, 180, 181, 23, 24, 25] u).tmps.getD 179 undef = u 179 := fun u => frAll_eval (by decide) (by rw [hsz]; decide)
      have P179 : ∀ u v, (frAll a0 [170, 171, 172, 173, 174, 175, 176, 177, 178, 169, 179, 180, 181, 23, 24, 25] u).put (some 179) v = frAll a0 [170, 171, 172, 173, 174, 175, 176, 177, 178, 169, 179, 180, 181, 23, 24, 25] (frUpd u 179 v) := fun u v => frAll_put v (by decide)
      have E180 : ∀ u, (frAll a0 [170, 171, 172, 173, 174, 175, 176, 177, 178, 169, 179, 180, 181, 23, 24, 25] u).tmps.getD 180 undef = u 180 := fun u => frAll_eval (by decide) (by rw [hsz]; decide)
      have P180 : ∀ u v, (frAll a0 [170, 171, 172, 173, 174, 175, 176, 177, 178, 169, 179, 180, 181, 23, 24, 25] u).put (some 180) v = frAll a0 [170, 171, 172, 173, 174, 175, 176, 177, 178, 169, 179, 180, 181, 23, 24, 25] (frUpd u 180 v) := fun u v => frAll_put v (by decide)
      have E181 : ∀ u, (frAll a0 [170, 171, 172, 173, 174, 175, 176, 177, 178, 169, 179, 180, 181, 23, 24, 25] u).tmps.getD 181 undef = u 181 := fun u => frAll_eval (by decide) (by rw [hsz]; decide)
      have P181 : ∀ u v, (frAll a0 [170, 171, 172, 173, 174, 175, 176, 177, 178, 169, 179, 180, 181, 23, 24, 25] u).put (some 181) v = frAll a0 [170, 171, 172, 173, 174, 175, 176, 177, 178, 169, 179, 180, 181, 23, 24, 25] (frUpd u 181 v) := fun u v => frAll_put v (by decide)
      have E23 : ∀ u, (frAll a0 [170, 171, 172, 173, 174, 175, 176, 177, 178, 169, 179, 180, 181, 23, 24, 25] u).tmps.getD 23 undef = u 23 := fun u => frAll_eval (by decide) (by rw [hsz]; decide)
      have P23 : ∀ u v, (frAll a0 [170, 171, 172, 173, 174, 175, 176, 177, 178, 169, 179, 180, 181, 23, 24, 25] u).put (some 23) v = frAll a0 [170, 171, 172, 173, 174, 175, 176, 177, 178, 169, 179, 180, 181, 23, 24, 25] (frUpd u 23 v) := fun u v => frAll_put v (by decide)
      have E24 : ∀ u, (frAll a0 [170, 171, 172, 173, 174, 175, 176, 177, 178, 169, 179, 180, 181, 23, 24, 25] u).tmps.getD 24 undef = u 24 := fun u => frAll_eval (by decide) (by rw [hsz]; decide)
      have P24 : ∀ u v, (frAll a0 [170, 171, 172, 173, 174, 175, 176, 177, 178, 169, 179, 180, 181, 23, 24, 25] u).put (some 24) v = frAll a0 [170, 171, 172, 173, 174, 175, 176, 177, 178, 169, 179, 180, 181, 23, 24, 25] (frUpd u 24 v) := fun u v => frAll_put v (by decide)
      have E25 : ∀ u, (frAll a0 [170, 171, 172, 173, 174, 175, 176, 177, 178, 169, 179, 180, 181, 23, 24, 25] u).tmps.getD 25 undef = u 25 := fun u => frAll_eval (by decide) (by rw [hsz]; decide)
      have P25 : ∀ u v, (frAll a0 [170, 171, 172, 173, 174, 175, 176, 177, 178, 169, 179, 180, 181, 23, 24, 25] u).put (some 25) v = frAll a0 [170, 171, 172, 173, 174, 175, 176, 177, 178, 169, 179, 180, 181, 23, 24, 25] (frUpd u 25 v) := fun u v => frAll_put v (by decide)
      replace ha0 := Lib.hid ha0
      refine wp_region_frame [170, 171, 172, 173, 174, 175, 176, 177, 178, 169, 179, 180, 181, 23, 24, 25] (fun D u wv => ∃ yC0co yC0cc yC0uo yC0uc yC0vs yC0eo yC0ec yC0ro yC0rc yC1o yC1c yC2o yC2c yC3o yC3c yH0co yH0cc yH0uo yH0uc yH0vs yH0eo yH0ec yH0ro yH0rc yH1o yH1c yH2o yH2c gH0 gH1, Hid (Below (wzE).heap.size (wzE) wv) ∧ Hid (D 0 → u 170 = .agg #[x.m.f.c, x.m.f.u, x.m.e, .int .i64 K.calls, x.r]) ∧ Hid (D 1 → u 171 = .agg #[.slice yC0co yC0vs.length yC0cc, .slice yC0uo K.m.f.used.length yC0uc, .slice yC0eo K.m.ents.length yC0ec, .int .i64 (K.calls), .slice yC0ro K.refuse.length yC0rc]) ∧ Hid (D 2 → u 172 = .agg #[.int .i64 kp, .int .i64 mv, c, .int .i64 ph, .int .i64 nx]) ∧ Hid (D 3 → u 173 = .agg #[.int .i64 kp, .int .i64 mv, .slice yC1o cs.length yC1c, .int .i64 ph, .int .i64 nx]) ∧ Hid (D 4 → u 174 = .slice ao2 xs.length ca2) ∧ Hid (D 5 → u 175 = .slice yC2o xs.length yC2c) ∧ Hid (D 6 → u 176 = .slice ao3 order.length ca3) ∧ Hid (D 7 → u 177 = .slice yC3o order.length yC3c) ∧ Hid (D 8 → u 178 = .tuple #[.agg #[.slice yH0co yH0vs.length yH0cc, .slice yH0uo K2.m.f.used.length yH0uc, .slice yH0eo K2.m.ents.length yH0ec, .int .i64 (K2.calls), .slice yH0ro K2.refuse.length yH0rc], .agg #[.int .i64 kp, .int .i64 mv, .slice yH1o cs.length yH1c, .int .i64 ph2, .int .i64 nx2], .slice yH2o rs.length yH2c]) ∧ Hid (D 9 → u 169 = .tuple #[.agg #[.slice yH0co yH0vs.length yH0cc, .slice yH0uo K2.m.f.used.length yH0uc, .slice yH0eo K2.m.ents.length yH0ec, .int .i64 (K2.calls), .slice yH0ro K2.refuse.length yH0rc], .agg #[.int .i64 kp, .int .i64 mv, .slice yH1o cs.length yH1c, .int .i64 ph2, .int .i64 nx2], .slice yH2o rs.length yH2c]) ∧ Hid (D 10 → u 179 = .agg #[.slice yH0co yH0vs.length yH0cc, .slice yH0uo K2.m.f.used.length yH0uc, .slice yH0eo K2.m.ents.length yH0ec, .int .i64 (K2.calls), .slice yH0ro K2.refuse.length yH0rc]) ∧ Hid (D 11 → u 180 = .agg #[.int .i64 kp, .int .i64 mv, .slice yH1o cs.length yH1c, .int .i64 ph2, .int .i64 nx2]) ∧ Hid (D 12 → u 181 = .slice yH2o rs.length yH2c) ∧ Hid (D 13 → u 23 = .pointer (some ⟨gH0, 0, none⟩)) ∧ Hid (D 14 → u 24 = .pointer (some ⟨gH1, 0, none⟩)) ∧ Hid (D 17 → u 25 = .slice yH2o rs.length yH2c) ∧ Hid (D 1 → ¬ D 8 → KOwn (wzE.heap.size) wv (⟨⟨⟨.slice yC0co yC0vs.length yC0cc, .slice yC0uo K.m.f.used.length yC0uc, yC0vs⟩, .slice yC0eo K.m.ents.length yC0ec⟩, .slice yC0ro K.refuse.length yC0rc⟩ : KV) K) ∧ Hid (D 3 → ¬ D 8 → OwnI (wzE.heap.size) wv (.slice yC1o cs.length yC1c) cs) ∧ Hid (D 5 → ¬ D 8 → OwnWr (wzE.heap.size) wv (.slice yC2o xs.length yC2c) xs) ∧ Hid (D 7 → ¬ D 8 → OwnI (wzE.heap.size) wv (.slice yC3o order.length yC3c) order) ∧ Hid (D 8 → KOwn (wzE.heap.size) wv (⟨⟨⟨.slice yH0co yH0vs.length yH0cc, .slice yH0uo K2.m.f.used.length yH0uc, yH0vs⟩, .slice yH0eo K2.m.ents.length yH0ec⟩, .slice yH0ro K2.refuse.length yH0rc⟩ : KV) K2) ∧ Hid (D 8 → OwnI (wzE.heap.size) wv (.slice yH1o cs.length yH1c) cs) ∧ Hid (D 8 → OwnWr (wzE.heap.size) wv (.slice yH2o rs.length yH2c) rs) ∧ Hid (D 8 → (∀ g ∈ blocks (KV.all (⟨⟨⟨.slice yH0co yH0vs.length yH0cc, .slice yH0uo K2.m.f.used.length yH0uc, yH0vs⟩, .slice yH0eo K2.m.ents.length yH0ec⟩, .slice yH0ro K2.refuse.length yH0rc⟩ : KV)), g ∉ blocks ([.slice yH1o cs.length yH1c]))) ∧ Hid (D 8 → (∀ g ∈ blocks (KV.all (⟨⟨⟨.slice yH0co yH0vs.length yH0cc, .slice yH0uo K2.m.f.used.length yH0uc, yH0vs⟩, .slice yH0eo K2.m.ents.length yH0ec⟩, .slice yH0ro K2.refuse.length yH0rc⟩ : KV)), g ∉ blocks ([.slice yH2o rs.length yH2c]))) ∧ Hid (D 8 → (∀ g ∈ blocks ([.slice yH1o cs.length yH1c]), g ∉ blocks ([.slice yH2o rs.length yH2c]))) ∧ Hid (D 13 → wzE.heap.size ≤ gH0 ∧ gH0 < wv.heap.size) ∧ Hid (D 13 → ¬ D 15 → BoxAt wv gH0 [.slice none 0 0, .slice none 0 0, .slice none 0 0, .int .i64 0, .slice none 0 0]) ∧ Hid (D 15 → BoxAt wv gH0 [.slice yH0co yH0vs.length yH0cc, .slice yH0uo K2.m.f.used.length yH0uc, .slice yH0eo K2.m.ents.length yH0ec, .int .i64 (K2.calls), .slice yH0ro K2.refuse.length yH0rc]) ∧ Hid (D 13 → D 8 → gH0 ∉ blocks (KV.all (⟨⟨⟨.slice yH0co yH0vs.length yH0cc, .slice yH0uo K2.m.f.used.length yH0uc, yH0vs⟩, .slice yH0eo K2.m.ents.length yH0ec⟩, .slice yH0ro K2.refuse.length yH0rc⟩ : KV))) ∧ Hid (D 13 → D 8 → gH0 ∉ blocks ([.slice yH1o cs.length yH1c])) ∧ Hid (D 13 → D 8 → gH0 ∉ blocks ([.slice yH2o rs.length yH2c])) ∧ Hid (D 14 → wzE.heap.size ≤ gH1 ∧ gH1 < wv.heap.size) ∧ Hid (D 14 → ¬ D 16 → BoxAt wv gH1 [.int .i64 0, .int .i64 0, .slice none 0 0, .int .i64 0, .int .i64 0]) ∧ Hid (D 16 → BoxAt wv gH1 [.int .i64 kp, .int .i64 mv, .slice yH1o cs.length yH1c, .int .i64 ph2, .int .i64 nx2]) ∧ Hid (D 14 → D 8 → gH1 ∉ blocks (KV.all (⟨⟨⟨.slice yH0co yH0vs.length yH0cc, .slice yH0uo K2.m.f.used.length yH0uc, yH0vs⟩, .slice yH0eo K2.m.ents.length yH0ec⟩, .slice yH0ro K2.refuse.length yH0rc⟩ : KV))) ∧ Hid (D 14 → D 8 → gH1 ∉ blocks ([.slice yH1o cs.length yH1c])) ∧ Hid (D 14 → D 8 → gH1 ∉ blocks ([.slice yH2o rs.length yH2c])) ∧ Hid (D 13 → D 14 → gH0 ≠ gH1)) (by kernel_rfl) (by kernel_rfl) ?_ ?_ ?_
      · exact ⟨default, default, default, default, default, default, default, default, default, default, default, default, default, default, default, default, default, default, default, default, default, default, default, default, default, default, default, default, default, default, Lib.hid (by exact bel), Lib.hid (fun h => h.elim), Lib.hid (fun h => h.elim), Lib.hid (fun h => h.elim), Lib.hid (fun h => h.elim), Lib.hid (fun h => h.elim), Lib.hid (fun h => h.elim), Lib.hid (fun h => h.elim), Lib.hid (fun h => h.elim), Lib.hid (fun h => h.elim), Lib.hid (fun h => h.elim), Lib.hid (fun h => h.elim), Lib.hid (fun h => h.elim), Lib.hid (fun h => h.elim), Lib.hid (fun h => h.elim), Lib.hid (fun h => h.elim), Lib.hid (fun h => h.elim), Lib.hid (fun h => h.elim), Lib.hid (fun h => h.elim), Lib.hid (fun h => h.elim), Lib.hid (fun h => h.elim), Lib.hid (fun h => h.elim), Lib.hid (fun h => h.elim), Lib.hid (fun h => h.elim), Lib.hid (fun h => h.elim), Lib.hid (fun h => h.elim), Lib.hid (fun h => h.elim), Lib.hid (fun h => h.elim), Lib.hid (fun h => h.elim), Lib.hid (fun h => h.elim), Lib.hid (fun h => h.elim), Lib.hid (fun h => h.elim), Lib.hid (fun h => h.elim), Lib.hid (fun h => h.elim), Lib.hid (fun h => h.elim), Lib.hid (fun h => h.elim), Lib.hid (fun h => h.elim), Lib.hid (fun h => h.elim), Lib.hid (fun h => h.elim), Lib.hid (fun h => h.elim)⟩
      · rintro D u wv ⟨yC0co, yC0cc, yC0uo, yC0uc, yC0vs, yC0eo, yC0ec, yC0ro, yC0rc, yC1o, yC1c, yC2o, yC2c, yC3o, yC3c, yH0co, yH0cc, yH0uo, yH0uc, yH0vs, yH0eo, yH0ec, yH0ro, yH0rc, yH1o, yH1c, yH2o, yH2c, gH0, gH1, HBW, U0, U1, U2, U3, U4, U5, U6, U7, U8, U9, U10, U11, U12, U13, U14, U17, OC0, OC1, OC2, OC3, OH0, OH1, OH2, DH0_1, DH0_2, DH1_2, A2gH0, A3gH0, A4gH0, A5gH0H0, A5gH0H1, A5gH0H2, A2gH1, A3gH1, A4gH1, A5gH1H0, A5gH1H1, A5gH1H2, A6gH0gH1⟩ hcl i hi hn hw
        have hi9 : i < 18 := hi; clear hi
        replace hcl := Lib.hid hcl; replace hw := Lib.hid hw
        have hbw := HBW.out; have hlw := hbw.size; rw [hps] at hlw
        rcases (by omega : i = 0 ∨ i = 1 ∨ i = 2 ∨ i = 3 ∨ i = 4 ∨ i = 5 ∨ i = 6 ∨ i = 7 ∨ i = 8 ∨ i = 9 ∨ i = 10 ∨ i = 11 ∨ i = 12 ∨ i = 13 ∨ i = 14 ∨ i = 15 ∨ i = 16 ∨ i = 17) with rfl | rfl | rfl | rfl | rfl | rfl | rfl | rfl | rfl | rfl | rfl | rfl | rfl | rfl | rfl | rfl | rfl | rfl
        · skip
          refine wpOp_step (o := _) rfl (fun KK hKK => ?_)
          rw [if_pos (wanted_nil _ rfl)]
          have E4_ := X4 u
          have bx := BP0.out.below hbw
          have c0 := (bx.cells 0 _ rfl).1
          have c1 := (bx.cells 1 _ rfl).1
          have c2 := (bx.cells 2 _ rfl).1
          have c3 := (bx.cells 3 _ rfl).1
          have c4 := (bx.cells 4 _ rfl).1
          skip
          go_simp
          exact hKK _ _ ⟨_, P170 u _, yC0co, yC0cc, yC0uo, yC0uc, yC0vs, yC0eo, yC0ec, yC0ro, yC0rc, yC1o, yC1c, yC2o, yC2c, yC3o, yC3c, yH0co, yH0cc, yH0uo, yH0uc, yH0vs, yH0eo, yH0ec, yH0ro, yH0rc, yH1o, yH1c, yH2o, yH2c, gH0, gH1, HBW, Lib.hid (fun h0 => frUpd_self), (u10 U1), (u10 U2), (u10 U3), (u10 U4), (u10 U5), (u10 U6), (u10 U7), (u10 U8), (u10 U9), (u10 U10), (u10 U11), (u10 U12), (u10 U13), (u10 U14), (u10 U17), (k11 OC0), (k11 OC1), (k11 OC2), (k11 OC3), (k10 OH0), (k10 OH1), (k10 OH2), (k10 DH0_1), (k10 DH0_2), (k10 DH1_2), (k10 A2gH0), (k11 A3gH0), (k10 A4gH0), (k20 A5gH0H0), (k20 A5gH0H1), (k20 A5gH0H2), (k10 A2gH1), (k11 A3gH1), (k10 A4gH1), (k20 A5gH1H0), (k20 A5gH1H1), (k20 A5gH1H2), (k20 A6gH0gH1)⟩
        · skip
          refine wpOp_step (o := _) rfl (fun KK hKK => ?_)
          rw [if_pos (wanted_nil _ rfl)]
          have e170 := U0.out (hw.out 0 (by kernel_rfl)); have E170_ := (E170 u).trans e170
          skip
          go_simp
          refine (l_toKernel x K (by omega) _ (HA0.out.below hbw)).mono ?_; rintro e w2 ⟨yC0, rfl, OC0, hb⟩
          obtain ⟨yC0co, yC0cc, yC0uo, yC0uc, yC0vs, yC0eo, yC0ec, yC0ro, yC0rc, rfl⟩ := KOwn.shapes OC0
          simp only [KV.val]
          have hbn := hb.size
          try dsimp only
          exact hKK _ _ ⟨_, P171 u _, yC0co, yC0cc, yC0uo, yC0uc, yC0vs, yC0eo, yC0ec, yC0ro, yC0rc, yC1o, yC1c, yC2o, yC2c, yC3o, yC3c, yH0co, yH0cc, yH0uo, yH0uc, yH0vs, yH0eo, yH0ec, yH0ro, yH0rc, yH1o, yH1c, yH2o, yH2c, gH0, gH1, (Lib.hid (hbw.trans (hb.mono (by rw [hps]; omega)))), (u10 U0), Lib.hid (fun h0 => frUpd_self), (u10 U2), (u10 U3), (u10 U4), (u10 U5), (u10 U6), (u10 U7), (u10 U8), (u10 U9), (u10 U10), (u10 U11), (u10 U12), (u10 U13), (u10 U14), (u10 U17), Lib.hid (fun h0 m0 => KOwn.mono OC0 (by omega)), (m11 (fun h => Own.below h hb) OC1), (m11 (fun h => Own.below h hb) OC2), (m11 (fun h => Own.below h hb) OC3), (m10 (fun h => h.below hb) OH0), (m10 (fun h => Own.below h hb) OH1), (m10 (fun h => Own.below h hb) OH2), (k10 DH0_1), (k10 DH0_2), (k10 DH1_2), (m10 (lt_grow hb.size) A2gH0), (m11 (fun h => h.below hb) A3gH0), (m10 (fun h => h.below hb) A4gH0), (k20 A5gH0H0), (k20 A5gH0H1), (k20 A5gH0H2), (m10 (lt_grow hb.size) A2gH1), (m11 (fun h => h.below hb) A3gH1), (m10 (fun h => h.below hb) A4gH1), (k20 A5gH1H0), (k20 A5gH1H1), (k20 A5gH1H2), (k20 A6gH0gH1)⟩
        · skip
          refine wpOp_step (o := _) rfl (fun KK hKK => ?_)
          rw [if_pos (wanted_nil _ rfl)]
          have E5_ := X5 u
          have bx := BP1.out.below hbw
          have c0 := (bx.cells 0 _ rfl).1
          have c1 := (bx.cells 1 _ rfl).1
          have c2 := (bx.cells 2 _ rfl).1
          have c3 := (bx.cells 3 _ rfl).1
          have c4 := (bx.cells 4 _ rfl).1
          skip
          go_simp
          exact hKK _ _ ⟨_, P172 u _, yC0co, yC0cc, yC0uo, yC0uc, yC0vs, yC0eo, yC0ec, yC0ro, yC0rc, yC1o, yC1c, yC2o, yC2c, yC3o, yC3c, yH0co, yH0cc, yH0uo, yH0uc, yH0vs, yH0eo, yH0ec, yH0ro, yH0rc, yH1o, yH1c, yH2o, yH2c, gH0, gH1, HBW, (u10 U0), (u10 U1), Lib.hid (fun h0 => frUpd_self), (u10 U3), (u10 U4), (u10 U5), (u10 U6), (u10 U7), (u10 U8), (u10 U9), (u10 U10), (u10 U11), (u10 U12), (u10 U13), (u10 U14), (u10 U17), (k11 OC0), (k11 OC1), (k11 OC2), (k11 OC3), (k10 OH0), (k10 OH1), (k10 OH2), (k10 DH0_1), (k10 DH0_2), (k10 DH1_2), (k10 A2gH0), (k11 A3gH0), (k10 A4gH0), (k20 A5gH0H0), (k20 A5gH0H1), (k20 A5gH0H2), (k10 A2gH1), (k11 A3gH1), (k10 A4gH1), (k20 A5gH1H0), (k20 A5gH1H1), (k20 A5gH1H2), (k20 A6gH0gH1)⟩
        · skip
          refine wpOp_step (o := _) rfl (fun KK hKK => ?_)
          rw [if_pos (wanted_nil _ rfl)]
          have e172 := U2.out (hw.out 2 (by kernel_rfl)); have E172_ := (E172 u).trans e172
          skip
          go_simp
          refine (l_toJob kp mv c cs ph nx (by omega) _ (HA1.out.below hbw)).mono ?_; rintro e w2 ⟨vC1, rfl, OC1, hb⟩
          obtain ⟨yC1o, yC1c, rfl, -, -⟩ := OC1.shape
          have hbn := hb.size
          try dsimp only
          exact hKK _ _ ⟨_, P173 u _, yC0co, yC0cc, yC0uo, yC0uc, yC0vs, yC0eo, yC0ec, yC0ro, yC0rc, yC1o, yC1c, yC2o, yC2c, yC3o, yC3c, yH0co, yH0cc, yH0uo, yH0uc, yH0vs, yH0eo, yH0ec, yH0ro, yH0rc, yH1o, yH1c, yH2o, yH2c, gH0, gH1, (Lib.hid (hbw.trans (hb.mono (by rw [hps]; omega)))), (u10 U0), (u10 U1), (u10 U2), Lib.hid (fun h0 => frUpd_self), (u10 U4), (u10 U5), (u10 U6), (u10 U7), (u10 U8), (u10 U9), (u10 U10), (u10 U11), (u10 U12), (u10 U13), (u10 U14), (u10 U17), (m11 (fun h => h.below hb) OC0), Lib.hid (fun h0 m0 => Own.mono OC1 (by omega)), (m11 (fun h => Own.below h hb) OC2), (m11 (fun h => Own.below h hb) OC3), (m10 (fun h => h.below hb) OH0), (m10 (fun h => Own.below h hb) OH1), (m10 (fun h => Own.below h hb) OH2), (k10 DH0_1), (k10 DH0_2), (k10 DH1_2), (m10 (lt_grow hb.size) A2gH0), (m11 (fun h => h.below hb) A3gH0), (m10 (fun h => h.below hb) A4gH0), (k20 A5gH0H0), (k20 A5gH0H1), (k20 A5gH0H2), (m10 (lt_grow hb.size) A2gH1), (m11 (fun h => h.below hb) A3gH1), (m10 (fun h => h.below hb) A4gH1), (k20 A5gH1H0), (k20 A5gH1H1), (k20 A5gH1H2), (k20 A6gH0gH1)⟩
        · skip
          refine wpOp_step (o := _) rfl (fun KK hKK => ?_)
          rw [if_pos (wanted_nil _ rfl)]
          have E2_ := X2 u
          skip
          go_simp
          exact hKK _ _ ⟨_, P174 u _, yC0co, yC0cc, yC0uo, yC0uc, yC0vs, yC0eo, yC0ec, yC0ro, yC0rc, yC1o, yC1c, yC2o, yC2c, yC3o, yC3c, yH0co, yH0cc, yH0uo, yH0uc, yH0vs, yH0eo, yH0ec, yH0ro, yH0rc, yH1o, yH1c, yH2o, yH2c, gH0, gH1, HBW, (u10 U0), (u10 U1), (u10 U2), (u10 U3), Lib.hid (fun h0 => frUpd_self), (u10 U5), (u10 U6), (u10 U7), (u10 U8), (u10 U9), (u10 U10), (u10 U11), (u10 U12), (u10 U13), (u10 U14), (u10 U17), (k11 OC0), (k11 OC1), (k11 OC2), (k11 OC3), (k10 OH0), (k10 OH1), (k10 OH2), (k10 DH0_1), (k10 DH0_2), (k10 DH1_2), (k10 A2gH0), (k11 A3gH0), (k10 A4gH0), (k20 A5gH0H0), (k20 A5gH0H1), (k20 A5gH0H2), (k10 A2gH1), (k11 A3gH1), (k10 A4gH1), (k20 A5gH1H0), (k20 A5gH1H1), (k20 A5gH1H2), (k20 A6gH0gH1)⟩
        · skip
          refine wpOp_step (o := _) rfl (fun KK hKK => ?_)
          rw [if_pos (wanted_nil _ rfl)]
          have e174 := U4.out (hw.out 4 (by kernel_rfl)); have E174_ := (E174 u).trans e174
          skip
          go_simp
          refine (l_toWriterS _ xs (by omega) _ (HA2.out.below hbw)).mono ?_; rintro e w2 ⟨vC2, rfl, OC2, hb⟩
          obtain ⟨yC2o, yC2c, rfl, -, -⟩ := OC2.shape
          have hbn := hb.size
          try dsimp only
          exact hKK _ _ ⟨_, P175 u _, yC0co, yC0cc, yC0uo, yC0uc, yC0vs, yC0eo, yC0ec, yC0ro, yC0rc, yC1o, yC1c, yC2o, yC2c, yC3o, yC3c, yH0co, yH0cc, yH0uo, yH0uc, yH0vs, yH0eo, yH0ec, yH0ro, yH0rc, yH1o, yH1c, yH2o, yH2c, gH0, gH1, (Lib.hid (hbw.trans (hb.mono (by rw [hps]; omega)))), (u10 U0), (u10 U1), (u10 U2), (u10 U3), (u10 U4), Lib.hid (fun h0 => frUpd_self), (u10 U6), (u10 U7), (u10 U8), (u10 U9), (u10 U10), (u10 U11), (u10 U12), (u10 U13), (u10 U14), (u10 U17), (m11 (fun h => h.below hb) OC0), (m11 (fun h => Own.below h hb) OC1), Lib.hid (fun h0 m0 => Own.mono OC2 (by omega)), (m11 (fun h => Own.below h hb) OC3), (m10 (fun h => h.below hb) OH0), (m10 (fun h => Own.below h hb) OH1), (m10 (fun h => Own.below h hb) OH2), (k10 DH0_1), (k10 DH0_2), (k10 DH1_2), (m10 (lt_grow hb.size) A2gH0), (m11 (fun h => h.below hb) A3gH0), (m10 (fun h => h.below hb) A4gH0), (k20 A5gH0H0), (k20 A5gH0H1), (k20 A5gH0H2), (m10 (lt_grow hb.size) A2gH1), (m11 (fun h => h.below hb) A3gH1), (m10 (fun h => h.below hb) A4gH1), (k20 A5gH1H0), (k20 A5gH1H1), (k20 A5gH1H2), (k20 A6gH0gH1)⟩
        · skip
          refine wpOp_step (o := _) rfl (fun KK hKK => ?_)
          rw [if_pos (wanted_nil _ rfl)]
          have E3_ := X3 u
          skip
          go_simp
          exact hKK _ _ ⟨_, P176 u _, yC0co, yC0cc, yC0uo, yC0uc, yC0vs, yC0eo, yC0ec, yC0ro, yC0rc, yC1o, yC1c, yC2o, yC2c, yC3o, yC3c, yH0co, yH0cc, yH0uo, yH0uc, yH0vs, yH0eo, yH0ec, yH0ro, yH0rc, yH1o, yH1c, yH2o, yH2c, gH0, gH1, HBW, (u10 U0), (u10 U1), (u10 U2), (u10 U3), (u10 U4), (u10 U5), Lib.hid (fun h0 => frUpd_self), (u10 U7), (u10 U8), (u10 U9), (u10 U10), (u10 U11), (u10 U12), (u10 U13), (u10 U14), (u10 U17), (k11 OC0), (k11 OC1), (k11 OC2), (k11 OC3), (k10 OH0), (k10 OH1), (k10 OH2), (k10 DH0_1), (k10 DH0_2), (k10 DH1_2), (k10 A2gH0), (k11 A3gH0), (k10 A4gH0), (k20 A5gH0H0), (k20 A5gH0H1), (k20 A5gH0H2), (k10 A2gH1), (k11 A3gH1), (k10 A4gH1), (k20 A5gH1H0), (k20 A5gH1H1), (k20 A5gH1H2), (k20 A6gH0gH1)⟩
        · skip
          refine wpOp_step (o := _) rfl (fun KK hKK => ?_)
          rw [if_pos (wanted_nil _ rfl)]
          have e176 := U6.out (hw.out 6 (by kernel_rfl)); have E176_ := (E176 u).trans e176
          skip
          go_simp
          refine (l_toIntS _ order (by omega) _ (HA3.out.below hbw)).mono ?_; rintro e w2 ⟨vC3, rfl, OC3, hb⟩
          obtain ⟨yC3o, yC3c, rfl, -, -⟩ := OC3.shape
          have hbn := hb.size
          try dsimp only
          exact hKK _ _ ⟨_, P177 u _, yC0co, yC0cc, yC0uo, yC0uc, yC0vs, yC0eo, yC0ec, yC0ro, yC0rc, yC1o, yC1c, yC2o, yC2c, yC3o, yC3c, yH0co, yH0cc, yH0uo, yH0uc, yH0vs, yH0eo, yH0ec, yH0ro, yH0rc, yH1o, yH1c, yH2o, yH2c, gH0, gH1, (Lib.hid (hbw.trans (hb.mono (by rw [hps]; omega)))), (u10 U0), (u10 U1), (u10 U2), (u10 U3), (u10 U4), (u10 U5), (u10 U6), Lib.hid (fun h0 => frUpd_self), (u10 U8), (u10 U9), (u10 U10), (u10 U11), (u10 U12), (u10 U13), (u10 U14), (u10 U17), (m11 (fun h => h.below hb) OC0), (m11 (fun h => Own.below h hb) OC1), (m11 (fun h => Own.below h hb) OC2), Lib.hid (fun h0 m0 => Own.mono OC3 (by omega)), (m10 (fun h => h.below hb) OH0), (m10 (fun h => Own.below h hb) OH1), (m10 (fun h => Own.below h hb) OH2), (k10 DH0_1), (k10 DH0_2), (k10 DH1_2), (m10 (lt_grow hb.size) A2gH0), (m11 (fun h => h.below hb) A3gH0), (m10 (fun h => h.below hb) A4gH0), (k20 A5gH0H0), (k20 A5gH0H1), (k20 A5gH0H2), (m10 (lt_grow hb.size) A2gH1), (m11 (fun h => h.below hb) A3gH1), (m10 (fun h => h.below hb) A4gH1), (k20 A5gH1H0), (k20 A5gH1H1), (k20 A5gH1H2), (k20 A6gH0gH1)⟩
        · skip
          refine wpOp_step (o := _) rfl (fun KK hKK => ?_)
          rw [if_pos (wanted_nil _ rfl)]
          have e171 := U1.out (hw.out 1 (by kernel_rfl)); have E171_ := (E171 u).trans e171
          have e173 := U3.out (hw.out 3 (by kernel_rfl)); have E173_ := (E173 u).trans e173
          have e175 := U5.out (hw.out 5 (by kernel_rfl)); have E175_ := (E175 u).trans e175
          have e177 := U7.out (hw.out 7 (by kernel_rfl)); have E177_ := (E177 u).trans e177
          skip
          go_simp
          refine (HI.out _ _ _ _ _ (KOwn.at (OC0.out (hw.out 1 (by kernel_rfl)) hn)) (Own.at (OC1.out (hw.out 3 (by kernel_rfl)) hn) lenInt) (Own.at (OC2.out (hw.out 5 (by kernel_rfl)) hn) lenWr) (Own.at (OC3.out (hw.out 7 (by kernel_rfl)) hn) lenInt)).mono ?_; rintro e w2 ⟨yH0, vH1, vH2, rfl, OH0, OH1, OH2, DH0_1, DH0_2, DH1_2, hb⟩
          obtain ⟨yH0co, yH0cc, yH0uo, yH0uc, yH0vs, yH0eo, yH0ec, yH0ro, yH0rc, rfl⟩ := KOwn.shapes OH0
          obtain ⟨yH1o, yH1c, rfl, -, -⟩ := OH1.shape
          obtain ⟨yH2o, yH2c, rfl, -, -⟩ := OH2.shape
          simp only [KV.val]
          have hbn := hb.size
          try dsimp only
          exact hKK _ _ ⟨_, P178 u _, yC0co, yC0cc, yC0uo, yC0uc, yC0vs, yC0eo, yC0ec, yC0ro, yC0rc, yC1o, yC1c, yC2o, yC2c, yC3o, yC3c, yH0co, yH0cc, yH0uo, yH0uc, yH0vs, yH0eo, yH0ec, yH0ro, yH0rc, yH1o, yH1c, yH2o, yH2c, gH0, gH1, (Lib.hid (hbw.trans (hb.mono (by rw [hps]; omega)))), (u10 U0), (u10 U1), (u10 U2), (u10 U3), (u10 U4), (u10 U5), (u10 U6), (u10 U7), Lib.hid (fun h0 => frUpd_self), Lib.hid (fun h0 => absurd (hcl.out 9 8 (by kernel_rfl) (addD_of h0 (by decide))) hn), Lib.hid (fun h0 => absurd (hcl.out 9 8 (by kernel_rfl) (hcl.out 10 9 (by kernel_rfl) (addD_of h0 (by decide)))) hn), Lib.hid (fun h0 => absurd (hcl.out 9 8 (by kernel_rfl) (hcl.out 11 9 (by kernel_rfl) (addD_of h0 (by decide)))) hn), Lib.hid (fun h0 => absurd (hcl.out 9 8 (by kernel_rfl) (hcl.out 12 9 (by kernel_rfl) (addD_of h0 (by decide)))) hn), (u10 U13), (u10 U14), Lib.hid (fun h0 => absurd (hcl.out 9 8 (by kernel_rfl) (hcl.out 12 9 (by kernel_rfl) (hcl.out 17 12 (by kernel_rfl) (addD_of h0 (by decide))))) hn), x11, x11, x11, x11, Lib.hid (fun h0 => KOwn.mono OH0 (by omega)), Lib.hid (fun h0 => Own.mono OH1 (by omega)), Lib.hid (fun h0 => Own.mono OH2 (by omega)), Lib.hid (fun h0 => DH0_1), Lib.hid (fun h0 => DH0_2), Lib.hid (fun h0 => DH1_2), (m10 (lt_grow hb.size) A2gH0), (m11 (fun h => h.below hb) A3gH0), Lib.hid (fun h0 => absurd (hcl.out 9 8 (by kernel_rfl) (hcl.out 10 9 (by kernel_rfl) (hcl.out 15 10 (by kernel_rfl) (addD_of h0 (by decide))))) hn), Lib.hid (fun h0 h1 => fun hm => Nat.lt_irrefl _ (Nat.lt_of_lt_of_le (A2gH0.out (addD_of h0 (by decide))).2 (((OH0).lts) _ hm).1)), Lib.hid (fun h0 h1 => fun hm => Nat.lt_irrefl _ (Nat.lt_of_lt_of_le (A2gH0.out (addD_of h0 (by decide))).2 ((Own.lts (OH1)) _ hm).1)), Lib.hid (fun h0 h1 => fun hm => Nat.lt_irrefl _ (Nat.lt_of_lt_of_le (A2gH0.out (addD_of h0 (by decide))).2 ((Own.lts (OH2)) _ hm).1)), (m10 (lt_grow hb.size) A2gH1), (m11 (fun h => h.below hb) A3gH1), Lib.hid (fun h0 => absurd (hcl.out 9 8 (by kernel_rfl) (hcl.out 11 9 (by kernel_rfl) (hcl.out 16 11 (by kernel_rfl) (addD_of h0 (by decide))))) hn), Lib.hid (fun h0 h1 => fun hm => Nat.lt_irrefl _ (Nat.lt_of_lt_of_le (A2gH1.out (addD_of h0 (by decide))).2 (((OH0).lts) _ hm).1)), Lib.hid (fun h0 h1 => fun hm => Nat.lt_irrefl _ (Nat.lt_of_lt_of_le (A2gH1.out (addD_of h0 (by decide))).2 ((Own.lts (OH1)) _ hm).1)), Lib.hid (fun h0 h1 => fun hm => Nat.lt_irrefl _ (Nat.lt_of_lt_of_le (A2gH1.out (addD_of h0 (by decide))).2 ((Own.lts (OH2)) _ hm).1)), (k20 A6gH0gH1)⟩
        · skip
          refine wpOp_step (o := _) rfl (fun KK hKK => ?_)
          rw [if_pos (wanted_nil _ rfl)]
          have e178 := U8.out (hw.out 8 (by kernel_rfl)); have E178_ := (E178 u).trans e178
          skip
          go_simp
          exact hKK _ _ ⟨_, P169 u _, yC0co, yC0cc, yC0uo, yC0uc, yC0vs, yC0eo, yC0ec, yC0ro, yC0rc, yC1o, yC1c, yC2o, yC2c, yC3o, yC3c, yH0co, yH0cc, yH0uo, yH0uc, yH0vs, yH0eo, yH0ec, yH0ro, yH0rc, yH1o, yH1c, yH2o, yH2c, gH0, gH1, HBW, (u10 U0), (u10 U1), (u10 U2), (u10 U3), (u10 U4), (u10 U5), (u10 U6), (u10 U7), (u10 U8), Lib.hid (fun h0 => frUpd_self), (u10 U10), (u10 U11), (u10 U12), (u10 U13), (u10 U14), (u10 U17), (k11 OC0), (k11 OC1), (k11 OC2), (k11 OC3), (k10 OH0), (k10 OH1), (k10 OH2), (k10 DH0_1), (k10 DH0_2), (k10 DH1_2), (k10 A2gH0), (k11 A3gH0), (k10 A4gH0), (k20 A5gH0H0), (k20 A5gH0H1), (k20 A5gH0H2), (k10 A2gH1), (k11 A3gH1), (k10 A4gH1), (k20 A5gH1H0), (k20 A5gH1H1), (k20 A5gH1H2), (k20 A6gH0gH1)⟩
        · skip
          refine wpOp_step (o := _) rfl (fun KK hKK => ?_)
          rw [if_pos (wanted_nil _ rfl)]
          have e169 := U9.out (hw.out 9 (by kernel_rfl)); have E169_ := (E169 u).trans e169
          skip
          go_simp
          exact hKK _ _ ⟨_, P179 u _, yC0co, yC0cc, yC0uo, yC0uc, yC0vs, yC0eo, yC0ec, yC0ro, yC0rc, yC1o, yC1c, yC2o, yC2c, yC3o, yC3c, yH0co, yH0cc, yH0uo, yH0uc, yH0vs, yH0eo, yH0ec, yH0ro, yH0rc, yH1o, yH1c, yH2o, yH2c, gH0, gH1, HBW, (u10 U0), (u10 U1), (u10 U2), (u10 U3), (u10 U4), (u10 U5), (u10 U6), (u10 U7), (u10 U8), (u10 U9), Lib.hid (fun h0 => frUpd_self), (u10 U11), (u10 U12), (u10 U13), (u10 U14), (u10 U17), (k11 OC0), (k11 OC1), (k11 OC2), (k11 OC3), (k10 OH0), (k10 OH1), (k10 OH2), (k10 DH0_1), (k10 DH0_2), (k10 DH1_2), (k10 A2gH0), (k11 A3gH0), (k10 A4gH0), (k20 A5gH0H0), (k20 A5gH0H1), (k20 A5gH0H2), (k10 A2gH1), (k11 A3gH1), (k10 A4gH1), (k20 A5gH1H0), (k20 A5gH1H1), (k20 A5gH1H2), (k20 A6gH0gH1)⟩
        · skip
          refine wpOp_step (o := _) rfl (fun KK hKK => ?_)
          rw [if_pos (wanted_nil _ rfl)]
          have e169 := U9.out (hw.out 9 (by kernel_rfl)); have E169_ := (E169 u).trans e169
          skip
          go_simp
          exact hKK _ _ ⟨_, P180 u _, yC0co, yC0cc, yC0uo, yC0uc, yC0vs, yC0eo, yC0ec, yC0ro, yC0rc, yC1o, yC1c, yC2o, yC2c, yC3o, yC3c, yH0co, yH0cc, yH0uo, yH0uc, yH0vs, yH0eo, yH0ec, yH0ro, yH0rc, yH1o, yH1c, yH2o, yH2c, gH0, gH1, HBW, (u10 U0), (u10 U1), (u10 U2), (u10 U3), (u10 U4), (u10 U5), (u10 U6), (u10 U7), (u10 U8), (u10 U9), (u10 U10), Lib.hid (fun h0 => frUpd_self), (u10 U12), (u10 U13), (u10 U14), (u10 U17), (k11 OC0), (k11 OC1), (k11 OC2), (k11 OC3), (k10 OH0), (k10 OH1), (k10 OH2), (k10 DH0_1), (k10 DH0_2), (k10 DH1_2), (k10 A2gH0), (k11 A3gH0), (k10 A4gH0), (k20 A5gH0H0), (k20 A5gH0H1), (k20 A5gH0H2), (k10 A2gH1), (k11 A3gH1), (k10 A4gH1), (k20 A5gH1H0), (k20 A5gH1H1), (k20 A5gH1H2), (k20 A6gH0gH1)⟩
        · skip
          refine wpOp_step (o := _) rfl (fun KK hKK => ?_)
          rw [if_pos (wanted_nil _ rfl)]
          have e169 := U9.out (hw.out 9 (by kernel_rfl)); have E169_ := (E169 u).trans e169
          skip
          go_simp
          exact hKK _ _ ⟨_, P181 u _, yC0co, yC0cc, yC0uo, yC0uc, yC0vs, yC0eo, yC0ec, yC0ro, yC0rc, yC1o, yC1c, yC2o, yC2c, yC3o, yC3c, yH0co, yH0cc, yH0uo, yH0uc, yH0vs, yH0eo, yH0ec, yH0ro, yH0rc, yH1o, yH1c, yH2o, yH2c, gH0, gH1, HBW, (u10 U0), (u10 U1), (u10 U2), (u10 U3), (u10 U4), (u10 U5), (u10 U6), (u10 U7), (u10 U8), (u10 U9), (u10 U10), (u10 U11), Lib.hid (fun h0 => frUpd_self), (u10 U13), (u10 U14), (u10 U17), (k11 OC0), (k11 OC1), (k11 OC2), (k11 OC3), (k10 OH0), (k10 OH1), (k10 OH2), (k10 DH0_1), (k10 DH0_2), (k10 DH1_2), (k10 A2gH0), (k11 A3gH0), (k10 A4gH0), (k20 A5gH0H0), (k20 A5gH0H1), (k20 A5gH0H2), (k10 A2gH1), (k11 A3gH1), (k10 A4gH1), (k20 A5gH1H0), (k20 A5gH1H1), (k20 A5gH1H2), (k20 A6gH0gH1)⟩
        · skip
          refine wpOp_step (o := _) rfl (fun KK hKK => ?_)
          rw [if_pos (wanted_nil _ rfl)]
          skip
          go_simp
          have hb : Below wv.heap.size wv (wv.alloc (.cells #[.slice none 0 0, .slice none 0 0, .slice none 0 0, .int .i64 0, .slice none 0 0] 46)) := (Below.refl _ wv).alloc (Nat.le_refl _) (.cells #[.slice none 0 0, .slice none 0 0, .slice none 0 0, .int .i64 0, .slice none 0 0] 46)
          have hbn : wv.heap.size < (wv.alloc (.cells #[.slice none 0 0, .slice none 0 0, .slice none 0 0, .int .i64 0, .slice none 0 0] 46)).heap.size := by rw [World.size_alloc]; omega
          have BN : BoxAt (wv.alloc (.cells #[.slice none 0 0, .slice none 0 0, .slice none 0 0, .int .i64 0, .slice none 0 0] 46)) wv.heap.size [.slice none 0 0, .slice none 0 0, .slice none 0 0, .int .i64 0, .slice none 0 0] := (BoxAt.snoc (BoxAt.snoc (BoxAt.snoc (BoxAt.snoc (BoxAt.snoc (BoxAt.nil (w := (wv.alloc (.cells #[.slice none 0 0, .slice none 0 0, .slice none 0 0, .int .i64 0, .slice none 0 0] 46))) (g := wv.heap.size) (by go_simp)) (v := .slice none 0 0) (i := 0) rfl (by go_simp) (by go_simp)) (v := .slice none 0 0) (i := 1) rfl (by go_simp) (by go_simp)) (v := .slice none 0 0) (i := 2) rfl (by go_simp) (by go_simp)) (v := .int .i64 0) (i := 3) rfl (by go_simp) (by go_simp)) (v := .slice none 0 0) (i := 4) rfl (by go_simp) (by go_simp))
          exact hKK _ _ ⟨_, P23 u _, yC0co, yC0cc, yC0uo, yC0uc, yC0vs, yC0eo, yC0ec, yC0ro, yC0rc, yC1o, yC1c, yC2o, yC2c, yC3o, yC3c, yH0co, yH0cc, yH0uo, yH0uc, yH0vs, yH0eo, yH0ec, yH0ro, yH0rc, yH1o, yH1c, yH2o, yH2c, wv.heap.size, gH1, (Lib.hid (hbw.trans (hb.mono (by rw [hps]; omega)))), (u10 U0), (u10 U1), (u10 U2), (u10 U3), (u10 U4), (u10 U5), (u10 U6), (u10 U7), (u10 U8), (u10 U9), (u10 U10), (u10 U11), (u10 U12), Lib.hid (fun h0 => frUpd_self), (u10 U14), (u10 U17), (m11 (fun h => h.below hb) OC0), (m11 (fun h => Own.below h hb) OC1), (m11 (fun h => Own.below h hb) OC2), (m11 (fun h => Own.below h hb) OC3), (m10 (fun h => h.below hb) OH0), (m10 (fun h => Own.below h hb) OH1), (m10 (fun h => Own.below h hb) OH2), (k10 DH0_1), (k10 DH0_2), (k10 DH1_2), Lib.hid (fun h0 => ⟨by omega, hbn⟩), Lib.hid (fun h0 m0 => BN), Lib.hid (fun h0 => absurd (hcl.out 15 13 (by kernel_rfl) (addD_of h0 (by decide))) hn), Lib.hid (fun h0 h1 => fun hm => Nat.lt_irrefl _ ((((OH0.out (addD_of h1 (by decide)))).lts) _ hm).2), Lib.hid (fun h0 h1 => fun hm => Nat.lt_irrefl _ ((Own.lts ((OH1.out (addD_of h1 (by decide))))) _ hm).2), Lib.hid (fun h0 h1 => fun hm => Nat.lt_irrefl _ ((Own.lts ((OH2.out (addD_of h1 (by decide))))) _ hm).2), (m10 (lt_grow hb.size) A2gH1), (m11 (fun h => h.below hb) A3gH1), (m10 (fun h => h.below hb) A4gH1), (k20 A5gH1H0), (k20 A5gH1H1), (k20 A5gH1H2), Lib.hid (fun h0 h1 => Nat.ne_of_gt (A2gH1.out (addD_of h1 (by decide))).2)⟩
        · skip
          refine wpOp_step (o := _) rfl (fun KK hKK => ?_)
          rw [if_pos (wanted_nil _ rfl)]
          skip
          go_simp
          have hb : Below wv.heap.size wv (wv.alloc (.cells #[.int .i64 0, .int .i64 0, .slice none 0 0, .int .i64 0, .int .i64 0] 68)) := (Below.refl _ wv).alloc (Nat.le_refl _) (.cells #[.int .i64 0, .int .i64 0, .slice none 0 0, .int .i64 0, .int .i64 0] 68)
          have hbn : wv.heap.size < (wv.alloc (.cells #[.int .i64 0, .int .i64 0, .slice none 0 0, .int .i64 0, .int .i64 0] 68)).heap.size := by rw [World.size_alloc]; omega
          have BN : BoxAt (wv.alloc (.cells #[.int .i64 0, .int .i64 0, .slice none 0 0, .int .i64 0, .int .i64 0] 68)) wv.heap.size [.int .i64 0, .int .i64 0, .slice none 0 0, .int .i64 0, .int .i64 0] := (BoxAt.snoc (BoxAt.snoc (BoxAt.snoc (BoxAt.snoc (BoxAt.snoc (BoxAt.nil (w := (wv.alloc (.cells #[.int .i64 0, .int .i64 0, .slice none 0 0, .int .i64 0, .int .i64 0] 68))) (g := wv.heap.size) (by go_simp)) (v := .int .i64 0) (i := 0) rfl (by go_simp) (by go_simp)) (v := .int .i64 0) (i := 1) rfl (by go_simp) (by go_simp)) (v := .slice none 0 0) (i := 2) rfl (by go_simp) (by go_simp)) (v := .int .i64 0) (i := 3) rfl (by go_simp) (by go_simp)) (v := .int .i64 0) (i := 4) rfl (by go_simp) (by go_simp))
          exact hKK _ _ ⟨_, P24 u _, yC0co, yC0cc, yC0uo, yC0uc, yC0vs, yC0eo, yC0ec, yC0ro, yC0rc, yC1o, yC1c, yC2o, yC2c, yC3o, yC3c, yH0co, yH0cc, yH0uo, yH0uc, yH0vs, yH0eo, yH0ec, yH0ro, yH0rc, yH1o, yH1c, yH2o, yH2c, gH0, wv.heap.size, (Lib.hid (hbw.trans (hb.mono (by rw [hps]; omega)))), (u10 U0), (u10 U1), (u10 U2), (u10 U3), (u10 U4), (u10 U5), (u10 U6), (u10 U7), (u10 U8), (u10 U9), (u10 U10), (u10 U11), (u10 U12), (u10 U13), Lib.hid (fun h0 => frUpd_self), (u10 U17), (m11 (fun h => h.below hb) OC0), (m11 (fun h => Own.below h hb) OC1), (m11 (fun h => Own.below h hb) OC2), (m11 (fun h => Own.below h hb) OC3), (m10 (fun h => h.below hb) OH0), (m10 (fun h => Own.below h hb) OH1), (m10 (fun h => Own.below h hb) OH2), (k10 DH0_1), (k10 DH0_2), (k10 DH1_2), (m10 (lt_grow hb.size) A2gH0), (m11 (fun h => h.below hb) A3gH0), (m10 (fun h => h.below hb) A4gH0), (k20 A5gH0H0), (k20 A5gH0H1), (k20 A5gH0H2), Lib.hid (fun h0 => ⟨by omega, hbn⟩), Lib.hid (fun h0 m0 => BN), Lib.hid (fun h0 => absurd (hcl.out 16 14 (by kernel_rfl) (addD_of h0 (by decide))) hn), Lib.hid (fun h0 h1 => fun hm => Nat.lt_irrefl _ ((((OH0.out (addD_of h1 (by decide)))).lts) _ hm).2), Lib.hid (fun h0 h1 => fun hm => Nat.lt_irrefl _ ((Own.lts ((OH1.out (addD_of h1 (by decide))))) _ hm).2), Lib.hid (fun h0 h1 => fun hm => Nat.lt_irrefl _ ((Own.lts ((OH2.out (addD_of h1 (by decide))))) _ hm).2), Lib.hid (fun h0 h1 => Nat.ne_of_lt (A2gH0.out (addD_of h0 (by decide))).2)⟩
        · skip
          refine wpOp_step (o := _) rfl (fun KK hKK => ?_)
          rw [if_pos (wanted_nil _ rfl)]
          have e23 := U13.out (hw.out 13 (by kernel_rfl)); have E23_ := (E23 u).trans e23
          have e179 := U10.out (hw.out 10 (by kernel_rfl)); have E179_ := (E179 u).trans e179
          have bx := A3gH0.out (hw.out 13 (by kernel_rfl)) hn
          have c0 := (bx.cells 0 _ rfl).1; have f0 := (bx.cells 0 _ rfl).2
          have c1 := (bx.cells 1 _ rfl).1; have f1 := (bx.cells 1 _ rfl).2
          have c2 := (bx.cells 2 _ rfl).1; have f2 := (bx.cells 2 _ rfl).2
          have c3 := (bx.cells 3 _ rfl).1; have f3 := (bx.cells 3 _ rfl).2
          have c4 := (bx.cells 4 _ rfl).1; have f4 := (bx.cells 4 _ rfl).2
          have hgl := A2gH0.out (hw.out 13 (by kernel_rfl))
          skip
          go_simp
          have ht : Touch [gH0] wv (((((wv.setCell ⟨gH0, 0, none⟩ (.slice yH0co yH0vs.length yH0cc)).setCell ⟨gH0, 1, none⟩ (.slice yH0uo K2.m.f.used.length yH0uc)).setCell ⟨gH0, 2, none⟩ (.slice yH0eo K2.m.ents.length yH0ec)).setCell ⟨gH0, 3, none⟩ (.int .i64 (K2.calls))).setCell ⟨gH0, 4, none⟩ (.slice yH0ro K2.refuse.length yH0rc)) := touch_bx (touch_bx (touch_bx (touch_bx (touch_bx (Touch.refl [gH0] wv)))))
          have hb := ht.toBelow (B := wzE.heap.size) (fun g hg => by have := List.mem_singleton.1 hg; omega) (by omega)
          have BN : BoxAt (((((wv.setCell ⟨gH0, 0, none⟩ (.slice yH0co yH0vs.length yH0cc)).setCell ⟨gH0, 1, none⟩ (.slice yH0uo K2.m.f.used.length yH0uc)).setCell ⟨gH0, 2, none⟩ (.slice yH0eo K2.m.ents.length yH0ec)).setCell ⟨gH0, 3, none⟩ (.int .i64 (K2.calls))).setCell ⟨gH0, 4, none⟩ (.slice yH0ro K2.refuse.length yH0rc)) gH0 [.slice yH0co yH0vs.length yH0cc, .slice yH0uo K2.m.f.used.length yH0uc, .slice yH0eo K2.m.ents.length yH0ec, .int .i64 (K2.calls), .slice yH0ro K2.refuse.length yH0rc] := (BoxAt.snoc (BoxAt.snoc (BoxAt.snoc (BoxAt.snoc (BoxAt.snoc (BoxAt.nil (w := (((((wv.setCell ⟨gH0, 0, none⟩ (.slice yH0co yH0vs.length yH0cc)).setCell ⟨gH0, 1, none⟩ (.slice yH0uo K2.m.f.used.length yH0uc)).setCell ⟨gH0, 2, none⟩ (.slice yH0eo K2.m.ents.length yH0ec)).setCell ⟨gH0, 3, none⟩ (.int .i64 (K2.calls))).setCell ⟨gH0, 4, none⟩ (.slice yH0ro K2.refuse.length yH0rc))) (g := gH0) (by have := ht.size; omega)) (v := .slice yH0co yH0vs.length yH0cc) (i := 0) rfl (by go_simp) (by go_simp)) (v := .slice yH0uo K2.m.f.used.length yH0uc) (i := 1) rfl (by go_simp) (by go_simp)) (v := .slice yH0eo K2.m.ents.length yH0ec) (i := 2) rfl (by go_simp) (by go_simp)) (v := .int .i64 (K2.calls)) (i := 3) rfl (by go_simp) (by go_simp)) (v := .slice yH0ro K2.refuse.length yH0rc) (i := 4) rfl (by go_simp) (by go_simp))
          have HDM : D 8 := (hcl.out 9 8 (by kernel_rfl) (hcl.out 10 9 (by kernel_rfl) (hw.out 10 (by kernel_rfl))))
          exact hKK _ _ ⟨u, rfl, yC0co, yC0cc, yC0uo, yC0uc, yC0vs, yC0eo, yC0ec, yC0ro, yC0rc, yC1o, yC1c, yC2o, yC2c, yC3o, yC3c, yH0co, yH0cc, yH0uo, yH0uc, yH0vs, yH0eo, yH0ec, yH0ro, yH0rc, yH1o, yH1c, yH2o, yH2c, gH0, gH1, (Lib.hid (hbw.trans (hb.mono (by rw [hps]; exact Nat.le_refl _)))), (k10 U0), (k10 U1), (k10 U2), (k10 U3), (k10 U4), (k10 U5), (k10 U6), (k10 U7), (k10 U8), (k10 U9), (k10 U10), (k10 U11), (k10 U12), (k10 U13), (k10 U14), (k10 U17), Lib.hid (fun h0 m0 => absurd (addD_mem HDM) m0), Lib.hid (fun h0 m0 => absurd (addD_mem HDM) m0), Lib.hid (fun h0 m0 => absurd (addD_mem HDM) m0), Lib.hid (fun h0 m0 => absurd (addD_mem HDM) m0), (md10 (fun d h => h.touch ht (fun g hg hm => by cases List.mem_singleton.1 hm; exact A5gH0H0.out (hw.out 13 (by kernel_rfl)) d hg)) OH0), (md10 (fun d h => Own.touchs h ht (fun g hg hm => by cases List.mem_singleton.1 hm; exact A5gH0H1.out (hw.out 13 (by kernel_rfl)) d hg)) OH1), (md10 (fun d h => Own.touchs h ht (fun g hg hm => by cases List.mem_singleton.1 hm; exact A5gH0H2.out (hw.out 13 (by kernel_rfl)) d hg)) OH2), (k10 DH0_1), (k10 DH0_2), (k10 DH1_2), (m10 (lt_grow ht.size) A2gH0), x11, Lib.hid (fun h0 => BN), (k20 A5gH0H0), (k20 A5gH0H1), (k20 A5gH0H2), (m10 (lt_grow ht.size) A2gH1), Lib.hid (fun h0 m0 => (A3gH1.out (addD_of h0 (by decide)) (fun x => m0 (addD_mem x))).touch ht (fun hm => (A6gH0gH1.out (hw.out 13 (by kernel_rfl)) (addD_of h0 (by decide))) (List.mem_singleton.1 hm).symm)), Lib.hid (fun h0 => (A4gH1.out (addD_of h0 (by decide))).touch ht (fun hm => (A6gH0gH1.out (hw.out 13 (by kernel_rfl)) (hcl.out 16 14 (by kernel_rfl) (addD_of h0 (by decide)))) (List.mem_singleton.1 hm).symm)), (k20 A5gH1H0), (k20 A5gH1H1), (k20 A5gH1H2), (k20 A6gH0gH1)⟩
        · skip
          refine wpOp_step (o := _) rfl (fun KK hKK => ?_)
          rw [if_pos (wanted_nil _ rfl)]
          have e24 := U14.out (hw.out 14 (by kernel_rfl)); have E24_ := (E24 u).trans e24
          have e180 := U11.out (hw.out 11 (by kernel_rfl)); have E180_ := (E180 u).trans e180
          have bx := A3gH1.out (hw.out 14 (by kernel_rfl)) hn
          have c0 := (bx.cells 0 _ rfl).1; have f0 := (bx.cells 0 _ rfl).2
          have c1 := (bx.cells 1 _ rfl).1; have f1 := (bx.cells 1 _ rfl).2
          have c2 := (bx.cells 2 _ rfl).1; have f2 := (bx.cells 2 _ rfl).2
          have c3 := (bx.cells 3 _ rfl).1; have f3 := (bx.cells 3 _ rfl).2
          have c4 := (bx.cells 4 _ rfl).1; have f4 := (bx.cells 4 _ rfl).2
          have hgl := A2gH1.out (hw.out 14 (by kernel_rfl))
          skip
          go_simp
          have ht : Touch [gH1] wv (((((wv.setCell ⟨gH1, 0, none⟩ (.int .i64 kp)).setCell ⟨gH1, 1, none⟩ (.int .i64 mv)).setCell ⟨gH1, 2, none⟩ (.slice yH1o cs.length yH1c)).setCell ⟨gH1, 3, none⟩ (.int .i64 ph2)).setCell ⟨gH1, 4, none⟩ (.int .i64 nx2)) := touch_bx (touch_bx (touch_bx (touch_bx (touch_bx (Touch.refl [gH1] wv)))))
          have hb := ht.toBelow (B := wzE.heap.size) (fun g hg => by have := List.mem_singleton.1 hg; omega) (by omega)
          have BN : BoxAt (((((wv.setCell ⟨gH1, 0, none⟩ (.int .i64 kp)).setCell ⟨gH1, 1, none⟩ (.int .i64 mv)).setCell ⟨gH1, 2, none⟩ (.slice yH1o cs.length yH1c)).setCell ⟨gH1, 3, none⟩ (.int .i64 ph2)).setCell ⟨gH1, 4, none⟩ (.int .i64 nx2)) gH1 [.int .i64 kp, .int .i64 mv, .slice yH1o cs.length yH1c, .int .i64 ph2, .int .i64 nx2] := (BoxAt.snoc (BoxAt.snoc (BoxAt.snoc (BoxAt.snoc (BoxAt.snoc (BoxAt.nil (w := (((((wv.setCell ⟨gH1, 0, none⟩ (.int .i64 kp)).setCell ⟨gH1, 1, none⟩ (.int .i64 mv)).setCell ⟨gH1, 2, none⟩ (.slice yH1o cs.length yH1c)).setCell ⟨gH1, 3, none⟩ (.int .i64 ph2)).setCell ⟨gH1, 4, none⟩ (.int .i64 nx2))) (g := gH1) (by have := ht.size; omega)) (v := .int .i64 kp) (i := 0) rfl (by go_simp) (by go_simp)) (v := .int .i64 mv) (i := 1) rfl (by go_simp) (by go_simp)) (v := .slice yH1o cs.length yH1c) (i := 2) rfl (by go_simp) (by go_simp)) (v := .int .i64 ph2) (i := 3) rfl (by go_simp) (by go_simp)) (v := .int .i64 nx2) (i := 4) rfl (by go_simp) (by go_simp))
          have HDM : D 8 := (hcl.out 9 8 (by kernel_rfl) (hcl.out 11 9 (by kernel_rfl) (hw.out 11 (by kernel_rfl))))
          exact hKK _ _ ⟨u, rfl, yC0co, yC0cc, yC0uo, yC0uc, yC0vs, yC0eo, yC0ec, yC0ro, yC0rc, yC1o, yC1c, yC2o, yC2c, yC3o, yC3c, yH0co, yH0cc, yH0uo, yH0uc, yH0vs, yH0eo, yH0ec, yH0ro, yH0rc, yH1o, yH1c, yH2o, yH2c, gH0, gH1, (Lib.hid (hbw.trans (hb.mono (by rw [hps]; exact Nat.le_refl _)))), (k10 U0), (k10 U1), (k10 U2), (k10 U3), (k10 U4), (k10 U5), (k10 U6), (k10 U7), (k10 U8), (k10 U9), (k10 U10), (k10 U11), (k10 U12), (k10 U13), (k10 U14), (k10 U17), Lib.hid (fun h0 m0 => absurd (addD_mem HDM) m0), Lib.hid (fun h0 m0 => absurd (addD_mem HDM) m0), Lib.hid (fun h0 m0 => absurd (addD_mem HDM) m0), Lib.hid (fun h0 m0 => absurd (addD_mem HDM) m0), (md10 (fun d h => h.touch ht (fun g hg hm => by cases List.mem_singleton.1 hm; exact A5gH1H0.out (hw.out 14 (by kernel_rfl)) d hg)) OH0), (md10 (fun d h => Own.touchs h ht (fun g hg hm => by cases List.mem_singleton.1 hm; exact A5gH1H1.out (hw.out 14 (by kernel_rfl)) d hg)) OH1), (md10 (fun d h => Own.touchs h ht (fun g hg hm => by cases List.mem_singleton.1 hm; exact A5gH1H2.out (hw.out 14 (by kernel_rfl)) d hg)) OH2), (k10 DH0_1), (k10 DH0_2), (k10 DH1_2), (m10 (lt_grow ht.size) A2gH0), Lib.hid (fun h0 m0 => (A3gH0.out (addD_of h0 (by decide)) (fun x => m0 (addD_mem x))).touch ht (fun hm => (A6gH0gH1.out (addD_of h0 (by decide)) (hw.out 14 (by kernel_rfl))) (List.mem_singleton.1 hm))), Lib.hid (fun h0 => (A4gH0.out (addD_of h0 (by decide))).touch ht (fun hm => (A6gH0gH1.out (hcl.out 15 13 (by kernel_rfl) (addD_of h0 (by decide))) (hw.out 14 (by kernel_rfl))) (List.mem_singleton.1 hm))), (k20 A5gH0H0), (k20 A5gH0H1), (k20 A5gH0H2), (m10 (lt_grow ht.size) A2gH1), x11, Lib.hid (fun h0 => BN), (k20 A5gH1H0), (k20 A5gH1H1), (k20 A5gH1H2), (k20 A6gH0gH1)⟩
        · skip
          refine wpOp_step (o := _) rfl (fun KK hKK => ?_)
          rw [if_pos (wanted_nil _ rfl)]
          have e181 := U12.out (hw.out 12 (by kernel_rfl)); have E181_ := (E181 u).trans e181
          skip
          go_simp
          exact hKK _ _ ⟨_, P25 u _, yC0co, yC0cc, yC0uo, yC0uc, yC0vs, yC0eo, yC0ec, yC0ro, yC0rc, yC1o, yC1c, yC2o, yC2c, yC3o, yC3c, yH0co, yH0cc, yH0uo, yH0uc, yH0vs, yH0eo, yH0ec, yH0ro, yH0rc, yH1o, yH1c, yH2o, yH2c, gH0, gH1, HBW, (u10 U0), (u10 U1), (u10 U2), (u10 U3), (u10 U4), (u10 U5), (u10 U6), (u10 U7), (u10 U8), (u10 U9), (u10 U10), (u10 U11), (u10 U12), (u10 U13), (u10 U14), Lib.hid (fun h0 => frUpd_self), (k11 OC0), (k11 OC1), (k11 OC2), (k11 OC3), (k10 OH0), (k10 OH1), (k10 OH2), (k10 DH0_1), (k10 DH0_2), (k10 DH1_2), (k10 A2gH0), (k11 A3gH0), (k10 A4gH0), (k20 A5gH0H0), (k20 A5gH0H1), (k20 A5gH0H2), (k10 A2gH1), (k11 A3gH1), (k10 A4gH1), (k20 A5gH1H0), (k20 A5gH1H1), (k20 A5gH1H2), (k20 A6gH0gH1)⟩
      · rintro D u wv ⟨yC0co, yC0cc, yC0uo, yC0uc, yC0vs, yC0eo, yC0ec, yC0ro, yC0rc, yC1o, yC1c, yC2o, yC2c, yC3o, yC3c, yH0co, yH0cc, yH0uo, yH0uc, yH0vs, yH0eo, yH0ec, yH0ro, yH0rc, yH1o, yH1c, yH2o, yH2c, gH0, gH1, HBW, U0, U1, U2, U3, U4, U5, U6, U7, U8, U9, U10, U11, U12, U13, U14, U17, OC0, OC1, OC2, OC3, OH0, OH1, OH2, DH0_1, DH0_2, DH1_2, A2gH0, A3gH0, A4gH0, A5gH0H0, A5gH0H1, A5gH0H2, A2gH1, A3gH1, A4gH1, A5gH1H0, A5gH1H1, A5gH1H2, A6gH0gH1⟩ hall
        have d0 := hall 0 (by show 0 < 18; decide)
        have d1 := hall 1 (by show 1 < 18; decide)
        have d2 := hall 2 (by show 2 < 18; decide)
        have d3 := hall 3 (by show 3 < 18; decide)
        have d4 := hall 4 (by show 4 < 18; decide)
        have d5 := hall 5 (by show 5 < 18; decide)
        have d6 := hall 6 (by show 6 < 18; decide)
        have d7 := hall 7 (by show 7 < 18; decide)
        have d8 := hall 8 (by show 8 < 18; decide)
        have d9 := hall 9 (by show 9 < 18; decide)
        have d10 := hall 10 (by show 10 < 18; decide)
        have d11 := hall 11 (by show 11 < 18; decide)
        have d12 := hall 12 (by show 12 < 18; decide)
        have d13 := hall 13 (by show 13 < 18; decide)
        have d14 := hall 14 (by show 14 < 18; decide)
        have d15 := hall 15 (by show 15 < 18; decide)
        have d16 := hall 16 (by show 16 < 18; decide)
        have d17 := hall 17 (by show 17 < 18; decide)
        have ha1 := ha0.out; subst ha1
        simp only [frAll, frTo, List.setIfInBounds_toArray, List.set_cons_succ, List.set_cons_zero]
        go_wp2_with fail
        go_meet
        exact ⟨yH0co, yH0cc, yH0uo, yH0uc, yH0vs, yH0eo, yH0ec, yH0ro, yH0rc, yH1o, yH1c, yH2o, yH2c, gH0, gH1, (U13.out d13), (U14.out d14), (U17.out d17), (A4gH0.out d15), (A4gH1.out d16), (OH0.out d8), (OH1.out d8), (OH2.out d8), (A5gH0H0.out d13 d8), (A5gH0H1.out d13 d8), (A5gH0H2.out d13 d8), (A5gH1H0.out d14 d8), (A5gH1H1.out d14 d8), (A5gH1H2.out d14 d8), (DH0_1.out d8), (DH0_2.out d8), (DH1_2.out d8), (A2gH0.out d13).1, (A2gH1.out d14).1, HBW.out⟩
  obtain ⟨yH0co, yH0cc, yH0uo, yH0uc, yH0vs, yH0eo, yH0ec, yH0ro, yH0rc, yH1o, yH1c, yH2o, yH2c, gH0, gH1, rfl, rfl, rfl, BH0, BH1, OH0, OH1, OH2, NH0_H0, NH0_H1, NH0_H2, NH1_H0, NH1_H1, NH1_H2, DH0_1, DH0_2, DH1_2, hloH0, hloH1, hb⟩ := hcut
  obtain ⟨w2, rfl⟩ : ∃ x, x = wc := ⟨_, rfl⟩
  clear xP0 cP00 fP00 cP01 fP01 cP02 fP02 cP03 fP03 cP04 fP04
  clear xP1 cP10 fP10 cP11 fP11 cP12 fP12 cP13 fP13 cP14 fP14
  replace BP0 := Lib.hid (BP0.out.below hb)
  replace BP1 := Lib.hid (BP1.out.below hb)
  replace BW0 := Lib.hid (BW0.out.below hb)
  replace BW1 := Lib.hid (BW1.out.below hb)
  replace BG0 := Lib.hid (BG0.out.below hb)
  replace BG1 := Lib.hid (BG1.out.below hb)
  replace OW0 := Lib.hid (OW0.out.below hb)
  replace OW1 := Lib.hid (Own.below OW1.out hb)
  replace OW2 := Lib.hid (Own.below OW2.out hb)
  replace OG0 := Lib.hid (OG0.out.below hb)
  replace OG1 := Lib.hid (Own.below OG1.out hb)
  replace OG2 := Lib.hid (Own.below OG2.out hb)
  replace HA0 := Lib.hid (HA0.out.below hb)
  replace HA1 := Lib.hid (HA1.out.below hb)
  replace HA2 := Lib.hid (HA2.out.below hb)
  replace HA3 := Lib.hid (HA3.out.below hb)
  replace HT := Lib.hid (HT.out.trans (hb.mono HT.out.size))
  have zwzF := hb.size; (try simp only [World.size_alloc] at zwzF); clear hb; obtain ⟨wzF, rfl⟩ : ∃ x, x = w2 := ⟨_, rfl⟩
  have hgtH0 := BH0.lt; replace BH0 := Lib.hid BH0
  have hgtH1 := BH1.lt; replace BH1 := Lib.hid BH1
  have LH0 := Lib.hid (OH0.lts); replace OH0 := Lib.hid OH0
  have LH1 := Lib.hid (Own.lts OH1); replace OH1 := Lib.hid OH1
  have LH2 := Lib.hid (Own.lts OH2); replace OH2 := Lib.hid OH2
  replace NH0_H0 := Lib.hid NH0_H0
  replace NH0_H1 := Lib.hid NH0_H1
  replace NH0_H2 := Lib.hid NH0_H2
  replace NH1_H0 := Lib.hid NH1_H0
  replace NH1_H1 := Lib.hid NH1_H1
  replace NH1_H2 := Lib.hid NH1_H2
  replace DH0_1 := Lib.hid DH0_1
  replace DH0_2 := Lib.hid DH0_2
  replace DH1_2 := Lib.hid DH1_2
  have cH00 := (BH0.out.cells 0 _ rfl).1; have fH00 := (BH0.out.cells 0 _ rfl).2
  have cH01 := (BH0.out.cells 1 _ rfl).1; have fH01 := (BH0.out.cells 1 _ rfl).2
  have cH02 := (BH0.out.cells 2 _ rfl).1; have fH02 := (BH0.out.cells 2 _ rfl).2
  have cH03 := (BH0.out.cells 3 _ rfl).1; have fH03 := (BH0.out.cells 3 _ rfl).2
  have cH04 := (BH0.out.cells 4 _ rfl).1; have fH04 := (BH0.out.cells 4 _ rfl).2
  have xH0 := BH0.out.lt
  have cW00 := (BW0.out.cells 0 _ rfl).1; have fW00 := (BW0.out.cells 0 _ rfl).2
  have cW01 := (BW0.out.cells 1 _ rfl).1; have fW01 := (BW0.out.cells 1 _ rfl).2
  have cW02 := (BW0.out.cells 2 _ rfl).1; have fW02 := (BW0.out.cells 2 _ rfl).2
  have cW03 := (BW0.out.cells 3 _ rfl).1; have fW03 := (BW0.out.cells 3 _ rfl).2
  have cW04 := (BW0.out.cells 4 _ rfl).1; have fW04 := (BW0.out.cells 4 _ rfl).2
  have xW0 := BW0.out.lt
  go_wp2_with fail
  refine (l_eqKernel _ _ (⟨⟨⟨.slice yH0co yH0vs.length yH0cc, .slice yH0uo K2.m.f.used.length yH0uc, yH0vs⟩, .slice yH0eo K2.m.ents.length yH0ec⟩, .slice yH0ro K2.refuse.length yH0rc⟩ : KV) (⟨⟨⟨.slice yW0co yW0vs.length yW0cc, .slice yW0uo K2.m.f.used.length yW0uc, yW0vs⟩, .slice yW0eo K2.m.ents.length yW0ec⟩, .slice yW0ro K2.refuse.length yW0rc⟩ : KV) _ _ OH0.out OW0.out).mono ?_; rintro e w2 ⟨rfl, hb⟩
  clear xH0 cH00 fH00 cH01 fH01 cH02 fH02 cH03 fH03 cH04 fH04
  clear xW0 cW00 fW00 cW01 fW01 cW02 fW02 cW03 fW03 cW04 fW04
  replace BP0 := Lib.hid (BP0.out.below hb)
  replace BP1 := Lib.hid (BP1.out.below hb)
  replace BW0 := Lib.hid (BW0.out.below hb)
  replace BW1 := Lib.hid (BW1.out.below hb)
  replace BG0 := Lib.hid (BG0.out.below hb)
  replace BG1 := Lib.hid (BG1.out.below hb)
  replace BH0 := Lib.hid (BH0.out.below hb)
  replace BH1 := Lib.hid (BH1.out.below hb)
  replace OW0 := Lib.hid (OW0.out.below hb)
  replace OW1 := Lib.hid (Own.below OW1.out hb)
  replace OW2 := Lib.hid (Own.below OW2.out hb)
  replace OG0 := Lib.hid (OG0.out.below hb)
  replace OG1 := Lib.hid (Own.below OG1.out hb)
  replace OG2 := Lib.hid (Own.below OG2.out hb)
  replace OH0 := Lib.hid (OH0.out.below hb)
  replace OH1 := Lib.hid (Own.below OH1.out hb)
  replace OH2 := Lib.hid (Own.below OH2.out hb)
  replace HA0 := Lib.hid (HA0.out.below hb)
  replace HA1 := Lib.hid (HA1.out.below hb)
  replace HA2 := Lib.hid (HA2.out.below hb)
  replace HA3 := Lib.hid (HA3.out.below hb)
  replace HT := Lib.hid (HT.out.trans (hb.mono HT.out.size))
  have zwzG := hb.size; (try simp only [World.size_alloc] at zwzG); clear hb; obtain ⟨wzG, rfl⟩ : ∃ x, x = w2 := ⟨_, rfl⟩
  have cH10 := (BH1.out.cells 0 _ rfl).1; have fH10 := (BH1.out.cells 0 _ rfl).2
  have cH11 := (BH1.out.cells 1 _ rfl).1; have fH11 := (BH1.out.cells 1 _ rfl).2
  have cH12 := (BH1.out.cells 2 _ rfl).1; have fH12 := (BH1.out.cells 2 _ rfl).2
  have cH13 := (BH1.out.cells 3 _ rfl).1; have fH13 := (BH1.out.cells 3 _ rfl).2
  have cH14 := (BH1.out.cells 4 _ rfl).1; have fH14 := (BH1.out.cells 4 _ rfl).2
  have xH1 := BH1.out.lt
  have cW10 := (BW1.out.cells 0 _ rfl).1; have fW10 := (BW1.out.cells 0 _ rfl).2
  have cW11 := (BW1.out.cells 1 _ rfl).1; have fW11 := (BW1.out.cells 1 _ rfl).2
  have cW12 := (BW1.out.cells 2 _ rfl).1; have fW12 := (BW1.out.cells 2 _ rfl).2
  have cW13 := (BW1.out.cells 3 _ rfl).1; have fW13 := (BW1.out.cells 3 _ rfl).2
  have cW14 := (BW1.out.cells 4 _ rfl).1; have fW14 := (BW1.out.cells 4 _ rfl).2
  have xW1 := BW1.out.lt
  go_wp2_with fail
  refine (l_eqJob _ _ kp mv _ _ cs ph2 nx2 _ OH1.out OW1.out).mono ?_; rintro e w2 ⟨rfl, hb⟩
  clear xH1 cH10 fH10 cH11 fH11 cH12 fH12 cH13 fH13 cH14 fH14
  clear xW1 cW10 fW10 cW11 fW11 cW12 fW12 cW13 fW13 cW14 fW14
  replace BP0 := Lib.hid (BP0.out.below hb)
  replace BP1 := Lib.hid (BP1.out.below hb)
  replace BW0 := Lib.hid (BW0.out.below hb)
  replace BW1 := Lib.hid (BW1.out.below hb)
  replace BG0 := Lib.hid (BG0.out.below hb)
  replace BG1 := Lib.hid (BG1.out.below hb)
  replace BH0 := Lib.hid (BH0.out.below hb)
  replace BH1 := Lib.hid (BH1.out.below hb)
  replace OW0 := Lib.hid (OW0.out.below hb)
  replace OW1 := Lib.hid (Own.below OW1.out hb)
  replace OW2 := Lib.hid (Own.below OW2.out hb)
  replace OG0 := Lib.hid (OG0.out.below hb)
  replace OG1 := Lib.hid (Own.below OG1.out hb)
  replace OG2 := Lib.hid (Own.below OG2.out hb)
  replace OH0 := Lib.hid (OH0.out.below hb)
  replace OH1 := Lib.hid (Own.below OH1.out hb)
  replace OH2 := Lib.hid (Own.below OH2.out hb)
  replace HA0 := Lib.hid (HA0.out.below hb)
  replace HA1 := Lib.hid (HA1.out.below hb)
  replace HA2 := Lib.hid (HA2.out.below hb)
  replace HA3 := Lib.hid (HA3.out.below hb)
  replace HT := Lib.hid (HT.out.trans (hb.mono HT.out.size))
  have zwzH := hb.size; (try simp only [World.size_alloc] at zwzH); clear hb; obtain ⟨wzH, rfl⟩ : ∃ x, x = w2 := ⟨_, rfl⟩
  go_wp2_with fail
  refine (l_eqWriterS _ _ rs _ (Own.at OH2.out lenWr) (Own.at OW2.out lenWr)).mono ?_; rintro e w2 ⟨rfl, hb⟩
  replace BP0 := Lib.hid (BP0.out.below hb)
  replace BP1 := Lib.hid (BP1.out.below hb)
  replace BW0 := Lib.hid (BW0.out.below hb)
  replace BW1 := Lib.hid (BW1.out.below hb)
  replace BG0 := Lib.hid (BG0.out.below hb)
  replace BG1 := Lib.hid (BG1.out.below hb)
  replace BH0 := Lib.hid (BH0.out.below hb)
  replace BH1 := Lib.hid (BH1.out.below hb)
  replace OW0 := Lib.hid (OW0.out.below hb)
  replace OW1 := Lib.hid (Own.below OW1.out hb)
  replace OW2 := Lib.hid (Own.below OW2.out hb)
  replace OG0 := Lib.hid (OG0.out.below hb)
  replace OG1 := Lib.hid (Own.below OG1.out hb)
  replace OG2 := Lib.hid (Own.below OG2.out hb)
  replace OH0 := Lib.hid (OH0.out.below hb)
  replace OH1 := Lib.hid (Own.below OH1.out hb)
  replace OH2 := Lib.hid (Own.below OH2.out hb)
  replace HA0 := Lib.hid (HA0.out.below hb)
  replace HA1 := Lib.hid (HA1.out.below hb)
  replace HA2 := Lib.hid (HA2.out.below hb)
  replace HA3 := Lib.hid (HA3.out.below hb)
  replace HT := Lib.hid (HT.out.trans (hb.mono HT.out.size))
  have zwzI := hb.size; (try simp only [World.size_alloc] at zwzI); clear hb; obtain ⟨wzI, rfl⟩ : ∃ x, x = w2 := ⟨_, rfl⟩
  have cG00 := (BG0.out.cells 0 _ rfl).1; have fG00 := (BG0.out.cells 0 _ rfl).2
  have cG01 := (BG0.out.cells 1 _ rfl).1; have fG01 := (BG0.out.cells 1 _ rfl).2
  have cG02 := (BG0.out.cells 2 _ rfl).1; have fG02 := (BG0.out.cells 2 _ rfl).2
  have cG03 := (BG0.out.cells 3 _ rfl).1; have fG03 := (BG0.out.cells 3 _ rfl).2
  have cG04 := (BG0.out.cells 4 _ rfl).1; have fG04 := (BG0.out.cells 4 _ rfl).2
  have xG0 := BG0.out.lt
  go_wp2_with fail
  refine (l_heldKernel _ (⟨⟨⟨.slice yG0co yG0vs.length yG0cc, .slice yG0uo K2.m.f.used.length yG0uc, yG0vs⟩, .slice yG0eo K2.m.ents.length yG0ec⟩, .slice yG0ro K2.refuse.length yG0rc⟩ : KV) K2 1 (by omega) _ OG0.out).mono ?_; rintro e w2 ⟨rfl, hb⟩
  clear xG0 cG00 fG00 cG01 fG01 cG02 fG02 cG03 fG03 cG04 fG04
  replace BP0 := Lib.hid (BP0.out.below hb)
  replace BP1 := Lib.hid (BP1.out.below hb)
  replace BW0 := Lib.hid (BW0.out.below hb)
  replace BW1 := Lib.hid (BW1.out.below hb)
  replace BG0 := Lib.hid (BG0.out.below hb)
  replace BG1 := Lib.hid (BG1.out.below hb)
  replace BH0 := Lib.hid (BH0.out.below hb)
  replace BH1 := Lib.hid (BH1.out.below hb)
  replace OW0 := Lib.hid (OW0.out.below hb)
  replace OW1 := Lib.hid (Own.below OW1.out hb)
  replace OW2 := Lib.hid (Own.below OW2.out hb)
  replace OG0 := Lib.hid (OG0.out.below hb)
  replace OG1 := Lib.hid (Own.below OG1.out hb)
  replace OG2 := Lib.hid (Own.below OG2.out hb)
  replace OH0 := Lib.hid (OH0.out.below hb)
  replace OH1 := Lib.hid (Own.below OH1.out hb)
  replace OH2 := Lib.hid (Own.below OH2.out hb)
  replace HA0 := Lib.hid (HA0.out.below hb)
  replace HA1 := Lib.hid (HA1.out.below hb)
  replace HA2 := Lib.hid (HA2.out.below hb)
  replace HA3 := Lib.hid (HA3.out.below hb)
  replace HT := Lib.hid (HT.out.trans (hb.mono HT.out.size))
  have zwzJ := hb.size; (try simp only [World.size_alloc] at zwzJ); clear hb; obtain ⟨wzJ, rfl⟩ : ∃ x, x = w2 := ⟨_, rfl⟩
  have cG10 := (BG1.out.cells 0 _ rfl).1; have fG10 := (BG1.out.cells 0 _ rfl).2
  have cG11 := (BG1.out.cells 1 _ rfl).1; have fG11 := (BG1.out.cells 1 _ rfl).2
  have cG12 := (BG1.out.cells 2 _ rfl).1; have fG12 := (BG1.out.cells 2 _ rfl).2
  have cG13 := (BG1.out.cells 3 _ rfl).1; have fG13 := (BG1.out.cells 3 _ rfl).2
  have cG14 := (BG1.out.cells 4 _ rfl).1; have fG14 := (BG1.out.cells 4 _ rfl).2
  have xG1 := BG1.out.lt
  go_wp2_with fail
  refine (l_heldJob _ kp mv _ cs.length ph2 nx2 _ (by omega) _ OG1.out).mono ?_; rintro e w2 ⟨rfl, hb⟩
  clear xG1 cG10 fG10 cG11 fG11 cG12 fG12 cG13 fG13 cG14 fG14
  replace BP0 := Lib.hid (BP0.out.below hb)
  replace BP1 := Lib.hid (BP1.out.below hb)
  replace BW0 := Lib.hid (BW0.out.below hb)
  replace BW1 := Lib.hid (BW1.out.below hb)
  replace BG0 := Lib.hid (BG0.out.below hb)
  replace BG1 := Lib.hid (BG1.out.below hb)
  replace BH0 := Lib.hid (BH0.out.below hb)
  replace BH1 := Lib.hid (BH1.out.below hb)
  replace OW0 := Lib.hid (OW0.out.below hb)
  replace OW1 := Lib.hid (Own.below OW1.out hb)
  replace OW2 := Lib.hid (Own.below OW2.out hb)
  replace OG0 := Lib.hid (OG0.out.below hb)
  replace OG1 := Lib.hid (Own.below OG1.out hb)
  replace OG2 := Lib.hid (Own.below OG2.out hb)
  replace OH0 := Lib.hid (OH0.out.below hb)
  replace OH1 := Lib.hid (Own.below OH1.out hb)
  replace OH2 := Lib.hid (Own.below OH2.out hb)
  replace HA0 := Lib.hid (HA0.out.below hb)
  replace HA1 := Lib.hid (HA1.out.below hb)
  replace HA2 := Lib.hid (HA2.out.below hb)
  replace HA3 := Lib.hid (HA3.out.below hb)
  replace HT := Lib.hid (HT.out.trans (hb.mono HT.out.size))
  have zwzK := hb.size; (try simp only [World.size_alloc] at zwzK); clear hb; obtain ⟨wzK, rfl⟩ : ∃ x, x = w2 := ⟨_, rfl⟩
  go_wp2_with fail
  refine (l_heldWriterS _ rs.length _ (by omega) _ (Own.at OG2.out lenWr)).mono ?_; rintro e w2 ⟨rfl, hb⟩
  replace BP0 := Lib.hid (BP0.out.below hb)
  replace BP1 := Lib.hid (BP1.out.below hb)
  replace BW0 := Lib.hid (BW0.out.below hb)
  replace BW1 := Lib.hid (BW1.out.below hb)
  replace BG0 := Lib.hid (BG0.out.below hb)
  replace BG1 := Lib.hid (BG1.out.below hb)
  replace BH0 := Lib.hid (BH0.out.below hb)
  replace BH1 := Lib.hid (BH1.out.below hb)
  replace OW0 := Lib.hid (OW0.out.below hb)
  replace OW1 := Lib.hid (Own.below OW1.out hb)
  replace OW2 := Lib.hid (Own.below OW2.out hb)
  replace OG0 := Lib.hid (OG0.out.below hb)
  replace OG1 := Lib.hid (Own.below OG1.out hb)
  replace OG2 := Lib.hid (Own.below OG2.out hb)
  replace OH0 := Lib.hid (OH0.out.below hb)
  replace OH1 := Lib.hid (Own.below OH1.out hb)
  replace OH2 := Lib.hid (Own.below OH2.out hb)
  replace HA0 := Lib.hid (HA0.out.below hb)
  replace HA1 := Lib.hid (HA1.out.below hb)
  replace HA2 := Lib.hid (HA2.out.below hb)
  replace HA3 := Lib.hid (HA3.out.below hb)
  replace HT := Lib.hid (HT.out.trans (hb.mono HT.out.size))
  have zwzL := hb.size; (try simp only [World.size_alloc] at zwzL); clear hb; obtain ⟨wzL, rfl⟩ : ∃ x, x = w2 := ⟨_, rfl⟩
  go_wp2_with fail
  go_ret
  exact ⟨rfl, HT.out⟩

namespace fnExactInterleave
set_option maxRecDepth 100000 in
theorem contract (H : Type) (enc : TypeId × Value → H) (W : World) (base : Nat) (args : Array Value) (ds gs : List (DataW H)) (before : List MemPlace)
    (hval : ∀ (j : Nat) t v, Tryz.f6.params[j]? = some t → args[j]? = some v → Value.okWide Tryz.prog W .any base t v)
    (hW : DataW.Whole enc Tryz.prog Tryz.f6.params.toList Rows.fnExactInterleaveSpec.vars false W args.toList ds gs before) :
    Calls Tryz.prog 6 args W fun e W' => ∃ v, e = .returned v ∧ Rows.fnExactInterleaveSpec.post enc Tryz.prog Tryz.f6 false true false false W args v W' := by
  have hW' := hW
  obtain ⟨p, q, hA0, hV, rfl, hfz, hnd⟩ := hW
  have hA : DataW.TrodAll enc Tryz.prog W 0 (fun _ => true) true Tryz.f6.params.toList args.toList ds p := hA0
  rw [Tryz.params6] at hA hval
  obtain ⟨v0, vs0, d0, ds0, p0, q0, hargs, rfl, rfl, h0, r0⟩ := trodAll_cons hA
  obtain ⟨v1, vs1, d1, ds1, p1, q1, rfl, rfl, rfl, h1, r1⟩ := trodAll_cons r0
  obtain ⟨v2, vs2, d2, ds2, p2, q2, rfl, rfl, rfl, h2, r2⟩ := trodAll_cons r1
  obtain ⟨v3, vs3, d3, ds3, p3, q3, rfl, rfl, rfl, h3, r3⟩ := trodAll_cons r2
  obtain ⟨rfl, rfl, rfl⟩ := trodAll_nil r3
  obtain rfl : args = #[v0, v1, v2, v3] := by cases args; simp_all
  obtain ⟨rfl, rfl⟩ := trodVars_none hV
  obtain ⟨x, K, rfl, hxK, wK⟩ := kernel_open (hval 0 33 v0 rfl rfl) h0
  obtain ⟨kp, mv, c, cs, ph, nx, rfl, hcs, wkp, wmv, wph, wnx⟩ := job_open (hval 1 64 v1 rfl rfl) h1
  obtain ⟨xs, hxs, hxa⟩ := argWrAd Tryz.underlying77 Tryz.underlying135 (by kernel_rfl) (by kernel_rfl) Tryz.underlying3 Tryz.underlying4 rfl rfl rfl rfl (hval 2 77 v2 rfl rfl) h2
  obtain ⟨order, hord⟩ := arg_ints Tryz.underlying31 Tryz.underlying3 (by kernel_rfl) (hval 3 31 v3 rfl rfl) h3
  clear hA0
  refine (w_FnExactInterleave x K kp mv c cs ph nx v2 xs v3 order hxa W hxK hcs hxs hord).mono fun e W' ⟨he, hg⟩ => ?_
  subst he
  exact ⟨_, rfl, law_post (tb := 4) laidOut (by kernel_rfl) rfl rfl Tryz.underlying4 hW' rfl rfl rfl hg⟩
set_option maxRecDepth 100000 in
theorem lifted (os : Os) (started : os.Started) (H : Type) (enc : TypeId × Value → H) :
    ReturnsInHanded {} Tryz.checked os 6 .any (Rows.fnExactInterleaveSpec.pre6 enc Tryz.prog Tryz.f6 Rows.fnExactInterleaveRow.domain false) (Rows.fnExactInterleaveSpec.post enc Tryz.prog Tryz.f6 false true false false) := by
  refine returnsInHanded_of_change (C := Tryz.checked) own started (by kernel_rfl) Tryz.func6
    (ChangeSpec.witness6 (enc := enc) (C := Tryz.checked) false ⟨#[], #[.agg #[.slice none 0 0, .slice none 0 0, .slice none 0 0, .int .i64 0, .slice none 0 0], .agg #[.int .i64 0, .int .i64 0, .slice none 0 0, .int .i64 0, .int .i64 0], .slice none 0 0, .slice none 0 0], []⟩ 8 (by kernel_rfl) (by kernel_rfl) (by kernel_rfl) (by kernel_rfl)) ?_
  intro W base args ds gs before hval hW _ _
  exact contract H enc W base args ds gs before hval hW
/-- The statement. -/
theorem proved : Rows.FnExactInterleaveSaid :=
  OpenClaim.holds_of_wide 6 Tryz.f6 rfl rfl rfl rfl rfl rfl rfl ⟨rfl, rfl, rfl, rfl, rfl⟩ rfl rfl rfl rfl rfl (by kernel_rfl) Tryz.func6 (by kernel_rfl)
    (of_decide_eq_true (by kernel_rfl)) (by unfold Func.isWrapper; first | (rw [if_pos (by decide +kernel)]; kernel_rfl) | (rw [if_neg (by decide +kernel)]; exact ⟨rfl, rfl⟩))
    (fun os started H enc _ => lifted os started H enc)
end fnExactInterleave

end Go.Proofs.YtmblkllijjlkoaaGreat
