/-
  Texts put together: RunI.
-/
import Derived.Test.YtkkebpcclklmcaaGB25
import Derived.Test.YtkkebpcclklmcaaGB26
/-
  Many steps of a job: the implementation.
-/
set_option linter.unusedVariables false
set_option linter.unusedSimpArgs false
namespace Go.Proofs.Ytkkebpcclklmcaa
open Go.RowKit
set_option maxRecDepth 20000 in
set_option maxHeartbeats 25600000 in
theorem i_JobRun (x : KV) (K : Ker) (kp mv : Int) (v : Value) (cs : List Int) (ph nx most : Int) (hs : szK K ≤ 1048576) (hc : cs.length ≤ 1048576) (w : World) (ha : KAt w x K) (hv : IntsAt w v cs) : Calls Try.prog 12 #[x.val K.calls, .agg #[.int .i64 kp, .int .i64 mv, v, .int .i64 ph, .int .i64 nx], .int .i64 most] w (NewKJ w (runTo kp mv cs most ⟨K, ph, nx⟩).k kp mv cs (runTo kp mv cs most ⟨K, ph, nx⟩).ph (runTo kp mv cs most ⟨K, ph, nx⟩).nx) := by
  obtain ⟨⟨⟨xz, xu, xvs⟩, xe⟩, xr⟩ := x
  obtain ⟨ao, ca, rfl, hl1, hl2⟩ := hv.shape
  have HK := Lib.hid ha
  have HV := Lib.hid hv
  have H1 := Lib.hid hs
  have H3 := Lib.hid hc
  simp only [KV.val]
  clear ha hs hv hl1 hl2
  generalize hR : runTo kp mv cs most ⟨K, ph, nx⟩ = R
  have HR := Lib.hid hR
  clear hR
  (have hall := all_nil w; go_enter Try.func12, Try.ntmps12)
  go_upto_region 1 with fail
  have BP : Hid (BoxAt (((((w.alloc (.cells #[xz, xu, xe, .int .i64 K.calls, xr] 35)).alloc (.cells #[.int .i64 kp, .int .i64 mv, .slice ao cs.length ca, .int .i64 ph, .int .i64 nx] 42)).alloc (.cells #[.slice none 0 0, .slice none 0 0, .slice none 0 0, .int .i64 0, .slice none 0 0] 35)).alloc (.cells #[.int .i64 0, .int .i64 0, .slice none 0 0, .int .i64 0, .int .i64 0] 42)).drew) (w.heap.size) [xz, xu, xe, .int .i64 K.calls, xr]) := Lib.hid (BoxAt.snoc (BoxAt.snoc (BoxAt.snoc (BoxAt.snoc (BoxAt.snoc (BoxAt.nil (w := (((((w.alloc (.cells #[xz, xu, xe, .int .i64 K.calls, xr] 35)).alloc (.cells #[.int .i64 kp, .int .i64 mv, .slice ao cs.length ca, .int .i64 ph, .int .i64 nx] 42)).alloc (.cells #[.slice none 0 0, .slice none 0 0, .slice none 0 0, .int .i64 0, .slice none 0 0] 35)).alloc (.cells #[.int .i64 0, .int .i64 0, .slice none 0 0, .int .i64 0, .int .i64 0] 42)).drew)) (g := w.heap.size) (by go_simp)) (v := xz) (i := 0) rfl (by go_simp) (by go_simp)) (v := xu) (i := 1) rfl (by go_simp) (by go_simp)) (v := xe) (i := 2) rfl (by go_simp) (by go_simp)) (v := .int .i64 K.calls) (i := 3) rfl (by go_simp) (by go_simp)) (v := xr) (i := 4) rfl (by go_simp) (by go_simp))
  have BQ : Hid (BoxAt (((((w.alloc (.cells #[xz, xu, xe, .int .i64 K.calls, xr] 35)).alloc (.cells #[.int .i64 kp, .int .i64 mv, .slice ao cs.length ca, .int .i64 ph, .int .i64 nx] 42)).alloc (.cells #[.slice none 0 0, .slice none 0 0, .slice none 0 0, .int .i64 0, .slice none 0 0] 35)).alloc (.cells #[.int .i64 0, .int .i64 0, .slice none 0 0, .int .i64 0, .int .i64 0] 42)).drew) (w.heap.size + 1) [.int .i64 kp, .int .i64 mv, .slice ao cs.length ca, .int .i64 ph, .int .i64 nx]) := Lib.hid (BoxAt.snoc (BoxAt.snoc (BoxAt.snoc (BoxAt.snoc (BoxAt.snoc (BoxAt.nil (w := (((((w.alloc (.cells #[xz, xu, xe, .int .i64 K.calls, xr] 35)).alloc (.cells #[.int .i64 kp, .int .i64 mv, .slice ao cs.length ca, .int .i64 ph, .int .i64 nx] 42)).alloc (.cells #[.slice none 0 0, .slice none 0 0, .slice none 0 0, .int .i64 0, .slice none 0 0] 35)).alloc (.cells #[.int .i64 0, .int .i64 0, .slice none 0 0, .int .i64 0, .int .i64 0] 42)).drew)) (g := w.heap.size + 1) (by go_simp)) (v := .int .i64 kp) (i := 0) rfl (by go_simp) (by go_simp)) (v := .int .i64 mv) (i := 1) rfl (by go_simp) (by go_simp)) (v := .slice ao cs.length ca) (i := 2) rfl (by go_simp) (by go_simp)) (v := .int .i64 ph) (i := 3) rfl (by go_simp) (by go_simp)) (v := .int .i64 nx) (i := 4) rfl (by go_simp) (by go_simp))
  have BR : Hid (BoxAt (((((w.alloc (.cells #[xz, xu, xe, .int .i64 K.calls, xr] 35)).alloc (.cells #[.int .i64 kp, .int .i64 mv, .slice ao cs.length ca, .int .i64 ph, .int .i64 nx] 42)).alloc (.cells #[.slice none 0 0, .slice none 0 0, .slice none 0 0, .int .i64 0, .slice none 0 0] 35)).alloc (.cells #[.int .i64 0, .int .i64 0, .slice none 0 0, .int .i64 0, .int .i64 0] 42)).drew) (w.heap.size + 1 + 1) [.slice none 0 0, .slice none 0 0, .slice none 0 0, .int .i64 0, .slice none 0 0]) := Lib.hid (BoxAt.snoc (BoxAt.snoc (BoxAt.snoc (BoxAt.snoc (BoxAt.snoc (BoxAt.nil (w := (((((w.alloc (.cells #[xz, xu, xe, .int .i64 K.calls, xr] 35)).alloc (.cells #[.int .i64 kp, .int .i64 mv, .slice ao cs.length ca, .int .i64 ph, .int .i64 nx] 42)).alloc (.cells #[.slice none 0 0, .slice none 0 0, .slice none 0 0, .int .i64 0, .slice none 0 0] 35)).alloc (.cells #[.int .i64 0, .int .i64 0, .slice none 0 0, .int .i64 0, .int .i64 0] 42)).drew)) (g := w.heap.size + 1 + 1) (by go_simp)) (v := .slice none 0 0) (i := 0) rfl (by go_simp) (by go_simp)) (v := .slice none 0 0) (i := 1) rfl (by go_simp) (by go_simp)) (v := .slice none 0 0) (i := 2) rfl (by go_simp) (by go_simp)) (v := .int .i64 0) (i := 3) rfl (by go_simp) (by go_simp)) (v := .slice none 0 0) (i := 4) rfl (by go_simp) (by go_simp))
  have BS : Hid (BoxAt (((((w.alloc (.cells #[xz, xu, xe, .int .i64 K.calls, xr] 35)).alloc (.cells #[.int .i64 kp, .int .i64 mv, .slice ao cs.length ca, .int .i64 ph, .int .i64 nx] 42)).alloc (.cells #[.slice none 0 0, .slice none 0 0, .slice none 0 0, .int .i64 0, .slice none 0 0] 35)).alloc (.cells #[.int .i64 0, .int .i64 0, .slice none 0 0, .int .i64 0, .int .i64 0] 42)).drew) (w.heap.size + 1 + 1 + 1) [.int .i64 0, .int .i64 0, .slice none 0 0, .int .i64 0, .int .i64 0]) := Lib.hid (BoxAt.snoc (BoxAt.snoc (BoxAt.snoc (BoxAt.snoc (BoxAt.snoc (BoxAt.nil (w := (((((w.alloc (.cells #[xz, xu, xe, .int .i64 K.calls, xr] 35)).alloc (.cells #[.int .i64 kp, .int .i64 mv, .slice ao cs.length ca, .int .i64 ph, .int .i64 nx] 42)).alloc (.cells #[.slice none 0 0, .slice none 0 0, .slice none 0 0, .int .i64 0, .slice none 0 0] 35)).alloc (.cells #[.int .i64 0, .int .i64 0, .slice none 0 0, .int .i64 0, .int .i64 0] 42)).drew)) (g := w.heap.size + 1 + 1 + 1) (by go_simp)) (v := .int .i64 0) (i := 0) rfl (by go_simp) (by go_simp)) (v := .int .i64 0) (i := 1) rfl (by go_simp) (by go_simp)) (v := .slice none 0 0) (i := 2) rfl (by go_simp) (by go_simp)) (v := .int .i64 0) (i := 3) rfl (by go_simp) (by go_simp)) (v := .int .i64 0) (i := 4) rfl (by go_simp) (by go_simp))
  go_cut [8, 9] (fun ss8 ss9 wx => ∃ yco ycc yuo yuc yvs yeo yec yro yrc vo vc gK gJ, ss8 = .pointer (some ⟨gK, 0, none⟩) ∧ ss9 = .pointer (some ⟨gJ, 0, none⟩) ∧ BoxAt wx gK [.slice yco yvs.length ycc, .slice yuo K.m.f.used.length yuc, .slice yeo K.m.ents.length yec, .int .i64 (K.calls), .slice yro K.refuse.length yrc] ∧ BoxAt wx gJ [.int .i64 kp, .int .i64 mv, .slice vo cs.length vc, .int .i64 ph, .int .i64 nx] ∧ KOwn (w.heap.size + 1 + 1 + 1 + 1) wx ⟨⟨⟨.slice yco yvs.length ycc, .slice yuo K.m.f.used.length yuc, yvs⟩, .slice yeo K.m.ents.length yec⟩, .slice yro K.refuse.length yrc⟩ K ∧ OwnI (w.heap.size + 1 + 1 + 1 + 1) wx (.slice vo cs.length vc) cs ∧ gK ∉ blocks (KV.all ⟨⟨⟨.slice yco yvs.length ycc, .slice yuo K.m.f.used.length yuc, yvs⟩, .slice yeo K.m.ents.length yec⟩, .slice yro K.refuse.length yrc⟩) ∧ gK ∉ blocks [.slice vo cs.length vc] ∧ gJ ∉ blocks (KV.all ⟨⟨⟨.slice yco yvs.length ycc, .slice yuo K.m.f.used.length yuc, yvs⟩, .slice yeo K.m.ents.length yec⟩, .slice yro K.refuse.length yrc⟩) ∧ gJ ∉ blocks [.slice vo cs.length vc] ∧ gK ≠ gJ ∧ (∀ g ∈ blocks (KV.all ⟨⟨⟨.slice yco yvs.length ycc, .slice yuo K.m.f.used.length yuc, yvs⟩, .slice yeo K.m.ents.length yec⟩, .slice yro K.refuse.length yrc⟩), g ∉ blocks [.slice vo cs.length vc]) ∧ w.heap.size + 1 + 1 + 1 + 1 ≤ gK ∧ w.heap.size + 1 + 1 + 1 + 1 ≤ gJ ∧ Below (((((w.alloc (.cells #[xz, xu, xe, .int .i64 K.calls, xr] 35)).alloc (.cells #[.int .i64 kp, .int .i64 mv, .slice ao cs.length ca, .int .i64 ph, .int .i64 nx] 42)).alloc (.cells #[.slice none 0 0, .slice none 0 0, .slice none 0 0, .int .i64 0, .slice none 0 0] 35)).alloc (.cells #[.int .i64 0, .int .i64 0, .slice none 0 0, .int .i64 0, .int .i64 0] 42)).drew).heap.size (((((w.alloc (.cells #[xz, xu, xe, .int .i64 K.calls, xr] 35)).alloc (.cells #[.int .i64 kp, .int .i64 mv, .slice ao cs.length ca, .int .i64 ph, .int .i64 nx] 42)).alloc (.cells #[.slice none 0 0, .slice none 0 0, .slice none 0 0, .int .i64 0, .slice none 0 0] 35)).alloc (.cells #[.int .i64 0, .int .i64 0, .slice none 0 0, .int .i64 0, .int .i64 0] 42)).drew) wx)
  case first =>
    refine wp_gen (fun a0 ha0 => ?_)
    have hsz : a0.tmps.size = 41 := by rw [ha0]; rfl
    have hps : (((((w.alloc (.cells #[xz, xu, xe, .int .i64 K.calls, xr] 35)).alloc (.cells #[.int .i64 kp, .int .i64 mv, .slice ao cs.length ca, .int .i64 ph, .int .i64 nx] 42)).alloc (.cells #[.slice none 0 0, .slice none 0 0, .slice none 0 0, .int .i64 0, .slice none 0 0] 35)).alloc (.cells #[.int .i64 0, .int .i64 0, .slice none 0 0, .int .i64 0, .int .i64 0] 42)).drew).heap.size = w.heap.size + 1 + 1 + 1 + 1 := by first | rfl | simp only [World.size_alloc, World.size_drew]
    have X3 : ∀ u, (frAll a0 [10, 11, 12, 13, 8, 9] u).tmps.getD 3 undef = .pointer (some ⟨w.heap.size, 0, none⟩) := fun u => (frAll_other (by decide)).trans (by rw [ha0]; rfl)
    have X4 : ∀ u, (frAll a0 [10, 11, 12, 13, 8, 9] u).tmps.getD 4 undef = .pointer (some ⟨w.heap.size + 1, 0, none⟩) := fun u => (frAll_other (by decide)).trans (by rw [ha0]; rfl)
    have E10 : ∀ u, (frAll a0 [10, 11, 12, 13, 8, 9] u).tmps.getD 10 undef = u 10 := fun u => frAll_eval (by decide) (by rw [hsz]; decide)
    have P10 : ∀ u v, (frAll a0 [10, 11, 12, 13, 8, 9] u).put (some 10) v = frAll a0 [10, 11, 12, 13, 8, 9] (frUpd u 10 v) := fun u v => frAll_put v (by decide)
    have E11 : ∀ u, (frAll a0 [10, 11, 12, 13, 8, 9] u).tmps.getD 11 undef = u 11 := fun u => frAll_eval (by decide) (by rw [hsz]; decide)
    have P11 : ∀ u v, (frAll a0 [10, 11, 12, 13, 8, 9] u).put (some 11) v = frAll a0 [10, 11, 12, 13, 8, 9] (frUpd u 11 v) := fun u v => frAll_put v (by decide)
    have E12 : ∀ u, (frAll a0 [10, 11, 12, 13, 8, 9] u).tmps.getD 12 undef = u 12 := fun u => frAll_eval (by decide) (by rw [hsz]; decide)
    have P12 : ∀ u v, (frAll a0 [10, 11, 12, 13, 8, 9] u).put (some 12) v = frAll a0 [10, 11, 12, 13, 8, 9] (frUpd u 12 v) := fun u v => frAll_put v (by decide)
    have E13 : ∀ u, (frAll a0 [10, 11, 12, 13, 8, 9] u).tmps.getD 13 undef = u 13 := fun u => frAll_eval (by decide) (by rw [hsz]; decide)
    have P13 : ∀ u v, (frAll a0 [10, 11, 12, 13, 8, 9] u).put (some 13) v = frAll a0 [10, 11, 12, 13, 8, 9] (frUpd u 13 v) := fun u v => frAll_put v (by decide)
    have E8 : ∀ u, (frAll a0 [10, 11, 12, 13, 8, 9] u).tmps.getD 8 undef = u 8 := fun u => frAll_eval (by decide) (by rw [hsz]; decide)
    have P8 : ∀ u v, (frAll a0 [10, 11, 12, 13, 8, 9] u).put (some 8) v = frAll a0 [10, 11, 12, 13, 8, 9] (frUpd u 8 v) := fun u v => frAll_put v (by decide)
    have E9 : ∀ u, (frAll a0 [10, 11, 12, 13, 8, 9] u).tmps.getD 9 undef = u 9 := fun u => frAll_eval (by decide) (by rw [hsz]; decide)
    have P9 : ∀ u v, (frAll a0 [10, 11, 12, 13, 8, 9] u).put (some 9) v = frAll a0 [10, 11, 12, 13, 8, 9] (frUpd u 9 v) := fun u v => frAll_put v (by decide)
    replace ha0 := Lib.hid ha0
    refine wp_region_frame [10, 11, 12, 13, 8, 9] (fun D u wv => ∃ yco ycc yuo yuc yvs yeo yec yro yrc vo vc gK gJ, Hid (Below (((((w.alloc (.cells #[xz, xu, xe, .int .i64 K.calls, xr] 35)).alloc (.cells #[.int .i64 kp, .int .i64 mv, .slice ao cs.length ca, .int .i64 ph, .int .i64 nx] 42)).alloc (.cells #[.slice none 0 0, .slice none 0 0, .slice none 0 0, .int .i64 0, .slice none 0 0] 35)).alloc (.cells #[.int .i64 0, .int .i64 0, .slice none 0 0, .int .i64 0, .int .i64 0] 42)).drew).heap.size (((((w.alloc (.cells #[xz, xu, xe, .int .i64 K.calls, xr] 35)).alloc (.cells #[.int .i64 kp, .int .i64 mv, .slice ao cs.length ca, .int .i64 ph, .int .i64 nx] 42)).alloc (.cells #[.slice none 0 0, .slice none 0 0, .slice none 0 0, .int .i64 0, .slice none 0 0] 35)).alloc (.cells #[.int .i64 0, .int .i64 0, .slice none 0 0, .int .i64 0, .int .i64 0] 42)).drew) wv) ∧ Hid (D 0 → u 10 = .agg #[xz, xu, xe, .int .i64 K.calls, xr]) ∧ Hid (D 1 → u 11 = .agg #[.slice yco yvs.length ycc, .slice yuo K.m.f.used.length yuc, .slice yeo K.m.ents.length yec, .int .i64 (K.calls), .slice yro K.refuse.length yrc]) ∧ Hid (D 2 → u 12 = .agg #[.int .i64 kp, .int .i64 mv, .slice ao cs.length ca, .int .i64 ph, .int .i64 nx]) ∧ Hid (D 3 → u 13 = .agg #[.int .i64 kp, .int .i64 mv, .slice vo cs.length vc, .int .i64 ph, .int .i64 nx]) ∧ Hid (D 4 → u 8 = .pointer (some ⟨gK, 0, none⟩)) ∧ Hid (D 5 → u 9 = .pointer (some ⟨gJ, 0, none⟩)) ∧ Hid (D 1 → KOwn (w.heap.size + 1 + 1 + 1 + 1) wv ⟨⟨⟨.slice yco yvs.length ycc, .slice yuo K.m.f.used.length yuc, yvs⟩, .slice yeo K.m.ents.length yec⟩, .slice yro K.refuse.length yrc⟩ K) ∧ Hid (D 3 → OwnI (w.heap.size + 1 + 1 + 1 + 1) wv (.slice vo cs.length vc) cs) ∧ Hid (D 4 → w.heap.size + 1 + 1 + 1 + 1 ≤ gK ∧ gK < wv.heap.size) ∧ Hid (D 4 → ¬ D 6 → BoxAt wv gK [.slice none 0 0, .slice none 0 0, .slice none 0 0, .int .i64 0, .slice none 0 0]) ∧ Hid (D 6 → BoxAt wv gK [.slice yco yvs.length ycc, .slice yuo K.m.f.used.length yuc, .slice yeo K.m.ents.length yec, .int .i64 (K.calls), .slice yro K.refuse.length yrc]) ∧ Hid (D 4 → D 1 → gK ∉ blocks (KV.all ⟨⟨⟨.slice yco yvs.length ycc, .slice yuo K.m.f.used.length yuc, yvs⟩, .slice yeo K.m.ents.length yec⟩, .slice yro K.refuse.length yrc⟩)) ∧ Hid (D 4 → D 3 → gK ∉ blocks ([.slice vo cs.length vc])) ∧ Hid (D 5 → w.heap.size + 1 + 1 + 1 + 1 ≤ gJ ∧ gJ < wv.heap.size) ∧ Hid (D 5 → ¬ D 7 → BoxAt wv gJ [.int .i64 0, .int .i64 0, .slice none 0 0, .int .i64 0, .int .i64 0]) ∧ Hid (D 7 → BoxAt wv gJ [.int .i64 kp, .int .i64 mv, .slice vo cs.length vc, .int .i64 ph, .int .i64 nx]) ∧ Hid (D 5 → D 1 → gJ ∉ blocks (KV.all ⟨⟨⟨.slice yco yvs.length ycc, .slice yuo K.m.f.used.length yuc, yvs⟩, .slice yeo K.m.ents.length yec⟩, .slice yro K.refuse.length yrc⟩)) ∧ Hid (D 5 → D 3 → gJ ∉ blocks ([.slice vo cs.length vc])) ∧ Hid (D 4 → D 5 → gK ≠ gJ) ∧ Hid (D 1 → D 3 → (∀ g ∈ blocks (KV.all ⟨⟨⟨.slice yco yvs.length ycc, .slice yuo K.m.f.used.length yuc, yvs⟩, .slice yeo K.m.ents.length yec⟩, .slice yro K.refuse.length yrc⟩), g ∉ blocks ([.slice vo cs.length vc])))) (by kernel_rfl) (by kernel_rfl) ?_ ?_ ?_
    · exact ⟨default, default, default, default, default, default, default, default, default, default, default, default, default, Lib.hid (by exact bel), Lib.hid (fun h => h.elim), Lib.hid (fun h => h.elim), Lib.hid (fun h => h.elim), Lib.hid (fun h => h.elim), Lib.hid (fun h => h.elim), Lib.hid (fun h => h.elim), Lib.hid (fun h => h.elim), Lib.hid (fun h => h.elim), Lib.hid (fun h => h.elim), Lib.hid (fun h => h.elim), Lib.hid (fun h => h.elim), Lib.hid (fun h => h.elim), Lib.hid (fun h => h.elim), Lib.hid (fun h => h.elim), Lib.hid (fun h => h.elim), Lib.hid (fun h => h.elim), Lib.hid (fun h => h.elim), Lib.hid (fun h => h.elim), Lib.hid (fun h => h.elim), Lib.hid (fun h => h.elim)⟩
    · rintro D u wv ⟨yco, ycc, yuo, yuc, yvs, yeo, yec, yro, yrc, vo, vc, gK, gJ, HBW, U0, U1, U2, U3, U4, U5, OK, OV, A2gK, A3gK, A4gK, A5gKK, A5gKV, A2gJ, A3gJ, A4gJ, A5gJK, A5gJV, A6gKgJ, APKV⟩ hcl i hi hn hw
      have hi9 : i < 8 := hi; clear hi
      replace hcl := Lib.hid hcl; replace hw := Lib.hid hw
      have hbw := HBW.out; have hlw := hbw.size; rw [hps] at hlw
      rcases (by omega : i = 0 ∨ i = 1 ∨ i = 2 ∨ i = 3 ∨ i = 4 ∨ i = 5 ∨ i = 6 ∨ i = 7) with rfl | rfl | rfl | rfl | rfl | rfl | rfl | rfl
      · skip
        refine wpOp_step (o := _) rfl (fun KK hKK => ?_)
        rw [if_pos (wanted_nil _ rfl)]
        have E3_ := X3 u
        have bx := BP.out.below hbw
        have c0 := (bx.cells 0 _ rfl).1
        have c1 := (bx.cells 1 _ rfl).1
        have c2 := (bx.cells 2 _ rfl).1
        have c3 := (bx.cells 3 _ rfl).1
        have c4 := (bx.cells 4 _ rfl).1
        skip
        go_simp
        exact hKK _ _ ⟨_, P10 u _, yco, ycc, yuo, yuc, yvs, yeo, yec, yro, yrc, vo, vc, gK, gJ, HBW, Lib.hid (fun h0 => frUpd_self), (u10 U1), (u10 U2), (u10 U3), (u10 U4), (u10 U5), (k10 OK), (k10 OV), (k10 A2gK), (k11 A3gK), (k10 A4gK), (k20 A5gKK), (k20 A5gKV), (k10 A2gJ), (k11 A3gJ), (k10 A4gJ), (k20 A5gJK), (k20 A5gJV), (k20 A6gKgJ), (k20 APKV)⟩
      · skip
        refine wpOp_step (o := _) rfl (fun KK hKK => ?_)
        rw [if_pos (wanted_nil _ rfl)]
        have e10 := U0.out (hw.out 0 (by kernel_rfl)); have E10_ := (E10 u).trans e10
        skip
        go_simp
        refine (i_copyKernel (⟨⟨⟨xz, xu, xvs⟩, xe⟩, xr⟩ : KV) K H1.out _ (HK.out.below (by have hw0 := hbw; exact bel))).mono ?_; rintro e w2 ⟨y, rfl, OK, hb⟩
        obtain ⟨yco, ycc, yuo, yuc, yvs, yeo, yec, yro, yrc, rfl⟩ := KOwn.shapes OK
        simp only [KV.val]
        have hbn := hb.size
        try dsimp only
        exact hKK _ _ ⟨_, P11 u _, yco, ycc, yuo, yuc, yvs, yeo, yec, yro, yrc, vo, vc, gK, gJ, (Lib.hid (hbw.trans (hb.mono (by rw [hps]; omega)))), (u10 U0), Lib.hid (fun h0 => frUpd_self), (u10 U2), (u10 U3), (u10 U4), (u10 U5), Lib.hid (fun h0 => KOwn.mono OK (by omega)), (m10 (fun h => Own.below h hb) OV), (m10 (lt_grow hb.size) A2gK), (m11 (fun h => h.below hb) A3gK), Lib.hid (fun h0 => absurd (hcl.out 6 1 (by kernel_rfl) (addD_of h0 (by decide))) hn), Lib.hid (fun h0 h1 => fun hm => Nat.lt_irrefl _ (Nat.lt_of_lt_of_le (A2gK.out (addD_of h0 (by decide))).2 (((OK).lts) _ hm).1)), (k20 A5gKV), (m10 (lt_grow hb.size) A2gJ), (m11 (fun h => h.below hb) A3gJ), (m10 (fun h => h.below hb) A4gJ), Lib.hid (fun h0 h1 => fun hm => Nat.lt_irrefl _ (Nat.lt_of_lt_of_le (A2gJ.out (addD_of h0 (by decide))).2 (((OK).lts) _ hm).1)), (k20 A5gJV), (k20 A6gKgJ), Lib.hid (fun h0 h1 => fun g hg hm => Nat.lt_irrefl _ (Nat.lt_of_lt_of_le ((Own.lts ((OV.out (addD_of h1 (by decide))))) _ hm).2 (((OK).lts) _ hg).1))⟩
      · skip
        refine wpOp_step (o := _) rfl (fun KK hKK => ?_)
        rw [if_pos (wanted_nil _ rfl)]
        have E4_ := X4 u
        have bx := BQ.out.below hbw
        have c0 := (bx.cells 0 _ rfl).1
        have c1 := (bx.cells 1 _ rfl).1
        have c2 := (bx.cells 2 _ rfl).1
        have c3 := (bx.cells 3 _ rfl).1
        have c4 := (bx.cells 4 _ rfl).1
        skip
        go_simp
        exact hKK _ _ ⟨_, P12 u _, yco, ycc, yuo, yuc, yvs, yeo, yec, yro, yrc, vo, vc, gK, gJ, HBW, (u10 U0), (u10 U1), Lib.hid (fun h0 => frUpd_self), (u10 U3), (u10 U4), (u10 U5), (k10 OK), (k10 OV), (k10 A2gK), (k11 A3gK), (k10 A4gK), (k20 A5gKK), (k20 A5gKV), (k10 A2gJ), (k11 A3gJ), (k10 A4gJ), (k20 A5gJK), (k20 A5gJV), (k20 A6gKgJ), (k20 APKV)⟩
      · skip
        refine wpOp_step (o := _) rfl (fun KK hKK => ?_)
        rw [if_pos (wanted_nil _ rfl)]
        have e12 := U2.out (hw.out 2 (by kernel_rfl)); have E12_ := (E12 u).trans e12
        skip
        go_simp
        refine (i_copyJob kp mv _ cs ph nx H3.out _ (HV.out.below (by have hw0 := hbw; exact bel))).mono ?_; rintro e w2 ⟨v, rfl, OV, hb⟩
        obtain ⟨vo, vc, rfl, -, -⟩ := OV.shape
        have hbn := hb.size
        try dsimp only
        exact hKK _ _ ⟨_, P13 u _, yco, ycc, yuo, yuc, yvs, yeo, yec, yro, yrc, vo, vc, gK, gJ, (Lib.hid (hbw.trans (hb.mono (by rw [hps]; omega)))), (u10 U0), (u10 U1), (u10 U2), Lib.hid (fun h0 => frUpd_self), (u10 U4), (u10 U5), (m10 (fun h => KOwn.below h hb) OK), Lib.hid (fun h0 => Own.mono OV (by omega)), (m10 (lt_grow hb.size) A2gK), (m11 (fun h => h.below hb) A3gK), (m10 (fun h => h.below hb) A4gK), (k20 A5gKK), Lib.hid (fun h0 h1 => fun hm => Nat.lt_irrefl _ (Nat.lt_of_lt_of_le (A2gK.out (addD_of h0 (by decide))).2 ((Own.lts (OV)) _ hm).1)), (m10 (lt_grow hb.size) A2gJ), (m11 (fun h => h.below hb) A3gJ), Lib.hid (fun h0 => absurd (hcl.out 7 3 (by kernel_rfl) (addD_of h0 (by decide))) hn), (k20 A5gJK), Lib.hid (fun h0 h1 => fun hm => Nat.lt_irrefl _ (Nat.lt_of_lt_of_le (A2gJ.out (addD_of h0 (by decide))).2 ((Own.lts (OV)) _ hm).1)), (k20 A6gKgJ), Lib.hid (fun h0 h1 => fun g hg hm => Nat.lt_irrefl _ (Nat.lt_of_lt_of_le ((((OK.out (addD_of h0 (by decide)))).lts) _ hg).2 ((Own.lts (OV)) _ hm).1))⟩
      · skip
        refine wpOp_step (o := _) rfl (fun KK hKK => ?_)
        rw [if_pos (wanted_nil _ rfl)]
        skip
        go_simp
        have hb : Below wv.heap.size wv (wv.alloc (.cells #[.slice none 0 0, .slice none 0 0, .slice none 0 0, .int .i64 0, .slice none 0 0] 35)) := (Below.refl _ wv).alloc (Nat.le_refl _) (.cells #[.slice none 0 0, .slice none 0 0, .slice none 0 0, .int .i64 0, .slice none 0 0] 35)
        have hbn : wv.heap.size < (wv.alloc (.cells #[.slice none 0 0, .slice none 0 0, .slice none 0 0, .int .i64 0, .slice none 0 0] 35)).heap.size := by rw [World.size_alloc]; omega
        have BN : BoxAt (wv.alloc (.cells #[.slice none 0 0, .slice none 0 0, .slice none 0 0, .int .i64 0, .slice none 0 0] 35)) wv.heap.size [.slice none 0 0, .slice none 0 0, .slice none 0 0, .int .i64 0, .slice none 0 0] := (BoxAt.snoc (BoxAt.snoc (BoxAt.snoc (BoxAt.snoc (BoxAt.snoc (BoxAt.nil (w := (wv.alloc (.cells #[.slice none 0 0, .slice none 0 0, .slice none 0 0, .int .i64 0, .slice none 0 0] 35))) (g := wv.heap.size) (by go_simp)) (v := .slice none 0 0) (i := 0) rfl (by go_simp) (by go_simp)) (v := .slice none 0 0) (i := 1) rfl (by go_simp) (by go_simp)) (v := .slice none 0 0) (i := 2) rfl (by go_simp) (by go_simp)) (v := .int .i64 0) (i := 3) rfl (by go_simp) (by go_simp)) (v := .slice none 0 0) (i := 4) rfl (by go_simp) (by go_simp))
        exact hKK _ _ ⟨_, P8 u _, yco, ycc, yuo, yuc, yvs, yeo, yec, yro, yrc, vo, vc, wv.heap.size, gJ, (Lib.hid (hbw.trans (hb.mono (by rw [hps]; omega)))), (u10 U0), (u10 U1), (u10 U2), (u10 U3), Lib.hid (fun h0 => frUpd_self), (u10 U5), (m10 (fun h => KOwn.below h hb) OK), (m10 (fun h => Own.below h hb) OV), Lib.hid (fun h0 => ⟨by omega, hbn⟩), Lib.hid (fun h0 m0 => BN), Lib.hid (fun h0 => absurd (hcl.out 6 4 (by kernel_rfl) (addD_of h0 (by decide))) hn), Lib.hid (fun h0 h1 => fun hm => Nat.lt_irrefl _ ((((OK.out (addD_of h1 (by decide)))).lts) _ hm).2), Lib.hid (fun h0 h1 => fun hm => Nat.lt_irrefl _ ((Own.lts ((OV.out (addD_of h1 (by decide))))) _ hm).2), (m10 (lt_grow hb.size) A2gJ), (m11 (fun h => h.below hb) A3gJ), (m10 (fun h => h.below hb) A4gJ), (k20 A5gJK), (k20 A5gJV), Lib.hid (fun h0 h1 => Nat.ne_of_gt (A2gJ.out (addD_of h1 (by decide))).2), (k20 APKV)⟩
      · skip
        refine wpOp_step (o := _) rfl (fun KK hKK => ?_)
        rw [if_pos (wanted_nil _ rfl)]
        skip
        go_simp
        have hb : Below wv.heap.size wv (wv.alloc (.cells #[.int .i64 0, .int .i64 0, .slice none 0 0, .int .i64 0, .int .i64 0] 42)) := (Below.refl _ wv).alloc (Nat.le_refl _) (.cells #[.int .i64 0, .int .i64 0, .slice none 0 0, .int .i64 0, .int .i64 0] 42)
        have hbn : wv.heap.size < (wv.alloc (.cells #[.int .i64 0, .int .i64 0, .slice none 0 0, .int .i64 0, .int .i64 0] 42)).heap.size := by rw [World.size_alloc]; omega
        have BN : BoxAt (wv.alloc (.cells #[.int .i64 0, .int .i64 0, .slice none 0 0, .int .i64 0, .int .i64 0] 42)) wv.heap.size [.int .i64 0, .int .i64 0, .slice none 0 0, .int .i64 0, .int .i64 0] := (BoxAt.snoc (BoxAt.snoc (BoxAt.snoc (BoxAt.snoc (BoxAt.snoc (BoxAt.nil (w := (wv.alloc (.cells #[.int .i64 0, .int .i64 0, .slice none 0 0, .int .i64 0, .int .i64 0] 42))) (g := wv.heap.size) (by go_simp)) (v := .int .i64 0) (i := 0) rfl (by go_simp) (by go_simp)) (v := .int .i64 0) (i := 1) rfl (by go_simp) (by go_simp)) (v := .slice none 0 0) (i := 2) rfl (by go_simp) (by go_simp)) (v := .int .i64 0) (i := 3) rfl (by go_simp) (by go_simp)) (v := .int .i64 0) (i := 4) rfl (by go_simp) (by go_simp))
        exact hKK _ _ ⟨_, P9 u _, yco, ycc, yuo, yuc, yvs, yeo, yec, yro, yrc, vo, vc, gK, wv.heap.size, (Lib.hid (hbw.trans (hb.mono (by rw [hps]; omega)))), (u10 U0), (u10 U1), (u10 U2), (u10 U3), (u10 U4), Lib.hid (fun h0 => frUpd_self), (m10 (fun h => KOwn.below h hb) OK), (m10 (fun h => Own.below h hb) OV), (m10 (lt_grow hb.size) A2gK), (m11 (fun h => h.below hb) A3gK), (m10 (fun h => h.below hb) A4gK), (k20 A5gKK), (k20 A5gKV), Lib.hid (fun h0 => ⟨by omega, hbn⟩), Lib.hid (fun h0 m0 => BN), Lib.hid (fun h0 => absurd (hcl.out 7 5 (by kernel_rfl) (addD_of h0 (by decide))) hn), Lib.hid (fun h0 h1 => fun hm => Nat.lt_irrefl _ ((((OK.out (addD_of h1 (by decide)))).lts) _ hm).2), Lib.hid (fun h0 h1 => fun hm => Nat.lt_irrefl _ ((Own.lts ((OV.out (addD_of h1 (by decide))))) _ hm).2), Lib.hid (fun h0 h1 => Nat.ne_of_lt (A2gK.out (addD_of h0 (by decide))).2), (k20 APKV)⟩
      · skip
        refine wpOp_step (o := _) rfl (fun KK hKK => ?_)
        rw [if_pos (wanted_nil _ rfl)]
        have e8 := U4.out (hw.out 4 (by kernel_rfl)); have E8_ := (E8 u).trans e8
        have e11 := U1.out (hw.out 1 (by kernel_rfl)); have E11_ := (E11 u).trans e11
        have bx := A3gK.out (hw.out 4 (by kernel_rfl)) hn
        have c0 := (bx.cells 0 _ rfl).1; have f0 := (bx.cells 0 _ rfl).2
        have c1 := (bx.cells 1 _ rfl).1; have f1 := (bx.cells 1 _ rfl).2
        have c2 := (bx.cells 2 _ rfl).1; have f2 := (bx.cells 2 _ rfl).2
        have c3 := (bx.cells 3 _ rfl).1; have f3 := (bx.cells 3 _ rfl).2
        have c4 := (bx.cells 4 _ rfl).1; have f4 := (bx.cells 4 _ rfl).2
        have hgl := A2gK.out (hw.out 4 (by kernel_rfl))
        skip
        go_simp
        have ht : Touch [gK] wv (((((wv.setCell ⟨gK, 0, none⟩ (.slice yco yvs.length ycc)).setCell ⟨gK, 1, none⟩ (.slice yuo K.m.f.used.length yuc)).setCell ⟨gK, 2, none⟩ (.slice yeo K.m.ents.length yec)).setCell ⟨gK, 3, none⟩ (.int .i64 (K.calls))).setCell ⟨gK, 4, none⟩ (.slice yro K.refuse.length yrc)) := touch_bx (touch_bx (touch_bx (touch_bx (touch_bx (Touch.refl [gK] wv)))))
        have hb := ht.toBelow (B := w.heap.size + 1 + 1 + 1 + 1) (fun g hg => by have := List.mem_singleton.1 hg; omega) (by omega)
        have BN : BoxAt (((((wv.setCell ⟨gK, 0, none⟩ (.slice yco yvs.length ycc)).setCell ⟨gK, 1, none⟩ (.slice yuo K.m.f.used.length yuc)).setCell ⟨gK, 2, none⟩ (.slice yeo K.m.ents.length yec)).setCell ⟨gK, 3, none⟩ (.int .i64 (K.calls))).setCell ⟨gK, 4, none⟩ (.slice yro K.refuse.length yrc)) gK [.slice yco yvs.length ycc, .slice yuo K.m.f.used.length yuc, .slice yeo K.m.ents.length yec, .int .i64 (K.calls), .slice yro K.refuse.length yrc] := (BoxAt.snoc (BoxAt.snoc (BoxAt.snoc (BoxAt.snoc (BoxAt.snoc (BoxAt.nil (w := (((((wv.setCell ⟨gK, 0, none⟩ (.slice yco yvs.length ycc)).setCell ⟨gK, 1, none⟩ (.slice yuo K.m.f.used.length yuc)).setCell ⟨gK, 2, none⟩ (.slice yeo K.m.ents.length yec)).setCell ⟨gK, 3, none⟩ (.int .i64 (K.calls))).setCell ⟨gK, 4, none⟩ (.slice yro K.refuse.length yrc))) (g := gK) (by have := ht.size; omega)) (v := .slice yco yvs.length ycc) (i := 0) rfl (by go_simp) (by go_simp)) (v := .slice yuo K.m.f.used.length yuc) (i := 1) rfl (by go_simp) (by go_simp)) (v := .slice yeo K.m.ents.length yec) (i := 2) rfl (by go_simp) (by go_simp)) (v := .int .i64 (K.calls)) (i := 3) rfl (by go_simp) (by go_simp)) (v := .slice yro K.refuse.length yrc) (i := 4) rfl (by go_simp) (by go_simp))
        exact hKK _ _ ⟨u, rfl, yco, ycc, yuo, yuc, yvs, yeo, yec, yro, yrc, vo, vc, gK, gJ, (Lib.hid (hbw.trans (hb.mono (by rw [hps]; exact Nat.le_refl _)))), (k10 U0), (k10 U1), (k10 U2), (k10 U3), (k10 U4), (k10 U5), (md10 (fun d h => KOwn.touch h ht (fun g hg hm => by cases List.mem_singleton.1 hm; exact A5gKK.out (hw.out 4 (by kernel_rfl)) d hg)) OK), (md10 (fun d h => Own.touchs h ht (fun g hg hm => by cases List.mem_singleton.1 hm; exact A5gKV.out (hw.out 4 (by kernel_rfl)) d hg)) OV), (m10 (lt_grow ht.size) A2gK), x11, Lib.hid (fun h0 => BN), (k20 A5gKK), (k20 A5gKV), (m10 (lt_grow ht.size) A2gJ), Lib.hid (fun h0 m0 => (A3gJ.out (addD_of h0 (by decide)) (fun x => m0 (addD_mem x))).touch ht (fun hm => (A6gKgJ.out (hw.out 4 (by kernel_rfl)) (addD_of h0 (by decide))) (List.mem_singleton.1 hm).symm)), Lib.hid (fun h0 => (A4gJ.out (addD_of h0 (by decide))).touch ht (fun hm => (A6gKgJ.out (hw.out 4 (by kernel_rfl)) (hcl.out 7 5 (by kernel_rfl) (addD_of h0 (by decide)))) (List.mem_singleton.1 hm).symm)), (k20 A5gJK), (k20 A5gJV), (k20 A6gKgJ), (k20 APKV)⟩
      · skip
        refine wpOp_step (o := _) rfl (fun KK hKK => ?_)
        rw [if_pos (wanted_nil _ rfl)]
        have e9 := U5.out (hw.out 5 (by kernel_rfl)); have E9_ := (E9 u).trans e9
        have e13 := U3.out (hw.out 3 (by kernel_rfl)); have E13_ := (E13 u).trans e13
        have bx := A3gJ.out (hw.out 5 (by kernel_rfl)) hn
        have c0 := (bx.cells 0 _ rfl).1; have f0 := (bx.cells 0 _ rfl).2
        have c1 := (bx.cells 1 _ rfl).1; have f1 := (bx.cells 1 _ rfl).2
        have c2 := (bx.cells 2 _ rfl).1; have f2 := (bx.cells 2 _ rfl).2
        have c3 := (bx.cells 3 _ rfl).1; have f3 := (bx.cells 3 _ rfl).2
        have c4 := (bx.cells 4 _ rfl).1; have f4 := (bx.cells 4 _ rfl).2
        have hgl := A2gJ.out (hw.out 5 (by kernel_rfl))
        skip
        go_simp
        have ht : Touch [gJ] wv (((((wv.setCell ⟨gJ, 0, none⟩ (.int .i64 kp)).setCell ⟨gJ, 1, none⟩ (.int .i64 mv)).setCell ⟨gJ, 2, none⟩ (.slice vo cs.length vc)).setCell ⟨gJ, 3, none⟩ (.int .i64 ph)).setCell ⟨gJ, 4, none⟩ (.int .i64 nx)) := touch_bx (touch_bx (touch_bx (touch_bx (touch_bx (Touch.refl [gJ] wv)))))
        have hb := ht.toBelow (B := w.heap.size + 1 + 1 + 1 + 1) (fun g hg => by have := List.mem_singleton.1 hg; omega) (by omega)
        have BN : BoxAt (((((wv.setCell ⟨gJ, 0, none⟩ (.int .i64 kp)).setCell ⟨gJ, 1, none⟩ (.int .i64 mv)).setCell ⟨gJ, 2, none⟩ (.slice vo cs.length vc)).setCell ⟨gJ, 3, none⟩ (.int .i64 ph)).setCell ⟨gJ, 4, none⟩ (.int .i64 nx)) gJ [.int .i64 kp, .int .i64 mv, .slice vo cs.length vc, .int .i64 ph, .int .i64 nx] := (BoxAt.snoc (BoxAt.snoc (BoxAt.snoc (BoxAt.snoc (BoxAt.snoc (BoxAt.nil (w := (((((wv.setCell ⟨gJ, 0, none⟩ (.int .i64 kp)).setCell ⟨gJ, 1, none⟩ (.int .i64 mv)).setCell ⟨gJ, 2, none⟩ (.slice vo cs.length vc)).setCell ⟨gJ, 3, none⟩ (.int .i64 ph)).setCell ⟨gJ, 4, none⟩ (.int .i64 nx))) (g := gJ) (by have := ht.size; omega)) (v := .int .i64 kp) (i := 0) rfl (by go_simp) (by go_simp)) (v := .int .i64 mv) (i := 1) rfl (by go_simp) (by go_simp)) (v := .slice vo cs.length vc) (i := 2) rfl (by go_simp) (by go_simp)) (v := .int .i64 ph) (i := 3) rfl (by go_simp) (by go_simp)) (v := .int .i64 nx) (i := 4) rfl (by go_simp) (by go_simp))
        exact hKK _ _ ⟨u, rfl, yco, ycc, yuo, yuc, yvs, yeo, yec, yro, yrc, vo, vc, gK, gJ, (Lib.hid (hbw.trans (hb.mono (by rw [hps]; exact Nat.le_refl _)))), (k10 U0), (k10 U1), (k10 U2), (k10 U3), (k10 U4), (k10 U5), (md10 (fun d h => KOwn.touch h ht (fun g hg hm => by cases List.mem_singleton.1 hm; exact A5gJK.out (hw.out 5 (by kernel_rfl)) d hg)) OK), (md10 (fun d h => Own.touchs h ht (fun g hg hm => by cases List.mem_singleton.1 hm; exact A5gJV.out (hw.out 5 (by kernel_rfl)) d hg)) OV), (m10 (lt_grow ht.size) A2gK), Lib.hid (fun h0 m0 => (A3gK.out (addD_of h0 (by decide)) (fun x => m0 (addD_mem x))).touch ht (fun hm => (A6gKgJ.out (addD_of h0 (by decide)) (hw.out 5 (by kernel_rfl))) (List.mem_singleton.1 hm))), Lib.hid (fun h0 => (A4gK.out (addD_of h0 (by decide))).touch ht (fun hm => (A6gKgJ.out (hcl.out 6 4 (by kernel_rfl) (addD_of h0 (by decide))) (hw.out 5 (by kernel_rfl))) (List.mem_singleton.1 hm))), (k20 A5gKK), (k20 A5gKV), (m10 (lt_grow ht.size) A2gJ), x11, Lib.hid (fun h0 => BN), (k20 A5gJK), (k20 A5gJV), (k20 A6gKgJ), (k20 APKV)⟩
    · rintro D u wv ⟨yco, ycc, yuo, yuc, yvs, yeo, yec, yro, yrc, vo, vc, gK, gJ, HBW, U0, U1, U2, U3, U4, U5, OK, OV, A2gK, A3gK, A4gK, A5gKK, A5gKV, A2gJ, A3gJ, A4gJ, A5gJK, A5gJV, A6gKgJ, APKV⟩ hall
      have d0 := hall 0 (by show 0 < 8; decide)
      have d1 := hall 1 (by show 1 < 8; decide)
      have d2 := hall 2 (by show 2 < 8; decide)
      have d3 := hall 3 (by show 3 < 8; decide)
      have d4 := hall 4 (by show 4 < 8; decide)
      have d5 := hall 5 (by show 5 < 8; decide)
      have d6 := hall 6 (by show 6 < 8; decide)
      have d7 := hall 7 (by show 7 < 8; decide)
      have ha1 := ha0.out; subst ha1
      simp only [frAll, frTo, List.setIfInBounds_toArray, List.set_cons_succ, List.set_cons_zero]
      go_wp2_with fail
      go_meet
      exact ⟨yco, ycc, yuo, yuc, yvs, yeo, yec, yro, yrc, vo, vc, gK, gJ, (U4.out d4), (U5.out d5), (A4gK.out d6), (A4gJ.out d7), (OK.out d1), (OV.out d3), (A5gKK.out d4 d1), (A5gKV.out d4 d3), (A5gJK.out d5 d1), (A5gJV.out d5 d3), (A6gKgJ.out d4 d5), (APKV.out d1 d3), (A2gK.out d4).1, (A2gJ.out d5).1, HBW.out⟩
  obtain ⟨yco, ycc, yuo, yuc, yvs, yeo, yec, yro, yrc, vo, vc, gK, gJ, rfl, rfl, bK, bJ, oK, oV, nk1, nk2, nj1, nj2, hne, hap, hgK, hgJ, hbel⟩ := hcut
  obtain ⟨wd, rfl⟩ : ∃ x, x = wc := ⟨_, rfl⟩
  have hzb := hbel.size
  simp only [World.size_alloc, World.size_drew] at hzb
  have BK := Lib.hid bK; have BJ := Lib.hid bJ; have OK := Lib.hid oK; have OV := Lib.hid oV; have HAP := Lib.hid hap
  have OF1 : Hid (∀ b ∈ blocks (KV.all ⟨⟨⟨.slice yco yvs.length ycc, .slice yuo K.m.f.used.length yuc, yvs⟩, .slice yeo K.m.ents.length yec⟩, .slice yro K.refuse.length yrc⟩), b ≠ gK ∧ b ≠ gJ) := Lib.hid (fun b hb => ⟨fun e => nk1 (e ▸ hb), fun e => nj1 (e ▸ hb)⟩)
  have OF2 : Hid (∀ b ∈ blocks ([.slice vo cs.length vc]), b ≠ gK ∧ b ≠ gJ) := Lib.hid (fun b hb => ⟨fun e => nk2 (e ▸ hb), fun e => nj2 (e ▸ hb)⟩)
  replace BR := Lib.hid (BR.out.below hbel); replace BS := Lib.hid (BS.out.below hbel)
  have HBW : Hid (Below w.heap.size w wd) := Lib.hid (by exact bel)
  clear bK bJ oK oV nk1 nk2 nj1 nj2 hap BP BQ hbel
  have hne2 : ¬ gJ = gK := fun e => hne e.symm
  have hne1 : ¬ gK = gJ := hne
  have ngK0 : ¬ gK = w.heap.size := (by omega); have mgK0 : ¬ w.heap.size = gK := (by omega)
  have ngK1 : ¬ gK = w.heap.size + 1 := (by omega); have mgK1 : ¬ w.heap.size + 1 = gK := (by omega)
  have ngK2 : ¬ gK = w.heap.size + 1 + 1 := (by omega); have mgK2 : ¬ w.heap.size + 1 + 1 = gK := (by omega)
  have ngK3 : ¬ gK = w.heap.size + 1 + 1 + 1 := (by omega); have mgK3 : ¬ w.heap.size + 1 + 1 + 1 = gK := (by omega)
  have ngJ0 : ¬ gJ = w.heap.size := (by omega); have mgJ0 : ¬ w.heap.size = gJ := (by omega)
  have ngJ1 : ¬ gJ = w.heap.size + 1 := (by omega); have mgJ1 : ¬ w.heap.size + 1 = gJ := (by omega)
  have ngJ2 : ¬ gJ = w.heap.size + 1 + 1 := (by omega); have mgJ2 : ¬ w.heap.size + 1 + 1 = gJ := (by omega)
  have ngJ3 : ¬ gJ = w.heap.size + 1 + 1 + 1 := (by omega); have mgJ3 : ¬ w.heap.size + 1 + 1 + 1 = gJ := (by omega)
  have xgK := BK.out.lt; have xgJ := BJ.out.lt
  cases hb : between most 0 200
  · have e : R = ⟨K, ph, nx⟩ := by have h := HR.out; unfold runTo at h; rw [hb] at h; exact h.symm
    subst e
    have kwd_2_0 := (BR.out.cells 0 _ rfl).1; have fwd_2_0 := (BR.out.cells 0 _ rfl).2; have kwd_2_1 := (BR.out.cells 1 _ rfl).1; have fwd_2_1 := (BR.out.cells 1 _ rfl).2; have kwd_2_2 := (BR.out.cells 2 _ rfl).1; have fwd_2_2 := (BR.out.cells 2 _ rfl).2; have kwd_2_3 := (BR.out.cells 3 _ rfl).1; have fwd_2_3 := (BR.out.cells 3 _ rfl).2; have kwd_2_4 := (BR.out.cells 4 _ rfl).1; have fwd_2_4 := (BR.out.cells 4 _ rfl).2; have kwd_3_0 := (BS.out.cells 0 _ rfl).1; have fwd_3_0 := (BS.out.cells 0 _ rfl).2; have kwd_3_1 := (BS.out.cells 1 _ rfl).1; have fwd_3_1 := (BS.out.cells 1 _ rfl).2; have kwd_3_2 := (BS.out.cells 2 _ rfl).1; have fwd_3_2 := (BS.out.cells 2 _ rfl).2; have kwd_3_3 := (BS.out.cells 3 _ rfl).1; have fwd_3_3 := (BS.out.cells 3 _ rfl).2; have kwd_3_4 := (BS.out.cells 4 _ rfl).1; have fwd_3_4 := (BS.out.cells 4 _ rfl).2; have kwd_gK_0 := (BK.out.cells 0 _ rfl).1; have fwd_gK_0 := (BK.out.cells 0 _ rfl).2; have kwd_gK_1 := (BK.out.cells 1 _ rfl).1; have fwd_gK_1 := (BK.out.cells 1 _ rfl).2; have kwd_gK_2 := (BK.out.cells 2 _ rfl).1; have fwd_gK_2 := (BK.out.cells 2 _ rfl).2; have kwd_gK_3 := (BK.out.cells 3 _ rfl).1; have fwd_gK_3 := (BK.out.cells 3 _ rfl).2; have kwd_gK_4 := (BK.out.cells 4 _ rfl).1; have fwd_gK_4 := (BK.out.cells 4 _ rfl).2; have kwd_gJ_0 := (BJ.out.cells 0 _ rfl).1; have fwd_gJ_0 := (BJ.out.cells 0 _ rfl).2; have kwd_gJ_1 := (BJ.out.cells 1 _ rfl).1; have fwd_gJ_1 := (BJ.out.cells 1 _ rfl).2; have kwd_gJ_2 := (BJ.out.cells 2 _ rfl).1; have fwd_gJ_2 := (BJ.out.cells 2 _ rfl).2; have kwd_gJ_3 := (BJ.out.cells 3 _ rfl).1; have fwd_gJ_3 := (BJ.out.cells 3 _ rfl).2; have kwd_gJ_4 := (BJ.out.cells 4 _ rfl).1; have fwd_gJ_4 := (BJ.out.cells 4 _ rfl).2
    have xwd_gK := BK.out.lt; have xwd_gJ := BJ.out.lt; have xwd_2 := BR.out.lt; have xwd_3 := BS.out.lt
    go_wp2_with ((go_at_call 39; ((refine (i_between _ _ _ false (by assumption) _).mono ?_)); rintro e w2 ⟨rfl, rfl⟩))
    go_region_held3 (fun w' => w'.cell? ⟨gK, 0, none⟩ = some (.slice yco yvs.length ycc) ∧ w'.cell? ⟨gK, 1, none⟩ = some (.slice yuo K.m.f.used.length yuc) ∧ w'.cell? ⟨gK, 2, none⟩ = some (.slice yeo K.m.ents.length yec) ∧ w'.cell? ⟨gK, 3, none⟩ = some (.int .i64 (K.calls)) ∧ w'.cell? ⟨gK, 4, none⟩ = some (.slice yro K.refuse.length yrc) ∧ w'.cell? ⟨gJ, 0, none⟩ = some (.int .i64 kp) ∧ w'.cell? ⟨gJ, 1, none⟩ = some (.int .i64 mv) ∧ w'.cell? ⟨gJ, 2, none⟩ = some (.slice vo cs.length vc) ∧ w'.cell? ⟨gJ, 3, none⟩ = some (.int .i64 ph) ∧ w'.cell? ⟨gJ, 4, none⟩ = some (.int .i64 nx)) ((refine ⟨?_, ?_, ?_, ?_, ?_, ?_, ?_, ?_, ?_, ?_⟩ <;> (go_simp; done))) (fail)
    all_goals go_wp2_with fail
    all_goals (refine bodyPost_ret (v := .tuple #[.agg #[.slice yco yvs.length ycc, .slice yuo K.m.f.used.length yuc, .slice yeo K.m.ents.length yec, .int .i64 (K.calls), .slice yro K.refuse.length yrc], .agg #[.int .i64 kp, .int .i64 mv, .slice vo cs.length vc, .int .i64 ph, .int .i64 nx]]) (by simp [results, Try.results12, go_sem, kwd_2_0, fwd_2_0, kwd_2_1, fwd_2_1, kwd_2_2, fwd_2_2, kwd_2_3, fwd_2_3, kwd_2_4, fwd_2_4, kwd_3_0, fwd_3_0, kwd_3_1, fwd_3_1, kwd_3_2, fwd_3_2, kwd_3_3, fwd_3_3, kwd_3_4, fwd_3_4, kwd_gK_0, fwd_gK_0, kwd_gK_1, fwd_gK_1, kwd_gK_2, fwd_gK_2, kwd_gK_3, fwd_gK_3, kwd_gK_4, fwd_gK_4, kwd_gJ_0, fwd_gJ_0, kwd_gJ_1, fwd_gJ_1, kwd_gJ_2, fwd_gJ_2, kwd_gJ_3, fwd_gJ_3, kwd_gJ_4, fwd_gJ_4]) rfl ?_; refine ⟨⟨⟨⟨.slice yco yvs.length ycc, .slice yuo K.m.f.used.length yuc, yvs⟩, .slice yeo K.m.ents.length yec⟩, .slice yro K.refuse.length yrc⟩, .slice vo cs.length vc, rfl, ?_⟩; exact kj_fin (S := [w.heap.size + 1 + 1, w.heap.size + 1 + 1 + 1, gK, gJ]) (wl := wd) OK.out OV.out (by omega) (by omega) (by repeat (first | (with_reducible refine touch_setC ?_ (by simp)) | (with_reducible refine touch_drewT ?_) | (with_reducible exact Touch.refl _ _))) (fun g hg hm => by have h1 := (OK.out.lts g hg).1; have k1 := OF1.out g hg; simp only [List.mem_cons, List.not_mem_nil, or_false] at hm; omega) (fun g hg hm => by have h1 := (Own.lts OV.out g hg).1; have k1 := OF2.out g hg; simp only [List.mem_cons, List.not_mem_nil, or_false] at hm; omega) HAP.out HBW.out (fun g hm => by simp only [List.mem_cons, List.not_mem_nil, or_false] at hm; omega))
  · have hbi := between_iff.1 hb
    obtain ⟨j0, rfl⟩ := Int.eq_ofNat_of_zero_le hbi.1
    have HR0 : Hid (runJ kp mv cs j0 ⟨K, ph, nx⟩ = R) := Lib.hid (by have h := HR.out; unfold runTo at h; rw [hb, if_pos rfl, Int.toNat_natCast] at h; exact h)
    clear HR
    go_wp2_with ((go_at_call 39; ((refine (i_between _ _ _ true (by assumption) _).mono ?_)); rintro e w2 ⟨rfl, rfl⟩))
    go_loopw [2] (fun m wr => ∃ (j : Nat) (s : JS) (y : KV) (v : Value), m = .int .i64 (j : Int) ∧ j ≤ 200 ∧ runJ kp mv cs j s = R ∧ szK s.k ≤ 1048576 ∧ BoxAt wr gK [y.m.f.c, y.m.f.u, y.m.e, .int .i64 s.k.calls, y.r] ∧ BoxAt wr gJ [.int .i64 kp, .int .i64 mv, v, .int .i64 s.ph, .int .i64 s.nx] ∧ KOwn (w.heap.size + 1 + 1 + 1 + 1) wr y s.k ∧ OwnI (w.heap.size + 1 + 1 + 1 + 1) wr v cs ∧ (∀ b ∈ blocks (y.all), b ≠ gK ∧ b ≠ gJ) ∧ (∀ b ∈ blocks ([v]), b ≠ gK ∧ b ≠ gJ) ∧ (∀ g ∈ blocks y.all, g ∉ blocks [v]) ∧ Touch [gK, gJ] wd wr) (fun m _ => (intOf m).toNat)
    case atStart => exact ⟨j0, ⟨K, ph, nx⟩, ⟨⟨⟨.slice yco yvs.length ycc, .slice yuo K.m.f.used.length yuc, yvs⟩, .slice yeo K.m.ents.length yec⟩, .slice yro K.refuse.length yrc⟩, .slice vo cs.length vc, rfl, by omega, HR0.out, H1.out, BK.out, BJ.out, OK.out, OV.out, OF1.out, OF2.out, HAP.out, Touch.refl _ _⟩
    case round =>
      clear HR0 BK BJ OK OV OF1 OF2 HAP hb hbi
      obtain ⟨j, s, z, zv, rfl, hj, hr, hsz, bK, bJ, oK, oV, of1, of2, hap, ht⟩ := hrel
      obtain ⟨zco, zcc, zuo, zuc, zvs, zeo, zec, zro, zrc, rfl⟩ := oK.shapes
      obtain ⟨zvo, zvc, rfl, -, -⟩ := oV.shape
      obtain ⟨we, rfl⟩ : ∃ x, x = wr := ⟨_, rfl⟩
      have hze := ht.size
      have HTE := Lib.hid ht
      have HSZ := Lib.hid hsz
      have HRR := Lib.hid hr
      have BK := Lib.hid bK; have BJ := Lib.hid bJ; have OZ := Lib.hid oK; have OU := Lib.hid oV; have OF1 := Lib.hid of1; have OF2 := Lib.hid of2; have OAP := Lib.hid hap
      have BR2 := Lib.hid (BR.out.touch ht (fun hm => by simp only [List.mem_cons, List.not_mem_nil, or_false] at hm; omega))
      have BS2 := Lib.hid (BS.out.touch ht (fun hm => by simp only [List.mem_cons, List.not_mem_nil, or_false] at hm; omega))
      clear ht hsz hr bK bJ oK oV of1 of2 hap BR BS
      dsimp only at BK
      have kwe_2_0 := (BR2.out.cells 0 _ rfl).1; have fwe_2_0 := (BR2.out.cells 0 _ rfl).2; have kwe_2_1 := (BR2.out.cells 1 _ rfl).1; have fwe_2_1 := (BR2.out.cells 1 _ rfl).2; have kwe_2_2 := (BR2.out.cells 2 _ rfl).1; have fwe_2_2 := (BR2.out.cells 2 _ rfl).2; have kwe_2_3 := (BR2.out.cells 3 _ rfl).1; have fwe_2_3 := (BR2.out.cells 3 _ rfl).2; have kwe_2_4 := (BR2.out.cells 4 _ rfl).1; have fwe_2_4 := (BR2.out.cells 4 _ rfl).2; have kwe_3_0 := (BS2.out.cells 0 _ rfl).1; have fwe_3_0 := (BS2.out.cells 0 _ rfl).2; have kwe_3_1 := (BS2.out.cells 1 _ rfl).1; have fwe_3_1 := (BS2.out.cells 1 _ rfl).2; have kwe_3_2 := (BS2.out.cells 2 _ rfl).1; have fwe_3_2 := (BS2.out.cells 2 _ rfl).2; have kwe_3_3 := (BS2.out.cells 3 _ rfl).1; have fwe_3_3 := (BS2.out.cells 3 _ rfl).2; have kwe_3_4 := (BS2.out.cells 4 _ rfl).1; have fwe_3_4 := (BS2.out.cells 4 _ rfl).2; have kwe_gK_0 := (BK.out.cells 0 _ rfl).1; have fwe_gK_0 := (BK.out.cells 0 _ rfl).2; have kwe_gK_1 := (BK.out.cells 1 _ rfl).1; have fwe_gK_1 := (BK.out.cells 1 _ rfl).2; have kwe_gK_2 := (BK.out.cells 2 _ rfl).1; have fwe_gK_2 := (BK.out.cells 2 _ rfl).2; have kwe_gK_3 := (BK.out.cells 3 _ rfl).1; have fwe_gK_3 := (BK.out.cells 3 _ rfl).2; have kwe_gK_4 := (BK.out.cells 4 _ rfl).1; have fwe_gK_4 := (BK.out.cells 4 _ rfl).2; have kwe_gJ_0 := (BJ.out.cells 0 _ rfl).1; have fwe_gJ_0 := (BJ.out.cells 0 _ rfl).2; have kwe_gJ_1 := (BJ.out.cells 1 _ rfl).1; have fwe_gJ_1 := (BJ.out.cells 1 _ rfl).2; have kwe_gJ_2 := (BJ.out.cells 2 _ rfl).1; have fwe_gJ_2 := (BJ.out.cells 2 _ rfl).2; have kwe_gJ_3 := (BJ.out.cells 3 _ rfl).1; have fwe_gJ_3 := (BJ.out.cells 3 _ rfl).2; have kwe_gJ_4 := (BJ.out.cells 4 _ rfl).1; have fwe_gJ_4 := (BJ.out.cells 4 _ rfl).2
      have xwe_gK := BK.out.lt; have xwe_gJ := BJ.out.lt; have xwe_2 := BR2.out.lt; have xwe_3 := BS2.out.lt
      obtain ⟨k1, ph1, nx1⟩ := s
      dsimp only at *
      by_cases hj0 : j = 0
      · subst hj0
        have e : R = ⟨k1, ph1, nx1⟩ := HRR.out.symm
        subst e
        have BWE : Hid (Below w.heap.size w we) := Lib.hid (HBW.out.trans (HTE.out.toBelow (fun g hm => by simp only [List.mem_cons, List.not_mem_nil, or_false] at hm; omega) (by omega)))
        go_wp2_with (fail)
        go_region_held3 (fun w' => w'.cell? ⟨gK, 0, none⟩ = some (.slice zco zvs.length zcc) ∧ w'.cell? ⟨gK, 1, none⟩ = some (.slice zuo k1.m.f.used.length zuc) ∧ w'.cell? ⟨gK, 2, none⟩ = some (.slice zeo k1.m.ents.length zec) ∧ w'.cell? ⟨gK, 3, none⟩ = some (.int .i64 (k1.calls)) ∧ w'.cell? ⟨gK, 4, none⟩ = some (.slice zro k1.refuse.length zrc) ∧ w'.cell? ⟨gJ, 0, none⟩ = some (.int .i64 kp) ∧ w'.cell? ⟨gJ, 1, none⟩ = some (.int .i64 mv) ∧ w'.cell? ⟨gJ, 2, none⟩ = some ((.slice zvo cs.length zvc)) ∧ w'.cell? ⟨gJ, 3, none⟩ = some (.int .i64 ph1) ∧ w'.cell? ⟨gJ, 4, none⟩ = some (.int .i64 nx1)) ((refine ⟨?_, ?_, ?_, ?_, ?_, ?_, ?_, ?_, ?_, ?_⟩ <;> (go_simp; done))) (fail)
        all_goals go_wp2_with fail
        all_goals (refine bodyPost_ret (v := .tuple #[.agg #[.slice zco zvs.length zcc, .slice zuo k1.m.f.used.length zuc, .slice zeo k1.m.ents.length zec, .int .i64 (k1.calls), .slice zro k1.refuse.length zrc], .agg #[.int .i64 kp, .int .i64 mv, (.slice zvo cs.length zvc), .int .i64 ph1, .int .i64 nx1]]) (by simp [results, Try.results12, go_sem, kwe_2_0, fwe_2_0, kwe_2_1, fwe_2_1, kwe_2_2, fwe_2_2, kwe_2_3, fwe_2_3, kwe_2_4, fwe_2_4, kwe_3_0, fwe_3_0, kwe_3_1, fwe_3_1, kwe_3_2, fwe_3_2, kwe_3_3, fwe_3_3, kwe_3_4, fwe_3_4, kwe_gK_0, fwe_gK_0, kwe_gK_1, fwe_gK_1, kwe_gK_2, fwe_gK_2, kwe_gK_3, fwe_gK_3, kwe_gK_4, fwe_gK_4, kwe_gJ_0, fwe_gJ_0, kwe_gJ_1, fwe_gJ_1, kwe_gJ_2, fwe_gJ_2, kwe_gJ_3, fwe_gJ_3, kwe_gJ_4, fwe_gJ_4]) rfl ?_; refine ⟨⟨⟨⟨.slice zco zvs.length zcc, .slice zuo k1.m.f.used.length zuc, zvs⟩, .slice zeo k1.m.ents.length zec⟩, .slice zro k1.refuse.length zrc⟩, (.slice zvo cs.length zvc), rfl, ?_⟩; exact kj_fin (S := [w.heap.size + 1 + 1, w.heap.size + 1 + 1 + 1, gK, gJ]) (wl := we) OZ.out OU.out (by omega) (by omega) (by repeat (first | (with_reducible refine touch_setC ?_ (by simp)) | (with_reducible refine touch_drewT ?_) | (with_reducible exact Touch.refl _ _))) (fun g hg hm => by have h1 := (OZ.out.lts g hg).1; have k1 := OF1.out g hg; simp only [List.mem_cons, List.not_mem_nil, or_false] at hm; omega) (fun g hg hm => by have h1 := (Own.lts OU.out g hg).1; have k1 := OF2.out g hg; simp only [List.mem_cons, List.not_mem_nil, or_false] at hm; omega) OAP.out BWE.out (fun g hm => by simp only [List.mem_cons, List.not_mem_nil, or_false] at hm; omega))
      obtain ⟨j, rfl⟩ : ∃ n, j = n + 1 := ⟨j - 1, by omega⟩
      have hjp : (0 : Int) < ((j + 1 : Nat) : Int) := by omega
      have hjm : ((j + 1 : Nat) : Int) - 1 = (j : Nat) := by omega
      cases ho : overB ph1
      rotate_left
      · have e : R = ⟨k1, ph1, nx1⟩ := by rw [← HRR.out]; exact runJ_over (s := ⟨k1, ph1, nx1⟩) _ ho
        subst e
        have BWE : Hid (Below w.heap.size w we) := Lib.hid (HBW.out.trans (HTE.out.toBelow (fun g hm => by simp only [List.mem_cons, List.not_mem_nil, or_false] at hm; omega) (by omega)))
        have ho2 : ph1 = 4 ∨ ph1 = 5 := by unfold overB at ho; simpa using ho
        rcases ho2 with rfl | rfl
        · go_wp2_with (fail)
          go_region_held3 (fun w' => w'.cell? ⟨gK, 0, none⟩ = some (.slice zco zvs.length zcc) ∧ w'.cell? ⟨gK, 1, none⟩ = some (.slice zuo k1.m.f.used.length zuc) ∧ w'.cell? ⟨gK, 2, none⟩ = some (.slice zeo k1.m.ents.length zec) ∧ w'.cell? ⟨gK, 3, none⟩ = some (.int .i64 (k1.calls)) ∧ w'.cell? ⟨gK, 4, none⟩ = some (.slice zro k1.refuse.length zrc) ∧ w'.cell? ⟨gJ, 0, none⟩ = some (.int .i64 kp) ∧ w'.cell? ⟨gJ, 1, none⟩ = some (.int .i64 mv) ∧ w'.cell? ⟨gJ, 2, none⟩ = some ((.slice zvo cs.length zvc)) ∧ w'.cell? ⟨gJ, 3, none⟩ = some (.int .i64 4) ∧ w'.cell? ⟨gJ, 4, none⟩ = some (.int .i64 nx1)) ((refine ⟨?_, ?_, ?_, ?_, ?_, ?_, ?_, ?_, ?_, ?_⟩ <;> (go_simp; done))) (fail)
          all_goals go_wp2_with fail
          all_goals (refine bodyPost_ret (v := .tuple #[.agg #[.slice zco zvs.length zcc, .slice zuo k1.m.f.used.length zuc, .slice zeo k1.m.ents.length zec, .int .i64 (k1.calls), .slice zro k1.refuse.length zrc], .agg #[.int .i64 kp, .int .i64 mv, (.slice zvo cs.length zvc), .int .i64 4, .int .i64 nx1]]) (by simp [results, Try.results12, go_sem, kwe_2_0, fwe_2_0, kwe_2_1, fwe_2_1, kwe_2_2, fwe_2_2, kwe_2_3, fwe_2_3, kwe_2_4, fwe_2_4, kwe_3_0, fwe_3_0, kwe_3_1, fwe_3_1, kwe_3_2, fwe_3_2, kwe_3_3, fwe_3_3, kwe_3_4, fwe_3_4, kwe_gK_0, fwe_gK_0, kwe_gK_1, fwe_gK_1, kwe_gK_2, fwe_gK_2, kwe_gK_3, fwe_gK_3, kwe_gK_4, fwe_gK_4, kwe_gJ_0, fwe_gJ_0, kwe_gJ_1, fwe_gJ_1, kwe_gJ_2, fwe_gJ_2, kwe_gJ_3, fwe_gJ_3, kwe_gJ_4, fwe_gJ_4]) rfl ?_; refine ⟨⟨⟨⟨.slice zco zvs.length zcc, .slice zuo k1.m.f.used.length zuc, zvs⟩, .slice zeo k1.m.ents.length zec⟩, .slice zro k1.refuse.length zrc⟩, (.slice zvo cs.length zvc), rfl, ?_⟩; exact kj_fin (S := [w.heap.size + 1 + 1, w.heap.size + 1 + 1 + 1, gK, gJ]) (wl := we) OZ.out OU.out (by omega) (by omega) (by repeat (first | (with_reducible refine touch_setC ?_ (by simp)) | (with_reducible refine touch_drewT ?_) | (with_reducible exact Touch.refl _ _))) (fun g hg hm => by have h1 := (OZ.out.lts g hg).1; have k1 := OF1.out g hg; simp only [List.mem_cons, List.not_mem_nil, or_false] at hm; omega) (fun g hg hm => by have h1 := (Own.lts OU.out g hg).1; have k1 := OF2.out g hg; simp only [List.mem_cons, List.not_mem_nil, or_false] at hm; omega) OAP.out BWE.out (fun g hm => by simp only [List.mem_cons, List.not_mem_nil, or_false] at hm; omega))
        · go_wp2_with (fail)
          go_region_held3 (fun w' => w'.cell? ⟨gK, 0, none⟩ = some (.slice zco zvs.length zcc) ∧ w'.cell? ⟨gK, 1, none⟩ = some (.slice zuo k1.m.f.used.length zuc) ∧ w'.cell? ⟨gK, 2, none⟩ = some (.slice zeo k1.m.ents.length zec) ∧ w'.cell? ⟨gK, 3, none⟩ = some (.int .i64 (k1.calls)) ∧ w'.cell? ⟨gK, 4, none⟩ = some (.slice zro k1.refuse.length zrc) ∧ w'.cell? ⟨gJ, 0, none⟩ = some (.int .i64 kp) ∧ w'.cell? ⟨gJ, 1, none⟩ = some (.int .i64 mv) ∧ w'.cell? ⟨gJ, 2, none⟩ = some ((.slice zvo cs.length zvc)) ∧ w'.cell? ⟨gJ, 3, none⟩ = some (.int .i64 5) ∧ w'.cell? ⟨gJ, 4, none⟩ = some (.int .i64 nx1)) ((refine ⟨?_, ?_, ?_, ?_, ?_, ?_, ?_, ?_, ?_, ?_⟩ <;> (go_simp; done))) (fail)
          all_goals go_wp2_with fail
          all_goals (refine bodyPost_ret (v := .tuple #[.agg #[.slice zco zvs.length zcc, .slice zuo k1.m.f.used.length zuc, .slice zeo k1.m.ents.length zec, .int .i64 (k1.calls), .slice zro k1.refuse.length zrc], .agg #[.int .i64 kp, .int .i64 mv, (.slice zvo cs.length zvc), .int .i64 5, .int .i64 nx1]]) (by simp [results, Try.results12, go_sem, kwe_2_0, fwe_2_0, kwe_2_1, fwe_2_1, kwe_2_2, fwe_2_2, kwe_2_3, fwe_2_3, kwe_2_4, fwe_2_4, kwe_3_0, fwe_3_0, kwe_3_1, fwe_3_1, kwe_3_2, fwe_3_2, kwe_3_3, fwe_3_3, kwe_3_4, fwe_3_4, kwe_gK_0, fwe_gK_0, kwe_gK_1, fwe_gK_1, kwe_gK_2, fwe_gK_2, kwe_gK_3, fwe_gK_3, kwe_gK_4, fwe_gK_4, kwe_gJ_0, fwe_gJ_0, kwe_gJ_1, fwe_gJ_1, kwe_gJ_2, fwe_gJ_2, kwe_gJ_3, fwe_gJ_3, kwe_gJ_4, fwe_gJ_4]) rfl ?_; refine ⟨⟨⟨⟨.slice zco zvs.length zcc, .slice zuo k1.m.f.used.length zuc, zvs⟩, .slice zeo k1.m.ents.length zec⟩, .slice zro k1.refuse.length zrc⟩, (.slice zvo cs.length zvc), rfl, ?_⟩; exact kj_fin (S := [w.heap.size + 1 + 1, w.heap.size + 1 + 1 + 1, gK, gJ]) (wl := we) OZ.out OU.out (by omega) (by omega) (by repeat (first | (with_reducible refine touch_setC ?_ (by simp)) | (with_reducible refine touch_drewT ?_) | (with_reducible exact Touch.refl _ _))) (fun g hg hm => by have h1 := (OZ.out.lts g hg).1; have k1 := OF1.out g hg; simp only [List.mem_cons, List.not_mem_nil, or_false] at hm; omega) (fun g hg hm => by have h1 := (Own.lts OU.out g hg).1; have k1 := OF2.out g hg; simp only [List.mem_cons, List.not_mem_nil, or_false] at hm; omega) OAP.out BWE.out (fun g hm => by simp only [List.mem_cons, List.not_mem_nil, or_false] at hm; omega))
      have ho2 : ¬ ph1 = 4 ∧ ¬ ph1 = 5 := by unfold overB at ho; simpa using ho
      obtain ⟨ho4, ho5⟩ := ho2
      have ho4b : (ph1 == 4) = false := by simpa using ho4
      have ho5b : (ph1 == 5) = false := by simpa using ho5
      have ho4c : (ph1 != 4) = true := by simpa using ho4
      have ho5c : (ph1 != 5) = true := by simpa using ho5
      have hr2 := runJ_next (kp := kp) (mv := mv) (cs := cs) (s := ⟨k1, ph1, nx1⟩) j ho
      have hsz2 := szK_job k1 kp mv cs ph1 nx1
      rw [HRR.out] at hr2
      unfold jsStep at hr2
      dsimp only at hr2
      have cp := fun W (h1 : KAt W ⟨⟨⟨.slice zco zvs.length zcc, .slice zuo k1.m.f.used.length zuc, zvs⟩, .slice zeo k1.m.ents.length zec⟩, .slice zro k1.refuse.length zrc⟩ k1) (h2 : IntsAt W (.slice zvo cs.length zvc) cs) => i_JobStep ⟨⟨⟨.slice zco zvs.length zcc, .slice zuo k1.m.f.used.length zuc, zvs⟩, .slice zeo k1.m.ents.length zec⟩, .slice zro k1.refuse.length zrc⟩ k1 kp mv (.slice zvo cs.length zvc) cs ph1 nx1 HSZ.out H3.out W h1 h2
      simp only [KV.val] at cp
      generalize jobK k1 kp mv cs ph1 nx1 = K2 at cp hr2 hsz2
      generalize jobPh k1 kp mv cs ph1 nx1 = ph2 at cp hr2
      generalize jobNx k1 kp mv cs ph1 nx1 = nx2 at cp hr2
      have HR2 := Lib.hid hr2.symm
      have HS2 : Hid (szK K2 ≤ 1048576) := Lib.hid (by rw [hsz2]; exact HSZ.out)
      have CP := Lib.hid cp
      clear cp hr2 hsz2 ho HRR HSZ
      skip
      go_wp2_with ((go_at_call 40; (refine (CP.out _ OZ.out.at (OU.out.at lenInt)).mono ?_; rintro e w2 ⟨x, u, rfl, hxo, hu, hxu, hb⟩; obtain ⟨xco, xcc, xuo, xuc, xvs, xeo, xec, xro, xrc, rfl⟩ := hxo.shapes; obtain ⟨uo2, uc2, rfl, -, -⟩ := hu.shape; have OX := Lib.hid hxo; have OX2 := Lib.hid hu; have AX := Lib.hid hxu; have HBX := Lib.hid hb; obtain ⟨kwf_2_0, fwf_2_0, kwf_2_1, fwf_2_1, kwf_2_2, fwf_2_2, kwf_2_3, fwf_2_3, kwf_2_4, fwf_2_4⟩ := kf5 hb (w.heap.size + 1 + 1) (.slice none 0 0) (.slice none 0 0) (.slice none 0 0) (.int .i64 0) (.slice none 0 0); obtain ⟨kwf_3_0, fwf_3_0, kwf_3_1, fwf_3_1, kwf_3_2, fwf_3_2, kwf_3_3, fwf_3_3, kwf_3_4, fwf_3_4⟩ := kf5 hb (w.heap.size + 1 + 1 + 1) (.int .i64 0) (.int .i64 0) (.slice none 0 0) (.int .i64 0) (.int .i64 0); obtain ⟨kwf_gK_0, fwf_gK_0, kwf_gK_1, fwf_gK_1, kwf_gK_2, fwf_gK_2, kwf_gK_3, fwf_gK_3, kwf_gK_4, fwf_gK_4⟩ := kf5 hb (gK) (.slice zco zvs.length zcc) (.slice zuo k1.m.f.used.length zuc) (.slice zeo k1.m.ents.length zec) (.int .i64 (k1.calls)) (.slice zro k1.refuse.length zrc); obtain ⟨kwf_gJ_0, fwf_gJ_0, kwf_gJ_1, fwf_gJ_1, kwf_gJ_2, fwf_gJ_2, kwf_gJ_3, fwf_gJ_3, kwf_gJ_4, fwf_gJ_4⟩ := kf5 hb (gJ) (.int .i64 kp) (.int .i64 mv) ((.slice zvo cs.length zvc)) (.int .i64 ph1) (.int .i64 nx1); have xwf_2 : w.heap.size + 1 + 1 < w2.heap.size := xc hb; have xwf_3 : w.heap.size + 1 + 1 + 1 < w2.heap.size := xc hb; have xwf_gK : gK < w2.heap.size := xc hb; have xwf_gJ : gJ < w2.heap.size := xc hb; have hzwf := hb.size; (try simp only [World.size_alloc, World.size_setCell, World.size_drew] at hzwf); clear hxo hu hxu; simp only [KV.val]; obtain ⟨wf, rfl⟩ : ∃ x, x = w2 := ⟨_, rfl⟩)))
      have HT9 := Lib.hid (show Touch [gK, gJ] wf (((((((((((wf.setCell ⟨gK, 0, none⟩ (.slice xco xvs.length xcc)).setCell ⟨gK, 1, none⟩ (.slice xuo K2.m.f.used.length xuc)).setCell ⟨gK, 2, none⟩ (.slice xeo K2.m.ents.length xec)).setCell ⟨gK, 3, none⟩ (.int .i64 (K2.calls))).setCell ⟨gK, 4, none⟩ (.slice xro K2.refuse.length xrc)).setCell ⟨gJ, 0, none⟩ (.int .i64 kp)).setCell ⟨gJ, 1, none⟩ (.int .i64 mv)).setCell ⟨gJ, 2, none⟩ ((.slice uo2 cs.length uc2))).setCell ⟨gJ, 3, none⟩ (.int .i64 ph2)).setCell ⟨gJ, 4, none⟩ (.int .i64 nx2))) from (by repeat (first | (with_reducible refine touch_setC ?_ (by simp)) | (with_reducible exact Touch.refl _ _))))
      go_roundw
      case rel =>
        refine ⟨j, ⟨K2, ph2, nx2⟩, ⟨⟨⟨.slice xco xvs.length xcc, .slice xuo K2.m.f.used.length xuc, xvs⟩, .slice xeo K2.m.ents.length xec⟩, .slice xro K2.refuse.length xrc⟩, (.slice uo2 cs.length uc2), by go_num, by omega, HR2.out, HS2.out, (BoxAt.snoc (BoxAt.snoc (BoxAt.snoc (BoxAt.snoc (BoxAt.snoc (BoxAt.nil (w := _) (g := gK) (by exact zo)) (v := .slice xco xvs.length xcc) (i := 0) rfl (by go_simp) (by go_simp)) (v := .slice xuo K2.m.f.used.length xuc) (i := 1) rfl (by go_simp) (by go_simp)) (v := .slice xeo K2.m.ents.length xec) (i := 2) rfl (by go_simp) (by go_simp)) (v := .int .i64 (K2.calls)) (i := 3) rfl (by go_simp) (by go_simp)) (v := .slice xro K2.refuse.length xrc) (i := 4) rfl (by go_simp) (by go_simp)), (BoxAt.snoc (BoxAt.snoc (BoxAt.snoc (BoxAt.snoc (BoxAt.snoc (BoxAt.nil (w := _) (g := gJ) (by exact zo)) (v := .int .i64 kp) (i := 0) rfl (by go_simp) (by go_simp)) (v := .int .i64 mv) (i := 1) rfl (by go_simp) (by go_simp)) (v := (.slice uo2 cs.length uc2)) (i := 2) rfl (by go_simp) (by go_simp)) (v := .int .i64 ph2) (i := 3) rfl (by go_simp) (by go_simp)) (v := .int .i64 nx2) (i := 4) rfl (by go_simp) (by go_simp)), ?_, ?_, ?_, ?_, AX.out, ?_⟩
        · exact (OX.out.touch HT9.out (fun g hg hm => by have h1 := (OX.out.lts g hg).1; simp only [List.mem_cons, List.not_mem_nil, or_false] at hm; omega)).mono (by omega)
        · exact (Own.touchs OX2.out HT9.out (fun g hg hm => by have h1 := (Own.lts OX2.out g hg).1; simp only [List.mem_cons, List.not_mem_nil, or_false] at hm; omega)).mono (by omega)
        · intro b hb; have h1 := (OX.out.lts b hb).1; omega
        · intro b hb; have h1 := (Own.lts OX2.out b hb).1; omega
        · exact HTE.out.trans ((touch_of_below HBX.out _).trans HT9.out)
      case measure => first | (simp [intOf]; done) | (simp [intOf]; omega)

end Go.Proofs.Ytkkebpcclklmcaa
