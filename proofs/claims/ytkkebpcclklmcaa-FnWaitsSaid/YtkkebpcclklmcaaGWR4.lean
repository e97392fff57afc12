/-
  Texts put together: IlvI.
-/
import Derived.Test.YtkkebpcclklmcaaGWR3
import Derived.Test.YtkkebpcclklmcaaGB26
/-
  Jobs and writers in turn: the implementation.
-/
set_option linter.unusedVariables false
set_option linter.unusedSimpArgs false
namespace Go.Proofs.Ytkkebpcclklmcaa
open Go.RowKit
set_option maxRecDepth 20000 in
set_option maxHeartbeats 25600000 in
theorem i_Interleave (x : KV) (K : Ker) (kp mv : Int) (v : Value) (cs : List Int) (ph nx : Int) (u : Value) (xs : List Wr) (vr : Value) (order : List Int) (hs : szK K ≤ 1048576) (hc : cs.length ≤ 1048576) (hx : xs.length ≤ 1048576) (had : AdOk xs) (w : World) (ha : KAt w x K) (hv : IntsAt w v cs) (hu : WrAt w u xs) (hr : IntsAt w vr order) : Calls Try.prog 29 #[x.val K.calls, .agg #[.int .i64 kp, .int .i64 mv, v, .int .i64 ph, .int .i64 nx], u, vr] w (NewKJW w (interl kp mv cs order ⟨⟨K, ph, nx⟩, xs⟩) kp mv cs) := by
  obtain ⟨⟨⟨xz, xu, xvs⟩, xe⟩, xr⟩ := x
  obtain ⟨ao, ca, rfl, hl1, hl2⟩ := hv.shape
  obtain ⟨uao, uca, rfl, hl3, hl4⟩ := hu.shape
  obtain ⟨oao, oca, rfl, hl5, hl6, hrd⟩ := IntsAt.open hr
  have hom : order.length ≤ 9223372036854775807 := by unfold maxLen at hl6; omega
  have HK := Lib.hid ha
  have HV := Lib.hid hv
  have HU := Lib.hid hu
  have HR := Lib.hid hrd
  have H1 := Lib.hid hs
  have H3 := Lib.hid hc
  have H4 := Lib.hid hx
  have HAD := Lib.hid had
  have hxm : xs.length ≤ 9223372036854775807 := by omega
  simp only [KV.val]
  obtain ⟨TE, hTE⟩ : ∃ T, interl kp mv cs order ⟨⟨K, ph, nx⟩, xs⟩ = T := ⟨_, rfl⟩
  rw [hTE]
  have HTE := Lib.hid hTE
  clear ha hs hv hl1 hl2 hu hl3 hl4 hl5 hl6 hr hrd hc hx had hTE
  (have hall := all_nil w; go_enter Try.func29, Try.ntmps29)
  go_upto_region 1 with fail
  have BP : Hid (BoxAt (((((w.alloc (.cells #[xz, xu, xe, .int .i64 K.calls, xr] 35)).alloc (.cells #[.int .i64 kp, .int .i64 mv, .slice ao cs.length ca, .int .i64 ph, .int .i64 nx] 42)).alloc (.cells #[.slice none 0 0, .slice none 0 0, .slice none 0 0, .int .i64 0, .slice none 0 0] 35)).alloc (.cells #[.int .i64 0, .int .i64 0, .slice none 0 0, .int .i64 0, .int .i64 0] 42)).drew) (w.heap.size) [xz, xu, xe, .int .i64 K.calls, xr]) := Lib.hid (BoxAt.snoc (BoxAt.snoc (BoxAt.snoc (BoxAt.snoc (BoxAt.snoc (BoxAt.nil (w := (((((w.alloc (.cells #[xz, xu, xe, .int .i64 K.calls, xr] 35)).alloc (.cells #[.int .i64 kp, .int .i64 mv, .slice ao cs.length ca, .int .i64 ph, .int .i64 nx] 42)).alloc (.cells #[.slice none 0 0, .slice none 0 0, .slice none 0 0, .int .i64 0, .slice none 0 0] 35)).alloc (.cells #[.int .i64 0, .int .i64 0, .slice none 0 0, .int .i64 0, .int .i64 0] 42)).drew)) (g := w.heap.size) (by go_simp)) (v := xz) (i := 0) rfl (by go_simp) (by go_simp)) (v := xu) (i := 1) rfl (by go_simp) (by go_simp)) (v := xe) (i := 2) rfl (by go_simp) (by go_simp)) (v := .int .i64 K.calls) (i := 3) rfl (by go_simp) (by go_simp)) (v := xr) (i := 4) rfl (by go_simp) (by go_simp))
  have BQ : Hid (BoxAt (((((w.alloc (.cells #[xz, xu, xe, .int .i64 K.calls, xr] 35)).alloc (.cells #[.int .i64 kp, .int .i64 mv, .slice ao cs.length ca, .int .i64 ph, .int .i64 nx] 42)).alloc (.cells #[.slice none 0 0, .slice none 0 0, .slice none 0 0, .int .i64 0, .slice none 0 0] 35)).alloc (.cells #[.int .i64 0, .int .i64 0, .slice none 0 0, .int .i64 0, .int .i64 0] 42)).drew) (w.heap.size + 1) [.int .i64 kp, .int .i64 mv, .slice ao cs.length ca, .int .i64 ph, .int .i64 nx]) := Lib.hid (BoxAt.snoc (BoxAt.snoc (BoxAt.snoc (BoxAt.snoc (BoxAt.snoc (BoxAt.nil (w := (((((w.alloc (.cells #[xz, xu, xe, .int .i64 K.calls, xr] 35)).alloc (.cells #[.int .i64 kp, .int .i64 mv, .slice ao cs.length ca, .int .i64 ph, .int .i64 nx] 42)).alloc (.cells #[.slice none 0 0, .slice none 0 0, .slice none 0 0, .int .i64 0, .slice none 0 0] 35)).alloc (.cells #[.int .i64 0, .int .i64 0, .slice none 0 0, .int .i64 0, .int .i64 0] 42)).drew)) (g := w.heap.size + 1) (by go_simp)) (v := .int .i64 kp) (i := 0) rfl (by go_simp) (by go_simp)) (v := .int .i64 mv) (i := 1) rfl (by go_simp) (by go_simp)) (v := .slice ao cs.length ca) (i := 2) rfl (by go_simp) (by go_simp)) (v := .int .i64 ph) (i := 3) rfl (by go_simp) (by go_simp)) (v := .int .i64 nx) (i := 4) rfl (by go_simp) (by go_simp))
  have BR : Hid (BoxAt (((((w.alloc (.cells #[xz, xu, xe, .int .i64 K.calls, xr] 35)).alloc (.cells #[.int .i64 kp, .int .i64 mv, .slice ao cs.length ca, .int .i64 ph, .int .i64 nx] 42)).alloc (.cells #[.slice none 0 0, .slice none 0 0, .slice none 0 0, .int .i64 0, .slice none 0 0] 35)).alloc (.cells #[.int .i64 0, .int .i64 0, .slice none 0 0, .int .i64 0, .int .i64 0] 42)).drew) (w.heap.size + 1 + 1) [.slice none 0 0, .slice none 0 0, .slice none 0 0, .int .i64 0, .slice none 0 0]) := Lib.hid (BoxAt.snoc (BoxAt.snoc (BoxAt.snoc (BoxAt.snoc (BoxAt.snoc (BoxAt.nil (w := (((((w.alloc (.cells #[xz, xu, xe, .int .i64 K.calls, xr] 35)).alloc (.cells #[.int .i64 kp, .int .i64 mv, .slice ao cs.length ca, .int .i64 ph, .int .i64 nx] 42)).alloc (.cells #[.slice none 0 0, .slice none 0 0, .slice none 0 0, .int .i64 0, .slice none 0 0] 35)).alloc (.cells #[.int .i64 0, .int .i64 0, .slice none 0 0, .int .i64 0, .int .i64 0] 42)).drew)) (g := w.heap.size + 1 + 1) (by go_simp)) (v := .slice none 0 0) (i := 0) rfl (by go_simp) (by go_simp)) (v := .slice none 0 0) (i := 1) rfl (by go_simp) (by go_simp)) (v := .slice none 0 0) (i := 2) rfl (by go_simp) (by go_simp)) (v := .int .i64 0) (i := 3) rfl (by go_simp) (by go_simp)) (v := .slice none 0 0) (i := 4) rfl (by go_simp) (by go_simp))
  have BS : Hid (BoxAt (((((w.alloc (.cells #[xz, xu, xe, .int .i64 K.calls, xr] 35)).alloc (.cells #[.int .i64 kp, .int .i64 mv, .slice ao cs.length ca, .int .i64 ph, .int .i64 nx] 42)).alloc (.cells #[.slice none 0 0, .slice none 0 0, .slice none 0 0, .int .i64 0, .slice none 0 0] 35)).alloc (.cells #[.int .i64 0, .int .i64 0, .slice none 0 0, .int .i64 0, .int .i64 0] 42)).drew) (w.heap.size + 1 + 1 + 1) [.int .i64 0, .int .i64 0, .slice none 0 0, .int .i64 0, .int .i64 0]) := Lib.hid (BoxAt.snoc (BoxAt.snoc (BoxAt.snoc (BoxAt.snoc (BoxAt.snoc (BoxAt.nil (w := (((((w.alloc (.cells #[xz, xu, xe, .int .i64 K.calls, xr] 35)).alloc (.cells #[.int .i64 kp, .int .i64 mv, .slice ao cs.length ca, .int .i64 ph, .int .i64 nx] 42)).alloc (.cells #[.slice none 0 0, .slice none 0 0, .slice none 0 0, .int .i64 0, .slice none 0 0] 35)).alloc (.cells #[.int .i64 0, .int .i64 0, .slice none 0 0, .int .i64 0, .int .i64 0] 42)).drew)) (g := w.heap.size + 1 + 1 + 1) (by go_simp)) (v := .int .i64 0) (i := 0) rfl (by go_simp) (by go_simp)) (v := .int .i64 0) (i := 1) rfl (by go_simp) (by go_simp)) (v := .slice none 0 0) (i := 2) rfl (by go_simp) (by go_simp)) (v := .int .i64 0) (i := 3) rfl (by go_simp) (by go_simp)) (v := .int .i64 0) (i := 4) rfl (by go_simp) (by go_simp))
  go_cut [11, 12, 13] (fun ss11 ss12 ss13 wx => ∃ yco ycc yuo yuc yvs yeo yec yro yrc vo vc uo uc gK gJ, ss11 = .pointer (some ⟨gK, 0, none⟩) ∧ ss12 = .pointer (some ⟨gJ, 0, none⟩) ∧ ss13 = .slice uo xs.length uc ∧ BoxAt wx gK [.slice yco yvs.length ycc, .slice yuo K.m.f.used.length yuc, .slice yeo K.m.ents.length yec, .int .i64 (K.calls), .slice yro K.refuse.length yrc] ∧ BoxAt wx gJ [.int .i64 kp, .int .i64 mv, .slice vo cs.length vc, .int .i64 ph, .int .i64 nx] ∧ KOwn (w.heap.size + 1 + 1 + 1 + 1) wx ⟨⟨⟨.slice yco yvs.length ycc, .slice yuo K.m.f.used.length yuc, yvs⟩, .slice yeo K.m.ents.length yec⟩, .slice yro K.refuse.length yrc⟩ K ∧ OwnI (w.heap.size + 1 + 1 + 1 + 1) wx (.slice vo cs.length vc) cs ∧ OwnWr (w.heap.size + 1 + 1 + 1 + 1) wx (.slice uo xs.length uc) xs ∧ gK ∉ blocks (KV.all ⟨⟨⟨.slice yco yvs.length ycc, .slice yuo K.m.f.used.length yuc, yvs⟩, .slice yeo K.m.ents.length yec⟩, .slice yro K.refuse.length yrc⟩) ∧ gK ∉ blocks ([.slice vo cs.length vc]) ∧ gK ∉ blocks ([.slice uo xs.length uc]) ∧ gJ ∉ blocks (KV.all ⟨⟨⟨.slice yco yvs.length ycc, .slice yuo K.m.f.used.length yuc, yvs⟩, .slice yeo K.m.ents.length yec⟩, .slice yro K.refuse.length yrc⟩) ∧ gJ ∉ blocks ([.slice vo cs.length vc]) ∧ gJ ∉ blocks ([.slice uo xs.length uc]) ∧ gK ≠ gJ ∧ (∀ g ∈ blocks (KV.all ⟨⟨⟨.slice yco yvs.length ycc, .slice yuo K.m.f.used.length yuc, yvs⟩, .slice yeo K.m.ents.length yec⟩, .slice yro K.refuse.length yrc⟩), g ∉ blocks ([.slice vo cs.length vc])) ∧ (∀ g ∈ blocks (KV.all ⟨⟨⟨.slice yco yvs.length ycc, .slice yuo K.m.f.used.length yuc, yvs⟩, .slice yeo K.m.ents.length yec⟩, .slice yro K.refuse.length yrc⟩), g ∉ blocks ([.slice uo xs.length uc])) ∧ (∀ g ∈ blocks ([.slice vo cs.length vc]), g ∉ blocks ([.slice uo xs.length uc])) ∧ w.heap.size + 1 + 1 + 1 + 1 ≤ gK ∧ w.heap.size + 1 + 1 + 1 + 1 ≤ gJ ∧ Below (((((w.alloc (.cells #[xz, xu, xe, .int .i64 K.calls, xr] 35)).alloc (.cells #[.int .i64 kp, .int .i64 mv, .slice ao cs.length ca, .int .i64 ph, .int .i64 nx] 42)).alloc (.cells #[.slice none 0 0, .slice none 0 0, .slice none 0 0, .int .i64 0, .slice none 0 0] 35)).alloc (.cells #[.int .i64 0, .int .i64 0, .slice none 0 0, .int .i64 0, .int .i64 0] 42)).drew).heap.size (((((w.alloc (.cells #[xz, xu, xe, .int .i64 K.calls, xr] 35)).alloc (.cells #[.int .i64 kp, .int .i64 mv, .slice ao cs.length ca, .int .i64 ph, .int .i64 nx] 42)).alloc (.cells #[.slice none 0 0, .slice none 0 0, .slice none 0 0, .int .i64 0, .slice none 0 0] 35)).alloc (.cells #[.int .i64 0, .int .i64 0, .slice none 0 0, .int .i64 0, .int .i64 0] 42)).drew) wx)
  case first =>
    refine wp_gen (fun a0 ha0 => ?_)
    have hsz : a0.tmps.size = 65 := by rw [ha0]; rfl
    have hps : (((((w.alloc (.cells #[xz, xu, xe, .int .i64 K.calls, xr] 35)).alloc (.cells #[.int .i64 kp, .int .i64 mv, .slice ao cs.length ca, .int .i64 ph, .int .i64 nx] 42)).alloc (.cells #[.slice none 0 0, .slice none 0 0, .slice none 0 0, .int .i64 0, .slice none 0 0] 35)).alloc (.cells #[.int .i64 0, .int .i64 0, .slice none 0 0, .int .i64 0, .int .i64 0] 42)).drew).heap.size = w.heap.size + 1 + 1 + 1 + 1 := by first | rfl | simp only [World.size_alloc, World.size_drew]
    have X4 : ∀ u, (frAll a0 [16, 17, 18, 19, 20, 21, 11, 12, 13] u).tmps.getD 4 undef = .pointer (some ⟨w.heap.size, 0, none⟩) := fun u => (frAll_other (by decide)).trans (by rw [ha0]; rfl)
    have X5 : ∀ u, (frAll a0 [16, 17, 18, 19, 20, 21, 11, 12, 13] u).tmps.getD 5 undef = .pointer (some ⟨w.heap.size + 1, 0, none⟩) := fun u => (frAll_other (by decide)).trans (by rw [ha0]; rfl)
    have X2 : ∀ u, (frAll a0 [16, 17, 18, 19, 20, 21, 11, 12, 13] u).tmps.getD 2 undef = .slice uao xs.length uca := fun u => (frAll_other (by decide)).trans (by rw [ha0]; rfl)
    have E16 : ∀ u, (frAll a0 [16, 17, 18, 19, 20, 21, 11, 12, 13] u).tmps.getD 16 undef = u 16 := fun u => frAll_eval (by decide) (by rw [hsz]; decide)
    have P16 : ∀ u v, (frAll a0 [16, 17, 18, 19, 20, 21, 11, 12, 13] u).put (some 16) v = frAll a0 [16, 17, 18, 19, 20, 21, 11, 12, 13] (frUpd u 16 v) := fun u v => frAll_put v (by decide)
    have E17 : ∀ u, (frAll a0 [16, 17, 18, 19, 20, 21, 11, 12, 13] u).tmps.getD 17 undef = u 17 := fun u => frAll_eval (by decide) (by rw [hsz]; decide)
    have P17 : ∀ u v, (frAll a0 [16, 17, 18, 19, 20, 21, 11, 12, 13] u).put (some 17) v = frAll a0 [16, 17, 18, 19, 20, 21, 11, 12, 13] (frUpd u 17 v) := fun u v => frAll_put v (by decide)
    have E18 : ∀ u, (frAll a0 [16, 17, 18, 19, 20, 21, 11, 12, 13] u).tmps.getD 18 undef = u 18 := fun u => frAll_eval (by decide) (by rw [hsz]; decide)
    have P18 : ∀ u v, (frAll a0 [16, 17, 18, 19, 20, 21, 11, 12, 13] u).put (some 18) v = frAll a0 [16, 17, 18, 19, 20, 21, 11, 12, 13] (frUpd u 18 v) := fun u v => frAll_put v (by decide)
    have E19 : ∀ u, (frAll a0 [16, 17, 18, 19, 20, 21, 11, 12, 13] u).tmps.getD 19 undef = u 19 := fun u => frAll_eval (by decide) (by rw [hsz]; decide)
    have P19 : ∀ u v, (frAll a0 [16, 17, 18, 19, 20, 21, 11, 12, 13] u).put (some 19) v = frAll a0 [16, 17, 18, 19, 20, 21, 11, 12, 13] (frUpd u 19 v) := fun u v => frAll_put v (by decide)
    have E20 : ∀ u, (frAll a0 [16, 17, 18, 19, 20, 21, 11, 12, 13] u).tmps.getD 20 undef = u 20 := fun u => frAll_eval (by decide) (by rw [hsz]; decide)
    have P20 : ∀ u v, (frAll a0 [16, 17, 18, 19, 20, 21, 11, 12, 13] u).put (some 20) v = frAll a0 [16, 17, 18, 19, 20, 21, 11, 12, 13] (frUpd u 20 v) := fun u v => frAll_put v (by decide)
    have E21 : ∀ u, (frAll a0 [16, 17, 18, 19, 20, 21, 11, 12, 13] u).tmps.getD 21 undef = u 21 := fun u => frAll_eval (by decide) (by rw [hsz]; decide)
    have P21 : ∀ u v, (frAll a0 [16, 17, 18, 19, 20, 21, 11, 12, 13] u).put (some 21) v = frAll a0 [16, 17, 18, 19, 20, 21, 11, 12, 13] (frUpd u 21 v) := fun u v => frAll_put v (by decide)
    have E11 : ∀ u, (frAll a0 [16, 17, 18, 19, 20, 21, 11, 12, 13] u).tmps.getD 11 undef = u 11 := fun u => frAll_eval (by decide) (by rw [hsz]; decide)
    have P11 : ∀ u v, (frAll a0 [16, 17, 18, 19, 20, 21, 11, 12, 13] u).put (some 11) v = frAll a0 [16, 17, 18, 19, 20, 21, 11, 12, 13] (frUpd u 11 v) := fun u v => frAll_put v (by decide)
    have E12 : ∀ u, (frAll a0 [16, 17, 18, 19, 20, 21, 11, 12, 13] u).tmps.getD 12 undef = u 12 := fun u => frAll_eval (by decide) (by rw [hsz]; decide)
    have P12 : ∀ u v, (frAll a0 [16, 17, 18, 19, 20, 21, 11, 12, 13] u).put (some 12) v = frAll a0 [16, 17, 18, 19, 20, 21, 11, 12, 13] (frUpd u 12 v) := fun u v => frAll_put v (by decide)
    have E13 : ∀ u, (frAll a0 [16, 17, 18, 19, 20, 21, 11, 12, 13] u).tmps.getD 13 undef = u 13 := fun u => frAll_eval (by decide) (by rw [hsz]; decide)
    have P13 : ∀ u v, (frAll a0 [16, 17, 18, 19, 20, 21, 11, 12, 13] u).put (some 13) v = frAll a0 [16, 17, 18, 19, 20, 21, 11, 12, 13] (frUpd u 13 v) := fun u v => frAll_put v (by decide)
    replace ha0 := Lib.hid ha0
    refine wp_region_frame [16, 17, 18, 19, 20, 21, 11, 12, 13] (fun D u wv => ∃ yco ycc yuo yuc yvs yeo yec yro yrc vo vc uo uc gK gJ, Hid (Below (((((w.alloc (.cells #[xz, xu, xe, .int .i64 K.calls, xr] 35)).alloc (.cells #[.int .i64 kp, .int .i64 mv, .slice ao cs.length ca, .int .i64 ph, .int .i64 nx] 42)).alloc (.cells #[.slice none 0 0, .slice none 0 0, .slice none 0 0, .int .i64 0, .slice none 0 0] 35)).alloc (.cells #[.int .i64 0, .int .i64 0, .slice none 0 0, .int .i64 0, .int .i64 0] 42)).drew).heap.size (((((w.alloc (.cells #[xz, xu, xe, .int .i64 K.calls, xr] 35)).alloc (.cells #[.int .i64 kp, .int .i64 mv, .slice ao cs.length ca, .int .i64 ph, .int .i64 nx] 42)).alloc (.cells #[.slice none 0 0, .slice none 0 0, .slice none 0 0, .int .i64 0, .slice none 0 0] 35)).alloc (.cells #[.int .i64 0, .int .i64 0, .slice none 0 0, .int .i64 0, .int .i64 0] 42)).drew) wv) ∧ Hid (D 0 → u 16 = .agg #[xz, xu, xe, .int .i64 K.calls, xr]) ∧ Hid (D 1 → u 17 = .agg #[.slice yco yvs.length ycc, .slice yuo K.m.f.used.length yuc, .slice yeo K.m.ents.length yec, .int .i64 (K.calls), .slice yro K.refuse.length yrc]) ∧ Hid (D 2 → u 18 = .agg #[.int .i64 kp, .int .i64 mv, .slice ao cs.length ca, .int .i64 ph, .int .i64 nx]) ∧ Hid (D 3 → u 19 = .agg #[.int .i64 kp, .int .i64 mv, .slice vo cs.length vc, .int .i64 ph, .int .i64 nx]) ∧ Hid (D 4 → u 20 = .slice uao xs.length uca) ∧ Hid (D 5 → u 21 = .slice uo xs.length uc) ∧ Hid (D 6 → u 11 = .pointer (some ⟨gK, 0, none⟩)) ∧ Hid (D 7 → u 12 = .pointer (some ⟨gJ, 0, none⟩)) ∧ Hid (D 10 → u 13 = .slice uo xs.length uc) ∧ Hid (D 1 → KOwn (w.heap.size + 1 + 1 + 1 + 1) wv ⟨⟨⟨.slice yco yvs.length ycc, .slice yuo K.m.f.used.length yuc, yvs⟩, .slice yeo K.m.ents.length yec⟩, .slice yro K.refuse.length yrc⟩ K) ∧ Hid (D 3 → OwnI (w.heap.size + 1 + 1 + 1 + 1) wv (.slice vo cs.length vc) cs) ∧ Hid (D 5 → OwnWr (w.heap.size + 1 + 1 + 1 + 1) wv (.slice uo xs.length uc) xs) ∧ Hid (D 6 → w.heap.size + 1 + 1 + 1 + 1 ≤ gK ∧ gK < wv.heap.size) ∧ Hid (D 6 → ¬ D 8 → BoxAt wv gK [.slice none 0 0, .slice none 0 0, .slice none 0 0, .int .i64 0, .slice none 0 0]) ∧ Hid (D 8 → BoxAt wv gK [.slice yco yvs.length ycc, .slice yuo K.m.f.used.length yuc, .slice yeo K.m.ents.length yec, .int .i64 (K.calls), .slice yro K.refuse.length yrc]) ∧ Hid (D 6 → D 1 → gK ∉ blocks (KV.all ⟨⟨⟨.slice yco yvs.length ycc, .slice yuo K.m.f.used.length yuc, yvs⟩, .slice yeo K.m.ents.length yec⟩, .slice yro K.refuse.length yrc⟩)) ∧ Hid (D 6 → D 3 → gK ∉ blocks ([.slice vo cs.length vc])) ∧ Hid (D 6 → D 5 → gK ∉ blocks ([.slice uo xs.length uc])) ∧ Hid (D 7 → w.heap.size + 1 + 1 + 1 + 1 ≤ gJ ∧ gJ < wv.heap.size) ∧ Hid (D 7 → ¬ D 9 → BoxAt wv gJ [.int .i64 0, .int .i64 0, .slice none 0 0, .int .i64 0, .int .i64 0]) ∧ Hid (D 9 → BoxAt wv gJ [.int .i64 kp, .int .i64 mv, .slice vo cs.length vc, .int .i64 ph, .int .i64 nx]) ∧ Hid (D 7 → D 1 → gJ ∉ blocks (KV.all ⟨⟨⟨.slice yco yvs.length ycc, .slice yuo K.m.f.used.length yuc, yvs⟩, .slice yeo K.m.ents.length yec⟩, .slice yro K.refuse.length yrc⟩)) ∧ Hid (D 7 → D 3 → gJ ∉ blocks ([.slice vo cs.length vc])) ∧ Hid (D 7 → D 5 → gJ ∉ blocks ([.slice uo xs.length uc])) ∧ Hid (D 6 → D 7 → gK ≠ gJ) ∧ Hid (D 1 → D 3 → (∀ g ∈ blocks (KV.all ⟨⟨⟨.slice yco yvs.length ycc, .slice yuo K.m.f.used.length yuc, yvs⟩, .slice yeo K.m.ents.length yec⟩, .slice yro K.refuse.length yrc⟩), g ∉ blocks ([.slice vo cs.length vc]))) ∧ Hid (D 1 → D 5 → (∀ g ∈ blocks (KV.all ⟨⟨⟨.slice yco yvs.length ycc, .slice yuo K.m.f.used.length yuc, yvs⟩, .slice yeo K.m.ents.length yec⟩, .slice yro K.refuse.length yrc⟩), g ∉ blocks ([.slice uo xs.length uc]))) ∧ Hid (D 3 → D 5 → (∀ g ∈ blocks ([.slice vo cs.length vc]), g ∉ blocks ([.slice uo xs.length uc])))) (by kernel_rfl) (by kernel_rfl) ?_ ?_ ?_
    · exact ⟨default, default, default, default, default, default, default, default, default, default, default, default, default, default, default, Lib.hid (by exact bel), Lib.hid (fun h => h.elim), Lib.hid (fun h => h.elim), Lib.hid (fun h => h.elim), Lib.hid (fun h => h.elim), Lib.hid (fun h => h.elim), Lib.hid (fun h => h.elim), Lib.hid (fun h => h.elim), Lib.hid (fun h => h.elim), Lib.hid (fun h => h.elim), Lib.hid (fun h => h.elim), Lib.hid (fun h => h.elim), Lib.hid (fun h => h.elim), Lib.hid (fun h => h.elim), Lib.hid (fun h => h.elim), Lib.hid (fun h => h.elim), Lib.hid (fun h => h.elim), Lib.hid (fun h => h.elim), Lib.hid (fun h => h.elim), Lib.hid (fun h => h.elim), Lib.hid (fun h => h.elim), Lib.hid (fun h => h.elim), Lib.hid (fun h => h.elim), Lib.hid (fun h => h.elim), Lib.hid (fun h => h.elim), Lib.hid (fun h => h.elim), Lib.hid (fun h => h.elim), Lib.hid (fun h => h.elim), Lib.hid (fun h => h.elim)⟩
    · rintro D u wv ⟨yco, ycc, yuo, yuc, yvs, yeo, yec, yro, yrc, vo, vc, uo, uc, gK, gJ, HBW, U0, U1, U2, U3, U4, U5, U6, U7, U10, OK, OV, OW, A2gK, A3gK, A4gK, A5gKK, A5gKV, A5gKW, A2gJ, A3gJ, A4gJ, A5gJK, A5gJV, A5gJW, A6gKgJ, APKV, APKW, APVW⟩ hcl i hi hn hw
      have hi9 : i < 11 := hi; clear hi
      replace hcl := Lib.hid hcl; replace hw := Lib.hid hw
      have hbw := HBW.out; have hlw := hbw.size; rw [hps] at hlw
      rcases (by omega : i = 0 ∨ i = 1 ∨ i = 2 ∨ i = 3 ∨ i = 4 ∨ i = 5 ∨ i = 6 ∨ i = 7 ∨ i = 8 ∨ i = 9 ∨ i = 10) with rfl | rfl | rfl | rfl | rfl | rfl | rfl | rfl | rfl | rfl | rfl
      · skip
        refine wpOp_step (o := _) rfl (fun KK hKK => ?_)
        rw [if_pos (wanted_nil _ rfl)]
        have E4_ := X4 u
        have bx := BP.out.below hbw
        have c0 := (bx.cells 0 _ rfl).1
        have c1 := (bx.cells 1 _ rfl).1
        have c2 := (bx.cells 2 _ rfl).1
        have c3 := (bx.cells 3 _ rfl).1
        have c4 := (bx.cells 4 _ rfl).1
        skip
        go_simp
        exact hKK _ _ ⟨_, P16 u _, yco, ycc, yuo, yuc, yvs, yeo, yec, yro, yrc, vo, vc, uo, uc, gK, gJ, HBW, Lib.hid (fun h0 => frUpd_self), (u10 U1), (u10 U2), (u10 U3), (u10 U4), (u10 U5), (u10 U6), (u10 U7), (u10 U10), (k10 OK), (k10 OV), (k10 OW), (k10 A2gK), (k11 A3gK), (k10 A4gK), (k20 A5gKK), (k20 A5gKV), (k20 A5gKW), (k10 A2gJ), (k11 A3gJ), (k10 A4gJ), (k20 A5gJK), (k20 A5gJV), (k20 A5gJW), (k20 A6gKgJ), (k20 APKV), (k20 APKW), (k20 APVW)⟩
      · skip
        refine wpOp_step (o := _) rfl (fun KK hKK => ?_)
        rw [if_pos (wanted_nil _ rfl)]
        have e16 := U0.out (hw.out 0 (by kernel_rfl)); have E16_ := (E16 u).trans e16
        skip
        go_simp
        refine (i_copyKernel (⟨⟨⟨xz, xu, xvs⟩, xe⟩, xr⟩ : KV) K H1.out _ (HK.out.below (by have hw0 := hbw; exact bel))).mono ?_; rintro e w2 ⟨y, rfl, OK, hb⟩
        obtain ⟨yco, ycc, yuo, yuc, yvs, yeo, yec, yro, yrc, rfl⟩ := KOwn.shapes OK
        simp only [KV.val]
        have hbn := hb.size
        try dsimp only
        exact hKK _ _ ⟨_, P17 u _, yco, ycc, yuo, yuc, yvs, yeo, yec, yro, yrc, vo, vc, uo, uc, gK, gJ, (Lib.hid (hbw.trans (hb.mono (by rw [hps]; omega)))), (u10 U0), Lib.hid (fun h0 => frUpd_self), (u10 U2), (u10 U3), (u10 U4), (u10 U5), (u10 U6), (u10 U7), (u10 U10), Lib.hid (fun h0 => KOwn.mono OK (by omega)), (m10 (fun h => Own.below h hb) OV), (m10 (fun h => Own.below h hb) OW), (m10 (lt_grow hb.size) A2gK), (m11 (fun h => h.below hb) A3gK), Lib.hid (fun h0 => absurd (hcl.out 8 1 (by kernel_rfl) (addD_of h0 (by decide))) hn), Lib.hid (fun h0 h1 => fun hm => Nat.lt_irrefl _ (Nat.lt_of_lt_of_le (A2gK.out (addD_of h0 (by decide))).2 (((OK).lts) _ hm).1)), (k20 A5gKV), (k20 A5gKW), (m10 (lt_grow hb.size) A2gJ), (m11 (fun h => h.below hb) A3gJ), (m10 (fun h => h.below hb) A4gJ), Lib.hid (fun h0 h1 => fun hm => Nat.lt_irrefl _ (Nat.lt_of_lt_of_le (A2gJ.out (addD_of h0 (by decide))).2 (((OK).lts) _ hm).1)), (k20 A5gJV), (k20 A5gJW), (k20 A6gKgJ), Lib.hid (fun h0 h1 => fun g hg hm => Nat.lt_irrefl _ (Nat.lt_of_lt_of_le ((Own.lts ((OV.out (addD_of h1 (by decide))))) _ hm).2 (((OK).lts) _ hg).1)), Lib.hid (fun h0 h1 => fun g hg hm => Nat.lt_irrefl _ (Nat.lt_of_lt_of_le ((Own.lts ((OW.out (addD_of h1 (by decide))))) _ hm).2 (((OK).lts) _ hg).1)), (k20 APVW)⟩
      · skip
        refine wpOp_step (o := _) rfl (fun KK hKK => ?_)
        rw [if_pos (wanted_nil _ rfl)]
        have E5_ := X5 u
        have bx := BQ.out.below hbw
        have c0 := (bx.cells 0 _ rfl).1
        have c1 := (bx.cells 1 _ rfl).1
        have c2 := (bx.cells 2 _ rfl).1
        have c3 := (bx.cells 3 _ rfl).1
        have c4 := (bx.cells 4 _ rfl).1
        skip
        go_simp
        exact hKK _ _ ⟨_, P18 u _, yco, ycc, yuo, yuc, yvs, yeo, yec, yro, yrc, vo, vc, uo, uc, gK, gJ, HBW, (u10 U0), (u10 U1), Lib.hid (fun h0 => frUpd_self), (u10 U3), (u10 U4), (u10 U5), (u10 U6), (u10 U7), (u10 U10), (k10 OK), (k10 OV), (k10 OW), (k10 A2gK), (k11 A3gK), (k10 A4gK), (k20 A5gKK), (k20 A5gKV), (k20 A5gKW), (k10 A2gJ), (k11 A3gJ), (k10 A4gJ), (k20 A5gJK), (k20 A5gJV), (k20 A5gJW), (k20 A6gKgJ), (k20 APKV), (k20 APKW), (k20 APVW)⟩
      · skip
        refine wpOp_step (o := _) rfl (fun KK hKK => ?_)
        rw [if_pos (wanted_nil _ rfl)]
        have e18 := U2.out (hw.out 2 (by kernel_rfl)); have E18_ := (E18 u).trans e18
        skip
        go_simp
        refine (i_copyJob kp mv _ cs ph nx H3.out _ (HV.out.below (by have hw0 := hbw; exact bel))).mono ?_; rintro e w2 ⟨v, rfl, OV, hb⟩
        obtain ⟨vo, vc, rfl, -, -⟩ := OV.shape
        have hbn := hb.size
        try dsimp only
        exact hKK _ _ ⟨_, P19 u _, yco, ycc, yuo, yuc, yvs, yeo, yec, yro, yrc, vo, vc, uo, uc, gK, gJ, (Lib.hid (hbw.trans (hb.mono (by rw [hps]; omega)))), (u10 U0), (u10 U1), (u10 U2), Lib.hid (fun h0 => frUpd_self), (u10 U4), (u10 U5), (u10 U6), (u10 U7), (u10 U10), (m10 (fun h => KOwn.below h hb) OK), Lib.hid (fun h0 => Own.mono OV (by omega)), (m10 (fun h => Own.below h hb) OW), (m10 (lt_grow hb.size) A2gK), (m11 (fun h => h.below hb) A3gK), (m10 (fun h => h.below hb) A4gK), (k20 A5gKK), Lib.hid (fun h0 h1 => fun hm => Nat.lt_irrefl _ (Nat.lt_of_lt_of_le (A2gK.out (addD_of h0 (by decide))).2 ((Own.lts (OV)) _ hm).1)), (k20 A5gKW), (m10 (lt_grow hb.size) A2gJ), (m11 (fun h => h.below hb) A3gJ), Lib.hid (fun h0 => absurd (hcl.out 9 3 (by kernel_rfl) (addD_of h0 (by decide))) hn), (k20 A5gJK), Lib.hid (fun h0 h1 => fun hm => Nat.lt_irrefl _ (Nat.lt_of_lt_of_le (A2gJ.out (addD_of h0 (by decide))).2 ((Own.lts (OV)) _ hm).1)), (k20 A5gJW), (k20 A6gKgJ), Lib.hid (fun h0 h1 => fun g hg hm => Nat.lt_irrefl _ (Nat.lt_of_lt_of_le ((((OK.out (addD_of h0 (by decide)))).lts) _ hg).2 ((Own.lts (OV)) _ hm).1)), (k20 APKW), Lib.hid (fun h0 h1 => fun g hg hm => Nat.lt_irrefl _ (Nat.lt_of_lt_of_le ((Own.lts ((OW.out (addD_of h1 (by decide))))) _ hm).2 ((Own.lts (OV)) _ hg).1))⟩
      · skip
        refine wpOp_step (o := _) rfl (fun KK hKK => ?_)
        rw [if_pos (wanted_nil _ rfl)]
        have E2_ := X2 u
        skip
        go_simp
        exact hKK _ _ ⟨_, P20 u _, yco, ycc, yuo, yuc, yvs, yeo, yec, yro, yrc, vo, vc, uo, uc, gK, gJ, HBW, (u10 U0), (u10 U1), (u10 U2), (u10 U3), Lib.hid (fun h0 => frUpd_self), (u10 U5), (u10 U6), (u10 U7), (u10 U10), (k10 OK), (k10 OV), (k10 OW), (k10 A2gK), (k11 A3gK), (k10 A4gK), (k20 A5gKK), (k20 A5gKV), (k20 A5gKW), (k10 A2gJ), (k11 A3gJ), (k10 A4gJ), (k20 A5gJK), (k20 A5gJV), (k20 A5gJW), (k20 A6gKgJ), (k20 APKV), (k20 APKW), (k20 APVW)⟩
      · skip
        refine wpOp_step (o := _) rfl (fun KK hKK => ?_)
        rw [if_pos (wanted_nil _ rfl)]
        have e20 := U4.out (hw.out 4 (by kernel_rfl)); have E20_ := (E20 u).trans e20
        skip
        go_simp
        refine (i_copyWriters _ xs H4.out _ (HU.out.below (by have hw0 := hbw; exact bel))).mono ?_; rintro e w2 ⟨u, rfl, OW, hb⟩
        obtain ⟨uo, uc, rfl, -, -⟩ := OW.shape
        have hbn := hb.size
        try dsimp only
        exact hKK _ _ ⟨_, P21 u _, yco, ycc, yuo, yuc, yvs, yeo, yec, yro, yrc, vo, vc, uo, uc, gK, gJ, (Lib.hid (hbw.trans (hb.mono (by rw [hps]; omega)))), (u10 U0), (u10 U1), (u10 U2), (u10 U3), (u10 U4), Lib.hid (fun h0 => frUpd_self), (u10 U6), (u10 U7), Lib.hid (fun h0 => absurd (hcl.out 10 5 (by kernel_rfl) (addD_of h0 (by decide))) hn), (m10 (fun h => KOwn.below h hb) OK), (m10 (fun h => Own.below h hb) OV), Lib.hid (fun h0 => Own.mono OW (by omega)), (m10 (lt_grow hb.size) A2gK), (m11 (fun h => h.below hb) A3gK), (m10 (fun h => h.below hb) A4gK), (k20 A5gKK), (k20 A5gKV), Lib.hid (fun h0 h1 => fun hm => Nat.lt_irrefl _ (Nat.lt_of_lt_of_le (A2gK.out (addD_of h0 (by decide))).2 ((Own.lts (OW)) _ hm).1)), (m10 (lt_grow hb.size) A2gJ), (m11 (fun h => h.below hb) A3gJ), (m10 (fun h => h.below hb) A4gJ), (k20 A5gJK), (k20 A5gJV), Lib.hid (fun h0 h1 => fun hm => Nat.lt_irrefl _ (Nat.lt_of_lt_of_le (A2gJ.out (addD_of h0 (by decide))).2 ((Own.lts (OW)) _ hm).1)), (k20 A6gKgJ), (k20 APKV), Lib.hid (fun h0 h1 => fun g hg hm => Nat.lt_irrefl _ (Nat.lt_of_lt_of_le ((((OK.out (addD_of h0 (by decide)))).lts) _ hg).2 ((Own.lts (OW)) _ hm).1)), Lib.hid (fun h0 h1 => fun g hg hm => Nat.lt_irrefl _ (Nat.lt_of_lt_of_le ((Own.lts ((OV.out (addD_of h0 (by decide))))) _ hg).2 ((Own.lts (OW)) _ hm).1))⟩
      · skip
        refine wpOp_step (o := _) rfl (fun KK hKK => ?_)
        rw [if_pos (wanted_nil _ rfl)]
        skip
        go_simp
        have hb : Below wv.heap.size wv (wv.alloc (.cells #[.slice none 0 0, .slice none 0 0, .slice none 0 0, .int .i64 0, .slice none 0 0] 35)) := (Below.refl _ wv).alloc (Nat.le_refl _) (.cells #[.slice none 0 0, .slice none 0 0, .slice none 0 0, .int .i64 0, .slice none 0 0] 35)
        have hbn : wv.heap.size < (wv.alloc (.cells #[.slice none 0 0, .slice none 0 0, .slice none 0 0, .int .i64 0, .slice none 0 0] 35)).heap.size := by rw [World.size_alloc]; omega
        have BN : BoxAt (wv.alloc (.cells #[.slice none 0 0, .slice none 0 0, .slice none 0 0, .int .i64 0, .slice none 0 0] 35)) wv.heap.size [.slice none 0 0, .slice none 0 0, .slice none 0 0, .int .i64 0, .slice none 0 0] := (BoxAt.snoc (BoxAt.snoc (BoxAt.snoc (BoxAt.snoc (BoxAt.snoc (BoxAt.nil (w := (wv.alloc (.cells #[.slice none 0 0, .slice none 0 0, .slice none 0 0, .int .i64 0, .slice none 0 0] 35))) (g := wv.heap.size) (by go_simp)) (v := .slice none 0 0) (i := 0) rfl (by go_simp) (by go_simp)) (v := .slice none 0 0) (i := 1) rfl (by go_simp) (by go_simp)) (v := .slice none 0 0) (i := 2) rfl (by go_simp) (by go_simp)) (v := .int .i64 0) (i := 3) rfl (by go_simp) (by go_simp)) (v := .slice none 0 0) (i := 4) rfl (by go_simp) (by go_simp))
        exact hKK _ _ ⟨_, P11 u _, yco, ycc, yuo, yuc, yvs, yeo, yec, yro, yrc, vo, vc, uo, uc, wv.heap.size, gJ, (Lib.hid (hbw.trans (hb.mono (by rw [hps]; omega)))), (u10 U0), (u10 U1), (u10 U2), (u10 U3), (u10 U4), (u10 U5), Lib.hid (fun h0 => frUpd_self), (u10 U7), (u10 U10), (m10 (fun h => KOwn.below h hb) OK), (m10 (fun h => Own.below h hb) OV), (m10 (fun h => Own.below h hb) OW), Lib.hid (fun h0 => ⟨by omega, hbn⟩), Lib.hid (fun h0 m0 => BN), Lib.hid (fun h0 => absurd (hcl.out 8 6 (by kernel_rfl) (addD_of h0 (by decide))) hn), Lib.hid (fun h0 h1 => fun hm => Nat.lt_irrefl _ ((((OK.out (addD_of h1 (by decide)))).lts) _ hm).2), Lib.hid (fun h0 h1 => fun hm => Nat.lt_irrefl _ ((Own.lts ((OV.out (addD_of h1 (by decide))))) _ hm).2), Lib.hid (fun h0 h1 => fun hm => Nat.lt_irrefl _ ((Own.lts ((OW.out (addD_of h1 (by decide))))) _ hm).2), (m10 (lt_grow hb.size) A2gJ), (m11 (fun h => h.below hb) A3gJ), (m10 (fun h => h.below hb) A4gJ), (k20 A5gJK), (k20 A5gJV), (k20 A5gJW), Lib.hid (fun h0 h1 => Nat.ne_of_gt (A2gJ.out (addD_of h1 (by decide))).2), (k20 APKV), (k20 APKW), (k20 APVW)⟩
      · skip
        refine wpOp_step (o := _) rfl (fun KK hKK => ?_)
        rw [if_pos (wanted_nil _ rfl)]
        skip
        go_simp
        have hb : Below wv.heap.size wv (wv.alloc (.cells #[.int .i64 0, .int .i64 0, .slice none 0 0, .int .i64 0, .int .i64 0] 42)) := (Below.refl _ wv).alloc (Nat.le_refl _) (.cells #[.int .i64 0, .int .i64 0, .slice none 0 0, .int .i64 0, .int .i64 0] 42)
        have hbn : wv.heap.size < (wv.alloc (.cells #[.int .i64 0, .int .i64 0, .slice none 0 0, .int .i64 0, .int .i64 0] 42)).heap.size := by rw [World.size_alloc]; omega
        have BN : BoxAt (wv.alloc (.cells #[.int .i64 0, .int .i64 0, .slice none 0 0, .int .i64 0, .int .i64 0] 42)) wv.heap.size [.int .i64 0, .int .i64 0, .slice none 0 0, .int .i64 0, .int .i64 0] := (BoxAt.snoc (BoxAt.snoc (BoxAt.snoc (BoxAt.snoc (BoxAt.snoc (BoxAt.nil (w := (wv.alloc (.cells #[.int .i64 0, .int .i64 0, .slice none 0 0, .int .i64 0, .int .i64 0] 42))) (g := wv.heap.size) (by go_simp)) (v := .int .i64 0) (i := 0) rfl (by go_simp) (by go_simp)) (v := .int .i64 0) (i := 1) rfl (by go_simp) (by go_simp)) (v := .slice none 0 0) (i := 2) rfl (by go_simp) (by go_simp)) (v := .int .i64 0) (i := 3) rfl (by go_simp) (by go_simp)) (v := .int .i64 0) (i := 4) rfl (by go_simp) (by go_simp))
        exact hKK _ _ ⟨_, P12 u _, yco, ycc, yuo, yuc, yvs, yeo, yec, yro, yrc, vo, vc, uo, uc, gK, wv.heap.size, (Lib.hid (hbw.trans (hb.mono (by rw [hps]; omega)))), (u10 U0), (u10 U1), (u10 U2), (u10 U3), (u10 U4), (u10 U5), (u10 U6), Lib.hid (fun h0 => frUpd_self), (u10 U10), (m10 (fun h => KOwn.below h hb) OK), (m10 (fun h => Own.below h hb) OV), (m10 (fun h => Own.below h hb) OW), (m10 (lt_grow hb.size) A2gK), (m11 (fun h => h.below hb) A3gK), (m10 (fun h => h.below hb) A4gK), (k20 A5gKK), (k20 A5gKV), (k20 A5gKW), Lib.hid (fun h0 => ⟨by omega, hbn⟩), Lib.hid (fun h0 m0 => BN), Lib.hid (fun h0 => absurd (hcl.out 9 7 (by kernel_rfl) (addD_of h0 (by decide))) hn), Lib.hid (fun h0 h1 => fun hm => Nat.lt_irrefl _ ((((OK.out (addD_of h1 (by decide)))).lts) _ hm).2), Lib.hid (fun h0 h1 => fun hm => Nat.lt_irrefl _ ((Own.lts ((OV.out (addD_of h1 (by decide))))) _ hm).2), Lib.hid (fun h0 h1 => fun hm => Nat.lt_irrefl _ ((Own.lts ((OW.out (addD_of h1 (by decide))))) _ hm).2), Lib.hid (fun h0 h1 => Nat.ne_of_lt (A2gK.out (addD_of h0 (by decide))).2), (k20 APKV), (k20 APKW), (k20 APVW)⟩
      · skip
        refine wpOp_step (o := _) rfl (fun KK hKK => ?_)
        rw [if_pos (wanted_nil _ rfl)]
        have e11 := U6.out (hw.out 6 (by kernel_rfl)); have E11_ := (E11 u).trans e11
        have e17 := U1.out (hw.out 1 (by kernel_rfl)); have E17_ := (E17 u).trans e17
        have bx := A3gK.out (hw.out 6 (by kernel_rfl)) hn
        have c0 := (bx.cells 0 _ rfl).1; have f0 := (bx.cells 0 _ rfl).2
        have c1 := (bx.cells 1 _ rfl).1; have f1 := (bx.cells 1 _ rfl).2
        have c2 := (bx.cells 2 _ rfl).1; have f2 := (bx.cells 2 _ rfl).2
        have c3 := (bx.cells 3 _ rfl).1; have f3 := (bx.cells 3 _ rfl).2
        have c4 := (bx.cells 4 _ rfl).1; have f4 := (bx.cells 4 _ rfl).2
        have hgl := A2gK.out (hw.out 6 (by kernel_rfl))
        skip
        go_simp
        have ht : Touch [gK] wv (((((wv.setCell ⟨gK, 0, none⟩ (.slice yco yvs.length ycc)).setCell ⟨gK, 1, none⟩ (.slice yuo K.m.f.used.length yuc)).setCell ⟨gK, 2, none⟩ (.slice yeo K.m.ents.length yec)).setCell ⟨gK, 3, none⟩ (.int .i64 (K.calls))).setCell ⟨gK, 4, none⟩ (.slice yro K.refuse.length yrc)) := touch_bx (touch_bx (touch_bx (touch_bx (touch_bx (Touch.refl [gK] wv)))))
        have hb := ht.toBelow (B := w.heap.size + 1 + 1 + 1 + 1) (fun g hg => by have := List.mem_singleton.1 hg; omega) (by omega)
        have BN : BoxAt (((((wv.setCell ⟨gK, 0, none⟩ (.slice yco yvs.length ycc)).setCell ⟨gK, 1, none⟩ (.slice yuo K.m.f.used.length yuc)).setCell ⟨gK, 2, none⟩ (.slice yeo K.m.ents.length yec)).setCell ⟨gK, 3, none⟩ (.int .i64 (K.calls))).setCell ⟨gK, 4, none⟩ (.slice yro K.refuse.length yrc)) gK [.slice yco yvs.length ycc, .slice yuo K.m.f.used.length yuc, .slice yeo K.m.ents.length yec, .int .i64 (K.calls), .slice yro K.refuse.length yrc] := (BoxAt.snoc (BoxAt.snoc (BoxAt.snoc (BoxAt.snoc (BoxAt.snoc (BoxAt.nil (w := (((((wv.setCell ⟨gK, 0, none⟩ (.slice yco yvs.length ycc)).setCell ⟨gK, 1, none⟩ (.slice yuo K.m.f.used.length yuc)).setCell ⟨gK, 2, none⟩ (.slice yeo K.m.ents.length yec)).setCell ⟨gK, 3, none⟩ (.int .i64 (K.calls))).setCell ⟨gK, 4, none⟩ (.slice yro K.refuse.length yrc))) (g := gK) (by have := ht.size; omega)) (v := .slice yco yvs.length ycc) (i := 0) rfl (by go_simp) (by go_simp)) (v := .slice yuo K.m.f.used.length yuc) (i := 1) rfl (by go_simp) (by go_simp)) (v := .slice yeo K.m.ents.length yec) (i := 2) rfl (by go_simp) (by go_simp)) (v := .int .i64 (K.calls)) (i := 3) rfl (by go_simp) (by go_simp)) (v := .slice yro K.refuse.length yrc) (i := 4) rfl (by go_simp) (by go_simp))
        exact hKK _ _ ⟨u, rfl, yco, ycc, yuo, yuc, yvs, yeo, yec, yro, yrc, vo, vc, uo, uc, gK, gJ, (Lib.hid (hbw.trans (hb.mono (by rw [hps]; exact Nat.le_refl _)))), (k10 U0), (k10 U1), (k10 U2), (k10 U3), (k10 U4), (k10 U5), (k10 U6), (k10 U7), (k10 U10), (md10 (fun d h => KOwn.touch h ht (fun g hg hm => by cases List.mem_singleton.1 hm; exact A5gKK.out (hw.out 6 (by kernel_rfl)) d hg)) OK), (md10 (fun d h => Own.touchs h ht (fun g hg hm => by cases List.mem_singleton.1 hm; exact A5gKV.out (hw.out 6 (by kernel_rfl)) d hg)) OV), (md10 (fun d h => Own.touchs h ht (fun g hg hm => by cases List.mem_singleton.1 hm; exact A5gKW.out (hw.out 6 (by kernel_rfl)) d hg)) OW), (m10 (lt_grow ht.size) A2gK), x11, Lib.hid (fun h0 => BN), (k20 A5gKK), (k20 A5gKV), (k20 A5gKW), (m10 (lt_grow ht.size) A2gJ), Lib.hid (fun h0 m0 => (A3gJ.out (addD_of h0 (by decide)) (fun x => m0 (addD_mem x))).touch ht (fun hm => (A6gKgJ.out (hw.out 6 (by kernel_rfl)) (addD_of h0 (by decide))) (List.mem_singleton.1 hm).symm)), Lib.hid (fun h0 => (A4gJ.out (addD_of h0 (by decide))).touch ht (fun hm => (A6gKgJ.out (hw.out 6 (by kernel_rfl)) (hcl.out 9 7 (by kernel_rfl) (addD_of h0 (by decide)))) (List.mem_singleton.1 hm).symm)), (k20 A5gJK), (k20 A5gJV), (k20 A5gJW), (k20 A6gKgJ), (k20 APKV), (k20 APKW), (k20 APVW)⟩
      · skip
        refine wpOp_step (o := _) rfl (fun KK hKK => ?_)
        rw [if_pos (wanted_nil _ rfl)]
        have e12 := U7.out (hw.out 7 (by kernel_rfl)); have E12_ := (E12 u).trans e12
        have e19 := U3.out (hw.out 3 (by kernel_rfl)); have E19_ := (E19 u).trans e19
        have bx := A3gJ.out (hw.out 7 (by kernel_rfl)) hn
        have c0 := (bx.cells 0 _ rfl).1; have f0 := (bx.cells 0 _ rfl).2
        have c1 := (bx.cells 1 _ rfl).1; have f1 := (bx.cells 1 _ rfl).2
        have c2 := (bx.cells 2 _ rfl).1; have f2 := (bx.cells 2 _ rfl).2
        have c3 := (bx.cells 3 _ rfl).1; have f3 := (bx.cells 3 _ rfl).2
        have c4 := (bx.cells 4 _ rfl).1; have f4 := (bx.cells 4 _ rfl).2
        have hgl := A2gJ.out (hw.out 7 (by kernel_rfl))
        skip
        go_simp
        have ht : Touch [gJ] wv (((((wv.setCell ⟨gJ, 0, none⟩ (.int .i64 kp)).setCell ⟨gJ, 1, none⟩ (.int .i64 mv)).setCell ⟨gJ, 2, none⟩ (.slice vo cs.length vc)).setCell ⟨gJ, 3, none⟩ (.int .i64 ph)).setCell ⟨gJ, 4, none⟩ (.int .i64 nx)) := touch_bx (touch_bx (touch_bx (touch_bx (touch_bx (Touch.refl [gJ] wv)))))
        have hb := ht.toBelow (B := w.heap.size + 1 + 1 + 1 + 1) (fun g hg => by have := List.mem_singleton.1 hg; omega) (by omega)
        have BN : BoxAt (((((wv.setCell ⟨gJ, 0, none⟩ (.int .i64 kp)).setCell ⟨gJ, 1, none⟩ (.int .i64 mv)).setCell ⟨gJ, 2, none⟩ (.slice vo cs.length vc)).setCell ⟨gJ, 3, none⟩ (.int .i64 ph)).setCell ⟨gJ, 4, none⟩ (.int .i64 nx)) gJ [.int .i64 kp, .int .i64 mv, .slice vo cs.length vc, .int .i64 ph, .int .i64 nx] := (BoxAt.snoc (BoxAt.snoc (BoxAt.snoc (BoxAt.snoc (BoxAt.snoc (BoxAt.nil (w := (((((wv.setCell ⟨gJ, 0, none⟩ (.int .i64 kp)).setCell ⟨gJ, 1, none⟩ (.int .i64 mv)).setCell ⟨gJ, 2, none⟩ (.slice vo cs.length vc)).setCell ⟨gJ, 3, none⟩ (.int .i64 ph)).setCell ⟨gJ, 4, none⟩ (.int .i64 nx))) (g := gJ) (by have := ht.size; omega)) (v := .int .i64 kp) (i := 0) rfl (by go_simp) (by go_simp)) (v := .int .i64 mv) (i := 1) rfl (by go_simp) (by go_simp)) (v := .slice vo cs.length vc) (i := 2) rfl (by go_simp) (by go_simp)) (v := .int .i64 ph) (i := 3) rfl (by go_simp) (by go_simp)) (v := .int .i64 nx) (i := 4) rfl (by go_simp) (by go_simp))
        exact hKK _ _ ⟨u, rfl, yco, ycc, yuo, yuc, yvs, yeo, yec, yro, yrc, vo, vc, uo, uc, gK, gJ, (Lib.hid (hbw.trans (hb.mono (by rw [hps]; exact Nat.le_refl _)))), (k10 U0), (k10 U1), (k10 U2), (k10 U3), (k10 U4), (k10 U5), (k10 U6), (k10 U7), (k10 U10), (md10 (fun d h => KOwn.touch h ht (fun g hg hm => by cases List.mem_singleton.1 hm; exact A5gJK.out (hw.out 7 (by kernel_rfl)) d hg)) OK), (md10 (fun d h => Own.touchs h ht (fun g hg hm => by cases List.mem_singleton.1 hm; exact A5gJV.out (hw.out 7 (by kernel_rfl)) d hg)) OV), (md10 (fun d h => Own.touchs h ht (fun g hg hm => by cases List.mem_singleton.1 hm; exact A5gJW.out (hw.out 7 (by kernel_rfl)) d hg)) OW), (m10 (lt_grow ht.size) A2gK), Lib.hid (fun h0 m0 => (A3gK.out (addD_of h0 (by decide)) (fun x => m0 (addD_mem x))).touch ht (fun hm => (A6gKgJ.out (addD_of h0 (by decide)) (hw.out 7 (by kernel_rfl))) (List.mem_singleton.1 hm))), Lib.hid (fun h0 => (A4gK.out (addD_of h0 (by decide))).touch ht (fun hm => (A6gKgJ.out (hcl.out 8 6 (by kernel_rfl) (addD_of h0 (by decide))) (hw.out 7 (by kernel_rfl))) (List.mem_singleton.1 hm))), (k20 A5gKK), (k20 A5gKV), (k20 A5gKW), (m10 (lt_grow ht.size) A2gJ), x11, Lib.hid (fun h0 => BN), (k20 A5gJK), (k20 A5gJV), (k20 A5gJW), (k20 A6gKgJ), (k20 APKV), (k20 APKW), (k20 APVW)⟩
      · skip
        refine wpOp_step (o := _) rfl (fun KK hKK => ?_)
        rw [if_pos (wanted_nil _ rfl)]
        have e21 := U5.out (hw.out 5 (by kernel_rfl)); have E21_ := (E21 u).trans e21
        skip
        go_simp
        exact hKK _ _ ⟨_, P13 u _, yco, ycc, yuo, yuc, yvs, yeo, yec, yro, yrc, vo, vc, uo, uc, gK, gJ, HBW, (u10 U0), (u10 U1), (u10 U2), (u10 U3), (u10 U4), (u10 U5), (u10 U6), (u10 U7), Lib.hid (fun h0 => frUpd_self), (k10 OK), (k10 OV), (k10 OW), (k10 A2gK), (k11 A3gK), (k10 A4gK), (k20 A5gKK), (k20 A5gKV), (k20 A5gKW), (k10 A2gJ), (k11 A3gJ), (k10 A4gJ), (k20 A5gJK), (k20 A5gJV), (k20 A5gJW), (k20 A6gKgJ), (k20 APKV), (k20 APKW), (k20 APVW)⟩
    · rintro D u wv ⟨yco, ycc, yuo, yuc, yvs, yeo, yec, yro, yrc, vo, vc, uo, uc, gK, gJ, HBW, U0, U1, U2, U3, U4, U5, U6, U7, U10, OK, OV, OW, A2gK, A3gK, A4gK, A5gKK, A5gKV, A5gKW, A2gJ, A3gJ, A4gJ, A5gJK, A5gJV, A5gJW, A6gKgJ, APKV, APKW, APVW⟩ hall
      have d0 := hall 0 (by show 0 < 11; decide)
      have d1 := hall 1 (by show 1 < 11; decide)
      have d2 := hall 2 (by show 2 < 11; decide)
      have d3 := hall 3 (by show 3 < 11; decide)
      have d4 := hall 4 (by show 4 < 11; decide)
      have d5 := hall 5 (by show 5 < 11; decide)
      have d6 := hall 6 (by show 6 < 11; decide)
      have d7 := hall 7 (by show 7 < 11; decide)
      have d8 := hall 8 (by show 8 < 11; decide)
      have d9 := hall 9 (by show 9 < 11; decide)
      have d10 := hall 10 (by show 10 < 11; decide)
      have ha1 := ha0.out; subst ha1
      simp only [frAll, frTo, List.setIfInBounds_toArray, List.set_cons_succ, List.set_cons_zero]
      go_wp2_with fail
      go_meet
      exact ⟨yco, ycc, yuo, yuc, yvs, yeo, yec, yro, yrc, vo, vc, uo, uc, gK, gJ, (U6.out d6), (U7.out d7), (U10.out d10), (A4gK.out d8), (A4gJ.out d9), (OK.out d1), (OV.out d3), (OW.out d5), (A5gKK.out d6 d1), (A5gKV.out d6 d3), (A5gKW.out d6 d5), (A5gJK.out d7 d1), (A5gJV.out d7 d3), (A5gJW.out d7 d5), (A6gKgJ.out d6 d7), (APKV.out d1 d3), (APKW.out d1 d5), (APVW.out d3 d5), (A2gK.out d6).1, (A2gJ.out d7).1, HBW.out⟩
  obtain ⟨yco, ycc, yuo, yuc, yvs, yeo, yec, yro, yrc, vo, vc, uo, uc, gK, gJ, rfl, rfl, rfl, bK, bJ, oK, oV, oW, nk1, nk2, nk3, nj1, nj2, nj3, hne, ap1, ap2, ap3, hgK, hgJ, hbel⟩ := hcut
  obtain ⟨wd, rfl⟩ : ∃ x, x = wc := ⟨_, rfl⟩
  have hzb := hbel.size
  simp only [World.size_alloc, World.size_drew] at hzb
  have BK := Lib.hid bK; have BJ := Lib.hid bJ; have OK := Lib.hid oK; have OV := Lib.hid oV; have OW := Lib.hid oW; have AP1 := Lib.hid ap1; have AP2 := Lib.hid ap2; have AP3 := Lib.hid ap3
  have OF1 : Hid (∀ b ∈ blocks (KV.all ⟨⟨⟨.slice yco yvs.length ycc, .slice yuo K.m.f.used.length yuc, yvs⟩, .slice yeo K.m.ents.length yec⟩, .slice yro K.refuse.length yrc⟩), b ≠ gK ∧ b ≠ gJ) := Lib.hid (fun b hb => ⟨fun e => nk1 (e ▸ hb), fun e => nj1 (e ▸ hb)⟩)
  have OF2 : Hid (∀ b ∈ blocks ([.slice vo cs.length vc]), b ≠ gK ∧ b ≠ gJ) := Lib.hid (fun b hb => ⟨fun e => nk2 (e ▸ hb), fun e => nj2 (e ▸ hb)⟩)
  have OF3 : Hid (∀ b ∈ blocks ([.slice uo xs.length uc]), b ≠ gK ∧ b ≠ gJ) := Lib.hid (fun b hb => ⟨fun e => nk3 (e ▸ hb), fun e => nj3 (e ▸ hb)⟩)
  have B2 := Lib.hid (BR.out.below hbel); have B3 := Lib.hid (BS.out.below hbel)
  have HBW : Hid (Below w.heap.size w wd) := Lib.hid (by exact bel)
  clear bK bJ oK oV oW nk1 nk2 nk3 nj1 nj2 nj3 ap1 ap2 ap3 BP BQ BR BS hbel
  have hne2 : ¬ gJ = gK := fun e => hne e.symm
  have hne1 : ¬ gK = gJ := hne
  have ngK0 : ¬ gK = w.heap.size := (by omega); have mgK0 : ¬ w.heap.size = gK := (by omega)
  have ngK1 : ¬ gK = w.heap.size + 1 := (by omega); have mgK1 : ¬ w.heap.size + 1 = gK := (by omega)
  have ngK2 : ¬ gK = w.heap.size + 1 + 1 := (by omega); have mgK2 : ¬ w.heap.size + 1 + 1 = gK := (by omega)
  have ngK3 : ¬ gK = w.heap.size + 1 + 1 + 1 := (by omega); have mgK3 : ¬ w.heap.size + 1 + 1 + 1 = gK := (by omega)
  have ngJ0 : ¬ gJ = w.heap.size := (by omega); have mgJ0 : ¬ w.heap.size = gJ := (by omega)
  have ngJ1 : ¬ gJ = w.heap.size + 1 := (by omega); have mgJ1 : ¬ w.heap.size + 1 = gJ := (by omega)
  have ngJ2 : ¬ gJ = w.heap.size + 1 + 1 := (by omega); have mgJ2 : ¬ w.heap.size + 1 + 1 = gJ := (by omega)
  have ngJ3 : ¬ gJ = w.heap.size + 1 + 1 + 1 := (by omega); have mgJ3 : ¬ w.heap.size + 1 + 1 + 1 = gJ := (by omega)
  have xgK := BK.out.lt; have xgJ := BJ.out.lt
  by_cases h200 : order.length ≤ 200
  rotate_left
  · have h201 : (200 : Int) < (order.length : Int) := by omega
    have e : TE = ⟨⟨K, ph, nx⟩, xs⟩ := by rw [← HTE.out]; unfold interl; rw [if_neg h200]
    subst e
    have kwd_2_0 := (B2.out.cells 0 _ rfl).1; have fwd_2_0 := (B2.out.cells 0 _ rfl).2; have kwd_2_1 := (B2.out.cells 1 _ rfl).1; have fwd_2_1 := (B2.out.cells 1 _ rfl).2; have kwd_2_2 := (B2.out.cells 2 _ rfl).1; have fwd_2_2 := (B2.out.cells 2 _ rfl).2; have kwd_2_3 := (B2.out.cells 3 _ rfl).1; have fwd_2_3 := (B2.out.cells 3 _ rfl).2; have kwd_2_4 := (B2.out.cells 4 _ rfl).1; have fwd_2_4 := (B2.out.cells 4 _ rfl).2; have kwd_3_0 := (B3.out.cells 0 _ rfl).1; have fwd_3_0 := (B3.out.cells 0 _ rfl).2; have kwd_3_1 := (B3.out.cells 1 _ rfl).1; have fwd_3_1 := (B3.out.cells 1 _ rfl).2; have kwd_3_2 := (B3.out.cells 2 _ rfl).1; have fwd_3_2 := (B3.out.cells 2 _ rfl).2; have kwd_3_3 := (B3.out.cells 3 _ rfl).1; have fwd_3_3 := (B3.out.cells 3 _ rfl).2; have kwd_3_4 := (B3.out.cells 4 _ rfl).1; have fwd_3_4 := (B3.out.cells 4 _ rfl).2; have kwd_gK_0 := (BK.out.cells 0 _ rfl).1; have fwd_gK_0 := (BK.out.cells 0 _ rfl).2; have kwd_gK_1 := (BK.out.cells 1 _ rfl).1; have fwd_gK_1 := (BK.out.cells 1 _ rfl).2; have kwd_gK_2 := (BK.out.cells 2 _ rfl).1; have fwd_gK_2 := (BK.out.cells 2 _ rfl).2; have kwd_gK_3 := (BK.out.cells 3 _ rfl).1; have fwd_gK_3 := (BK.out.cells 3 _ rfl).2; have kwd_gK_4 := (BK.out.cells 4 _ rfl).1; have fwd_gK_4 := (BK.out.cells 4 _ rfl).2; have kwd_gJ_0 := (BJ.out.cells 0 _ rfl).1; have fwd_gJ_0 := (BJ.out.cells 0 _ rfl).2; have kwd_gJ_1 := (BJ.out.cells 1 _ rfl).1; have fwd_gJ_1 := (BJ.out.cells 1 _ rfl).2; have kwd_gJ_2 := (BJ.out.cells 2 _ rfl).1; have fwd_gJ_2 := (BJ.out.cells 2 _ rfl).2; have kwd_gJ_3 := (BJ.out.cells 3 _ rfl).1; have fwd_gJ_3 := (BJ.out.cells 3 _ rfl).2; have kwd_gJ_4 := (BJ.out.cells 4 _ rfl).1; have fwd_gJ_4 := (BJ.out.cells 4 _ rfl).2
    have xwd_gK := BK.out.lt; have xwd_gJ := BJ.out.lt; have xwd_2 := B2.out.lt; have xwd_3 := B3.out.lt
    go_wp2_with (fail)
    go_region_held3 (fun w' => w'.cell? ⟨gK, 0, none⟩ = some (.slice yco yvs.length ycc) ∧ w'.cell? ⟨gK, 1, none⟩ = some (.slice yuo K.m.f.used.length yuc) ∧ w'.cell? ⟨gK, 2, none⟩ = some (.slice yeo K.m.ents.length yec) ∧ w'.cell? ⟨gK, 3, none⟩ = some (.int .i64 (K.calls)) ∧ w'.cell? ⟨gK, 4, none⟩ = some (.slice yro K.refuse.length yrc) ∧ w'.cell? ⟨gJ, 0, none⟩ = some (.int .i64 kp) ∧ w'.cell? ⟨gJ, 1, none⟩ = some (.int .i64 mv) ∧ w'.cell? ⟨gJ, 2, none⟩ = some (.slice vo cs.length vc) ∧ w'.cell? ⟨gJ, 3, none⟩ = some (.int .i64 ph) ∧ w'.cell? ⟨gJ, 4, none⟩ = some (.int .i64 nx)) ((refine ⟨?_, ?_, ?_, ?_, ?_, ?_, ?_, ?_, ?_, ?_⟩ <;> (go_simp; done))) (fail)
    all_goals go_wp2_with fail
    all_goals (refine bodyPost_ret (v := .tuple #[.agg #[.slice yco yvs.length ycc, .slice yuo K.m.f.used.length yuc, .slice yeo K.m.ents.length yec, .int .i64 (K.calls), .slice yro K.refuse.length yrc], .agg #[.int .i64 kp, .int .i64 mv, .slice vo cs.length vc, .int .i64 ph, .int .i64 nx], .slice uo xs.length uc]) (by simp [results, Try.results29, go_sem, kwd_2_0, fwd_2_0, kwd_2_1, fwd_2_1, kwd_2_2, fwd_2_2, kwd_2_3, fwd_2_3, kwd_2_4, fwd_2_4, kwd_3_0, fwd_3_0, kwd_3_1, fwd_3_1, kwd_3_2, fwd_3_2, kwd_3_3, fwd_3_3, kwd_3_4, fwd_3_4, kwd_gK_0, fwd_gK_0, kwd_gK_1, fwd_gK_1, kwd_gK_2, fwd_gK_2, kwd_gK_3, fwd_gK_3, kwd_gK_4, fwd_gK_4, kwd_gJ_0, fwd_gJ_0, kwd_gJ_1, fwd_gJ_1, kwd_gJ_2, fwd_gJ_2, kwd_gJ_3, fwd_gJ_3, kwd_gJ_4, fwd_gJ_4]) rfl ?_; refine ⟨⟨⟨⟨.slice yco yvs.length ycc, .slice yuo K.m.f.used.length yuc, yvs⟩, .slice yeo K.m.ents.length yec⟩, .slice yro K.refuse.length yrc⟩, .slice vo cs.length vc, .slice uo xs.length uc, rfl, ?_⟩; exact kjw_fin (S := [w.heap.size + 1 + 1, w.heap.size + 1 + 1 + 1, gK, gJ]) (wl := wd) OK.out OV.out OW.out (by omega) (by omega) (by omega) (by repeat (first | (with_reducible refine touch_setC ?_ (by simp)) | (with_reducible refine touch_drewT ?_) | (with_reducible exact Touch.refl _ _))) (fun g hg hm => by have h1 := (OK.out.lts g hg).1; have k1 := OF1.out g hg; simp only [List.mem_cons, List.not_mem_nil, or_false] at hm; omega) (fun g hg hm => by have h1 := (Own.lts OV.out g hg).1; have k1 := OF2.out g hg; simp only [List.mem_cons, List.not_mem_nil, or_false] at hm; omega) (fun g hg hm => by have h1 := (Own.lts OW.out g hg).1; have k1 := OF3.out g hg; simp only [List.mem_cons, List.not_mem_nil, or_false] at hm; omega) AP1.out AP2.out AP3.out HBW.out (fun g hm => by simp only [List.mem_cons, List.not_mem_nil, or_false] at hm; omega))
  have h201 : ¬ (200 : Int) < (order.length : Int) := by omega
  have HTE2 : Hid (ilTo kp mv cs order order.length ⟨⟨K, ph, nx⟩, xs⟩ = TE) := Lib.hid (by rw [← HTE.out]; unfold interl; rw [if_pos h200])
  clear HTE
  go_wp2_with (fail)
  go_loopw [30] (fun m wr => ∃ (n : Nat) (k : Ker) (ph1 nx1 : Int) (ws : List Wr) (y : KV) (zv : Value), m = .int .i64 (n : Int) ∧ n ≤ order.length ∧ ilTo kp mv cs order n ⟨⟨K, ph, nx⟩, xs⟩ = ⟨⟨k, ph1, nx1⟩, ws⟩ ∧ szK k ≤ 1048576 ∧ AdOk ws ∧ ws.length = xs.length ∧ BoxAt wr gK [y.m.f.c, y.m.f.u, y.m.e, .int .i64 k.calls, y.r] ∧ BoxAt wr gJ [.int .i64 kp, .int .i64 mv, zv, .int .i64 ph1, .int .i64 nx1] ∧ BoxAt wr (w.heap.size + 1 + 1) [.slice none 0 0, .slice none 0 0, .slice none 0 0, .int .i64 0, .slice none 0 0] ∧ BoxAt wr (w.heap.size + 1 + 1 + 1) [.int .i64 0, .int .i64 0, .slice none 0 0, .int .i64 0, .int .i64 0] ∧ KOwn (w.heap.size + 1 + 1 + 1 + 1) wr y k ∧ OwnI (w.heap.size + 1 + 1 + 1 + 1) wr zv cs ∧ OwnWr (w.heap.size + 1 + 1 + 1 + 1) wr (.slice uo xs.length uc) ws ∧ (∀ b ∈ blocks (y.all), b ≠ gK ∧ b ≠ gJ) ∧ (∀ b ∈ blocks ([zv]), b ≠ gK ∧ b ≠ gJ) ∧ (∀ b ∈ blocks ([.slice uo xs.length uc]), b ≠ gK ∧ b ≠ gJ) ∧ (∀ g ∈ blocks y.all, g ∉ blocks [zv]) ∧ (∀ g ∈ blocks y.all, g ∉ blocks [.slice uo xs.length uc]) ∧ (∀ g ∈ blocks [zv], g ∉ blocks [.slice uo xs.length uc]) ∧ Below w.heap.size w wr) (fun m _ => order.length - (intOf m).toNat)
  case atStart => exact ⟨0, K, ph, nx, xs, ⟨⟨⟨.slice yco yvs.length ycc, .slice yuo K.m.f.used.length yuc, yvs⟩, .slice yeo K.m.ents.length yec⟩, .slice yro K.refuse.length yrc⟩, .slice vo cs.length vc, rfl, Nat.zero_le _, rfl, H1.out, HAD.out, rfl, BK.out, BJ.out, B2.out, B3.out, OK.out, OV.out, OW.out, OF1.out, OF2.out, OF3.out, AP1.out, AP2.out, AP3.out, HBW.out⟩
  case round =>
    clear HK HV HU HAD H1 BK BJ B2 B3 OK OV OW OF1 OF2 OF3 AP1 AP2 AP3 HBW
    obtain ⟨n, k, ph1, nx1, ws, z, zv, rfl, hn, ht, hsz, had, hwl, bK, bJ, b2, b3, oK, oV, oU, of1, of2, of3, ap1, ap2, ap3, hbw⟩ := hrel
    obtain ⟨zco, zcc, zuo, zuc, zvs, zeo, zec, zro, zrc, rfl⟩ := oK.shapes
    obtain ⟨zvo, zvc, rfl, -, -⟩ := oV.shape
    obtain ⟨we, rfl⟩ : ∃ x, x = wr := ⟨_, rfl⟩
    have hzw := hbw.size
    have BK := Lib.hid bK; have BJ := Lib.hid bJ; have B2 := Lib.hid b2; have B3 := Lib.hid b3; have OZ := Lib.hid oK; have OV := Lib.hid oV; have OU := Lib.hid oU; have OF1 := Lib.hid of1; have OF2 := Lib.hid of2; have OF3 := Lib.hid of3; have AP1 := Lib.hid ap1; have AP2 := Lib.hid ap2; have AP3 := Lib.hid ap3; have BWE := Lib.hid hbw; have HSZ := Lib.hid hsz; have HT := Lib.hid ht; have HAD := Lib.hid had; have HWL := Lib.hid hwl
    clear bK bJ b2 b3 oK oV oU of1 of2 of3 ap1 ap2 ap3 hbw hsz ht had hwl
    dsimp only at BK
    have kwe_2_0 := (B2.out.cells 0 _ rfl).1; have fwe_2_0 := (B2.out.cells 0 _ rfl).2; have kwe_2_1 := (B2.out.cells 1 _ rfl).1; have fwe_2_1 := (B2.out.cells 1 _ rfl).2; have kwe_2_2 := (B2.out.cells 2 _ rfl).1; have fwe_2_2 := (B2.out.cells 2 _ rfl).2; have kwe_2_3 := (B2.out.cells 3 _ rfl).1; have fwe_2_3 := (B2.out.cells 3 _ rfl).2; have kwe_2_4 := (B2.out.cells 4 _ rfl).1; have fwe_2_4 := (B2.out.cells 4 _ rfl).2; have kwe_3_0 := (B3.out.cells 0 _ rfl).1; have fwe_3_0 := (B3.out.cells 0 _ rfl).2; have kwe_3_1 := (B3.out.cells 1 _ rfl).1; have fwe_3_1 := (B3.out.cells 1 _ rfl).2; have kwe_3_2 := (B3.out.cells 2 _ rfl).1; have fwe_3_2 := (B3.out.cells 2 _ rfl).2; have kwe_3_3 := (B3.out.cells 3 _ rfl).1; have fwe_3_3 := (B3.out.cells 3 _ rfl).2; have kwe_3_4 := (B3.out.cells 4 _ rfl).1; have fwe_3_4 := (B3.out.cells 4 _ rfl).2; have kwe_gK_0 := (BK.out.cells 0 _ rfl).1; have fwe_gK_0 := (BK.out.cells 0 _ rfl).2; have kwe_gK_1 := (BK.out.cells 1 _ rfl).1; have fwe_gK_1 := (BK.out.cells 1 _ rfl).2; have kwe_gK_2 := (BK.out.cells 2 _ rfl).1; have fwe_gK_2 := (BK.out.cells 2 _ rfl).2; have kwe_gK_3 := (BK.out.cells 3 _ rfl).1; have fwe_gK_3 := (BK.out.cells 3 _ rfl).2; have kwe_gK_4 := (BK.out.cells 4 _ rfl).1; have fwe_gK_4 := (BK.out.cells 4 _ rfl).2; have kwe_gJ_0 := (BJ.out.cells 0 _ rfl).1; have fwe_gJ_0 := (BJ.out.cells 0 _ rfl).2; have kwe_gJ_1 := (BJ.out.cells 1 _ rfl).1; have fwe_gJ_1 := (BJ.out.cells 1 _ rfl).2; have kwe_gJ_2 := (BJ.out.cells 2 _ rfl).1; have fwe_gJ_2 := (BJ.out.cells 2 _ rfl).2; have kwe_gJ_3 := (BJ.out.cells 3 _ rfl).1; have fwe_gJ_3 := (BJ.out.cells 3 _ rfl).2; have kwe_gJ_4 := (BJ.out.cells 4 _ rfl).1; have fwe_gJ_4 := (BJ.out.cells 4 _ rfl).2
    have xwe_gK := BK.out.lt; have xwe_gJ := BJ.out.lt; have xwe_2 := B2.out.lt; have xwe_3 := B3.out.lt
    by_cases hlt : n < order.length
    rotate_left
    · have hltI : ¬ (n : Int) < order.length := by omega
      obtain rfl : n = order.length := by omega
      have e : TE = ⟨⟨k, ph1, nx1⟩, ws⟩ := HTE2.out.symm.trans HT.out
      subst e
      go_wp2_with (fail)
      go_region_held3 (fun w' => w'.cell? ⟨gK, 0, none⟩ = some (.slice zco zvs.length zcc) ∧ w'.cell? ⟨gK, 1, none⟩ = some (.slice zuo k.m.f.used.length zuc) ∧ w'.cell? ⟨gK, 2, none⟩ = some (.slice zeo k.m.ents.length zec) ∧ w'.cell? ⟨gK, 3, none⟩ = some (.int .i64 (k.calls)) ∧ w'.cell? ⟨gK, 4, none⟩ = some (.slice zro k.refuse.length zrc) ∧ w'.cell? ⟨gJ, 0, none⟩ = some (.int .i64 kp) ∧ w'.cell? ⟨gJ, 1, none⟩ = some (.int .i64 mv) ∧ w'.cell? ⟨gJ, 2, none⟩ = some ((.slice zvo cs.length zvc)) ∧ w'.cell? ⟨gJ, 3, none⟩ = some (.int .i64 ph1) ∧ w'.cell? ⟨gJ, 4, none⟩ = some (.int .i64 nx1)) ((refine ⟨?_, ?_, ?_, ?_, ?_, ?_, ?_, ?_, ?_, ?_⟩ <;> (go_simp; done))) (fail)
      all_goals go_wp2_with fail
      all_goals (refine bodyPost_ret (v := .tuple #[.agg #[.slice zco zvs.length zcc, .slice zuo k.m.f.used.length zuc, .slice zeo k.m.ents.length zec, .int .i64 (k.calls), .slice zro k.refuse.length zrc], .agg #[.int .i64 kp, .int .i64 mv, (.slice zvo cs.length zvc), .int .i64 ph1, .int .i64 nx1], .slice uo xs.length uc]) (by simp [results, Try.results29, go_sem, kwe_2_0, fwe_2_0, kwe_2_1, fwe_2_1, kwe_2_2, fwe_2_2, kwe_2_3, fwe_2_3, kwe_2_4, fwe_2_4, kwe_3_0, fwe_3_0, kwe_3_1, fwe_3_1, kwe_3_2, fwe_3_2, kwe_3_3, fwe_3_3, kwe_3_4, fwe_3_4, kwe_gK_0, fwe_gK_0, kwe_gK_1, fwe_gK_1, kwe_gK_2, fwe_gK_2, kwe_gK_3, fwe_gK_3, kwe_gK_4, fwe_gK_4, kwe_gJ_0, fwe_gJ_0, kwe_gJ_1, fwe_gJ_1, kwe_gJ_2, fwe_gJ_2, kwe_gJ_3, fwe_gJ_3, kwe_gJ_4, fwe_gJ_4]) rfl ?_; refine ⟨⟨⟨⟨.slice zco zvs.length zcc, .slice zuo k.m.f.used.length zuc, zvs⟩, .slice zeo k.m.ents.length zec⟩, .slice zro k.refuse.length zrc⟩, (.slice zvo cs.length zvc), .slice uo xs.length uc, rfl, ?_⟩; exact kjw_fin (S := [w.heap.size + 1 + 1, w.heap.size + 1 + 1 + 1, gK, gJ]) (wl := we) OZ.out OV.out OU.out (by omega) (by omega) (by omega) (by repeat (first | (with_reducible refine touch_setC ?_ (by simp)) | (with_reducible refine touch_drewT ?_) | (with_reducible exact Touch.refl _ _))) (fun g hg hm => by have h1 := (OZ.out.lts g hg).1; have k1 := OF1.out g hg; simp only [List.mem_cons, List.not_mem_nil, or_false] at hm; omega) (fun g hg hm => by have h1 := (Own.lts OV.out g hg).1; have k1 := OF2.out g hg; simp only [List.mem_cons, List.not_mem_nil, or_false] at hm; omega) (fun g hg hm => by have h1 := (Own.lts OU.out g hg).1; have k1 := OF3.out g hg; simp only [List.mem_cons, List.not_mem_nil, or_false] at hm; omega) AP1.out AP2.out AP3.out BWE.out (fun g hm => by simp only [List.mem_cons, List.not_mem_nil, or_false] at hm; omega))
    have hltI : (n : Int) < order.length := by omega
    have hn0 : (0 : Int) ≤ n := by omega
    obtain ⟨x, hx⟩ := getx hlt
    obtain ⟨gr, ro, rfl, hgr, c0⟩ := HR.out n x hx
    replace c0 := (BWE.out.cell (p := ⟨gr, ro + n, none⟩) hgr).trans c0
    have HGD := Lib.hid (show order.getD n 0 = x from getD_of hx)
    have xgr : gr < we.heap.size := by omega
    have r1 : ¬ gr = gK := by omega
    have r2 : ¬ gK = gr := by omega
    have r3 : ¬ gr = gJ := by omega
    have r4 : ¬ gJ = gr := by omega
    clear hx
    by_cases hx1 : x = -1
    · subst hx1
      have hst : ilStep kp mv cs (-1) ⟨⟨k, ph1, nx1⟩, ws⟩ = ⟨jsStep kp mv cs ⟨k, ph1, nx1⟩, ws⟩ := by unfold ilStep; rw [if_pos rfl]
      unfold jsStep at hst
      dsimp only at hst
      have hsz2 := szK_job k kp mv cs ph1 nx1
      have cp := fun W (h1 : KAt W ⟨⟨⟨.slice zco zvs.length zcc, .slice zuo k.m.f.used.length zuc, zvs⟩, .slice zeo k.m.ents.length zec⟩, .slice zro k.refuse.length zrc⟩ k) (h2 : IntsAt W (.slice zvo cs.length zvc) cs) => i_JobStep ⟨⟨⟨.slice zco zvs.length zcc, .slice zuo k.m.f.used.length zuc, zvs⟩, .slice zeo k.m.ents.length zec⟩, .slice zro k.refuse.length zrc⟩ k kp mv (.slice zvo cs.length zvc) cs ph1 nx1 HSZ.out H3.out W h1 h2
      simp only [KV.val] at cp
      generalize jobK k kp mv cs ph1 nx1 = K2 at cp hst hsz2
      generalize jobPh k kp mv cs ph1 nx1 = ph2 at cp hst
      generalize jobNx k kp mv cs ph1 nx1 = nx2 at cp hst
      have HST := Lib.hid hst
      have HS2 : Hid (szK K2 ≤ 1048576) := Lib.hid (by rw [hsz2]; exact HSZ.out)
      have CP := Lib.hid cp
      clear cp hst hsz2
      go_wp2_with ((go_at_call 40; (refine (CP.out _ OZ.out.at (OV.out.at lenInt)).mono ?_; rintro e w2 ⟨x, u9, rfl, hxo, hu, hxu, hb⟩; obtain ⟨xco, xcc, xuo, xuc, xvs, xeo, xec, xro, xrc, rfl⟩ := hxo.shapes; obtain ⟨uo2, uc2, rfl, -, -⟩ := hu.shape; have OX := Lib.hid hxo; have OX2 := Lib.hid hu; have AX := Lib.hid hxu; have HBX := Lib.hid hb; obtain ⟨kwf_2_0, fwf_2_0, kwf_2_1, fwf_2_1, kwf_2_2, fwf_2_2, kwf_2_3, fwf_2_3, kwf_2_4, fwf_2_4⟩ := kf5 hb (w.heap.size + 1 + 1) (.slice none 0 0) (.slice none 0 0) (.slice none 0 0) (.int .i64 0) (.slice none 0 0); obtain ⟨kwf_3_0, fwf_3_0, kwf_3_1, fwf_3_1, kwf_3_2, fwf_3_2, kwf_3_3, fwf_3_3, kwf_3_4, fwf_3_4⟩ := kf5 hb (w.heap.size + 1 + 1 + 1) (.int .i64 0) (.int .i64 0) (.slice none 0 0) (.int .i64 0) (.int .i64 0); obtain ⟨kwf_gK_0, fwf_gK_0, kwf_gK_1, fwf_gK_1, kwf_gK_2, fwf_gK_2, kwf_gK_3, fwf_gK_3, kwf_gK_4, fwf_gK_4⟩ := kf5 hb (gK) (.slice zco zvs.length zcc) (.slice zuo k.m.f.used.length zuc) (.slice zeo k.m.ents.length zec) (.int .i64 (k.calls)) (.slice zro k.refuse.length zrc); obtain ⟨kwf_gJ_0, fwf_gJ_0, kwf_gJ_1, fwf_gJ_1, kwf_gJ_2, fwf_gJ_2, kwf_gJ_3, fwf_gJ_3, kwf_gJ_4, fwf_gJ_4⟩ := kf5 hb (gJ) (.int .i64 kp) (.int .i64 mv) ((.slice zvo cs.length zvc)) (.int .i64 ph1) (.int .i64 nx1); have xwf_2 : w.heap.size + 1 + 1 < w2.heap.size := xc hb; have xwf_3 : w.heap.size + 1 + 1 + 1 < w2.heap.size := xc hb; have xwf_gK : gK < w2.heap.size := xc hb; have xwf_gJ : gJ < w2.heap.size := xc hb; have hzwf := hb.size; (try simp only [World.size_alloc, World.size_setCell, World.size_drew] at hzwf); clear hxo hu hxu; simp only [KV.val]; obtain ⟨wf, rfl⟩ : ∃ x, x = w2 := ⟨_, rfl⟩)))
      have HT9 := Lib.hid (show Touch [gK, gJ] wf (((((((((((wf.setCell ⟨gK, 0, none⟩ (.slice xco xvs.length xcc)).setCell ⟨gK, 1, none⟩ (.slice xuo K2.m.f.used.length xuc)).setCell ⟨gK, 2, none⟩ (.slice xeo K2.m.ents.length xec)).setCell ⟨gK, 3, none⟩ (.int .i64 (K2.calls))).setCell ⟨gK, 4, none⟩ (.slice xro K2.refuse.length xrc)).setCell ⟨gJ, 0, none⟩ (.int .i64 kp)).setCell ⟨gJ, 1, none⟩ (.int .i64 mv)).setCell ⟨gJ, 2, none⟩ ((.slice uo2 cs.length uc2))).setCell ⟨gJ, 3, none⟩ (.int .i64 ph2)).setCell ⟨gJ, 4, none⟩ (.int .i64 nx2))) from (by repeat (first | (with_reducible refine touch_setC ?_ (by simp)) | (with_reducible exact Touch.refl _ _))))
      go_roundw
      case rel =>
        refine ⟨n + 1, K2, ph2, nx2, ws, ⟨⟨⟨.slice xco xvs.length xcc, .slice xuo K2.m.f.used.length xuc, xvs⟩, .slice xeo K2.m.ents.length xec⟩, .slice xro K2.refuse.length xrc⟩, (.slice uo2 cs.length uc2), by go_num, by omega, by rw [ilTo, HT.out, HGD.out]; exact HST.out, HS2.out, HAD.out, HWL.out, (BoxAt.snoc (BoxAt.snoc (BoxAt.snoc (BoxAt.snoc (BoxAt.snoc (BoxAt.nil (w := _) (g := gK) (by exact zo)) (v := .slice xco xvs.length xcc) (i := 0) rfl (by go_simp) (by go_simp)) (v := .slice xuo K2.m.f.used.length xuc) (i := 1) rfl (by go_simp) (by go_simp)) (v := .slice xeo K2.m.ents.length xec) (i := 2) rfl (by go_simp) (by go_simp)) (v := .int .i64 (K2.calls)) (i := 3) rfl (by go_simp) (by go_simp)) (v := .slice xro K2.refuse.length xrc) (i := 4) rfl (by go_simp) (by go_simp)), (BoxAt.snoc (BoxAt.snoc (BoxAt.snoc (BoxAt.snoc (BoxAt.snoc (BoxAt.nil (w := _) (g := gJ) (by exact zo)) (v := .int .i64 kp) (i := 0) rfl (by go_simp) (by go_simp)) (v := .int .i64 mv) (i := 1) rfl (by go_simp) (by go_simp)) (v := (.slice uo2 cs.length uc2)) (i := 2) rfl (by go_simp) (by go_simp)) (v := .int .i64 ph2) (i := 3) rfl (by go_simp) (by go_simp)) (v := .int .i64 nx2) (i := 4) rfl (by go_simp) (by go_simp)), (BoxAt.snoc (BoxAt.snoc (BoxAt.snoc (BoxAt.snoc (BoxAt.snoc (BoxAt.nil (w := _) (g := w.heap.size + 1 + 1) (by exact zo)) (v := .slice none 0 0) (i := 0) rfl (by go_simp) (by go_simp)) (v := .slice none 0 0) (i := 1) rfl (by go_simp) (by go_simp)) (v := .slice none 0 0) (i := 2) rfl (by go_simp) (by go_simp)) (v := .int .i64 0) (i := 3) rfl (by go_simp) (by go_simp)) (v := .slice none 0 0) (i := 4) rfl (by go_simp) (by go_simp)), (BoxAt.snoc (BoxAt.snoc (BoxAt.snoc (BoxAt.snoc (BoxAt.snoc (BoxAt.nil (w := _) (g := w.heap.size + 1 + 1 + 1) (by exact zo)) (v := .int .i64 0) (i := 0) rfl (by go_simp) (by go_simp)) (v := .int .i64 0) (i := 1) rfl (by go_simp) (by go_simp)) (v := .slice none 0 0) (i := 2) rfl (by go_simp) (by go_simp)) (v := .int .i64 0) (i := 3) rfl (by go_simp) (by go_simp)) (v := .int .i64 0) (i := 4) rfl (by go_simp) (by go_simp)), ?_, ?_, ?_, ?_, ?_, OF3.out, AX.out, ?_, ?_, ?_⟩
        · exact (OX.out.touch HT9.out (fun g hg hm => by have h1 := (OX.out.lts g hg).1; simp only [List.mem_cons, List.not_mem_nil, or_false] at hm; omega)).mono (by omega)
        · exact (Own.touchs OX2.out HT9.out (fun g hg hm => by have h1 := (Own.lts OX2.out g hg).1; simp only [List.mem_cons, List.not_mem_nil, or_false] at hm; omega)).mono (by omega)
        · exact Own.touchs (Own.below OU.out HBX.out) HT9.out (fun g hg hm => by have k1 := OF3.out g hg; rcases List.mem_cons.1 hm with e | hm; (focus exact k1.1 e); (focus exact k1.2 (List.mem_singleton.1 hm)))
        · intro b hb; have h1 := (OX.out.lts b hb).1; omega
        · intro b hb; have h1 := (Own.lts OX2.out b hb).1; omega
        · intro g hg hm; have h1 := (OX.out.lts g hg).1; have h2 := (Own.lts OU.out g hm).2; omega
        · intro g hg hm; have h1 := (Own.lts OX2.out g hg).1; have h2 := (Own.lts OU.out g hm).2; omega
        · exact (BWE.out.trans (HBX.out.mono (by omega))).trans (HT9.out.toBelow (fun g hm => by simp only [List.mem_cons, List.not_mem_nil, or_false] at hm; omega) (by omega))
      case measure => first | (simp [intOf]; done) | (simp [intOf]; omega)
    have hx2 : (x == -1) = false := by simpa using hx1
    have hx3 : (x != -1) = true := by simpa using hx1
    have hx4 : decide (x = -1) = false := by simpa using hx1
    cases hbt : between x 0 (xs.length - 1)
    · have hst : ilStep kp mv cs x ⟨⟨k, ph1, nx1⟩, ws⟩ = ⟨⟨k, ph1, nx1⟩, ws⟩ := by
        unfold ilStep
        rw [if_neg hx1]
        dsimp only
        rw [HWL.out, hbt]; rfl
      have HST := Lib.hid hst
      clear hst
      go_wp2_with ((go_at_call 39; ((refine (i_between _ _ _ false (by assumption) _).mono ?_)); rintro e w2 ⟨rfl, rfl⟩))
      go_roundw
      case rel =>
        refine ⟨n + 1, k, ph1, nx1, ws, ⟨⟨⟨.slice zco zvs.length zcc, .slice zuo k.m.f.used.length zuc, zvs⟩, .slice zeo k.m.ents.length zec⟩, .slice zro k.refuse.length zrc⟩, (.slice zvo cs.length zvc), by go_num, by omega, by rw [ilTo, HT.out, HGD.out]; exact HST.out, HSZ.out, HAD.out, HWL.out, BK.out, BJ.out, B2.out, B3.out, OZ.out, OV.out, OU.out, OF1.out, OF2.out, OF3.out, AP1.out, AP2.out, AP3.out, BWE.out⟩
      case measure => first | (simp [intOf]; done) | (simp [intOf]; omega)
    · have hbi := between_iff.1 hbt
      obtain ⟨q, rfl⟩ := Int.eq_ofNat_of_zero_le hbi.1
      have hq : q < xs.length := by omega
      have hqI : (q : Int) < xs.length := by omega
      have hq0 : (0 : Int) ≤ q := by omega
      have hst : ilStep kp mv cs (q : Int) ⟨⟨k, ph1, nx1⟩, ws⟩ = wStep q ⟨⟨k, ph1, nx1⟩, ws⟩ := by
        unfold ilStep
        rw [if_neg hx1]
        dsimp only
        rw [HWL.out, hbt, if_pos rfl, Int.toNat_natCast]
      obtain ⟨⟨ad, va, dn, wt⟩, hx⟩ := getx (xs := ws) (k := q) (by have := HWL.out; omega)
      have HX := Lib.hid hx
      obtain ⟨gu, uc', hue, hgB, hgu⟩ := Own.addr OU.out (by have := HWL.out; omega)
      simp only [Value.slice.injEq] at hue
      obtain ⟨rfl, hue1, rfl⟩ := hue
      have hgo := OF3.out gu (mem_one rfl)
      have g1 : ¬ gu = gK := hgo.1
      have g2 : ¬ gK = gu := fun e => hgo.1 e.symm
      have g3 : ¬ gu = gJ := hgo.2
      have g4 : ¬ gJ = gu := fun e => hgo.2 e.symm
      have g5 : ¬ gu = w.heap.size + 1 + 1 := by omega
      have g6 : ¬ w.heap.size + 1 + 1 = gu := by omega
      have g7 : ¬ gu = w.heap.size + 1 + 1 + 1 := by omega
      have g8 : ¬ w.heap.size + 1 + 1 + 1 = gu := by omega
      obtain ⟨-, -, e0, d0, e1, d1, e2, d2', e3, d3⟩ := OwnWr.slot OU.out hx
      dsimp only at e0 e1 e2 e3
      rw [wStep_at hx] at hst
      have hadw := HAD.out q _ hx
      dsimp only at hadw
      have hsz2 := szK_wr k ⟨ad, va, dn, wt⟩
      have hda := wrW_ad k ⟨ad, va, dn, wt⟩
      have cp := fun W (h1 : KAt W ⟨⟨⟨.slice zco zvs.length zcc, .slice zuo k.m.f.used.length zuc, zvs⟩, .slice zeo k.m.ents.length zec⟩, .slice zro k.refuse.length zrc⟩ k) => i_WriterStep ⟨⟨⟨.slice zco zvs.length zcc, .slice zuo k.m.f.used.length zuc, zvs⟩, .slice zeo k.m.ents.length zec⟩, .slice zro k.refuse.length zrc⟩ k ad va dn wt HSZ.out hadw W h1
      simp only [KV.val] at cp
      obtain ⟨K2, hK2⟩ : ∃ q, wrK k ⟨ad, va, dn, wt⟩ = q := ⟨_, rfl⟩
      obtain ⟨X2, hX2⟩ : ∃ q, wrW k ⟨ad, va, dn, wt⟩ = q := ⟨_, rfl⟩
      rw [hK2] at cp hst hsz2
      rw [hX2] at cp hst hda
      obtain ⟨a2, v2, d2, t2⟩ := X2
      have HST := Lib.hid hst; have HDA := Lib.hid hda
      have HS2 : Hid (szK K2 ≤ 1048576) := Lib.hid (by rw [hsz2]; exact HSZ.out)
      have CP := Lib.hid cp
      clear cp hst hda hsz2 hK2 hX2 hadw hgo hx hue1
      go_wp2_with ((go_at_call 39; ((refine (i_between _ _ _ true (by assumption) _).mono ?_)); rintro e w2 ⟨rfl, rfl⟩))
      go_region_with ((go_at_call 31; (refine (CP.out _ (OZ.out.at.below (by exact bel))).mono ?_; rintro e w2 ⟨x9, rfl, hxo, hb⟩; (obtain ⟨xco, xcc, xuo, xuc, xvs, xeo, xec, xro, xrc, rfl⟩ := KOwn.shapes hxo); have OX := Lib.hid hxo; have HBX := Lib.hid hb; (have HX0 : Hid (∀ g ∈ blocks (KV.all ⟨⟨⟨.slice xco xvs.length xcc, .slice xuo K2.m.f.used.length xuc, xvs⟩, .slice xeo K2.m.ents.length xec⟩, .slice xro K2.refuse.length xrc⟩), we.heap.size ≤ g ∧ g < w2.heap.size) := Lib.hid (fun g hg => by have h := KOwn.lts hxo g hg; (try simp only [World.size_setCell, World.size_drew] at h); exact h)); (have HBW2 := Lib.hid (show Below we.heap.size we w2 from (by exact bel))); obtain ⟨kwf_2_0, fwf_2_0, kwf_2_1, fwf_2_1, kwf_2_2, fwf_2_2, kwf_2_3, fwf_2_3, kwf_2_4, fwf_2_4⟩ := kf5 hb (w.heap.size + 1 + 1) (.slice none 0 0) (.slice none 0 0) (.slice none 0 0) (.int .i64 0) (.slice none 0 0); obtain ⟨kwf_3_0, fwf_3_0, kwf_3_1, fwf_3_1, kwf_3_2, fwf_3_2, kwf_3_3, fwf_3_3, kwf_3_4, fwf_3_4⟩ := kf5 hb (w.heap.size + 1 + 1 + 1) (.int .i64 0) (.int .i64 0) (.slice none 0 0) (.int .i64 0) (.int .i64 0); obtain ⟨kwf_gK_0, fwf_gK_0, kwf_gK_1, fwf_gK_1, kwf_gK_2, fwf_gK_2, kwf_gK_3, fwf_gK_3, kwf_gK_4, fwf_gK_4⟩ := kf5 hb (gK) (.slice zco zvs.length zcc) (.slice zuo k.m.f.used.length zuc) (.slice zeo k.m.ents.length zec) (.int .i64 (k.calls)) (.slice zro k.refuse.length zrc); obtain ⟨kwf_gJ_0, fwf_gJ_0, kwf_gJ_1, fwf_gJ_1, kwf_gJ_2, fwf_gJ_2, kwf_gJ_3, fwf_gJ_3, kwf_gJ_4, fwf_gJ_4⟩ := kf5 hb (gJ) (.int .i64 kp) (.int .i64 mv) ((.slice zvo cs.length zvc)) (.int .i64 ph1) (.int .i64 nx1); have kwf_E0 : w2.cell? ⟨gu, q * 4, none⟩ = some (.int .i64 ad) := kc hb; have fwf_E0 : w2.frozen? ⟨gu, q * 4, none⟩ = false := fc hb; have kwf_E1 : w2.cell? ⟨gu, q * 4 + 1, none⟩ = some (.int .i64 va) := kc hb; have fwf_E1 : w2.frozen? ⟨gu, q * 4 + 1, none⟩ = false := fc hb; have kwf_E2 : w2.cell? ⟨gu, q * 4 + 2, none⟩ = some (.bool dn) := kc hb; have fwf_E2 : w2.frozen? ⟨gu, q * 4 + 2, none⟩ = false := fc hb; have kwf_E3 : w2.cell? ⟨gu, q * 4 + 3, none⟩ = some (.int .i64 wt) := kc hb; have fwf_E3 : w2.frozen? ⟨gu, q * 4 + 3, none⟩ = false := fc hb; have xwf_2 : w.heap.size + 1 + 1 < w2.heap.size := xc hb; have xwf_3 : w.heap.size + 1 + 1 + 1 < w2.heap.size := xc hb; have xwf_gK : gK < w2.heap.size := xc hb; have xwf_gJ : gJ < w2.heap.size := xc hb; have xwf_EX : gu < w2.heap.size := xc hb; have hzwf := hb.size; (try simp only [World.size_alloc, World.size_setCell, World.size_drew] at hzwf); clear hxo; simp only [KV.val, Wr.val]; obtain ⟨wf, rfl⟩ : ∃ x, x = w2 := ⟨_, rfl⟩)))
      all_goals (
        go_wp2_with fail
        go_roundw
        case rel =>
            refine ⟨n + 1, K2, ph1, nx1, ws.set q ⟨a2, v2, d2, t2⟩, ⟨⟨⟨.slice xco xvs.length xcc, .slice xuo K2.m.f.used.length xuc, xvs⟩, .slice xeo K2.m.ents.length xec⟩, .slice xro K2.refuse.length xrc⟩, (.slice zvo cs.length zvc), by go_num, by omega, by rw [ilTo, HT.out, HGD.out]; exact HST.out, HS2.out, HAD.out.set HX.out HDA.out, by rw [List.length_set]; exact HWL.out, (BoxAt.snoc (BoxAt.snoc (BoxAt.snoc (BoxAt.snoc (BoxAt.snoc (BoxAt.nil (w := _) (g := gK) (by exact zo)) (v := .slice xco xvs.length xcc) (i := 0) rfl (by go_simp) (by go_simp)) (v := .slice xuo K2.m.f.used.length xuc) (i := 1) rfl (by go_simp) (by go_simp)) (v := .slice xeo K2.m.ents.length xec) (i := 2) rfl (by go_simp) (by go_simp)) (v := .int .i64 (K2.calls)) (i := 3) rfl (by go_simp) (by go_simp)) (v := .slice xro K2.refuse.length xrc) (i := 4) rfl (by go_simp) (by go_simp)), (BoxAt.snoc (BoxAt.snoc (BoxAt.snoc (BoxAt.snoc (BoxAt.snoc (BoxAt.nil (w := _) (g := gJ) (by exact zo)) (v := .int .i64 kp) (i := 0) rfl (by go_simp) (by go_simp)) (v := .int .i64 mv) (i := 1) rfl (by go_simp) (by go_simp)) (v := (.slice zvo cs.length zvc)) (i := 2) rfl (by go_simp) (by go_simp)) (v := .int .i64 ph1) (i := 3) rfl (by go_simp) (by go_simp)) (v := .int .i64 nx1) (i := 4) rfl (by go_simp) (by go_simp)), (BoxAt.snoc (BoxAt.snoc (BoxAt.snoc (BoxAt.snoc (BoxAt.snoc (BoxAt.nil (w := _) (g := w.heap.size + 1 + 1) (by exact zo)) (v := .slice none 0 0) (i := 0) rfl (by go_simp) (by go_simp)) (v := .slice none 0 0) (i := 1) rfl (by go_simp) (by go_simp)) (v := .slice none 0 0) (i := 2) rfl (by go_simp) (by go_simp)) (v := .int .i64 0) (i := 3) rfl (by go_simp) (by go_simp)) (v := .slice none 0 0) (i := 4) rfl (by go_simp) (by go_simp)), (BoxAt.snoc (BoxAt.snoc (BoxAt.snoc (BoxAt.snoc (BoxAt.snoc (BoxAt.nil (w := _) (g := w.heap.size + 1 + 1 + 1) (by exact zo)) (v := .int .i64 0) (i := 0) rfl (by go_simp) (by go_simp)) (v := .int .i64 0) (i := 1) rfl (by go_simp) (by go_simp)) (v := .slice none 0 0) (i := 2) rfl (by go_simp) (by go_simp)) (v := .int .i64 0) (i := 3) rfl (by go_simp) (by go_simp)) (v := .int .i64 0) (i := 4) rfl (by go_simp) (by go_simp)), ?_, ?_, ?_, ?_, OF2.out, OF3.out, ?_, ?_, AP3.out, ?_⟩
            · exact KOwn.mono (KOwn.touch (S := [gK, gu]) OX.out (by repeat (first | (with_reducible refine touch_setC ?_ (by simp)) | (with_reducible exact Touch.refl _ _))) (fun g hg hm => by have h1 := (HX0.out g hg).1; simp only [List.mem_cons, List.not_mem_nil, or_false] at hm; omega)) (by first | omega | exact zo | exact zt)
            · exact Own.touchs (S := [gK, gu]) (Own.below OV.out HBW2.out) (by repeat (first | (with_reducible refine touch_setC ?_ (by simp)) | (with_reducible exact Touch.refl _ _))) (fun g hg hm => by have h1 := OF2.out g hg; rcases List.mem_cons.1 hm with e | hm; (focus exact h1.1 e); (focus (cases List.mem_singleton.1 hm; exact AP3.out _ hg (mem_one rfl))))
            · first
              | (with_reducible refine OwnWr.put (w := (((((wf.setCell ⟨gK, 0, none⟩ (.slice xco xvs.length xcc)).setCell ⟨gK, 1, none⟩ (.slice xuo K2.m.f.used.length xuc)).setCell ⟨gK, 2, none⟩ (.slice xeo K2.m.ents.length xec)).setCell ⟨gK, 3, none⟩ (.int .i64 (K2.calls))).setCell ⟨gK, 4, none⟩ (.slice xro K2.refuse.length xrc))) ?_ ?_ a2 v2 d2 t2
                 (focus (exact Own.touchs (S := [gK]) (Own.below OU.out HBW2.out) (by repeat (first | (with_reducible refine touch_setC ?_ (by simp)) | (with_reducible exact Touch.refl _ _))) (fun g hg hm => by have h1 := OF3.out g hg; cases List.mem_singleton.1 hm; exact h1.1 rfl)))
                 (focus (have := HWL.out; omega)))
              | (refine Own.touchs (S := [gK]) (w := ((((wf.setCell ⟨gu, q * 4, none⟩ (.int .i64 a2)).setCell ⟨gu, q * 4 + 1, none⟩ (.int .i64 v2)).setCell ⟨gu, q * 4 + 2, none⟩ (.bool d2)).setCell ⟨gu, q * 4 + 3, none⟩ (.int .i64 t2))) ?_ ?_ ?_
                 (focus (exact OwnWr.put (Own.below OU.out HBW2.out) (by have := HWL.out; omega) a2 v2 d2 t2))
                 (focus (exact (by repeat (fail))))
                 (focus (intro g hg hm; have h1 := OF3.out g hg; cases List.mem_singleton.1 hm; exact h1.1 rfl)))
            · intro b hb; have h1 := (HX0.out b hb).1; omega
            · intro g hg hm; have h1 := (HX0.out g hg).1; have h2 := (Own.lts OV.out g hm).2; omega
            · intro g hg hm; have h1 := (HX0.out g hg).1; have h2 := (Own.lts OU.out g hm).2; omega
            · exact (BWE.out.trans (HBW2.out.mono (by omega))).trans (Touch.toBelow (S := [gK, gu]) (by repeat (first | (with_reducible refine touch_setC ?_ (by simp)) | (with_reducible exact Touch.refl _ _))) (fun g hm => by simp only [List.mem_cons, List.not_mem_nil, or_false] at hm; omega) (by omega))
        case measure => first | (simp [intOf]; done) | (simp [intOf]; omega))

end Go.Proofs.Ytkkebpcclklmcaa
