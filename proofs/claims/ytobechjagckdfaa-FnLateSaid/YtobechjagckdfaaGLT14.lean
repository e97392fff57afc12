/-
  Texts put together: MachNew3, Cells, Free, Frame.
-/
import Derived.Test.YtobechjagckdfaaGLT13
import Derived.Test.YtobechjagckdfaaGLT10
import Derived.Deep.DeepCutAuto
import Derived.Test.YtobechjagckdfaaGLT5
import Derived.Test.YtobechjagckdfaaGLT9
import Derived.Test.YtobechjagckdfaaGLT12
import Derived.Test.YtobechjagckdfaaGLT11
import Derived.Test.YtobechjagckdfaaRows
import Derived.WalkKit
import Derived.ProofKit
import Derived.OpenShut
import Derived.Lib.SmallJoins
/-
  New kernels, by the reference.
-/
set_option linter.unusedVariables false
set_option linter.unusedSimpArgs false
namespace Go.Proofs.Ytobechjagckdfaa
open Go.RowKit
def NewK4 (w : World) (rf : List Int) (e : Ending) (w' : World) : Prop := ∃ y : KV, e = .returned (.tuple #[y.val 0, .bool true]) ∧ KOwn w.heap.size w' y (newK 4 4 rf) ∧ Below w.heap.size w w'
set_option maxRecDepth 20000 in
set_option maxHeartbeats 3200000 in
theorem s_KernelNew (v : Value) (rf : List Int) (hr : ∀ x ∈ rf, 0 ≤ x ∧ x < 12) (hl : rf.length ≤ 3) (w : World) (hv : IntsAt w v rf) : Calls Try.prog 43 #[.int .i64 4, .int .i64 4, v] w (NewK4 w rf) := by
  obtain ⟨ao, ca, rfl, -, -⟩ := hv.shape
  have HV := Lib.hid hv
  clear hv
  (have hall := all_nil w; go_enter Try.func43, Try.ntmps43)
  go_upto_region 2 with (first | (go_at_call 68; (refine (s_MachineNew _).mono ?_; rintro e w2 ⟨y, rfl, hyo, hb⟩; (obtain ⟨yco, ycc, yuo, yuc, yvs, yeo, yec, rfl⟩ := MOwn.shapes hyo); (have OM : Hid (MOwn (w.heap.size + 1) w2 ⟨⟨.slice yco yvs.length ycc, .slice yuo 4 yuc, yvs⟩, .slice yeo 4 yec⟩ (newK 4 4 []).m) := Lib.hid (by (try simp only [World.size_alloc] at hyo); exact hyo)); have HB1 := Lib.hid hb; obtain ⟨kwa_0_0, fwa_0_0, kwa_0_1, fwa_0_1, kwa_0_2, fwa_0_2, kwa_0_3, fwa_0_3, kwa_0_4, fwa_0_4⟩ := kf5 hb (w.heap.size) (.slice none 0 0) (.slice none 0 0) (.slice none 0 0) (.int .i64 0) (.slice none 0 0); have xwa_0 : w.heap.size < w2.heap.size := xc hb; have hzwa := hb.size; (try simp only [World.size_alloc, World.size_setCell, World.size_drew] at hzwa); clear hyo; simp only [MV.val, newK, List.length_replicate]; obtain ⟨wa, rfl⟩ : ∃ x, x = w2 := ⟨_, rfl⟩)))
  have BM : Hid (BoxAt (wa.alloc (.cells #[.slice yco yvs.length ycc, .slice yuo 4 yuc, .slice yeo 4 yec] 32)) (wa.heap.size) [.slice yco yvs.length ycc, .slice yuo 4 yuc, .slice yeo 4 yec]) := Lib.hid (BoxAt.snoc (BoxAt.snoc (BoxAt.snoc (BoxAt.nil (w := (wa.alloc (.cells #[.slice yco yvs.length ycc, .slice yuo 4 yuc, .slice yeo 4 yec] 32))) (g := wa.heap.size) (by go_simp)) (i := 0) rfl (by go_simp) (by go_simp)) (i := 1) rfl (by go_simp) (by go_simp)) (i := 2) rfl (by go_simp) (by go_simp))
  go_cut [10] (fun ss10 wx => ∃ gb ro rc, ss10 = .pointer (some ⟨gb, 0, none⟩) ∧ BoxAt wx gb [.slice yco yvs.length ycc, .slice yuo 4 yuc, .slice yeo 4 yec, .int .i64 0, (.slice ro rf.length rc)] ∧ OwnI (wa.heap.size + 1) wx (.slice ro rf.length rc) rf ∧ wa.heap.size + 1 ≤ gb ∧ gb ∉ blocks [((.slice ro rf.length rc) : Value)] ∧ Below ((wa.alloc (.cells #[.slice yco yvs.length ycc, .slice yuo 4 yuc, .slice yeo 4 yec] 32))).heap.size (wa.alloc (.cells #[.slice yco yvs.length ycc, .slice yuo 4 yuc, .slice yeo 4 yec] 32)) wx)
  case first =>
    go_region_law ((first | ((refine step_appendAll elemInt rfl _ _ rfl lenInt oneInt rfl (xs := []) (B := wa.heap.size + 1) (v := .slice (some ⟨wa.heap.size + 1, 0, none⟩) 0 0) (by repeat (first | (with_reducible exact Own.empty' _ _ _ (wa.heap.size + 1) _ _ rfl (by exact zt)) | (with_reducible exact Own.empty' _ _ _ (wa.heap.size + 1) _ _ (by simp) (by exact zt)) | (with_reducible refine Own.alloc ?_ _) | (with_reducible refine Own.below ?_ (Below.drew (Below.refl _ _))))) (by exact zt) rfl (HV.out.below (by (have hB1 := HB1.out; exact bel))) (by simp only [List.length_nil, maxLen]; omega) ?_; intro v4 w2 hown4 hgr4 hat4 hb; (try simp only [List.nil_append] at hown4); obtain ⟨ro, rc, rfl, -, -⟩ := hown4.shape; have HN := Lib.hid hown4; (have HBC := Lib.hid hb); have HA4 := Lib.hid hat4; have km0 : w2.cell? ⟨wa.heap.size, 0, none⟩ = some (.slice yco yvs.length ycc) := kc hb (by exact zt) (by go_simp); have km1 : w2.cell? ⟨wa.heap.size, 1, none⟩ = some (.slice yuo 4 yuc) := kc hb (by exact zt) (by go_simp); have km2 : w2.cell? ⟨wa.heap.size, 2, none⟩ = some (.slice yeo 4 yec) := kc hb (by exact zt) (by go_simp); (have hnn : wa.heap.size + 1 + 1 ∉ blocks [(.slice (some ⟨wa.heap.size + 1, 0, none⟩) 0 0 : Value)] := fun hm => by have h0 := one_blkK hm; simp [Value.ownBlock] at h0); (try (have kb0 : w2.cell? ⟨wa.heap.size + 1 + 1, 0, none⟩ = some (.slice none 0 0) := ?_; rotate_left; (focus (refine ((grown_touch1 hgr4).cell ?_ hnn).trans ?_; (focus (exact zt)); (focus (go_simp; done)))); have fb0 : w2.frozen? ⟨wa.heap.size + 1 + 1, 0, none⟩ = false := ?_; rotate_left; (focus (refine ((grown_touch1 hgr4).frozen ?_ hnn).trans ?_; (focus (exact zt)); (focus (go_simp; done)))); have kb1 : w2.cell? ⟨wa.heap.size + 1 + 1, 1, none⟩ = some (.slice none 0 0) := ?_; rotate_left; (focus (refine ((grown_touch1 hgr4).cell ?_ hnn).trans ?_; (focus (exact zt)); (focus (go_simp; done)))); have fb1 : w2.frozen? ⟨wa.heap.size + 1 + 1, 1, none⟩ = false := ?_; rotate_left; (focus (refine ((grown_touch1 hgr4).frozen ?_ hnn).trans ?_; (focus (exact zt)); (focus (go_simp; done)))); have kb2 : w2.cell? ⟨wa.heap.size + 1 + 1, 2, none⟩ = some (.slice none 0 0) := ?_; rotate_left; (focus (refine ((grown_touch1 hgr4).cell ?_ hnn).trans ?_; (focus (exact zt)); (focus (go_simp; done)))); have fb2 : w2.frozen? ⟨wa.heap.size + 1 + 1, 2, none⟩ = false := ?_; rotate_left; (focus (refine ((grown_touch1 hgr4).frozen ?_ hnn).trans ?_; (focus (exact zt)); (focus (go_simp; done)))); have kb3 : w2.cell? ⟨wa.heap.size + 1 + 1, 3, none⟩ = some (.int .i64 0) := ?_; rotate_left; (focus (refine ((grown_touch1 hgr4).cell ?_ hnn).trans ?_; (focus (exact zt)); (focus (go_simp; done)))); have fb3 : w2.frozen? ⟨wa.heap.size + 1 + 1, 3, none⟩ = false := ?_; rotate_left; (focus (refine ((grown_touch1 hgr4).frozen ?_ hnn).trans ?_; (focus (exact zt)); (focus (go_simp; done)))); have kb4 : w2.cell? ⟨wa.heap.size + 1 + 1, 4, none⟩ = some (.slice none 0 0) := ?_; rotate_left; (focus (refine ((grown_touch1 hgr4).cell ?_ hnn).trans ?_; (focus (exact zt)); (focus (go_simp; done)))); have fb4 : w2.frozen? ⟨wa.heap.size + 1 + 1, 4, none⟩ = false := ?_; rotate_left; (focus (refine ((grown_touch1 hgr4).frozen ?_ hnn).trans ?_; (focus (exact zt)); (focus (go_simp; done)))))); (have hzq := hb.size); (try simp only [World.size_alloc, World.size_drew] at hzq); (have xmq : wa.heap.size < w2.heap.size := by omega); (have xnq : wa.heap.size + 1 < w2.heap.size := by omega); (try (have HNE : Hid (wa.heap.size + 1 + 1 ∉ blocks [((.slice ro rf.length rc) : Value)]) := Lib.hid (fun hm => by rcases hat4 with e | e; (focus exact hnn (mem_one (e.symm.trans (one_blkK hm)))); (focus (have e2 := Option.some.inj (e.symm.trans (one_blkK hm)); (try simp only [World.size_alloc, World.size_drew] at e2); omega))))); clear hown4 hgr4 hat4 hb; obtain ⟨wq, rfl⟩ : ∃ x, x = w2 := ⟨_, rfl⟩)) | ((refine step_appendAll elemInt rfl _ _ rfl lenInt oneInt rfl (xs := []) (B := wa.heap.size + 1) (v := .slice (some ⟨wa.heap.size + 1 + 1, 0, none⟩) 0 0) (by repeat (first | (with_reducible exact Own.empty' _ _ _ (wa.heap.size + 1) _ _ rfl (by exact zt)) | (with_reducible exact Own.empty' _ _ _ (wa.heap.size + 1) _ _ (by simp) (by exact zt)) | (with_reducible refine Own.alloc ?_ _) | (with_reducible refine Own.below ?_ (Below.drew (Below.refl _ _))))) (by exact zt) rfl (HV.out.below (by (have hB1 := HB1.out; exact bel))) (by simp only [List.length_nil, maxLen]; omega) ?_; intro v4 w2 hown4 hgr4 hat4 hb; (try simp only [List.nil_append] at hown4); obtain ⟨ro, rc, rfl, -, -⟩ := hown4.shape; have HN := Lib.hid hown4; (have HBC := Lib.hid hb); have HA4 := Lib.hid hat4; have km0 : w2.cell? ⟨wa.heap.size, 0, none⟩ = some (.slice yco yvs.length ycc) := kc hb (by exact zt) (by go_simp); have km1 : w2.cell? ⟨wa.heap.size, 1, none⟩ = some (.slice yuo 4 yuc) := kc hb (by exact zt) (by go_simp); have km2 : w2.cell? ⟨wa.heap.size, 2, none⟩ = some (.slice yeo 4 yec) := kc hb (by exact zt) (by go_simp); (have hnn : wa.heap.size + 1 ∉ blocks [(.slice (some ⟨wa.heap.size + 1 + 1, 0, none⟩) 0 0 : Value)] := fun hm => by have h0 := one_blkK hm; simp [Value.ownBlock] at h0); (try (have kb0 : w2.cell? ⟨wa.heap.size + 1, 0, none⟩ = some (.slice none 0 0) := ?_; rotate_left; (focus (refine ((grown_touch1 hgr4).cell ?_ hnn).trans ?_; (focus (exact zt)); (focus (go_simp; done)))); have fb0 : w2.frozen? ⟨wa.heap.size + 1, 0, none⟩ = false := ?_; rotate_left; (focus (refine ((grown_touch1 hgr4).frozen ?_ hnn).trans ?_; (focus (exact zt)); (focus (go_simp; done)))); have kb1 : w2.cell? ⟨wa.heap.size + 1, 1, none⟩ = some (.slice none 0 0) := ?_; rotate_left; (focus (refine ((grown_touch1 hgr4).cell ?_ hnn).trans ?_; (focus (exact zt)); (focus (go_simp; done)))); have fb1 : w2.frozen? ⟨wa.heap.size + 1, 1, none⟩ = false := ?_; rotate_left; (focus (refine ((grown_touch1 hgr4).frozen ?_ hnn).trans ?_; (focus (exact zt)); (focus (go_simp; done)))); have kb2 : w2.cell? ⟨wa.heap.size + 1, 2, none⟩ = some (.slice none 0 0) := ?_; rotate_left; (focus (refine ((grown_touch1 hgr4).cell ?_ hnn).trans ?_; (focus (exact zt)); (focus (go_simp; done)))); have fb2 : w2.frozen? ⟨wa.heap.size + 1, 2, none⟩ = false := ?_; rotate_left; (focus (refine ((grown_touch1 hgr4).frozen ?_ hnn).trans ?_; (focus (exact zt)); (focus (go_simp; done)))); have kb3 : w2.cell? ⟨wa.heap.size + 1, 3, none⟩ = some (.int .i64 0) := ?_; rotate_left; (focus (refine ((grown_touch1 hgr4).cell ?_ hnn).trans ?_; (focus (exact zt)); (focus (go_simp; done)))); have fb3 : w2.frozen? ⟨wa.heap.size + 1, 3, none⟩ = false := ?_; rotate_left; (focus (refine ((grown_touch1 hgr4).frozen ?_ hnn).trans ?_; (focus (exact zt)); (focus (go_simp; done)))); have kb4 : w2.cell? ⟨wa.heap.size + 1, 4, none⟩ = some (.slice none 0 0) := ?_; rotate_left; (focus (refine ((grown_touch1 hgr4).cell ?_ hnn).trans ?_; (focus (exact zt)); (focus (go_simp; done)))); have fb4 : w2.frozen? ⟨wa.heap.size + 1, 4, none⟩ = false := ?_; rotate_left; (focus (refine ((grown_touch1 hgr4).frozen ?_ hnn).trans ?_; (focus (exact zt)); (focus (go_simp; done)))))); (have hzq := hb.size); (try simp only [World.size_alloc, World.size_drew] at hzq); (have xmq : wa.heap.size < w2.heap.size := by omega); (have xnq : wa.heap.size + 1 < w2.heap.size := by omega); (try (have HNE : Hid (wa.heap.size + 1 ∉ blocks [((.slice ro rf.length rc) : Value)]) := Lib.hid (fun hm => by rcases hat4 with e | e; (focus exact hnn (mem_one (e.symm.trans (one_blkK hm)))); (focus (have e2 := Option.some.inj (e.symm.trans (one_blkK hm)); (try simp only [World.size_alloc, World.size_drew] at e2); omega))))); clear hown4 hgr4 hat4 hb; obtain ⟨wq, rfl⟩ : ∃ x, x = w2 := ⟨_, rfl⟩))))
    all_goals (go_wp2_with fail; go_meet; have hBC := HBC.out; first | (refine ⟨wq.heap.size, ro, rc, rfl, (BoxAt.snoc (BoxAt.snoc (BoxAt.snoc (BoxAt.snoc (BoxAt.snoc (BoxAt.nil (w := _) (g := wq.heap.size) (by exact zo)) (v := .slice yco yvs.length ycc) (i := 0) rfl (by go_simp) (by go_simp)) (v := .slice yuo 4 yuc) (i := 1) rfl (by go_simp) (by go_simp)) (v := .slice yeo 4 yec) (i := 2) rfl (by go_simp) (by go_simp)) (v := .int .i64 0) (i := 3) rfl (by go_simp) (by go_simp)) (v := (.slice ro rf.length rc)) (i := 4) rfl (by go_simp) (by go_simp)), ?_, by omega, (fun hm => by have := (Own.lts HN.out _ hm).2; omega), by exact bel⟩; (repeat (first | (with_reducible exact HN.out) | (with_reducible refine Own.alloc ?_ _) | (with_reducible refine Own.below ?_ (Below.drew (Below.refl _ _))) | ((with_reducible refine Own.setCell ?_ _ _ ?_); rotate_left; (focus (intro e; exact HNE.out (mem_one e))))))) | (refine ⟨wa.heap.size + 1, ro, rc, rfl, (BoxAt.snoc (BoxAt.snoc (BoxAt.snoc (BoxAt.snoc (BoxAt.snoc (BoxAt.nil (w := _) (g := wa.heap.size + 1) (by exact zo)) (v := .slice yco yvs.length ycc) (i := 0) rfl (by go_simp) (by go_simp)) (v := .slice yuo 4 yuc) (i := 1) rfl (by go_simp) (by go_simp)) (v := .slice yeo 4 yec) (i := 2) rfl (by go_simp) (by go_simp)) (v := .int .i64 0) (i := 3) rfl (by go_simp) (by go_simp)) (v := (.slice ro rf.length rc)) (i := 4) rfl (by go_simp) (by go_simp)), ?_, by omega, HNE.out, by exact bel⟩; (repeat (first | (with_reducible exact HN.out) | (with_reducible refine Own.alloc ?_ _) | (with_reducible refine Own.below ?_ (Below.drew (Below.refl _ _))) | ((with_reducible refine Own.setCell ?_ _ _ ?_); rotate_left; (focus (intro e; exact HNE.out (mem_one e))))))) | (refine ⟨wa.heap.size + 1 + 1, ro, rc, rfl, (BoxAt.snoc (BoxAt.snoc (BoxAt.snoc (BoxAt.snoc (BoxAt.snoc (BoxAt.nil (w := _) (g := wa.heap.size + 1 + 1) (by exact zo)) (v := .slice yco yvs.length ycc) (i := 0) rfl (by go_simp) (by go_simp)) (v := .slice yuo 4 yuc) (i := 1) rfl (by go_simp) (by go_simp)) (v := .slice yeo 4 yec) (i := 2) rfl (by go_simp) (by go_simp)) (v := .int .i64 0) (i := 3) rfl (by go_simp) (by go_simp)) (v := (.slice ro rf.length rc)) (i := 4) rfl (by go_simp) (by go_simp)), ?_, by omega, HNE.out, by exact bel⟩; (repeat (first | (with_reducible exact HN.out) | (with_reducible refine Own.alloc ?_ _) | (with_reducible refine Own.below ?_ (Below.drew (Below.refl _ _))) | ((with_reducible refine Own.setCell ?_ _ _ ?_); rotate_left; (focus (intro e; exact HNE.out (mem_one e))))))))
  obtain ⟨gb, ro, rc, rfl, bG, oR, hgb, hnb, hbel⟩ := hcut
  obtain ⟨wk, rfl⟩ : ∃ x, x = wc := ⟨_, rfl⟩
  have hzk := hbel.size
  simp only [World.size_alloc] at hzk
  have BG := Lib.hid bG; have OR := Lib.hid oR; have HBK := Lib.hid hbel
  have HBW : Hid (Below w.heap.size w wk) := Lib.hid (by (have hB1 := HB1.out; exact bel))
  have k0 := (bG.cells 0 _ rfl).1; have k1 := (bG.cells 1 _ rfl).1; have k2 := (bG.cells 2 _ rfl).1; have k3 := (bG.cells 3 _ rfl).1; have k4 := (bG.cells 4 _ rfl).1
  have xg := bG.lt
  have B0 : Hid (BoxAt wk (w.heap.size) [.slice none 0 0, .slice none 0 0, .slice none 0 0, .int .i64 0, .slice none 0 0]) := Lib.hid (BoxAt.below (w := wa) (by exact BoxAt.snoc (BoxAt.snoc (BoxAt.snoc (BoxAt.snoc (BoxAt.snoc (BoxAt.nil xwa_0) rfl kwa_0_0 fwa_0_0) rfl kwa_0_1 fwa_0_1) rfl kwa_0_2 fwa_0_2) rfl kwa_0_3 fwa_0_3) rfl kwa_0_4 fwa_0_4) (by (have hB := HBK.out; exact bel)))
  have OMK : Hid (MOwn (w.heap.size + 1) wk ⟨⟨.slice yco yvs.length ycc, .slice yuo 4 yuc, yvs⟩, .slice yeo 4 yec⟩ (newK 4 4 []).m) := Lib.hid (MOwn.below OM.out (by (have hB := HBK.out; exact bel)))
  have KO : Hid (KOwn (w.heap.size + 1) wk ⟨⟨⟨.slice yco yvs.length ycc, .slice yuo 4 yuc, yvs⟩, .slice yeo 4 yec⟩, (.slice ro rf.length rc)⟩ (newK 4 4 rf)) := Lib.hid ⟨OMK.out, Own.mono OR.out (by omega), nodup_blocks (l := [_]) (nodup_one _) OMK.out.nd (fun g hg hm => by have h1 := (Own.lts OR.out g hg).1; have h2 := (MOwn.lts OM.out g hm).2; omega)⟩
  have hko : kernelOk (newK 4 4 rf) = true := (kernelOk_iff _).2 ⟨fun x hx => (hr x hx).1, by unfold newK; simp, by (show rf.length ≤ 40); omega, newK_ok (by omega) (by omega)⟩
  have KOC : Hid (∀ W, KAt W ⟨⟨⟨.slice yco yvs.length ycc, .slice yuo 4 yuc, yvs⟩, .slice yeo 4 yec⟩, (.slice ro rf.length rc)⟩ (newK 4 4 rf) → Calls Try.prog 69 #[.agg #[.slice yco yvs.length ycc, .slice yuo 4 yuc, .slice yeo 4 yec, .int .i64 0, (.slice ro rf.length rc)]] W fun e w' => e = .returned (.bool true) ∧ Below W.heap.size W w') := Lib.hid (fun W h => s_KernelOk ⟨⟨⟨.slice yco yvs.length ycc, .slice yuo 4 yuc, yvs⟩, .slice yeo 4 yec⟩, (.slice ro rf.length rc)⟩ (newK 4 4 rf) true hko W h)
  have r0 := (B0.out.cells 0 _ rfl); have r1 := (B0.out.cells 1 _ rfl); have r2 := (B0.out.cells 2 _ rfl); have r3 := (B0.out.cells 3 _ rfl); have r4 := (B0.out.cells 4 _ rfl)
  have x0 := B0.out.lt
  clear bG oR hbel hko
  obtain ⟨p0, f0⟩ := r0; obtain ⟨p1, f1⟩ := r1; obtain ⟨p2, f2⟩ := r2; obtain ⟨p3, f3⟩ := r3; obtain ⟨p4, f4⟩ := r4
  go_wp2_with (first | (go_at_call 69; (refine (KOC.out _ (KO.out.at.below (by exact bel))).mono ?_; rintro e w2 ⟨rfl, hb⟩; have HBL := Lib.hid hb; obtain ⟨kwl_P_0, fwl_P_0, kwl_P_1, fwl_P_1, kwl_P_2, fwl_P_2, kwl_P_3, fwl_P_3, kwl_P_4, fwl_P_4⟩ := kf5 hb (w.heap.size) (.slice none 0 0) (.slice none 0 0) (.slice none 0 0) (.int .i64 0) (.slice none 0 0); obtain ⟨kwl_G_0, kwl_G_1, kwl_G_2, kwl_G_3, kwl_G_4⟩ := kp5 hb (gb) (.slice yco yvs.length ycc) (.slice yuo 4 yuc) (.slice yeo 4 yec) (.int .i64 0) ((.slice ro rf.length rc)); have xwl_P : w.heap.size < w2.heap.size := xc hb; have xwl_G : gb < w2.heap.size := xc hb; have hzwl := hb.size; (try simp only [World.size_alloc, World.size_setCell, World.size_drew] at hzwl); obtain ⟨wl, rfl⟩ : ∃ x, x = w2 := ⟨_, rfl⟩)) | (with_reducible refine wp_region_grew2 (by kernel_rfl) (by kernel_rfl) ?_; intro w2 hb; (first | have hn := nw4 hb hall (by exact zo) | have hn := nw3 hb hall (by exact zo) | have hn := nw2 hb hall (by exact zo) | have hn := nw1 hb hall (by exact zo) | have hn := nw0 hb hall (by exact zo)); obtain ⟨hc, hf, hn, hc0⟩ := hn; replace hall := hn; clear hn; have hz := hb.size; (try simp only [World.size_alloc, World.size_setCell, World.size_drew] at hz); have hx := hall; (try simp only [allLt, and_true] at hx); obtain ⟨w1, rfl⟩ : ∃ x, x = w2 := ⟨_, rfl⟩; (repeat (go_big_quiet_step (fail))); refine wpQuiet_nil ?_; intro w2 hw'; have hb := grew_below hw'; clear hw'; (first | have hn := nw4 hb hall (by exact zo) | have hn := nw3 hb hall (by exact zo) | have hn := nw2 hb hall (by exact zo) | have hn := nw1 hb hall (by exact zo) | have hn := nw0 hb hall (by exact zo)); obtain ⟨hc, hf, hn, hc0⟩ := hn; replace hall := hn; clear hn; have hz := hb.size; (try simp only [World.size_alloc, World.size_setCell, World.size_drew] at hz); have hx := hall; (try simp only [allLt, and_true] at hx); obtain ⟨w1, rfl⟩ : ∃ x, x = w2 := ⟨_, rfl⟩))
  skip
  refine bodyPost_ret (v := .tuple #[.agg #[.slice yco yvs.length ycc, .slice yuo 4 yuc, .slice yeo 4 yec, .int .i64 0, (.slice ro rf.length rc)], .bool true]) (by simp [results, Try.results43, go_sem, kwl_P_0, kwl_P_1, kwl_P_2, kwl_P_3, kwl_P_4, fwl_P_0, fwl_P_1, fwl_P_2, fwl_P_3, fwl_P_4, kwl_G_0, kwl_G_1, kwl_G_2, kwl_G_3, kwl_G_4]) rfl ?_
  refine ⟨⟨⟨⟨.slice yco yvs.length ycc, .slice yuo 4 yuc, yvs⟩, .slice yeo 4 yec⟩, (.slice ro rf.length rc)⟩, rfl, ?_, by (have hB := HBW.out; have hBL := HBL.out; exact bel)⟩
  exact KOwn.mono (KOwn.touch (S := [w.heap.size]) (KO.out.below HBL.out) (by repeat (first | (with_reducible exact Touch.refl _ _) | (with_reducible refine touch_setC ?_ (List.mem_singleton.2 rfl)))) (fun g hg hm => by have h1 := (KO.out.lts g hg).1; have := List.mem_singleton.1 hm; omega)) (by omega)

end Go.Proofs.Ytobechjagckdfaa
/-
  The cells of a span that are in use.
-/
set_option linter.unusedVariables false
set_option linter.unusedSimpArgs false
namespace Go.Proofs.Ytobechjagckdfaa
open Go.RowKit
def cellsTo (c b : Int) : Nat → List Int
  | 0 => []
  | k + 1 => cellsTo c b k ++ if hasSlot b ((k : Int) / classSize c) then [(k : Int)] else []
theorem cellsTo_le (c b : Int) (k : Nat) : (cellsTo c b k).length ≤ k := by
  induction k with
  | zero => exact Nat.le_refl _
  | succ k ih => simp only [cellsTo, List.length_append]; split <;> simp <;> omega
def spanCells (p c b : Int) : List Int := if spanOk p c b then cellsTo c b 16 else []
theorem classSize_four' {c : Int} (h : 0 ≤ c ∧ c ≤ 3) : 1 ≤ classSize c ∧ classSize c ≤ 8 := by
  rcases class_cases (between_iff.2 h) with rfl | rfl | rfl | rfl <;> decide
theorem div_w {k m : Int} (hk : 0 ≤ k) (hm : 1 ≤ m) (hk2 : k ≤ 9223372036854775807) : wrap64 (k / m) = k / m ∧ IntKind.i64.wrap (k / m) = k / m := by
  have h1 := Int.ediv_nonneg hk (show 0 ≤ m by omega)
  have h2 := Int.ediv_le_self m hk
  exact ⟨IntWalk.wrap64_in _ ⟨by omega, by omega⟩, by rw [IntKind.wrap_i64]; omega⟩
set_option maxHeartbeats 400000 in
theorem s_SpanCells (p c b : Int) (w : World) : Calls Try.prog 47 #[.agg #[.int .i64 p, .int .i64 c, .int .i64 b]] w (NewInts w (spanCells p c b)) := by
  cases h : spanOk p c b
  · (have hall := all_nil w; go_enter Try.func47, Try.ntmps47)
    go_wp2_with (first | (go_at_call 20; (refine (s_ClassSize _ _).mono ?_); rintro e w2 ⟨rfl, rfl⟩) | (go_at_call 73; (first | (refine (s_SpanOk _ _ _ true (by assumption) _).mono ?_) | (refine (s_SpanOk _ _ _ false (by assumption) _).mono ?_) | (refine (s_SpanOk _ _ _ _ rfl _).mono ?_)); rintro e w2 ⟨rfl, hb⟩; (first | have hn := nw4 hb hall (by exact zo) | have hn := nw3 hb hall (by exact zo) | have hn := nw2 hb hall (by exact zo) | have hn := nw1 hb hall (by exact zo) | have hn := nw0 hb hall (by exact zo)); obtain ⟨hc, hf, hn, hc0⟩ := hn; replace hall := hn; clear hn; have hz := hb.size; (try simp only [World.size_alloc, World.size_setCell, World.size_drew] at hz); have hx := hall; (try simp only [allLt, and_true] at hx); (try (have hO := HO.out; replace HO := Lib.hid (Own.below hO (w' := w2) (by exact bel)); clear hO)); obtain ⟨w1, rfl⟩ : ∃ x, x = w2 := ⟨_, rfl⟩) | (go_at_call 15; (first | (refine (s_HasSlot _ _ true (by assumption) _).mono ?_) | (refine (s_HasSlot _ _ false (by assumption) _).mono ?_) | (refine (s_HasSlot _ _ _ rfl _).mono ?_)); rintro e w2 ⟨rfl, rfl⟩) | (with_reducible refine wp_region_grew2 (by kernel_rfl) (by kernel_rfl) ?_; intro w2 hb; (first | have hn := nw4 hb hall (by exact zo) | have hn := nw3 hb hall (by exact zo) | have hn := nw2 hb hall (by exact zo) | have hn := nw1 hb hall (by exact zo) | have hn := nw0 hb hall (by exact zo)); obtain ⟨hc, hf, hn, hc0⟩ := hn; replace hall := hn; clear hn; have hz := hb.size; (try simp only [World.size_alloc, World.size_setCell, World.size_drew] at hz); have hx := hall; (try simp only [allLt, and_true] at hx); (try (have hO := HO.out; replace HO := Lib.hid (Own.below hO (w' := w2) (by exact bel)); clear hO)); obtain ⟨w1, rfl⟩ : ∃ x, x = w2 := ⟨_, rfl⟩; (repeat (go_big_quiet_step (first | (go_at_call 20; exact calls_same (s_ClassSize _ _)) | (go_at_call 73; first | exact calls_grew (s_SpanOk _ _ _ true (by assumption) _) | exact calls_grew (s_SpanOk _ _ _ false (by assumption) _) | exact calls_grew (s_SpanOk _ _ _ _ rfl _)) | (go_at_call 15; first | exact calls_same (s_HasSlot _ _ true (by assumption) _) | exact calls_same (s_HasSlot _ _ false (by assumption) _) | exact calls_same (s_HasSlot _ _ _ rfl _))))); refine wpQuiet_nil ?_; intro w2 hw'; have hb := grew_below hw'; clear hw'; (first | have hn := nw4 hb hall (by exact zo) | have hn := nw3 hb hall (by exact zo) | have hn := nw2 hb hall (by exact zo) | have hn := nw1 hb hall (by exact zo) | have hn := nw0 hb hall (by exact zo)); obtain ⟨hc, hf, hn, hc0⟩ := hn; replace hall := hn; clear hn; have hz := hb.size; (try simp only [World.size_alloc, World.size_setCell, World.size_drew] at hz); have hx := hall; (try simp only [allLt, and_true] at hx); (try (have hO := HO.out; replace HO := Lib.hid (Own.below hO (w' := w2) (by exact bel)); clear hO)); obtain ⟨w1, rfl⟩ : ∃ x, x = w2 := ⟨_, rfl⟩))
    refine wp_loop_rounds 1 ?_
    rw [rounds_succ]
    go_wp2_with (first | (go_at_call 20; (refine (s_ClassSize _ _).mono ?_); rintro e w2 ⟨rfl, rfl⟩) | (go_at_call 73; (first | (refine (s_SpanOk _ _ _ true (by assumption) _).mono ?_) | (refine (s_SpanOk _ _ _ false (by assumption) _).mono ?_) | (refine (s_SpanOk _ _ _ _ rfl _).mono ?_)); rintro e w2 ⟨rfl, hb⟩; (first | have hn := nw4 hb hall (by exact zo) | have hn := nw3 hb hall (by exact zo) | have hn := nw2 hb hall (by exact zo) | have hn := nw1 hb hall (by exact zo) | have hn := nw0 hb hall (by exact zo)); obtain ⟨hc, hf, hn, hc0⟩ := hn; replace hall := hn; clear hn; have hz := hb.size; (try simp only [World.size_alloc, World.size_setCell, World.size_drew] at hz); have hx := hall; (try simp only [allLt, and_true] at hx); (try (have hO := HO.out; replace HO := Lib.hid (Own.below hO (w' := w2) (by exact bel)); clear hO)); obtain ⟨w1, rfl⟩ : ∃ x, x = w2 := ⟨_, rfl⟩) | (go_at_call 15; (first | (refine (s_HasSlot _ _ true (by assumption) _).mono ?_) | (refine (s_HasSlot _ _ false (by assumption) _).mono ?_) | (refine (s_HasSlot _ _ _ rfl _).mono ?_)); rintro e w2 ⟨rfl, rfl⟩) | (with_reducible refine wp_region_grew2 (by kernel_rfl) (by kernel_rfl) ?_; intro w2 hb; (first | have hn := nw4 hb hall (by exact zo) | have hn := nw3 hb hall (by exact zo) | have hn := nw2 hb hall (by exact zo) | have hn := nw1 hb hall (by exact zo) | have hn := nw0 hb hall (by exact zo)); obtain ⟨hc, hf, hn, hc0⟩ := hn; replace hall := hn; clear hn; have hz := hb.size; (try simp only [World.size_alloc, World.size_setCell, World.size_drew] at hz); have hx := hall; (try simp only [allLt, and_true] at hx); (try (have hO := HO.out; replace HO := Lib.hid (Own.below hO (w' := w2) (by exact bel)); clear hO)); obtain ⟨w1, rfl⟩ : ∃ x, x = w2 := ⟨_, rfl⟩; (repeat (go_big_quiet_step (first | (go_at_call 20; exact calls_same (s_ClassSize _ _)) | (go_at_call 73; first | exact calls_grew (s_SpanOk _ _ _ true (by assumption) _) | exact calls_grew (s_SpanOk _ _ _ false (by assumption) _) | exact calls_grew (s_SpanOk _ _ _ _ rfl _)) | (go_at_call 15; first | exact calls_same (s_HasSlot _ _ true (by assumption) _) | exact calls_same (s_HasSlot _ _ false (by assumption) _) | exact calls_same (s_HasSlot _ _ _ rfl _))))); refine wpQuiet_nil ?_; intro w2 hw'; have hb := grew_below hw'; clear hw'; (first | have hn := nw4 hb hall (by exact zo) | have hn := nw3 hb hall (by exact zo) | have hn := nw2 hb hall (by exact zo) | have hn := nw1 hb hall (by exact zo) | have hn := nw0 hb hall (by exact zo)); obtain ⟨hc, hf, hn, hc0⟩ := hn; replace hall := hn; clear hn; have hz := hb.size; (try simp only [World.size_alloc, World.size_setCell, World.size_drew] at hz); have hx := hall; (try simp only [allLt, and_true] at hx); (try (have hO := HO.out; replace HO := Lib.hid (Own.below hO (w' := w2) (by exact bel)); clear hO)); obtain ⟨w1, rfl⟩ : ∃ x, x = w2 := ⟨_, rfl⟩))
    all_goals go_ret
    all_goals have E : OwnI w.heap.size w1 (.slice (some ⟨w.heap.size + 1, 0, none⟩) 0 0) [] := (Own.empty' 3 1 fInt w.heap.size (w.alloc (.cells #[.int .i64 p, .int .i64 c, .int .i64 b] 49)) (w.heap.size + 1) (by simp) (by simp)).below (by exact bel)
    all_goals exact ⟨_, rfl, by simp only [spanCells, h]; exact E, by exact bel⟩
  · have hs := spanOk_parts' h
    have hcs := classSize_four' hs.2.1
    have H : Hid (spanCells p c b = cellsTo c b 16) := by unfold Hid; simp [spanCells, h]
    clear hs
    (have hall := all_nil w; go_enter Try.func47, Try.ntmps47)
    go_wp2_with (first | (go_at_call 20; (refine (s_ClassSize _ _).mono ?_); rintro e w2 ⟨rfl, rfl⟩) | (go_at_call 73; (first | (refine (s_SpanOk _ _ _ true (by assumption) _).mono ?_) | (refine (s_SpanOk _ _ _ false (by assumption) _).mono ?_) | (refine (s_SpanOk _ _ _ _ rfl _).mono ?_)); rintro e w2 ⟨rfl, hb⟩; (first | have hn := nw4 hb hall (by exact zo) | have hn := nw3 hb hall (by exact zo) | have hn := nw2 hb hall (by exact zo) | have hn := nw1 hb hall (by exact zo) | have hn := nw0 hb hall (by exact zo)); obtain ⟨hc, hf, hn, hc0⟩ := hn; replace hall := hn; clear hn; have hz := hb.size; (try simp only [World.size_alloc, World.size_setCell, World.size_drew] at hz); have hx := hall; (try simp only [allLt, and_true] at hx); (try (have hO := HO.out; replace HO := Lib.hid (Own.below hO (w' := w2) (by exact bel)); clear hO)); obtain ⟨w1, rfl⟩ : ∃ x, x = w2 := ⟨_, rfl⟩) | (go_at_call 15; (first | (refine (s_HasSlot _ _ true (by assumption) _).mono ?_) | (refine (s_HasSlot _ _ false (by assumption) _).mono ?_) | (refine (s_HasSlot _ _ _ rfl _).mono ?_)); rintro e w2 ⟨rfl, rfl⟩) | (with_reducible refine wp_region_grew2 (by kernel_rfl) (by kernel_rfl) ?_; intro w2 hb; (first | have hn := nw4 hb hall (by exact zo) | have hn := nw3 hb hall (by exact zo) | have hn := nw2 hb hall (by exact zo) | have hn := nw1 hb hall (by exact zo) | have hn := nw0 hb hall (by exact zo)); obtain ⟨hc, hf, hn, hc0⟩ := hn; replace hall := hn; clear hn; have hz := hb.size; (try simp only [World.size_alloc, World.size_setCell, World.size_drew] at hz); have hx := hall; (try simp only [allLt, and_true] at hx); (try (have hO := HO.out; replace HO := Lib.hid (Own.below hO (w' := w2) (by exact bel)); clear hO)); obtain ⟨w1, rfl⟩ : ∃ x, x = w2 := ⟨_, rfl⟩; (repeat (go_big_quiet_step (first | (go_at_call 20; exact calls_same (s_ClassSize _ _)) | (go_at_call 73; first | exact calls_grew (s_SpanOk _ _ _ true (by assumption) _) | exact calls_grew (s_SpanOk _ _ _ false (by assumption) _) | exact calls_grew (s_SpanOk _ _ _ _ rfl _)) | (go_at_call 15; first | exact calls_same (s_HasSlot _ _ true (by assumption) _) | exact calls_same (s_HasSlot _ _ false (by assumption) _) | exact calls_same (s_HasSlot _ _ _ rfl _))))); refine wpQuiet_nil ?_; intro w2 hw'; have hb := grew_below hw'; clear hw'; (first | have hn := nw4 hb hall (by exact zo) | have hn := nw3 hb hall (by exact zo) | have hn := nw2 hb hall (by exact zo) | have hn := nw1 hb hall (by exact zo) | have hn := nw0 hb hall (by exact zo)); obtain ⟨hc, hf, hn, hc0⟩ := hn; replace hall := hn; clear hn; have hz := hb.size; (try simp only [World.size_alloc, World.size_setCell, World.size_drew] at hz); have hx := hall; (try simp only [allLt, and_true] at hx); (try (have hO := HO.out; replace HO := Lib.hid (Own.below hO (w' := w2) (by exact bel)); clear hO)); obtain ⟨w1, rfl⟩ : ∃ x, x = w2 := ⟨_, rfl⟩))
    have start : ∀ W, (∀ j, W.cell? ⟨w.heap.size, j, none⟩ = (w.alloc (.cells #[.int .i64 p, .int .i64 c, .int .i64 b] 49)).cell? ⟨w.heap.size, j, none⟩) → w.heap.size + 1 ≤ W.heap.size → Below w.heap.size w W → ∃ k : Nat, k ≤ 16 ∧ Value.int .i64 0 = .int .i64 k ∧ OwnI (w.heap.size + 1) (W.alloc (.cells #[] 3)) (.slice (some ⟨W.heap.size, 0, none⟩) 0 0) (cellsTo c b k) ∧ Below w.heap.size w (W.alloc (.cells #[] 3)) ∧
        ((W.alloc (.cells #[] 3)).cell? ⟨w.heap.size, 0, none⟩ = some (.int .i64 p) ∧ (W.alloc (.cells #[] 3)).cell? ⟨w.heap.size, 1, none⟩ = some (.int .i64 c) ∧ (W.alloc (.cells #[] 3)).cell? ⟨w.heap.size, 2, none⟩ = some (.int .i64 b)) ∧ w.heap.size + 1 ≤ (W.alloc (.cells #[] 3)).heap.size := fun W hW hz hb =>
      have hlt : w.heap.size < W.heap.size := by omega
      ⟨0, Nat.zero_le _, rfl, Own.empty _ _ _ _ _ hz, hb.alloc hb.size _, ⟨by go_simp, by go_simp, by go_simp⟩, by simp only [World.size_alloc]; omega⟩
    have ST := Lib.hid start; clear start
    go_loopw [3, 4] (fun o i wr => ∃ k : Nat, k ≤ 16 ∧ i = .int .i64 k ∧ OwnI (w.heap.size + 1) wr o (cellsTo c b k) ∧ Below w.heap.size w wr ∧
        (wr.cell? ⟨w.heap.size, 0, none⟩ = some (.int .i64 p) ∧ wr.cell? ⟨w.heap.size, 1, none⟩ = some (.int .i64 c) ∧ wr.cell? ⟨w.heap.size, 2, none⟩ = some (.int .i64 b)) ∧ w.heap.size + 1 ≤ wr.heap.size) (fun _ i _ => 16 - (intOf i).toNat)
    case atStart =>
      have ST2 := ST.out (w.alloc (.cells #[.int .i64 p, .int .i64 c, .int .i64 b] 49)) (fun j => by first | rfl | (go_simp; done)) (by (try simp only [World.size_alloc]); omega) (by exact bel)
      (try simp only [World.size_alloc] at ST2 ⊢)
      exact ST2
    case round =>
      obtain ⟨k, hk, rfl, hown, hbel, ⟨c0, c1, c2⟩, hsz⟩ := hrel
      have HO := Lib.hid hown; have HB := Lib.hid hbel
      clear hown hbel ST
      (obtain ⟨w1, rfl⟩ : ∃ x, x = wr := ⟨_, rfl⟩; have hall : allLt [w.heap.size] w1.heap.size := ⟨by omega, trivial⟩; have hx := hall; (try simp only [allLt, and_true] at hx))
      by_cases hlt : k < 16
      · have hlt' : (k : Int) < 16 := by omega
        have hle := cellsTo_le c b k
        have hs : Hid (cellsTo c b (k + 1) = cellsTo c b k ++ if hasSlot b ((k : Int) / classSize c) then [(k : Int)] else []) := rfl
        have d1 := div_w (k := k) (m := classSize c) (by omega) hcs.1 (by omega)
        have d2 := d1.1; have d3 := d1.2; clear d1
        cases hh : hasSlot b ((k : Int) / classSize c)
        · go_wp2_with (first | (at_builtin; refine append1 elemInt rfl _ _ rfl lenInt oneInt rfl (HO.out.alloc _) (by simp only [World.size_alloc]; omega) rfl (k : Int) (intCell _ _) (by unfold maxLen; omega) ?_; intro v2 w2 hown2 _ hb2) | (go_at_call 20; (refine (s_ClassSize _ _).mono ?_); rintro e w2 ⟨rfl, rfl⟩) | (go_at_call 73; (first | (refine (s_SpanOk _ _ _ true (by assumption) _).mono ?_) | (refine (s_SpanOk _ _ _ false (by assumption) _).mono ?_) | (refine (s_SpanOk _ _ _ _ rfl _).mono ?_)); rintro e w2 ⟨rfl, hb⟩; (first | have hn := nw4 hb hall (by exact zo) | have hn := nw3 hb hall (by exact zo) | have hn := nw2 hb hall (by exact zo) | have hn := nw1 hb hall (by exact zo) | have hn := nw0 hb hall (by exact zo)); obtain ⟨hc, hf, hn, hc0⟩ := hn; replace hall := hn; clear hn; have hz := hb.size; (try simp only [World.size_alloc, World.size_setCell, World.size_drew] at hz); have hx := hall; (try simp only [allLt, and_true] at hx); (try (have hO := HO.out; replace HO := Lib.hid (Own.below hO (w' := w2) (by exact bel)); clear hO)); obtain ⟨w1, rfl⟩ : ∃ x, x = w2 := ⟨_, rfl⟩) | (go_at_call 15; (first | (refine (s_HasSlot _ _ true (by assumption) _).mono ?_) | (refine (s_HasSlot _ _ false (by assumption) _).mono ?_) | (refine (s_HasSlot _ _ _ rfl _).mono ?_)); rintro e w2 ⟨rfl, rfl⟩) | (with_reducible refine wp_region_grew2 (by kernel_rfl) (by kernel_rfl) ?_; intro w2 hb; (first | have hn := nw4 hb hall (by exact zo) | have hn := nw3 hb hall (by exact zo) | have hn := nw2 hb hall (by exact zo) | have hn := nw1 hb hall (by exact zo) | have hn := nw0 hb hall (by exact zo)); obtain ⟨hc, hf, hn, hc0⟩ := hn; replace hall := hn; clear hn; have hz := hb.size; (try simp only [World.size_alloc, World.size_setCell, World.size_drew] at hz); have hx := hall; (try simp only [allLt, and_true] at hx); (try (have hO := HO.out; replace HO := Lib.hid (Own.below hO (w' := w2) (by exact bel)); clear hO)); obtain ⟨w1, rfl⟩ : ∃ x, x = w2 := ⟨_, rfl⟩; (repeat (go_big_quiet_step (first | (go_at_call 20; exact calls_same (s_ClassSize _ _)) | (go_at_call 73; first | exact calls_grew (s_SpanOk _ _ _ true (by assumption) _) | exact calls_grew (s_SpanOk _ _ _ false (by assumption) _) | exact calls_grew (s_SpanOk _ _ _ _ rfl _)) | (go_at_call 15; first | exact calls_same (s_HasSlot _ _ true (by assumption) _) | exact calls_same (s_HasSlot _ _ false (by assumption) _) | exact calls_same (s_HasSlot _ _ _ rfl _))))); refine wpQuiet_nil ?_; intro w2 hw'; have hb := grew_below hw'; clear hw'; (first | have hn := nw4 hb hall (by exact zo) | have hn := nw3 hb hall (by exact zo) | have hn := nw2 hb hall (by exact zo) | have hn := nw1 hb hall (by exact zo) | have hn := nw0 hb hall (by exact zo)); obtain ⟨hc, hf, hn, hc0⟩ := hn; replace hall := hn; clear hn; have hz := hb.size; (try simp only [World.size_alloc, World.size_setCell, World.size_drew] at hz); have hx := hall; (try simp only [allLt, and_true] at hx); (try (have hO := HO.out; replace HO := Lib.hid (Own.below hO (w' := w2) (by exact bel)); clear hO)); obtain ⟨w1, rfl⟩ : ∃ x, x = w2 := ⟨_, rfl⟩))
          go_roundw
          case rel =>
            have hB := HB.out; have hO := HO.out
            exact ⟨k + 1, by omega, by go_num, by rw [hs.out, hh]; simpa using hO, by exact bel, ⟨by go_simp, by go_simp, by go_simp⟩, by omega⟩
          case measure => simp [intOf]; omega
        · go_wp2_with (first | (at_builtin; refine append1 elemInt rfl _ _ rfl lenInt oneInt rfl (HO.out.alloc _) (by simp only [World.size_alloc]; omega) rfl (k : Int) (intCell _ _) (by unfold maxLen; omega) ?_; intro v2 w2 hown2 _ hb2) | (go_at_call 20; (refine (s_ClassSize _ _).mono ?_); rintro e w2 ⟨rfl, rfl⟩) | (go_at_call 73; (first | (refine (s_SpanOk _ _ _ true (by assumption) _).mono ?_) | (refine (s_SpanOk _ _ _ false (by assumption) _).mono ?_) | (refine (s_SpanOk _ _ _ _ rfl _).mono ?_)); rintro e w2 ⟨rfl, hb⟩; (first | have hn := nw4 hb hall (by exact zo) | have hn := nw3 hb hall (by exact zo) | have hn := nw2 hb hall (by exact zo) | have hn := nw1 hb hall (by exact zo) | have hn := nw0 hb hall (by exact zo)); obtain ⟨hc, hf, hn, hc0⟩ := hn; replace hall := hn; clear hn; have hz := hb.size; (try simp only [World.size_alloc, World.size_setCell, World.size_drew] at hz); have hx := hall; (try simp only [allLt, and_true] at hx); (try (have hO := HO.out; replace HO := Lib.hid (Own.below hO (w' := w2) (by exact bel)); clear hO)); obtain ⟨w1, rfl⟩ : ∃ x, x = w2 := ⟨_, rfl⟩) | (go_at_call 15; (first | (refine (s_HasSlot _ _ true (by assumption) _).mono ?_) | (refine (s_HasSlot _ _ false (by assumption) _).mono ?_) | (refine (s_HasSlot _ _ _ rfl _).mono ?_)); rintro e w2 ⟨rfl, rfl⟩) | (with_reducible refine wp_region_grew2 (by kernel_rfl) (by kernel_rfl) ?_; intro w2 hb; (first | have hn := nw4 hb hall (by exact zo) | have hn := nw3 hb hall (by exact zo) | have hn := nw2 hb hall (by exact zo) | have hn := nw1 hb hall (by exact zo) | have hn := nw0 hb hall (by exact zo)); obtain ⟨hc, hf, hn, hc0⟩ := hn; replace hall := hn; clear hn; have hz := hb.size; (try simp only [World.size_alloc, World.size_setCell, World.size_drew] at hz); have hx := hall; (try simp only [allLt, and_true] at hx); (try (have hO := HO.out; replace HO := Lib.hid (Own.below hO (w' := w2) (by exact bel)); clear hO)); obtain ⟨w1, rfl⟩ : ∃ x, x = w2 := ⟨_, rfl⟩; (repeat (go_big_quiet_step (first | (go_at_call 20; exact calls_same (s_ClassSize _ _)) | (go_at_call 73; first | exact calls_grew (s_SpanOk _ _ _ true (by assumption) _) | exact calls_grew (s_SpanOk _ _ _ false (by assumption) _) | exact calls_grew (s_SpanOk _ _ _ _ rfl _)) | (go_at_call 15; first | exact calls_same (s_HasSlot _ _ true (by assumption) _) | exact calls_same (s_HasSlot _ _ false (by assumption) _) | exact calls_same (s_HasSlot _ _ _ rfl _))))); refine wpQuiet_nil ?_; intro w2 hw'; have hb := grew_below hw'; clear hw'; (first | have hn := nw4 hb hall (by exact zo) | have hn := nw3 hb hall (by exact zo) | have hn := nw2 hb hall (by exact zo) | have hn := nw1 hb hall (by exact zo) | have hn := nw0 hb hall (by exact zo)); obtain ⟨hc, hf, hn, hc0⟩ := hn; replace hall := hn; clear hn; have hz := hb.size; (try simp only [World.size_alloc, World.size_setCell, World.size_drew] at hz); have hx := hall; (try simp only [allLt, and_true] at hx); (try (have hO := HO.out; replace HO := Lib.hid (Own.below hO (w' := w2) (by exact bel)); clear hO)); obtain ⟨w1, rfl⟩ : ∃ x, x = w2 := ⟨_, rfl⟩))
          go_roundw
          case rel =>
            have hB := HB.out
            exact ⟨k + 1, by omega, by go_num, by rw [hs.out, hh]; exact hown2, by exact bel, ⟨(hb2.cell (p := ⟨w.heap.size, 0, none⟩) (Nat.lt_succ_self _)).trans (by go_simp), (hb2.cell (p := ⟨w.heap.size, 1, none⟩) (Nat.lt_succ_self _)).trans (by go_simp), (hb2.cell (p := ⟨w.heap.size, 2, none⟩) (Nat.lt_succ_self _)).trans (by go_simp)⟩, by have := hb2.size; simp only [World.size_alloc] at this; omega⟩
          case measure => simp [intOf]; omega
      · have hlt' : ¬ (k : Int) < 16 := by omega
        obtain rfl : k = 16 := by omega
        go_wp2_with (first | (go_at_call 20; (refine (s_ClassSize _ _).mono ?_); rintro e w2 ⟨rfl, rfl⟩) | (go_at_call 73; (first | (refine (s_SpanOk _ _ _ true (by assumption) _).mono ?_) | (refine (s_SpanOk _ _ _ false (by assumption) _).mono ?_) | (refine (s_SpanOk _ _ _ _ rfl _).mono ?_)); rintro e w2 ⟨rfl, hb⟩; (first | have hn := nw4 hb hall (by exact zo) | have hn := nw3 hb hall (by exact zo) | have hn := nw2 hb hall (by exact zo) | have hn := nw1 hb hall (by exact zo) | have hn := nw0 hb hall (by exact zo)); obtain ⟨hc, hf, hn, hc0⟩ := hn; replace hall := hn; clear hn; have hz := hb.size; (try simp only [World.size_alloc, World.size_setCell, World.size_drew] at hz); have hx := hall; (try simp only [allLt, and_true] at hx); (try (have hO := HO.out; replace HO := Lib.hid (Own.below hO (w' := w2) (by exact bel)); clear hO)); obtain ⟨w1, rfl⟩ : ∃ x, x = w2 := ⟨_, rfl⟩) | (go_at_call 15; (first | (refine (s_HasSlot _ _ true (by assumption) _).mono ?_) | (refine (s_HasSlot _ _ false (by assumption) _).mono ?_) | (refine (s_HasSlot _ _ _ rfl _).mono ?_)); rintro e w2 ⟨rfl, rfl⟩) | (with_reducible refine wp_region_grew2 (by kernel_rfl) (by kernel_rfl) ?_; intro w2 hb; (first | have hn := nw4 hb hall (by exact zo) | have hn := nw3 hb hall (by exact zo) | have hn := nw2 hb hall (by exact zo) | have hn := nw1 hb hall (by exact zo) | have hn := nw0 hb hall (by exact zo)); obtain ⟨hc, hf, hn, hc0⟩ := hn; replace hall := hn; clear hn; have hz := hb.size; (try simp only [World.size_alloc, World.size_setCell, World.size_drew] at hz); have hx := hall; (try simp only [allLt, and_true] at hx); (try (have hO := HO.out; replace HO := Lib.hid (Own.below hO (w' := w2) (by exact bel)); clear hO)); obtain ⟨w1, rfl⟩ : ∃ x, x = w2 := ⟨_, rfl⟩; (repeat (go_big_quiet_step (first | (go_at_call 20; exact calls_same (s_ClassSize _ _)) | (go_at_call 73; first | exact calls_grew (s_SpanOk _ _ _ true (by assumption) _) | exact calls_grew (s_SpanOk _ _ _ false (by assumption) _) | exact calls_grew (s_SpanOk _ _ _ _ rfl _)) | (go_at_call 15; first | exact calls_same (s_HasSlot _ _ true (by assumption) _) | exact calls_same (s_HasSlot _ _ false (by assumption) _) | exact calls_same (s_HasSlot _ _ _ rfl _))))); refine wpQuiet_nil ?_; intro w2 hw'; have hb := grew_below hw'; clear hw'; (first | have hn := nw4 hb hall (by exact zo) | have hn := nw3 hb hall (by exact zo) | have hn := nw2 hb hall (by exact zo) | have hn := nw1 hb hall (by exact zo) | have hn := nw0 hb hall (by exact zo)); obtain ⟨hc, hf, hn, hc0⟩ := hn; replace hall := hn; clear hn; have hz := hb.size; (try simp only [World.size_alloc, World.size_setCell, World.size_drew] at hz); have hx := hall; (try simp only [allLt, and_true] at hx); (try (have hO := HO.out; replace HO := Lib.hid (Own.below hO (w' := w2) (by exact bel)); clear hO)); obtain ⟨w1, rfl⟩ : ∃ x, x = w2 := ⟨_, rfl⟩))
        go_ret
        have hB := HB.out
        exact ⟨_, rfl, by rw [H.out]; exact HO.out.mono (by omega), by exact bel⟩

end Go.Proofs.Ytobechjagckdfaa
/-
  A slot is given back: plain facts, and the cells of a frame that are set to 0.
-/
set_option linter.unusedVariables false
set_option linter.unusedSimpArgs false
namespace Go.Proofs.Ytobechjagckdfaa
open Go.RowKit
theorem row16 {K : Ker} (h : canCall K = true) {i : Nat} (hi : i < K.m.f.cells.length) : (K.m.f.cells.getD i []).length = 16 := by
  have h1 := (can_ok h).1
  unfold framesOk at h1
  simp only [Bool.and_eq_true] at h1
  have h2 := allTo_iff.1 h1.2 i hi
  unfold rowOk at h2
  simp only [Bool.and_eq_true, beq_iff_eq] at h2
  exact h2.1
theorem KIn.setCell {B : Nat} {w : World} {g gv n cap i : Nat} {y : KV} {K : Ker} {v : Value} {r : List Int} (h : KIn B w g y K) (hi : y.m.f.vs[i]? = some v) (hr : K.m.f.cells[i]? = some r) (hv : v = .slice (some ⟨gv, 0, none⟩) n cap) (j : Nat) (x : Int) :
    KIn B (w.setCell ⟨gv, j, none⟩ (.int .i64 x)) g y (withF K ⟨K.m.f.cells.set i (r.set j x), K.m.f.used⟩) ∧ Touch (blocks y.m.f.all) w (w.setCell ⟨gv, j, none⟩ (.int .i64 x)) := by
  have S := FOwn.setCell h.own.m.f hi hr hv j x
  exact ⟨KIn.setF (f' := y.m.f) h S.2 (mem_v hi) S.1 (fun b hb => .inl hb) rfl rfl, S.2.mono (mem_v hi)⟩
theorem KIn.row {B : Nat} {w : World} {g : Nat} {y : KV} {K : Ker} (h : KIn B w g y K) {i : Nat} {r : List Int} (hr : K.m.f.cells[i]? = some r) (hpos : 0 < r.length) :
    ∃ gv vc, y.m.f.vs[i]? = some (.slice (some ⟨gv, 0, none⟩) r.length vc) ∧ B ≤ gv ∧ gv < w.heap.size := by
  obtain ⟨v, hv⟩ := getx (show i < y.m.f.vs.length by rw [h.own.m.f.rows.len]; exact getx_lt hr)
  obtain ⟨gv, vc, rfl, h1, h2⟩ := Own.addr (h.own.m.f.rows.row i v r hv hr) hpos
  exact ⟨gv, vc, hv, h1, h2⟩
theorem can0 {K : Ker} (h : kernelOk K = true) : canCall ⟨K.m, 0, K.refuse⟩ = true := by
  unfold canCall kernelOk at *
  simp only [Bool.and_eq_true] at *
  exact ⟨rfl, ⟨⟨h.1.1.1, rfl⟩, h.1.2⟩, h.2⟩
def zeroTo (r : List Int) (a : Nat) : Nat → List Int
  | 0 => r
  | k + 1 => (zeroTo r a k).set (a + k) 0
theorem zeroTo_len (r : List Int) (a : Nat) : ∀ k, (zeroTo r a k).length = r.length
  | 0 => rfl
  | k + 1 => by rw [zeroTo, List.length_set, zeroTo_len r a k]
def clearF (F : Frm) (fr a n : Nat) : Frm := ⟨F.cells.set fr (zeroTo (F.cells.getD fr []) a n), F.used⟩
theorem clearF_zero (F : Frm) (fr a : Nat) : clearF F fr a 0 = F := by
  obtain ⟨cs, us⟩ := F
  unfold clearF zeroTo
  simp only [Frm.mk.injEq, and_true]
  by_cases h : fr < cs.length
  · rw [List.getD_eq_getElem?_getD, List.getElem?_eq_getElem h, Option.getD_some, List.set_getElem_self]
  · rw [List.set_eq_of_length_le (by omega)]
theorem clearF_at {F : Frm} {fr a n : Nat} (h : fr < F.cells.length) : (clearF F fr a n).cells[fr]? = some (zeroTo (F.cells.getD fr []) a n) := by
  unfold clearF; rw [List.getElem?_set_self h]
theorem clearF_step (F : Frm) (fr a n : Nat) : (⟨(clearF F fr a n).cells.set fr ((zeroTo (F.cells.getD fr []) a n).set (a + n) 0), (clearF F fr a n).used⟩ : Frm) = clearF F fr a (n + 1) := by
  unfold clearF; simp only [List.set_set]; rfl
def freeCode (K : Ker) (p c b slot : Int) : Int := if (spanOk p c b && hasSlot b slot) = false then 1 else if (!kernelOk K || !mappedB K.m.ents p) = true then 3 else if ((pageEntry K.m.ents p).m == 1) = true then 2 else 0
def freeK (K : Ker) (p c b slot : Int) : Ker := if freeCode K p c b slot = 0 then withF K (clearF K.m.f (pageEntry K.m.ents p).f.toNat (slot * classSize c).toNat (classSize c).toNat) else K
def freeB (K : Ker) (p c b slot : Int) : Int := if freeCode K p c b slot = 0 then giveBits p c b slot else b
theorem bits_zero : (bits .and .i64 0 1 == 1) = false := by decide
theorem give_place {p c b slot : Int} (h : (spanOk p c b && hasSlot b slot) = true) : ∃ (kp s z : Nat), p = kp ∧ kp ≤ 31 ∧ slot = s ∧ classSize c = z ∧ 1 ≤ z ∧ s * z + z ≤ 16 ∧ spanAddr p c b slot = (kp : Int) * 16 + ((s * z : Nat) : Int) := by
  rw [Bool.and_eq_true] at h
  obtain ⟨hp, hc, hb⟩ := spanOk_parts h.1
  have hh := h.2
  unfold hasSlot slotOk at hh
  simp only [Bool.and_eq_true, between_iff, decide_eq_true_eq] at hh
  obtain ⟨⟨hb0, hs0, hs15⟩, hbit⟩ := hh
  unfold bitmapOk at hb
  simp only [Bool.and_eq_true, between_iff] at hb
  obtain ⟨s, rfl⟩ := Int.eq_ofNat_of_zero_le hs0
  obtain ⟨kp, rfl⟩ := Int.eq_ofNat_of_zero_le hp.1
  have key : (s : Int) < slotsOf c := by
    rcases Int.lt_or_le (s : Int) (slotsOf c) with h1 | h1
    · exact h1
    · exfalso
      have h2 : (2 : Int) ^ (slotsOf c).toNat ≤ 2 ^ s := by
        have := Nat.pow_le_pow_right (show 0 < 2 by decide) (show (slotsOf c).toNat ≤ s by omega)
        exact_mod_cast this
      have h3 : b / 2 ^ s = 0 := Int.ediv_eq_zero_of_lt hb0 (by omega)
      rw [Int.toNat_natCast, h3, bits_zero] at hbit
      cases hbit
  have hbt : between (s : Int) 0 (slotsOf c - 1) = true := between_iff.2 ⟨by omega, by omega⟩
  have hcc := class_mul (between_iff.2 hc)
  have hz := classSize_bound c
  obtain ⟨z, hz'⟩ := Int.eq_ofNat_of_zero_le hz.1
  have hn := slotsOf_bound c
  obtain ⟨n, hn'⟩ := Int.eq_ofNat_of_zero_le hn.1
  rw [hz', hn'] at hcc
  have hnz : n * z = 16 := by exact_mod_cast hcc
  rw [hn'] at key
  have hsn : s + 1 ≤ n := by omega
  have hle := Nat.mul_le_mul_right z hsn
  rw [hnz, Nat.add_mul, Nat.one_mul] at hle
  refine ⟨kp, s, z, rfl, by omega, rfl, hz', ?_, hle, ?_⟩
  · rcases Nat.eq_zero_or_pos z with rfl | h0
    · simp at hnz
    · exact h0
  · unfold spanAddr
    rw [h.1, hbt, hz']
    simp
set_option maxRecDepth 20000 in
set_option maxHeartbeats 1600000 in
theorem i_clearCells (B g : Nat) (y : KV) (K : Ker) (kp fa a n : Nat) (em ad : Int) (hcan : canCall ⟨K.m, 0, K.refuse⟩ = true) (hpe : pageEntry K.m.ents kp = ⟨em, fa⟩) (hfa : fa < K.m.f.cells.length) (had : ad = (kp : Int) * 16 + (a : Nat)) (ha : a + n ≤ 16) (ha2 : a < 16) (hk31 : kp ≤ 31) (w : World) (h : KIn B w g y K) : Calls Try.prog 34 #[.pointer (some ⟨g, 0, none⟩), .int .i64 ad, .int .i64 (n : Nat)] w fun e w' => e = .returned (.tuple #[]) ∧ KIn B w' g y (withF K (clearF K.m.f fa a n)) ∧ Touch (blocks y.m.f.all) w w' ∧ Below B w w' := by
  have HI := Lib.hid h
  have hBz : B ≤ w.heap.size := by have := h.hB; have := h.box.lt; omega
  have HPA := Lib.hid hpe; have HFA := Lib.hid hfa
  have R16 : Hid ((K.m.f.cells.getD fa []).length = 16) := Lib.hid (row16 hcan hfa)
  have d1 : ad.tdiv 16 = kp := by subst had; rw [Int.tdiv_eq_ediv_of_nonneg (by omega)]; omega
  have d2 : ad.tmod 16 = (a : Nat) := by subst had; rw [Int.tmod_eq_emod_of_nonneg (by omega)]; omega
  have d3 : ad / 16 = kp := by omega
  have d4 : ad % 16 = (a : Nat) := by omega
  have hkp : (kp : Int) ≤ 31 := by omega
  have ha3 : (a : Int) < 16 := by omega
  have hn3 : (n : Int) ≤ 16 := by omega
  obtain ⟨yco, ycc, yuo, yuc, yvs, yeo, yec, yro, yrc, rfl⟩ := h.own.shapes
  have hvl : yvs.length = K.m.f.cells.length := h.own.m.f.rows.len
  obtain ⟨xg, c0, c1, c2, c3, c4, f0, f1, f2, f3, f4⟩ := h.box
  dsimp only at c2
  have hfal : (fa : Int) < yvs.length := by omega
  clear h hcan hpe hvl c0 c1 c3 c4 f0 f1 f2 f3 f4
  obtain ⟨gc, gcc, hgc, -, -⟩ := Own.addr HI.out.own.m.f.rows.out (show 0 < yvs.length by omega)
  simp only [Value.slice.injEq] at hgc
  obtain ⟨rfl, -, rfl⟩ := hgc
  obtain ⟨ga, va, hva, -, -⟩ := HI.out.row (i := fa) (r := K.m.f.cells.getD fa []) (by obtain ⟨r, hr⟩ := getx HFA.out; rw [getD_of hr]; exact hr) (by rw [R16.out]; omega)
  rw [R16.out] at hva
  dsimp only at hva
  have HVA := Lib.hid hva; clear hva
  clear hfa had
  (have hall := all_nil w; go_enter Try.func34, Try.ntmps34)
  go_wp2_with (first | (go_at_call 33; (((with_reducible refine (i_PageEntry _ K.m.ents kp _ (HI.out.own.m.ents.at lenEnt)).mono ?_)); rintro e w2 ⟨rfl, hb⟩; rw [HPA.out]; (have K2x := HI.out.below hb); (have KI := Lib.hid K2x); (have HT := Lib.hid (touch_of_below hb (blocks (FV.mk (.slice (some ⟨gc, 0, none⟩) yvs.length ycc) (.slice yuo K.m.f.used.length yuc) yvs).all))); clear hb K2x; obtain ⟨wa, rfl⟩ : ∃ x, x = w2 := ⟨_, rfl⟩)) | (with_reducible refine wp_region_grew2 (by kernel_rfl) (by kernel_rfl) ?_; intro w2 hb; (first | have hn := nw4 hb hall (by exact zo) | have hn := nw3 hb hall (by exact zo) | have hn := nw2 hb hall (by exact zo) | have hn := nw1 hb hall (by exact zo) | have hn := nw0 hb hall (by exact zo)); obtain ⟨hc, hf, hn, hc0⟩ := hn; replace hall := hn; clear hn; have hz := hb.size; (try simp only [World.size_alloc, World.size_setCell, World.size_drew] at hz); have hx := hall; (try simp only [allLt, and_true] at hx); obtain ⟨w1, rfl⟩ : ∃ x, x = w2 := ⟨_, rfl⟩; (repeat (go_big_quiet_step (fail))); refine wpQuiet_nil ?_; intro w2 hw'; have hb := grew_below hw'; clear hw'; (first | have hn := nw4 hb hall (by exact zo) | have hn := nw3 hb hall (by exact zo) | have hn := nw2 hb hall (by exact zo) | have hn := nw1 hb hall (by exact zo) | have hn := nw0 hb hall (by exact zo)); obtain ⟨hc, hf, hn, hc0⟩ := hn; replace hall := hn; clear hn; have hz := hb.size; (try simp only [World.size_alloc, World.size_setCell, World.size_drew] at hz); have hx := hall; (try simp only [allLt, and_true] at hx); obtain ⟨w1, rfl⟩ : ∃ x, x = w2 := ⟨_, rfl⟩))
  clear xg c2
  go_loopw [7] (fun i wr => ∃ j : Nat, j ≤ n ∧ i = .int .i64 j ∧ KIn B wr g ⟨⟨⟨.slice (some ⟨gc, 0, none⟩) yvs.length ycc, .slice yuo K.m.f.used.length yuc, yvs⟩, .slice yeo K.m.ents.length yec⟩, .slice yro K.refuse.length yrc⟩ (withF K (clearF K.m.f fa a j)) ∧ Touch (blocks (FV.mk (.slice (some ⟨gc, 0, none⟩) yvs.length ycc) (.slice yuo K.m.f.used.length yuc) yvs).all) w wr) (fun i _ => n - (intOf i).toNat)
  case atStart => exact ⟨0, Nat.zero_le _, rfl, by rw [clearF_zero]; exact KI.out, HT.out⟩
  case round =>
    obtain ⟨j, hj, rfl, hk, ht⟩ := hrel
    have HK := Lib.hid hk; have HTJ := Lib.hid ht
    obtain ⟨w1, rfl⟩ : ∃ x, x = wr := ⟨_, rfl⟩
    clear hk ht
    have hB := HTJ.out.size
    by_cases hlt : j < n
    · have hlt' : (j : Int) < (n : Nat) := by omega
      obtain ⟨cn, hcn0⟩ : ∃ cn : Nat, cn = a + j := ⟨_, rfl⟩
      have hcn : (cn : Int) < 16 := by omega
      have hcn2 : ((a : Nat) : Int) + j = (cn : Nat) := by omega
      have hcnN : cn < 16 := by omega
      have HCN := Lib.hid hcn0; clear hcn0
      obtain ⟨xg, c0, c1, c2, c3, c4, f0, f1, f2, f3, f4⟩ := HK.out.box
      dsimp only at c0
      have hrb := clearF_at (a := a) (n := j) HFA.out
      obtain ⟨-, xgc, -, eb'⟩ := Own.slot HK.out.own.m.f.rows.out lenVal HVA.out
      have ecB := eb' 0 _ rfl
      simp only [Nat.mul_one, Nat.add_zero] at ecB
      obtain ⟨ry, hry⟩ := getx (xs := zeroTo (K.m.f.cells.getD fa []) a j) (k := cn) (by rw [zeroTo_len, R16.out]; omega)
      obtain ⟨-, xgb, eB, zB⟩ := OwnI.slotI (HK.out.own.m.f.rows.row fa _ _ HVA.out hrb) hry
      have HRB := Lib.hid hrb
      clear hrb eb' hry c1 c2 c3 c4 f0 f1 f2 f3 f4
      
      go_wp2_with (first | (with_reducible refine wp_region_grew2 (by kernel_rfl) (by kernel_rfl) ?_; intro w2 hb; (first | have hn := nw4 hb hall (by exact zo) | have hn := nw3 hb hall (by exact zo) | have hn := nw2 hb hall (by exact zo) | have hn := nw1 hb hall (by exact zo) | have hn := nw0 hb hall (by exact zo)); obtain ⟨hc, hf, hn, hc0⟩ := hn; replace hall := hn; clear hn; have hz := hb.size; (try simp only [World.size_alloc, World.size_setCell, World.size_drew] at hz); have hx := hall; (try simp only [allLt, and_true] at hx); obtain ⟨w1, rfl⟩ : ∃ x, x = w2 := ⟨_, rfl⟩; (repeat (go_big_quiet_step (fail))); refine wpQuiet_nil ?_; intro w2 hw'; have hb := grew_below hw'; clear hw'; (first | have hn := nw4 hb hall (by exact zo) | have hn := nw3 hb hall (by exact zo) | have hn := nw2 hb hall (by exact zo) | have hn := nw1 hb hall (by exact zo) | have hn := nw0 hb hall (by exact zo)); obtain ⟨hc, hf, hn, hc0⟩ := hn; replace hall := hn; clear hn; have hz := hb.size; (try simp only [World.size_alloc, World.size_setCell, World.size_drew] at hz); have hx := hall; (try simp only [allLt, and_true] at hx); obtain ⟨w1, rfl⟩ : ∃ x, x = w2 := ⟨_, rfl⟩))
      go_roundw
      case rel =>
        have S := KIn.setCell HK.out HVA.out HRB.out rfl cn 0
        have e := clearF_step K.m.f fa a j
        rw [← HCN.out] at e
        refine ⟨j + 1, by omega, by go_num, ?_, HTJ.out.trans S.2⟩
        rw [← e]
        exact S.1
      case measure => simp [intOf]; omega
    · have hlt' : ¬ (j : Int) < (n : Nat) := by omega
      obtain rfl : j = n := by omega
      go_wp2_with fail
      skip
      go_end0
      have hB : Below B w w1 := HTJ.out.toBelow (fun b hb => (HI.out.own.lts b (mem_all hb)).1) hBz
      exact ⟨rfl, HK.out, HTJ.out, hB⟩

end Go.Proofs.Ytobechjagckdfaa
/-
  The frame of every statement of this seat: if the call returns true and nothing that was there has turned, the row's condition behind the call holds. No Go function is named here.
-/
set_option linter.unusedVariables false
set_option linter.unusedSimpArgs false
namespace Go.Proofs.Ytobechjagckdfaa
open Go.ChangeShapes Go.WideShapes Go.ChangeAt Go.RowKit
section
variable {H : Type} {enc : TypeId × Value → H} {P : Program}
/-- All arguments read behind the call as before, if below the old heap nothing has turned. -/
theorem trodAll_below (hl : laidOutB P = true) {W W' : World} (hb : Below W.heap.size W W') {sp : Nat → Bool} : ∀ (ts : List TypeId) (vs : List Value) (ds : List (DataW H)) (ps : List MemPlace), ts.all (fun t => P.readableRec t && decide (t < P.types.size)) = true → DataW.TrodAll enc P W 0 (fun _ => true) true ts vs ds ps →
    (∀ p ∈ ps, p.block < W.heap.size) → (∀ p ∈ ps, sp p.block = true) → DataW.TrodAll enc P W' 0 sp true ts vs ds ps
  | [], [], [], ps, _, h, _, _ => h
  | t :: ts, v :: vs, d :: ds, ps, ht, h, hlt, hsp => by
    obtain ⟨p, q, hd, hr, rfl⟩ := h
    simp only [List.all_cons, Bool.and_eq_true, decide_eq_true_eq] at ht
    exact ⟨p, q, WideElems.Trod_stays hl ht.1.1 ht.1.2 hd (fun x hx => hb.same (hlt x (List.mem_append_left _ hx))) (fun x hx => hsp x (List.mem_append_left _ hx)),
      trodAll_below hl hb ts vs ds q ht.2 hr (fun x hx => hlt x (List.mem_append_right _ hx)) (fun x hx => hsp x (List.mem_append_right _ hx)), rfl⟩
  | [], _ :: _, _, _, _, h, _, _ => by cases h
  | [], [], _ :: _, _, _, h, _, _ => by cases h
  | _ :: _, [], _, _, _, h, _, _ => by cases h
  | _ :: _, _ :: _, [], _, _, h, _, _ => by cases h
/-- The row's condition behind a call of a law that has returned true. -/
theorem law_post {f : Func} {s : ChangeSpec} {apart fresh handsOn : Bool} {W W' : World} {args : Array Value} {ds gs : List (DataW H)} {before : List MemPlace} {tb : TypeId}
    (hl : laidOutB P = true) (hall : f.params.toList.all (fun t => P.readableRec t && decide (t < P.types.size)) = true) (hvars : s.vars = []) (hres : f.resultTypes = #[tb]) (hbool : P.underlying tb = some .bool)
    (hW : DataW.Whole enc P f.params.toList s.vars apart W args.toList ds gs before)
    (h1 : (s.fn H (ds ++ gs)).results = [.lit (.bool true)]) (h2 : (s.fn H (ds ++ gs)).args = ds) (h3 : (s.fn H (ds ++ gs)).vars = []) (hb : Below W.heap.size W W') :
    s.post enc P f apart fresh handsOn false W args (.bool true) W' := by
  have hlt : ∀ p ∈ before, p.block < W.heap.size := fun p hp => hW.lt p hp
  have hW0 := hW
  obtain ⟨p, q, hA, hV, rfl, hz, hn⟩ := hW
  rw [hvars] at hV
  cases gs with
  | cons _ _ => exact hV.elim
  | nil =>
    obtain rfl : q = [] := hV
    simp only [List.append_nil] at *
    have hr : ∀ (b : Nat) (sp : Nat → Bool) (hd : Bool), DataW.TrodAll enc P W' b sp hd [tb] [.bool true] [.lit (.bool true)] [] := fun b sp hd => trodAll_mk1 (shut_bool hbool _)
    refine ⟨ds, [], p, [], p, [], hW0, ?_, ?_, ?_, World.keptBut_mono (fun x hx => ⟨hx, .inr (.inl hx)⟩) (hb.frame (· ∈ p)), fun h => by cases h⟩
    · rw [List.append_nil, h1, hres]; exact hr _ _ _
    · rw [List.append_nil, h2]
      exact trodAll_below hl hb _ _ _ _ hall hA (fun x hx => hlt x (by simpa using hx)) (fun x hx => by simpa using hlt x (by simpa using hx))
    · rw [List.append_nil, h3, hvars]; exact rfl
end
theorem own : ownKnob Try.prog.godebug = none := by kernel_rfl
theorem laidOut : laidOutB Try.prog = true := by kernel_rfl
end Go.Proofs.Ytobechjagckdfaa
