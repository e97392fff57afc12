/-
  Texts put together: MachNew3, Frame.
-/
import Derived.Test.YtkkebpcclklmcaaGB35
import Derived.Test.YtkkebpcclklmcaaGB24
import Derived.Deep.DeepCutAuto
import Derived.Test.YtkkebpcclklmcaaRows
import Derived.WalkKit
import Derived.ProofKit
import Derived.OpenShut
import Derived.Lib.SmallJoins
/-
  New kernels, by the reference.
-/
set_option linter.unusedVariables false
set_option linter.unusedSimpArgs false
namespace Go.Proofs.Ytkkebpcclklmcaa
open Go.RowKit
def NewK4 (w : World) (rf : List Int) (e : Ending) (w' : World) : Prop := ∃ y : KV, e = .returned (.tuple #[y.val 0, .bool true]) ∧ KOwn w.heap.size w' y (newK 4 4 rf) ∧ Below w.heap.size w w'
set_option maxRecDepth 20000 in
set_option maxHeartbeats 3200000 in
theorem s_KernelNew (v : Value) (rf : List Int) (hr : ∀ x ∈ rf, 0 ≤ x ∧ x < 12) (hl : rf.length ≤ 3) (w : World) (hv : IntsAt w v rf) : Calls Try.prog 57 #[.int .i64 4, .int .i64 4, v] w (NewK4 w rf) := by
  obtain ⟨ao, ca, rfl, -, -⟩ := hv.shape
  have HV := Lib.hid hv
  clear hv
  (have hall := all_nil w; go_enter Try.func57, Try.ntmps57)
  go_upto_region 2 with ((go_at_call 80; (refine (s_MachineNew _).mono ?_; rintro e w2 ⟨y, rfl, hyo, hb⟩; (obtain ⟨yco, ycc, yuo, yuc, yvs, yeo, yec, rfl⟩ := MOwn.shapes hyo); (have OM : Hid (MOwn (w.heap.size + 1) w2 ⟨⟨.slice yco yvs.length ycc, .slice yuo 4 yuc, yvs⟩, .slice yeo 4 yec⟩ (newK 4 4 []).m) := Lib.hid (by (try simp only [World.size_alloc] at hyo); exact hyo)); have HB1 := Lib.hid hb; obtain ⟨kwa_0_0, fwa_0_0, kwa_0_1, fwa_0_1, kwa_0_2, fwa_0_2, kwa_0_3, fwa_0_3, kwa_0_4, fwa_0_4⟩ := kf5 hb (w.heap.size) (.slice none 0 0) (.slice none 0 0) (.slice none 0 0) (.int .i64 0) (.slice none 0 0); have xwa_0 : w.heap.size < w2.heap.size := xc hb; have hzwa := hb.size; (try simp only [World.size_alloc, World.size_setCell, World.size_drew] at hzwa); clear hyo; simp only [MV.val, newK, List.length_replicate]; obtain ⟨wa, rfl⟩ : ∃ x, x = w2 := ⟨_, rfl⟩)))
  have BM : Hid (BoxAt (wa.alloc (.cells #[.slice yco yvs.length ycc, .slice yuo 4 yuc, .slice yeo 4 yec] 32)) (wa.heap.size) [.slice yco yvs.length ycc, .slice yuo 4 yuc, .slice yeo 4 yec]) := Lib.hid (BoxAt.snoc (BoxAt.snoc (BoxAt.snoc (BoxAt.nil (w := (wa.alloc (.cells #[.slice yco yvs.length ycc, .slice yuo 4 yuc, .slice yeo 4 yec] 32))) (g := wa.heap.size) (by go_simp)) (i := 0) rfl (by go_simp) (by go_simp)) (i := 1) rfl (by go_simp) (by go_simp)) (i := 2) rfl (by go_simp) (by go_simp))
  go_cut [10] (fun ss10 wx => ∃ gb ro rc, ss10 = .pointer (some ⟨gb, 0, none⟩) ∧ BoxAt wx gb [.slice yco yvs.length ycc, .slice yuo 4 yuc, .slice yeo 4 yec, .int .i64 0, (.slice ro rf.length rc)] ∧ OwnI (wa.heap.size + 1) wx (.slice ro rf.length rc) rf ∧ wa.heap.size + 1 ≤ gb ∧ gb ∉ blocks [((.slice ro rf.length rc) : Value)] ∧ Below ((wa.alloc (.cells #[.slice yco yvs.length ycc, .slice yuo 4 yuc, .slice yeo 4 yec] 32))).heap.size (wa.alloc (.cells #[.slice yco yvs.length ycc, .slice yuo 4 yuc, .slice yeo 4 yec] 32)) wx)
  case first =>
    go_region_law ((first | ((refine step_appendAll elemInt rfl _ _ rfl lenInt oneInt rfl (xs := []) (B := wa.heap.size + 1) (v := .slice (some ⟨wa.heap.size + 1, 0, none⟩) 0 0) (by repeat (first | (with_reducible exact Own.empty' _ _ _ (wa.heap.size + 1) _ _ (by simp) (by exact zt)) | (with_reducible refine Own.alloc ?_ _) | (with_reducible refine Own.below ?_ (Below.drew (Below.refl _ _))))) (by exact zt) rfl (HV.out.below (by (have hB1 := HB1.out; exact bel))) (by simp only [List.length_nil, maxLen]; omega) ?_; intro v4 w2 hown4 hgr4 hat4 hb; (try simp only [List.nil_append] at hown4); obtain ⟨ro, rc, rfl, -, -⟩ := hown4.shape; have HN := Lib.hid hown4; (have HBC := Lib.hid hb); have HA4 := Lib.hid hat4; have km0 : w2.cell? ⟨wa.heap.size, 0, none⟩ = some (.slice yco yvs.length ycc) := kc hb (by exact zt) (by go_simp); have km1 : w2.cell? ⟨wa.heap.size, 1, none⟩ = some (.slice yuo 4 yuc) := kc hb (by exact zt) (by go_simp); have km2 : w2.cell? ⟨wa.heap.size, 2, none⟩ = some (.slice yeo 4 yec) := kc hb (by exact zt) (by go_simp); (have hnn : wa.heap.size + 1 + 1 ∉ blocks [(.slice (some ⟨wa.heap.size + 1, 0, none⟩) 0 0 : Value)] := fun hm => by have h0 := one_blkK hm; simp [Value.ownBlock] at h0); (try (have kb0 : w2.cell? ⟨wa.heap.size + 1 + 1, 0, none⟩ = some (.slice none 0 0) := ?_; rotate_left; (focus (refine ((grown_touch1 hgr4).cell ?_ hnn).trans ?_; (focus (exact zt)); (focus (go_simp; done)))); have fb0 : w2.frozen? ⟨wa.heap.size + 1 + 1, 0, none⟩ = false := ?_; rotate_left; (focus (refine ((grown_touch1 hgr4).frozen ?_ hnn).trans ?_; (focus (exact zt)); (focus (go_simp; done)))); have kb1 : w2.cell? ⟨wa.heap.size + 1 + 1, 1, none⟩ = some (.slice none 0 0) := ?_; rotate_left; (focus (refine ((grown_touch1 hgr4).cell ?_ hnn).trans ?_; (focus (exact zt)); (focus (go_simp; done)))); have fb1 : w2.frozen? ⟨wa.heap.size + 1 + 1, 1, none⟩ = false := ?_; rotate_left; (focus (refine ((grown_touch1 hgr4).frozen ?_ hnn).trans ?_; (focus (exact zt)); (focus (go_simp; done)))); have kb2 : w2.cell? ⟨wa.heap.size + 1 + 1, 2, none⟩ = some (.slice none 0 0) := ?_; rotate_left; (focus (refine ((grown_touch1 hgr4).cell ?_ hnn).trans ?_; (focus (exact zt)); (focus (go_simp; done)))); have fb2 : w2.frozen? ⟨wa.heap.size + 1 + 1, 2, none⟩ = false := ?_; rotate_left; (focus (refine ((grown_touch1 hgr4).frozen ?_ hnn).trans ?_; (focus (exact zt)); (focus (go_simp; done)))); have kb3 : w2.cell? ⟨wa.heap.size + 1 + 1, 3, none⟩ = some (.int .i64 0) := ?_; rotate_left; (focus (refine ((grown_touch1 hgr4).cell ?_ hnn).trans ?_; (focus (exact zt)); (focus (go_simp; done)))); have fb3 : w2.frozen? ⟨wa.heap.size + 1 + 1, 3, none⟩ = false := ?_; rotate_left; (focus (refine ((grown_touch1 hgr4).frozen ?_ hnn).trans ?_; (focus (exact zt)); (focus (go_simp; done)))); have kb4 : w2.cell? ⟨wa.heap.size + 1 + 1, 4, none⟩ = some (.slice none 0 0) := ?_; rotate_left; (focus (refine ((grown_touch1 hgr4).cell ?_ hnn).trans ?_; (focus (exact zt)); (focus (go_simp; done)))); have fb4 : w2.frozen? ⟨wa.heap.size + 1 + 1, 4, none⟩ = false := ?_; rotate_left; (focus (refine ((grown_touch1 hgr4).frozen ?_ hnn).trans ?_; (focus (exact zt)); (focus (go_simp; done)))))); (have hzq := hb.size); (try simp only [World.size_alloc, World.size_drew] at hzq); (have xmq : wa.heap.size < w2.heap.size := by omega); (have xnq : wa.heap.size + 1 < w2.heap.size := by omega); (try (have HNE : Hid (wa.heap.size + 1 + 1 ∉ blocks [((.slice ro rf.length rc) : Value)]) := Lib.hid (fun hm => by rcases hat4 with e | e; (focus exact hnn (mem_one (e.symm.trans (one_blkK hm)))); (focus (have e2 := Option.some.inj (e.symm.trans (one_blkK hm)); (try simp only [World.size_alloc, World.size_drew] at e2); omega))))); clear hown4 hgr4 hat4 hb; obtain ⟨wq, rfl⟩ : ∃ x, x = w2 := ⟨_, rfl⟩)) | ((refine step_appendAll elemInt rfl _ _ rfl lenInt oneInt rfl (xs := []) (B := wa.heap.size + 1) (v := .slice (some ⟨wa.heap.size + 1 + 1, 0, none⟩) 0 0) (by repeat (first | (with_reducible exact Own.empty' _ _ _ (wa.heap.size + 1) _ _ (by simp) (by exact zt)) | (with_reducible refine Own.below ?_ (Below.drew (Below.refl _ _))))) (by exact zt) rfl (HV.out.below (by (have hB1 := HB1.out; exact bel))) (by simp only [List.length_nil, maxLen]; omega) ?_; intro v4 w2 hown4 hgr4 hat4 hb; (try simp only [List.nil_append] at hown4); obtain ⟨ro, rc, rfl, -, -⟩ := hown4.shape; have HN := Lib.hid hown4; (have HBC := Lib.hid hb); have HA4 := Lib.hid hat4; have km0 : w2.cell? ⟨wa.heap.size, 0, none⟩ = some (.slice yco yvs.length ycc) := kc hb (by exact zt) (by go_simp); have km1 : w2.cell? ⟨wa.heap.size, 1, none⟩ = some (.slice yuo 4 yuc) := kc hb (by exact zt) (by go_simp); have km2 : w2.cell? ⟨wa.heap.size, 2, none⟩ = some (.slice yeo 4 yec) := kc hb (by exact zt) (by go_simp); (have hnn : wa.heap.size + 1 ∉ blocks [(.slice (some ⟨wa.heap.size + 1 + 1, 0, none⟩) 0 0 : Value)] := fun hm => by have h0 := one_blkK hm; simp [Value.ownBlock] at h0); (try (have kb0 : w2.cell? ⟨wa.heap.size + 1, 0, none⟩ = some (.slice none 0 0) := ?_; rotate_left; (focus (refine ((grown_touch1 hgr4).cell ?_ hnn).trans ?_; (focus (exact zt)); (focus (go_simp; done)))); have fb0 : w2.frozen? ⟨wa.heap.size + 1, 0, none⟩ = false := ?_; rotate_left; (focus (refine ((grown_touch1 hgr4).frozen ?_ hnn).trans ?_; (focus (exact zt)); (focus (go_simp; done)))); have kb1 : w2.cell? ⟨wa.heap.size + 1, 1, none⟩ = some (.slice none 0 0) := ?_; rotate_left; (focus (refine ((grown_touch1 hgr4).cell ?_ hnn).trans ?_; (focus (exact zt)); (focus (go_simp; done)))); have fb1 : w2.frozen? ⟨wa.heap.size + 1, 1, none⟩ = false := ?_; rotate_left; (focus (refine ((grown_touch1 hgr4).frozen ?_ hnn).trans ?_; (focus (exact zt)); (focus (go_simp; done)))); have kb2 : w2.cell? ⟨wa.heap.size + 1, 2, none⟩ = some (.slice none 0 0) := ?_; rotate_left; (focus (refine ((grown_touch1 hgr4).cell ?_ hnn).trans ?_; (focus (exact zt)); (focus (go_simp; done)))); have fb2 : w2.frozen? ⟨wa.heap.size + 1, 2, none⟩ = false := ?_; rotate_left; (focus (refine ((grown_touch1 hgr4).frozen ?_ hnn).trans ?_; (focus (exact zt)); (focus (go_simp; done)))); have kb3 : w2.cell? ⟨wa.heap.size + 1, 3, none⟩ = some (.int .i64 0) := ?_; rotate_left; (focus (refine ((grown_touch1 hgr4).cell ?_ hnn).trans ?_; (focus (exact zt)); (focus (go_simp; done)))); have fb3 : w2.frozen? ⟨wa.heap.size + 1, 3, none⟩ = false := ?_; rotate_left; (focus (refine ((grown_touch1 hgr4).frozen ?_ hnn).trans ?_; (focus (exact zt)); (focus (go_simp; done)))); have kb4 : w2.cell? ⟨wa.heap.size + 1, 4, none⟩ = some (.slice none 0 0) := ?_; rotate_left; (focus (refine ((grown_touch1 hgr4).cell ?_ hnn).trans ?_; (focus (exact zt)); (focus (go_simp; done)))); have fb4 : w2.frozen? ⟨wa.heap.size + 1, 4, none⟩ = false := ?_; rotate_left; (focus (refine ((grown_touch1 hgr4).frozen ?_ hnn).trans ?_; (focus (exact zt)); (focus (go_simp; done)))))); (have hzq := hb.size); (try simp only [World.size_alloc, World.size_drew] at hzq); (have xmq : wa.heap.size < w2.heap.size := by omega); (have xnq : wa.heap.size + 1 < w2.heap.size := by omega); (try (have HNE : Hid (wa.heap.size + 1 ∉ blocks [((.slice ro rf.length rc) : Value)]) := Lib.hid (fun hm => by rcases hat4 with e | e; (focus exact hnn (mem_one (e.symm.trans (one_blkK hm)))); (focus (have e2 := Option.some.inj (e.symm.trans (one_blkK hm)); (try simp only [World.size_alloc, World.size_drew] at e2); omega))))); clear hown4 hgr4 hat4 hb; obtain ⟨wq, rfl⟩ : ∃ x, x = w2 := ⟨_, rfl⟩))))
    all_goals (go_wp2_with fail; go_meet; have hBC := HBC.out; first | (refine ⟨wq.heap.size, ro, rc, rfl, (BoxAt.snoc (BoxAt.snoc (BoxAt.snoc (BoxAt.snoc (BoxAt.snoc (BoxAt.nil (w := _) (g := wq.heap.size) (by exact zo)) (v := .slice yco yvs.length ycc) (i := 0) rfl (by go_simp) (by go_simp)) (v := .slice yuo 4 yuc) (i := 1) rfl (by go_simp) (by go_simp)) (v := .slice yeo 4 yec) (i := 2) rfl (by go_simp) (by go_simp)) (v := .int .i64 0) (i := 3) rfl (by go_simp) (by go_simp)) (v := (.slice ro rf.length rc)) (i := 4) rfl (by go_simp) (by go_simp)), ?_, by omega, (fun hm => by have := (Own.lts HN.out _ hm).2; omega), by exact bel⟩; (repeat (first | (with_reducible exact HN.out) | (with_reducible refine Own.alloc ?_ _)))) | (refine ⟨wa.heap.size + 1, ro, rc, rfl, (BoxAt.snoc (BoxAt.snoc (BoxAt.snoc (BoxAt.snoc (BoxAt.snoc (BoxAt.nil (w := _) (g := wa.heap.size + 1) (by exact zo)) (v := .slice yco yvs.length ycc) (i := 0) rfl (by go_simp) (by go_simp)) (v := .slice yuo 4 yuc) (i := 1) rfl (by go_simp) (by go_simp)) (v := .slice yeo 4 yec) (i := 2) rfl (by go_simp) (by go_simp)) (v := .int .i64 0) (i := 3) rfl (by go_simp) (by go_simp)) (v := (.slice ro rf.length rc)) (i := 4) rfl (by go_simp) (by go_simp)), ?_, by omega, HNE.out, by exact bel⟩; (repeat (first | (with_reducible exact HN.out) | ((with_reducible refine Own.setCell ?_ _ _ ?_); rotate_left; (focus (intro e; exact HNE.out (mem_one e))))))) | (refine ⟨wa.heap.size + 1 + 1, ro, rc, rfl, (BoxAt.snoc (BoxAt.snoc (BoxAt.snoc (BoxAt.snoc (BoxAt.snoc (BoxAt.nil (w := _) (g := wa.heap.size + 1 + 1) (by exact zo)) (v := .slice yco yvs.length ycc) (i := 0) rfl (by go_simp) (by go_simp)) (v := .slice yuo 4 yuc) (i := 1) rfl (by go_simp) (by go_simp)) (v := .slice yeo 4 yec) (i := 2) rfl (by go_simp) (by go_simp)) (v := .int .i64 0) (i := 3) rfl (by go_simp) (by go_simp)) (v := (.slice ro rf.length rc)) (i := 4) rfl (by go_simp) (by go_simp)), ?_, by omega, HNE.out, by exact bel⟩; (repeat (first | (with_reducible exact HN.out) | ((with_reducible refine Own.setCell ?_ _ _ ?_); rotate_left; (focus (intro e; exact HNE.out (mem_one e))))))))
  obtain ⟨gb, ro, rc, rfl, bG, oR, hgb, hnb, hbel⟩ := hcut
  obtain ⟨wk, rfl⟩ : ∃ x, x = wc := ⟨_, rfl⟩
  have hzk := hbel.size
  simp only [World.size_alloc] at hzk
  have BG := Lib.hid bG; have OR := Lib.hid oR; have HBK := Lib.hid hbel
  have HBW : Hid (Below w.heap.size w wk) := Lib.hid (by (have hB1 := HB1.out; exact bel))
  have k0 := (bG.cells 0 _ rfl).1; have k1 := (bG.cells 1 _ rfl).1; have k2 := (bG.cells 2 _ rfl).1; have k3 := (bG.cells 3 _ rfl).1; have k4 := (bG.cells 4 _ rfl).1
  have xg := bG.lt
  have B0 : Hid (BoxAt wk (w.heap.size) [.slice none 0 0, .slice none 0 0, .slice none 0 0, .int .i64 0, .slice none 0 0]) := Lib.hid (BoxAt.below (w := wa) (by exact BoxAt.snoc (BoxAt.snoc (BoxAt.snoc (BoxAt.snoc (BoxAt.snoc (BoxAt.nil xwa_0) rfl kwa_0_0 fwa_0_0) rfl kwa_0_1 fwa_0_1) rfl kwa_0_2 fwa_0_2) rfl kwa_0_3 fwa_0_3) rfl kwa_0_4 fwa_0_4) (by (have hB := HBK.out; exact bel)))
  have OMK : Hid (MOwn (w.heap.size + 1) wk ⟨⟨.slice yco yvs.length ycc, .slice yuo 4 yuc, yvs⟩, .slice yeo 4 yec⟩ (newK 4 4 []).m) := Lib.hid (MOwn.below OM.out (by (have hB := HBK.out; exact bel)))
  have KO : Hid (KOwn (w.heap.size + 1) wk ⟨⟨⟨.slice yco yvs.length ycc, .slice yuo 4 yuc, yvs⟩, .slice yeo 4 yec⟩, (.slice ro rf.length rc)⟩ (newK 4 4 rf)) := Lib.hid ⟨OMK.out, Own.mono OR.out (by omega), nodup_blocks (l := [_]) (nodup_one _) OMK.out.nd (fun g hg hm => by have h1 := (Own.lts OR.out g hg).1; have h2 := (MOwn.lts OM.out g hm).2; omega)⟩
  have hko : kernelOk (newK 4 4 rf) = true := (kernelOk_iff _).2 ⟨fun x hx => (hr x hx).1, by unfold newK; simp, by (show rf.length ≤ 40); omega, newK_ok (by omega) (by omega)⟩
  have KOC : Hid (∀ W, KAt W ⟨⟨⟨.slice yco yvs.length ycc, .slice yuo 4 yuc, yvs⟩, .slice yeo 4 yec⟩, (.slice ro rf.length rc)⟩ (newK 4 4 rf) → Calls Try.prog 81 #[.agg #[.slice yco yvs.length ycc, .slice yuo 4 yuc, .slice yeo 4 yec, .int .i64 0, (.slice ro rf.length rc)]] W fun e w' => e = .returned (.bool true) ∧ Below W.heap.size W w') := Lib.hid (fun W h => s_KernelOk ⟨⟨⟨.slice yco yvs.length ycc, .slice yuo 4 yuc, yvs⟩, .slice yeo 4 yec⟩, (.slice ro rf.length rc)⟩ (newK 4 4 rf) true hko W h)
  have r0 := (B0.out.cells 0 _ rfl); have r1 := (B0.out.cells 1 _ rfl); have r2 := (B0.out.cells 2 _ rfl); have r3 := (B0.out.cells 3 _ rfl); have r4 := (B0.out.cells 4 _ rfl)
  have x0 := B0.out.lt
  clear bG oR hbel hko
  obtain ⟨p0, f0⟩ := r0; obtain ⟨p1, f1⟩ := r1; obtain ⟨p2, f2⟩ := r2; obtain ⟨p3, f3⟩ := r3; obtain ⟨p4, f4⟩ := r4
  go_wp2_with ((go_at_call 81; (refine (KOC.out _ (KO.out.at.below (by exact bel))).mono ?_; rintro e w2 ⟨rfl, hb⟩; have HBL := Lib.hid hb; obtain ⟨kwl_P_0, fwl_P_0, kwl_P_1, fwl_P_1, kwl_P_2, fwl_P_2, kwl_P_3, fwl_P_3, kwl_P_4, fwl_P_4⟩ := kf5 hb (w.heap.size) (.slice none 0 0) (.slice none 0 0) (.slice none 0 0) (.int .i64 0) (.slice none 0 0); obtain ⟨kwl_G_0, kwl_G_1, kwl_G_2, kwl_G_3, kwl_G_4⟩ := kp5 hb (gb) (.slice yco yvs.length ycc) (.slice yuo 4 yuc) (.slice yeo 4 yec) (.int .i64 0) ((.slice ro rf.length rc)); have xwl_P : w.heap.size < w2.heap.size := xc hb; have xwl_G : gb < w2.heap.size := xc hb; have hzwl := hb.size; (try simp only [World.size_alloc, World.size_setCell, World.size_drew] at hzwl); obtain ⟨wl, rfl⟩ : ∃ x, x = w2 := ⟨_, rfl⟩)))
  skip
  refine bodyPost_ret (v := .tuple #[.agg #[.slice yco yvs.length ycc, .slice yuo 4 yuc, .slice yeo 4 yec, .int .i64 0, (.slice ro rf.length rc)], .bool true]) (by simp [results, Try.results57, go_sem, kwl_P_0, kwl_P_1, kwl_P_2, kwl_P_3, kwl_P_4, fwl_P_0, fwl_P_1, fwl_P_2, fwl_P_3, fwl_P_4, kwl_G_0, kwl_G_1, kwl_G_2, kwl_G_3, kwl_G_4]) rfl ?_
  refine ⟨⟨⟨⟨.slice yco yvs.length ycc, .slice yuo 4 yuc, yvs⟩, .slice yeo 4 yec⟩, (.slice ro rf.length rc)⟩, rfl, ?_, by (have hB := HBW.out; have hBL := HBL.out; exact bel)⟩
  exact KOwn.mono (KOwn.touch (S := [w.heap.size]) (KO.out.below HBL.out) (by repeat (first | (with_reducible exact Touch.refl _ _) | (with_reducible refine touch_setC ?_ (List.mem_singleton.2 rfl)))) (fun g hg hm => by have h1 := (KO.out.lts g hg).1; have := List.mem_singleton.1 hm; omega)) (by omega)

end Go.Proofs.Ytkkebpcclklmcaa
/-
  The frame of every statement of this seat: if the call returns true and nothing that was there has turned, the row's condition behind the call holds. No Go function is named here.
-/
set_option linter.unusedVariables false
set_option linter.unusedSimpArgs false
namespace Go.Proofs.Ytkkebpcclklmcaa
open Go.ChangeShapes Go.WideShapes Go.ChangeAt Go.RowKit
section
variable {H : Type} {enc : TypeId × Value → H} {P : Program}
/-- All arguments read behind the call as before, if below the old heap nothing has turned. -/
theorem trodAll_below (hl : laidOutB P = true) {W W' : World} (hb : Below W.heap.size W W') {sp : Nat → Bool} : ∀ (ts : List TypeId) (vs : List Value) (ds : List (DataW H)) (ps : List MemPlace), ts.all (fun t => P.readableRec t && decide (t < P.types.size)) = true → DataW.TrodAll enc P W 0 (fun _ => true) true ts vs ds ps →
    (∀ p ∈ ps, p.block < W.heap.size) → (∀ p ∈ ps, sp p.block = true) → DataW.TrodAll enc P W' 0 sp true ts vs ds ps
  | [], [], [], ps, _, h, _, _ => h
  | t :: ts, v :: vs, d :: ds, ps, ht, h, hlt, hsp => by
    obtain ⟨p, q, hd, hr, rfl⟩ := h
    simp only [List.all_cons, Bool.and_eq_true, decide_eq_true_eq] at ht
    exact ⟨p, q, WideElems.Trod_stays hl ht.1.1 ht.1.2 hd (fun x hx => hb.same (hlt x (List.mem_append_left _ hx))) (fun x hx => hsp x (List.mem_append_left _ hx)),
      trodAll_below hl hb ts vs ds q ht.2 hr (fun x hx => hlt x (List.mem_append_right _ hx)) (fun x hx => hsp x (List.mem_append_right _ hx)), rfl⟩
  | [], _ :: _, _, _, _, h, _, _ => by cases h
  | [], [], _ :: _, _, _, h, _, _ => by cases h
  | _ :: _, [], _, _, _, h, _, _ => by cases h
  | _ :: _, _ :: _, [], _, _, h, _, _ => by cases h
/-- The row's condition behind a call of a law that has returned true. -/
theorem law_post {f : Func} {s : ChangeSpec} {apart fresh handsOn : Bool} {W W' : World} {args : Array Value} {ds gs : List (DataW H)} {before : List MemPlace} {tb : TypeId}
    (hl : laidOutB P = true) (hall : f.params.toList.all (fun t => P.readableRec t && decide (t < P.types.size)) = true) (hvars : s.vars = []) (hres : f.resultTypes = #[tb]) (hbool : P.underlying tb = some .bool)
    (hW : DataW.Whole enc P f.params.toList s.vars apart W args.toList ds gs before)
    (h1 : (s.fn H (ds ++ gs)).results = [.lit (.bool true)]) (h2 : (s.fn H (ds ++ gs)).args = ds) (h3 : (s.fn H (ds ++ gs)).vars = []) (hb : Below W.heap.size W W') :
    s.post enc P f apart fresh handsOn false W args (.bool true) W' := by
  have hlt : ∀ p ∈ before, p.block < W.heap.size := fun p hp => hW.lt p hp
  have hW0 := hW
  obtain ⟨p, q, hA, hV, rfl, hz, hn⟩ := hW
  rw [hvars] at hV
  cases gs with
  | cons _ _ => exact hV.elim
  | nil =>
    obtain rfl : q = [] := hV
    simp only [List.append_nil] at *
    have hr : ∀ (b : Nat) (sp : Nat → Bool) (hd : Bool), DataW.TrodAll enc P W' b sp hd [tb] [.bool true] [.lit (.bool true)] [] := fun b sp hd => trodAll_mk1 (shut_bool hbool _)
    refine ⟨ds, [], p, [], p, [], hW0, ?_, ?_, ?_, World.keptBut_mono (fun x hx => ⟨hx, .inr (.inl hx)⟩) (hb.frame (· ∈ p)), fun h => by cases h⟩
    · rw [List.append_nil, h1, hres]; exact hr _ _ _
    · rw [List.append_nil, h2]
      exact trodAll_below hl hb _ _ _ _ hall hA (fun x hx => hlt x (by simpa using hx)) (fun x hx => by simpa using hlt x (by simpa using hx))
    · rw [List.append_nil, h3, hvars]; exact rfl
end
theorem own : ownKnob Try.prog.godebug = none := by kernel_rfl
theorem laidOut : laidOutB Try.prog = true := by kernel_rfl
end Go.Proofs.Ytkkebpcclklmcaa
