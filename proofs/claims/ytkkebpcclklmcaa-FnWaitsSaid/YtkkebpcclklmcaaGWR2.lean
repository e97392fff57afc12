/-
  Texts put together: WrsDB, WriterS, JobM, KMapOnS, JobB, JobC, JobD.
-/
import Derived.Test.YtkkebpcclklmcaaGWR1
import Derived.Test.YtkkebpcclklmcaaGB44
import Derived.Deep.RegionHeld3
import Derived.Test.YtkkebpcclklmcaaGB38
import Derived.Test.YtkkebpcclklmcaaGB16
import Derived.Test.YtkkebpcclklmcaaGB25
import Derived.Test.YtkkebpcclklmcaaGB12
import Derived.Test.YtkkebpcclklmcaaGB18
import Derived.Test.YtkkebpcclklmcaaGB4
import Derived.Deep.DeepCutAuto
/-
  A kernel with two pages, a plan, writers, an order, out of the bytes of a draw.
-/
set_option linter.unusedVariables false
set_option linter.unusedSimpArgs false
namespace Go.Proofs.Ytkkebpcclklmcaa
open Go.Deep Go.RowKit
def DrawnWrB (w : World) (e : Ending) (w' : World) : Prop := ∃ (y : KV) (K : Ker) (kp mv : Nat) (v : Value) (cs : List Int) (u : Value) (W0 : List (Nat × Int)) (r : Value) (order : List Int), e = .returned (.tuple #[y.val K.calls, .agg #[.int .i64 (kp : Int), .int .i64 (mv : Int), v], u, r]) ∧ DInv K kp mv cs ∧ K.calls ≤ 2 ∧ kp < 4 ∧ mv < 4 ∧ W0Ok W0 ∧ W0.length ≤ 3 ∧ KOwn w.heap.size w' y K ∧ OwnI w.heap.size w' v cs ∧ WrAt w' u (W0.map (wrOf kp mv cs)) ∧ IntsAt w' r order ∧ Below w.heap.size w w'
set_option maxRecDepth 20000 in
set_option maxHeartbeats 1600000 in
theorem s_DrawWriters (v : Value) (n : Nat) (w : World) (hv : BytesAt w.heap.size w v n) : Calls Try.prog 27 #[v] w (DrawnWrB w) := by
  have HV := Lib.hid hv; clear hv
  (have hall := all_nil w; go_enter Try.func27, Try.ntmps27)
  go_wp2_with fail
  have up0 : Below w.heap.size w ((w.alloc (.cells #[.slice none 0 0, .slice none 0 0, .slice none 0 0, .int .i64 0, .slice none 0 0] 35)).alloc (.cells #[.int .i64 0, .int .i64 0, .slice none 0 0] 37)) := ((Below.refl _ _).alloc (Nat.le_refl _) _).alloc (by simp only [World.size_alloc]; omega) _
  have b0 : BoxAt ((w.alloc (.cells #[.slice none 0 0, .slice none 0 0, .slice none 0 0, .int .i64 0, .slice none 0 0] 35)).alloc (.cells #[.int .i64 0, .int .i64 0, .slice none 0 0] 37)) w.heap.size [.slice none 0 0, .slice none 0 0, .slice none 0 0, .int .i64 0, .slice none 0 0] := (BoxAt.snoc (BoxAt.snoc (BoxAt.snoc (BoxAt.snoc (BoxAt.snoc (BoxAt.nil (w := ((w.alloc (.cells #[.slice none 0 0, .slice none 0 0, .slice none 0 0, .int .i64 0, .slice none 0 0] 35)).alloc (.cells #[.int .i64 0, .int .i64 0, .slice none 0 0] 37))) (g := w.heap.size) (by go_simp)) (v := .slice none 0 0) rfl (by go_simp) (by go_simp)) (v := .slice none 0 0) rfl (by go_simp) (by go_simp)) (v := .slice none 0 0) rfl (by go_simp) (by go_simp)) (v := .int .i64 0) rfl (by go_simp) (by go_simp)) (v := .slice none 0 0) rfl (by go_simp) (by go_simp))
  have b1 : BoxAt ((w.alloc (.cells #[.slice none 0 0, .slice none 0 0, .slice none 0 0, .int .i64 0, .slice none 0 0] 35)).alloc (.cells #[.int .i64 0, .int .i64 0, .slice none 0 0] 37)) (w.heap.size + 1) [.int .i64 0, .int .i64 0, .slice none 0 0] := (BoxAt.snoc (BoxAt.snoc (BoxAt.snoc (BoxAt.nil (w := ((w.alloc (.cells #[.slice none 0 0, .slice none 0 0, .slice none 0 0, .int .i64 0, .slice none 0 0] 35)).alloc (.cells #[.int .i64 0, .int .i64 0, .slice none 0 0] 37))) (g := w.heap.size + 1) (by go_simp)) (v := .int .i64 0) rfl (by go_simp) (by go_simp)) (v := .int .i64 0) rfl (by go_simp) (by go_simp)) (v := .slice none 0 0) rfl (by go_simp) (by go_simp))
  refine (s_l01New v n _ (BytesAt.grewN HV.out up0)).mono ?_; rintro e w1 ⟨g, rfl, hcur, hb1⟩
  have hg1 := hcur.1
  have hz1 := hb1.size
  simp only [World.size_alloc] at hg1 hz1
  have HB2 := Lib.hid (b0.below hb1); have HB3 := Lib.hid (b1.below hb1); have HW1 := Lib.hid (up0.trans (hb1.mono (by simp only [World.size_alloc]; omega)))
  clear b0 b1 up0 hb1
  go_wp2_with fail
  refine (s_l14Pair _ g _ hcur).mono ?_; rintro e w2 ⟨y, K, kp, mv, v2, cs, rfl, hd, hcl, hk4, hm4, hko, hvo, hap, hcur2, hgr⟩
  obtain ⟨zco, zcc, zuo, zuc, zvs, zeo, zec, zro, zrc, rfl⟩ := KOwn.shapes hko
  obtain ⟨vo, vc, rfl, -, -, -⟩ := Own.shape hvo
  have ht : Touch [g] w1 w2 := grown_touch hgr fun b hb => by cases hb; simp
  have hg := hcur2.lt
  have r1 := HB2.out.touch ht (by simp; omega)
  have r2 := HB3.out.touch ht (by simp; omega)
  have HD := Lib.hid hd; have OK := Lib.hid hko; have OV := Lib.hid hvo
  have HW2 := Lib.hid (HW1.out.trans (below_of_grown hgr (by omega) (by omega)))
  have hz2 := hgr.size
  have hgl := hcur.lt
  replace HB2 := Lib.hid r1; replace HB3 := Lib.hid r2
  have HC := Lib.hid hcur2
  clear r1 r2 ht hd hko hvo hap hgr hcur hcur2
  simp only [KV.val]
  go_upto_region 3 with fail
  have up : Below w2.heap.size w2 ((w2.alloc (.cells #[.slice zco zvs.length zcc, .slice zuo K.m.f.used.length zuc, .slice zeo K.m.ents.length zec, .int .i64 K.calls, .slice zro K.refuse.length zrc] 35)).alloc (.cells #[.int .i64 (kp : Int), .int .i64 (mv : Int), .slice vo cs.length vc] 37)) := ((Below.refl _ _).alloc (Nat.le_refl _) _).alloc (by simp only [World.size_alloc]; omega) _
  have HB7 : Hid (BoxAt ((w2.alloc (.cells #[.slice zco zvs.length zcc, .slice zuo K.m.f.used.length zuc, .slice zeo K.m.ents.length zec, .int .i64 K.calls, .slice zro K.refuse.length zrc] 35)).alloc (.cells #[.int .i64 (kp : Int), .int .i64 (mv : Int), .slice vo cs.length vc] 37)) w2.heap.size [.slice zco zvs.length zcc, .slice zuo K.m.f.used.length zuc, .slice zeo K.m.ents.length zec, .int .i64 K.calls, .slice zro K.refuse.length zrc]) := Lib.hid (BoxAt.snoc (BoxAt.snoc (BoxAt.snoc (BoxAt.snoc (BoxAt.snoc (BoxAt.nil (w := ((w2.alloc (.cells #[.slice zco zvs.length zcc, .slice zuo K.m.f.used.length zuc, .slice zeo K.m.ents.length zec, .int .i64 K.calls, .slice zro K.refuse.length zrc] 35)).alloc (.cells #[.int .i64 (kp : Int), .int .i64 (mv : Int), .slice vo cs.length vc] 37))) (g := w2.heap.size) (by go_simp)) (v := .slice zco zvs.length zcc) rfl (by go_simp) (by go_simp)) (v := .slice zuo K.m.f.used.length zuc) rfl (by go_simp) (by go_simp)) (v := .slice zeo K.m.ents.length zec) rfl (by go_simp) (by go_simp)) (v := .int .i64 K.calls) rfl (by go_simp) (by go_simp)) (v := .slice zro K.refuse.length zrc) rfl (by go_simp) (by go_simp))
  have HB8 : Hid (BoxAt ((w2.alloc (.cells #[.slice zco zvs.length zcc, .slice zuo K.m.f.used.length zuc, .slice zeo K.m.ents.length zec, .int .i64 K.calls, .slice zro K.refuse.length zrc] 35)).alloc (.cells #[.int .i64 (kp : Int), .int .i64 (mv : Int), .slice vo cs.length vc] 37)) (w2.heap.size + 1) [.int .i64 (kp : Int), .int .i64 (mv : Int), .slice vo cs.length vc]) := Lib.hid (BoxAt.snoc (BoxAt.snoc (BoxAt.snoc (BoxAt.nil (w := ((w2.alloc (.cells #[.slice zco zvs.length zcc, .slice zuo K.m.f.used.length zuc, .slice zeo K.m.ents.length zec, .int .i64 K.calls, .slice zro K.refuse.length zrc] 35)).alloc (.cells #[.int .i64 (kp : Int), .int .i64 (mv : Int), .slice vo cs.length vc] 37))) (g := w2.heap.size + 1) (by go_simp)) (v := .int .i64 (kp : Int)) rfl (by go_simp) (by go_simp)) (v := .int .i64 (mv : Int)) rfl (by go_simp) (by go_simp)) (v := .slice vo cs.length vc) rfl (by go_simp) (by go_simp))
  replace HB2 := Lib.hid (HB2.out.below up); replace HB3 := Lib.hid (HB3.out.below up); replace OK := Lib.hid (OK.out.below up); replace OV := Lib.hid (Own.below OV.out up); replace HC := Lib.hid (HC.out.below up); replace HW2 := Lib.hid (HW2.out.trans (up.mono HW2.out.size))
  clear up
  obtain ⟨w3, hw3⟩ : ∃ q, q = ((w2.alloc (.cells #[.slice zco zvs.length zcc, .slice zuo K.m.f.used.length zuc, .slice zeo K.m.ents.length zec, .int .i64 K.calls, .slice zro K.refuse.length zrc] 35)).alloc (.cells #[.int .i64 (kp : Int), .int .i64 (mv : Int), .slice vo cs.length vc] 37)) := ⟨_, rfl⟩
  rw [← hw3] at HB2 HB3 HB7 HB8 OK OV HC HW2 ⊢
  have hs3 : w2.heap.size + 2 = w3.heap.size := by rw [hw3]; simp only [World.size_alloc]
  have HG := Lib.hid (grown_refl w3 (some g))
  clear hw3
  obtain ⟨gk, hgk⟩ : ∃ q, q = w2.heap.size := ⟨_, rfl⟩
  rw [← hgk] at HB7 HB8 hs3 ⊢
  have hsw : w.heap.size ≤ w3.heap.size := HW2.out.size
  have hgk1 : w1.heap.size ≤ gk := by rw [hgk]; exact hz2
  clear hgk
  have ka7_0 := (HB7.out.cells 0 _ rfl).1; have ka7_1 := (HB7.out.cells 1 _ rfl).1; have ka7_2 := (HB7.out.cells 2 _ rfl).1; have ka7_3 := (HB7.out.cells 3 _ rfl).1; have ka7_4 := (HB7.out.cells 4 _ rfl).1; have ka8_0 := (HB8.out.cells 0 _ rfl).1; have ka8_1 := (HB8.out.cells 1 _ rfl).1; have ka8_2 := (HB8.out.cells 2 _ rfl).1; have ka2_0 := (HB2.out.cells 0 _ rfl).1; have fa2_0 := (HB2.out.cells 0 _ rfl).2; have ka2_1 := (HB2.out.cells 1 _ rfl).1; have fa2_1 := (HB2.out.cells 1 _ rfl).2; have ka2_2 := (HB2.out.cells 2 _ rfl).1; have fa2_2 := (HB2.out.cells 2 _ rfl).2; have ka2_3 := (HB2.out.cells 3 _ rfl).1; have fa2_3 := (HB2.out.cells 3 _ rfl).2; have ka2_4 := (HB2.out.cells 4 _ rfl).1; have fa2_4 := (HB2.out.cells 4 _ rfl).2; have ka3_0 := (HB3.out.cells 0 _ rfl).1; have fa3_0 := (HB3.out.cells 0 _ rfl).2; have ka3_1 := (HB3.out.cells 1 _ rfl).1; have fa3_1 := (HB3.out.cells 1 _ rfl).2; have ka3_2 := (HB3.out.cells 2 _ rfl).1; have fa3_2 := (HB3.out.cells 2 _ rfl).2; have xa7 := HB7.out.lt; have xa8 := HB8.out.lt; have xa2 := HB2.out.lt; have xa3 := HB3.out.lt
  go_region_held3 (fun w' => w'.cell? ⟨gk, 0, none⟩ = some (.slice zco zvs.length zcc) ∧ w'.cell? ⟨gk, 1, none⟩ = some (.slice zuo K.m.f.used.length zuc) ∧ w'.cell? ⟨gk, 2, none⟩ = some (.slice zeo K.m.ents.length zec) ∧ w'.cell? ⟨gk, 3, none⟩ = some (.int .i64 K.calls) ∧ w'.cell? ⟨gk, 4, none⟩ = some (.slice zro K.refuse.length zrc) ∧ w'.cell? ⟨gk + 1, 0, none⟩ = some (.int .i64 (kp : Int)) ∧ w'.cell? ⟨gk + 1, 1, none⟩ = some (.int .i64 (mv : Int)) ∧ w'.cell? ⟨gk + 1, 2, none⟩ = some (.slice vo cs.length vc)) (first | (refine ⟨?_, ?_, ?_, ?_, ?_, ?_, ?_, ?_⟩ <;> (go_simp; done)) | go_keep) (first | (go_at_call 53; (refine (s_l15Writers _ g w1.heap.size kp mv _ cs hk4 hm4 hgl _ (HC.out.below (by exact bel)) (Own.below OV.out (by exact bel))).mono ?_; rintro e w2 ⟨wv, W0_, rfl, hw0, hw3_, hown, hcur, hgr⟩; (obtain ⟨wo, wc, rfl, -, -, -⟩ := Own.shape hown); have ht := grown_touch (S := [g]) hgr (fun b hb => by cases hb; exact List.mem_singleton.2 rfl); have hzs := hgr.size; (try simp only [World.size_drew] at hzs); replace HB2 := Lib.hid ((HB2.out.below (by exact bel)).touch ht (by rw [List.mem_singleton]; omega)); replace HB3 := Lib.hid ((HB3.out.below (by exact bel)).touch ht (by rw [List.mem_singleton]; omega)); replace HB7 := Lib.hid ((HB7.out.below (by exact bel)).touch ht (by rw [List.mem_singleton]; omega)); replace HB8 := Lib.hid ((HB8.out.below (by exact bel)).touch ht (by rw [List.mem_singleton]; omega)); replace OK := Lib.hid ((KOwn.below OK.out (by exact bel)).touch ht (fun b hb hm => by have h1 := (OK.out.lts b hb).1; have := List.mem_singleton.1 hm; omega)); replace OV := Lib.hid (Own.touchs (Own.below OV.out (by exact bel)) ht (fun b hb hm => by have h1 := (Own.lts OV.out b hb).1; have := List.mem_singleton.1 hm; omega)); have HW0 := Lib.hid hw0; have HL3 := Lib.hid hw3_; have OW := Lib.hid (hown.mono (B' := w3.heap.size) (by exact zo)); replace HC := Lib.hid hcur; replace HG := Lib.hid (grown_trans (grown_belowW HG.out (by exact bel)) hgr); clear hown hcur hgr ht hw0 hw3_; obtain ⟨wq, rfl⟩ : ∃ x, x = w2 := ⟨_, rfl⟩; have kq7_0 := (HB7.out.cells 0 _ rfl).1; have kq7_1 := (HB7.out.cells 1 _ rfl).1; have kq7_2 := (HB7.out.cells 2 _ rfl).1; have kq7_3 := (HB7.out.cells 3 _ rfl).1; have kq7_4 := (HB7.out.cells 4 _ rfl).1; have kq8_0 := (HB8.out.cells 0 _ rfl).1; have kq8_1 := (HB8.out.cells 1 _ rfl).1; have kq8_2 := (HB8.out.cells 2 _ rfl).1; have kq2_0 := (HB2.out.cells 0 _ rfl).1; have fq2_0 := (HB2.out.cells 0 _ rfl).2; have kq2_1 := (HB2.out.cells 1 _ rfl).1; have fq2_1 := (HB2.out.cells 1 _ rfl).2; have kq2_2 := (HB2.out.cells 2 _ rfl).1; have fq2_2 := (HB2.out.cells 2 _ rfl).2; have kq2_3 := (HB2.out.cells 3 _ rfl).1; have fq2_3 := (HB2.out.cells 3 _ rfl).2; have kq2_4 := (HB2.out.cells 4 _ rfl).1; have fq2_4 := (HB2.out.cells 4 _ rfl).2; have kq3_0 := (HB3.out.cells 0 _ rfl).1; have fq3_0 := (HB3.out.cells 0 _ rfl).2; have kq3_1 := (HB3.out.cells 1 _ rfl).1; have fq3_1 := (HB3.out.cells 1 _ rfl).2; have kq3_2 := (HB3.out.cells 2 _ rfl).1; have fq3_2 := (HB3.out.cells 2 _ rfl).2; have xq7 := HB7.out.lt; have xq8 := HB8.out.lt; have xq2 := HB2.out.lt; have xq3 := HB3.out.lt)) | (go_at_call 54; (refine (s_l15Order _ g _ (HC.out.below (by exact bel))).mono ?_; rintro e w2 ⟨rv, xs_, rfl, hxl_, hown, hcur, hgr⟩; (obtain ⟨ro_, rc_, rfl, -, -, -⟩ := Own.shape hown); have ht := grown_touch (S := [g]) hgr (fun b hb => by cases hb; exact List.mem_singleton.2 rfl); have hzs := hgr.size; (try simp only [World.size_drew] at hzs); replace HB2 := Lib.hid ((HB2.out.below (by exact bel)).touch ht (by rw [List.mem_singleton]; omega)); replace HB3 := Lib.hid ((HB3.out.below (by exact bel)).touch ht (by rw [List.mem_singleton]; omega)); replace HB7 := Lib.hid ((HB7.out.below (by exact bel)).touch ht (by rw [List.mem_singleton]; omega)); replace HB8 := Lib.hid ((HB8.out.below (by exact bel)).touch ht (by rw [List.mem_singleton]; omega)); replace OK := Lib.hid ((KOwn.below OK.out (by exact bel)).touch ht (fun b hb hm => by have h1 := (OK.out.lts b hb).1; have := List.mem_singleton.1 hm; omega)); replace OV := Lib.hid (Own.touchs (Own.below OV.out (by exact bel)) ht (fun b hb hm => by have h1 := (Own.lts OV.out b hb).1; have := List.mem_singleton.1 hm; omega)); replace OW := Lib.hid (Own.touchs (Own.below OW.out (by exact bel)) ht (fun b hb hm => by have h1 := (Own.lts OW.out b hb).1; have := List.mem_singleton.1 hm; omega)); have OR := Lib.hid (hown.mono (B' := w3.heap.size) (by exact zo)); replace HC := Lib.hid hcur; replace HG := Lib.hid (grown_trans (grown_belowW HG.out (by exact bel)) hgr); clear hown hcur hgr ht hxl_; obtain ⟨wq, rfl⟩ : ∃ x, x = w2 := ⟨_, rfl⟩; have kq7_0 := (HB7.out.cells 0 _ rfl).1; have kq7_1 := (HB7.out.cells 1 _ rfl).1; have kq7_2 := (HB7.out.cells 2 _ rfl).1; have kq7_3 := (HB7.out.cells 3 _ rfl).1; have kq7_4 := (HB7.out.cells 4 _ rfl).1; have kq8_0 := (HB8.out.cells 0 _ rfl).1; have kq8_1 := (HB8.out.cells 1 _ rfl).1; have kq8_2 := (HB8.out.cells 2 _ rfl).1; have kq2_0 := (HB2.out.cells 0 _ rfl).1; have fq2_0 := (HB2.out.cells 0 _ rfl).2; have kq2_1 := (HB2.out.cells 1 _ rfl).1; have fq2_1 := (HB2.out.cells 1 _ rfl).2; have kq2_2 := (HB2.out.cells 2 _ rfl).1; have fq2_2 := (HB2.out.cells 2 _ rfl).2; have kq2_3 := (HB2.out.cells 3 _ rfl).1; have fq2_3 := (HB2.out.cells 3 _ rfl).2; have kq2_4 := (HB2.out.cells 4 _ rfl).1; have fq2_4 := (HB2.out.cells 4 _ rfl).2; have kq3_0 := (HB3.out.cells 0 _ rfl).1; have fq3_0 := (HB3.out.cells 0 _ rfl).2; have kq3_1 := (HB3.out.cells 1 _ rfl).1; have fq3_1 := (HB3.out.cells 1 _ rfl).2; have kq3_2 := (HB3.out.cells 2 _ rfl).1; have fq3_2 := (HB3.out.cells 2 _ rfl).2; have xq7 := HB7.out.lt; have xq8 := HB8.out.lt; have xq2 := HB2.out.lt; have xq3 := HB3.out.lt)))
  all_goals go_wp2_with fail
  all_goals (refine bodyPost_ret (v := .tuple #[.agg #[.slice zco zvs.length zcc, .slice zuo K.m.f.used.length zuc, .slice zeo K.m.ents.length zec, .int .i64 K.calls, .slice zro K.refuse.length zrc], .agg #[.int .i64 (kp : Int), .int .i64 (mv : Int), .slice vo cs.length vc], .slice wo (W0_.map (wrOf kp mv cs)).length wc, .slice ro_ xs_.length rc_]) (by simp [results, Try.results27, go_sem, kq2_0, fq2_0, kq2_1, fq2_1, kq2_2, fq2_2, kq2_3, fq2_3, kq2_4, fq2_4, kq3_0, fq3_0, kq3_1, fq3_1, kq3_2, fq3_2, xq2, xq3]) rfl ?_)
  all_goals (refine ⟨(⟨⟨⟨.slice zco zvs.length zcc, .slice zuo K.m.f.used.length zuc, zvs⟩, .slice zeo K.m.ents.length zec⟩, .slice zro K.refuse.length zrc⟩ : KV), K, kp, mv, _, cs, _, W0_, _, xs_, rfl, HD.out, hcl, hk4, hm4, HW0.out, HL3.out, (OK.out.touch (S := [w.heap.size, w.heap.size + 1]) (by repeat (first | (with_reducible exact Touch.refl _ _) | (with_reducible refine touch_setC ?_ (by simp)) | (with_reducible refine touch_drw ?_))) (fun b hb hm => by have h1 := (OK.out.lts b hb).1; simp only [List.mem_cons, List.not_mem_nil, or_false] at hm; omega)).mono (by omega), (Own.touchs (S := [w.heap.size, w.heap.size + 1]) OV.out (by repeat (first | (with_reducible exact Touch.refl _ _) | (with_reducible refine touch_setC ?_ (by simp)) | (with_reducible refine touch_drw ?_))) (fun b hb hm => by have h1 := (Own.lts OV.out b hb).1; simp only [List.mem_cons, List.not_mem_nil, or_false] at hm; omega)).mono (by omega), (Own.touchs (S := [w.heap.size, w.heap.size + 1]) OW.out (by repeat (first | (with_reducible exact Touch.refl _ _) | (with_reducible refine touch_setC ?_ (by simp)) | (with_reducible refine touch_drw ?_))) (fun b hb hm => by have h1 := (Own.lts OW.out b hb).1; simp only [List.mem_cons, List.not_mem_nil, or_false] at hm; omega)).at lenWr, (Own.touchs (S := [w.heap.size, w.heap.size + 1]) OR.out (by repeat (first | (with_reducible exact Touch.refl _ _) | (with_reducible refine touch_setC ?_ (by simp)) | (with_reducible refine touch_drw ?_))) (fun b hb hm => by have h1 := (Own.lts OR.out b hb).1; simp only [List.mem_cons, List.not_mem_nil, or_false] at hm; omega)).at lenInt, ?_⟩)
  all_goals (have hbz := below_of_grown HG.out (show w.heap.size ≤ g by omega) hsw; exact HW2.out.trans (hbz.trans ((show Touch [w.heap.size, w.heap.size + 1] wq _ from (by repeat (first | (with_reducible exact Touch.refl _ _) | (with_reducible refine touch_setC ?_ (by simp)) | (with_reducible refine touch_drw ?_)))).toBelow (by intro s hs; simp only [List.mem_cons, List.not_mem_nil, or_false] at hs; omega) (by omega))))

end Go.Proofs.Ytkkebpcclklmcaa
/-
  One step of a writer behind a pointer, by the reference.
-/
set_option linter.unusedVariables false
set_option linter.unusedSimpArgs false
namespace Go.Proofs.Ytkkebpcclklmcaa
open Go.RowKit
def WrDone (B g : Nat) (w : World) (K : Ker) (x : Wr) (e : Ending) (w' : World) : Prop := ∃ y : KV, e = .returned x.val ∧ KIn B w' g y K ∧ Below B w w'
theorem kv_ne {g B : Nat} {w : World} {r : Value} {x x' : MV} {M : Mac} (h : g ∉ blocks (KV.all ⟨x', r⟩)) (hz : MOwn B w x M) (hg : g < B) : g ∉ blocks (KV.all ⟨x, r⟩) := by
  intro hm
  have hm' : g ∈ blocks ([r] ++ x.all) := hm
  rw [blocks_append] at hm'
  rcases List.mem_append.1 hm' with h1 | h1
  · exact h (sub_left [r] _ g h1)
  · have := (hz.lts g h1).1; omega

end Go.Proofs.Ytkkebpcclklmcaa
/-
  May a job take a step: the reference.
-/
set_option linter.unusedVariables false
set_option linter.unusedSimpArgs false
namespace Go.Proofs.Ytkkebpcclklmcaa
open Go.RowKit

end Go.Proofs.Ytkkebpcclklmcaa
/-
  A page is mapped on the frame of another: the reference's function.
-/
set_option linter.unusedVariables false
set_option linter.unusedSimpArgs false
namespace Go.Proofs.Ytkkebpcclklmcaa
open Go.RowKit
end Go.Proofs.Ytkkebpcclklmcaa
/-
  One step of a job, the reference: behind two pointers.
-/
set_option linter.unusedVariables false
set_option linter.unusedSimpArgs false
namespace Go.Proofs.Ytkkebpcclklmcaa
open Go.RowKit
theorem KIn.after {B g : Nat} {w w' : World} {y : KV} {K : Ker} {S : List Nat} (h : KIn B w g y K) (ht : Touch S w w') (hS : ∀ b ∈ S, b ∉ g :: blocks y.all) : KIn B w' g y K :=
  have hg : g ∉ S := fun hm => hS g hm (List.mem_cons_self ..)
  ⟨h.box.touch ht hg, h.own.touch ht (fun b hb hm => hS b hm (List.mem_cons_of_mem _ hb)), h.hB, h.ne⟩
/-- What a step leaves: the kernel's box and blocks, the job's box; nothing else is written. -/
def JSDone (B g gj : Nat) (y : KV) (w : World) (K : Ker) (kp mv : Int) (v : Value) (ph nx : Int) (e : Ending) (w' : World) : Prop :=
  ∃ y' : KV, e = .returned (.tuple #[]) ∧ KIn B w' g y' K ∧ BoxAt w' gj [.int .i64 kp, .int .i64 mv, v, .int .i64 ph, .int .i64 nx] ∧ Below B w w' ∧ Touch (g :: gj :: blocks y.all) w w' ∧ ∀ b ∈ blocks y'.all, b ∈ blocks y.all ∨ w.heap.size ≤ b
theorem sub_gj {g gj : Nat} {l : List Nat} : ∀ b ∈ g :: l, b ∈ g :: gj :: l := fun b hb => by
  rcases List.mem_cons.1 hb with h | h
  · exact h ▸ List.mem_cons_self ..
  · exact List.mem_cons_of_mem _ (List.mem_cons_of_mem _ h)
theorem getb {w : World} {g : Nat} {cs : List Value} (h : BoxAt w g cs) (i : Nat) (v : Value) (hi : cs[i]? = some v) : w.cell? ⟨g, i, none⟩ = some v ∧ w.frozen? ⟨g, i, none⟩ = false := h.cells i v hi
end Go.Proofs.Ytkkebpcclklmcaa
/-
  One step of a job, the reference: a cell is copied.
-/
set_option linter.unusedVariables false
set_option linter.unusedSimpArgs false
namespace Go.Proofs.Ytkkebpcclklmcaa
open Go.RowKit
theorem ints_box {W : World} {n : Nat} {c : Int} {S : List Nat} (h : W.cell? ⟨n, 0, none⟩ = some (.int .i64 c)) (hn : n < W.heap.size) (hS : n ∉ S) : ∀ w', Touch S W w' → IntsAt w' (.slice (some ⟨n, 0, none⟩) 1 1) [c] := by
  intro w' ht
  refine ⟨some ⟨n, 0, none⟩, 1, rfl, Nat.le_refl _, by unfold maxLen; omega, fun i x hi => ?_⟩
  obtain rfl : i = 0 := by
    rcases Nat.eq_zero_or_pos i with h0 | h0
    · exact h0
    · rw [List.getElem?_eq_none (by simp; omega)] at hi; cases hi
  simp only [List.getElem?_cons_zero, Option.some.injEq] at hi
  subst hi
  refine ⟨n, 0, rfl, Nat.lt_of_lt_of_le hn ht.size, fun j u hj => ?_⟩
  obtain rfl : j = 0 := by
    rcases Nat.eq_zero_or_pos j with h0 | h0
    · exact h0
    · rw [List.getElem?_eq_none (by simp [fInt]; omega)] at hj; cases hj
  simp only [fInt, List.getElem?_cons_zero, Option.some.injEq] at hj
  subst hj
  exact (ht.cell hn hS).trans h
end Go.Proofs.Ytkkebpcclklmcaa
/-
  One step of a job, the reference: back.
-/
set_option linter.unusedVariables false
set_option linter.unusedSimpArgs false
namespace Go.Proofs.Ytkkebpcclklmcaa
open Go.RowKit
theorem touch_skips {S S2 : List Nat} {w w1 w2 : World} (h : Touch S w w1) (h2 : Touch S2 w1 w2) (hb : ∀ b ∈ S2, b ∈ S ∨ w.heap.size ≤ b) : Touch S w w2 :=
  ⟨h2.os.trans h.os, h2.tape.trans h.tape, h2.output.trans h.output, Nat.le_trans h.size h2.size, fun k hk hS => (h2.block k (Nat.lt_of_lt_of_le hk h.size) (fun hm => by rcases hb k hm with h | h; (focus exact hS h); (focus omega))).trans (h.block k hk hS)⟩
end Go.Proofs.Ytkkebpcclklmcaa
