/-
  Texts put together: JobC.
-/
import Derived.Test.YtmblkllijjlkoaaGreatGB37
import Derived.Deep.DeepCutAuto
/-
  One step of a job, the reference: a cell is copied.
-/
set_option linter.unusedVariables false
set_option linter.unusedSimpArgs false
namespace Go.Proofs.YtmblkllijjlkoaaGreat
open Go.RowKit
theorem ints_box {W : World} {n : Nat} {c : Int} {S : List Nat} (h : W.cell? ⟨n, 0, none⟩ = some (.int .i64 c)) (hn : n < W.heap.size) (hS : n ∉ S) : ∀ w', Touch S W w' → IntsAt w' (.slice (some ⟨n, 0, none⟩) 1 1) [c] := by
  intro w' ht
  refine ⟨some ⟨n, 0, none⟩, 1, rfl, Nat.le_refl _, by unfold maxLen; omega, fun i x hi => ?_⟩
  obtain rfl : i = 0 := by
    rcases Nat.eq_zero_or_pos i with h0 | h0
    · exact h0
    · rw [List.getElem?_eq_none (by simp; omega)] at hi; cases hi
  simp only [List.getElem?_cons_zero, Option.some.injEq] at hi
  subst hi
  refine ⟨n, 0, rfl, Nat.lt_of_lt_of_le hn ht.size, fun j u hj => ?_⟩
  obtain rfl : j = 0 := by
    rcases Nat.eq_zero_or_pos j with h0 | h0
    · exact h0
    · rw [List.getElem?_eq_none (by simp [fInt]; omega)] at hj; cases hj
  simp only [fInt, List.getElem?_cons_zero, Option.some.injEq] at hj
  subst hj
  exact (ht.cell hn hS).trans h
set_option maxRecDepth 20000 in
set_option maxHeartbeats 6400000 in
theorem s_l14Step1e (B g gj : Nat) (y : KV) (K : Ker) (kp mv : Int) (vo : Option Addr) (vc : Nat) (cs : List Int) (hcl : cs.length ≤ 1048576) (hcan : canCall K = true) (w : World) (h : KIn B w g y K) (hj : BoxAt w gj [.int .i64 kp, .int .i64 mv, .slice vo cs.length vc, .int .i64 1, .int .i64 (cs.length : Nat)]) (hnj : gj ∉ g :: blocks y.all) (hBj : B ≤ gj) : Calls Tryz.prog 66 #[.pointer (some ⟨g, 0, none⟩), .pointer (some ⟨gj, 0, none⟩)] w (JSDone B g gj y w (stepK K kp mv cs 1 (cs.length : Nat)) kp mv (.slice vo cs.length vc) (stepPh K kp mv cs 1 (cs.length : Nat)) (stepNx cs 1 (cs.length : Nat))) := by
  have HI := Lib.hid h
  have HNJ := Lib.hid hnj
  have hcalls := canCall_calls hcan
  have hBg := h.hB
  have xg := h.box.lt
  have xj := hj.lt
  have hBz : B ≤ w.heap.size := by omega
  have HNP : Hid (w.heap.size ∉ g :: blocks y.all) := Lib.hid (fun hm => by rcases List.mem_cons.1 hm with e | e; (focus omega); (focus (have := (h.own.lts _ e).2; omega)))
  have HSJ : Hid (∀ b ∈ [gj], b ∉ g :: blocks y.all) := Lib.hid (fun b hb => by cases List.mem_singleton.1 hb; exact hnj)
  have n1 : ¬ gj = w.heap.size := by omega
  have n2 : ¬ w.heap.size = gj := by omega
  have n3 : ¬ gj = g := fun e => hnj (e ▸ List.mem_cons_self ..)
  have n4 : ¬ g = gj := fun e => n3 e.symm
  have c0 := (getb hj 0 _ rfl).1; have f0 := (getb hj 0 _ rfl).2; have c1 := (getb hj 1 _ rfl).1; have f1 := (getb hj 1 _ rfl).2; have c2 := (getb hj 2 _ rfl).1; have f2 := (getb hj 2 _ rfl).2; have c3 := (getb hj 3 _ rfl).1; have f3 := (getb hj 3 _ rfl).2; have c4 := (getb hj 4 _ rfl).1; have f4 := (getb hj 4 _ rfl).2
  skip
  clear h hj hnj
  have e : stepK K kp mv cs 1 (cs.length : Nat) = K ∧ stepPh K kp mv cs 1 (cs.length : Nat) = 2 ∧ stepNx cs 1 (cs.length : Nat) = (cs.length : Nat) := ⟨by simp [stepK], by simp [stepPh], by simp [stepNx]⟩
  rw [e.1, e.2.1, e.2.2]; clear e
  (have hall := all_nil w; go_enter Tryz.func66, Tryz.ntmps66)
  go_upto_region 7 with fail
  go_region
  go_wp2_with fail
  all_goals go_end0
  all_goals (have hT : ∀ W, Touch [gj] w W → Touch (g :: gj :: blocks y.all) w W := fun W h => h.mono (fun b hb => by cases List.mem_singleton.1 hb; simp); exact ⟨_, rfl, (HI.out.after (S := [gj]) (by repeat (first | (with_reducible refine touch_cellT ?_ (by simp)) | (with_reducible refine touch_drw ?_) | (with_reducible refine touch_alc _ ?_) | (with_reducible exact Touch.refl _ _))) HSJ.out), (BoxAt.snoc (BoxAt.snoc (BoxAt.snoc (BoxAt.snoc (BoxAt.snoc (BoxAt.nil (by exact zt)) (v := .int .i64 kp) (i := 0) rfl (by go_simp) (by go_simp)) (v := .int .i64 mv) (i := 1) rfl (by go_simp) (by go_simp)) (v := .slice vo cs.length vc) (i := 2) rfl (by go_simp) (by go_simp)) (v := .int .i64 2) (i := 3) rfl (by go_simp) (by go_simp)) (v := .int .i64 (cs.length : Nat)) (i := 4) rfl (by go_simp) (by go_simp)), (hT _ (by repeat (first | (with_reducible refine touch_cellT ?_ (by simp)) | (with_reducible refine touch_drw ?_) | (with_reducible refine touch_alc _ ?_) | (with_reducible exact Touch.refl _ _)))).toBelow (fun b hb => by rcases List.mem_cons.1 hb with h | h; (focus (subst h; exact hBg)); (focus (rcases List.mem_cons.1 h with h | h; (focus (subst h; exact hBj)); (focus exact (HI.out.own.lts b h).1)))) hBz, hT _ (by repeat (first | (with_reducible refine touch_cellT ?_ (by simp)) | (with_reducible refine touch_drw ?_) | (with_reducible refine touch_alc _ ?_) | (with_reducible exact Touch.refl _ _))), fun b hb => .inl hb⟩)

set_option maxRecDepth 20000 in
set_option maxHeartbeats 6400000 in
theorem s_l14Step1c (B g gj : Nat) (y : KV) (K : Ker) (kp mv : Int) (gb ob vc : Nat) (cs : List Int) (j : Nat) (c : Int) (hjl : j < cs.length) (hcj : cs[j]? = some c) (hcl : cs.length ≤ 1048576) (hcan : canCall K = true) (w : World) (hgb : gb < w.heap.size) (hng : gb ∉ g :: blocks y.all) (hce : w.cell? ⟨gb, ob + j, none⟩ = some (.int .i64 c)) (h : KIn B w g y K) (hj : BoxAt w gj [.int .i64 kp, .int .i64 mv, .slice (some ⟨gb, ob, none⟩) cs.length vc, .int .i64 1, .int .i64 (j : Nat)]) (hnj : gj ∉ g :: blocks y.all) (hBj : B ≤ gj) : Calls Tryz.prog 66 #[.pointer (some ⟨g, 0, none⟩), .pointer (some ⟨gj, 0, none⟩)] w (JSDone B g gj y w (stepK K kp mv cs 1 (j : Nat)) kp mv (.slice (some ⟨gb, ob, none⟩) cs.length vc) (stepPh K kp mv cs 1 (j : Nat)) (stepNx cs 1 (j : Nat))) := by
  have HI := Lib.hid h
  have HNJ := Lib.hid hnj
  have hcalls := canCall_calls hcan
  have hBg := h.hB
  have xg := h.box.lt
  have xj := hj.lt
  have hBz : B ≤ w.heap.size := by omega
  have HNP : Hid (w.heap.size ∉ g :: blocks y.all) := Lib.hid (fun hm => by rcases List.mem_cons.1 hm with e | e; (focus omega); (focus (have := (h.own.lts _ e).2; omega)))
  have HSJ : Hid (∀ b ∈ [gj], b ∉ g :: blocks y.all) := Lib.hid (fun b hb => by cases List.mem_singleton.1 hb; exact hnj)
  have n1 : ¬ gj = w.heap.size := by omega
  have n2 : ¬ w.heap.size = gj := by omega
  have n3 : ¬ gj = g := fun e => hnj (e ▸ List.mem_cons_self ..)
  have n4 : ¬ g = gj := fun e => n3 e.symm
  have c0 := (getb hj 0 _ rfl).1; have f0 := (getb hj 0 _ rfl).2; have c1 := (getb hj 1 _ rfl).1; have f1 := (getb hj 1 _ rfl).2; have c2 := (getb hj 2 _ rfl).1; have f2 := (getb hj 2 _ rfl).2; have c3 := (getb hj 3 _ rfl).1; have f3 := (getb hj 3 _ rfl).2; have c4 := (getb hj 4 _ rfl).1; have f4 := (getb hj 4 _ rfl).2
  skip
  clear h hj hnj
  have HNG := Lib.hid hng; clear hng
  have HCJ := Lib.hid hcj
  have hnl : ¬ ((j : Int) = cs.length) := by omega
  have e : stepK K kp mv cs 1 (j : Nat) = copyS K mv kp [c] ∧ stepPh K kp mv cs 1 (j : Nat) = 1 ∧ stepNx cs 1 (j : Nat) = (j : Nat) + 1 := ⟨by simp [stepK, hnl, hcj, kCopyK, hcan], by simp [stepPh, hnl], by simp [stepNx, hnl]⟩
  rw [e.1, e.2.1, e.2.2]; clear e hcj
  have hjI : (j : Int) < cs.length := by omega
  have hq0 : (0 : Int) ≤ j := by omega
  have wr1 : wrap64 ((j : Int) + 1) = (j : Int) + 1 := IntWalk.wrap64_in _ ⟨by omega, by omega⟩
  have wr2 : IntKind.i64.wrap ((j : Int) + 1) = (j : Int) + 1 := (wrapI64 _).trans wr1
  (have hall := all_nil w; go_enter Tryz.func66, Tryz.ntmps66)
  go_upto_region 7 with fail
  go_region
  go_wp2_with fail
  go_region_held3 (fun w' => w'.cell? ⟨w.heap.size, 0, none⟩ = some (.int .i64 kp) ∧ w'.cell? ⟨w.heap.size, 1, none⟩ = some (.int .i64 mv) ∧ w'.cell? ⟨w.heap.size, 2, none⟩ = some (.slice (some ⟨gb, ob, none⟩) cs.length vc) ∧ w'.cell? ⟨gj, 4, none⟩ = some (.int .i64 (j : Nat)) ∧ w'.cell? ⟨gb, ob + j, none⟩ = some (.int .i64 c)) ((refine ⟨?_, ?_, ?_, ?_, ?_⟩ <;> (go_simp; done))) ((go_at_call 113; go_loud ((with_reducible refine (s_l08CellsT B g y K mv kp _ [c] hcan _ (HI.out.after (S := ([] : List Nat)) (by repeat (first | (with_reducible refine touch_drw ?_) | (with_reducible refine touch_alc _ ?_) | (with_reducible exact Touch.refl _ _))) (fun b hb => by simp at hb)) (ints_box (by go_simp) (by exact zt) (fun hm => by have hq := (HI.out.own.lts _ (mem_all hm)).2; (try simp only [World.size_setCell, World.size_alloc, World.size_drew] at hq); omega))).mono ?_); rintro e w2 ⟨z, rfl, hki, hb, ht, hfr⟩; (have kj0 : w2.cell? ⟨gj, 0, none⟩ = some (.int .i64 kp) := (ht.cell (by exact zt) HNJ.out).trans (by go_simp)); (have fj0 : w2.frozen? ⟨gj, 0, none⟩ = false := (ht.frozen (by exact zt) HNJ.out).trans (by go_simp)); (have kj1 : w2.cell? ⟨gj, 1, none⟩ = some (.int .i64 mv) := (ht.cell (by exact zt) HNJ.out).trans (by go_simp)); (have fj1 : w2.frozen? ⟨gj, 1, none⟩ = false := (ht.frozen (by exact zt) HNJ.out).trans (by go_simp)); (have kj2 : w2.cell? ⟨gj, 2, none⟩ = some (.slice (some ⟨gb, ob, none⟩) cs.length vc) := (ht.cell (by exact zt) HNJ.out).trans (by go_simp)); (have fj2 : w2.frozen? ⟨gj, 2, none⟩ = false := (ht.frozen (by exact zt) HNJ.out).trans (by go_simp)); (have kj3 : w2.cell? ⟨gj, 3, none⟩ = some (.int .i64 1) := (ht.cell (by exact zt) HNJ.out).trans (by go_simp)); (have fj3 : w2.frozen? ⟨gj, 3, none⟩ = false := (ht.frozen (by exact zt) HNJ.out).trans (by go_simp)); (have kj4 : w2.cell? ⟨gj, 4, none⟩ = some (.int .i64 (j : Nat)) := (ht.cell (by exact zt) HNJ.out).trans (by go_simp)); (have fj4 : w2.frozen? ⟨gj, 4, none⟩ = false := (ht.frozen (by exact zt) HNJ.out).trans (by go_simp)); (have kp0 : w2.cell? ⟨w.heap.size, 0, none⟩ = some (.int .i64 kp) := (ht.cell (by exact zt) HNP.out).trans (by go_simp)); (have kp1 : w2.cell? ⟨w.heap.size, 1, none⟩ = some (.int .i64 mv) := (ht.cell (by exact zt) HNP.out).trans (by go_simp)); (have kp2 : w2.cell? ⟨w.heap.size, 2, none⟩ = some (.slice (some ⟨gb, ob, none⟩) cs.length vc) := (ht.cell (by exact zt) HNP.out).trans (by go_simp)); (have xj9 : gj < w2.heap.size := Nat.lt_of_lt_of_le (by exact zt) ht.size); (have xg9 : g < w2.heap.size := hki.box.lt); (have hsz9 := ht.size); (try simp only [World.size_setCell, World.size_alloc, World.size_drew] at hsz9); (have kce : w2.cell? ⟨gb, ob + j, none⟩ = some (.int .i64 c) := (ht.cell (by exact zt) HNG.out).trans (by go_simp)); have KI := Lib.hid hki; have HBK := Lib.hid hb; have HTK := Lib.hid ht; have HFR := Lib.hid hfr; clear hki hb ht; obtain ⟨wa, rfl⟩ : ∃ x, x = w2 := ⟨_, rfl⟩)))
  all_goals go_wp2_with fail
  all_goals go_end0
  all_goals (have hT : ∀ W, Touch [gj] wa W → Touch (g :: gj :: blocks y.all) w W := fun W h => ((show Touch (g :: gj :: blocks y.all) w _ from (by repeat (first | (with_reducible refine touch_drw ?_) | (with_reducible refine touch_alc _ ?_) | (with_reducible exact Touch.refl _ _)))).trans (HTK.out.mono sub_gj)).trans (h.mono (fun b hb => by cases List.mem_singleton.1 hb; simp)); exact ⟨_, rfl, KI.out.after (S := [gj]) (by repeat (first | (with_reducible refine touch_cellT ?_ (by simp)) | (with_reducible exact Touch.refl _ _))) (fun b hb hm => by cases List.mem_singleton.1 hb; rcases List.mem_cons.1 hm with h | h; (focus exact HNJ.out (h ▸ List.mem_cons_self ..)); (focus (rcases HFR.out _ h with h | h; (focus exact HNJ.out (List.mem_cons_of_mem _ h)); (focus (simp only [World.size_setCell, World.size_alloc, World.size_drew] at h; omega))))), (BoxAt.snoc (BoxAt.snoc (BoxAt.snoc (BoxAt.snoc (BoxAt.snoc (BoxAt.nil (by exact zt)) (v := .int .i64 kp) (i := 0) rfl (by go_simp) (by go_simp)) (v := .int .i64 mv) (i := 1) rfl (by go_simp) (by go_simp)) (v := .slice (some ⟨gb, ob, none⟩) cs.length vc) (i := 2) rfl (by go_simp) (by go_simp)) (v := .int .i64 1) (i := 3) rfl (by go_simp) (by go_simp)) (v := .int .i64 ((j : Nat) + 1)) (i := 4) rfl (by go_simp) (by go_simp)), (hT _ (by repeat (first | (with_reducible refine touch_cellT ?_ (by simp)) | (with_reducible exact Touch.refl _ _)))).toBelow (fun b hb => by rcases List.mem_cons.1 hb with h | h; (focus (subst h; exact hBg)); (focus (rcases List.mem_cons.1 h with h | h; (focus (subst h; exact hBj)); (focus exact (HI.out.own.lts b h).1)))) hBz, hT _ (by repeat (first | (with_reducible refine touch_cellT ?_ (by simp)) | (with_reducible exact Touch.refl _ _))), fun b hb => (HFR.out b hb).imp id fun h => by (simp only [World.size_setCell, World.size_alloc, World.size_drew] at h; omega)⟩)

end Go.Proofs.YtmblkllijjlkoaaGreat
