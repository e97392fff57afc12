/-
  Texts put together: JobD.
-/
import Derived.Test.YtmblkllijjlkoaaGreatGB38
/-
  One step of a job, the reference: back.
-/
set_option linter.unusedVariables false
set_option linter.unusedSimpArgs false
namespace Go.Proofs.YtmblkllijjlkoaaGreat
open Go.RowKit
theorem touch_skips {S S2 : List Nat} {w w1 w2 : World} (h : Touch S w w1) (h2 : Touch S2 w1 w2) (hb : ∀ b ∈ S2, b ∈ S ∨ w.heap.size ≤ b) : Touch S w w2 :=
  ⟨h2.os.trans h.os, h2.tape.trans h.tape, h2.output.trans h.output, Nat.le_trans h.size h2.size, fun k hk hS => (h2.block k (Nat.lt_of_lt_of_le hk h.size) (fun hm => by rcases hb k hm with h | h; (focus exact hS h); (focus omega))).trans (h.block k hk hS)⟩
set_option maxRecDepth 20000 in
set_option maxHeartbeats 6400000 in
theorem s_l14Back0 (B g gj : Nat) (y : KV) (K : Ker) (kp mv : Int) (vo : Option Addr) (vc : Nat) (cs : List Int) (hcan : canCall K = true) (w : World) (h : KIn B w g y K) (hj : BoxAt w gj [.int .i64 kp, .int .i64 mv, .slice vo cs.length vc, .int .i64 3, .int .i64 0]) (hnj : gj ∉ g :: blocks y.all) (hBj : B ≤ gj) : Calls Tryz.prog 115 #[.pointer (some ⟨g, 0, none⟩), .pointer (some ⟨gj, 0, none⟩)] w (JSDone B g gj y w (stepK K kp mv cs 3 0) kp mv (.slice vo cs.length vc) (stepPh K kp mv cs 3 0) (stepNx cs 3 0)) := by
  have HI := Lib.hid h
  have HNJ := Lib.hid hnj
  have hcalls := canCall_calls hcan
  have hBg := h.hB
  have xg := h.box.lt
  have xj := hj.lt
  have hBz : B ≤ w.heap.size := by omega
  have HNP : Hid (w.heap.size ∉ g :: blocks y.all) := Lib.hid (fun hm => by rcases List.mem_cons.1 hm with e | e; (focus omega); (focus (have := (h.own.lts _ e).2; omega)))
  have HSJ : Hid (∀ b ∈ [gj], b ∉ g :: blocks y.all) := Lib.hid (fun b hb => by cases List.mem_singleton.1 hb; exact hnj)
  have n1 : ¬ gj = w.heap.size := by omega
  have n2 : ¬ w.heap.size = gj := by omega
  have n3 : ¬ gj = g := fun e => hnj (e ▸ List.mem_cons_self ..)
  have n4 : ¬ g = gj := fun e => n3 e.symm
  have c0 := (getb hj 0 _ rfl).1; have f0 := (getb hj 0 _ rfl).2; have c1 := (getb hj 1 _ rfl).1; have f1 := (getb hj 1 _ rfl).2; have c2 := (getb hj 2 _ rfl).1; have f2 := (getb hj 2 _ rfl).2; have c3 := (getb hj 3 _ rfl).1; have f3 := (getb hj 3 _ rfl).2; have c4 := (getb hj 4 _ rfl).1; have f4 := (getb hj 4 _ rfl).2
  skip
  clear h hj hnj
  obtain ⟨ok9, hok9⟩ : ∃ q, q = protB K mv 2 := ⟨_, rfl⟩
  have e : stepK K kp mv cs 3 0 = (if ok9 then setEnt (countedK K) mv ⟨2, (pageEntry K.m.ents mv).f⟩ else countedK K) ∧ stepPh K kp mv cs 3 0 = (if ok9 = true then 5 else 3) ∧ stepNx cs 3 0 = 0 := by
    rw [hok9]; exact ⟨by simp [stepK, kProtK, hcan], by simp [stepPh, hcan], by simp [stepNx]⟩
  rw [e.1, e.2.1, e.2.2]; clear e
  have PT := Lib.hid (fun w' (h : KIn B w' g y K) => s_l08ProtectT B g y K mv 2 hcalls w' h)
  rw [← hok9] at PT
  generalize (if ok9 then setEnt (countedK K) mv ⟨2, (pageEntry K.m.ents mv).f⟩ else countedK K) = K2 at *
  clear hok9
  cases ok9
  · (have hall := all_nil w; go_enter Tryz.func115, Tryz.ntmps115)
    go_wp2_with ((go_at_call 112; go_loud ((with_reducible refine (PT.out _ (HI.out.after (S := [gj]) (by repeat ((with_reducible exact Touch.refl _ _))) HSJ.out)).mono ?_); rintro e w2 ⟨rfl, hki, hb, ht⟩; (have kj0 : w2.cell? ⟨gj, 0, none⟩ = some (.int .i64 kp) := (ht.cell (by exact zt) HNJ.out).trans (by go_simp)); (have fj0 : w2.frozen? ⟨gj, 0, none⟩ = false := (ht.frozen (by exact zt) HNJ.out).trans (by go_simp)); (have kj1 : w2.cell? ⟨gj, 1, none⟩ = some (.int .i64 mv) := (ht.cell (by exact zt) HNJ.out).trans (by go_simp)); (have fj1 : w2.frozen? ⟨gj, 1, none⟩ = false := (ht.frozen (by exact zt) HNJ.out).trans (by go_simp)); (have kj2 : w2.cell? ⟨gj, 2, none⟩ = some (.slice vo cs.length vc) := (ht.cell (by exact zt) HNJ.out).trans (by go_simp)); (have fj2 : w2.frozen? ⟨gj, 2, none⟩ = false := (ht.frozen (by exact zt) HNJ.out).trans (by go_simp)); (have kj3 : w2.cell? ⟨gj, 3, none⟩ = some (.int .i64 3) := (ht.cell (by exact zt) HNJ.out).trans (by go_simp)); (have fj3 : w2.frozen? ⟨gj, 3, none⟩ = false := (ht.frozen (by exact zt) HNJ.out).trans (by go_simp)); (have kj4 : w2.cell? ⟨gj, 4, none⟩ = some (.int .i64 0) := (ht.cell (by exact zt) HNJ.out).trans (by go_simp)); (have fj4 : w2.frozen? ⟨gj, 4, none⟩ = false := (ht.frozen (by exact zt) HNJ.out).trans (by go_simp)); (have xj9 : gj < w2.heap.size := Nat.lt_of_lt_of_le (by exact zt) ht.size); (have xg9 : g < w2.heap.size := hki.box.lt); (have hsz9 := ht.size); (try simp only [World.size_setCell, World.size_alloc, World.size_drew] at hsz9); have KI := Lib.hid hki; have HBK := Lib.hid hb; have HTK := Lib.hid ht; clear hki hb ht; obtain ⟨wa, rfl⟩ : ∃ x, x = w2 := ⟨_, rfl⟩)))
    all_goals go_end0
    all_goals (have hT : ∀ W, Touch [gj] wa W → Touch (g :: gj :: blocks y.all) w W := fun W h => ((show Touch (g :: gj :: blocks y.all) w _ from (by repeat ((with_reducible exact Touch.refl _ _)))).trans (HTK.out.mono sub_gj)).trans (h.mono (fun b hb => by cases List.mem_singleton.1 hb; simp)); exact ⟨_, rfl, KI.out.after (S := [gj]) (by repeat ((with_reducible exact Touch.refl _ _))) HSJ.out, (BoxAt.snoc (BoxAt.snoc (BoxAt.snoc (BoxAt.snoc (BoxAt.snoc (BoxAt.nil (by exact zt)) (v := .int .i64 kp) (i := 0) rfl (by go_simp) (by go_simp)) (v := .int .i64 mv) (i := 1) rfl (by go_simp) (by go_simp)) (v := .slice vo cs.length vc) (i := 2) rfl (by go_simp) (by go_simp)) (v := .int .i64 3) (i := 3) rfl (by go_simp) (by go_simp)) (v := .int .i64 0) (i := 4) rfl (by go_simp) (by go_simp)), (hT _ (by repeat ((with_reducible exact Touch.refl _ _)))).toBelow (fun b hb => by rcases List.mem_cons.1 hb with h | h; (focus (subst h; exact hBg)); (focus (rcases List.mem_cons.1 h with h | h; (focus (subst h; exact hBj)); (focus exact (HI.out.own.lts b h).1)))) hBz, hT _ (by repeat ((with_reducible exact Touch.refl _ _))), fun b hb => .inl hb⟩)
  · (have hall := all_nil w; go_enter Tryz.func115, Tryz.ntmps115)
    go_wp2_with ((go_at_call 112; go_loud ((with_reducible refine (PT.out _ (HI.out.after (S := [gj]) (by repeat ((with_reducible exact Touch.refl _ _))) HSJ.out)).mono ?_); rintro e w2 ⟨rfl, hki, hb, ht⟩; (have kj0 : w2.cell? ⟨gj, 0, none⟩ = some (.int .i64 kp) := (ht.cell (by exact zt) HNJ.out).trans (by go_simp)); (have fj0 : w2.frozen? ⟨gj, 0, none⟩ = false := (ht.frozen (by exact zt) HNJ.out).trans (by go_simp)); (have kj1 : w2.cell? ⟨gj, 1, none⟩ = some (.int .i64 mv) := (ht.cell (by exact zt) HNJ.out).trans (by go_simp)); (have fj1 : w2.frozen? ⟨gj, 1, none⟩ = false := (ht.frozen (by exact zt) HNJ.out).trans (by go_simp)); (have kj2 : w2.cell? ⟨gj, 2, none⟩ = some (.slice vo cs.length vc) := (ht.cell (by exact zt) HNJ.out).trans (by go_simp)); (have fj2 : w2.frozen? ⟨gj, 2, none⟩ = false := (ht.frozen (by exact zt) HNJ.out).trans (by go_simp)); (have kj3 : w2.cell? ⟨gj, 3, none⟩ = some (.int .i64 3) := (ht.cell (by exact zt) HNJ.out).trans (by go_simp)); (have fj3 : w2.frozen? ⟨gj, 3, none⟩ = false := (ht.frozen (by exact zt) HNJ.out).trans (by go_simp)); (have kj4 : w2.cell? ⟨gj, 4, none⟩ = some (.int .i64 0) := (ht.cell (by exact zt) HNJ.out).trans (by go_simp)); (have fj4 : w2.frozen? ⟨gj, 4, none⟩ = false := (ht.frozen (by exact zt) HNJ.out).trans (by go_simp)); (have xj9 : gj < w2.heap.size := Nat.lt_of_lt_of_le (by exact zt) ht.size); (have xg9 : g < w2.heap.size := hki.box.lt); (have hsz9 := ht.size); (try simp only [World.size_setCell, World.size_alloc, World.size_drew] at hsz9); have KI := Lib.hid hki; have HBK := Lib.hid hb; have HTK := Lib.hid ht; clear hki hb ht; obtain ⟨wa, rfl⟩ : ∃ x, x = w2 := ⟨_, rfl⟩)))
    all_goals go_end0
    all_goals (have hT : ∀ W, Touch [gj] wa W → Touch (g :: gj :: blocks y.all) w W := fun W h => ((show Touch (g :: gj :: blocks y.all) w _ from (by repeat ((with_reducible exact Touch.refl _ _)))).trans (HTK.out.mono sub_gj)).trans (h.mono (fun b hb => by cases List.mem_singleton.1 hb; simp)); exact ⟨_, rfl, KI.out.after (S := [gj]) (by repeat (first | (with_reducible refine touch_cellT ?_ (by simp)) | (with_reducible exact Touch.refl _ _))) HSJ.out, (BoxAt.snoc (BoxAt.snoc (BoxAt.snoc (BoxAt.snoc (BoxAt.snoc (BoxAt.nil (by exact zt)) (v := .int .i64 kp) (i := 0) rfl (by go_simp) (by go_simp)) (v := .int .i64 mv) (i := 1) rfl (by go_simp) (by go_simp)) (v := .slice vo cs.length vc) (i := 2) rfl (by go_simp) (by go_simp)) (v := .int .i64 5) (i := 3) rfl (by go_simp) (by go_simp)) (v := .int .i64 0) (i := 4) rfl (by go_simp) (by go_simp)), (hT _ (by repeat (first | (with_reducible refine touch_cellT ?_ (by simp)) | (with_reducible exact Touch.refl _ _)))).toBelow (fun b hb => by rcases List.mem_cons.1 hb with h | h; (focus (subst h; exact hBg)); (focus (rcases List.mem_cons.1 h with h | h; (focus (subst h; exact hBj)); (focus exact (HI.out.own.lts b h).1)))) hBz, hT _ (by repeat (first | (with_reducible refine touch_cellT ?_ (by simp)) | (with_reducible exact Touch.refl _ _))), fun b hb => .inl hb⟩)

set_option maxRecDepth 20000 in
set_option maxHeartbeats 6400000 in
theorem s_l14Back1 (B g gj : Nat) (y : KV) (K : Ker) (kp mv : Int) (gb ob vc : Nat) (cs : List Int) (j : Nat) (c : Int) (hjl : j < cs.length) (hcj : cs[j]? = some c) (hc15 : 0 ≤ c ∧ c ≤ 15) (hkp : 0 ≤ kp ∧ kp ≤ 31) (hcl : cs.length ≤ 1048576) (hsM : szM K.m ≤ 1048576) (hcan : canCall K = true) (w : World) (hgb : gb < w.heap.size) (hng : gb ∉ g :: blocks y.all) (hbj : ¬ gb = gj) (hce : w.cell? ⟨gb, ob + j, none⟩ = some (.int .i64 c)) (h : KIn B w g y K) (hj : BoxAt w gj [.int .i64 kp, .int .i64 mv, .slice (some ⟨gb, ob, none⟩) cs.length vc, .int .i64 3, .int .i64 ((j + 1 : Nat) : Int)]) (hnj : gj ∉ g :: blocks y.all) (hBj : B ≤ gj) : Calls Tryz.prog 115 #[.pointer (some ⟨g, 0, none⟩), .pointer (some ⟨gj, 0, none⟩)] w (JSDone B g gj y w (stepK K kp mv cs 3 ((j + 1 : Nat) : Int)) kp mv (.slice (some ⟨gb, ob, none⟩) cs.length vc) (stepPh K kp mv cs 3 ((j + 1 : Nat) : Int)) (stepNx cs 3 ((j + 1 : Nat) : Int))) := by
  have HI := Lib.hid h
  have HNJ := Lib.hid hnj
  have hcalls := canCall_calls hcan
  have hBg := h.hB
  have xg := h.box.lt
  have xj := hj.lt
  have hBz : B ≤ w.heap.size := by omega
  have HNP : Hid (w.heap.size ∉ g :: blocks y.all) := Lib.hid (fun hm => by rcases List.mem_cons.1 hm with e | e; (focus omega); (focus (have := (h.own.lts _ e).2; omega)))
  have HSJ : Hid (∀ b ∈ [gj], b ∉ g :: blocks y.all) := Lib.hid (fun b hb => by cases List.mem_singleton.1 hb; exact hnj)
  have n1 : ¬ gj = w.heap.size := by omega
  have n2 : ¬ w.heap.size = gj := by omega
  have n3 : ¬ gj = g := fun e => hnj (e ▸ List.mem_cons_self ..)
  have n4 : ¬ g = gj := fun e => n3 e.symm
  have c0 := (getb hj 0 _ rfl).1; have f0 := (getb hj 0 _ rfl).2; have c1 := (getb hj 1 _ rfl).1; have f1 := (getb hj 1 _ rfl).2; have c2 := (getb hj 2 _ rfl).1; have f2 := (getb hj 2 _ rfl).2; have c3 := (getb hj 3 _ rfl).1; have f3 := (getb hj 3 _ rfl).2; have c4 := (getb hj 4 _ rfl).1; have f4 := (getb hj 4 _ rfl).2
  skip
  clear h hj hnj
  have hbj2 : ¬ gj = gb := fun e => hbj e.symm
  have hbg1 : ¬ gb = g := fun e => hng (e ▸ List.mem_cons_self ..)
  have hbg2 : ¬ g = gb := fun e => hbg1 e.symm
  have HCJ := Lib.hid hcj
  have hgc : cs.getD j 0 = c := getD_of hcj
  have d30 : ¬ (3 : Int) = 0 := by decide
  have d31 : ¬ (3 : Int) = 1 := by decide
  have d32 : ¬ (3 : Int) = 2 := by decide
  have h0j : (0 : Int) < ((j + 1 : Nat) : Int) := by omega
  have hj1 : (((j + 1 : Nat) : Int) - 1) = (j : Nat) := by omega
  have e : stepK K kp mv cs 3 ((j + 1 : Nat) : Int) = ⟨storeM K.m (kp * 16 + c) 0, K.calls, K.refuse⟩ ∧ stepPh K kp mv cs 3 ((j + 1 : Nat) : Int) = 3 ∧ stepNx cs 3 ((j + 1 : Nat) : Int) = (j : Nat) := by
    refine ⟨?_, ?_, ?_⟩ <;> simp only [stepK, stepPh, stepNx, ↓reduceIte, d30, d31, d32, h0j, hj1, Int.toNat_natCast, hgc]
  rw [e.1, e.2.1, e.2.2]; clear e hcj hgc d30 d31 d32
  obtain ⟨yco, ycc, yuo, yuc, yvs, yeo, yec, yro, yrc, rfl⟩ := HI.out.own.shapes
  obtain ⟨xg9, k0, k1, k2, k3, k4, g0, g1, g2, g3, g4⟩ := HI.out.box
  dsimp only at k0 k1 k2 k3 k4
  have CP := Lib.hid (fun W (hW : MAt W (⟨⟨.slice yco yvs.length ycc, .slice yuo K.m.f.used.length yuc, yvs⟩, .slice yeo K.m.ents.length yec⟩ : MV) K.m) => s_Store (⟨⟨.slice yco yvs.length ycc, .slice yuo K.m.f.used.length yuc, yvs⟩, .slice yeo K.m.ents.length yec⟩ : MV) K.m (kp * 16 + c) 0 hsM (by omega) W hW)
  simp only [MV.val] at CP
  generalize storeM K.m (kp * 16 + c) 0 = M2 at CP ⊢
  generalize storeF K.m (kp * 16 + c) 0 = fc9 at CP
  have hjI : (j : Int) < cs.length := by omega
  have hq0 : (0 : Int) ≤ j := by omega
  have wr1 : wrap64 (kp * 16) = kp * 16 := IntWalk.wrap64_in _ ⟨by omega, by omega⟩
  have wr2 : wrap64 (kp * 16 + c) = kp * 16 + c := IntWalk.wrap64_in _ ⟨by omega, by omega⟩
  have wr3 : IntKind.i64.wrap (kp * 16) = kp * 16 := (wrapI64 _).trans wr1
  have wr4 : IntKind.i64.wrap (kp * 16 + c) = kp * 16 + c := (wrapI64 _).trans wr2
  have wr5 : wrap64 (((j + 1 : Nat) : Int) - 1) = (j : Nat) := by rw [hj1]; exact IntWalk.wrap64_in _ ⟨by omega, by omega⟩
  have wr6 : IntKind.i64.wrap (((j + 1 : Nat) : Int) - 1) = (j : Nat) := (wrapI64 _).trans wr5
  (have hall := all_nil w; go_enter Tryz.func115, Tryz.ntmps115)
  go_wp2_with (fail)
  go_region_held3 (fun w' => w'.cell? ⟨g, 0, none⟩ = some (.slice yco yvs.length ycc) ∧ w'.cell? ⟨g, 1, none⟩ = some (.slice yuo K.m.f.used.length yuc) ∧ w'.cell? ⟨g, 2, none⟩ = some (.slice yeo K.m.ents.length yec) ∧ w'.cell? ⟨gj, 0, none⟩ = some (.int .i64 kp) ∧ w'.cell? ⟨gj, 2, none⟩ = some (.slice (some ⟨gb, ob, none⟩) cs.length vc) ∧ w'.cell? ⟨gj, 4, none⟩ = some (.int .i64 (j : Nat)) ∧ w'.cell? ⟨gb, ob + j, none⟩ = some (.int .i64 c)) ((refine ⟨?_, ?_, ?_, ?_, ?_, ?_, ?_⟩ <;> (go_simp; done))) ((go_at_call 123; go_loud ((with_reducible refine (CP.out _ ((HI.out.after (S := [gj]) (by repeat (first | (with_reducible refine touch_cellT ?_ (by simp)) | (with_reducible refine touch_drw ?_) | (with_reducible refine touch_alc _ ?_) | (with_reducible exact Touch.refl _ _))) HSJ.out).own.m.at)).mono ?_); rintro e w2 ⟨z, rfl, hzo, hb⟩; (obtain ⟨zco, zcc, zuo, zuc, zvs, zeo, zec, rfl⟩ := MOwn.shapes hzo); have OZ := Lib.hid hzo; have HBZ := Lib.hid hb; (have HZ0 : Hid (∀ b ∈ blocks (MV.all (⟨⟨.slice zco zvs.length zcc, .slice zuo M2.f.used.length zuc, zvs⟩, .slice zeo M2.ents.length zec⟩ : MV)), w.heap.size ≤ b ∧ b < w2.heap.size ∧ (∀ n, n < w2.heap.size → b = n → True)) := Lib.hid (fun b hb9 => by have h := MOwn.lts hzo b hb9; (try simp only [World.size_setCell, World.size_alloc, World.size_drew] at h); exact ⟨by omega, h.2, fun _ _ _ => trivial⟩)); (try (have kb0 : w2.cell? ⟨w.heap.size, 0, none⟩ = some (.slice none 0 0) := ?_; rotate_left; (focus (refine kc hb ?_ ?_; (focus (exact zt)); (focus (go_simp; done)))); have fb0 : w2.frozen? ⟨w.heap.size, 0, none⟩ = false := ?_; rotate_left; (focus (refine fc hb ?_ ?_; (focus (exact zt)); (focus (go_simp; done)))); have kb1 : w2.cell? ⟨w.heap.size, 1, none⟩ = some (.slice none 0 0) := ?_; rotate_left; (focus (refine kc hb ?_ ?_; (focus (exact zt)); (focus (go_simp; done)))); have fb1 : w2.frozen? ⟨w.heap.size, 1, none⟩ = false := ?_; rotate_left; (focus (refine fc hb ?_ ?_; (focus (exact zt)); (focus (go_simp; done)))); have kb2 : w2.cell? ⟨w.heap.size, 2, none⟩ = some (.slice none 0 0) := ?_; rotate_left; (focus (refine kc hb ?_ ?_; (focus (exact zt)); (focus (go_simp; done)))); have fb2 : w2.frozen? ⟨w.heap.size, 2, none⟩ = false := ?_; rotate_left; (focus (refine fc hb ?_ ?_; (focus (exact zt)); (focus (go_simp; done)))); have xb : w.heap.size < w2.heap.size := ?_; rotate_left; (focus (refine xc hb ?_; exact zt)))); obtain ⟨kwa_G_0, fwa_G_0, kwa_G_1, fwa_G_1, kwa_G_2, fwa_G_2, kwa_G_3, fwa_G_3, kwa_G_4, fwa_G_4⟩ := kf5 hb (g) (.slice yco yvs.length ycc) (.slice yuo K.m.f.used.length yuc) (.slice yeo K.m.ents.length yec) (.int .i64 (K.calls)) (.slice yro K.refuse.length yrc); obtain ⟨kwa_GJ_0, fwa_GJ_0, kwa_GJ_1, fwa_GJ_1, kwa_GJ_2, fwa_GJ_2, kwa_GJ_3, fwa_GJ_3, kwa_GJ_4, fwa_GJ_4⟩ := kf5 hb (gj) (.int .i64 kp) (.int .i64 mv) (.slice (some ⟨gb, ob, none⟩) cs.length vc) (.int .i64 3) (.int .i64 (j : Nat)); have kwa_CE : w2.cell? ⟨gb, ob + j, none⟩ = some (.int .i64 c) := kc hb; have xwa_G : g < w2.heap.size := xc hb; have xwa_GJ : gj < w2.heap.size := xc hb; have xwa_GBX : gb < w2.heap.size := xc hb; have hzwa := hb.size; (try simp only [World.size_alloc, World.size_setCell, World.size_drew] at hzwa); clear hzo; simp only [MV.val]; obtain ⟨wa, rfl⟩ : ∃ x, x = w2 := ⟨_, rfl⟩)))
  all_goals go_wp2_with fail
  all_goals go_end0
  all_goals (
    have hMO : MOwn B wa (⟨⟨.slice zco zvs.length zcc, .slice zuo M2.f.used.length zuc, zvs⟩, .slice zeo M2.ents.length zec⟩ : MV) M2 := OZ.out.mono (by (try simp only [World.size_setCell, World.size_alloc, World.size_drew]); omega)
    have hTa : Touch [gj] w wa := Touch.trans (by repeat (first | (with_reducible refine touch_cellT ?_ (by simp)) | (with_reducible refine touch_drw ?_) | (with_reducible refine touch_alc _ ?_) | (with_reducible exact Touch.refl _ _))) (touch_of_below HBZ.out [gj])
    have hT0 : Touch (g :: gj :: blocks (KV.all ⟨(⟨⟨.slice yco yvs.length ycc, .slice yuo K.m.f.used.length yuc, yvs⟩, .slice yeo K.m.ents.length yec⟩ : MV), .slice yro K.refuse.length yrc⟩)) w wa := hTa.mono (fun b hb => by cases List.mem_singleton.1 hb; simp)
    have hRa : OwnI B wa (.slice yro K.refuse.length yrc) K.refuse := Own.touchs HI.out.own.ref hTa (fun b hb hm => by cases List.mem_singleton.1 hm; exact HNJ.out (List.mem_cons_of_mem _ (sub_left [.slice yro K.refuse.length yrc] _ _ hb)))
    have hKO : KOwn B wa ⟨⟨⟨.slice zco zvs.length zcc, .slice zuo M2.f.used.length zuc, zvs⟩, .slice zeo M2.ents.length zec⟩, .slice yro K.refuse.length yrc⟩ ⟨M2, K.calls, K.refuse⟩ := ⟨hMO, hRa, nodup_blocks (l := [_]) (nodup_one _) hMO.nd (fun b hb hm => by have h1 := (Own.lts HI.out.own.ref b hb).2; have h2 := (HZ0.out b hm).1; omega)⟩
    have hgne : g ∉ blocks (KV.all ⟨⟨⟨.slice zco zvs.length zcc, .slice zuo M2.f.used.length zuc, zvs⟩, .slice zeo M2.ents.length zec⟩, .slice yro K.refuse.length yrc⟩) := fun hb => by
      have b : Nat := g
      have hb2 : g ∈ blocks ([.slice yro K.refuse.length yrc] ++ MV.all (⟨⟨.slice zco zvs.length zcc, .slice zuo M2.f.used.length zuc, zvs⟩, .slice zeo M2.ents.length zec⟩ : MV)) := hb
      rw [blocks_append, List.mem_append] at hb2
      rcases hb2 with h | h
      · exact HI.out.ne (sub_left [.slice yro K.refuse.length yrc] _ g h)
      · have := (HZ0.out g h).1; omega
    have hfr9 : ∀ b ∈ blocks (KV.all ⟨⟨⟨.slice zco zvs.length zcc, .slice zuo M2.f.used.length zuc, zvs⟩, .slice zeo M2.ents.length zec⟩, .slice yro K.refuse.length yrc⟩), b ∈ blocks (KV.all ⟨(⟨⟨.slice yco yvs.length ycc, .slice yuo K.m.f.used.length yuc, yvs⟩, .slice yeo K.m.ents.length yec⟩ : MV), .slice yro K.refuse.length yrc⟩) ∨ w.heap.size ≤ b := fun b hb => by
      have hb2 : b ∈ blocks ([.slice yro K.refuse.length yrc] ++ MV.all (⟨⟨.slice zco zvs.length zcc, .slice zuo M2.f.used.length zuc, zvs⟩, .slice zeo M2.ents.length zec⟩ : MV)) := hb
      rw [blocks_append, List.mem_append] at hb2
      rcases hb2 with h | h
      · exact .inl (sub_left [.slice yro K.refuse.length yrc] _ b h)
      · exact .inr (HZ0.out b h).1
    skip)
  · (have ht : ∀ W, Touch [g] wa W → (KOwn B W ⟨⟨⟨.slice zco zvs.length zcc, .slice zuo M2.f.used.length zuc, zvs⟩, .slice zeo M2.ents.length zec⟩, .slice yro K.refuse.length yrc⟩ ⟨M2, K.calls, K.refuse⟩ ∧ Touch (g :: gj :: blocks (KV.all ⟨(⟨⟨.slice yco yvs.length ycc, .slice yuo K.m.f.used.length yuc, yvs⟩, .slice yeo K.m.ents.length yec⟩ : MV), .slice yro K.refuse.length yrc⟩)) w W) := fun W h9 => ⟨hKO.touch h9 (fun b hb hm => by (simp only [List.mem_cons, List.not_mem_nil, or_false] at hm); have hb2 : b ∈ blocks ([.slice yro K.refuse.length yrc] ++ MV.all (⟨⟨.slice zco zvs.length zcc, .slice zuo M2.f.used.length zuc, zvs⟩, .slice zeo M2.ents.length zec⟩ : MV)) := hb; rw [blocks_append, List.mem_append] at hb2; rcases hb2 with h | h; (focus (have h1 := (Own.lts HI.out.own.ref b h).2; have h2 : ¬ b = g := (fun e => HI.out.ne (e ▸ sub_left [.slice yro K.refuse.length yrc] _ b h)); omega)); (focus (have h1 := MOwn.lts OZ.out b h; (try simp only [World.size_setCell, World.size_alloc, World.size_drew] at h1); omega))), touch_skips hT0 h9 (fun b hb => by (simp only [List.mem_cons, List.not_mem_nil, or_false] at hb); ((subst hb; exact .inl (List.mem_cons_self ..))))⟩; exact ⟨⟨⟨⟨.slice zco zvs.length zcc, .slice zuo M2.f.used.length zuc, zvs⟩, .slice zeo M2.ents.length zec⟩, .slice yro K.refuse.length yrc⟩, rfl, ⟨⟨by exact zt, by go_simp, by go_simp, by go_simp, by go_simp, by go_simp, by go_simp, by go_simp, by go_simp, by go_simp, by go_simp⟩, (ht _ (by repeat (first | (with_reducible refine touch_cellT ?_ (by simp)) | (with_reducible refine touch_alc _ ?_) | (with_reducible exact Touch.refl _ _)))).1, hBg, hgne⟩, (BoxAt.snoc (BoxAt.snoc (BoxAt.snoc (BoxAt.snoc (BoxAt.snoc (BoxAt.nil (by exact zt)) (v := .int .i64 kp) (i := 0) rfl (by go_simp) (by go_simp)) (v := .int .i64 mv) (i := 1) rfl (by go_simp) (by go_simp)) (v := .slice (some ⟨gb, ob, none⟩) cs.length vc) (i := 2) rfl (by go_simp) (by go_simp)) (v := .int .i64 3) (i := 3) rfl (by go_simp) (by go_simp)) (v := .int .i64 (j : Nat)) (i := 4) rfl (by go_simp) (by go_simp)), ((ht _ (by repeat (first | (with_reducible refine touch_cellT ?_ (by simp)) | (with_reducible refine touch_alc _ ?_) | (with_reducible exact Touch.refl _ _)))).2).toBelow (fun b hb => by rcases List.mem_cons.1 hb with h | h; (focus (subst h; exact hBg)); (focus (rcases List.mem_cons.1 h with h | h; (focus (subst h; exact hBj)); (focus exact (HI.out.own.lts b h).1)))) hBz, (ht _ (by repeat (first | (with_reducible refine touch_cellT ?_ (by simp)) | (with_reducible refine touch_alc _ ?_) | (with_reducible exact Touch.refl _ _)))).2, hfr9⟩)
  · (have ht : ∀ W, Touch [g, w.heap.size] wa W → (KOwn B W ⟨⟨⟨.slice zco zvs.length zcc, .slice zuo M2.f.used.length zuc, zvs⟩, .slice zeo M2.ents.length zec⟩, .slice yro K.refuse.length yrc⟩ ⟨M2, K.calls, K.refuse⟩ ∧ Touch (g :: gj :: blocks (KV.all ⟨(⟨⟨.slice yco yvs.length ycc, .slice yuo K.m.f.used.length yuc, yvs⟩, .slice yeo K.m.ents.length yec⟩ : MV), .slice yro K.refuse.length yrc⟩)) w W) := fun W h9 => ⟨hKO.touch h9 (fun b hb hm => by (simp only [List.mem_cons, List.not_mem_nil, or_false] at hm); have hb2 : b ∈ blocks ([.slice yro K.refuse.length yrc] ++ MV.all (⟨⟨.slice zco zvs.length zcc, .slice zuo M2.f.used.length zuc, zvs⟩, .slice zeo M2.ents.length zec⟩ : MV)) := hb; rw [blocks_append, List.mem_append] at hb2; rcases hb2 with h | h; (focus (have h1 := (Own.lts HI.out.own.ref b h).2; have h2 : ¬ b = g := (fun e => HI.out.ne (e ▸ sub_left [.slice yro K.refuse.length yrc] _ b h)); omega)); (focus (have h1 := MOwn.lts OZ.out b h; (try simp only [World.size_setCell, World.size_alloc, World.size_drew] at h1); omega))), touch_skips hT0 h9 (fun b hb => by (simp only [List.mem_cons, List.not_mem_nil, or_false] at hb); ((rcases hb with hb | hb; (focus (subst hb; exact .inl (List.mem_cons_self ..))); (focus exact .inr (by omega)))))⟩; exact ⟨⟨⟨⟨.slice zco zvs.length zcc, .slice zuo M2.f.used.length zuc, zvs⟩, .slice zeo M2.ents.length zec⟩, .slice yro K.refuse.length yrc⟩, rfl, ⟨⟨by exact zt, by go_simp, by go_simp, by go_simp, by go_simp, by go_simp, by go_simp, by go_simp, by go_simp, by go_simp, by go_simp⟩, (ht _ (by repeat (first | (with_reducible refine touch_cellT ?_ (by simp)) | (with_reducible exact Touch.refl _ _)))).1, hBg, hgne⟩, (BoxAt.snoc (BoxAt.snoc (BoxAt.snoc (BoxAt.snoc (BoxAt.snoc (BoxAt.nil (by exact zt)) (v := .int .i64 kp) (i := 0) rfl (by go_simp) (by go_simp)) (v := .int .i64 mv) (i := 1) rfl (by go_simp) (by go_simp)) (v := .slice (some ⟨gb, ob, none⟩) cs.length vc) (i := 2) rfl (by go_simp) (by go_simp)) (v := .int .i64 3) (i := 3) rfl (by go_simp) (by go_simp)) (v := .int .i64 (j : Nat)) (i := 4) rfl (by go_simp) (by go_simp)), ((ht _ (by repeat (first | (with_reducible refine touch_cellT ?_ (by simp)) | (with_reducible exact Touch.refl _ _)))).2).toBelow (fun b hb => by rcases List.mem_cons.1 hb with h | h; (focus (subst h; exact hBg)); (focus (rcases List.mem_cons.1 h with h | h; (focus (subst h; exact hBj)); (focus exact (HI.out.own.lts b h).1)))) hBz, (ht _ (by repeat (first | (with_reducible refine touch_cellT ?_ (by simp)) | (with_reducible exact Touch.refl _ _)))).2, hfr9⟩)

end Go.Proofs.YtmblkllijjlkoaaGreat
