/-
  Texts put together: JobE.
-/
import Derived.Test.YtmblkllijjlkoaaGreatGB39
/-
  One step of a job, the reference: all phases.
-/
set_option linter.unusedVariables false
set_option linter.unusedSimpArgs false
namespace Go.Proofs.YtmblkllijjlkoaaGreat
open Go.RowKit
set_option maxRecDepth 20000 in
set_option maxHeartbeats 1600000 in
theorem s_l14Step3 (B g gj : Nat) (y : KV) (K K2 : Ker) (kp mv : Int) (vo : Option Addr) (vn vc : Nat) (nx ph2 nx2 : Int) (w : World) (CB : ∀ W, Below w.heap.size w W → KIn B W g y K → BoxAt W gj [.int .i64 kp, .int .i64 mv, .slice vo vn vc, .int .i64 3, .int .i64 nx] → Calls Tryz.prog 115 #[.pointer (some ⟨g, 0, none⟩), .pointer (some ⟨gj, 0, none⟩)] W (JSDone B g gj y W K2 kp mv (.slice vo vn vc) ph2 nx2)) (h : KIn B w g y K) (hj : BoxAt w gj [.int .i64 kp, .int .i64 mv, .slice vo vn vc, .int .i64 3, .int .i64 nx]) : Calls Tryz.prog 66 #[.pointer (some ⟨g, 0, none⟩), .pointer (some ⟨gj, 0, none⟩)] w (JSDone B g gj y w K2 kp mv (.slice vo vn vc) ph2 nx2) := by
  have HI := Lib.hid h
  have HJ := Lib.hid hj
  have HCB := Lib.hid CB
  have xg := h.box.lt
  have xj := hj.lt
  have hBz : B ≤ w.heap.size := by have := h.hB; omega
  have n1 : ¬ gj = w.heap.size := by omega
  have n2 : ¬ w.heap.size = gj := by omega
  have c0 := (getb hj 0 _ rfl).1; have f0 := (getb hj 0 _ rfl).2; have c1 := (getb hj 1 _ rfl).1; have f1 := (getb hj 1 _ rfl).2; have c2 := (getb hj 2 _ rfl).1; have f2 := (getb hj 2 _ rfl).2; have c3 := (getb hj 3 _ rfl).1; have f3 := (getb hj 3 _ rfl).2; have c4 := (getb hj 4 _ rfl).1; have f4 := (getb hj 4 _ rfl).2
  clear h hj CB
  (have hall := all_nil w; go_enter Tryz.func66, Tryz.ntmps66)
  go_wp2_with ((go_at_call 115; go_loud ((with_reducible refine (HCB.out _ (by exact bel) (HI.out.below (by exact bel)) (HJ.out.below (by exact bel))).mono ?_); rintro e w2 ⟨z, rfl, hz1, hz2, hz3, hz4, hz5⟩; have HR := Lib.hid (And.intro hz1 (And.intro hz2 (And.intro hz3 (And.intro hz4 hz5)))); (have HBW := Lib.hid (show Below w.heap.size w (w.alloc (.cells #[.int .i64 kp, .int .i64 mv, .slice vo vn vc] 66)) from (by exact (Below.refl _ _).alloc (Nat.le_refl _) _))); clear hz1 hz2 hz3 hz4 hz5)))
  all_goals go_end0
  obtain ⟨hz1, hz2, hz3, hz4, hz5⟩ := HR.out
  have hB := HBW.out
  exact ⟨z, rfl, hz1, hz2, (hB.mono hBz).trans hz3, (touch_of_below hB _).trans hz4, fun b hb => (hz5 b hb).imp id (fun h => Nat.le_trans hB.size h)⟩

set_option maxRecDepth 20000 in
set_option maxHeartbeats 6400000 in
theorem s_l14Step4 (B g gj : Nat) (y : KV) (K : Ker) (kp mv : Int) (vo : Option Addr) (vc : Nat) (cs : List Int) (ph nx : Int) (hp : ph = 4 ∨ ph = 5) (hcan : canCall K = true) (w : World) (h : KIn B w g y K) (hj : BoxAt w gj [.int .i64 kp, .int .i64 mv, .slice vo cs.length vc, .int .i64 ph, .int .i64 nx]) (hnj : gj ∉ g :: blocks y.all) (hBj : B ≤ gj) : Calls Tryz.prog 66 #[.pointer (some ⟨g, 0, none⟩), .pointer (some ⟨gj, 0, none⟩)] w (JSDone B g gj y w (stepK K kp mv cs ph nx) kp mv (.slice vo cs.length vc) (stepPh K kp mv cs ph nx) (stepNx cs ph nx)) := by
  have HI := Lib.hid h
  have HNJ := Lib.hid hnj
  have hcalls := canCall_calls hcan
  have hBg := h.hB
  have xg := h.box.lt
  have xj := hj.lt
  have hBz : B ≤ w.heap.size := by omega
  have HNP : Hid (w.heap.size ∉ g :: blocks y.all) := Lib.hid (fun hm => by rcases List.mem_cons.1 hm with e | e; (focus omega); (focus (have := (h.own.lts _ e).2; omega)))
  have HSJ : Hid (∀ b ∈ [gj], b ∉ g :: blocks y.all) := Lib.hid (fun b hb => by cases List.mem_singleton.1 hb; exact hnj)
  have n1 : ¬ gj = w.heap.size := by omega
  have n2 : ¬ w.heap.size = gj := by omega
  have n3 : ¬ gj = g := fun e => hnj (e ▸ List.mem_cons_self ..)
  have n4 : ¬ g = gj := fun e => n3 e.symm
  have c0 := (getb hj 0 _ rfl).1; have f0 := (getb hj 0 _ rfl).2; have c1 := (getb hj 1 _ rfl).1; have f1 := (getb hj 1 _ rfl).2; have c2 := (getb hj 2 _ rfl).1; have f2 := (getb hj 2 _ rfl).2; have c3 := (getb hj 3 _ rfl).1; have f3 := (getb hj 3 _ rfl).2; have c4 := (getb hj 4 _ rfl).1; have f4 := (getb hj 4 _ rfl).2
  skip
  clear h hj hnj
  have e : stepK K kp mv cs ph nx = K ∧ stepPh K kp mv cs ph nx = ph ∧ stepNx cs ph nx = nx := by
    rcases hp with rfl | rfl <;> exact ⟨rfl, rfl, rfl⟩
  rw [e.1, e.2.1, e.2.2]; clear e
  have k0 : (ph == 0) = false := by rcases hp with rfl | rfl <;> rfl
  have k1 : (ph == 1) = false := by rcases hp with rfl | rfl <;> rfl
  have k2 : (ph == 2) = false := by rcases hp with rfl | rfl <;> rfl
  have k3 : (ph == 3) = false := by rcases hp with rfl | rfl <;> rfl
  have l0 : ¬ ph = 0 := by omega
  have l1 : ¬ ph = 1 := by omega
  have l2 : ¬ ph = 2 := by omega
  have l3 : ¬ ph = 3 := by omega
  (have hall := all_nil w; go_enter Tryz.func66, Tryz.ntmps66)
  go_wp2_with (fail)
  all_goals go_end0
  all_goals (have hT : ∀ W, Touch [gj] w W → Touch (g :: gj :: blocks y.all) w W := fun W h => h.mono (fun b hb => by cases List.mem_singleton.1 hb; simp); exact ⟨_, rfl, (HI.out.after (S := [gj]) (by repeat (first | (with_reducible refine touch_alc _ ?_) | (with_reducible exact Touch.refl _ _))) HSJ.out), (BoxAt.snoc (BoxAt.snoc (BoxAt.snoc (BoxAt.snoc (BoxAt.snoc (BoxAt.nil (by exact zt)) (v := .int .i64 kp) (i := 0) rfl (by go_simp) (by go_simp)) (v := .int .i64 mv) (i := 1) rfl (by go_simp) (by go_simp)) (v := .slice vo cs.length vc) (i := 2) rfl (by go_simp) (by go_simp)) (v := .int .i64 ph) (i := 3) rfl (by go_simp) (by go_simp)) (v := .int .i64 nx) (i := 4) rfl (by go_simp) (by go_simp)), (hT _ (by repeat (first | (with_reducible refine touch_alc _ ?_) | (with_reducible exact Touch.refl _ _)))).toBelow (fun b hb => by rcases List.mem_cons.1 hb with h | h; (focus (subst h; exact hBg)); (focus (rcases List.mem_cons.1 h with h | h; (focus (subst h; exact hBj)); (focus exact (HI.out.own.lts b h).1)))) hBz, hT _ (by repeat (first | (with_reducible refine touch_alc _ ?_) | (with_reducible exact Touch.refl _ _))), fun b hb => .inl hb⟩)

theorem s_l14Step (B B2 g gj : Nat) (y : KV) (K : Ker) (kp mv : Int) (v : Value) (cs : List Int) (ph nx : Int) (hm : jobMay K kp mv cs ph nx = true) (hsM : szM K.m ≤ 1048576) (hcl : cs.length ≤ 1048576) (w : World) (h : KIn B w g y K) (hj : BoxAt w gj [.int .i64 kp, .int .i64 mv, v, .int .i64 ph, .int .i64 nx]) (ho : OwnI B2 w v cs) (hnj : gj ∉ g :: blocks y.all) (hBj : B ≤ gj) (hnv : ∀ b ∈ blocks [v], b ∉ g :: gj :: blocks y.all) :
    Calls Tryz.prog 66 #[.pointer (some ⟨g, 0, none⟩), .pointer (some ⟨gj, 0, none⟩)] w (JSDone B g gj y w (stepK K kp mv cs ph nx) kp mv v (stepPh K kp mv cs ph nx) (stepNx cs ph nx)) := by
  obtain ⟨hcan, -, -, -, -, hph, hnx, hkp, -, hpl⟩ := jobMay_parts hm
  obtain ⟨vo, vc, rfl, -, -⟩ := ho.shape
  have cell : ∀ j : Nat, j < cs.length → ∃ gb, vo = some ⟨gb, 0, none⟩ ∧ gb < w.heap.size ∧ gb ∉ g :: gj :: blocks y.all ∧ ∀ c, cs[j]? = some c → w.cell? ⟨gb, 0 + j, none⟩ = some (.int .i64 c) := by
    intro j hjl
    obtain ⟨gb, gc, hge, h1, h2⟩ := Own.addr ho (show 0 < cs.length by omega)
    simp only [Value.slice.injEq] at hge
    obtain ⟨rfl, -, rfl⟩ := hge
    refine ⟨gb, rfl, h2, hnv gb (by simp [blocks, Value.ownBlock]), fun c hc => ?_⟩
    have := (OwnI.slotI ho hc).2.2.1
    simpa using this
  have sub : ∀ {b : Nat}, b ∉ g :: gj :: blocks y.all → b ∉ g :: blocks y.all ∧ ¬ b = gj := fun hb => ⟨fun hm => hb (sub_gj _ hm), fun e => hb (by subst e; simp)⟩
  rcases (by omega : (ph = 0 ∨ ph = 2) ∨ ph = 1 ∨ ph = 3 ∨ (ph = 4 ∨ ph = 5)) with hp | rfl | rfl | hp
  · exact s_l14Step02 B g gj y K kp mv vo vc cs ph nx hp hcan w h hj hnj hBj
  · by_cases hnl : nx = cs.length
    · subst hnl
      exact s_l14Step1e B g gj y K kp mv vo vc cs hcl hcan w h hj hnj hBj
    · obtain ⟨j, rfl⟩ := Int.eq_ofNat_of_zero_le hnx.1
      have hjl : j < cs.length := by omega
      obtain ⟨gb, rfl, hgb, hng, hce⟩ := cell j hjl
      obtain ⟨c, hcj⟩ := getx hjl
      exact s_l14Step1c B g gj y K kp mv gb 0 vc cs j c hjl hcj hcl hcan w hgb (sub hng).1 (hce c hcj) h hj hnj hBj
  · by_cases hn0 : nx = 0
    · subst hn0
      exact s_l14Step3 B g gj y K _ kp mv _ _ _ 0 _ _ w (fun W hW h2 hj2 => s_l14Back0 B g gj y K kp mv vo vc cs hcan W h2 hj2 hnj hBj) h hj
    · obtain ⟨j, rfl⟩ : ∃ j : Nat, nx = ((j + 1 : Nat) : Int) := ⟨(nx - 1).toNat, by omega⟩
      have hjl : j < cs.length := by omega
      obtain ⟨gb, rfl, hgb, hng, hce⟩ := cell j hjl
      obtain ⟨c, hcj⟩ := getx hjl
      exact s_l14Step3 B g gj y K _ kp mv _ _ _ _ _ _ w (fun W hW h2 hj2 => s_l14Back1 B g gj y K kp mv gb 0 vc cs j c hjl hcj (plOk_cell hpl hjl hcj) hkp hcl hsM hcan W (Nat.lt_of_lt_of_le hgb hW.size) (sub hng).1 (sub hng).2 ((hW.cell (p := ⟨gb, 0 + j, none⟩) hgb).trans (hce c hcj)) h2 hj2 hnj hBj) h hj
  · exact s_l14Step4 B g gj y K kp mv vo vc cs ph nx hp hcan w h hj hnj hBj
end Go.Proofs.YtmblkllijjlkoaaGreat
