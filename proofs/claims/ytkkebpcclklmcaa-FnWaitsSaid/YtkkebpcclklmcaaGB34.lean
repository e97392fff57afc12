/-
  Texts put together: PlanD.
-/
import Derived.Test.YtkkebpcclklmcaaGB32
import Derived.Test.YtkkebpcclklmcaaGB33
import Derived.Test.YtkkebpcclklmcaaGB8
import Derived.Deep.DeepCutAuto
/-
  A plan, as the reference draws it.
-/
set_option linter.unusedVariables false
set_option linter.unusedSimpArgs false
namespace Go.Proofs.Ytkkebpcclklmcaa
open Go.RowKit
theorem csok_snoc {cs : List Int} {k : Nat} (h : CsOk cs) (hl : ∀ c ∈ cs, c < (k : Int)) (hk : k < 16) : CsOk (cs ++ [(k : Int)]) := by
  refine ⟨fun c hc => ?_, ?_⟩
  · rcases List.mem_append.1 hc with hc | hc
    · exact h.rng c hc
    · rw [List.mem_singleton.1 hc]; omega
  · rw [List.pairwise_append]
    exact ⟨h.pw, List.pairwise_singleton _ _, fun a ha b hb => by rw [List.mem_singleton.1 hb]; exact hl a ha⟩
theorem planOk_of {cs : List Int} {kp mv : Nat} (h : CsOk cs) (h1 : kp < 4) (h2 : mv < 4) (hn : kp ≠ mv) : planOk kp mv cs = true := by
  have hp : plOk cs cs.length = true := by
    unfold plOk
    rw [allTo_iff]
    intro i hi
    have hr := h.rng (cs.getD i 0) (by rw [List.getD_eq_getElem?_getD, List.getElem?_eq_getElem hi]; exact List.getElem_mem _)
    unfold cellOkP
    rw [between_iff.2 hr, Bool.true_and, Bool.not_eq_true', Bool.and_eq_false_iff]
    by_cases h0 : i = 0
    · left; simp [h0]
    · right
      have := List.pairwise_iff_getElem.1 h.pw (i - 1) i (by omega) hi (by omega)
      unfold prevOf
      rw [List.getD_eq_getElem?_getD, List.getD_eq_getElem?_getD, List.getElem?_eq_getElem hi, List.getElem?_eq_getElem (show i - 1 < cs.length by omega)]
      simp only [Option.getD_some, decide_eq_false_iff_not]
      omega
  unfold planOk
  rw [hp, between_iff.2 (by omega), between_iff.2 (by omega)]
  simp only [Bool.true_and, bne_iff_ne, ne_eq]
  omega
def DrawnPlan (B : Nat) (w : World) (g : Nat) (e : Ending) (w' : World) : Prop := ∃ (kp mv : Nat) (v : Value) (cs : List Int), e = .returned (.agg #[.int .i64 (kp : Int), .int .i64 (mv : Int), v]) ∧ kp < 4 ∧ mv < 4 ∧ CsOk cs ∧ planOk kp mv cs = true ∧ cs.length ≤ 16 ∧ OwnI w.heap.size w' v cs ∧ Cur B w' g ∧ w.grownBy w' (some g)
set_option maxRecDepth 20000 in
set_option maxHeartbeats 3200000 in
theorem s_l13Plan (B g : Nat) (w : World) (hcur : Cur B w g) : Calls Try.prog 59 #[.pointer (some ⟨g, 0, none⟩)] w (DrawnPlan B w g) := by
  have hg := hcur.lt
  have hBg := hcur.1
  (have hall := all_nil w; go_enter Try.func59, Try.ntmps59)
  go_wp2_with fail
  refine (s_l01Below B g 4 _ (hcur.below ((Below.refl _ _).alloc (Nat.le_refl _) (.cells #[.int .i64 0, .int .i64 0, .slice none 0 0] 37)))).mono ?_; rintro e w2 ⟨x, hx, rfl, hcur2, hgr2⟩
  have hx0 := hx.1; have hx1 := hx.2.1 (by omega)
  have hz2 := hgr2.size
  simp only [World.size_alloc] at hz2
  have b2 : BoxAt w2 w.heap.size [.int .i64 0, .int .i64 0, .slice none 0 0] := by
    have b0 : BoxAt (w.alloc (.cells #[.int .i64 0, .int .i64 0, .slice none 0 0] 37)) w.heap.size [.int .i64 0, .int .i64 0, .slice none 0 0] := BoxAt.snoc (BoxAt.snoc (BoxAt.snoc (BoxAt.nil (by go_simp)) rfl (by go_simp) (by go_simp)) rfl (by go_simp) (by go_simp)) rfl (by go_simp) (by go_simp)
    exact b0.touch (S := [g]) (grown_touch hgr2 fun b hb => by cases hb; simp) (by simp; omega)
  have up2 : Below w2.heap.size w2 (w2.alloc (.cells #[.int .i64 x, .int .i64 0, .slice none 0 0] 37)) := (Below.refl _ _).alloc (Nat.le_refl _) _
  have HR := Lib.hid (b2.below up2); have HC := Lib.hid (hcur2.below up2)
  have HG := Lib.hid (grown_belowW (grown_trans (World.grownBy_alloc w (.cells #[.int .i64 0, .int .i64 0, .slice none 0 0] 37) (some g)) hgr2) (up2.mono (by omega)))
  have HBP : Hid (BoxAt (w2.alloc (.cells #[.int .i64 x, .int .i64 0, .slice none 0 0] 37)) w2.heap.size [.int .i64 x, .int .i64 0, .slice none 0 0]) := Lib.hid (BoxAt.snoc (BoxAt.snoc (BoxAt.snoc (BoxAt.nil (by go_simp)) rfl (by go_simp) (by go_simp)) rfl (by go_simp) (by go_simp)) rfl (by go_simp) (by go_simp))
  clear hcur hgr2 hcur2 b2 up2 hx
  obtain ⟨kp, rfl⟩ := Int.eq_ofNat_of_zero_le hx0
  have hk4 : kp < 4 := by omega
  go_upto_region 2 with fail
  obtain ⟨w1, hw1⟩ : ∃ q, q = (w2.alloc (.cells #[.int .i64 (kp : Int), .int .i64 0, .slice none 0 0] 37)) := ⟨_, rfl⟩
  rw [← hw1] at HR HC HG HBP ⊢
  clear hw1
  obtain ⟨gp, hgp⟩ : ∃ q, q = w2.heap.size := ⟨_, rfl⟩
  rw [← hgp] at HBP hz2 ⊢
  clear hgp
  have HNG : Hid (gp ∉ [g]) := Lib.hid (fun hm => by have := List.mem_singleton.1 hm; omega)
  have HBG : Hid (B ≤ gp) := Lib.hid (by omega)
  have HGN : Hid (g ≠ gp) := Lib.hid (by omega)
  refine wp_gen (fun a0 ha0 => ?_)
  have hsz : a0.tmps.size = 29 := by rw [ha0]; rfl
  have X0 : ∀ u, (frAll a0 [8, 9, 10, 11, 12, 13, 14, 15] u).tmps.getD 0 undef = .pointer (some ⟨g, 0, none⟩) := fun u => (frAll_other (by decide)).trans (by rw [ha0]; rfl)
  have X3 : ∀ u, (frAll a0 [8, 9, 10, 11, 12, 13, 14, 15] u).tmps.getD 3 undef = .pointer (some ⟨gp, 0, none⟩) := fun u => (frAll_other (by decide)).trans (by rw [ha0]; rfl)
  have E8 : ∀ u, (frAll a0 [8, 9, 10, 11, 12, 13, 14, 15] u).tmps.getD 8 undef = u 8 := fun u => frAll_eval (by decide) (by rw [hsz]; decide)
  have P8 : ∀ u v, (frAll a0 [8, 9, 10, 11, 12, 13, 14, 15] u).put (some 8) v = frAll a0 [8, 9, 10, 11, 12, 13, 14, 15] (frUpd u 8 v) := fun u v => frAll_put v (by decide)
  have E9 : ∀ u, (frAll a0 [8, 9, 10, 11, 12, 13, 14, 15] u).tmps.getD 9 undef = u 9 := fun u => frAll_eval (by decide) (by rw [hsz]; decide)
  have P9 : ∀ u v, (frAll a0 [8, 9, 10, 11, 12, 13, 14, 15] u).put (some 9) v = frAll a0 [8, 9, 10, 11, 12, 13, 14, 15] (frUpd u 9 v) := fun u v => frAll_put v (by decide)
  have E10 : ∀ u, (frAll a0 [8, 9, 10, 11, 12, 13, 14, 15] u).tmps.getD 10 undef = u 10 := fun u => frAll_eval (by decide) (by rw [hsz]; decide)
  have P10 : ∀ u v, (frAll a0 [8, 9, 10, 11, 12, 13, 14, 15] u).put (some 10) v = frAll a0 [8, 9, 10, 11, 12, 13, 14, 15] (frUpd u 10 v) := fun u v => frAll_put v (by decide)
  have E11 : ∀ u, (frAll a0 [8, 9, 10, 11, 12, 13, 14, 15] u).tmps.getD 11 undef = u 11 := fun u => frAll_eval (by decide) (by rw [hsz]; decide)
  have P11 : ∀ u v, (frAll a0 [8, 9, 10, 11, 12, 13, 14, 15] u).put (some 11) v = frAll a0 [8, 9, 10, 11, 12, 13, 14, 15] (frUpd u 11 v) := fun u v => frAll_put v (by decide)
  have E12 : ∀ u, (frAll a0 [8, 9, 10, 11, 12, 13, 14, 15] u).tmps.getD 12 undef = u 12 := fun u => frAll_eval (by decide) (by rw [hsz]; decide)
  have P12 : ∀ u v, (frAll a0 [8, 9, 10, 11, 12, 13, 14, 15] u).put (some 12) v = frAll a0 [8, 9, 10, 11, 12, 13, 14, 15] (frUpd u 12 v) := fun u v => frAll_put v (by decide)
  have E13 : ∀ u, (frAll a0 [8, 9, 10, 11, 12, 13, 14, 15] u).tmps.getD 13 undef = u 13 := fun u => frAll_eval (by decide) (by rw [hsz]; decide)
  have P13 : ∀ u v, (frAll a0 [8, 9, 10, 11, 12, 13, 14, 15] u).put (some 13) v = frAll a0 [8, 9, 10, 11, 12, 13, 14, 15] (frUpd u 13 v) := fun u v => frAll_put v (by decide)
  have E14 : ∀ u, (frAll a0 [8, 9, 10, 11, 12, 13, 14, 15] u).tmps.getD 14 undef = u 14 := fun u => frAll_eval (by decide) (by rw [hsz]; decide)
  have P14 : ∀ u v, (frAll a0 [8, 9, 10, 11, 12, 13, 14, 15] u).put (some 14) v = frAll a0 [8, 9, 10, 11, 12, 13, 14, 15] (frUpd u 14 v) := fun u v => frAll_put v (by decide)
  have E15 : ∀ u, (frAll a0 [8, 9, 10, 11, 12, 13, 14, 15] u).tmps.getD 15 undef = u 15 := fun u => frAll_eval (by decide) (by rw [hsz]; decide)
  have P15 : ∀ u v, (frAll a0 [8, 9, 10, 11, 12, 13, 14, 15] u).put (some 15) v = frAll a0 [8, 9, 10, 11, 12, 13, 14, 15] (frUpd u 15 v) := fun u v => frAll_put v (by decide)
  replace ha0 := Lib.hid ha0
  refine wp_region_frame [8, 9, 10, 11, 12, 13, 14, 15] (fun D u wv => ∃ x : Int, Hid (D 0 → u 8 = .pointer (some ⟨gp, 0, none⟩)) ∧ Hid (D 1 → u 9 = .int .i64 (kp : Int)) ∧ Hid (D 2 → u 10 = .int .i64 ((kp : Int) + 1)) ∧ Hid (D 3 → u 11 = .pointer (some ⟨g, 0, none⟩)) ∧ Hid (D 4 → u 12 = .int .i64 x) ∧ Hid (D 5 → u 13 = .int .i64 ((kp : Int) + 1 + x)) ∧ Hid (D 6 → u 14 = .int .i64 (((kp : Int) + 1 + x) % 4)) ∧ Hid (D 7 → u 15 = .pointer (some ⟨gp, 1, none⟩)) ∧ Hid (¬ D 8 → Touch [g] w1 wv) ∧ Hid (Touch [g, gp] w1 wv) ∧ Hid (Cur B wv g) ∧ Hid (D 4 → 0 ≤ x ∧ x < 3) ∧ Hid (D 8 → BoxAt wv gp [.int .i64 (kp : Int), .int .i64 (((kp : Int) + 1 + x) % 4), .slice none 0 0])) (by kernel_rfl) (by kernel_rfl) ?_ ?_ ?_
  · exact ⟨default, Lib.hid (fun h => h.elim), Lib.hid (fun h => h.elim), Lib.hid (fun h => h.elim), Lib.hid (fun h => h.elim), Lib.hid (fun h => h.elim), Lib.hid (fun h => h.elim), Lib.hid (fun h => h.elim), Lib.hid (fun h => h.elim), Lib.hid (fun _ => touch_of_below (Below.drew (Below.refl _ _)) _), Lib.hid (touch_of_below (Below.drew (Below.refl _ _)) _), Lib.hid (HC.out.below (Below.drew (Below.refl _ _))), Lib.hid (fun h => h.elim), Lib.hid (fun h => h.elim)⟩
  · rintro D u wv ⟨x, U0, U1, U2, U3, U4, U5, U6, U7, F1, F2, F3, F5, F6⟩ hcl i hi hn hw
    have hi9 : i < 9 := hi; clear hi
    replace hcl := Lib.hid hcl; replace hw := Lib.hid hw
    rcases (by omega : i = 0 ∨ i = 1 ∨ i = 2 ∨ i = 3 ∨ i = 4 ∨ i = 5 ∨ i = 6 ∨ i = 7 ∨ i = 8) with rfl | rfl | rfl | rfl | rfl | rfl | rfl | rfl | rfl
    · skip
      refine wpOp_step (o := _) rfl (fun KK hKK => ?_)
      rw [if_pos (wanted_nil _ rfl)]
      have E3_ := X3 u
      go_simp
      exact hKK _ _ ⟨_, P8 u _, x, Lib.hid (fun _ => frUpd_self), (_root_.Go.Proofs.Ytkkebpcclklmcaa.u10 U1), (_root_.Go.Proofs.Ytkkebpcclklmcaa.u10 U2), (_root_.Go.Proofs.Ytkkebpcclklmcaa.u10 U3), (_root_.Go.Proofs.Ytkkebpcclklmcaa.u10 U4), (_root_.Go.Proofs.Ytkkebpcclklmcaa.u10 U5), (_root_.Go.Proofs.Ytkkebpcclklmcaa.u10 U6), (_root_.Go.Proofs.Ytkkebpcclklmcaa.u10 U7), Lib.hid (fun m => F1.out (fun h => m (addD_mem h))), F2, F3, (_root_.Go.Proofs.Ytkkebpcclklmcaa.k10 F5), (_root_.Go.Proofs.Ytkkebpcclklmcaa.k10 F6)⟩
    · skip
      refine wpOp_step (o := _) rfl (fun KK hKK => ?_)
      rw [if_pos (wanted_nil _ rfl)]
      have hz : ¬ D 8 := fun h => hn (hcl.out 2 1 (by kernel_rfl) (hcl.out 5 2 (by kernel_rfl) (hcl.out 6 5 (by kernel_rfl) (hcl.out 8 6 (by kernel_rfl) h))))
      have bx := HBP.out.touch (F1.out hz) HNG.out
      have c0 := (bx.cells 0 _ rfl).1; have c1 := (bx.cells 1 _ rfl).1; have f1 := (bx.cells 1 _ rfl).2; have c2 := (bx.cells 2 _ rfl).1; have xg := bx.lt
      have e8 := U0.out (hw.out 0 (by kernel_rfl)); have E8_ := (E8 u).trans e8
      go_simp
      exact hKK _ _ ⟨_, P9 u _, x, (_root_.Go.Proofs.Ytkkebpcclklmcaa.u10 U0), Lib.hid (fun _ => frUpd_self), (_root_.Go.Proofs.Ytkkebpcclklmcaa.u10 U2), (_root_.Go.Proofs.Ytkkebpcclklmcaa.u10 U3), (_root_.Go.Proofs.Ytkkebpcclklmcaa.u10 U4), (_root_.Go.Proofs.Ytkkebpcclklmcaa.u10 U5), (_root_.Go.Proofs.Ytkkebpcclklmcaa.u10 U6), (_root_.Go.Proofs.Ytkkebpcclklmcaa.u10 U7), Lib.hid (fun m => F1.out (fun h => m (addD_mem h))), F2, F3, (_root_.Go.Proofs.Ytkkebpcclklmcaa.k10 F5), (_root_.Go.Proofs.Ytkkebpcclklmcaa.k10 F6)⟩
    · skip
      refine wpOp_step (o := _) rfl (fun KK hKK => ?_)
      rw [if_pos (wanted_nil _ rfl)]
      have e9 := U1.out (hw.out 1 (by kernel_rfl)); have E9_ := (E9 u).trans e9
      have m1 : wrap64 ((kp : Int) + 1) = (kp : Int) + 1 := IntWalk.wrap64_in _ (by omega); have m2 : IntKind.i64.wrap ((kp : Int) + 1) = (kp : Int) + 1 := IntWalk.i64_in _ (by omega)
      go_simp
      exact hKK _ _ ⟨_, P10 u _, x, (_root_.Go.Proofs.Ytkkebpcclklmcaa.u10 U0), (_root_.Go.Proofs.Ytkkebpcclklmcaa.u10 U1), Lib.hid (fun _ => frUpd_self), (_root_.Go.Proofs.Ytkkebpcclklmcaa.u10 U3), (_root_.Go.Proofs.Ytkkebpcclklmcaa.u10 U4), (_root_.Go.Proofs.Ytkkebpcclklmcaa.u10 U5), (_root_.Go.Proofs.Ytkkebpcclklmcaa.u10 U6), (_root_.Go.Proofs.Ytkkebpcclklmcaa.u10 U7), Lib.hid (fun m => F1.out (fun h => m (addD_mem h))), F2, F3, (_root_.Go.Proofs.Ytkkebpcclklmcaa.k10 F5), (_root_.Go.Proofs.Ytkkebpcclklmcaa.k10 F6)⟩
    · skip
      refine wpOp_step (o := _) rfl (fun KK hKK => ?_)
      rw [if_pos (wanted_nil _ rfl)]
      have E0_ := X0 u
      go_simp
      exact hKK _ _ ⟨_, P11 u _, x, (_root_.Go.Proofs.Ytkkebpcclklmcaa.u10 U0), (_root_.Go.Proofs.Ytkkebpcclklmcaa.u10 U1), (_root_.Go.Proofs.Ytkkebpcclklmcaa.u10 U2), Lib.hid (fun _ => frUpd_self), (_root_.Go.Proofs.Ytkkebpcclklmcaa.u10 U4), (_root_.Go.Proofs.Ytkkebpcclklmcaa.u10 U5), (_root_.Go.Proofs.Ytkkebpcclklmcaa.u10 U6), (_root_.Go.Proofs.Ytkkebpcclklmcaa.u10 U7), Lib.hid (fun m => F1.out (fun h => m (addD_mem h))), F2, F3, (_root_.Go.Proofs.Ytkkebpcclklmcaa.k10 F5), (_root_.Go.Proofs.Ytkkebpcclklmcaa.k10 F6)⟩
    · skip
      refine wpOp_step (o := _) rfl (fun KK hKK => ?_)
      rw [if_pos (wanted_nil _ rfl)]
      have e11 := U3.out (hw.out 3 (by kernel_rfl)); have E11_ := (E11 u).trans e11
      go_simp
      refine (s_l01Below B g _ _ F3.out).mono ?_; rintro e w2 ⟨x2, hx2, rfl, hcur2, hgr2⟩
      have hx3 := hx2.1; have hx4 := hx2.2.1 (by omega); try dsimp only
      exact hKK _ _ ⟨_, P12 u _, x2, (_root_.Go.Proofs.Ytkkebpcclklmcaa.u10 U0), (_root_.Go.Proofs.Ytkkebpcclklmcaa.u10 U1), (_root_.Go.Proofs.Ytkkebpcclklmcaa.u10 U2), (_root_.Go.Proofs.Ytkkebpcclklmcaa.u10 U3), Lib.hid (fun _ => frUpd_self), Lib.hid (fun h => absurd (hcl.out 5 4 (by kernel_rfl) (addD_of h (by decide))) hn), Lib.hid (fun h => absurd (hcl.out 5 4 (by kernel_rfl) (hcl.out 6 5 (by kernel_rfl) (addD_of h (by decide)))) hn), (_root_.Go.Proofs.Ytkkebpcclklmcaa.u10 U7), Lib.hid (fun m => (F1.out (fun h => m (addD_mem h))).trans (grown_touch hgr2 (fun b hb => by cases hb; simp))), Lib.hid (F2.out.trans (grown_touch hgr2 (fun b hb => by cases hb; simp))), Lib.hid hcur2, Lib.hid (fun _ => ⟨hx3, by omega⟩), Lib.hid (fun h => absurd (hcl.out 5 4 (by kernel_rfl) (hcl.out 6 5 (by kernel_rfl) (hcl.out 8 6 (by kernel_rfl) (addD_of h (by decide))))) hn)⟩
    · skip
      refine wpOp_step (o := _) rfl (fun KK hKK => ?_)
      rw [if_pos (wanted_nil _ rfl)]
      have e10 := U2.out (hw.out 2 (by kernel_rfl)); have E10_ := (E10 u).trans e10
      have e12 := U4.out (hw.out 4 (by kernel_rfl)); have E12_ := (E12 u).trans e12
      have hx5 := F5.out (hw.out 4 (by kernel_rfl)); have m1 : wrap64 ((kp : Int) + 1 + x) = (kp : Int) + 1 + x := IntWalk.wrap64_in _ (by omega); have m2 : IntKind.i64.wrap ((kp : Int) + 1 + x) = (kp : Int) + 1 + x := IntWalk.i64_in _ (by omega)
      go_simp
      exact hKK _ _ ⟨_, P13 u _, x, (_root_.Go.Proofs.Ytkkebpcclklmcaa.u10 U0), (_root_.Go.Proofs.Ytkkebpcclklmcaa.u10 U1), (_root_.Go.Proofs.Ytkkebpcclklmcaa.u10 U2), (_root_.Go.Proofs.Ytkkebpcclklmcaa.u10 U3), (_root_.Go.Proofs.Ytkkebpcclklmcaa.u10 U4), Lib.hid (fun _ => frUpd_self), (_root_.Go.Proofs.Ytkkebpcclklmcaa.u10 U6), (_root_.Go.Proofs.Ytkkebpcclklmcaa.u10 U7), Lib.hid (fun m => F1.out (fun h => m (addD_mem h))), F2, F3, (_root_.Go.Proofs.Ytkkebpcclklmcaa.k10 F5), (_root_.Go.Proofs.Ytkkebpcclklmcaa.k10 F6)⟩
    · skip
      refine wpOp_step (o := _) rfl (fun KK hKK => ?_)
      rw [if_pos (wanted_nil _ rfl)]
      have e13 := U5.out (hw.out 5 (by kernel_rfl)); have E13_ := (E13 u).trans e13
      have hx5 := F5.out (hcl.out 5 4 (by kernel_rfl) (hw.out 5 (by kernel_rfl))); have m1 : ((kp : Int) + 1 + x).tmod 4 = ((kp : Int) + 1 + x) % 4 := Int.tmod_eq_emod_of_nonneg (by omega); have m2 : wrap64 (((kp : Int) + 1 + x) % 4) = ((kp : Int) + 1 + x) % 4 := IntWalk.wrap64_in _ (by omega); have m3 : IntKind.i64.wrap (((kp : Int) + 1 + x) % 4) = ((kp : Int) + 1 + x) % 4 := IntWalk.i64_in _ (by omega)
      go_simp
      exact hKK _ _ ⟨_, P14 u _, x, (_root_.Go.Proofs.Ytkkebpcclklmcaa.u10 U0), (_root_.Go.Proofs.Ytkkebpcclklmcaa.u10 U1), (_root_.Go.Proofs.Ytkkebpcclklmcaa.u10 U2), (_root_.Go.Proofs.Ytkkebpcclklmcaa.u10 U3), (_root_.Go.Proofs.Ytkkebpcclklmcaa.u10 U4), (_root_.Go.Proofs.Ytkkebpcclklmcaa.u10 U5), Lib.hid (fun _ => frUpd_self), (_root_.Go.Proofs.Ytkkebpcclklmcaa.u10 U7), Lib.hid (fun m => F1.out (fun h => m (addD_mem h))), F2, F3, (_root_.Go.Proofs.Ytkkebpcclklmcaa.k10 F5), (_root_.Go.Proofs.Ytkkebpcclklmcaa.k10 F6)⟩
    · skip
      refine wpOp_step (o := _) rfl (fun KK hKK => ?_)
      rw [if_pos (wanted_nil _ rfl)]
      have E3_ := X3 u
      go_simp
      exact hKK _ _ ⟨_, P15 u _, x, (_root_.Go.Proofs.Ytkkebpcclklmcaa.u10 U0), (_root_.Go.Proofs.Ytkkebpcclklmcaa.u10 U1), (_root_.Go.Proofs.Ytkkebpcclklmcaa.u10 U2), (_root_.Go.Proofs.Ytkkebpcclklmcaa.u10 U3), (_root_.Go.Proofs.Ytkkebpcclklmcaa.u10 U4), (_root_.Go.Proofs.Ytkkebpcclklmcaa.u10 U5), (_root_.Go.Proofs.Ytkkebpcclklmcaa.u10 U6), Lib.hid (fun _ => frUpd_self), Lib.hid (fun m => F1.out (fun h => m (addD_mem h))), F2, F3, (_root_.Go.Proofs.Ytkkebpcclklmcaa.k10 F5), (_root_.Go.Proofs.Ytkkebpcclklmcaa.k10 F6)⟩
    · skip
      refine wpOp_step (o := _) rfl (fun KK hKK => ?_)
      rw [if_pos (wanted_nil _ rfl)]
      have hz : ¬ D 8 := fun h => hn h
      have bx := HBP.out.touch (F1.out hz) HNG.out
      have c0 := (bx.cells 0 _ rfl).1; have c1 := (bx.cells 1 _ rfl).1; have f1 := (bx.cells 1 _ rfl).2; have c2 := (bx.cells 2 _ rfl).1; have xg := bx.lt
      have f0 := (bx.cells 0 _ rfl).2; have f2 := (bx.cells 2 _ rfl).2
      have e15 := U7.out (hw.out 7 (by kernel_rfl)); have E15_ := (E15 u).trans e15
      have e14 := U6.out (hw.out 6 (by kernel_rfl)); have E14_ := (E14 u).trans e14
      go_simp
      exact hKK _ _ ⟨u, rfl, x, (_root_.Go.Proofs.Ytkkebpcclklmcaa.k10 U0), (_root_.Go.Proofs.Ytkkebpcclklmcaa.k10 U1), (_root_.Go.Proofs.Ytkkebpcclklmcaa.k10 U2), (_root_.Go.Proofs.Ytkkebpcclklmcaa.k10 U3), (_root_.Go.Proofs.Ytkkebpcclklmcaa.k10 U4), (_root_.Go.Proofs.Ytkkebpcclklmcaa.k10 U5), (_root_.Go.Proofs.Ytkkebpcclklmcaa.k10 U6), (_root_.Go.Proofs.Ytkkebpcclklmcaa.k10 U7), Lib.hid (fun m => absurd (addD_self 8) m), Lib.hid (touch_setC F2.out (by simp)), Lib.hid (Cur.setN F3.out HBG.out HGN.out _ _), (_root_.Go.Proofs.Ytkkebpcclklmcaa.k10 F5), Lib.hid (fun _ => BoxAt.snoc (BoxAt.snoc (BoxAt.snoc (BoxAt.nil (by simp only [World.size_setCell]; exact xg)) rfl (by go_simp) (by go_simp)) rfl (by go_simp) (by go_simp)) rfl (by go_simp) (by go_simp))⟩
  · rintro D u wv ⟨x, U0, U1, U2, U3, U4, U5, U6, U7, F1, F2, F3, F5, F6⟩ hall9
    have hxr := F5.out (hall9 4 (by show 4 < 9; decide))
    have HBN := Lib.hid (F6.out (hall9 8 (by show 8 < 9; decide)))
    have ha1 := ha0.out; subst ha1
    clear hall9 ha0 hsz U0 U1 U2 U3 U4 U5 U6 U7 E8 P8 E9 P9 E10 P10 E11 P11 E12 P12 E13 P13 E14 P14 E15 P15 X0 X3 F1 F5 F6
    obtain ⟨wn, rfl⟩ : ∃ q, q = wv := ⟨_, rfl⟩
    simp only [frAll, frTo, List.setIfInBounds_toArray, List.set_cons_succ, List.set_cons_zero]
    have hxa := hxr.1; have hxb := hxr.2
    obtain ⟨mv, hmv, hm4, hne⟩ : ∃ mv : Nat, ((kp : Int) + 1 + x) % 4 = (mv : Int) ∧ mv < 4 ∧ kp ≠ mv := ⟨(((kp : Int) + 1 + x) % 4).toNat, by omega, by omega, by omega⟩
    rw [hmv] at HBN
    have HR2 := Lib.hid (HR.out.touch F2.out (by simp; omega))
    have HG2 := Lib.hid (grown_touchN HG.out F2.out (by intro b hb; simp only [List.mem_cons, List.not_mem_nil, or_false] at hb; omega))
    have HC2 := Lib.hid F3.out
    have hmvH := Lib.hid hmv
    clear hmv F2 F3 HR HG HC HBP hxr
    go_wp2_with fail
    go_loopw [4] (fun i wr => ∃ (k : Nat) (vo : Option Addr) (vc : Nat) (cs : List Int), k ≤ 16 ∧ i = .int .i64 (k : Nat) ∧ CsOk cs ∧ (∀ c ∈ cs, c < (k : Int)) ∧ cs.length ≤ k ∧ OwnI (gp + 1) wr (.slice vo cs.length vc) cs ∧ BoxAt wr gp [.int .i64 (kp : Int), .int .i64 (mv : Int), .slice vo cs.length vc] ∧ BoxAt wr w.heap.size [.int .i64 0, .int .i64 0, .slice none 0 0] ∧ Cur B wr g ∧ w.grownBy wr (some g)) (fun i _ => 16 - (intOf i).toNat)
    case atStart => exact ⟨0, none, 0, [], Nat.zero_le _, rfl, ⟨(by simp), List.Pairwise.nil⟩, (by simp), Nat.le_refl _, Own.nil _ _ _ _ _, HBN.out, HR2.out, HC2.out, HG2.out⟩
    case round =>
      clear HBN HR2 HC2 HG2
      obtain ⟨k, vo, vc, cs, hk, rfl, hcs, hclt, hcl, hown, hbp, hbr, hcr, hgr⟩ := hrel
      have HCS := Lib.hid hcs; have HLT := Lib.hid hclt; have HO := Lib.hid hown; have HP := Lib.hid hbp; have HR := Lib.hid hbr; have HC := Lib.hid hcr; have HG := Lib.hid hgr
      clear hcs hclt hown hbp hbr hcr hgr
      obtain ⟨w1, rfl⟩ : ∃ q, q = wr := ⟨_, rfl⟩
      by_cases hlt : k < 16
      · have hlt' : (k : Int) < 16 := by omega
        go_wp2_with fail
        refine (s_l01Once B g 4 _ HC.out).mono ?_; rintro e w3 ⟨r, rfl, hcur3, hgr3⟩
        have t3 : Touch [g] w1 w3 := grown_touch hgr3 fun b hb => by cases hb; simp
        have HO3 := Lib.hid (Own.touch HO.out t3 (fun b hb hm => by have h1 := (HO.out.lt b hb).1; have := List.mem_singleton.1 hm; omega))
        have HP3 := Lib.hid (HP.out.touch t3 (by simp; omega)); have HR3 := Lib.hid (HR.out.touch t3 (by simp; omega)); have HC3 := Lib.hid hcur3
        have HG3 := Lib.hid (grown_trans HG.out hgr3)
        clear t3 hcur3 hgr3 HO HP HR HC HG
        cases r
        · go_wp2_with fail
          go_roundw
          case rel => exact ⟨k + 1, vo, vc, cs, by omega, by go_num, HCS.out, fun c hc => by have := HLT.out c hc; omega, by omega, HO3.out, HP3.out, HR3.out, HC3.out, HG3.out⟩
          case measure => simp [intOf]; omega
        · have p2 := (HP3.out.cells 2 _ rfl).1; have xp := HP3.out.lt
          go_wp2_with (at_builtin; refine wpList_append1 elemInt rfl _ _ rfl lenInt rfl (Own.alloc HO3.out _) (by simp only [World.size_alloc]; omega) rfl (k : Int) (oneInt _) (intCell _ _) (by unfold maxLen; omega) ?_; intro v4 w4 hown4 hgr4 hat4 hb4; obtain ⟨vo4, vc4, rfl, -, -⟩ := Own.shape hown4; have tb : Touch (blocks [(.slice vo cs.length vc : Value)]) _ w4 := grown_touch hgr4 (fun b hb => mem_one hb); have hnp : gp ∉ blocks [(.slice vo cs.length vc : Value)] := (fun hm => by have := (Own.lts HO3.out gp hm).1; omega); have upA : Below w3.heap.size w3 (w3.alloc (.cells #[.int .i64 (k : Int)] 3)) := (Below.refl _ _).alloc (Nat.le_refl _) _; have bp := (HP3.out.below upA).touch tb hnp; have H4 := Lib.hid hown4; have HB4 := Lib.hid hb4; have HBP4 := Lib.hid bp; have HTB := Lib.hid tb; have e0 := (bp.cells 0 _ rfl).1; have e1 := (bp.cells 1 _ rfl).1; have e2 := (bp.cells 2 _ rfl).1; have f0 := (bp.cells 0 _ rfl).2; have f1 := (bp.cells 1 _ rfl).2; have f2 := (bp.cells 2 _ rfl).2; have xe := bp.lt; clear hown4 hgr4 hat4 hb4 tb bp p2 xp)
          have htA := (touch_of_below upA (blocks [(.slice vo cs.length vc : Value)])).trans HTB.out
          have hvb : ∀ b ∈ blocks [(.slice vo cs.length vc : Value)], gp + 1 ≤ b := fun b hb => (Own.lts HO3.out b hb).1
          have hr4 := HR3.out.touch htA (fun hm => by have := hvb _ hm; omega)
          have hc4 : Cur B w4 g := HC3.out.stays htA.size (fun q hq => htA.block q (by have := HC3.out.lt; have := HC3.out.1; omega) (fun hm => by have := hvb q hm; omega))
          have hg4 := grown_touchN HG3.out htA (fun b hb => .inr (by have := hvb b hb; omega))
          have htP : Touch [gp] w4 (w4.setCell ⟨gp, 2, none⟩ (.slice vo4 (cs ++ [(k : Int)]).length vc4)) := touch_bx (Touch.refl _ _)
          have hr5 := hr4.touch htP (by simp; omega)
          have hc5 := Cur.setN hc4 HBG.out HGN.out 2 (.slice vo4 (cs ++ [(k : Int)]).length vc4)
          have hg5 := grown_setN hg4 (b := gp) (by omega) 2 (.slice vo4 (cs ++ [(k : Int)]).length vc4)
          have ho5 := Own.offb H4.out (b := gp) (o := 2) (by omega) (.slice vo4 (cs ++ [(k : Int)]).length vc4)
          have bp5 : BoxAt (w4.setCell ⟨gp, 2, none⟩ (.slice vo4 (cs ++ [(k : Int)]).length vc4)) gp [.int .i64 (kp : Int), .int .i64 (mv : Int), .slice vo4 (cs ++ [(k : Int)]).length vc4] := BoxAt.snoc (BoxAt.snoc (BoxAt.snoc (BoxAt.nil (by simp only [World.size_setCell]; exact xe)) rfl (by go_simp) (by go_simp)) rfl (by go_simp) (by go_simp)) rfl (by go_simp) (by go_simp)
          have hcs2 := csok_snoc HCS.out HLT.out hlt
          have HLT2 : ∀ c ∈ cs ++ [(k : Int)], c < ((k + 1 : Nat) : Int) := fun c hc => by
            rcases List.mem_append.1 hc with hc | hc
            · have := HLT.out c hc; omega
            · rw [List.mem_singleton.1 hc]; omega
          go_roundw
          case rel => exact ⟨k + 1, vo4, vc4, cs ++ [(k : Int)], by omega, by go_num, hcs2, HLT2, by rw [List.length_append]; simp; omega, (by simpa only [List.length_append, List.length_singleton] using ho5), (by simpa only [List.length_append, List.length_singleton] using bp5), (by simpa only [List.length_append, List.length_singleton] using hr5), (by simpa only [List.length_append, List.length_singleton] using hc5), (by simpa only [List.length_append, List.length_singleton] using hg5)⟩
          case measure => simp [intOf]; omega
      · obtain rfl : k = 16 := by omega
        have p0 := (HP.out.cells 0 _ rfl).1; have p1 := (HP.out.cells 1 _ rfl).1; have p2 := (HP.out.cells 2 _ rfl).1; have xp := HP.out.lt
        have r0 := (HR.out.cells 0 _ rfl).1; have r1 := (HR.out.cells 1 _ rfl).1; have r2 := (HR.out.cells 2 _ rfl).1; have s0 := (HR.out.cells 0 _ rfl).2; have s1 := (HR.out.cells 1 _ rfl).2; have s2 := (HR.out.cells 2 _ rfl).2; have xr := HR.out.lt
        go_wp2_with fail
        refine bodyPost_ret (v := .agg #[.int .i64 (kp : Int), .int .i64 (mv : Int), .slice vo cs.length vc]) (by simp [results, Try.results59, go_sem, *]) rfl ?_
        refine ⟨kp, mv, _, cs, rfl, hk4, hm4, HCS.out, planOk_of HCS.out hk4 hm4 hne, hcl, (Own.offb (Own.offb (Own.offb HO.out (by omega) _) (by omega) _) (by omega) _).mono (by omega), Cur.setN (Cur.setN (Cur.setN HC.out (by omega) (by omega) _ _) (by omega) (by omega) _ _) (by omega) (by omega) _ _, grown_setN (grown_setN (grown_setN HG.out (Nat.le_refl _) _ _) (Nat.le_refl _) _ _) (Nat.le_refl _) _ _⟩

end Go.Proofs.Ytkkebpcclklmcaa
