/- 'laws.FnExactJobOk' returns true, whatever the arguments: no condition. -/
import Derived.Test.YteebofhflbjimaaJob
import Derived.Test.YteebofhflbjimaaFrame
import Derived.Test.YteebofhflbjimaaOpenJ
set_option linter.unusedVariables false
set_option linter.unusedSimpArgs false
namespace Go.Proofs.Yteebofhflbjimaa
open Go.ChangeShapes Go.WideShapes Go.ChangeAt Go.RowKit
set_option maxRecDepth 100000 in
set_option maxHeartbeats 3200000 in
theorem w_FnExactJobOk (kp mv : Int) (c : Value) (cs : List Int) (ph nx : Int) (w : World) (ha : IntsAt w c cs) : Calls Try.prog 5 #[.agg #[.int .i64 kp, .int .i64 mv, c, .int .i64 ph, .int .i64 nx]] w fun e w' => e = .returned (.bool true) ∧ Below w.heap.size w w' := by
  have HA := Lib.hid ha
  have HT := Lib.hid (Below.refl w.heap.size w)
  clear ha
  by_cases hs : cs.length ≤ 1048576
  · (have hall := all_nil w; go_enter Try.func5, Try.ntmps5)
    go_wp2_with fail
    refine (l_szJob kp mv c cs ph nx _ (by omega) _ (HA.out.below (by (have hT := HT.out; exact bel)))).mono ?_; rintro e w2 ⟨rfl, hb⟩
    have hT := HT.out; replace HT := Lib.hid (show Below w.heap.size w w2 from by exact bel); clear hT
    rw [szRes_pos (by omega)]
    have kwA_0_0 : w2.cell? ⟨w.heap.size, 0, none⟩ = some (.int .i64 kp) := (hb.cell (p := ⟨w.heap.size, 0, none⟩) (by exact zt)).trans (by go_simp); have kwA_0_1 : w2.cell? ⟨w.heap.size, 1, none⟩ = some (.int .i64 mv) := (hb.cell (p := ⟨w.heap.size, 1, none⟩) (by exact zt)).trans (by go_simp); have kwA_0_2 : w2.cell? ⟨w.heap.size, 2, none⟩ = some (c) := (hb.cell (p := ⟨w.heap.size, 2, none⟩) (by exact zt)).trans (by go_simp); have kwA_0_3 : w2.cell? ⟨w.heap.size, 3, none⟩ = some (.int .i64 ph) := (hb.cell (p := ⟨w.heap.size, 3, none⟩) (by exact zt)).trans (by go_simp); have kwA_0_4 : w2.cell? ⟨w.heap.size, 4, none⟩ = some (.int .i64 nx) := (hb.cell (p := ⟨w.heap.size, 4, none⟩) (by exact zt)).trans (by go_simp); have xwA_0 : w.heap.size < w2.heap.size := (by have hz := hb.size; (try simp only [World.size_alloc, World.size_setCell, World.size_drew] at hz); omega); have hzwA := hb.size; (try simp only [World.size_alloc, World.size_setCell, World.size_drew] at hzwA); clear hb; obtain ⟨wA, rfl⟩ : ∃ x, x = w2 := ⟨_, rfl⟩
    go_wp2_with fail
    refine (l_toJob kp mv c cs ph nx hs _ (HA.out.below (by (have hT := HT.out; exact bel)))).mono ?_; rintro e w2 ⟨y1, rfl, hO1, hb⟩
    have hT := HT.out; replace HT := Lib.hid (show Below w.heap.size w w2 from by exact bel); clear hT
    obtain ⟨o1, c1, rfl, -, -⟩ := hO1.shape; have O1 := Lib.hid hO1; clear hO1
    have kwB_0_0 : w2.cell? ⟨w.heap.size, 0, none⟩ = some (.int .i64 kp) := (hb.cell (p := ⟨w.heap.size, 0, none⟩) (by exact zt)).trans (by go_simp); have kwB_0_1 : w2.cell? ⟨w.heap.size, 1, none⟩ = some (.int .i64 mv) := (hb.cell (p := ⟨w.heap.size, 1, none⟩) (by exact zt)).trans (by go_simp); have kwB_0_2 : w2.cell? ⟨w.heap.size, 2, none⟩ = some (c) := (hb.cell (p := ⟨w.heap.size, 2, none⟩) (by exact zt)).trans (by go_simp); have kwB_0_3 : w2.cell? ⟨w.heap.size, 3, none⟩ = some (.int .i64 ph) := (hb.cell (p := ⟨w.heap.size, 3, none⟩) (by exact zt)).trans (by go_simp); have kwB_0_4 : w2.cell? ⟨w.heap.size, 4, none⟩ = some (.int .i64 nx) := (hb.cell (p := ⟨w.heap.size, 4, none⟩) (by exact zt)).trans (by go_simp); have xwB_0 : w.heap.size < w2.heap.size := (by have hz := hb.size; (try simp only [World.size_alloc, World.size_setCell, World.size_drew] at hz); omega); have hzwB := hb.size; (try simp only [World.size_alloc, World.size_setCell, World.size_drew] at hzwB); clear hb; obtain ⟨wB, rfl⟩ : ∃ x, x = w2 := ⟨_, rfl⟩
    go_wp2_with fail
    refine (s_JobOk kp mv _ cs ph nx _ rfl _ (Own.at O1.out lenInt)).mono ?_; rintro e w2 ⟨rfl, hb⟩
    have hT := HT.out; replace HT := Lib.hid (show Below w.heap.size w w2 from by exact bel); clear hT
    replace O1 := Lib.hid (Own.below O1.out (w' := w2) (by exact bel))
    have kwC_0_0 : w2.cell? ⟨w.heap.size, 0, none⟩ = some (.int .i64 kp) := (hb.cell (p := ⟨w.heap.size, 0, none⟩) (by exact zt)).trans (by go_simp); have kwC_0_1 : w2.cell? ⟨w.heap.size, 1, none⟩ = some (.int .i64 mv) := (hb.cell (p := ⟨w.heap.size, 1, none⟩) (by exact zt)).trans (by go_simp); have kwC_0_2 : w2.cell? ⟨w.heap.size, 2, none⟩ = some (c) := (hb.cell (p := ⟨w.heap.size, 2, none⟩) (by exact zt)).trans (by go_simp); have kwC_0_3 : w2.cell? ⟨w.heap.size, 3, none⟩ = some (.int .i64 ph) := (hb.cell (p := ⟨w.heap.size, 3, none⟩) (by exact zt)).trans (by go_simp); have kwC_0_4 : w2.cell? ⟨w.heap.size, 4, none⟩ = some (.int .i64 nx) := (hb.cell (p := ⟨w.heap.size, 4, none⟩) (by exact zt)).trans (by go_simp); have xwC_0 : w.heap.size < w2.heap.size := (by have hz := hb.size; (try simp only [World.size_alloc, World.size_setCell, World.size_drew] at hz); omega); have hzwC := hb.size; (try simp only [World.size_alloc, World.size_setCell, World.size_drew] at hzwC); clear hb; obtain ⟨wC, rfl⟩ : ∃ x, x = w2 := ⟨_, rfl⟩
    clear O1
    go_wp2_with fail
    refine (l_toJob kp mv c cs ph nx hs _ (HA.out.below (by (have hT := HT.out; exact bel)))).mono ?_; rintro e w2 ⟨y2, rfl, hOX, hb⟩
    have hT := HT.out; replace HT := Lib.hid (show Below w.heap.size w w2 from by exact bel); clear hT
    obtain ⟨xo, xc, rfl, -, -⟩ := hOX.shape; have OX := Lib.hid hOX; clear hOX
    have kwD_0_0 : w2.cell? ⟨w.heap.size, 0, none⟩ = some (.int .i64 kp) := (hb.cell (p := ⟨w.heap.size, 0, none⟩) (by exact zt)).trans (by go_simp); have kwD_0_1 : w2.cell? ⟨w.heap.size, 1, none⟩ = some (.int .i64 mv) := (hb.cell (p := ⟨w.heap.size, 1, none⟩) (by exact zt)).trans (by go_simp); have kwD_0_2 : w2.cell? ⟨w.heap.size, 2, none⟩ = some (c) := (hb.cell (p := ⟨w.heap.size, 2, none⟩) (by exact zt)).trans (by go_simp); have kwD_0_3 : w2.cell? ⟨w.heap.size, 3, none⟩ = some (.int .i64 ph) := (hb.cell (p := ⟨w.heap.size, 3, none⟩) (by exact zt)).trans (by go_simp); have kwD_0_4 : w2.cell? ⟨w.heap.size, 4, none⟩ = some (.int .i64 nx) := (hb.cell (p := ⟨w.heap.size, 4, none⟩) (by exact zt)).trans (by go_simp); have xwD_0 : w.heap.size < w2.heap.size := (by have hz := hb.size; (try simp only [World.size_alloc, World.size_setCell, World.size_drew] at hz); omega); have hzwD := hb.size; (try simp only [World.size_alloc, World.size_setCell, World.size_drew] at hzwD); clear hb; obtain ⟨wD, rfl⟩ : ∃ x, x = w2 := ⟨_, rfl⟩
    go_wp2_with fail
    refine (i_JobOk kp mv _ cs ph nx _ rfl _ (Own.at (Own.below OX.out (by exact bel)) lenInt)).mono ?_; rintro e w2 ⟨rfl, hb⟩
    have hT := HT.out; replace HT := Lib.hid (show Below w.heap.size w w2 from by exact bel); clear hT
    replace OX := Lib.hid (Own.below OX.out (w' := w2) (by exact bel))
    have kwE_0_0 : w2.cell? ⟨w.heap.size, 0, none⟩ = some (.int .i64 kp) := (hb.cell (p := ⟨w.heap.size, 0, none⟩) (by exact zt)).trans (by go_simp); have kwE_0_1 : w2.cell? ⟨w.heap.size, 1, none⟩ = some (.int .i64 mv) := (hb.cell (p := ⟨w.heap.size, 1, none⟩) (by exact zt)).trans (by go_simp); have kwE_0_2 : w2.cell? ⟨w.heap.size, 2, none⟩ = some (c) := (hb.cell (p := ⟨w.heap.size, 2, none⟩) (by exact zt)).trans (by go_simp); have kwE_0_3 : w2.cell? ⟨w.heap.size, 3, none⟩ = some (.int .i64 ph) := (hb.cell (p := ⟨w.heap.size, 3, none⟩) (by exact zt)).trans (by go_simp); have kwE_0_4 : w2.cell? ⟨w.heap.size, 4, none⟩ = some (.int .i64 nx) := (hb.cell (p := ⟨w.heap.size, 4, none⟩) (by exact zt)).trans (by go_simp); have kwE_D_0 : w2.cell? ⟨wD.heap.size, 0, none⟩ = some (.int .i64 kp) := (hb.cell (p := ⟨wD.heap.size, 0, none⟩) (by exact zt)).trans (by go_simp); have kwE_D_1 : w2.cell? ⟨wD.heap.size, 1, none⟩ = some (.int .i64 mv) := (hb.cell (p := ⟨wD.heap.size, 1, none⟩) (by exact zt)).trans (by go_simp); have kwE_D_2 : w2.cell? ⟨wD.heap.size, 2, none⟩ = some (.slice xo cs.length xc) := (hb.cell (p := ⟨wD.heap.size, 2, none⟩) (by exact zt)).trans (by go_simp); have kwE_D_3 : w2.cell? ⟨wD.heap.size, 3, none⟩ = some (.int .i64 ph) := (hb.cell (p := ⟨wD.heap.size, 3, none⟩) (by exact zt)).trans (by go_simp); have kwE_D_4 : w2.cell? ⟨wD.heap.size, 4, none⟩ = some (.int .i64 nx) := (hb.cell (p := ⟨wD.heap.size, 4, none⟩) (by exact zt)).trans (by go_simp); have xwE_0 : w.heap.size < w2.heap.size := (by have hz := hb.size; (try simp only [World.size_alloc, World.size_setCell, World.size_drew] at hz); omega); have xwE_D : wD.heap.size < w2.heap.size := (by have hz := hb.size; (try simp only [World.size_alloc, World.size_setCell, World.size_drew] at hz); omega); have hzwE := hb.size; (try simp only [World.size_alloc, World.size_setCell, World.size_drew] at hzwE); clear hb; obtain ⟨wE, rfl⟩ : ∃ x, x = w2 := ⟨_, rfl⟩
    generalize (jobOk kp mv cs ph nx) = res at *
    go_wp2_with fail
    go_region_held3 (fun w' => w'.cell? ⟨wD.heap.size, 0, none⟩ = some (.int .i64 kp) ∧ w'.cell? ⟨wD.heap.size, 1, none⟩ = some (.int .i64 mv) ∧ w'.cell? ⟨wD.heap.size, 2, none⟩ = some (.slice xo cs.length xc) ∧ w'.cell? ⟨wD.heap.size, 3, none⟩ = some (.int .i64 ph) ∧ w'.cell? ⟨wD.heap.size, 4, none⟩ = some (.int .i64 nx) ∧ w'.cell? ⟨w.heap.size, 0, none⟩ = some (.int .i64 kp) ∧ w'.cell? ⟨w.heap.size, 1, none⟩ = some (.int .i64 mv) ∧ w'.cell? ⟨w.heap.size, 2, none⟩ = some (c) ∧ w'.cell? ⟨w.heap.size, 3, none⟩ = some (.int .i64 ph) ∧ w'.cell? ⟨w.heap.size, 4, none⟩ = some (.int .i64 nx)) (first | (refine ⟨?_, ?_, ?_, ?_, ?_, ?_, ?_, ?_, ?_, ?_⟩ <;> (go_simp; done)) | go_keep) (first | (go_at_call 24; refine (l_toJob kp mv c cs ph nx hs _ (HA.out.below (by (have hT := HT.out; exact bel)))).mono ?_; rintro e w2 ⟨y3, rfl, hO3, hb⟩; obtain ⟨o3, c3, rfl, -, -⟩ := hO3.shape; have kwG_D_0 : w2.cell? ⟨wD.heap.size, 0, none⟩ = some (.int .i64 kp) := (hb.cell (p := ⟨wD.heap.size, 0, none⟩) (by exact zt)).trans (by go_simp); have kwG_D_1 : w2.cell? ⟨wD.heap.size, 1, none⟩ = some (.int .i64 mv) := (hb.cell (p := ⟨wD.heap.size, 1, none⟩) (by exact zt)).trans (by go_simp); have kwG_D_2 : w2.cell? ⟨wD.heap.size, 2, none⟩ = some (.slice xo cs.length xc) := (hb.cell (p := ⟨wD.heap.size, 2, none⟩) (by exact zt)).trans (by go_simp); have kwG_D_3 : w2.cell? ⟨wD.heap.size, 3, none⟩ = some (.int .i64 ph) := (hb.cell (p := ⟨wD.heap.size, 3, none⟩) (by exact zt)).trans (by go_simp); have kwG_D_4 : w2.cell? ⟨wD.heap.size, 4, none⟩ = some (.int .i64 nx) := (hb.cell (p := ⟨wD.heap.size, 4, none⟩) (by exact zt)).trans (by go_simp); have kwG_P_0 : w2.cell? ⟨w.heap.size, 0, none⟩ = some (.int .i64 kp) := (hb.cell (p := ⟨w.heap.size, 0, none⟩) (by exact zt)).trans (by go_simp); have kwG_P_1 : w2.cell? ⟨w.heap.size, 1, none⟩ = some (.int .i64 mv) := (hb.cell (p := ⟨w.heap.size, 1, none⟩) (by exact zt)).trans (by go_simp); have kwG_P_2 : w2.cell? ⟨w.heap.size, 2, none⟩ = some (c) := (hb.cell (p := ⟨w.heap.size, 2, none⟩) (by exact zt)).trans (by go_simp); have kwG_P_3 : w2.cell? ⟨w.heap.size, 3, none⟩ = some (.int .i64 ph) := (hb.cell (p := ⟨w.heap.size, 3, none⟩) (by exact zt)).trans (by go_simp); have kwG_P_4 : w2.cell? ⟨w.heap.size, 4, none⟩ = some (.int .i64 nx) := (hb.cell (p := ⟨w.heap.size, 4, none⟩) (by exact zt)).trans (by go_simp); have xwG_D : wD.heap.size < w2.heap.size := (by have hz := hb.size; (try simp only [World.size_alloc, World.size_setCell, World.size_drew] at hz); omega); have xwG_P : w.heap.size < w2.heap.size := (by have hz := hb.size; (try simp only [World.size_alloc, World.size_setCell, World.size_drew] at hz); omega); have hzwG := hb.size; (try simp only [World.size_alloc, World.size_setCell, World.size_drew] at hzwG); have HB1 := Lib.hid hb; obtain ⟨wG, rfl⟩ : ∃ x, x = w2 := ⟨_, rfl⟩) | (go_at_call 26; refine (l_eqJob _ _ kp mv _ _ cs ph nx _ (Own.below OX.out (by exact bel)) (Own.below hO3 (by exact bel))).mono ?_; rintro e w2 ⟨rfl, hb⟩; have kwH_D_0 : w2.cell? ⟨wD.heap.size, 0, none⟩ = some (.int .i64 kp) := (hb.cell (p := ⟨wD.heap.size, 0, none⟩) (by exact zt)).trans (by go_simp); have kwH_D_1 : w2.cell? ⟨wD.heap.size, 1, none⟩ = some (.int .i64 mv) := (hb.cell (p := ⟨wD.heap.size, 1, none⟩) (by exact zt)).trans (by go_simp); have kwH_D_2 : w2.cell? ⟨wD.heap.size, 2, none⟩ = some (.slice xo cs.length xc) := (hb.cell (p := ⟨wD.heap.size, 2, none⟩) (by exact zt)).trans (by go_simp); have kwH_D_3 : w2.cell? ⟨wD.heap.size, 3, none⟩ = some (.int .i64 ph) := (hb.cell (p := ⟨wD.heap.size, 3, none⟩) (by exact zt)).trans (by go_simp); have kwH_D_4 : w2.cell? ⟨wD.heap.size, 4, none⟩ = some (.int .i64 nx) := (hb.cell (p := ⟨wD.heap.size, 4, none⟩) (by exact zt)).trans (by go_simp); have kwH_P_0 : w2.cell? ⟨w.heap.size, 0, none⟩ = some (.int .i64 kp) := (hb.cell (p := ⟨w.heap.size, 0, none⟩) (by exact zt)).trans (by go_simp); have kwH_P_1 : w2.cell? ⟨w.heap.size, 1, none⟩ = some (.int .i64 mv) := (hb.cell (p := ⟨w.heap.size, 1, none⟩) (by exact zt)).trans (by go_simp); have kwH_P_2 : w2.cell? ⟨w.heap.size, 2, none⟩ = some (c) := (hb.cell (p := ⟨w.heap.size, 2, none⟩) (by exact zt)).trans (by go_simp); have kwH_P_3 : w2.cell? ⟨w.heap.size, 3, none⟩ = some (.int .i64 ph) := (hb.cell (p := ⟨w.heap.size, 3, none⟩) (by exact zt)).trans (by go_simp); have kwH_P_4 : w2.cell? ⟨w.heap.size, 4, none⟩ = some (.int .i64 nx) := (hb.cell (p := ⟨w.heap.size, 4, none⟩) (by exact zt)).trans (by go_simp); have xwH_D : wD.heap.size < w2.heap.size := (by have hz := hb.size; (try simp only [World.size_alloc, World.size_setCell, World.size_drew] at hz); omega); have xwH_P : w.heap.size < w2.heap.size := (by have hz := hb.size; (try simp only [World.size_alloc, World.size_setCell, World.size_drew] at hz); omega); have hzwH := hb.size; (try simp only [World.size_alloc, World.size_setCell, World.size_drew] at hzwH); have HB2 := Lib.hid hb; obtain ⟨wH, rfl⟩ : ∃ x, x = w2 := ⟨_, rfl⟩))
    go_wp2_with fail
    go_ret
    exact ⟨rfl, by (have hT := HT.out; have hB1 := HB1.out; have hB2 := HB2.out; exact bel)⟩
  · (have hall := all_nil w; go_enter Try.func5, Try.ntmps5)
    go_wp2_with (go_at_call 22; refine (l_szJob kp mv c cs ph nx _ (by omega) _ (HA.out.below (by exact bel))).mono ?_; rintro e w2 ⟨rfl, hb⟩; rw [szRes_neg (by omega)])
    go_ret
    exact ⟨rfl, by exact bel⟩

namespace fnExactJobOk
set_option maxRecDepth 100000 in
theorem contract (H : Type) (enc : TypeId × Value → H) (W : World) (base : Nat) (args : Array Value) (ds gs : List (DataW H)) (before : List MemPlace)
    (hval : ∀ (j : Nat) t v, Try.f5.params[j]? = some t → args[j]? = some v → Value.okWide Try.prog W .any base t v)
    (hW : DataW.Whole enc Try.prog Try.f5.params.toList Rows.fnExactJobOkSpec.vars false W args.toList ds gs before) :
    Calls Try.prog 5 args W fun e W' => ∃ v, e = .returned v ∧ Rows.fnExactJobOkSpec.post enc Try.prog Try.f5 false true false false W args v W' := by
  have hW' := hW
  obtain ⟨p, q, hA0, hV, rfl, hfz, hnd⟩ := hW
  have hA : DataW.TrodAll enc Try.prog W 0 (fun _ => true) true Try.f5.params.toList args.toList ds p := hA0
  rw [Try.params5] at hA hval
  obtain ⟨v0, vs0, d0, ds0, p0, q0, hargs, rfl, rfl, h0, r0⟩ := trodAll_cons hA
  obtain ⟨rfl, rfl, rfl⟩ := trodAll_nil r0
  obtain rfl : args = #[v0] := by cases args; simp_all
  obtain ⟨rfl, rfl⟩ := trodVars_none hV
  obtain ⟨kp, mv, c, cs, ph, nx, rfl, hcs, wkp, wmv, wph, wnx⟩ := job_open (hval 0 33 v0 rfl rfl) h0
  clear hA0
  refine (w_FnExactJobOk kp mv c cs ph nx W hcs).mono fun e W' ⟨he, hg⟩ => ?_
  subst he
  exact ⟨_, rfl, law_post (tb := 4) laidOut (by kernel_rfl) rfl rfl Try.underlying4 hW' rfl rfl rfl hg⟩
set_option maxRecDepth 100000 in
theorem lifted (os : Os) (started : os.Started) (H : Type) (enc : TypeId × Value → H) :
    ReturnsInHanded {} Try.checked os 5 .any (Rows.fnExactJobOkSpec.pre6 enc Try.prog Try.f5 Rows.fnExactJobOkRow.domain false) (Rows.fnExactJobOkSpec.post enc Try.prog Try.f5 false true false false) := by
  refine returnsInHanded_of_change (C := Try.checked) own started (by kernel_rfl) Try.func5
    (ChangeSpec.witness6 (enc := enc) (C := Try.checked) false ⟨#[], #[.agg #[.int .i64 0, .int .i64 0, .slice none 0 0, .int .i64 0, .int .i64 0]], []⟩ 8 (by kernel_rfl) (by kernel_rfl) (by kernel_rfl) (by kernel_rfl)) ?_
  intro W base args ds gs before hval hW _ _
  exact contract H enc W base args ds gs before hval hW
/-- The statement. -/
theorem proved : Rows.FnExactJobOkSaid :=
  OpenClaim.holds_of_wide 5 Try.f5 rfl rfl rfl rfl rfl rfl rfl ⟨rfl, rfl, rfl, rfl, rfl⟩ rfl rfl rfl rfl rfl (by kernel_rfl) Try.func5 (by kernel_rfl)
    (of_decide_eq_true (by kernel_rfl)) (by unfold Func.isWrapper; first | (rw [if_pos (by decide +kernel)]; kernel_rfl) | (rw [if_neg (by decide +kernel)]; exact ⟨rfl, rfl⟩))
    (fun os started H enc _ => lifted os started H enc)
end fnExactJobOk

end Go.Proofs.Yteebofhflbjimaa
