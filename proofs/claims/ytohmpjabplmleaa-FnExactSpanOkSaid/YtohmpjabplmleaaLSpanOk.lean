/- 'laws.FnExactSpanOk' returns true for every span: no condition. -/
import Derived.Test.YtohmpjabplmleaaSpan
import Derived.Test.YtohmpjabplmleaaFrame
set_option linter.unusedVariables false
set_option linter.unusedSimpArgs false
namespace Go.Proofs.Ytohmpjabplmleaa
open Go.ChangeShapes Go.WideShapes Go.ChangeAt Go.RowKit
theorem w_FnExactSpanOk (p c b : Int) (w : World) : Calls Try.prog 6 #[.agg #[.int .i64 p, .int .i64 c, .int .i64 b]] w fun e w' => e = .returned (.bool true) ∧ Below w.heap.size w w' := by
  go_enter Try.func6, Try.ntmps6
  go_wp2_with (first | (go_at_call 24; (refine (l_toSpan _ _ _ _).mono ?_); rintro e w2 ⟨rfl, hb⟩; obtain ⟨hc, hf⟩ := bcell hb; have hz := hb.size; (try simp only [World.size_alloc, World.size_setCell, World.size_drew] at hz); (try have hz0 : w.heap.size < w2.heap.size := by omega); (try have hz1 : w.heap.size + 1 < w2.heap.size := by omega); (try have hz2 : w.heap.size + 1 + 1 < w2.heap.size := by omega); (try have hz3 : w.heap.size + 1 + 1 + 1 < w2.heap.size := by omega); (try have hy0 : w1.heap.size < w2.heap.size := by omega); (try have hy1 : w1.heap.size + 1 < w2.heap.size := by omega); obtain ⟨w1, rfl⟩ : ∃ x, x = w2 := ⟨_, rfl⟩) | (go_at_call 25; (first | (refine (i_SpanOk _ _ _ true (by assumption) _).mono ?_) | (refine (i_SpanOk _ _ _ false (by assumption) _).mono ?_) | (refine (i_SpanOk _ _ _ _ rfl _).mono ?_)); rintro e w2 ⟨rfl, hb⟩; obtain ⟨hc, hf⟩ := bcell hb; have hz := hb.size; (try simp only [World.size_alloc, World.size_setCell, World.size_drew] at hz); (try have hz0 : w.heap.size < w2.heap.size := by omega); (try have hz1 : w.heap.size + 1 < w2.heap.size := by omega); (try have hz2 : w.heap.size + 1 + 1 < w2.heap.size := by omega); (try have hz3 : w.heap.size + 1 + 1 + 1 < w2.heap.size := by omega); (try have hy0 : w1.heap.size < w2.heap.size := by omega); (try have hy1 : w1.heap.size + 1 < w2.heap.size := by omega); obtain ⟨w1, rfl⟩ : ∃ x, x = w2 := ⟨_, rfl⟩) | (go_at_call 23; (first | (refine (s_SpanOk _ _ _ true (by assumption) _).mono ?_) | (refine (s_SpanOk _ _ _ false (by assumption) _).mono ?_) | (refine (s_SpanOk _ _ _ _ rfl _).mono ?_)); rintro e w2 ⟨rfl, hb⟩; obtain ⟨hc, hf⟩ := bcell hb; have hz := hb.size; (try simp only [World.size_alloc, World.size_setCell, World.size_drew] at hz); (try have hz0 : w.heap.size < w2.heap.size := by omega); (try have hz1 : w.heap.size + 1 < w2.heap.size := by omega); (try have hz2 : w.heap.size + 1 + 1 < w2.heap.size := by omega); (try have hz3 : w.heap.size + 1 + 1 + 1 < w2.heap.size := by omega); (try have hy0 : w1.heap.size < w2.heap.size := by omega); (try have hy1 : w1.heap.size + 1 < w2.heap.size := by omega); obtain ⟨w1, rfl⟩ : ∃ x, x = w2 := ⟨_, rfl⟩) | (with_reducible refine wp_region_grew (by kernel_rfl) (by kernel_rfl) ?_; (repeat (go_big_quiet_step (first | (go_at_call 24; exact calls_grew (l_toSpan _ _ _ _)) | (go_at_call 25; first | exact calls_grew (i_SpanOk _ _ _ true (by assumption) _) | exact calls_grew (i_SpanOk _ _ _ false (by assumption) _) | exact calls_grew (i_SpanOk _ _ _ _ rfl _)) | (go_at_call 23; first | exact calls_grew (s_SpanOk _ _ _ true (by assumption) _) | exact calls_grew (s_SpanOk _ _ _ false (by assumption) _) | exact calls_grew (s_SpanOk _ _ _ _ rfl _))))); refine wpQuiet_nil ?_; intro w2 hw'; have hb := grew_below hw'; clear hw'; obtain ⟨hc, hf⟩ := bcell hb; have hz := hb.size; (try simp only [World.size_alloc, World.size_setCell, World.size_drew] at hz); (try have hz0 : w.heap.size < w2.heap.size := by omega); (try have hz1 : w.heap.size + 1 < w2.heap.size := by omega); (try have hz2 : w.heap.size + 1 + 1 < w2.heap.size := by omega); (try have hz3 : w.heap.size + 1 + 1 + 1 < w2.heap.size := by omega); (try have hy0 : w1.heap.size < w2.heap.size := by omega); (try have hy1 : w1.heap.size + 1 < w2.heap.size := by omega); obtain ⟨w1, rfl⟩ : ∃ x, x = w2 := ⟨_, rfl⟩))
  all_goals (go_ret; refine ⟨by simp_all [], ?_⟩; (repeat (first | exact Below.refl _ _ | refine Below.alloc ?_ (by (try simp only [World.size_alloc, World.size_setCell, World.size_drew]); omega) _ | refine Below.setCell ?_ (by (try simp only [World.size_alloc, World.size_setCell, World.size_drew]); omega) _ | refine Below.drew ?_ | (refine Below.trans ?_ (Below.mono (by assumption) (by (try simp only [World.size_alloc, World.size_setCell, World.size_drew]); omega))))))
namespace fnExactSpanOk
theorem contract (H : Type) (enc : TypeId × Value → H) (W : World) (base : Nat) (args : Array Value) (ds gs : List (DataW H)) (before : List MemPlace)
    (hval : ∀ (j : Nat) t v, Try.f6.params[j]? = some t → args[j]? = some v → Value.okWide Try.prog W .any base t v)
    (hW : DataW.Whole enc Try.prog Try.f6.params.toList Rows.fnExactSpanOkSpec.vars false W args.toList ds gs before) :
    Calls Try.prog 6 args W fun e W' => ∃ v, e = .returned v ∧ Rows.fnExactSpanOkSpec.post enc Try.prog Try.f6 false true false false W args v W' := by
  have hW' := hW
  obtain ⟨p, q, hA0, hV, rfl, hfz, hnd⟩ := hW
  have hA : DataW.TrodAll enc Try.prog W 0 (fun _ => true) true Try.f6.params.toList args.toList ds p := hA0
  rw [Try.params6] at hA hval
  obtain ⟨v0, vs0, d0, ds0, p0, q0, hargs, rfl, rfl, h0, r0⟩ := trodAll_cons hA
  obtain ⟨rfl, rfl, rfl⟩ := trodAll_nil r0
  obtain rfl : args = #[v0] := by cases args; simp_all
  obtain ⟨rfl, rfl⟩ := trodVars_none hV
  obtain ⟨c0_0, c0_1, c0_2, y0_0, y0_1, y0_2, m0, rfl, rfl, rfl, g0_0, g0_1, g0_2⟩ := Joins.open_agg3 Try.underlying33 (by kernel_rfl) (by kernel_rfl) (hval 0 33 v0 rfl rfl) h0
  obtain ⟨p, e0_0, rfl, wp⟩ := DataW.trod_int Try.underlying3 g0_0
  obtain ⟨c, e0_1, rfl, wc⟩ := DataW.trod_int Try.underlying3 g0_1
  obtain ⟨b, e0_2, rfl, wb⟩ := DataW.trod_int Try.underlying3 g0_2
  simp at e0_0 e0_1 e0_2
  subst e0_0 e0_1 e0_2
  clear hA0
  refine (w_FnExactSpanOk p c b W).mono fun e W' ⟨he, hg⟩ => ?_
  subst he
  exact ⟨_, rfl, law_post (tb := 4) laidOut (by kernel_rfl) rfl rfl Try.underlying4 hW' rfl rfl rfl hg⟩
set_option maxRecDepth 100000 in
theorem lifted (os : Os) (started : os.Started) (H : Type) (enc : TypeId × Value → H) :
    ReturnsInHanded {} Try.checked os 6 .any (Rows.fnExactSpanOkSpec.pre6 enc Try.prog Try.f6 Rows.fnExactSpanOkRow.domain false) (Rows.fnExactSpanOkSpec.post enc Try.prog Try.f6 false true false false) := by
  refine returnsInHanded_of_change (C := Try.checked) own started (by kernel_rfl) Try.func6
    (ChangeSpec.witness6 (enc := enc) (C := Try.checked) false ⟨#[], #[.agg #[.int .i64 0, .int .i64 0, .int .i64 0]], []⟩ 8 (by kernel_rfl) (by kernel_rfl) (by kernel_rfl) (by kernel_rfl)) ?_
  intro W base args ds gs before hval hW _ _
  exact contract H enc W base args ds gs before hval hW
/-- The statement. -/
theorem proved : Rows.FnExactSpanOkSaid :=
  OpenClaim.holds_of_wide 6 Try.f6 rfl rfl rfl rfl rfl rfl rfl ⟨rfl, rfl, rfl, rfl, rfl⟩ rfl rfl rfl rfl rfl (by kernel_rfl) Try.func6 (by kernel_rfl)
    (of_decide_eq_true (by kernel_rfl)) (by unfold Func.isWrapper; first | (rw [if_pos (by decide +kernel)]; kernel_rfl) | (rw [if_neg (by decide +kernel)]; exact ⟨rfl, rfl⟩))
    (fun os started H enc _ => lifted os started H enc)
end fnExactSpanOk

end Go.Proofs.Ytohmpjabplmleaa
