/- 'laws.FnExactFractionLess' returns true, whatever the arguments: no condition. -/
import Derived.Test.YtohmpjabplmleaaCount
import Derived.Test.YtohmpjabplmleaaFrame
set_option linter.unusedVariables false
set_option linter.unusedSimpArgs false
namespace Go.Proofs.Ytohmpjabplmleaa
open Go.ChangeShapes Go.WideShapes Go.ChangeAt Go.RowKit
theorem w_FnExactFractionLess (a : Int) (b : Int) (c : Int) (d : Int) (wa : (Lit.int .i64 a).wf = true) (wb : (Lit.int .i64 b).wf = true) (wc : (Lit.int .i64 c).wf = true) (wd : (Lit.int .i64 d).wf = true) (w : World) : Calls Try.prog 3 #[.agg #[.int .i64 a, .int .i64 b], .agg #[.int .i64 c, .int .i64 d]] w fun e w' => e = .returned (.bool true) ∧ Below w.heap.size w w' := by
  clear wa wb wc wd
  (have hall := all_nil w; go_enter Try.func3, Try.ntmps3)
  go_wp2_with (first | (go_at_call 16; (refine (l_toFraction _ _ _).mono ?_); rintro e w2 ⟨rfl, hb⟩; obtain ⟨hc, hf⟩ := bcell hb; have hz := hb.size; (try simp only [World.size_alloc, World.size_setCell, World.size_drew] at hz); (first | (replace hall := ext4 (w2 := w2) hall (by omega)) | (replace hall := ext3 (w2 := w2) hall (by omega)) | (replace hall := ext2 (w2 := w2) hall (by omega)) | (replace hall := ext1 (w2 := w2) hall (by omega)) | (replace hall := ext0 (w2 := w2) hall (by omega))); have hx := hall; (try simp only [allLt, and_true] at hx); obtain ⟨w1, rfl⟩ : ∃ x, x = w2 := ⟨_, rfl⟩) | (go_at_call 17; (first | (refine (i_FractionLess _ _ _ _ true (by assumption) _).mono ?_) | (refine (i_FractionLess _ _ _ _ false (by assumption) _).mono ?_) | (refine (i_FractionLess _ _ _ _ _ rfl _).mono ?_)); rintro e w2 ⟨rfl, hb⟩; obtain ⟨hc, hf⟩ := bcell hb; have hz := hb.size; (try simp only [World.size_alloc, World.size_setCell, World.size_drew] at hz); (first | (replace hall := ext4 (w2 := w2) hall (by omega)) | (replace hall := ext3 (w2 := w2) hall (by omega)) | (replace hall := ext2 (w2 := w2) hall (by omega)) | (replace hall := ext1 (w2 := w2) hall (by omega)) | (replace hall := ext0 (w2 := w2) hall (by omega))); have hx := hall; (try simp only [allLt, and_true] at hx); obtain ⟨w1, rfl⟩ : ∃ x, x = w2 := ⟨_, rfl⟩) | (go_at_call 15; (first | (refine (s_FractionLess _ _ _ _ true (by assumption) _).mono ?_) | (refine (s_FractionLess _ _ _ _ false (by assumption) _).mono ?_) | (refine (s_FractionLess _ _ _ _ _ rfl _).mono ?_)); rintro e w2 ⟨rfl, hb⟩; obtain ⟨hc, hf⟩ := bcell hb; have hz := hb.size; (try simp only [World.size_alloc, World.size_setCell, World.size_drew] at hz); (first | (replace hall := ext4 (w2 := w2) hall (by omega)) | (replace hall := ext3 (w2 := w2) hall (by omega)) | (replace hall := ext2 (w2 := w2) hall (by omega)) | (replace hall := ext1 (w2 := w2) hall (by omega)) | (replace hall := ext0 (w2 := w2) hall (by omega))); have hx := hall; (try simp only [allLt, and_true] at hx); obtain ⟨w1, rfl⟩ : ∃ x, x = w2 := ⟨_, rfl⟩) | (with_reducible refine wp_region_grew (by kernel_rfl) (by kernel_rfl) ?_; (repeat (go_big_quiet_step (first | (go_at_call 16; exact calls_grew (l_toFraction _ _ _)) | (go_at_call 17; first | exact calls_grew (i_FractionLess _ _ _ _ true (by assumption) _) | exact calls_grew (i_FractionLess _ _ _ _ false (by assumption) _) | exact calls_grew (i_FractionLess _ _ _ _ _ rfl _)) | (go_at_call 15; first | exact calls_grew (s_FractionLess _ _ _ _ true (by assumption) _) | exact calls_grew (s_FractionLess _ _ _ _ false (by assumption) _) | exact calls_grew (s_FractionLess _ _ _ _ _ rfl _))))); refine wpQuiet_nil ?_; intro w2 hw'; have hb := grew_below hw'; clear hw'; obtain ⟨hc, hf⟩ := bcell hb; have hz := hb.size; (try simp only [World.size_alloc, World.size_setCell, World.size_drew] at hz); (first | (replace hall := ext4 (w2 := w2) hall (by omega)) | (replace hall := ext3 (w2 := w2) hall (by omega)) | (replace hall := ext2 (w2 := w2) hall (by omega)) | (replace hall := ext1 (w2 := w2) hall (by omega)) | (replace hall := ext0 (w2 := w2) hall (by omega))); have hx := hall; (try simp only [allLt, and_true] at hx); obtain ⟨w1, rfl⟩ : ∃ x, x = w2 := ⟨_, rfl⟩))
  all_goals (go_ret; refine ⟨by simp_all [], ?_⟩; (repeat (first | exact Below.refl _ _ | refine Below.alloc ?_ (by (try simp only [World.size_alloc, World.size_setCell, World.size_drew]); omega) _ | refine Below.setCell ?_ (by (try simp only [World.size_alloc, World.size_setCell, World.size_drew]); omega) _ | refine Below.drew ?_ | (refine Below.trans ?_ (Below.mono (by assumption) (by (try simp only [World.size_alloc, World.size_setCell, World.size_drew]); omega))))))
namespace fnExactFractionLess
theorem contract (H : Type) (enc : TypeId × Value → H) (W : World) (base : Nat) (args : Array Value) (ds gs : List (DataW H)) (before : List MemPlace)
    (hval : ∀ (j : Nat) t v, Try.f3.params[j]? = some t → args[j]? = some v → Value.okWide Try.prog W .any base t v)
    (hW : DataW.Whole enc Try.prog Try.f3.params.toList Rows.fnExactFractionLessSpec.vars false W args.toList ds gs before) :
    Calls Try.prog 3 args W fun e W' => ∃ v, e = .returned v ∧ Rows.fnExactFractionLessSpec.post enc Try.prog Try.f3 false true false false W args v W' := by
  have hW' := hW
  obtain ⟨p, q, hA0, hV, rfl, hfz, hnd⟩ := hW
  have hA : DataW.TrodAll enc Try.prog W 0 (fun _ => true) true Try.f3.params.toList args.toList ds p := hA0
  rw [Try.params3] at hA hval
  obtain ⟨v0, vs0, d0, ds0, p0, q0, hargs, rfl, rfl, h0, r0⟩ := trodAll_cons hA
  obtain ⟨v1, vs1, d1, ds1, p1, q1, rfl, rfl, rfl, h1, r1⟩ := trodAll_cons r0
  obtain ⟨rfl, rfl, rfl⟩ := trodAll_nil r1
  obtain rfl : args = #[v0, v1] := by cases args; simp_all
  obtain ⟨rfl, rfl⟩ := trodVars_none hV
  obtain ⟨c0_0, c0_1, y0_0, y0_1, m0, rfl, rfl, rfl, g0_0, g0_1⟩ := Joins.open_agg2 Try.underlying23 (by kernel_rfl) (by kernel_rfl) (hval 0 23 v0 rfl rfl) h0
  obtain ⟨a, e0_0, rfl, wa⟩ := DataW.trod_int Try.underlying3 g0_0
  obtain ⟨b, e0_1, rfl, wb⟩ := DataW.trod_int Try.underlying3 g0_1
  simp at e0_0 e0_1
  subst e0_0 e0_1
  obtain ⟨c1_0, c1_1, y1_0, y1_1, m1, rfl, rfl, rfl, g1_0, g1_1⟩ := Joins.open_agg2 Try.underlying23 (by kernel_rfl) (by kernel_rfl) (hval 1 23 v1 rfl rfl) h1
  obtain ⟨c, e1_0, rfl, wc⟩ := DataW.trod_int Try.underlying3 g1_0
  obtain ⟨d, e1_1, rfl, wd⟩ := DataW.trod_int Try.underlying3 g1_1
  simp at e1_0 e1_1
  subst e1_0 e1_1
  clear hA0
  refine (w_FnExactFractionLess a b c d wa wb wc wd W).mono fun e W' ⟨he, hg⟩ => ?_
  subst he
  exact ⟨_, rfl, law_post (tb := 4) laidOut (by kernel_rfl) rfl rfl Try.underlying4 hW' rfl rfl rfl hg⟩
set_option maxRecDepth 100000 in
theorem lifted (os : Os) (started : os.Started) (H : Type) (enc : TypeId × Value → H) :
    ReturnsInHanded {} Try.checked os 3 .any (Rows.fnExactFractionLessSpec.pre6 enc Try.prog Try.f3 Rows.fnExactFractionLessRow.domain false) (Rows.fnExactFractionLessSpec.post enc Try.prog Try.f3 false true false false) := by
  refine returnsInHanded_of_change (C := Try.checked) own started (by kernel_rfl) Try.func3
    (ChangeSpec.witness6 (enc := enc) (C := Try.checked) false ⟨#[], #[.agg #[.int .i64 0, .int .i64 0], .agg #[.int .i64 0, .int .i64 0]], []⟩ 8 (by kernel_rfl) (by kernel_rfl) (by kernel_rfl) (by kernel_rfl)) ?_
  intro W base args ds gs before hval hW _ _
  exact contract H enc W base args ds gs before hval hW
/-- The statement. -/
theorem proved : Rows.FnExactFractionLessSaid :=
  OpenClaim.holds_of_wide 3 Try.f3 rfl rfl rfl rfl rfl rfl rfl ⟨rfl, rfl, rfl, rfl, rfl⟩ rfl rfl rfl rfl rfl (by kernel_rfl) Try.func3 (by kernel_rfl)
    (of_decide_eq_true (by kernel_rfl)) (by unfold Func.isWrapper; first | (rw [if_pos (by decide +kernel)]; kernel_rfl) | (rw [if_neg (by decide +kernel)]; exact ⟨rfl, rfl⟩))
    (fun os started H enc _ => lifted os started H enc)
end fnExactFractionLess

end Go.Proofs.Ytohmpjabplmleaa
