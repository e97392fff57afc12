/- 'laws.FnExactSpanAddr' returns true, whatever the arguments: no condition. -/
import Derived.Test.YtohmpjabplmleaaSpan
import Derived.Test.YtohmpjabplmleaaFrame
set_option linter.unusedVariables false
set_option linter.unusedSimpArgs false
namespace Go.Proofs.Ytohmpjabplmleaa
open Go.ChangeShapes Go.WideShapes Go.ChangeAt Go.RowKit
theorem w_FnExactSpanAddr (p : Int) (c : Int) (b : Int) (slot : Int) (wp : (Lit.int .i64 p).wf = true) (wc : (Lit.int .i64 c).wf = true) (wb : (Lit.int .i64 b).wf = true) (wslot : (Lit.int .i64 slot).wf = true) (w : World) : Calls Try.prog 11 #[.agg #[.int .i64 p, .int .i64 c, .int .i64 b], .int .i64 slot] w fun e w' => e = .returned (.bool true) ∧ Below w.heap.size w w' := by
  clear wp wc wb wslot
  (have hall := all_nil w; go_enter Try.func11, Try.ntmps11)
  go_wp2_with (first | (go_at_call 24; (refine (l_toSpan _ _ _ _).mono ?_); rintro e w2 ⟨rfl, hb⟩; obtain ⟨hc, hf⟩ := bcell hb; have hz := hb.size; (try simp only [World.size_alloc, World.size_setCell, World.size_drew] at hz); (first | (replace hall := ext4 (w2 := w2) hall (by omega)) | (replace hall := ext3 (w2 := w2) hall (by omega)) | (replace hall := ext2 (w2 := w2) hall (by omega)) | (replace hall := ext1 (w2 := w2) hall (by omega)) | (replace hall := ext0 (w2 := w2) hall (by omega))); have hx := hall; (try simp only [allLt, and_true] at hx); obtain ⟨w1, rfl⟩ : ∃ x, x = w2 := ⟨_, rfl⟩) | (go_at_call 33; (refine (i_SpanAddr _ _ _ _ _).mono ?_); rintro e w2 ⟨rfl, hb⟩; obtain ⟨hc, hf⟩ := bcell hb; have hz := hb.size; (try simp only [World.size_alloc, World.size_setCell, World.size_drew] at hz); (first | (replace hall := ext4 (w2 := w2) hall (by omega)) | (replace hall := ext3 (w2 := w2) hall (by omega)) | (replace hall := ext2 (w2 := w2) hall (by omega)) | (replace hall := ext1 (w2 := w2) hall (by omega)) | (replace hall := ext0 (w2 := w2) hall (by omega))); have hx := hall; (try simp only [allLt, and_true] at hx); obtain ⟨w1, rfl⟩ : ∃ x, x = w2 := ⟨_, rfl⟩) | (go_at_call 32; (refine (s_SpanAddr _ _ _ _ _).mono ?_); rintro e w2 ⟨rfl, hb⟩; obtain ⟨hc, hf⟩ := bcell hb; have hz := hb.size; (try simp only [World.size_alloc, World.size_setCell, World.size_drew] at hz); (first | (replace hall := ext4 (w2 := w2) hall (by omega)) | (replace hall := ext3 (w2 := w2) hall (by omega)) | (replace hall := ext2 (w2 := w2) hall (by omega)) | (replace hall := ext1 (w2 := w2) hall (by omega)) | (replace hall := ext0 (w2 := w2) hall (by omega))); have hx := hall; (try simp only [allLt, and_true] at hx); obtain ⟨w1, rfl⟩ : ∃ x, x = w2 := ⟨_, rfl⟩) | (with_reducible refine wp_region_grew (by kernel_rfl) (by kernel_rfl) ?_; (repeat (go_big_quiet_step (first | (go_at_call 24; exact calls_grew (l_toSpan _ _ _ _)) | (go_at_call 33; exact calls_grew (i_SpanAddr _ _ _ _ _)) | (go_at_call 32; exact calls_grew (s_SpanAddr _ _ _ _ _))))); refine wpQuiet_nil ?_; intro w2 hw'; have hb := grew_below hw'; clear hw'; obtain ⟨hc, hf⟩ := bcell hb; have hz := hb.size; (try simp only [World.size_alloc, World.size_setCell, World.size_drew] at hz); (first | (replace hall := ext4 (w2 := w2) hall (by omega)) | (replace hall := ext3 (w2 := w2) hall (by omega)) | (replace hall := ext2 (w2 := w2) hall (by omega)) | (replace hall := ext1 (w2 := w2) hall (by omega)) | (replace hall := ext0 (w2 := w2) hall (by omega))); have hx := hall; (try simp only [allLt, and_true] at hx); obtain ⟨w1, rfl⟩ : ∃ x, x = w2 := ⟨_, rfl⟩))
  all_goals (go_ret; refine ⟨by simp_all [], ?_⟩; (repeat (first | exact Below.refl _ _ | refine Below.alloc ?_ (by (try simp only [World.size_alloc, World.size_setCell, World.size_drew]); omega) _ | refine Below.setCell ?_ (by (try simp only [World.size_alloc, World.size_setCell, World.size_drew]); omega) _ | refine Below.drew ?_ | (refine Below.trans ?_ (Below.mono (by assumption) (by (try simp only [World.size_alloc, World.size_setCell, World.size_drew]); omega))))))
namespace fnExactSpanAddr
theorem contract (H : Type) (enc : TypeId × Value → H) (W : World) (base : Nat) (args : Array Value) (ds gs : List (DataW H)) (before : List MemPlace)
    (hval : ∀ (j : Nat) t v, Try.f11.params[j]? = some t → args[j]? = some v → Value.okWide Try.prog W .any base t v)
    (hW : DataW.Whole enc Try.prog Try.f11.params.toList Rows.fnExactSpanAddrSpec.vars false W args.toList ds gs before) :
    Calls Try.prog 11 args W fun e W' => ∃ v, e = .returned v ∧ Rows.fnExactSpanAddrSpec.post enc Try.prog Try.f11 false true false false W args v W' := by
  have hW' := hW
  obtain ⟨p, q, hA0, hV, rfl, hfz, hnd⟩ := hW
  have hA : DataW.TrodAll enc Try.prog W 0 (fun _ => true) true Try.f11.params.toList args.toList ds p := hA0
  rw [Try.params11] at hA hval
  obtain ⟨v0, vs0, d0, ds0, p0, q0, hargs, rfl, rfl, h0, r0⟩ := trodAll_cons hA
  obtain ⟨v1, vs1, d1, ds1, p1, q1, rfl, rfl, rfl, h1, r1⟩ := trodAll_cons r0
  obtain ⟨rfl, rfl, rfl⟩ := trodAll_nil r1
  obtain rfl : args = #[v0, v1] := by cases args; simp_all
  obtain ⟨rfl, rfl⟩ := trodVars_none hV
  obtain ⟨c0_0, c0_1, c0_2, y0_0, y0_1, y0_2, m0, rfl, rfl, rfl, g0_0, g0_1, g0_2⟩ := Joins.open_agg3 Try.underlying33 (by kernel_rfl) (by kernel_rfl) (hval 0 33 v0 rfl rfl) h0
  obtain ⟨p, e0_0, rfl, wp⟩ := DataW.trod_int Try.underlying3 g0_0
  obtain ⟨c, e0_1, rfl, wc⟩ := DataW.trod_int Try.underlying3 g0_1
  obtain ⟨b, e0_2, rfl, wb⟩ := DataW.trod_int Try.underlying3 g0_2
  simp at e0_0 e0_1 e0_2
  subst e0_0 e0_1 e0_2
  obtain ⟨slot, rfl, rfl, rfl, wslot⟩ := open_int Try.underlying3 (hval 1 3 v1 rfl rfl) h1
  clear hA0
  refine (w_FnExactSpanAddr p c b slot wp wc wb wslot W).mono fun e W' ⟨he, hg⟩ => ?_
  subst he
  exact ⟨_, rfl, law_post (tb := 4) laidOut (by kernel_rfl) rfl rfl Try.underlying4 hW' rfl rfl rfl hg⟩
set_option maxRecDepth 100000 in
theorem lifted (os : Os) (started : os.Started) (H : Type) (enc : TypeId × Value → H) :
    ReturnsInHanded {} Try.checked os 11 .any (Rows.fnExactSpanAddrSpec.pre6 enc Try.prog Try.f11 Rows.fnExactSpanAddrRow.domain false) (Rows.fnExactSpanAddrSpec.post enc Try.prog Try.f11 false true false false) := by
  refine returnsInHanded_of_change (C := Try.checked) own started (by kernel_rfl) Try.func11
    (ChangeSpec.witness6 (enc := enc) (C := Try.checked) false ⟨#[], #[.agg #[.int .i64 0, .int .i64 0, .int .i64 0], .int .i64 0], []⟩ 8 (by kernel_rfl) (by kernel_rfl) (by kernel_rfl) (by kernel_rfl)) ?_
  intro W base args ds gs before hval hW _ _
  exact contract H enc W base args ds gs before hval hW
/-- The statement. -/
theorem proved : Rows.FnExactSpanAddrSaid :=
  OpenClaim.holds_of_wide 11 Try.f11 rfl rfl rfl rfl rfl rfl rfl ⟨rfl, rfl, rfl, rfl, rfl⟩ rfl rfl rfl rfl rfl (by kernel_rfl) Try.func11 (by kernel_rfl)
    (of_decide_eq_true (by kernel_rfl)) (by unfold Func.isWrapper; first | (rw [if_pos (by decide +kernel)]; kernel_rfl) | (rw [if_neg (by decide +kernel)]; exact ⟨rfl, rfl⟩))
    (fun os started H enc _ => lifted os started H enc)
end fnExactSpanAddr

end Go.Proofs.Ytohmpjabplmleaa
