/- 'laws.FnExactWaitingWriters' returns true, whatever the arguments: no condition. -/
import Derived.Test.YtkdafincnmkjnaaWait
import Derived.Test.YtkdafincnmkjnaaBox
import Derived.Test.YtkdafincnmkjnaaOwnL
set_option linter.unusedVariables false
set_option linter.unusedSimpArgs false
namespace Go.Proofs.Ytkdafincnmkjnaa
open Go.ChangeShapes Go.WideShapes Go.ChangeAt Go.RowKit
set_option maxRecDepth 100000 in
set_option maxHeartbeats 12800000 in
theorem w_FnExactWaitingWriters (va : Value) (xs : List Wr) (w : World) (ha0 : WrAt w va xs) : Calls Try.prog 14 #[va] w fun e w' => e = .returned (.bool true) ∧ Below w.heap.size w w' := by
  skip
  have HAw0 := Lib.hid ha0; have HA0 := Lib.hid ha0
  obtain ⟨ao0, ca0, hv0, hl0, hm0⟩ := ha0.shape
  have hlm0 := Nat.le_trans hl0 hm0; clear hl0 hm0; subst hv0
  have hl90 : xs.length ≤ 9223372036854775807 := by unfold maxLen at hlm0; omega
  have HT := Lib.hid (Below.refl w.heap.size w)
  clear ha0
  by_cases hS0 : xs.length ≤ 1048576
  rotate_left
  · (have hall := all_nil w; go_enter Try.func14, Try.ntmps14)
    go_wp2_with (first | (go_at_call 70; (refine (szWriterS' _ _ _ (by omega) _ (by omega) _).mono ?_; rintro e w2 ⟨rfl, hb⟩; rw [szRes_neg (by omega)])))
    go_ret
    exact ⟨rfl, by exact bel⟩
  have HI := Lib.hid (fun y w (h : WrAt w y xs) => i_WaitingWriters y xs w h)
  have HS := Lib.hid (fun y w (h : WrAt w y xs) => s_WaitingWriters y xs w h)
  generalize (waitTo xs xs.length) = res at *
  (have hall := all_nil w; go_enter Try.func14, Try.ntmps14)
  go_wp2_with fail
  refine (szWriterS' _ _ _ (by omega) _ (by omega) _).mono ?_; rintro e w2 ⟨rfl, hb⟩
  rw [szRes_pos (by omega)]
  replace HA0 := Lib.hid (HA0.out.below hb)
  replace HT := Lib.hid (HT.out.trans (hb.mono HT.out.size))
  have zwA := hb.size; (try simp only [World.size_alloc] at zwA); clear hb; obtain ⟨wA, rfl⟩ : ∃ x, x = w2 := ⟨_, rfl⟩
  go_wp2_with fail
  refine (l_toWriterS _ xs (by omega) _ HA0.out).mono ?_; rintro e w2 ⟨vC0, rfl, OC0, hb⟩
  obtain ⟨yC0o, yC0c, rfl, -, -⟩ := OC0.shape
  have LC0 := Lib.hid (Own.lts OC0); replace OC0 := Lib.hid OC0
  replace HA0 := Lib.hid (HA0.out.below hb)
  replace HT := Lib.hid (HT.out.trans (hb.mono HT.out.size))
  have zwB := hb.size; (try simp only [World.size_alloc] at zwB); clear hb; obtain ⟨wB, rfl⟩ : ∃ x, x = w2 := ⟨_, rfl⟩
  skip
  go_wp2_with fail
  refine (HS.out _ _ (Own.at OC0.out lenWr)).mono ?_; rintro e w2 ⟨rfl, hb⟩
  clear OC0 LC0
  replace HA0 := Lib.hid (HA0.out.below hb)
  replace HT := Lib.hid (HT.out.trans (hb.mono HT.out.size))
  have zwC := hb.size; (try simp only [World.size_alloc] at zwC); clear hb; obtain ⟨wC, rfl⟩ : ∃ x, x = w2 := ⟨_, rfl⟩
  go_wp2_with fail
  refine (l_toWriterS _ xs (by omega) _ HA0.out).mono ?_; rintro e w2 ⟨vX0, rfl, OX0, hb⟩
  obtain ⟨yX0o, yX0c, rfl, -, -⟩ := OX0.shape
  have LX0 := Lib.hid (Own.lts OX0); replace OX0 := Lib.hid OX0
  replace HA0 := Lib.hid (HA0.out.below hb)
  replace HT := Lib.hid (HT.out.trans (hb.mono HT.out.size))
  have zwD := hb.size; (try simp only [World.size_alloc] at zwD); clear hb; obtain ⟨wD, rfl⟩ : ∃ x, x = w2 := ⟨_, rfl⟩
  skip
  go_wp2_with fail
  refine (HI.out _ _ (Own.at OX0.out lenWr)).mono ?_; rintro e w2 ⟨rfl, hb⟩
  replace OX0 := Lib.hid (Own.below OX0.out hb)
  replace HA0 := Lib.hid (HA0.out.below hb)
  replace HT := Lib.hid (HT.out.trans (hb.mono HT.out.size))
  have zwE := hb.size; (try simp only [World.size_alloc] at zwE); clear hb; obtain ⟨wE, rfl⟩ : ∃ x, x = w2 := ⟨_, rfl⟩
  go_wp2_with fail
  refine (l_toWriterS _ xs (by omega) _ HA0.out).mono ?_; rintro e w2 ⟨vE, rfl, OE, hb⟩
  obtain ⟨yEo, yEc, rfl, -, -⟩ := OE.shape
  replace OE := Lib.hid OE
  replace OX0 := Lib.hid (Own.below OX0.out hb)
  replace HA0 := Lib.hid (HA0.out.below hb)
  replace HT := Lib.hid (HT.out.trans (hb.mono HT.out.size))
  have zwF := hb.size; (try simp only [World.size_alloc] at zwF); clear hb; obtain ⟨wF, rfl⟩ : ∃ x, x = w2 := ⟨_, rfl⟩
  go_wp2_with fail
  refine (l_eqWriterS _ _ xs _ (Own.at OX0.out lenWr) (Own.at OE.out lenWr)).mono ?_; rintro e w2 ⟨rfl, hb⟩
  clear OE
  replace OX0 := Lib.hid (Own.below OX0.out hb)
  replace HA0 := Lib.hid (HA0.out.below hb)
  replace HT := Lib.hid (HT.out.trans (hb.mono HT.out.size))
  have zwG := hb.size; (try simp only [World.size_alloc] at zwG); clear hb; obtain ⟨wG, rfl⟩ : ∃ x, x = w2 := ⟨_, rfl⟩
  go_wp2_with fail
  go_ret
  exact ⟨rfl, HT.out⟩

namespace fnExactWaitingWriters
set_option maxRecDepth 100000 in
theorem contract (H : Type) (enc : TypeId × Value → H) (W : World) (base : Nat) (args : Array Value) (ds gs : List (DataW H)) (before : List MemPlace)
    (hval : ∀ (j : Nat) t v, Try.f14.params[j]? = some t → args[j]? = some v → Value.okWide Try.prog W .any base t v)
    (hW : DataW.Whole enc Try.prog Try.f14.params.toList Rows.fnExactWaitingWritersSpec.vars false W args.toList ds gs before) :
    Calls Try.prog 14 args W fun e W' => ∃ v, e = .returned v ∧ Rows.fnExactWaitingWritersSpec.post enc Try.prog Try.f14 false true false false W args v W' := by
  have hW' := hW
  obtain ⟨p, q, hA0, hV, rfl, hfz, hnd⟩ := hW
  have hA : DataW.TrodAll enc Try.prog W 0 (fun _ => true) true Try.f14.params.toList args.toList ds p := hA0
  rw [Try.params14] at hA hval
  obtain ⟨v0, vs0, d0, ds0, p0, q0, hargs, rfl, rfl, h0, r0⟩ := trodAll_cons hA
  obtain ⟨rfl, rfl, rfl⟩ := trodAll_nil r0
  obtain rfl : args = #[v0] := by cases args; simp_all
  obtain ⟨rfl, rfl⟩ := trodVars_none hV
  obtain ⟨xs, hxs⟩ := argWr Try.underlying91 Try.underlying128 (by kernel_rfl) (by kernel_rfl) Try.underlying3 Try.underlying4 rfl rfl rfl rfl (hval 0 91 v0 rfl rfl) h0
  clear hA0
  refine (w_FnExactWaitingWriters v0 xs W hxs).mono fun e W' ⟨he, hg⟩ => ?_
  subst he
  exact ⟨_, rfl, law_post (tb := 4) laidOut (by kernel_rfl) rfl rfl Try.underlying4 hW' rfl rfl rfl hg⟩
set_option maxRecDepth 100000 in
theorem lifted (os : Os) (started : os.Started) (H : Type) (enc : TypeId × Value → H) :
    ReturnsInHanded {} Try.checked os 14 .any (Rows.fnExactWaitingWritersSpec.pre6 enc Try.prog Try.f14 Rows.fnExactWaitingWritersRow.domain false) (Rows.fnExactWaitingWritersSpec.post enc Try.prog Try.f14 false true false false) := by
  refine returnsInHanded_of_change (C := Try.checked) own started (by kernel_rfl) Try.func14
    (ChangeSpec.witness6 (enc := enc) (C := Try.checked) false ⟨#[], #[.slice none 0 0], []⟩ 8 (by kernel_rfl) (by kernel_rfl) (by kernel_rfl) (by kernel_rfl)) ?_
  intro W base args ds gs before hval hW _ _
  exact contract H enc W base args ds gs before hval hW
/-- The statement. -/
theorem proved : Rows.FnExactWaitingWritersSaid :=
  OpenClaim.holds_of_wide 14 Try.f14 rfl rfl rfl rfl rfl rfl rfl ⟨rfl, rfl, rfl, rfl, rfl⟩ rfl rfl rfl rfl rfl (by kernel_rfl) Try.func14 (by kernel_rfl)
    (of_decide_eq_true (by kernel_rfl)) (by unfold Func.isWrapper; first | (rw [if_pos (by decide +kernel)]; kernel_rfl) | (rw [if_neg (by decide +kernel)]; exact ⟨rfl, rfl⟩))
    (fun os started H enc _ => lifted os started H enc)
end fnExactWaitingWriters

end Go.Proofs.Ytkdafincnmkjnaa
