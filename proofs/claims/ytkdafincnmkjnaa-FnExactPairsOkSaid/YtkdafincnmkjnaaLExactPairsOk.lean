/- 'laws.FnExactPairsOk' returns true, whatever the arguments: no condition. -/
import Derived.Test.YtkdafincnmkjnaaPairsOk
import Derived.Test.YtkdafincnmkjnaaFamSp
import Derived.Test.YtkdafincnmkjnaaOwnL
import Derived.Test.YtkdafincnmkjnaaBox
set_option linter.unusedVariables false
set_option linter.unusedSimpArgs false
namespace Go.Proofs.Ytkdafincnmkjnaa
open Go.ChangeShapes Go.WideShapes Go.ChangeAt Go.RowKit
set_option maxRecDepth 100000 in
set_option maxHeartbeats 12800000 in
theorem w_FnExactPairsOk (va vb : Value) (xs : List Sp) (ps : List Pr) (w : World) (ha0 : SpansAt w va xs) (ha1 : PrAt w vb ps) : Calls Try.prog 5 #[va, vb] w fun e w' => e = .returned (.bool true) ∧ Below w.heap.size w w' := by
  skip
  have HAw0 := Lib.hid ha0; have HA0 := Lib.hid ha0
  have HAw1 := Lib.hid ha1; have HA1 := Lib.hid ha1
  obtain ⟨ao0, ca0, hv0, hl0, hm0⟩ := ha0.shape
  have hlm0 := Nat.le_trans hl0 hm0; clear hl0 hm0; subst hv0
  have hl90 : xs.length ≤ 9223372036854775807 := by unfold maxLen at hlm0; omega
  obtain ⟨ao1, ca1, hv1, hl1, hm1⟩ := ha1.shape
  have hlm1 := Nat.le_trans hl1 hm1; clear hl1 hm1; subst hv1
  have hl91 : ps.length ≤ 9223372036854775807 := by unfold maxLen at hlm1; omega
  have HT := Lib.hid (Below.refl w.heap.size w)
  clear ha0 ha1
  by_cases hS0 : xs.length ≤ 1048576
  rotate_left
  · (have hall := all_nil w; go_enter Try.func5, Try.ntmps5)
    go_wp2_with (first | (go_at_call 23; (refine (szSpanS' _ _ _ (by omega) _ (by omega) _).mono ?_; rintro e w2 ⟨rfl, hb⟩; rw [szRes_neg (by omega)])))
    go_ret
    exact ⟨rfl, by exact bel⟩
  by_cases hS1 : xs.length + ps.length ≤ 1048576
  rotate_left
  · (have hall := all_nil w; go_enter Try.func5, Try.ntmps5)
    go_wp2_with (first | (go_at_call 23; (refine (szSpanS' _ _ _ (by omega) _ (by omega) _).mono ?_; rintro e w2 ⟨rfl, hb⟩; rw [szRes_pos (by omega)]; (first | have hn := nw4 hb hall (by exact zo) | have hn := nw3 hb hall (by exact zo) | have hn := nw2 hb hall (by exact zo) | have hn := nw1 hb hall (by exact zo) | have hn := nw0 hb hall (by exact zo)); obtain ⟨hc, hf, hn, hc0⟩ := hn; replace hall := hn; clear hn; have hz := hb.size; (try simp only [World.size_alloc, World.size_setCell, World.size_drew] at hz); have hx := hall; (try simp only [allLt, and_true] at hx); obtain ⟨w1, rfl⟩ : ∃ x, x = w2 := ⟨_, rfl⟩)) | (go_at_call 28; (refine (szPairS' _ _ _ (by omega) _ (by omega) _).mono ?_; rintro e w2 ⟨rfl, hb⟩; rw [szRes_neg (by omega)])))
    go_ret
    exact ⟨rfl, by exact bel⟩
  have HI := Lib.hid (fun y z w (h : SpansAt w y xs) (h2 : PrAt w z ps) => i_PairsOk y z xs ps w h h2)
  have HS := Lib.hid (fun y z w (h : SpansAt w y xs) (h2 : PrAt w z ps) => s_PairsOk y z xs ps (by omega) w h h2)
  generalize pairsOk xs ps = rb at *
  (have hall := all_nil w; go_enter Try.func5, Try.ntmps5)
  go_wp2_with fail
  refine (szSpanS' _ _ _ (by omega) _ (by omega) _).mono ?_; rintro e w2 ⟨rfl, hb⟩
  rw [szRes_pos (by omega)]
  replace HA0 := Lib.hid (HA0.out.below hb)
  replace HA1 := Lib.hid (HA1.out.below hb)
  replace HT := Lib.hid (HT.out.trans (hb.mono HT.out.size))
  have zwA := hb.size; (try simp only [World.size_alloc] at zwA); clear hb; obtain ⟨wA, rfl⟩ : ∃ x, x = w2 := ⟨_, rfl⟩
  go_wp2_with fail
  refine (szPairS' _ _ _ (by omega) _ (by omega) _).mono ?_; rintro e w2 ⟨rfl, hb⟩
  rw [szRes_pos (by omega)]
  replace HA0 := Lib.hid (HA0.out.below hb)
  replace HA1 := Lib.hid (HA1.out.below hb)
  replace HT := Lib.hid (HT.out.trans (hb.mono HT.out.size))
  have zwB := hb.size; (try simp only [World.size_alloc] at zwB); clear hb; obtain ⟨wB, rfl⟩ : ∃ x, x = w2 := ⟨_, rfl⟩
  go_wp2_with fail
  refine (l_toSpanS _ xs (by omega) _ HA0.out).mono ?_; rintro e w2 ⟨vC0, rfl, OC0, hb⟩
  obtain ⟨yC0o, yC0c, rfl, -, -⟩ := OC0.shape
  have LC0 := Lib.hid (Own.lts OC0); replace OC0 := Lib.hid OC0
  replace HA0 := Lib.hid (HA0.out.below hb)
  replace HA1 := Lib.hid (HA1.out.below hb)
  replace HT := Lib.hid (HT.out.trans (hb.mono HT.out.size))
  have zwC := hb.size; (try simp only [World.size_alloc] at zwC); clear hb; obtain ⟨wC, rfl⟩ : ∃ x, x = w2 := ⟨_, rfl⟩
  skip
  go_wp2_with fail
  refine (l_toPairS _ ps (by omega) _ HA1.out).mono ?_; rintro e w2 ⟨vC1, rfl, OC1, hb⟩
  obtain ⟨yC1o, yC1c, rfl, -, -⟩ := OC1.shape
  have LC1 := Lib.hid (Own.lts OC1); replace OC1 := Lib.hid OC1
  replace OC0 := Lib.hid (Own.below OC0.out hb)
  replace HA0 := Lib.hid (HA0.out.below hb)
  replace HA1 := Lib.hid (HA1.out.below hb)
  replace HT := Lib.hid (HT.out.trans (hb.mono HT.out.size))
  have zwD := hb.size; (try simp only [World.size_alloc] at zwD); clear hb; obtain ⟨wD, rfl⟩ : ∃ x, x = w2 := ⟨_, rfl⟩
  skip
  go_wp2_with fail
  refine (HS.out _ _ _ (OwnSp.at OC0.out) (Own.at OC1.out lenPr)).mono ?_; rintro e w2 ⟨rfl, hb⟩
  clear OC0 LC0
  clear OC1 LC1
  replace HA0 := Lib.hid (HA0.out.below hb)
  replace HA1 := Lib.hid (HA1.out.below hb)
  replace HT := Lib.hid (HT.out.trans (hb.mono HT.out.size))
  have zwE := hb.size; (try simp only [World.size_alloc] at zwE); clear hb; obtain ⟨wE, rfl⟩ : ∃ x, x = w2 := ⟨_, rfl⟩
  go_wp2_with fail
  refine (l_toSpanS _ xs (by omega) _ HA0.out).mono ?_; rintro e w2 ⟨vX0, rfl, OX0, hb⟩
  obtain ⟨yX0o, yX0c, rfl, -, -⟩ := OX0.shape
  have LX0 := Lib.hid (Own.lts OX0); replace OX0 := Lib.hid OX0
  replace HA0 := Lib.hid (HA0.out.below hb)
  replace HA1 := Lib.hid (HA1.out.below hb)
  replace HT := Lib.hid (HT.out.trans (hb.mono HT.out.size))
  have zwF := hb.size; (try simp only [World.size_alloc] at zwF); clear hb; obtain ⟨wF, rfl⟩ : ∃ x, x = w2 := ⟨_, rfl⟩
  skip
  go_wp2_with fail
  refine (l_toPairS _ ps (by omega) _ HA1.out).mono ?_; rintro e w2 ⟨vX1, rfl, OX1, hb⟩
  obtain ⟨yX1o, yX1c, rfl, -, -⟩ := OX1.shape
  have LX1 := Lib.hid (Own.lts OX1); replace OX1 := Lib.hid OX1
  replace OX0 := Lib.hid (Own.below OX0.out hb)
  replace HA0 := Lib.hid (HA0.out.below hb)
  replace HA1 := Lib.hid (HA1.out.below hb)
  replace HT := Lib.hid (HT.out.trans (hb.mono HT.out.size))
  have zwG := hb.size; (try simp only [World.size_alloc] at zwG); clear hb; obtain ⟨wG, rfl⟩ : ∃ x, x = w2 := ⟨_, rfl⟩
  skip
  go_wp2_with fail
  refine (HI.out _ _ _ (OwnSp.at OX0.out) (Own.at OX1.out lenPr)).mono ?_; rintro e w2 ⟨rfl, hb⟩
  replace OX0 := Lib.hid (Own.below OX0.out hb)
  replace OX1 := Lib.hid (Own.below OX1.out hb)
  replace HA0 := Lib.hid (HA0.out.below hb)
  replace HA1 := Lib.hid (HA1.out.below hb)
  replace HT := Lib.hid (HT.out.trans (hb.mono HT.out.size))
  have zwH := hb.size; (try simp only [World.size_alloc] at zwH); clear hb; obtain ⟨wH, rfl⟩ : ∃ x, x = w2 := ⟨_, rfl⟩
  go_wp2_with fail
  refine (l_toSpanS _ xs (by omega) _ HA0.out).mono ?_; rintro e w2 ⟨vE, rfl, OE, hb⟩
  obtain ⟨yEo, yEc, rfl, -, -⟩ := OE.shape
  replace OE := Lib.hid OE
  replace OX0 := Lib.hid (Own.below OX0.out hb)
  replace OX1 := Lib.hid (Own.below OX1.out hb)
  replace HA0 := Lib.hid (HA0.out.below hb)
  replace HA1 := Lib.hid (HA1.out.below hb)
  replace HT := Lib.hid (HT.out.trans (hb.mono HT.out.size))
  have zwI := hb.size; (try simp only [World.size_alloc] at zwI); clear hb; obtain ⟨wI, rfl⟩ : ∃ x, x = w2 := ⟨_, rfl⟩
  go_wp2_with fail
  refine (l_eqSpanS _ _ xs _ (OwnSp.at OX0.out) (OwnSp.at OE.out)).mono ?_; rintro e w2 ⟨rfl, hb⟩
  clear OE
  replace OX0 := Lib.hid (Own.below OX0.out hb)
  replace OX1 := Lib.hid (Own.below OX1.out hb)
  replace HA0 := Lib.hid (HA0.out.below hb)
  replace HA1 := Lib.hid (HA1.out.below hb)
  replace HT := Lib.hid (HT.out.trans (hb.mono HT.out.size))
  have zwJ := hb.size; (try simp only [World.size_alloc] at zwJ); clear hb; obtain ⟨wJ, rfl⟩ : ∃ x, x = w2 := ⟨_, rfl⟩
  go_wp2_with fail
  refine (l_toPairS _ ps (by omega) _ HA1.out).mono ?_; rintro e w2 ⟨vE, rfl, OE, hb⟩
  obtain ⟨yEo, yEc, rfl, -, -⟩ := OE.shape
  replace OE := Lib.hid OE
  replace OX0 := Lib.hid (Own.below OX0.out hb)
  replace OX1 := Lib.hid (Own.below OX1.out hb)
  replace HA0 := Lib.hid (HA0.out.below hb)
  replace HA1 := Lib.hid (HA1.out.below hb)
  replace HT := Lib.hid (HT.out.trans (hb.mono HT.out.size))
  have zwK := hb.size; (try simp only [World.size_alloc] at zwK); clear hb; obtain ⟨wK, rfl⟩ : ∃ x, x = w2 := ⟨_, rfl⟩
  go_wp2_with fail
  refine (l_eqPairS _ _ ps _ (Own.at OX1.out lenPr) (Own.at OE.out lenPr)).mono ?_; rintro e w2 ⟨rfl, hb⟩
  clear OE
  replace OX0 := Lib.hid (Own.below OX0.out hb)
  replace OX1 := Lib.hid (Own.below OX1.out hb)
  replace HA0 := Lib.hid (HA0.out.below hb)
  replace HA1 := Lib.hid (HA1.out.below hb)
  replace HT := Lib.hid (HT.out.trans (hb.mono HT.out.size))
  have zwL := hb.size; (try simp only [World.size_alloc] at zwL); clear hb; obtain ⟨wL, rfl⟩ : ∃ x, x = w2 := ⟨_, rfl⟩
  go_wp2_with fail
  go_ret
  exact ⟨rfl, HT.out⟩

namespace fnExactPairsOk
set_option maxRecDepth 100000 in
theorem contract (H : Type) (enc : TypeId × Value → H) (W : World) (base : Nat) (args : Array Value) (ds gs : List (DataW H)) (before : List MemPlace)
    (hval : ∀ (j : Nat) t v, Try.f5.params[j]? = some t → args[j]? = some v → Value.okWide Try.prog W .any base t v)
    (hW : DataW.Whole enc Try.prog Try.f5.params.toList Rows.fnExactPairsOkSpec.vars false W args.toList ds gs before) :
    Calls Try.prog 5 args W fun e W' => ∃ v, e = .returned v ∧ Rows.fnExactPairsOkSpec.post enc Try.prog Try.f5 false true false false W args v W' := by
  have hW' := hW
  obtain ⟨p, q, hA0, hV, rfl, hfz, hnd⟩ := hW
  have hA : DataW.TrodAll enc Try.prog W 0 (fun _ => true) true Try.f5.params.toList args.toList ds p := hA0
  rw [Try.params5] at hA hval
  obtain ⟨v0, vs0, d0, ds0, p0, q0, hargs, rfl, rfl, h0, r0⟩ := trodAll_cons hA
  obtain ⟨v1, vs1, d1, ds1, p1, q1, rfl, rfl, rfl, h1, r1⟩ := trodAll_cons r0
  obtain ⟨rfl, rfl, rfl⟩ := trodAll_nil r1
  obtain rfl : args = #[v0, v1] := by cases args; simp_all
  obtain ⟨rfl, rfl⟩ := trodVars_none hV
  obtain ⟨xs, hxs⟩ := spans_open Try.underlying33 Try.underlying55 (by kernel_rfl) (by kernel_rfl) Try.underlying3 rfl rfl rfl (hval 0 33 v0 rfl rfl) h0
  obtain ⟨ps, hps⟩ := argPr Try.underlying38 Try.underlying111 (by kernel_rfl) (by kernel_rfl) Try.underlying3 rfl rfl (hval 1 38 v1 rfl rfl) h1
  clear hA0
  refine (w_FnExactPairsOk v0 v1 xs ps W hxs hps).mono fun e W' ⟨he, hg⟩ => ?_
  subst he
  exact ⟨_, rfl, law_post (tb := 4) laidOut (by kernel_rfl) rfl rfl Try.underlying4 hW' rfl rfl rfl hg⟩
set_option maxRecDepth 100000 in
theorem lifted (os : Os) (started : os.Started) (H : Type) (enc : TypeId × Value → H) :
    ReturnsInHanded {} Try.checked os 5 .any (Rows.fnExactPairsOkSpec.pre6 enc Try.prog Try.f5 Rows.fnExactPairsOkRow.domain false) (Rows.fnExactPairsOkSpec.post enc Try.prog Try.f5 false true false false) := by
  refine returnsInHanded_of_change (C := Try.checked) own started (by kernel_rfl) Try.func5
    (ChangeSpec.witness6 (enc := enc) (C := Try.checked) false ⟨#[], #[.slice none 0 0, .slice none 0 0], []⟩ 8 (by kernel_rfl) (by kernel_rfl) (by kernel_rfl) (by kernel_rfl)) ?_
  intro W base args ds gs before hval hW _ _
  exact contract H enc W base args ds gs before hval hW
/-- The statement. -/
theorem proved : Rows.FnExactPairsOkSaid :=
  OpenClaim.holds_of_wide 5 Try.f5 rfl rfl rfl rfl rfl rfl rfl ⟨rfl, rfl, rfl, rfl, rfl⟩ rfl rfl rfl rfl rfl (by kernel_rfl) Try.func5 (by kernel_rfl)
    (of_decide_eq_true (by kernel_rfl)) (by unfold Func.isWrapper; first | (rw [if_pos (by decide +kernel)]; kernel_rfl) | (rw [if_neg (by decide +kernel)]; exact ⟨rfl, rfl⟩))
    (fun os started H enc _ => lifted os started H enc)
end fnExactPairsOk

end Go.Proofs.Ytkdafincnmkjnaa
