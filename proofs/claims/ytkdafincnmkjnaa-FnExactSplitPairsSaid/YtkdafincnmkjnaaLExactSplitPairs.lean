/- 'laws.FnExactSplitPairs' returns true, whatever the arguments: no condition. -/
import Derived.Test.YtkdafincnmkjnaaSplitS
import Derived.Test.YtkdafincnmkjnaaFamSp
import Derived.Test.YtkdafincnmkjnaaOwnL
import Derived.Test.YtkdafincnmkjnaaBox
set_option linter.unusedVariables false
set_option linter.unusedSimpArgs false
namespace Go.Proofs.Ytkdafincnmkjnaa
open Go.ChangeShapes Go.WideShapes Go.ChangeAt Go.RowKit
theorem splitP_le (xs : List Sp) (seed tries : Int) : (splitP xs seed tries).length ≤ 256 := by
  unfold splitP
  cases h : splitOk xs seed tries with
  | false => simp
  | true =>
    rw [if_pos rfl]
    obtain ⟨h16, c1, c2⟩ := splitOk_parts h
    have bt := between_iff.1 c1
    have := spAll_le xs (shufL seed xs.length) (by rw [shufL_len c2 (by omega)]; exact h16) tries.toNat
    omega
set_option maxRecDepth 100000 in
set_option maxHeartbeats 12800000 in
theorem w_FnExactSplitPairs (va : Value) (xs : List Sp) (seed tries : Int) (w : World) (ha0 : SpansAt w va xs) : Calls Try.prog 7 #[va, .int .i64 seed, .int .i64 tries] w fun e w' => e = .returned (.bool true) ∧ Below w.heap.size w w' := by
  skip
  have HAw0 := Lib.hid ha0; have HA0 := Lib.hid ha0
  obtain ⟨ao0, ca0, hv0, hl0, hm0⟩ := ha0.shape
  have hlm0 := Nat.le_trans hl0 hm0; clear hl0 hm0; subst hv0
  have hl90 : xs.length ≤ 9223372036854775807 := by unfold maxLen at hlm0; omega
  have HT := Lib.hid (Below.refl w.heap.size w)
  clear ha0
  by_cases hS0 : xs.length ≤ 1048576
  rotate_left
  · (have hall := all_nil w; go_enter Try.func7, Try.ntmps7)
    go_wp2_with (first | (go_at_call 23; (refine (szSpanS' _ _ _ (by omega) _ (by omega) _).mono ?_; rintro e w2 ⟨rfl, hb⟩; rw [szRes_neg (by omega)])))
    go_ret
    exact ⟨rfl, by exact bel⟩
  have hrl := splitP_le xs seed tries
  have HI := Lib.hid (fun y w (h : SpansAt w y xs) => i_SplitPairs y xs seed tries w h)
  have HS := Lib.hid (fun y w (h : SpansAt w y xs) => s_SplitPairs y xs seed tries w h)
  unfold NewSplit at HI HS
  generalize splitP xs seed tries = rs at *
  generalize splitS xs seed tries = rz at *
  (have hall := all_nil w; go_enter Try.func7, Try.ntmps7)
  go_wp2_with fail
  refine (szSpanS' _ _ _ (by omega) _ (by omega) _).mono ?_; rintro e w2 ⟨rfl, hb⟩
  rw [szRes_pos (by omega)]
  replace HA0 := Lib.hid (HA0.out.below hb)
  replace HT := Lib.hid (HT.out.trans (hb.mono HT.out.size))
  have zwA := hb.size; (try simp only [World.size_alloc] at zwA); clear hb; obtain ⟨wA, rfl⟩ : ∃ x, x = w2 := ⟨_, rfl⟩
  go_wp2_with fail
  refine (l_toSpanS _ xs (by omega) _ HA0.out).mono ?_; rintro e w2 ⟨vC0, rfl, OC0, hb⟩
  obtain ⟨yC0o, yC0c, rfl, -, -⟩ := OC0.shape
  have LC0 := Lib.hid (Own.lts OC0); replace OC0 := Lib.hid OC0
  replace HA0 := Lib.hid (HA0.out.below hb)
  replace HT := Lib.hid (HT.out.trans (hb.mono HT.out.size))
  have zwB := hb.size; (try simp only [World.size_alloc] at zwB); clear hb; obtain ⟨wB, rfl⟩ : ∃ x, x = w2 := ⟨_, rfl⟩
  skip
  go_wp2_with fail
  refine (HS.out _ _ (OwnSp.at OC0.out)).mono ?_; rintro e w2 ⟨vW0, rfl, OW0, hb⟩
  obtain ⟨yW0o, yW0c, rfl, -, -⟩ := OW0.shape
  have LW0 := Lib.hid (Own.lts OW0); replace OW0 := Lib.hid OW0
  clear OC0 LC0
  replace HA0 := Lib.hid (HA0.out.below hb)
  replace HT := Lib.hid (HT.out.trans (hb.mono HT.out.size))
  have zwC := hb.size; (try simp only [World.size_alloc] at zwC); clear hb; obtain ⟨wC, rfl⟩ : ∃ x, x = w2 := ⟨_, rfl⟩
  go_wp2_with fail
  refine (l_toSpanS _ xs (by omega) _ HA0.out).mono ?_; rintro e w2 ⟨vX0, rfl, OX0, hb⟩
  obtain ⟨yX0o, yX0c, rfl, -, -⟩ := OX0.shape
  have LX0 := Lib.hid (Own.lts OX0); replace OX0 := Lib.hid OX0
  replace OW0 := Lib.hid (Own.below OW0.out hb)
  replace HA0 := Lib.hid (HA0.out.below hb)
  replace HT := Lib.hid (HT.out.trans (hb.mono HT.out.size))
  have zwD := hb.size; (try simp only [World.size_alloc] at zwD); clear hb; obtain ⟨wD, rfl⟩ : ∃ x, x = w2 := ⟨_, rfl⟩
  skip
  go_wp2_with fail
  refine (HI.out _ _ (OwnSp.at OX0.out)).mono ?_; rintro e w2 ⟨vG0, rfl, OG0, hb⟩
  obtain ⟨yG0o, yG0c, rfl, -, -⟩ := OG0.shape
  have LG0 := Lib.hid (Own.lts OG0); replace OG0 := Lib.hid OG0
  replace OW0 := Lib.hid (Own.below OW0.out hb)
  replace OX0 := Lib.hid (Own.below OX0.out hb)
  replace HA0 := Lib.hid (HA0.out.below hb)
  replace HT := Lib.hid (HT.out.trans (hb.mono HT.out.size))
  have zwE := hb.size; (try simp only [World.size_alloc] at zwE); clear hb; obtain ⟨wE, rfl⟩ : ∃ x, x = w2 := ⟨_, rfl⟩
  go_wp2_with fail
  refine (l_eqPairS _ _ rs _ (Own.at OG0.out lenPr) (Own.at OW0.out lenPr)).mono ?_; rintro e w2 ⟨rfl, hb⟩
  replace OW0 := Lib.hid (Own.below OW0.out hb)
  replace OX0 := Lib.hid (Own.below OX0.out hb)
  replace OG0 := Lib.hid (Own.below OG0.out hb)
  replace HA0 := Lib.hid (HA0.out.below hb)
  replace HT := Lib.hid (HT.out.trans (hb.mono HT.out.size))
  have zwF := hb.size; (try simp only [World.size_alloc] at zwF); clear hb; obtain ⟨wF, rfl⟩ : ∃ x, x = w2 := ⟨_, rfl⟩
  go_wp2_with fail
  refine (l_toSpanS _ xs (by omega) _ HA0.out).mono ?_; rintro e w2 ⟨vE, rfl, OE, hb⟩
  obtain ⟨yEo, yEc, rfl, -, -⟩ := OE.shape
  replace OE := Lib.hid OE
  replace OW0 := Lib.hid (Own.below OW0.out hb)
  replace OX0 := Lib.hid (Own.below OX0.out hb)
  replace OG0 := Lib.hid (Own.below OG0.out hb)
  replace HA0 := Lib.hid (HA0.out.below hb)
  replace HT := Lib.hid (HT.out.trans (hb.mono HT.out.size))
  have zwG := hb.size; (try simp only [World.size_alloc] at zwG); clear hb; obtain ⟨wG, rfl⟩ : ∃ x, x = w2 := ⟨_, rfl⟩
  go_wp2_with fail
  refine (l_eqSpanS _ _ xs _ (OwnSp.at OX0.out) (OwnSp.at OE.out)).mono ?_; rintro e w2 ⟨rfl, hb⟩
  clear OE
  replace OW0 := Lib.hid (Own.below OW0.out hb)
  replace OX0 := Lib.hid (Own.below OX0.out hb)
  replace OG0 := Lib.hid (Own.below OG0.out hb)
  replace HA0 := Lib.hid (HA0.out.below hb)
  replace HT := Lib.hid (HT.out.trans (hb.mono HT.out.size))
  have zwH := hb.size; (try simp only [World.size_alloc] at zwH); clear hb; obtain ⟨wH, rfl⟩ : ∃ x, x = w2 := ⟨_, rfl⟩
  go_wp2_with fail
  refine (l_markSpanS _ _ xs 1 (by omega) _ OX0.out).mono ?_; rintro e w2 ⟨rfl, OM, hgr⟩
  have ht := grown_touch (S := blocks [_]) hgr fun g hg => mem_one hg; clear hgr
  replace OW0 := Lib.hid (Own.touchs OW0.out ht (fun g hg hm => by (have h1 := LW0.out g hg; have h2 := LX0.out _ hm; (try simp only [World.size_alloc] at h1 h2); omega)))
  replace OG0 := Lib.hid (Own.touchs OG0.out ht (fun g hg hm => by (have h1 := LG0.out g hg; have h2 := LX0.out _ hm; (try simp only [World.size_alloc] at h1 h2); omega)))
  have hb := ht.toBelow (B := w.heap.size) (fun g hg => by have h2 := LX0.out _ hg; (try simp only [World.size_alloc] at h2); omega) (by omega)
  replace HA0 := Lib.hid (SpansAt.below HAw0.out (HT.out.trans hb))
  replace HT := Lib.hid (HT.out.trans hb)
  have zwI := ht.size; clear ht hb; obtain ⟨wI, rfl⟩ : ∃ x, x = w2 := ⟨_, rfl⟩
  clear OX0
  clear OM
  go_wp2_with fail
  refine (l_eqPairS _ _ rs _ (Own.at OG0.out lenPr) (Own.at OW0.out lenPr)).mono ?_; rintro e w2 ⟨rfl, hb⟩
  replace OW0 := Lib.hid (Own.below OW0.out hb)
  replace OG0 := Lib.hid (Own.below OG0.out hb)
  replace HA0 := Lib.hid (HA0.out.below hb)
  replace HT := Lib.hid (HT.out.trans (hb.mono HT.out.size))
  have zwJ := hb.size; (try simp only [World.size_alloc] at zwJ); clear hb; obtain ⟨wJ, rfl⟩ : ∃ x, x = w2 := ⟨_, rfl⟩
  go_wp2_with fail
  refine (l_markPairS _ _ rs 1 (by omega) _ OG0.out).mono ?_; rintro e w2 ⟨rfl, OM, hgr⟩
  have ht := grown_touch (S := blocks [_]) hgr fun g hg => mem_one hg; clear hgr
  replace OW0 := Lib.hid (Own.touchs OW0.out ht (fun g hg hm => by (have h1 := LW0.out g hg; have h2 := LG0.out _ hm; (try simp only [World.size_alloc] at h1 h2); omega)))
  have hb := ht.toBelow (B := w.heap.size) (fun g hg => by have h2 := LG0.out _ hg; (try simp only [World.size_alloc] at h2); omega) (by omega)
  replace HA0 := Lib.hid (SpansAt.below HAw0.out (HT.out.trans hb))
  replace HT := Lib.hid (HT.out.trans hb)
  have zwK := ht.size; clear ht hb; obtain ⟨wK, rfl⟩ : ∃ x, x = w2 := ⟨_, rfl⟩
  clear OG0
  have OG0 := Lib.hid OM; clear OM
  go_wp2_with fail
  refine (l_heldPairS _ rs.length 1 (by omega) _ (Own.at OG0.out lenPr)).mono ?_; rintro e w2 ⟨rfl, hb⟩
  replace OW0 := Lib.hid (Own.below OW0.out hb)
  replace OG0 := Lib.hid (Own.below OG0.out hb)
  replace HA0 := Lib.hid (HA0.out.below hb)
  replace HT := Lib.hid (HT.out.trans (hb.mono HT.out.size))
  have zwL := hb.size; (try simp only [World.size_alloc] at zwL); clear hb; obtain ⟨wL, rfl⟩ : ∃ x, x = w2 := ⟨_, rfl⟩
  go_wp2_with fail
  refine (l_toSpanS _ xs (by omega) _ HA0.out).mono ?_; rintro e w2 ⟨vC0, rfl, OC0, hb⟩
  obtain ⟨yC0o, yC0c, rfl, -, -⟩ := OC0.shape
  have LC0 := Lib.hid (Own.lts OC0); replace OC0 := Lib.hid OC0
  replace OW0 := Lib.hid (Own.below OW0.out hb)
  replace OG0 := Lib.hid (Own.below OG0.out hb)
  replace HA0 := Lib.hid (HA0.out.below hb)
  replace HT := Lib.hid (HT.out.trans (hb.mono HT.out.size))
  have zwM := hb.size; (try simp only [World.size_alloc] at zwM); clear hb; obtain ⟨wM, rfl⟩ : ∃ x, x = w2 := ⟨_, rfl⟩
  skip
  go_wp2_with fail
  refine (HI.out _ _ (OwnSp.at OC0.out)).mono ?_; rintro e w2 ⟨vH0, rfl, OH0, hb⟩
  obtain ⟨yH0o, yH0c, rfl, -, -⟩ := OH0.shape
  have LH0 := Lib.hid (Own.lts OH0); replace OH0 := Lib.hid OH0
  clear OC0 LC0
  replace OW0 := Lib.hid (Own.below OW0.out hb)
  replace OG0 := Lib.hid (Own.below OG0.out hb)
  replace HA0 := Lib.hid (HA0.out.below hb)
  replace HT := Lib.hid (HT.out.trans (hb.mono HT.out.size))
  have zwN := hb.size; (try simp only [World.size_alloc] at zwN); clear hb; obtain ⟨wN, rfl⟩ : ∃ x, x = w2 := ⟨_, rfl⟩
  go_wp2_with fail
  refine (l_eqPairS _ _ rs _ (Own.at OH0.out lenPr) (Own.at OW0.out lenPr)).mono ?_; rintro e w2 ⟨rfl, hb⟩
  replace OW0 := Lib.hid (Own.below OW0.out hb)
  replace OG0 := Lib.hid (Own.below OG0.out hb)
  replace OH0 := Lib.hid (Own.below OH0.out hb)
  replace HA0 := Lib.hid (HA0.out.below hb)
  replace HT := Lib.hid (HT.out.trans (hb.mono HT.out.size))
  have zwO := hb.size; (try simp only [World.size_alloc] at zwO); clear hb; obtain ⟨wO, rfl⟩ : ∃ x, x = w2 := ⟨_, rfl⟩
  go_wp2_with fail
  refine (l_heldPairS _ rs.length 1 (by omega) _ (Own.at OG0.out lenPr)).mono ?_; rintro e w2 ⟨rfl, hb⟩
  replace OW0 := Lib.hid (Own.below OW0.out hb)
  replace OG0 := Lib.hid (Own.below OG0.out hb)
  replace OH0 := Lib.hid (Own.below OH0.out hb)
  replace HA0 := Lib.hid (HA0.out.below hb)
  replace HT := Lib.hid (HT.out.trans (hb.mono HT.out.size))
  have zwP := hb.size; (try simp only [World.size_alloc] at zwP); clear hb; obtain ⟨wP, rfl⟩ : ∃ x, x = w2 := ⟨_, rfl⟩
  go_wp2_with fail
  go_ret
  exact ⟨rfl, HT.out⟩

namespace fnExactSplitPairs
set_option maxRecDepth 100000 in
theorem contract (H : Type) (enc : TypeId × Value → H) (W : World) (base : Nat) (args : Array Value) (ds gs : List (DataW H)) (before : List MemPlace)
    (hval : ∀ (j : Nat) t v, Try.f7.params[j]? = some t → args[j]? = some v → Value.okWide Try.prog W .any base t v)
    (hW : DataW.Whole enc Try.prog Try.f7.params.toList Rows.fnExactSplitPairsSpec.vars false W args.toList ds gs before) :
    Calls Try.prog 7 args W fun e W' => ∃ v, e = .returned v ∧ Rows.fnExactSplitPairsSpec.post enc Try.prog Try.f7 false true false false W args v W' := by
  have hW' := hW
  obtain ⟨p, q, hA0, hV, rfl, hfz, hnd⟩ := hW
  have hA : DataW.TrodAll enc Try.prog W 0 (fun _ => true) true Try.f7.params.toList args.toList ds p := hA0
  rw [Try.params7] at hA hval
  obtain ⟨v0, vs0, d0, ds0, p0, q0, hargs, rfl, rfl, h0, r0⟩ := trodAll_cons hA
  obtain ⟨v1, vs1, d1, ds1, p1, q1, rfl, rfl, rfl, h1, r1⟩ := trodAll_cons r0
  obtain ⟨v2, vs2, d2, ds2, p2, q2, rfl, rfl, rfl, h2, r2⟩ := trodAll_cons r1
  obtain ⟨rfl, rfl, rfl⟩ := trodAll_nil r2
  obtain rfl : args = #[v0, v1, v2] := by cases args; simp_all
  obtain ⟨rfl, rfl⟩ := trodVars_none hV
  obtain ⟨xs, hxs⟩ := spans_open Try.underlying33 Try.underlying55 (by kernel_rfl) (by kernel_rfl) Try.underlying3 rfl rfl rfl (hval 0 33 v0 rfl rfl) h0
  obtain ⟨seed, rfl, rfl, rfl, wseed⟩ := open_int Try.underlying3 (hval 1 3 v1 rfl rfl) h1
  obtain ⟨tries, rfl, rfl, rfl, wtries⟩ := open_int Try.underlying3 (hval 2 3 v2 rfl rfl) h2
  clear hA0
  refine (w_FnExactSplitPairs v0 xs seed tries W hxs).mono fun e W' ⟨he, hg⟩ => ?_
  subst he
  exact ⟨_, rfl, law_post (tb := 4) laidOut (by kernel_rfl) rfl rfl Try.underlying4 hW' rfl rfl rfl hg⟩
set_option maxRecDepth 100000 in
theorem lifted (os : Os) (started : os.Started) (H : Type) (enc : TypeId × Value → H) :
    ReturnsInHanded {} Try.checked os 7 .any (Rows.fnExactSplitPairsSpec.pre6 enc Try.prog Try.f7 Rows.fnExactSplitPairsRow.domain false) (Rows.fnExactSplitPairsSpec.post enc Try.prog Try.f7 false true false false) := by
  refine returnsInHanded_of_change (C := Try.checked) own started (by kernel_rfl) Try.func7
    (ChangeSpec.witness6 (enc := enc) (C := Try.checked) false ⟨#[], #[.slice none 0 0, .int .i64 0, .int .i64 0], []⟩ 8 (by kernel_rfl) (by kernel_rfl) (by kernel_rfl) (by kernel_rfl)) ?_
  intro W base args ds gs before hval hW _ _
  exact contract H enc W base args ds gs before hval hW
/-- The statement. -/
theorem proved : Rows.FnExactSplitPairsSaid :=
  OpenClaim.holds_of_wide 7 Try.f7 rfl rfl rfl rfl rfl rfl rfl ⟨rfl, rfl, rfl, rfl, rfl⟩ rfl rfl rfl rfl rfl (by kernel_rfl) Try.func7 (by kernel_rfl)
    (of_decide_eq_true (by kernel_rfl)) (by unfold Func.isWrapper; first | (rw [if_pos (by decide +kernel)]; kernel_rfl) | (rw [if_neg (by decide +kernel)]; exact ⟨rfl, rfl⟩))
    (fun os started H enc _ => lifted os started H enc)
end fnExactSplitPairs

end Go.Proofs.Ytkdafincnmkjnaa
