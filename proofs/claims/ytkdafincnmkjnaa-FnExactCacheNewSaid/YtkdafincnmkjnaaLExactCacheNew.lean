/- 'laws.FnExactCacheNew' returns true: no condition. -/
import Derived.Test.YtkdafincnmkjnaaCache
import Derived.Test.YtkdafincnmkjnaaBox
import Derived.Test.YtkdafincnmkjnaaFrame
set_option linter.unusedVariables false
set_option linter.unusedSimpArgs false
namespace Go.Proofs.Ytkdafincnmkjnaa
open Go.ChangeShapes Go.WideShapes Go.ChangeAt Go.RowKit
set_option maxRecDepth 100000 in
set_option maxHeartbeats 12800000 in
theorem w_FnExactCacheNew  (w : World) : Calls Try.prog 12 #[] w fun e w' => e = .returned (.bool true) ∧ Below w.heap.size w w' := by
  
  have HT := Lib.hid (Below.refl w.heap.size w)
  have hrl : tot (List.replicate 4 ([] : List Int)) = 0 := rfl
  have HI := Lib.hid (fun w => i_CacheNew w)
  have HS := Lib.hid (fun w => s_CacheNew w)
  generalize (List.replicate 4 ([] : List Int)) = rows at *
  have hrl2 : tot rows ≤ 16 := by omega
  clear hrl
  (have hall := all_nil w; go_enter Try.func12, Try.ntmps12)
  go_wp2_with fail
  refine (HS.out _ ).mono ?_; rintro e w2 ⟨vW0, uW0, rfl, OW0, hb⟩
  obtain ⟨yW0o, yW0c, rfl⟩ := COwn.shape OW0
  have LW0 := Lib.hid (COwn.lts OW0); replace OW0 := Lib.hid OW0
  replace HT := Lib.hid (HT.out.trans (hb.mono HT.out.size))
  have zwA := hb.size; (try simp only [World.size_alloc] at zwA); clear hb; obtain ⟨wA, rfl⟩ : ∃ x, x = w2 := ⟨_, rfl⟩
  replace OW0 := Lib.hid (COwn.below OW0.out ((Below.refl _ wA).alloc (Nat.le_refl _) (.cells #[.slice yW0o uW0.length yW0c] 73)))
  replace HT := Lib.hid (HT.out.trans (((Below.refl _ wA).alloc (Nat.le_refl _) (.cells #[.slice yW0o uW0.length yW0c] 73)).mono HT.out.size))
  have BW0 : Hid (BoxAt (wA.alloc (.cells #[.slice yW0o uW0.length yW0c] 73)) (wA.heap.size) [.slice yW0o uW0.length yW0c]) := (BoxAt.snoc (BoxAt.nil (w := wA.alloc (.cells #[.slice yW0o uW0.length yW0c] 73)) (g := wA.heap.size) (by go_simp)) (v := .slice yW0o uW0.length yW0c) (i := 0) rfl (by go_simp) (by go_simp))
  go_wp2_with fail
  refine (HI.out _ ).mono ?_; rintro e w2 ⟨vG0, uG0, rfl, OG0, hb⟩
  obtain ⟨yG0o, yG0c, rfl⟩ := COwn.shape OG0
  have LG0 := Lib.hid (COwn.lts OG0); replace OG0 := Lib.hid OG0
  replace BW0 := Lib.hid (BW0.out.below hb)
  replace OW0 := Lib.hid (COwn.below OW0.out hb)
  replace HT := Lib.hid (HT.out.trans (hb.mono HT.out.size))
  have zwB := hb.size; (try simp only [World.size_alloc] at zwB); clear hb; obtain ⟨wB, rfl⟩ : ∃ x, x = w2 := ⟨_, rfl⟩
  replace BW0 := Lib.hid (BW0.out.below ((Below.refl _ wB).alloc (Nat.le_refl _) (.cells #[.slice yG0o uG0.length yG0c] 73)))
  replace OW0 := Lib.hid (COwn.below OW0.out ((Below.refl _ wB).alloc (Nat.le_refl _) (.cells #[.slice yG0o uG0.length yG0c] 73)))
  replace OG0 := Lib.hid (COwn.below OG0.out ((Below.refl _ wB).alloc (Nat.le_refl _) (.cells #[.slice yG0o uG0.length yG0c] 73)))
  replace HT := Lib.hid (HT.out.trans (((Below.refl _ wB).alloc (Nat.le_refl _) (.cells #[.slice yG0o uG0.length yG0c] 73)).mono HT.out.size))
  have BG0 : Hid (BoxAt (wB.alloc (.cells #[.slice yG0o uG0.length yG0c] 73)) (wB.heap.size) [.slice yG0o uG0.length yG0c]) := (BoxAt.snoc (BoxAt.nil (w := wB.alloc (.cells #[.slice yG0o uG0.length yG0c] 73)) (g := wB.heap.size) (by go_simp)) (v := .slice yG0o uG0.length yG0c) (i := 0) rfl (by go_simp) (by go_simp))
  have cG00 := (BG0.out.cells 0 _ rfl).1; have fG00 := (BG0.out.cells 0 _ rfl).2
  have xG0 := BG0.out.lt
  have cW00 := (BW0.out.cells 0 _ rfl).1; have fW00 := (BW0.out.cells 0 _ rfl).2
  have xW0 := BW0.out.lt
  go_wp2_with fail
  refine (l_eqCache _ _ _ _ _ _ rows _ OG0.out OW0.out).mono ?_; rintro e w2 ⟨rfl, hb⟩
  clear xG0 cG00 fG00
  clear xW0 cW00 fW00
  replace BW0 := Lib.hid (BW0.out.below hb)
  replace BG0 := Lib.hid (BG0.out.below hb)
  replace OW0 := Lib.hid (COwn.below OW0.out hb)
  replace OG0 := Lib.hid (COwn.below OG0.out hb)
  replace HT := Lib.hid (HT.out.trans (hb.mono HT.out.size))
  have zwC := hb.size; (try simp only [World.size_alloc] at zwC); clear hb; obtain ⟨wC, rfl⟩ : ∃ x, x = w2 := ⟨_, rfl⟩
  have cG00 := (BG0.out.cells 0 _ rfl).1; have fG00 := (BG0.out.cells 0 _ rfl).2
  have xG0 := BG0.out.lt
  go_wp2_with fail
  refine (l_markCache _ _ _ rows 1 (by omega) _ OG0.out).mono ?_; rintro e w2 ⟨rfl, OM, ht⟩
  clear xG0 cG00 fG00
  replace BW0 := Lib.hid (BW0.out.touch ht (fun hm => by have := LG0.out _ hm; (try simp only [World.size_alloc] at this); omega))
  replace BG0 := Lib.hid (BG0.out.touch ht (fun hm => by have := LG0.out _ hm; (try simp only [World.size_alloc] at this); omega))
  replace OW0 := Lib.hid (COwn.touch OW0.out ht (fun g hg hm => by (have h1 := LW0.out g hg; have h2 := LG0.out _ hm; (try simp only [World.size_alloc] at h1 h2); omega)))
  have hb := ht.toBelow (B := w.heap.size) (fun g hg => by have h2 := LG0.out _ hg; (try simp only [World.size_alloc] at h2); omega) (by omega)
  replace HT := Lib.hid (HT.out.trans hb)
  have zwD := ht.size; clear ht hb; obtain ⟨wD, rfl⟩ : ∃ x, x = w2 := ⟨_, rfl⟩
  clear OG0
  have OG0 := Lib.hid OM; clear OM
  have cG00 := (BG0.out.cells 0 _ rfl).1; have fG00 := (BG0.out.cells 0 _ rfl).2
  have xG0 := BG0.out.lt
  go_wp2_with fail
  refine (l_heldCache _ _ _ rows 1 (by omega) _ OG0.out).mono ?_; rintro e w2 ⟨rfl, hb⟩
  clear xG0 cG00 fG00
  replace BW0 := Lib.hid (BW0.out.below hb)
  replace BG0 := Lib.hid (BG0.out.below hb)
  replace OW0 := Lib.hid (COwn.below OW0.out hb)
  replace OG0 := Lib.hid (COwn.below OG0.out hb)
  replace HT := Lib.hid (HT.out.trans (hb.mono HT.out.size))
  have zwE := hb.size; (try simp only [World.size_alloc] at zwE); clear hb; obtain ⟨wE, rfl⟩ : ∃ x, x = w2 := ⟨_, rfl⟩
  go_wp2_with fail
  refine (HI.out _ ).mono ?_; rintro e w2 ⟨vH0, uH0, rfl, OH0, hb⟩
  obtain ⟨yH0o, yH0c, rfl⟩ := COwn.shape OH0
  have LH0 := Lib.hid (COwn.lts OH0); replace OH0 := Lib.hid OH0
  replace BW0 := Lib.hid (BW0.out.below hb)
  replace BG0 := Lib.hid (BG0.out.below hb)
  replace OW0 := Lib.hid (COwn.below OW0.out hb)
  replace OG0 := Lib.hid (COwn.below OG0.out hb)
  replace HT := Lib.hid (HT.out.trans (hb.mono HT.out.size))
  have zwF := hb.size; (try simp only [World.size_alloc] at zwF); clear hb; obtain ⟨wF, rfl⟩ : ∃ x, x = w2 := ⟨_, rfl⟩
  replace BW0 := Lib.hid (BW0.out.below ((Below.refl _ wF).alloc (Nat.le_refl _) (.cells #[.slice yH0o uH0.length yH0c] 73)))
  replace BG0 := Lib.hid (BG0.out.below ((Below.refl _ wF).alloc (Nat.le_refl _) (.cells #[.slice yH0o uH0.length yH0c] 73)))
  replace OW0 := Lib.hid (COwn.below OW0.out ((Below.refl _ wF).alloc (Nat.le_refl _) (.cells #[.slice yH0o uH0.length yH0c] 73)))
  replace OG0 := Lib.hid (COwn.below OG0.out ((Below.refl _ wF).alloc (Nat.le_refl _) (.cells #[.slice yH0o uH0.length yH0c] 73)))
  replace OH0 := Lib.hid (COwn.below OH0.out ((Below.refl _ wF).alloc (Nat.le_refl _) (.cells #[.slice yH0o uH0.length yH0c] 73)))
  replace HT := Lib.hid (HT.out.trans (((Below.refl _ wF).alloc (Nat.le_refl _) (.cells #[.slice yH0o uH0.length yH0c] 73)).mono HT.out.size))
  have BH0 : Hid (BoxAt (wF.alloc (.cells #[.slice yH0o uH0.length yH0c] 73)) (wF.heap.size) [.slice yH0o uH0.length yH0c]) := (BoxAt.snoc (BoxAt.nil (w := wF.alloc (.cells #[.slice yH0o uH0.length yH0c] 73)) (g := wF.heap.size) (by go_simp)) (v := .slice yH0o uH0.length yH0c) (i := 0) rfl (by go_simp) (by go_simp))
  have cH00 := (BH0.out.cells 0 _ rfl).1; have fH00 := (BH0.out.cells 0 _ rfl).2
  have xH0 := BH0.out.lt
  have cW00 := (BW0.out.cells 0 _ rfl).1; have fW00 := (BW0.out.cells 0 _ rfl).2
  have xW0 := BW0.out.lt
  go_wp2_with fail
  refine (l_eqCache _ _ _ _ _ _ rows _ OH0.out OW0.out).mono ?_; rintro e w2 ⟨rfl, hb⟩
  clear xH0 cH00 fH00
  clear xW0 cW00 fW00
  replace BW0 := Lib.hid (BW0.out.below hb)
  replace BG0 := Lib.hid (BG0.out.below hb)
  replace BH0 := Lib.hid (BH0.out.below hb)
  replace OW0 := Lib.hid (COwn.below OW0.out hb)
  replace OG0 := Lib.hid (COwn.below OG0.out hb)
  replace OH0 := Lib.hid (COwn.below OH0.out hb)
  replace HT := Lib.hid (HT.out.trans (hb.mono HT.out.size))
  have zwG := hb.size; (try simp only [World.size_alloc] at zwG); clear hb; obtain ⟨wG, rfl⟩ : ∃ x, x = w2 := ⟨_, rfl⟩
  have cG00 := (BG0.out.cells 0 _ rfl).1; have fG00 := (BG0.out.cells 0 _ rfl).2
  have xG0 := BG0.out.lt
  go_wp2_with fail
  refine (l_heldCache _ _ _ rows 1 (by omega) _ OG0.out).mono ?_; rintro e w2 ⟨rfl, hb⟩
  clear xG0 cG00 fG00
  replace BW0 := Lib.hid (BW0.out.below hb)
  replace BG0 := Lib.hid (BG0.out.below hb)
  replace BH0 := Lib.hid (BH0.out.below hb)
  replace OW0 := Lib.hid (COwn.below OW0.out hb)
  replace OG0 := Lib.hid (COwn.below OG0.out hb)
  replace OH0 := Lib.hid (COwn.below OH0.out hb)
  replace HT := Lib.hid (HT.out.trans (hb.mono HT.out.size))
  have zwH := hb.size; (try simp only [World.size_alloc] at zwH); clear hb; obtain ⟨wH, rfl⟩ : ∃ x, x = w2 := ⟨_, rfl⟩
  go_wp2_with fail
  go_ret
  exact ⟨rfl, HT.out⟩

namespace fnExactCacheNew
set_option maxRecDepth 100000 in
theorem contract (H : Type) (enc : TypeId × Value → H) (W : World) (base : Nat) (args : Array Value) (ds gs : List (DataW H)) (before : List MemPlace)
    (hval : ∀ (j : Nat) t v, Try.f12.params[j]? = some t → args[j]? = some v → Value.okWide Try.prog W .any base t v)
    (hW : DataW.Whole enc Try.prog Try.f12.params.toList Rows.fnExactCacheNewSpec.vars false W args.toList ds gs before) :
    Calls Try.prog 12 args W fun e W' => ∃ v, e = .returned v ∧ Rows.fnExactCacheNewSpec.post enc Try.prog Try.f12 false true false false W args v W' := by
  have hW' := hW
  obtain ⟨p, q, hA0, hV, rfl, hfz, hnd⟩ := hW
  have hA : DataW.TrodAll enc Try.prog W 0 (fun _ => true) true Try.f12.params.toList args.toList ds p := hA0
  rw [Try.params12] at hA hval
  obtain ⟨hargs, rfl, rfl⟩ := trodAll_nil hA
  obtain rfl : args = #[] := by cases args; simp_all
  obtain ⟨rfl, rfl⟩ := trodVars_none hV
  clear hA0
  refine (w_FnExactCacheNew W).mono fun e W' ⟨he, hg⟩ => ?_
  subst he
  exact ⟨_, rfl, law_post (tb := 4) laidOut (by kernel_rfl) rfl rfl Try.underlying4 hW' rfl rfl rfl hg⟩
set_option maxRecDepth 100000 in
theorem lifted (os : Os) (started : os.Started) (H : Type) (enc : TypeId × Value → H) :
    ReturnsInHanded {} Try.checked os 12 .any (Rows.fnExactCacheNewSpec.pre6 enc Try.prog Try.f12 Rows.fnExactCacheNewRow.domain false) (Rows.fnExactCacheNewSpec.post enc Try.prog Try.f12 false true false false) := by
  refine returnsInHanded_of_change (C := Try.checked) own started (by kernel_rfl) Try.func12
    (ChangeSpec.witness6 (enc := enc) (C := Try.checked) false ⟨#[], #[], []⟩ 8 (by kernel_rfl) (by kernel_rfl) (by kernel_rfl) (by kernel_rfl)) ?_
  intro W base args ds gs before hval hW _ _
  exact contract H enc W base args ds gs before hval hW
/-- The statement. -/
theorem proved : Rows.FnExactCacheNewSaid :=
  OpenClaim.holds_of_wide 12 Try.f12 rfl rfl rfl rfl rfl rfl rfl ⟨rfl, rfl, rfl, rfl, rfl⟩ rfl rfl rfl rfl rfl (by kernel_rfl) Try.func12 (by kernel_rfl)
    (of_decide_eq_true (by kernel_rfl)) (by unfold Func.isWrapper; first | (rw [if_pos (by decide +kernel)]; kernel_rfl) | (rw [if_neg (by decide +kernel)]; exact ⟨rfl, rfl⟩))
    (fun os started H enc _ => lifted os started H enc)
end fnExactCacheNew

end Go.Proofs.Ytkdafincnmkjnaa
