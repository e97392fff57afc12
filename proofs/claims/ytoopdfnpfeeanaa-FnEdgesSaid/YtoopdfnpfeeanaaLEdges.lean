/- 'laws.FnEdges' returns true, whatever the bytes: no condition. -/
import Derived.Test.YtoopdfnpfeeanaaEdgeLaw
set_option linter.unusedVariables false
set_option linter.unusedSimpArgs false
namespace Go.Proofs.Ytoopdfnpfeeanaa
open Go.ChangeShapes Go.WideShapes Go.ChangeAt Go.RowKit
set_option maxHeartbeats 1600000 in
theorem w_FnEdges (v : Value) (n : Nat) (w : World) (hv : BytesAt w.heap.size w v n) : Calls Try.prog 10 #[v] w fun e w' => e = .returned (.bool true) ∧ Below w.heap.size w w' := by
  have HV := Lib.hid hv; clear hv
  by_cases hbig : (1048576 : Int) < n
  · (have hall := all_nil w; go_enter Try.func10, Try.ntmps10)
    go_wp2_with (go_at_call 18; refine (l_big _ n _ HV.out).mono ?_; rintro e w1 ⟨rfl, rfl⟩)
    all_goals (go_ret; refine ⟨by simp_all [], ?_⟩; exact bel)
  · (have hall := all_nil w; go_enter Try.func10, Try.ntmps10)
    go_wp2_with (go_at_call 18; refine (l_big _ n _ HV.out).mono ?_; rintro e w1 ⟨rfl, rfl⟩)
    refine (s_DrawSpans _ n _ HV.out).mono ?_; rintro e w2 ⟨lv, xs, rfl, hl8, hown, hb⟩
    obtain ⟨vo, vc, rfl, hvc, hvm, -⟩ := hown.shape
    have hat := hown.at
    have HA := Lib.hid hat
    have HB := Lib.hid hb
    have HE := Lib.hid (fun w h => i_MeshEdges (.slice vo xs.length vc) xs (by omega) w h)
    have ht := eTo_half xs xs.length
    obtain ⟨w1, rfl⟩ : ∃ x, x = w2 := ⟨_, rfl⟩
    have hall := all_nil w1
    clear hown hat hvm hb
    obtain ⟨E, hE⟩ : ∃ x, x = eTo xs xs.length := ⟨_, rfl⟩
    rw [← hE] at HE ht
    rcases Nat.eq_zero_or_pos xs.length with h0 | hpos
    · have hE0 : E = 0 := by rw [hE, h0]; rfl
      subst hE0
      obtain rfl : xs = [] := List.eq_nil_of_length_eq_zero h0
      simp only [List.length_nil] at HE HA ⊢
      clear hE ht h0 hl8
      go_wp2_with (first | (go_at_call_of 41 (Value.slice vo 0 vc); refine (HE.out _ HA.out).mono ?_; rintro e w2 ⟨rfl, hb⟩; (first | have hn := nw4 hb hall (by exact zo) | have hn := nw3 hb hall (by exact zo) | have hn := nw2 hb hall (by exact zo) | have hn := nw1 hb hall (by exact zo) | have hn := nw0 hb hall (by exact zo)); obtain ⟨hc, hf, hn, hc0⟩ := hn; replace hall := hn; clear hn; have hz := hb.size; (try simp only [World.size_alloc, World.size_setCell, World.size_drew] at hz); have hx := hall; (try simp only [allLt, and_true] at hx); obtain ⟨w1, rfl⟩ : ∃ x, x = w2 := ⟨_, rfl⟩) | (go_at_call 41; refine (i_two w1.heap.size _ (by simp) ⟨by go_simp, by go_simp, by go_simp, by go_simp, by go_simp, by go_simp⟩).mono ?_; rintro e w2 ⟨rfl, hb⟩; (first | have hn := nw4 hb hall (by exact zo) | have hn := nw3 hb hall (by exact zo) | have hn := nw2 hb hall (by exact zo) | have hn := nw1 hb hall (by exact zo) | have hn := nw0 hb hall (by exact zo)); obtain ⟨hc, hf, hn, hc0⟩ := hn; replace hall := hn; clear hn; have hz := hb.size; (try simp only [World.size_alloc, World.size_setCell, World.size_drew] at hz); have hx := hall; (try simp only [allLt, and_true] at hx); obtain ⟨w1, rfl⟩ : ∃ x, x = w2 := ⟨_, rfl⟩))
      all_goals have hB := HB.out
      all_goals have hBs := hB.size
      all_goals (go_ret; refine ⟨by simp_all [], ?_⟩; exact bel)
    · have hn1 : (1 : Int) ≤ (xs.length : Nat) := by omega
      have hn8 : ((xs.length : Nat) : Int) ≤ 8 := by omega
      have hne : ¬ ((xs.length : Nat) : Int) = 0 := by omega
      obtain ⟨T, hT⟩ : ∃ T, T = ((xs.length : Nat) : Int) * (((xs.length : Nat) : Int) - 1) := ⟨_, rfl⟩
      have hT8 : 0 ≤ T ∧ T ≤ 64 := by
        have h1 := Int.mul_le_mul hn8 (show ((xs.length : Nat) : Int) - 1 ≤ 8 by omega) (by omega) (by omega)
        have h2 := Int.mul_nonneg (show 0 ≤ ((xs.length : Nat) : Int) by omega) (show 0 ≤ ((xs.length : Nat) : Int) - 1 by omega)
        omega
      rw [← hT] at ht
      have e1 := hT.symm
      have HTk := Lib.hid (fun w h => i_MeshEdges (.slice vo (xs.length - 1) vc) (xs.take (xs.length - 1)) (by simp; omega) w h)
      have hle : eTo (xs.take (xs.length - 1)) (xs.take (xs.length - 1)).length ≤ E ∧ 0 ≤ eTo (xs.take (xs.length - 1)) (xs.take (xs.length - 1)).length := by
        obtain ⟨m, hm⟩ : ∃ m, xs.length = m + 1 := ⟨xs.length - 1, by omega⟩
        have hl : (xs.take (xs.length - 1)).length = m := by simp; omega
        rw [hl, eTo_take _ _ _ (by omega), hE, hm, eTo]
        have := eRow_le xs m m; have := (eTo_half xs m).1
        omega
      obtain ⟨E2, hE2⟩ : ∃ x, x = eTo (xs.take (xs.length - 1)) (xs.take (xs.length - 1)).length := ⟨_, rfl⟩
      rw [← hE2] at HTk hle
      have HTA := Lib.hid (fun w (h : SpansAt w (.slice vo xs.length vc) xs) => SpansAt.take h (xs.length - 1) (by omega))
      have hle1 := hle.1
      have hE1 : E ≤ T / 2 := by omega
      clear hE hE2 hT hpos
      obtain ⟨wa, rfl⟩ : ∃ x, x = w1 := ⟨_, rfl⟩
      go_wp2_with (first | (go_at_call_of 41 (Value.slice vo xs.length vc); refine (HE.out _ HA.out).mono ?_; rintro e w2 ⟨rfl, hb⟩; (first | have hn := nw4 hb hall (by exact zo) | have hn := nw3 hb hall (by exact zo) | have hn := nw2 hb hall (by exact zo) | have hn := nw1 hb hall (by exact zo) | have hn := nw0 hb hall (by exact zo)); obtain ⟨hc, hf, hn, hc0⟩ := hn; replace hall := hn; clear hn; have hz := hb.size; (try simp only [World.size_alloc, World.size_setCell, World.size_drew] at hz); have hx := hall; (try simp only [allLt, and_true] at hx); obtain ⟨w1, rfl⟩ : ∃ x, x = w2 := ⟨_, rfl⟩) | (go_at_call 41; with_reducible refine (HTk.out _ (HTA.out _ (SpansAt.below HA.out (by exact bel)))).mono ?_; rintro e w2 ⟨rfl, hb⟩; (first | have hn := nw4 hb hall (by exact zo) | have hn := nw3 hb hall (by exact zo) | have hn := nw2 hb hall (by exact zo) | have hn := nw1 hb hall (by exact zo) | have hn := nw0 hb hall (by exact zo)); obtain ⟨hc, hf, hn, hc0⟩ := hn; replace hall := hn; clear hn; have hz := hb.size; (try simp only [World.size_alloc, World.size_setCell, World.size_drew] at hz); have hx := hall; (try simp only [allLt, and_true] at hx); obtain ⟨w1, rfl⟩ : ∃ x, x = w2 := ⟨_, rfl⟩)  | (go_at_call 41; refine (i_two w1.heap.size _ (by simp) ⟨by go_simp, by go_simp, by go_simp, by go_simp, by go_simp, by go_simp⟩).mono ?_; rintro e w2 ⟨rfl, hb⟩; (first | have hn := nw4 hb hall (by exact zo) | have hn := nw3 hb hall (by exact zo) | have hn := nw2 hb hall (by exact zo) | have hn := nw1 hb hall (by exact zo) | have hn := nw0 hb hall (by exact zo)); obtain ⟨hc, hf, hn, hc0⟩ := hn; replace hall := hn; clear hn; have hz := hb.size; (try simp only [World.size_alloc, World.size_setCell, World.size_drew] at hz); have hx := hall; (try simp only [allLt, and_true] at hx); obtain ⟨w1, rfl⟩ : ∃ x, x = w2 := ⟨_, rfl⟩))
      all_goals have hB := HB.out
      all_goals have hBs := hB.size
      all_goals (go_ret; refine ⟨by simp_all [], ?_⟩; exact bel)
namespace fnEdges
set_option maxRecDepth 100000 in
theorem contract (H : Type) (enc : TypeId × Value → H) (W : World) (base : Nat) (args : Array Value) (ds gs : List (DataW H)) (before : List MemPlace)
    (hval : ∀ (j : Nat) t v, Try.f10.params[j]? = some t → args[j]? = some v → Value.okWide Try.prog W .any base t v)
    (hW : DataW.Whole enc Try.prog Try.f10.params.toList Rows.fnEdgesSpec.vars false W args.toList ds gs before) :
    Calls Try.prog 10 args W fun e W' => ∃ v, e = .returned v ∧ Rows.fnEdgesSpec.post enc Try.prog Try.f10 false true false false W args v W' := by
  have hW' := hW
  obtain ⟨p, q, hA0, hV, rfl, hfz, hnd⟩ := hW
  have hA : DataW.TrodAll enc Try.prog W 0 (fun _ => true) true Try.f10.params.toList args.toList ds p := hA0
  rw [Try.params10] at hA hval
  obtain ⟨v0, vs0, d0, ds0, p0, q0, hargs, rfl, rfl, h0, r0⟩ := trodAll_cons hA
  obtain ⟨rfl, rfl, rfl⟩ := trodAll_nil r0
  obtain rfl : args = #[v0] := by cases args; simp_all
  obtain ⟨rfl, rfl⟩ := trodVars_none hV
  obtain ⟨n, hv⟩ := bytes_open Try.underlying28 Try.underlying5 (by kernel_rfl) (hval 0 28 v0 rfl rfl) h0
  clear hA0
  refine (w_FnEdges v0 n W hv).mono fun e W' ⟨he, hg⟩ => ?_
  subst he
  exact ⟨_, rfl, law_post (tb := 4) laidOut (by kernel_rfl) rfl rfl Try.underlying4 hW' rfl rfl rfl hg⟩
set_option maxRecDepth 100000 in
theorem lifted (os : Os) (started : os.Started) (H : Type) (enc : TypeId × Value → H) :
    ReturnsInHanded {} Try.checked os 10 .any (Rows.fnEdgesSpec.pre6 enc Try.prog Try.f10 Rows.fnEdgesRow.domain false) (Rows.fnEdgesSpec.post enc Try.prog Try.f10 false true false false) := by
  refine returnsInHanded_of_change (C := Try.checked) own started (by kernel_rfl) Try.func10
    (ChangeSpec.witness6 (enc := enc) (C := Try.checked) false ⟨#[], #[.slice none 0 0], []⟩ 8 (by kernel_rfl) (by kernel_rfl) (by kernel_rfl) (by kernel_rfl)) ?_
  intro W base args ds gs before hval hW _ _
  exact contract H enc W base args ds gs before hval hW
/-- The statement. -/
theorem proved : Rows.FnEdgesSaid :=
  OpenClaim.holds_of_wide 10 Try.f10 rfl rfl rfl rfl rfl rfl rfl ⟨rfl, rfl, rfl, rfl, rfl⟩ rfl rfl rfl rfl rfl (by kernel_rfl) Try.func10 (by kernel_rfl)
    (of_decide_eq_true (by kernel_rfl)) (by unfold Func.isWrapper; first | (rw [if_pos (by decide +kernel)]; kernel_rfl) | (rw [if_neg (by decide +kernel)]; exact ⟨rfl, rfl⟩))
    (fun os started H enc _ => lifted os started H enc)
end fnEdges

end Go.Proofs.Ytoopdfnpfeeanaa
