/- 'laws.FnSlotAddrs' returns true, whatever the bytes: no condition. -/
import Derived.Test.YtoopdfnpfeeanaaSlotLaw
import Derived.Test.YtoopdfnpfeeanaaFrameB
set_option linter.unusedVariables false
set_option linter.unusedSimpArgs false
namespace Go.Proofs.Ytoopdfnpfeeanaa
open Go.ChangeShapes Go.WideShapes Go.ChangeAt Go.RowKit
theorem countSlots_bd (b : Int) : 0 ≤ countSlots b ∧ countSlots b ≤ 16 := by unfold countSlots; have := countTo_le b 16; omega
set_option maxHeartbeats 1600000 in
theorem w_FnSlotAddrs (v : Value) (n : Nat) (w : World) (hv : BytesAt w.heap.size w v n) : Calls Try.prog 9 #[v] w fun e w' => e = .returned (.bool true) ∧ Below w.heap.size w w' := by
  have HV := Lib.hid hv; clear hv
  by_cases hbig : (1048576 : Int) < n
  · (have hall := all_nil w; go_enter Try.func9, Try.ntmps9)
    go_wp2_with (go_at_call 18; refine (l_big _ n _ HV.out).mono ?_; rintro e w1 ⟨rfl, rfl⟩)
    all_goals (go_ret; refine ⟨by simp_all [], ?_⟩; exact bel)
  · (have hall := all_nil w; go_enter Try.func9, Try.ntmps9)
    go_wp2_with (go_at_call 18; refine (l_big _ n _ HV.out).mono ?_; rintro e w1 ⟨rfl, rfl⟩)
    refine (s_DrawSpan _ n _ HV.out).mono ?_; rintro e w2 ⟨⟨p, c, b⟩, rfl, hpp, hcc, hbb, hb⟩; simp only [Sp.val] at *
    have HB1 := Lib.hid hb
    (first | have hn := nw4 hb hall (by exact zo) | have hn := nw3 hb hall (by exact zo) | have hn := nw2 hb hall (by exact zo) | have hn := nw1 hb hall (by exact zo) | have hn := nw0 hb hall (by exact zo)); obtain ⟨hc, hf, hn, hc0⟩ := hn; replace hall := hn; clear hn; have hz := hb.size; (try simp only [World.size_alloc, World.size_setCell, World.size_drew] at hz); have hx := hall; (try simp only [allLt, and_true] at hx); obtain ⟨w1, rfl⟩ : ∃ x, x = w2 := ⟨_, rfl⟩
    obtain ⟨B0, hB0⟩ : ∃ x, x = w1.heap.size := ⟨_, rfl⟩
    have hwB : w.heap.size ≤ B0 := by omega
    go_wp2_with fail
    refine (s_DrawPlaces _ n _ (by first | exact HV.out.grew (by have hB := HB1.out; exact bel))).mono ?_; rintro e w2 ⟨pv, xs, rfl, hown, hxl, hxs, hb⟩
    obtain ⟨g, cap, rfl, hgB, hg, hcell⟩ := places_at hown hxl
    have c0 := hcell 0 (by omega)
    have c1 := hcell 1 (by omega)
    have b0 := places_in hxl hxs 0 (by omega)
    have b1 := places_in hxl hxs 1 (by omega)
    clear hcell hxs hown hxl
    generalize xs.getD 0 0 = x0 at *
    generalize xs.getD 1 0 = x1 at *
    have hok := (spanOk_drawn hpp hcc hbb)
    have HC := Lib.hid (cells_count hpp hcc hbb)
    have L := slot_back_at hpp hcc hok b0.1 b1.1
    have s1 := slotsOf_pos hcc
    have s2 := classSize_four' hcc
    obtain ⟨sl, hsl⟩ : ∃ x, x = x0 % slotsOf c := ⟨_, rfl⟩
    obtain ⟨at_, hat⟩ : ∃ x, x = x1 % classSize c := ⟨_, rfl⟩
    rw [← hsl, ← hat] at L
    have l1 := L.1; have l2 := L.2.2.2
    have LA := Lib.hid L.2.1; have LB := Lib.hid L.2.2.1; clear L
    have e1 : x0 % slotsOf c = sl := hsl.symm
    have e2 : x1 % classSize c = at_ := hat.symm
    have a1 : 0 ≤ sl ∧ sl ≤ 9999 := by
      have h1 := Int.emod_nonneg x0 (show slotsOf c ≠ 0 by omega); have h2 := Int.emod_lt_of_pos x0 (show 0 < slotsOf c by omega); omega
    have a2 : 0 ≤ at_ ∧ at_ ≤ 9999 := by
      have h1 := Int.emod_nonneg x1 (show classSize c ≠ 0 by omega); have h2 := Int.emod_lt_of_pos x1 (show 0 < classSize c by omega); omega
    clear hsl hat
    obtain ⟨ad, had⟩ : ∃ x, x = spanAddr p c b sl := ⟨_, rfl⟩
    rw [← had] at l1 l2 LA LB
    have CS := Lib.hid (fun w => i_SpanAddr p c b sl w)
    rw [← had] at CS
    have CA := Lib.hid (fun w => i_SlotAt p c b (ad + at_) w)
    rw [LA.out, LB.out] at CA
    (first | have hn := nw4 hb hall (by exact zo) | have hn := nw3 hb hall (by exact zo) | have hn := nw2 hb hall (by exact zo) | have hn := nw1 hb hall (by exact zo) | have hn := nw0 hb hall (by exact zo)); obtain ⟨hc, hf, hn, hc0⟩ := hn; replace hall := hn; clear hn; have hz := hb.size; (try simp only [World.size_alloc, World.size_setCell, World.size_drew] at hz); have hx := hall; (try simp only [allLt, and_true] at hx); obtain ⟨w1, rfl⟩ : ∃ x, x = w2 := ⟨_, rfl⟩
    have k0 : w1.cell? ⟨B0, 0, none⟩ = some (.int .i64 p) := by rw [hB0]; go_simp
    have k1 : w1.cell? ⟨B0, 1, none⟩ = some (.int .i64 c) := by rw [hB0]; go_simp
    have k2 : w1.cell? ⟨B0, 2, none⟩ = some (.int .i64 b) := by rw [hB0]; go_simp
    have HB2 : Hid (Below w.heap.size w w1) := by have hB := HB1.out; unfold Hid; exact bel
    rw [← hB0]
    replace hall : allLt [g, B0] w1.heap.size := ⟨by omega, by omega, trivial⟩
    replace hx := hall
    simp only [allLt, and_true] at hx
    clear hb hc hf hc0 hz hgB hg hB0 HB1 had
    go_wp2_with (first | (with_reducible refine wp_region_grew2 (by kernel_rfl) (by kernel_rfl) ?_; intro w2 hb; have hb0 := hb; (first | have hn := nw4 hb hall (by exact zo) | have hn := nw3 hb hall (by exact zo) | have hn := nw2 hb hall (by exact zo) | have hn := nw1 hb hall (by exact zo) | have hn := nw0 hb hall (by exact zo)); obtain ⟨hc, hf, hn, hc0⟩ := hn; replace hall := hn; clear hn; have hz := hb.size; (try simp only [World.size_alloc, World.size_setCell, World.size_drew] at hz); have hx := hall; (try simp only [allLt, and_true] at hx); obtain ⟨w1, rfl⟩ : ∃ x, x = w2 := ⟨_, rfl⟩; skip; (repeat (go_big_quiet_step ((first | (go_at_call 38; exact calls_grew (CS.out _)) | (go_at_call 37; exact calls_grew (CA.out _)) | (go_at_call 20; exact calls_same (s_SlotsOf _ _)) | (go_at_call 36; exact calls_same (s_ClassSize _ _)) | (go_at_call 39; exact calls_same (s_CountSlots _ _)))))); refine wpQuiet_nil ?_; intro w2 hw'; have hb := grew_below hw'; clear hw'; (first | have hn := nw4 hb hall (by exact zo) | have hn := nw3 hb hall (by exact zo) | have hn := nw2 hb hall (by exact zo) | have hn := nw1 hb hall (by exact zo) | have hn := nw0 hb hall (by exact zo)); obtain ⟨hc, hf, hn, hc0⟩ := hn; replace hall := hn; clear hn; have hz := hb.size; (try simp only [World.size_alloc, World.size_setCell, World.size_drew] at hz); have hx := hall; (try simp only [allLt, and_true] at hx); obtain ⟨w1, rfl⟩ : ∃ x, x = w2 := ⟨_, rfl⟩) | (go_at_call 26; refine (i_SpanCells _ _ _ _).mono ?_; intro e w2 hnew; obtain ⟨ao, cap, rfl, hownN, hb⟩ := hnew.open; clear hnew; (first | have hn := nw4 hb hall (by exact zo) | have hn := nw3 hb hall (by exact zo) | have hn := nw2 hb hall (by exact zo) | have hn := nw1 hb hall (by exact zo) | have hn := nw0 hb hall (by exact zo)); obtain ⟨hc, hf, hn, hc0⟩ := hn; replace hall := hn; clear hn; have hz := hb.size; (try simp only [World.size_alloc, World.size_setCell, World.size_drew] at hz); have hx := hall; (try simp only [allLt, and_true] at hx); obtain ⟨w1, rfl⟩ : ∃ x, x = w2 := ⟨_, rfl⟩) | (go_at_call 36; (refine (s_ClassSize _ _).mono ?_); rintro e w2 ⟨rfl, rfl⟩) | (go_at_call 20; (refine (s_SlotsOf _ _).mono ?_); rintro e w2 ⟨rfl, rfl⟩) | (go_at_call 39; (refine (s_CountSlots _ _).mono ?_); rintro e w2 ⟨rfl, rfl⟩) | (with_reducible refine wp_region_grew2 (by kernel_rfl) (by kernel_rfl) ?_; intro w2 hb; (first | have hn := nw4 hb hall (by exact zo) | have hn := nw3 hb hall (by exact zo) | have hn := nw2 hb hall (by exact zo) | have hn := nw1 hb hall (by exact zo) | have hn := nw0 hb hall (by exact zo)); obtain ⟨hc, hf, hn, hc0⟩ := hn; replace hall := hn; clear hn; have hz := hb.size; (try simp only [World.size_alloc, World.size_setCell, World.size_drew] at hz); have hx := hall; (try simp only [allLt, and_true] at hx); obtain ⟨w1, rfl⟩ : ∃ x, x = w2 := ⟨_, rfl⟩; (repeat (go_big_quiet_step (first | (go_at_call 36; exact calls_same (s_ClassSize _ _)) | (go_at_call 20; exact calls_same (s_SlotsOf _ _)) | (go_at_call 39; exact calls_same (s_CountSlots _ _))))); refine wpQuiet_nil ?_; intro w2 hw'; have hb := grew_below hw'; clear hw'; (first | have hn := nw4 hb hall (by exact zo) | have hn := nw3 hb hall (by exact zo) | have hn := nw2 hb hall (by exact zo) | have hn := nw1 hb hall (by exact zo) | have hn := nw0 hb hall (by exact zo)); obtain ⟨hc, hf, hn, hc0⟩ := hn; replace hall := hn; clear hn; have hz := hb.size; (try simp only [World.size_alloc, World.size_setCell, World.size_drew] at hz); have hx := hall; (try simp only [allLt, and_true] at hx); obtain ⟨w1, rfl⟩ : ∃ x, x = w2 := ⟨_, rfl⟩))
    all_goals go_ret
    all_goals (have hB := HB2.out; have hc := HC.out; have hbd := countSlots_bd b)
    all_goals refine ⟨ret_bool ?_, by exact bel⟩
    all_goals (rw [hc]; simp [IntWalk.wrap64_in (countSlots b * classSize c) (by have h4 := classSize_four hcc; rcases h4 with h | h | h | h <;> rw [h] <;> omega)])
namespace fnSlotAddrs
set_option maxRecDepth 100000 in
theorem contract (H : Type) (enc : TypeId × Value → H) (W : World) (base : Nat) (args : Array Value) (ds gs : List (DataW H)) (before : List MemPlace)
    (hval : ∀ (j : Nat) t v, Try.f9.params[j]? = some t → args[j]? = some v → Value.okWide Try.prog W .any base t v)
    (hW : DataW.Whole enc Try.prog Try.f9.params.toList Rows.fnSlotAddrsSpec.vars false W args.toList ds gs before) :
    Calls Try.prog 9 args W fun e W' => ∃ v, e = .returned v ∧ Rows.fnSlotAddrsSpec.post enc Try.prog Try.f9 false true false false W args v W' := by
  have hW' := hW
  obtain ⟨p, q, hA0, hV, rfl, hfz, hnd⟩ := hW
  have hA : DataW.TrodAll enc Try.prog W 0 (fun _ => true) true Try.f9.params.toList args.toList ds p := hA0
  rw [Try.params9] at hA hval
  obtain ⟨v0, vs0, d0, ds0, p0, q0, hargs, rfl, rfl, h0, r0⟩ := trodAll_cons hA
  obtain ⟨rfl, rfl, rfl⟩ := trodAll_nil r0
  obtain rfl : args = #[v0] := by cases args; simp_all
  obtain ⟨rfl, rfl⟩ := trodVars_none hV
  obtain ⟨n, hv⟩ := bytes_open Try.underlying28 Try.underlying5 (by kernel_rfl) (hval 0 28 v0 rfl rfl) h0
  clear hA0
  refine (w_FnSlotAddrs v0 n W hv).mono fun e W' ⟨he, hg⟩ => ?_
  subst he
  exact ⟨_, rfl, law_post (tb := 4) laidOut (by kernel_rfl) rfl rfl Try.underlying4 hW' rfl rfl rfl hg⟩
set_option maxRecDepth 100000 in
theorem lifted (os : Os) (started : os.Started) (H : Type) (enc : TypeId × Value → H) :
    ReturnsInHanded {} Try.checked os 9 .any (Rows.fnSlotAddrsSpec.pre6 enc Try.prog Try.f9 Rows.fnSlotAddrsRow.domain false) (Rows.fnSlotAddrsSpec.post enc Try.prog Try.f9 false true false false) := by
  refine returnsInHanded_of_change (C := Try.checked) own started (by kernel_rfl) Try.func9
    (ChangeSpec.witness6 (enc := enc) (C := Try.checked) false ⟨#[], #[.slice none 0 0], []⟩ 8 (by kernel_rfl) (by kernel_rfl) (by kernel_rfl) (by kernel_rfl)) ?_
  intro W base args ds gs before hval hW _ _
  exact contract H enc W base args ds gs before hval hW
/-- The statement. -/
theorem proved : Rows.FnSlotAddrsSaid :=
  OpenClaim.holds_of_wide 9 Try.f9 rfl rfl rfl rfl rfl rfl rfl ⟨rfl, rfl, rfl, rfl, rfl⟩ rfl rfl rfl rfl rfl (by kernel_rfl) Try.func9 (by kernel_rfl)
    (of_decide_eq_true (by kernel_rfl)) (by unfold Func.isWrapper; first | (rw [if_pos (by decide +kernel)]; kernel_rfl) | (rw [if_neg (by decide +kernel)]; exact ⟨rfl, rfl⟩))
    (fun os started H enc _ => lifted os started H enc)
end fnSlotAddrs

end Go.Proofs.Ytoopdfnpfeeanaa
