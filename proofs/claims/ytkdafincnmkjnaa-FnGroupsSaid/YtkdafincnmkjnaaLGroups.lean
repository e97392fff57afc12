/- 'laws.FnGroups' returns true, whatever the bytes: no condition. -/
import Derived.Test.YtkdafincnmkjnaaGroupLaw
import Derived.Test.YtkdafincnmkjnaaDraw6
import Derived.Test.YtkdafincnmkjnaaFrameB
set_option linter.unusedVariables false
set_option linter.unusedSimpArgs false
namespace Go.Proofs.Ytkdafincnmkjnaa
open Go.ChangeShapes Go.WideShapes Go.ChangeAt Go.RowKit
set_option maxRecDepth 20000 in
set_option maxHeartbeats 1600000 in
theorem w_FnGroups (v : Value) (n : Nat) (w : World) (hv : BytesAt w.heap.size w v n) : Calls Try.prog 3 #[v] w fun e w' => e = .returned (.bool true) ∧ Below w.heap.size w w' := by
  have HV := Lib.hid hv; clear hv
  by_cases hbig : (1048576 : Int) < n
  · (have hall := all_nil w; go_enter Try.func3, Try.ntmps3)
    go_wp2_with (go_at_call 15; refine (l_big _ n _ HV.out).mono ?_; rintro e w1 ⟨rfl, rfl⟩)
    all_goals (go_ret; refine ⟨by simp_all [], ?_⟩; exact bel)
  · (have hall := all_nil w; go_enter Try.func3, Try.ntmps3)
    go_wp2_with (go_at_call 15; refine (l_big _ n _ HV.out).mono ?_; rintro e w1 ⟨rfl, rfl⟩)
    refine (s_DrawGroupOk _ n _ HV.out).mono ?_; rintro e w2 ⟨lv, xs, rfl, hl6, hown, hb⟩
    obtain ⟨vo, vc, rfl, hvc, hvm, -⟩ := hown.shape
    have HS := Lib.hid hown.at
    have HB := Lib.hid hb
    obtain ⟨w1, rfl⟩ : ∃ x, x = w2 := ⟨_, rfl⟩
    clear hown hvm hb
    obtain ⟨r, hr⟩ : ∃ r, groupOk xs = r := ⟨_, rfl⟩
    have HR := Lib.hid hr
    go_wp2_with fail
    have hG := s_GroupOk _ xs _ HS.out
    rw [hr] at hG
    refine hG.mono ?_; rintro e w2 ⟨rfl, hb⟩; clear hG
    replace HS := Lib.hid (HS.out.below hb)
    replace HB := Lib.hid (HB.out.trans (hb.mono HB.out.size))
    clear hb
    obtain ⟨w1, rfl⟩ : ∃ x, x = w2 := ⟨_, rfl⟩
    cases r
    · clear hr
      go_wp2_with fail
      have hG := i_GroupOk _ xs _ HS.out
      rw [HR.out] at hG
      refine hG.mono ?_; rintro e w2 ⟨rfl, hb⟩; clear hG
      replace HS := Lib.hid (HS.out.below hb)
      replace HB := Lib.hid (HB.out.trans (hb.mono HB.out.size))
      clear hb
      go_wp2_with fail
      have hG := i_GroupBits _ xs _ HS.out
      rw [show groupBits xs = 0 by simp [groupBits, HR.out]] at hG
      refine hG.mono ?_; rintro e w3 ⟨rfl, hb⟩; clear hG
      replace HS := Lib.hid (HS.out.below hb)
      replace HB := Lib.hid (HB.out.trans (hb.mono HB.out.size))
      clear hb
      go_wp2_with fail
      have hG := i_GroupSlot _ xs 0 _ HS.out
      rw [show groupSlot xs 0 = -1 by simp [groupSlot, HR.out]] at hG
      refine hG.mono ?_; rintro e w4 ⟨rfl, hb⟩; clear hG
      replace HB := Lib.hid (HB.out.trans (hb.mono HB.out.size))
      clear hb
      go_wp2_with fail
      go_ret
      exact ⟨rfl, HB.out⟩
    · have AT := Lib.hid (group_at hr); have SUM := Lib.hid (group_sum hr)
      clear hr
      go_wp2_with fail
      refine (i_GroupBits _ xs _ HS.out).mono ?_; rintro e w2 ⟨rfl, hb⟩
      replace HS := Lib.hid (HS.out.below hb)
      replace HB := Lib.hid (HB.out.trans (hb.mono HB.out.size))
      clear hb
      obtain ⟨w1, rfl⟩ : ∃ x, x = w2 := ⟨_, rfl⟩
      obtain ⟨b, hb⟩ : ∃ b, b = groupBits xs := ⟨_, rfl⟩
      rw [← hb] at AT SUM ⊢
      clear hb
      go_wp2_with fail
      go_loopw [5, 6] (fun n i wr => ∃ k : Nat, k ≤ xs.length ∧ i = .int .i64 k ∧ n = .int .i64 (sumTo xs k) ∧ Below w1.heap.size w1 wr) (fun _ i _ => xs.length - (intOf i).toNat)
      case atStart => exact ⟨0, Nat.zero_le _, rfl, rfl, Below.refl _ _⟩
      case round =>
        obtain ⟨k, hk, rfl, rfl, hbel⟩ := hrel
        have HL := Lib.hid hbel
        clear hbel
        have hsum := sumTo_le xs k
        by_cases hlt : k < xs.length
        · have hkI : (k : Int) < (xs.length : Nat) := by omega
          have HYO := Lib.hid (HS.out.below HL.out).open
          obtain ⟨ly, cy, he, -, -, hry⟩ := HYO.out
          simp only [Value.slice.injEq] at he
          obtain ⟨rfl, -, rfl⟩ := he
          obtain ⟨gy, oy, rfl, hgy, y0, y1, y2⟩ := hry k hlt
          have hcs := countSlots_le (xs.getD k default).b
          have hs : Hid (sumTo xs (k + 1) = sumTo xs k + countSlots (xs.getD k default).b) := rfl
          generalize xs.getD k default = s at *
          clear hry HYO
          go_wp2_with (go_at_call 21; refine (s_CountSlots _ _).mono ?_; rintro e w2 ⟨rfl, rfl⟩)
          go_roundw
          case rel => exact ⟨k + 1, by omega, by go_num, by rw [hs.out], HL.out⟩
          case measure => simp [intOf]; omega
        · have hlt' : ¬ (k : Int) < (xs.length : Nat) := by omega
          obtain rfl : k = xs.length := by omega
          have S2 : Hid (sumTo xs xs.length = countSlots b) := SUM.out.symm
          rw [S2.out]
          replace HS := Lib.hid (HS.out.below HL.out)
          replace HB := Lib.hid (HB.out.trans (HL.out.mono HB.out.size))
          clear HL hsum hlt hlt' hk
          obtain ⟨w1, rfl⟩ : ∃ x, x = wr := ⟨_, rfl⟩
          go_wp2_with fail
          go_loopw [7] (fun i wr => ∃ k : Nat, k ≤ 16 ∧ i = .int .i64 k ∧ Below w1.heap.size w1 wr) (fun i _ => 16 - (intOf i).toNat)
          case atStart => exact ⟨0, Nat.zero_le _, rfl, Below.refl _ _⟩
          case round =>
            obtain ⟨k, hk, rfl, hbel⟩ := hrel
            have HL := Lib.hid hbel
            clear hbel
            by_cases hlt : k < 16
            · have hkI : (k : Int) < 16 := by omega
              go_wp2_with fail
              have hG := i_GroupSlot _ xs (k : Int) _ (HS.out.below HL.out)
              refine hG.mono ?_; rintro e w2 ⟨rfl, hb⟩; clear hG
              replace HL := Lib.hid (HL.out.trans (hb.mono HL.out.size))
              clear hb
              rcases AT.out k hlt with ⟨h1, h2⟩ | ⟨j, hj, h1, h2, h3⟩
              · rw [h1]
                go_wp2_with (go_at_call 22; refine (s_HasSlot _ _ _ h2 _).mono ?_; rintro e w3 ⟨rfl, rfl⟩)
                go_roundw
                case rel => exact ⟨k + 1, by omega, by go_num, HL.out⟩
                case measure => simp [intOf]; omega
              · rw [h1]
                have hjI : (j : Int) < (xs.length : Nat) := by omega
                have HYO := Lib.hid (HS.out.below HL.out).open
                obtain ⟨ly, cy, he, -, -, hry⟩ := HYO.out
                simp only [Value.slice.injEq] at he
                obtain ⟨rfl, -, rfl⟩ := he
                obtain ⟨gy, oy, rfl, hgy, y0, y1, y2⟩ := hry j hj
                clear hry HYO y0 y1
                generalize xs.getD j default = s at *
                obtain ⟨sp, sc, sb⟩ := s
                dsimp only at y2 h3
                go_wp2_with (first | (go_at_call_of 22 (Value.int IntKind.i64 b); refine (s_HasSlot _ _ _ h2 _).mono ?_; rintro e w3 ⟨rfl, rfl⟩) | (go_at_call_of 22 (Value.int IntKind.i64 sb); refine (s_HasSlot _ _ _ h3 _).mono ?_; rintro e w3 ⟨rfl, rfl⟩))
                go_roundw
                case rel => exact ⟨k + 1, by omega, by go_num, HL.out⟩
                case measure => simp [intOf]; omega
            · have hkI : ¬ (k : Int) < 16 := by omega
              go_wp2_with fail
              have hG := i_GroupOk _ xs _ (HS.out.below HL.out)
              rw [HR.out] at hG
              refine hG.mono ?_; rintro e w2 ⟨rfl, hb⟩; clear hG
              replace HL := Lib.hid (HL.out.trans (hb.mono HL.out.size))
              replace HB := Lib.hid (HB.out.trans (HL.out.mono HB.out.size))
              go_wp2_with (go_at_call 21; refine (s_CountSlots _ _).mono ?_; rintro e w3 ⟨rfl, rfl⟩)
              go_ret
              exact ⟨by simp, HB.out⟩
namespace fnGroups
set_option maxRecDepth 100000 in
theorem contract (H : Type) (enc : TypeId × Value → H) (W : World) (base : Nat) (args : Array Value) (ds gs : List (DataW H)) (before : List MemPlace)
    (hval : ∀ (j : Nat) t v, Try.f3.params[j]? = some t → args[j]? = some v → Value.okWide Try.prog W .any base t v)
    (hW : DataW.Whole enc Try.prog Try.f3.params.toList Rows.fnGroupsSpec.vars false W args.toList ds gs before) :
    Calls Try.prog 3 args W fun e W' => ∃ v, e = .returned v ∧ Rows.fnGroupsSpec.post enc Try.prog Try.f3 false true false false W args v W' := by
  have hW' := hW
  obtain ⟨p, q, hA0, hV, rfl, hfz, hnd⟩ := hW
  have hA : DataW.TrodAll enc Try.prog W 0 (fun _ => true) true Try.f3.params.toList args.toList ds p := hA0
  rw [Try.params3] at hA hval
  obtain ⟨v0, vs0, d0, ds0, p0, q0, hargs, rfl, rfl, h0, r0⟩ := trodAll_cons hA
  obtain ⟨rfl, rfl, rfl⟩ := trodAll_nil r0
  obtain rfl : args = #[v0] := by cases args; simp_all
  obtain ⟨rfl, rfl⟩ := trodVars_none hV
  obtain ⟨n, hv⟩ := bytes_open Try.underlying22 Try.underlying5 (by kernel_rfl) (hval 0 22 v0 rfl rfl) h0
  clear hA0
  refine (w_FnGroups v0 n W hv).mono fun e W' ⟨he, hg⟩ => ?_
  subst he
  exact ⟨_, rfl, law_post (tb := 4) laidOut (by kernel_rfl) rfl rfl Try.underlying4 hW' rfl rfl rfl hg⟩
set_option maxRecDepth 100000 in
theorem lifted (os : Os) (started : os.Started) (H : Type) (enc : TypeId × Value → H) :
    ReturnsInHanded {} Try.checked os 3 .any (Rows.fnGroupsSpec.pre6 enc Try.prog Try.f3 Rows.fnGroupsRow.domain false) (Rows.fnGroupsSpec.post enc Try.prog Try.f3 false true false false) := by
  refine returnsInHanded_of_change (C := Try.checked) own started (by kernel_rfl) Try.func3
    (ChangeSpec.witness6 (enc := enc) (C := Try.checked) false ⟨#[], #[.slice none 0 0], []⟩ 8 (by kernel_rfl) (by kernel_rfl) (by kernel_rfl) (by kernel_rfl)) ?_
  intro W base args ds gs before hval hW _ _
  exact contract H enc W base args ds gs before hval hW
/-- The statement. -/
theorem proved : Rows.FnGroupsSaid :=
  OpenClaim.holds_of_wide 3 Try.f3 rfl rfl rfl rfl rfl rfl rfl ⟨rfl, rfl, rfl, rfl, rfl⟩ rfl rfl rfl rfl rfl (by kernel_rfl) Try.func3 (by kernel_rfl)
    (of_decide_eq_true (by kernel_rfl)) (by unfold Func.isWrapper; first | (rw [if_pos (by decide +kernel)]; kernel_rfl) | (rw [if_neg (by decide +kernel)]; exact ⟨rfl, rfl⟩))
    (fun os started H enc _ => lifted os started H enc)
end fnGroups

end Go.Proofs.Ytkdafincnmkjnaa
