/- 'laws.FnPascal' returns true, whatever the bytes: no condition. -/
import Derived.Test.YtohmpjabplmleaaCount
import Derived.Test.YtohmpjabplmleaaFrameB
set_option linter.unusedVariables false
set_option linter.unusedSimpArgs false
namespace Go.Proofs.Ytohmpjabplmleaa
open Go.ChangeShapes Go.WideShapes Go.ChangeAt Go.RowKit
theorem pascal (n k : Int) (hn : 1 ≤ n ∧ n ≤ 15) (hk : 1 ≤ k ∧ k ≤ n) : binomial n k = binomial (n - 1) (k - 1) + binomial (n - 1) k ∧ binomial n 0 = 1 := by
  have h := (by decide +kernel : ∀ a : Fin 16, ∀ b : Fin 16, 1 ≤ a.val → 1 ≤ b.val → b.val ≤ a.val → binomial (a.val : Int) b.val = binomial ((a.val : Int) - 1) ((b.val : Int) - 1) + binomial ((a.val : Int) - 1) b.val ∧ binomial (a.val : Int) 0 = 1)
    ⟨n.toNat, by omega⟩ ⟨k.toNat, by omega⟩ (by dsimp only; omega) (by dsimp only; omega) (by dsimp only; omega)
  dsimp only at h
  rwa [Int.toNat_of_nonneg (by omega), Int.toNat_of_nonneg (by omega)] at h
theorem w_FnPascal (v : Value) (n : Nat) (w : World) (hv : BytesAt w.heap.size w v n) : Calls Try.prog 8 #[v] w fun e w' => e = .returned (.bool true) ∧ Below w.heap.size w w' := by
  have HV := Lib.hid hv; clear hv
  by_cases hbig : (1048576 : Int) < n
  · (have hall := all_nil w; go_enter Try.func8, Try.ntmps8)
    go_wp2_with (go_at_call 28; refine (l_big _ n _ HV.out).mono ?_; rintro e w1 ⟨rfl, rfl⟩)
    all_goals (go_ret; refine ⟨by simp_all [], ?_⟩; (repeat (first | exact Below.refl _ _ | refine Below.alloc ?_ (by (try simp only [World.size_alloc, World.size_setCell, World.size_drew]); omega) _ | refine Below.setCell ?_ (by (try simp only [World.size_alloc, World.size_setCell, World.size_drew]); omega) _ | refine Below.drew ?_ | (refine Below.trans ?_ (Below.mono (by assumption) (by (try simp only [World.size_alloc, World.size_setCell, World.size_drew]); omega))))))
  · (have hall := all_nil w; go_enter Try.func8, Try.ntmps8)
    go_wp2_with (go_at_call 28; refine (l_big _ n _ HV.out).mono ?_; rintro e w1 ⟨rfl, rfl⟩)
    refine (s_DrawPlaces _ n _ HV.out).mono ?_; rintro e w1 ⟨pv, xs, rfl, hown, hxl, hxs, hb⟩
    have HB := Lib.hid hb; clear hb
    obtain ⟨g, cap, rfl, _, hg, hcell⟩ := places_at hown hxl
    have c0 := hcell 0 (by omega)
    have c1 := hcell 1 (by omega)
    have b0 := places_in hxl hxs 0 (by omega)
    have b1 := places_in hxl hxs 1 (by omega)
    clear hcell hxs hown hxl
    generalize xs.getD 0 0 = x0 at *
    generalize xs.getD 1 0 = x1 at *
    obtain ⟨m, hm⟩ : ∃ m, m = 1 + x0 % 15 := ⟨_, rfl⟩
    have hm1 : 1 ≤ m ∧ m ≤ 15 := by omega
    have q1 := Int.emod_nonneg x1 (show m ≠ 0 by omega)
    have q2 := Int.emod_lt_of_pos x1 (show 0 < m by omega)
    have e1 : 1 + x0 % 15 = m := hm.symm
    have P1 := pascal m (1 + x1 % m) hm1 (by omega)
    clear hm
    have B1 := binomial_bound m (1 + x1 % m)
    have B2 := binomial_bound (m - 1) (1 + x1 % m - 1)
    have B3 := binomial_bound (m - 1) (1 + x1 % m)
    have HP := Lib.hid P1; clear P1
    go_wp2_with (first | (go_at_call 19; (refine (i_Binomial _ _ _).mono ?_); rintro e w2 ⟨rfl, rfl⟩) | (with_reducible refine wp_region_grew2 (by kernel_rfl) (by kernel_rfl) ?_; intro w2 hb; (have hc := cellX hb hall (by ((try simp only [World.size_alloc, World.size_setCell, World.size_drew]); omega))); (have hf := frozenX hb hall (by ((try simp only [World.size_alloc, World.size_setCell, World.size_drew]); omega))); (try (have hc0 := cell0 hb hall (by ((try simp only [World.size_alloc, World.size_setCell, World.size_drew]); omega)); have hf0 := frozen0 hb hall (by ((try simp only [World.size_alloc, World.size_setCell, World.size_drew]); omega)); (try (have hc1 := cell1 hb hall (by ((try simp only [World.size_alloc, World.size_setCell, World.size_drew]); omega)); have hf1 := frozen1 hb hall (by ((try simp only [World.size_alloc, World.size_setCell, World.size_drew]); omega)); (try (have hc2 := cell2 hb hall (by ((try simp only [World.size_alloc, World.size_setCell, World.size_drew]); omega)); have hf2 := frozen2 hb hall (by ((try simp only [World.size_alloc, World.size_setCell, World.size_drew]); omega)); (try (have hc3 := cell3 hb hall (by ((try simp only [World.size_alloc, World.size_setCell, World.size_drew]); omega)); have hf3 := frozen3 hb hall (by ((try simp only [World.size_alloc, World.size_setCell, World.size_drew]); omega)))))))))); have hz := hb.size; (try simp only [World.size_alloc, World.size_setCell, World.size_drew] at hz); (first | (replace hall := ext4 (w2 := w2) hall (by omega)) | (replace hall := ext3 (w2 := w2) hall (by omega)) | (replace hall := ext2 (w2 := w2) hall (by omega)) | (replace hall := ext1 (w2 := w2) hall (by omega)) | (replace hall := ext0 (w2 := w2) hall (by omega))); have hx := hall; (try simp only [allLt, and_true] at hx); obtain ⟨w1, rfl⟩ : ∃ x, x = w2 := ⟨_, rfl⟩; (repeat (go_big_quiet_step (first | (go_at_call 19; exact calls_same (i_Binomial _ _ _))))); refine wpQuiet_nil ?_; intro w2 hw'; have hb := grew_below hw'; clear hw'; (have hc := cellX hb hall (by ((try simp only [World.size_alloc, World.size_setCell, World.size_drew]); omega))); (have hf := frozenX hb hall (by ((try simp only [World.size_alloc, World.size_setCell, World.size_drew]); omega))); (try (have hc0 := cell0 hb hall (by ((try simp only [World.size_alloc, World.size_setCell, World.size_drew]); omega)); have hf0 := frozen0 hb hall (by ((try simp only [World.size_alloc, World.size_setCell, World.size_drew]); omega)); (try (have hc1 := cell1 hb hall (by ((try simp only [World.size_alloc, World.size_setCell, World.size_drew]); omega)); have hf1 := frozen1 hb hall (by ((try simp only [World.size_alloc, World.size_setCell, World.size_drew]); omega)); (try (have hc2 := cell2 hb hall (by ((try simp only [World.size_alloc, World.size_setCell, World.size_drew]); omega)); have hf2 := frozen2 hb hall (by ((try simp only [World.size_alloc, World.size_setCell, World.size_drew]); omega)); (try (have hc3 := cell3 hb hall (by ((try simp only [World.size_alloc, World.size_setCell, World.size_drew]); omega)); have hf3 := frozen3 hb hall (by ((try simp only [World.size_alloc, World.size_setCell, World.size_drew]); omega)))))))))); have hz := hb.size; (try simp only [World.size_alloc, World.size_setCell, World.size_drew] at hz); (first | (replace hall := ext4 (w2 := w2) hall (by omega)) | (replace hall := ext3 (w2 := w2) hall (by omega)) | (replace hall := ext2 (w2 := w2) hall (by omega)) | (replace hall := ext1 (w2 := w2) hall (by omega)) | (replace hall := ext0 (w2 := w2) hall (by omega))); have hx := hall; (try simp only [allLt, and_true] at hx); obtain ⟨w1, rfl⟩ : ∃ x, x = w2 := ⟨_, rfl⟩))
    all_goals first | exact absurd HP.out.1 (by assumption) | (go_ret; exact ⟨ret_bool (by simp [HP.out.2]), HB.out⟩)
namespace fnPascal
theorem contract (H : Type) (enc : TypeId × Value → H) (W : World) (base : Nat) (args : Array Value) (ds gs : List (DataW H)) (before : List MemPlace)
    (hval : ∀ (j : Nat) t v, Try.f8.params[j]? = some t → args[j]? = some v → Value.okWide Try.prog W .any base t v)
    (hW : DataW.Whole enc Try.prog Try.f8.params.toList Rows.fnPascalSpec.vars false W args.toList ds gs before) :
    Calls Try.prog 8 args W fun e W' => ∃ v, e = .returned v ∧ Rows.fnPascalSpec.post enc Try.prog Try.f8 false true false false W args v W' := by
  have hW' := hW
  obtain ⟨p, q, hA0, hV, rfl, hfz, hnd⟩ := hW
  have hA : DataW.TrodAll enc Try.prog W 0 (fun _ => true) true Try.f8.params.toList args.toList ds p := hA0
  rw [Try.params8] at hA hval
  obtain ⟨v0, vs0, d0, ds0, p0, q0, hargs, rfl, rfl, h0, r0⟩ := trodAll_cons hA
  obtain ⟨rfl, rfl, rfl⟩ := trodAll_nil r0
  obtain rfl : args = #[v0] := by cases args; simp_all
  obtain ⟨rfl, rfl⟩ := trodVars_none hV
  obtain ⟨n, hv⟩ := bytes_open Try.underlying40 Try.underlying5 (by kernel_rfl) (hval 0 40 v0 rfl rfl) h0
  clear hA0
  refine (w_FnPascal v0 n W hv).mono fun e W' ⟨he, hg⟩ => ?_
  subst he
  exact ⟨_, rfl, law_post (tb := 4) laidOut (by kernel_rfl) rfl rfl Try.underlying4 hW' rfl rfl rfl hg⟩
set_option maxRecDepth 100000 in
theorem lifted (os : Os) (started : os.Started) (H : Type) (enc : TypeId × Value → H) :
    ReturnsInHanded {} Try.checked os 8 .any (Rows.fnPascalSpec.pre6 enc Try.prog Try.f8 Rows.fnPascalRow.domain false) (Rows.fnPascalSpec.post enc Try.prog Try.f8 false true false false) := by
  refine returnsInHanded_of_change (C := Try.checked) own started (by kernel_rfl) Try.func8
    (ChangeSpec.witness6 (enc := enc) (C := Try.checked) false ⟨#[], #[.slice none 0 0], []⟩ 8 (by kernel_rfl) (by kernel_rfl) (by kernel_rfl) (by kernel_rfl)) ?_
  intro W base args ds gs before hval hW _ _
  exact contract H enc W base args ds gs before hval hW
/-- The statement. -/
theorem proved : Rows.FnPascalSaid :=
  OpenClaim.holds_of_wide 8 Try.f8 rfl rfl rfl rfl rfl rfl rfl ⟨rfl, rfl, rfl, rfl, rfl⟩ rfl rfl rfl rfl rfl (by kernel_rfl) Try.func8 (by kernel_rfl)
    (of_decide_eq_true (by kernel_rfl)) (by unfold Func.isWrapper; first | (rw [if_pos (by decide +kernel)]; kernel_rfl) | (rw [if_neg (by decide +kernel)]; exact ⟨rfl, rfl⟩))
    (fun os started H enc _ => lifted os started H enc)
end fnPascal

end Go.Proofs.Ytohmpjabplmleaa
