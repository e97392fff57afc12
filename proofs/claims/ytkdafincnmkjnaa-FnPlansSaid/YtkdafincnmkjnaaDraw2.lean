/-
  Lists of ints of the call's own; the twelve places of a draw.
-/
import Derived.Test.YtkdafincnmkjnaaDraw
import Derived.Test.YtkdafincnmkjnaaInts
set_option linter.unusedVariables false
set_option linter.unusedSimpArgs false
namespace Go.Proofs.Ytkdafincnmkjnaa
open Go.RowKit
def Places (w : World) (e : Ending) (w' : World) : Prop := ∃ v xs, e = .returned v ∧ OwnI w.heap.size w' v xs ∧ xs.length = 12 ∧ (∀ x ∈ xs, 0 ≤ x ∧ x ≤ 9999) ∧ Below w.heap.size w w'
theorem s_DrawPlaces (v : Value) (n : Nat) (w : World) (hv : BytesAt w.heap.size w v n) : Calls Try.prog 41 #[v] w (Places w) := by
  have hall := all_nil w
  have HV := Lib.hid hv; clear hv
  go_enter Try.func41, Try.ntmps41
  go_wp2_with fail
  refine (s_l01New _ n _ HV.out).mono ?_; rintro e w0 ⟨g, rfl, hcur, hb0⟩
  go_wp2_with fail
  have hcur0 : Cur w.heap.size (w0.alloc (.cells #[] 3)) g := hcur.below ((Below.refl _ _).alloc (Nat.le_refl _) _)
  have hg := hcur.1
  go_loopw [4, 5] (fun o i wr => ∃ k : Nat, ∃ xs, k ≤ 12 ∧ i = .int .i64 k ∧ xs.length = k ∧ (∀ x ∈ xs, 0 ≤ x ∧ x ≤ 9999) ∧ OwnI (g + 1) wr o xs ∧ Cur w.heap.size wr g ∧ Below w.heap.size w wr) (fun _ i _ => 12 - (intOf i).toNat)
  case atStart =>
    refine ⟨0, [], Nat.zero_le _, rfl, rfl, (by simp), ?_, hcur0, ?_⟩
    · exact Own.empty _ _ _ _ _ hcur.2.1
    · exact hb0.alloc hb0.size _
  case round =>
    obtain ⟨k, xs, hk, rfl, hxl, hxs, hown, hcr, hbr⟩ := hrel
    have HX := Lib.hid hxs; have HL := Lib.hid hxl; clear hxs hxl hcur hcur0 hb0
    obtain ⟨wo, rfl⟩ : ∃ wo : World, wo = wr := ⟨_, rfl⟩
    by_cases hlt : k < 12
    · go_wp2_with fail
      refine (s_l01Below _ g _ _ hcr).mono ?_; rintro e w2 ⟨x, hx, rfl, hcur2, hgr⟩
      have hx' := hx.2.1 (by omega)
      have hx0 := hx.1
      clear hx
      have hown2 : OwnI (g + 1) w2 u4 xs := hown.kept fun b hb => hgr.block b (hown.lt b hb).2 (by have := (hown.lt b hb).1; simp; omega)
      have hb2 : Below w.heap.size w w2 := hbr.trans (below_of_grown hgr hg (by have := hbr.size; omega))
      go_wp2_with (at_builtin; refine append1 elemInt rfl _ _ rfl lenInt oneInt rfl (hown2.alloc _) ?hB rfl x (intCell _ _) ?hlen ?_)
      case hB => simp only [World.size_alloc]; have := hcur2.lt; omega
      case hlen => rw [HL.out]; unfold maxLen; omega
      intro v' w' hown' hgr' hbel
      have hcur' : Cur w.heap.size w' g := (hcur2.below ((Below.refl _ _).alloc (Nat.le_refl _) _)).stays hbel.size (fun b hb => hbel.block b (by omega))
      have hb' : Below w.heap.size w w' := (hb2.alloc hb2.size _).trans (hbel.mono (by omega))
      clear hgr' hbel hown hown2 hcur2 hgr hbr hb2 hcr
      go_wp2_with fail
      go_roundw
      case rel => exact ⟨k + 1, xs ++ [x], by omega, by go_num, by rw [List.length_append, HL.out]; rfl, fun y hy => by
        rcases List.mem_append.1 hy with h | h
        · exact HX.out y h
        · simp at h; subst h; omega, hown', hcur', hb'⟩
      case measure => simp [intOf]; omega
    · obtain rfl : k = 12 := by omega
      go_wp2_with fail
      go_ret
      exact ⟨_, xs, rfl, hown.mono (by omega), HL.out, HX.out, hbr⟩
/-- The twelve places, as the walk reads them. -/
theorem places_at {B : Nat} {w : World} {v : Value} {xs : List Int} (h : OwnI B w v xs) (hl : xs.length = 12) : ∃ g cap, v = .slice (some ⟨g, 0, none⟩) 12 cap ∧ B ≤ g ∧ g < w.heap.size ∧ ∀ i, i < 12 → w.cell? ⟨g, i, none⟩ = some (.int .i64 (xs.getD i 0)) := by
  obtain ⟨ao, cap, rfl, hc, hm, hr⟩ := h.read lenInt
  obtain ⟨g, rfl, hB, hg, _, _⟩ := hr 0 (by omega)
  refine ⟨g, cap, by rw [hl], hB, hg, fun i hi => ?_⟩
  obtain ⟨g', hg', _, _, _, hcell⟩ := hr i (by omega)
  simp only [Option.some.injEq, Addr.mk.injEq, and_true] at hg'
  subst hg'
  have := hcell 0 (by omega)
  simp only [Nat.mul_one, Nat.add_zero, fInt, List.getElem?_cons_zero] at this
  rw [this, List.getD_eq_getElem?_getD, List.getElem?_eq_getElem (by omega), Option.getD_some]
theorem places_in {xs : List Int} (hl : xs.length = 12) (h : ∀ x ∈ xs, 0 ≤ x ∧ x ≤ 9999) (i : Nat) (hi : i < 12) : 0 ≤ xs.getD i 0 ∧ xs.getD i 0 ≤ 9999 := by
  rw [List.getD_eq_getElem?_getD, List.getElem?_eq_getElem (by omega), Option.getD_some]
  exact h _ (List.getElem_mem _)
end Go.Proofs.Ytkdafincnmkjnaa
