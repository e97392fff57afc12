/-
  A page is unmapped: the program's function and the reference's.
-/
import Derived.Test.YtmblkllijjlkoaaGreatKRel
set_option linter.unusedVariables false
set_option linter.unusedSimpArgs false
namespace Go.Proofs.YtmblkllijjlkoaaGreat
open Go.RowKit
theorem can_ok {K : Ker} (h : canCall K = true) : framesOk K.m.f = true ∧ tableOk K.m.ents K.m.f.used.length = true := by
  have h0 : kernelOk K = true := by unfold canCall at h; simp only [Bool.and_eq_true] at h; exact h.2
  have h1 : machineOk K.m = true := by rw [kernelOk_eq] at h0; simp only [Bool.and_eq_true] at h0; first | exact h0.2 | exact h0.1.2 | exact h0.1.1.2
  unfold machineOk at h1
  simp only [Bool.and_eq_true] at h1
  exact h1.1
theorem can_len {K : Ker} (h : canCall K = true) : K.m.f.used.length = K.m.f.cells.length ∧ K.m.f.cells.length ≤ 32 ∧ K.m.ents.length ≤ 32 := by
  obtain ⟨h1, h2⟩ := can_ok h
  unfold framesOk at h1
  unfold tableOk at h2
  simp only [Bool.and_eq_true, between_iff, beq_iff_eq] at h1 h2
  omega
/-- Where a mapped page lies. -/
theorem mapped_frame {K : Ker} {p : Int} (h : canCall K = true) (hm : mappedB K.m.ents p = true) : ∃ (k : Nat) (em : Int) (fr : Nat), p = k ∧ K.m.ents[k]? = some ⟨em, fr⟩ ∧ pageEntry K.m.ents p = ⟨em, fr⟩ ∧ fr < K.m.f.used.length ∧ fr < K.m.f.cells.length ∧ K.m.ents.length ≤ 1048576 := by
  obtain ⟨k, en, rfl, hen, hpe⟩ := mapped_in hm
  have hl := can_len h
  have ht := (can_ok h).2
  unfold tableOk at ht
  simp only [Bool.and_eq_true] at ht
  have he := allTo_iff.1 ht.1 k (getx_lt hen)
  rw [getD_of hen] at he
  unfold mappedB at hm
  rw [hpe] at hm
  unfold entOk at he
  simp only [Bool.and_eq_true, Bool.not_eq_true', Bool.and_eq_false_iff, decide_eq_true_eq, decide_eq_false_iff_not, between_iff] at he
  have hn : (en.m != 0) = true := hm
  obtain ⟨m, f⟩ := en
  dsimp only at *
  have hf0 : 0 ≤ f := he.1.1.2
  have hf1 : f < K.m.f.used.length := by
    rcases he.2 with h5 | h5
    · rw [hn] at h5; cases h5
    · omega
  obtain ⟨fr, rfl⟩ := Int.eq_ofNat_of_zero_le hf0
  exact ⟨k, m, fr, rfl, hen, hpe, by omega, by omega, by omega⟩

end Go.Proofs.YtmblkllijjlkoaaGreat
