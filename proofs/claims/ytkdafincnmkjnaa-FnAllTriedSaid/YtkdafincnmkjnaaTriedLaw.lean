/-
  With as many tries as spans each left span meets each right one.
-/
import Derived.Test.YtkdafincnmkjnaaSplitS
import Derived.Test.YtkdafincnmkjnaaEdgeLaw
set_option linter.unusedVariables false
set_option linter.unusedSimpArgs false
namespace Go.Proofs.Ytkdafincnmkjnaa
open Go.RowKit
def anyK (xs : List Sp) (o : List Int) (i : Nat) : Nat → Bool
  | 0 => false
  | m + 1 => anyK xs o i m || meshS (xs.getD (o.getD i 0).toNat default) (xs.getD (o.getD (o.length / 2 + m) 0).toNat default)
def anyTo (xs : List Sp) (o : List Int) : Nat → Bool
  | 0 => false
  | i + 1 => anyTo xs o i || anyK xs o i (o.length - o.length / 2)
theorem anyK_false {xs : List Sp} {o : List Int} {i : Nat} : ∀ n, anyK xs o i n = false → ∀ m, m < n → meshS (xs.getD (o.getD i 0).toNat default) (xs.getD (o.getD (o.length / 2 + m) 0).toNat default) = false
  | 0, _, m, h => absurd h (Nat.not_lt_zero _)
  | n + 1, h, m, hm => by
    rw [anyK, Bool.or_eq_false_iff] at h
    rcases Nat.lt_or_ge m n with h1 | h1
    · exact anyK_false n h.1 m h1
    · obtain rfl : m = n := by omega
      exact h.2
theorem anyTo_false {xs : List Sp} {o : List Int} : ∀ n, anyTo xs o n = false → ∀ i, i < n → anyK xs o i (o.length - o.length / 2) = false
  | 0, _, i, h => absurd h (Nat.not_lt_zero _)
  | n + 1, h, i, hi => by
    rw [anyTo, Bool.or_eq_false_iff] at h
    rcases Nat.lt_or_ge i n with h1 | h1
    · exact anyTo_false n h.1 i h1
    · obtain rfl : i = n := by omega
      exact h.2
theorem anyK_true {xs : List Sp} {o : List Int} {i : Nat} : ∀ n, anyK xs o i n = true → ∃ m, m < n ∧ meshS (xs.getD (o.getD i 0).toNat default) (xs.getD (o.getD (o.length / 2 + m) 0).toNat default) = true
  | 0, h => by cases h
  | n + 1, h => by
    rw [anyK, Bool.or_eq_true] at h
    rcases h with h | h
    · obtain ⟨m, hm, q⟩ := anyK_true n h; exact ⟨m, by omega, q⟩
    · exact ⟨n, by omega, h⟩
theorem anyTo_true {xs : List Sp} {o : List Int} : ∀ n, anyTo xs o n = true → ∃ i, i < n ∧ anyK xs o i (o.length - o.length / 2) = true
  | 0, h => by cases h
  | n + 1, h => by
    rw [anyTo, Bool.or_eq_true] at h
    rcases h with h | h
    · obtain ⟨m, hm, q⟩ := anyTo_true n h; exact ⟨m, by omega, q⟩
    · exact ⟨n, by omega, h⟩
theorem gStep_ge (xs : List Sp) (out : List Pr) (a b : Nat) : out.length ≤ (gStep xs out a b).length := by unfold gStep; split <;> simp
theorem spRow_ge (xs : List Sp) (o : List Int) (t : Nat) (out : List Pr) : ∀ n m, m ≤ n → (spRow xs o t out m).length ≤ (spRow xs o t out n).length
  | 0, m, h => by obtain rfl : m = 0 := by omega
                  exact Nat.le_refl _
  | n + 1, m, h => by
    rcases Nat.lt_or_ge n m with h1 | h1
    · obtain rfl : m = n + 1 := by omega
      exact Nat.le_refl _
    · exact Nat.le_trans (spRow_ge xs o t out n m h1) (by rw [spRow]; exact gStep_ge _ _ _ _)
theorem spAll_ge (xs : List Sp) (o : List Int) : ∀ n m, m ≤ n → (spAll xs o m).length ≤ (spAll xs o n).length
  | 0, m, h => by obtain rfl : m = 0 := by omega
                  exact Nat.le_refl _
  | n + 1, m, h => by
    rcases Nat.lt_or_ge n m with h1 | h1
    · obtain rfl : m = n + 1 := by omega
      exact Nat.le_refl _
    · exact Nat.le_trans (spAll_ge xs o n m h1) (by rw [spAll]; exact spRow_ge xs o n (spAll xs o n) _ 0 (Nat.zero_le _))
theorem spRow_none {xs : List Sp} {o : List Int} (h : ∀ i, i < o.length / 2 → ∀ m, m < o.length - o.length / 2 → meshS (xs.getD (o.getD i 0).toNat default) (xs.getD (o.getD (o.length / 2 + m) 0).toNat default) = false) (t : Nat) : ∀ m, m ≤ o.length / 2 → spRow xs o t [] m = []
  | 0, _ => rfl
  | m + 1, hm => by
    rw [spRow, spRow_none h t m (by omega), gStep_3]
    exact h m (by omega) _ (Nat.mod_lt _ (by omega))
theorem tried_law {xs : List Sp} {o : List Int} (h8 : o.length ≤ 8) : anyTo xs o (o.length / 2) = decide (0 < (spAll xs o 16).length) := by
  cases ha : anyTo xs o (o.length / 2)
  · have h := fun i (hi : i < o.length / 2) => anyK_false _ (anyTo_false _ ha i hi)
    have hz : ∀ t, spAll xs o t = [] := fun t => by
      induction t with
      | zero => rfl
      | succ t ih => rw [spAll, ih, spRow_none h t _ (Nat.le_refl _)]
    rw [hz]; rfl
  · obtain ⟨i, hi, hk⟩ := anyTo_true _ ha
    obtain ⟨m, hm, hmesh⟩ := anyK_true _ hk
    obtain ⟨r, hr⟩ : ∃ r, r = o.length - o.length / 2 := ⟨_, rfl⟩
    obtain ⟨t, ht, htm⟩ : ∃ t, t < r ∧ (i + t) % r = m := by
      have hir : i < r := by omega
      rcases Nat.lt_or_ge m i with h | h
      · refine ⟨m + r - i, by omega, ?_⟩
        rw [show i + (m + r - i) = m + r by omega, Nat.add_mod_right, Nat.mod_eq_of_lt (by omega)]
      · exact ⟨m - i, by omega, by rw [show i + (m - i) = m by omega, Nat.mod_eq_of_lt (by omega)]⟩
    refine (decide_eq_true ?_).symm
    have h1 := spAll_ge xs o 16 (t + 1) (by omega)
    have h2 := spRow_ge xs o t (spAll xs o t) (o.length / 2) (i + 1) (by omega)
    rcases Nat.eq_zero_or_pos (spRow xs o t (spAll xs o t) i).length with h3 | h3
    · have h4 : spRow xs o t (spAll xs o t) i = [] := List.eq_nil_of_length_eq_zero h3
      have h5 : spRow xs o t (spAll xs o t) (i + 1) = [⟨(spA o i : Nat), (spB o i t : Nat)⟩] := by
        rw [spRow, h4, gStep_4 _ _ _ _ (takenB_nil _) (takenB_nil _)]
        · rfl
        · unfold spA spB; rw [← hr, htm]; exact hmesh
      rw [h5] at h2
      rw [spAll] at h1
      simp at h2
      omega
    · have h4 := spRow_ge xs o t (spAll xs o t) (i + 1) i (by omega)
      rw [spAll] at h1
      omega
theorem i_gtwo (g : Nat) (w : World) (hg : g < w.heap.size) (c : w.cell? ⟨g, 0, none⟩ = some (.int .i64 0) ∧ w.cell? ⟨g, 1, none⟩ = some (.int .i64 0) ∧ w.cell? ⟨g, 2, none⟩ = some (.int .i64 0) ∧ w.cell? ⟨g, 3, none⟩ = some (.int .i64 1) ∧ w.cell? ⟨g, 4, none⟩ = some (.int .i64 0) ∧ w.cell? ⟨g, 5, none⟩ = some (.int .i64 0)) :
    Calls Try.prog 34 #[.slice (some ⟨g, 0, none⟩) 2 2] w fun e w' => ∃ vo vc, e = .returned (.slice vo 1 vc) ∧ Below w.heap.size w w' := by
  refine (i_GreedyPairs _ [⟨0, 0, 0⟩, ⟨1, 0, 0⟩] w (two_at w g hg (fun j u hj => by
    obtain ⟨c0, c1, c2, c3, c4, c5⟩ := c
    match j, hj with
    | 0, hj => simp at hj; subst hj; exact c0
    | 1, hj => simp at hj; subst hj; exact c1
    | 2, hj => simp at hj; subst hj; exact c2
    | 3, hj => simp at hj; subst hj; exact c3
    | 4, hj => simp at hj; subst hj; exact c4
    | 5, hj => simp at hj; subst hj; exact c5
    | j + 6, hj => simp at hj))).mono ?_
  rintro e w' ⟨v, rfl, hown, hb⟩
  obtain ⟨vo, vc, rfl, -, -⟩ := hown.shape
  have hl : (greedy [⟨0, 0, 0⟩, ⟨1, 0, 0⟩]).length = 1 := by decide
  rw [hl]
  exact ⟨vo, vc, rfl, hb⟩
end Go.Proofs.Ytkdafincnmkjnaa
