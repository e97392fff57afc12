/-
  The greatest number of pairs by deleting from the list is that by marks. No Go text is named here.
-/
import Derived.Test.YtkdafincnmkjnaaBestS
set_option linter.unusedVariables false
set_option linter.unusedSimpArgs false
namespace Go.Proofs.Ytkdafincnmkjnaa
open Go.RowKit
def bLoopL (G : List Sp → Nat) (x : Sp) (r : List Sp) : Nat → Nat
  | 0 => G r
  | m + 1 => if meshS x (r.getD m default) then max (bLoopL G x r m) (1 + G (r.eraseIdx m)) else bLoopL G x r m
def bestL : Nat → List Sp → Nat
  | 0, _ => 0
  | _ + 1, [] => 0
  | d + 1, x :: r => bLoopL (bestL d) x r r.length
theorem bLoopL_le (G : List Sp → Nat) {d : Nat} (h : ∀ l, G l ≤ d) (x : Sp) (r : List Sp) : ∀ m, bLoopL G x r m ≤ d + 1
  | 0 => by have := h r; rw [bLoopL]; omega
  | m + 1 => by
    have ih := bLoopL_le G h x r m
    rw [bLoopL]; split
    · have := h (r.eraseIdx m); exact Nat.max_le.2 ⟨ih, by omega⟩
    · exact ih
theorem bLoopL_len (G : List Sp → Nat) (h : ∀ l, G l ≤ l.length) (x : Sp) (r : List Sp) : ∀ m, bLoopL G x r m ≤ r.length + 1
  | 0 => by have := h r; rw [bLoopL]; omega
  | m + 1 => by
    have ih := bLoopL_len G h x r m
    rw [bLoopL]; split
    · have := h (r.eraseIdx m)
      have h2 : (r.eraseIdx m).length ≤ r.length := by rw [List.length_eraseIdx]; split <;> omega
      exact Nat.max_le.2 ⟨ih, by omega⟩
    · exact ih
theorem bestL_len : ∀ d xs, bestL d xs ≤ xs.length
  | 0, _ => Nat.zero_le _
  | d + 1, [] => Nat.zero_le _
  | d + 1, x :: r => bLoopL_len _ (bestL_len d) x r _
theorem bestL_nil (d : Nat) : bestL d [] = 0 := by cases d <;> rfl
theorem bestL_le : ∀ d xs, bestL d xs ≤ d
  | 0, _ => Nat.le_refl _
  | d + 1, [] => Nat.zero_le _
  | d + 1, x :: r => by
    rw [bestL]
    have : ∀ m, bLoopL (bestL d) x r m ≤ d + 1 := by
      intro m
      induction m with
      | zero => have := bestL_le d r; rw [bLoopL]; omega
      | succ m ih =>
        rw [bLoopL]; split
        · have := bestL_le d (r.eraseIdx m); exact Nat.max_le.2 ⟨ih, by omega⟩
        · exact ih
    exact this _
/-- The indices from f on, m of them, that are not used. -/
def idx (u : Nat → Bool) (f m : Nat) : List Nat := (List.range' f m).filter (fun i => !u i)
def rem (xs : List Sp) (u : Nat → Bool) (f m : Nat) : List Sp := (idx u f m).map (fun i => xs.getD i default)
theorem idx_split (u : Nat → Bool) (f k m : Nat) (hk : k < m) : idx u f m = idx u f k ++ ((if u (f + k) then [] else [f + k]) ++ idx u (f + k + 1) (m - k - 1)) := by
  unfold idx
  have : List.range' f m = List.range' f k ++ (f + k) :: List.range' (f + k + 1) (m - k - 1) := by
    rw [show m = k + (m - k - 1 + 1) by omega, ← List.range'_append_1, List.range'_succ]
    simp
  rw [this, List.filter_append, List.filter_cons]
  cases u (f + k) <;> simp
theorem idx_upd (u : Nat → Bool) (f m k : Nat) (h : k < f ∨ f + m ≤ k) : idx (upd u k) f m = idx u f m := by
  unfold idx
  refine List.filter_congr fun i hi => ?_
  rw [List.mem_range'_1] at hi
  have : (i == k) = false := by simp; omega
  rw [upd, this, Bool.or_false]
theorem idx_snoc (u : Nat → Bool) (f k : Nat) : idx u f (k + 1) = idx u f k ++ if u (f + k) then [] else [f + k] := by
  rw [idx_split u f k (k + 1) (by omega)]
  simp [idx]
theorem bestL_rem (xs : List Sp) (n : Nat) : ∀ m, m ≤ n → ∀ d u, (rem xs u (n - m) m).length ≤ d → bestL d (rem xs u (n - m) m) = bestM (meshR xs) n m u
  | 0, _, d, u, _ => by rw [bestM]; exact bestL_nil d
  | m + 1, hm, d, u, hd => by
    have ih := bestL_rem xs n m (by omega)
    have hf : n - m = n - (m + 1) + 1 := by omega
    rw [hf] at ih
    rw [bestM]
    obtain ⟨f, hfe⟩ : ∃ f, f = n - (m + 1) := ⟨_, rfl⟩
    rw [← hfe] at ih hd ⊢
    have hsp := idx_split u f 0 (m + 1) (by omega)
    have h0 : idx u f 0 = [] := rfl
    simp only [h0, List.nil_append, Nat.add_zero, Nat.sub_zero, Nat.add_sub_cancel] at hsp
    by_cases hu : u f = true
    · rw [if_pos hu]
      rw [if_pos hu, List.nil_append] at hsp
      have hr : rem xs u f (m + 1) = rem xs u (f + 1) m := by unfold rem; rw [hsp]
      rw [hr] at hd ⊢
      exact ih d u hd
    · rw [if_neg hu]
      rw [if_neg hu, List.singleton_append] at hsp
      have hr : rem xs u f (m + 1) = xs.getD f default :: rem xs u (f + 1) m := by unfold rem; rw [hsp]; rfl
      rw [hr] at hd ⊢
      obtain ⟨d, rfl⟩ : ∃ e, d = e + 1 := ⟨d - 1, by simp only [List.length_cons] at hd; omega⟩
      rw [bestL]
      simp only [List.length_cons, Nat.add_le_add_iff_right] at hd
      have key : ∀ k, k ≤ m → bLoopL (bestL d) (xs.getD f default) (rem xs u (f + 1) m) (rem xs u (f + 1) k).length = bRow (meshR xs) u f (bestM (meshR xs) n m) k := by
        intro k
        induction k with
        | zero => intro _; rw [bRow]; exact ih d u hd
        | succ k ihk =>
          intro hk
          have ihk := ihk (by omega)
          have hs1 := idx_snoc u (f + 1) k
          have hs2 := idx_split u (f + 1) k m (by omega)
          rw [bRow]
          by_cases huk : u (f + 1 + k) = true
          · rw [huk, Bool.true_or, if_pos rfl]
            rw [if_pos huk, List.append_nil] at hs1
            rw [show rem xs u (f + 1) (k + 1) = rem xs u (f + 1) k by unfold rem; rw [hs1]]
            exact ihk
          · have huf : u (f + 1 + k) = false := by simpa using huk
            rw [huf, Bool.false_or]
            rw [if_neg huk] at hs1 hs2
            have hl : (rem xs u (f + 1) (k + 1)).length = (rem xs u (f + 1) k).length + 1 := by unfold rem; rw [hs1]; simp
            have hm2 : rem xs u (f + 1) m = rem xs u (f + 1) k ++ xs.getD (f + 1 + k) default :: rem xs u (f + 1 + k + 1) (m - k - 1) := by unfold rem; rw [hs2]; simp
            have hg : (rem xs u (f + 1) m).getD (rem xs u (f + 1) k).length default = xs.getD (f + 1 + k) default := by rw [hm2]; simp [List.getD_eq_getElem?_getD]
            have he : (rem xs u (f + 1) m).eraseIdx (rem xs u (f + 1) k).length = rem xs (upd u (f + 1 + k)) (f + 1) m := by
              rw [hm2, List.eraseIdx_append_of_length_le (Nat.le_refl _), Nat.sub_self, List.eraseIdx_cons_zero]
              unfold rem
              rw [idx_split (upd u (f + 1 + k)) (f + 1) k m (by omega), idx_upd u (f + 1) k _ (by omega), idx_upd u (f + 1 + k + 1) _ _ (by omega), show upd u (f + 1 + k) (f + 1 + k) = true by simp [upd]]
              simp
            rw [hl, bLoopL, hg, he, ihk]
            have hel : (rem xs (upd u (f + 1 + k)) (f + 1) m).length ≤ d := by rw [← he, List.length_eraseIdx]; split <;> omega
            rw [ih d _ hel]
            show (if meshR xs f (f + 1 + k) = true then _ else _) = _
            cases meshR xs f (f + 1 + k) <;> rfl
      exact key m (Nat.le_refl _)
theorem bestL_all (xs : List Sp) : bestL xs.length xs = bestM (meshR xs) xs.length xs.length (uf (List.replicate xs.length false)) := by
  have hu : uf (List.replicate xs.length false) = fun _ => false := by
    funext i; unfold uf; rw [List.getD_eq_getElem?_getD, List.getElem?_replicate]; split <;> rfl
  have hr : rem xs (fun _ => false) (xs.length - xs.length) xs.length = xs := by
    unfold rem idx
    rw [Nat.sub_self, List.filter_eq_self.2 (by simp)]
    apply List.ext_getElem
    · simp
    · intro i h1 h2; rw [List.getElem_map, List.getD_eq_getElem?_getD, List.getElem_range', Nat.zero_add, Nat.one_mul, List.getElem?_eq_getElem h2, Option.getD_some]
  have := bestL_rem xs xs.length xs.length (Nat.le_refl _) xs.length (fun _ => false) (by rw [hr]; exact Nat.le_refl _)
  rw [hr] at this
  rw [hu]; exact this
end Go.Proofs.Ytkdafincnmkjnaa
