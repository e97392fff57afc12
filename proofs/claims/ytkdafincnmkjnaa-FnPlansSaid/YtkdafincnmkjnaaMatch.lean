/-
  Matchings: pairs of indices that are related and share none; the greatest number of them. No Go text is named here.
-/
import Derived.Test.YtkdafincnmkjnaaMem
set_option linter.unusedVariables false
set_option linter.unusedSimpArgs false
namespace Go.Proofs.Ytkdafincnmkjnaa
open Go.RowKit
def upd (u : Nat → Bool) (k : Nat) : Nat → Bool := fun i => u i || i == k
def bRow (r : Nat → Nat → Bool) (u : Nat → Bool) (f : Nat) (G : (Nat → Bool) → Nat) : Nat → Nat
  | 0 => G u
  | m + 1 => if u (f + 1 + m) || !r f (f + 1 + m) then bRow r u f G m else max (bRow r u f G m) (1 + G (upd u (f + 1 + m)))
/-- The greatest number of pairs among the last d of n indices that are not used. -/
def bestM (r : Nat → Nat → Bool) (n : Nat) : Nat → (Nat → Bool) → Nat
  | 0, _ => 0
  | d + 1, u => if u (n - (d + 1)) then bestM r n d u else bRow r u (n - (d + 1)) (bestM r n d) d
/-- The indices of some pairs. -/
def ends : List (Nat × Nat) → List Nat
  | [] => []
  | (a, b) :: l => a :: b :: ends l
structure Matching (r : Nat → Nat → Bool) (n : Nat) (P : List (Nat × Nat)) : Prop where
  rel : ∀ p ∈ P, r p.1 p.2 = true
  lt : ∀ i ∈ ends P, i < n
  nd : (ends P).Nodup
theorem ends_app (P Q : List (Nat × Nat)) : ends (P ++ Q) = ends P ++ ends Q := by
  induction P with
  | nil => rfl
  | cons p P ih => obtain ⟨a, b⟩ := p; simp [ends, ih]
theorem ends_len (P : List (Nat × Nat)) : (ends P).length = 2 * P.length := by
  induction P with
  | nil => rfl
  | cons p P ih => obtain ⟨a, b⟩ := p; simp [ends, ih]; omega
theorem mem_ends {P : List (Nat × Nat)} {i : Nat} : i ∈ ends P ↔ ∃ p ∈ P, p.1 = i ∨ p.2 = i := by
  induction P with
  | nil => simp [ends]
  | cons p P ih =>
    obtain ⟨a, b⟩ := p
    simp only [ends, List.mem_cons, ih]
    constructor
    · rintro (rfl | rfl | ⟨q, hq, h⟩)
      · exact ⟨(i, b), .inl rfl, .inl rfl⟩
      · exact ⟨(a, i), .inl rfl, .inr rfl⟩
      · exact ⟨q, .inr hq, h⟩
    · rintro ⟨q, rfl | hq, h⟩
      · rcases h with h | h
        · exact .inl h.symm
        · exact .inr (.inl h.symm)
      · exact .inr (.inr ⟨q, hq, h⟩)
theorem bRow_ge {r : Nat → Nat → Bool} {u : Nat → Bool} {f : Nat} {G : (Nat → Bool) → Nat} : ∀ m, G u ≤ bRow r u f G m
  | 0 => Nat.le_refl _
  | m + 1 => by
    have := bRow_ge (r := r) (u := u) (f := f) (G := G) m
    rw [bRow]; split
    · exact this
    · exact Nat.le_trans this (Nat.le_max_left _ _)
theorem bRow_ge2 {r : Nat → Nat → Bool} {u : Nat → Bool} {f : Nat} {G : (Nat → Bool) → Nat} {k : Nat} (hu : u (f + 1 + k) = false) (hr : r f (f + 1 + k) = true) : ∀ m, k < m → 1 + G (upd u (f + 1 + k)) ≤ bRow r u f G m
  | 0, h => absurd h (Nat.not_lt_zero _)
  | m + 1, h => by
    rw [bRow]
    rcases Nat.lt_or_ge k m with h1 | h1
    · have := bRow_ge2 hu hr m h1 (G := G)
      split
      · exact this
      · exact Nat.le_trans this (Nat.le_max_left _ _)
    · obtain rfl : k = m := by omega
      rw [hu, hr]
      exact Nat.le_max_right _ _
theorem bRow_is {r : Nat → Nat → Bool} {u : Nat → Bool} {f : Nat} {G : (Nat → Bool) → Nat} : ∀ m, bRow r u f G m = G u ∨ ∃ k, k < m ∧ u (f + 1 + k) = false ∧ r f (f + 1 + k) = true ∧ bRow r u f G m = 1 + G (upd u (f + 1 + k))
  | 0 => .inl rfl
  | m + 1 => by
    have ih := bRow_is (r := r) (u := u) (f := f) (G := G) m
    rw [bRow]
    split
    · rcases ih with h | ⟨k, hk, h⟩
      · exact .inl h
      · exact .inr ⟨k, by omega, h⟩
    · rename_i hc
      have hc' : u (f + 1 + m) = false ∧ r f (f + 1 + m) = true := by
        cases h1 : u (f + 1 + m) <;> cases h2 : r f (f + 1 + m) <;> simp [h1, h2] at hc ⊢
      rcases Nat.le_total (bRow r u f G m) (1 + G (upd u (f + 1 + m))) with h | h
      · exact .inr ⟨m, by omega, hc'.1, hc'.2, Nat.max_eq_right h⟩
      · rw [Nat.max_eq_left h]
        rcases ih with h | ⟨k, hk, h⟩
        · exact .inl h
        · exact .inr ⟨k, by omega, h⟩
theorem upd_iff {u : Nat → Bool} {k i : Nat} : upd u k i = false ↔ u i = false ∧ i ≠ k := by simp [upd]
/-- No matching has more pairs. -/
theorem best_ge {r : Nat → Nat → Bool} (hs : ∀ a b, r a b = r b a) {n : Nat} : ∀ d, d ≤ n → ∀ (u : Nat → Bool) (P : List (Nat × Nat)), Matching r n P → (∀ i ∈ ends P, n - d ≤ i ∧ u i = false) → P.length ≤ bestM r n d u
  | 0, _, u, P, hm, h => by
    cases P with
    | nil => exact Nat.le_refl _
    | cons p P =>
      obtain ⟨a, b⟩ := p
      have h1 := (h a (by simp [ends])).1; have h2 := hm.lt a (by simp [ends]); omega
  | d + 1, hd, u, P, hm, h => by
    have up : (∀ i ∈ ends P, i ≠ n - (d + 1)) → P.length ≤ bestM r n d u := fun hne => best_ge hs d (by omega) u P hm (fun i hi => ⟨by have := (h i hi).1; have := hne i hi; omega, (h i hi).2⟩)
    rw [bestM]
    split
    · rename_i hu
      exact up fun i hi e => by have := (h i hi).2; rw [e, hu] at this; cases this
    · rename_i hu
      by_cases hin : n - (d + 1) ∈ ends P
      · obtain ⟨p, hp, he⟩ := mem_ends.1 hin
        obtain ⟨P1, P2, rfl⟩ := List.append_of_mem hp
        obtain ⟨k, hk, hrk⟩ : ∃ k, (p = (n - (d + 1), k) ∨ p = (k, n - (d + 1))) ∧ r (n - (d + 1)) k = true := by
          have hr := hm.rel p (by simp)
          obtain ⟨a, b⟩ := p
          dsimp only at hr he
          rcases he with rfl | rfl
          · exact ⟨b, .inl rfl, hr⟩
          · exact ⟨a, .inr rfl, by rw [hs]; exact hr⟩
        have hnd := hm.nd
        have hlt := hm.lt
        have hE : ends (P1 ++ p :: P2) = ends P1 ++ (p.1 :: p.2 :: ends P2) := by rw [ends_app]; rfl
        rw [hE] at hnd hlt h
        have hkm : k ∈ ends P1 ++ (p.1 :: p.2 :: ends P2) := by rcases hk with rfl | rfl <;> simp
        have hnd2 : (ends (P1 ++ P2)).Nodup ∧ (∀ i ∈ ends (P1 ++ P2), i ≠ n - (d + 1) ∧ i ≠ k) ∧ n - (d + 1) ≠ k := by
          rw [ends_app]
          rw [List.nodup_append] at hnd ⊢
          obtain ⟨n1, n2, n3⟩ := hnd
          rw [List.nodup_cons, List.nodup_cons] at n2
          obtain ⟨n4, n5, n6⟩ := n2
          simp only [List.mem_cons, not_or] at n4 n5
          refine ⟨⟨n1, n6, fun a ha b hb => n3 a ha b (by simp [hb])⟩, fun i hi => ?_, ?_⟩
          · rcases List.mem_append.1 hi with hi | hi
            · have q1 := n3 i hi p.1 (by simp); have q2 := n3 i hi p.2 (by simp)
              rcases hk with rfl | rfl
              · exact ⟨q1, q2⟩
              · exact ⟨q2, q1⟩
            · have q1 : i ≠ p.1 := fun e => n4.2 (e ▸ hi)
              have q2 : i ≠ p.2 := fun e => n5 (e ▸ hi)
              rcases hk with rfl | rfl
              · exact ⟨q1, q2⟩
              · exact ⟨q2, q1⟩
          · rcases hk with rfl | rfl
            · exact n4.1
            · exact fun e => n4.1 e.symm
        have hk1 := h k hkm
        have hk2 := hlt k hkm
        have hmem : ∀ i, i ∈ ends (P1 ++ P2) → i ∈ ends P1 ++ (p.1 :: p.2 :: ends P2) := fun i hi => by
          rw [ends_app] at hi
          rcases List.mem_append.1 hi with h | h <;> simp [h]
        have ih := best_ge hs d (by omega) (upd u k) (P1 ++ P2) ⟨fun q hq => hm.rel q (by rcases List.mem_append.1 hq with h | h <;> simp [h]), fun i hi => hlt i (hmem i hi), hnd2.1⟩
          (fun i hi => ⟨by have := (h i (hmem i hi)).1; have := (hnd2.2.1 i hi).1; omega, upd_iff.2 ⟨(h i (hmem i hi)).2, (hnd2.2.1 i hi).2⟩⟩)
        obtain ⟨m, hm'⟩ : ∃ m, k = n - (d + 1) + 1 + m := ⟨k - (n - (d + 1) + 1), by have := hnd2.2.2; omega⟩
        have hb := bRow_ge2 (r := r) (u := u) (f := n - (d + 1)) (G := bestM r n d) (k := m) (by rw [← hm']; exact hk1.2) (by rw [← hm']; exact hrk) d (by omega)
        rw [← hm'] at hb
        have hl : (P1 ++ p :: P2).length = (P1 ++ P2).length + 1 := by simp; omega
        omega
      · exact Nat.le_trans (up fun i hi e => hin (e ▸ hi)) (bRow_ge d)
/-- A matching has as many. -/
theorem best_is {r : Nat → Nat → Bool} {n : Nat} : ∀ d, d ≤ n → ∀ (u : Nat → Bool), ∃ P : List (Nat × Nat), Matching r n P ∧ (∀ i ∈ ends P, n - d ≤ i ∧ u i = false) ∧ P.length = bestM r n d u
  | 0, _, u => ⟨[], ⟨by simp, by simp [ends], by simp [ends]⟩, by simp [ends], rfl⟩
  | d + 1, hd, u => by
    have ih := fun v => best_is (r := r) (n := n) d (by omega) v
    have low : ∃ P : List (Nat × Nat), Matching r n P ∧ (∀ i ∈ ends P, n - (d + 1) ≤ i ∧ u i = false) ∧ P.length = bestM r n d u := by
      obtain ⟨P, h1, h2, h3⟩ := ih u
      exact ⟨P, h1, fun i hi => ⟨by have := (h2 i hi).1; omega, (h2 i hi).2⟩, h3⟩
    rw [bestM]
    split
    · exact low
    · rename_i hu
      rcases bRow_is (r := r) (u := u) (f := n - (d + 1)) (G := bestM r n d) d with h | ⟨k, hk, h1, h2, h3⟩
      · rw [h]; exact low
      · rw [h3]
        obtain ⟨P, p1, p2, p3⟩ := ih (upd u (n - (d + 1) + 1 + k))
        refine ⟨(n - (d + 1), n - (d + 1) + 1 + k) :: P, ⟨fun q hq => ?_, fun i hi => ?_, ?_⟩, fun i hi => ?_, by simp [p3]; omega⟩
        · rcases List.mem_cons.1 hq with rfl | hq
          · exact h2
          · exact p1.rel q hq
        · simp only [ends, List.mem_cons] at hi
          rcases hi with rfl | rfl | hi
          · omega
          · omega
          · exact p1.lt i hi
        · simp only [ends, List.nodup_cons, List.mem_cons, not_or]
          refine ⟨⟨by omega, fun hm => ?_⟩, fun hm => ?_, p1.nd⟩
          · have := (p2 _ hm).1; omega
          · exact (upd_iff.1 (p2 _ hm).2).2 rfl
        · simp only [ends, List.mem_cons] at hi
          rcases hi with rfl | rfl | hi
          · exact ⟨Nat.le_refl _, by simpa using hu⟩
          · exact ⟨by omega, h1⟩
          · have := p2 i hi
            exact ⟨by omega, (upd_iff.1 this.2).1⟩
/-- A list without doubles is no longer than a list that holds all of it. -/
theorem nodup_le : ∀ (l m : List Nat), l.Nodup → (∀ x ∈ l, x ∈ m) → l.length ≤ m.length
  | [], m, _, _ => Nat.zero_le _
  | x :: l, m, hn, hs => by
    rw [List.nodup_cons] at hn
    have hx := hs x (by simp)
    have ih := nodup_le l (m.erase x) hn.2 (fun y hy => by
      have := hs y (by simp [hy])
      exact (List.mem_erase_of_ne (fun e => hn.1 (by rw [← e]; exact hy))).2 this)
    rw [List.length_erase_of_mem hx] at ih
    have : 0 < m.length := List.length_pos_of_mem hx
    simp only [List.length_cons]; omega
/-- A matching that no pair can be added to has at least half of the pairs of any other. -/
theorem half_of {r : Nat → Nat → Bool} {n : Nat} {G P : List (Nat × Nat)} (hmax : ∀ a b, a < n → b < n → a ≠ b → r a b = true → a ∈ ends G ∨ b ∈ ends G) (hP : Matching r n P) : P.length ≤ 2 * G.length := by
  have key : ∀ (Q : List (Nat × Nat)), Matching r n Q → ∃ l : List Nat, l.length = Q.length ∧ l.Nodup ∧ (∀ x ∈ l, x ∈ ends Q) ∧ ∀ x ∈ l, x ∈ ends G := by
    intro Q
    induction Q with
    | nil => exact fun _ => ⟨[], rfl, by simp, by simp, by simp⟩
    | cons p Q ih =>
      intro hm
      obtain ⟨a, b⟩ := p
      have hnd := hm.nd
      simp only [ends, List.nodup_cons, List.mem_cons, not_or] at hnd
      obtain ⟨l, l1, l2, l3, l4⟩ := ih ⟨fun q hq => hm.rel q (by simp [hq]), fun i hi => hm.lt i (by simp [ends, hi]), hnd.2.2⟩
      rcases hmax a b (hm.lt a (by simp [ends])) (hm.lt b (by simp [ends])) hnd.1.1 (hm.rel (a, b) (by simp)) with h | h
      · refine ⟨a :: l, by simp [l1], List.nodup_cons.2 ⟨fun hx => hnd.1.2 (l3 a hx), l2⟩, fun x hx => ?_, fun x hx => ?_⟩
        · rcases List.mem_cons.1 hx with rfl | hx
          · simp [ends]
          · simp [ends, l3 x hx]
        · rcases List.mem_cons.1 hx with rfl | hx
          · exact h
          · exact l4 x hx
      · refine ⟨b :: l, by simp [l1], List.nodup_cons.2 ⟨fun hx => hnd.2.1 (l3 b hx), l2⟩, fun x hx => ?_, fun x hx => ?_⟩
        · rcases List.mem_cons.1 hx with rfl | hx
          · simp [ends]
          · simp [ends, l3 x hx]
        · rcases List.mem_cons.1 hx with rfl | hx
          · exact h
          · exact l4 x hx
  obtain ⟨l, l1, l2, _, l4⟩ := key P hP
  have := nodup_le l (ends G) l2 l4
  rw [ends_len, l1] at this
  exact this
end Go.Proofs.Ytkdafincnmkjnaa
