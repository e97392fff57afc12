/-
  In a group each slot in use belongs to exactly one span: the plain law.
-/
import Derived.Test.YtkdafincnmkjnaaGroup2
import Derived.Test.YtkdafincnmkjnaaBits
import Derived.Test.YtkdafincnmkjnaaCount
set_option linter.unusedVariables false
set_option linter.unusedSimpArgs false
namespace Go.Proofs.Ytkdafincnmkjnaa
open Go.RowKit
theorem gRow_at {xs : List Sp} {i k : Nat} (h : gRow xs i k = true) : ∀ j, j < k → meshS (xs.getD j default) (xs.getD i default) = true := by
  induction k with
  | zero => intro j hj; omega
  | succ k ih =>
    rw [gRow, Bool.and_eq_true] at h
    intro j hj
    by_cases e : j = k
    · subst e; exact h.2
    · exact ih h.1 j (by omega)
theorem gTo_at {xs : List Sp} {k : Nat} (h : gTo xs k = true) : ∀ i, i < k → ∀ j, j < i → meshS (xs.getD j default) (xs.getD i default) = true := by
  induction k with
  | zero => intro i hi; omega
  | succ k ih =>
    rw [gTo, Bool.and_eq_true] at h
    intro i hi
    by_cases e : i = k
    · subst e; exact gRow_at h.2
    · exact ih h.1 i (by omega)
theorem spanOk_nat {p c b : Int} (h : spanOk p c b = true) : ∃ n : Nat, b = (n : Int) ∧ n < 65536 := by
  obtain ⟨-, hc, hb⟩ := spanOk_parts h
  simp only [bitmapOk, Bool.and_eq_true, between_iff] at hb
  obtain ⟨-, hb⟩ := hb
  have h2 : slotsOf c ≤ 16 := (slotsOf_bound c).2
  obtain ⟨n, rfl⟩ := Int.eq_ofNat_of_zero_le (show 0 ≤ b by omega)
  refine ⟨n, rfl, ?_⟩
  have h3 : (2 : Int) ^ (slotsOf c).toNat ≤ 65536 := by
    have : (slotsOf c).toNat ≤ 16 := by omega
    have h4 : 2 ^ (slotsOf c).toNat ≤ 2 ^ 16 := Nat.pow_le_pow_right (by omega) this
    have e : (2 : Int) ^ (slotsOf c).toNat = ((2 ^ (slotsOf c).toNat : Nat) : Int) := by rw [Int.natCast_pow]; rfl
    rw [e]
    exact Int.ofNat_le.2 h4
  omega
/-- What a list of spans of a group satisfies. -/
structure Grp (xs : List Sp) : Prop where
  nat : ∀ i, i < xs.length → ∃ n : Nat, (xs.getD i default).b = (n : Int) ∧ n < 65536
  apart : ∀ i j, i < j → j < xs.length → bits .and .i64 (xs.getD i default).b (xs.getD j default).b = 0
theorem meshS_parts {a b : Sp} (h : meshS a b = true) : spanOk a.p a.c a.b = true ∧ spanOk b.p b.c b.b = true ∧ bits .and .i64 a.b b.b = 0 := by
  simp only [meshS, meshable, Bool.and_eq_true, beq_iff_eq] at h
  exact ⟨h.1, h.2.1, h.2.2.2.2⟩
theorem grp_of {xs : List Sp} (h : groupOk xs = true) : Grp xs := by
  have hp := groupOk_pos h
  simp only [groupOk, Bool.and_eq_true] at h
  obtain ⟨h1, -, h3⟩ := h
  have ha := gTo_at h1
  refine ⟨fun i hi => ?_, fun i j hij hj => (meshS_parts (ha j hj i hij)).2.2⟩
  by_cases e : i = 0
  · subst e; exact spanOk_nat h3
  · exact spanOk_nat (meshS_parts (ha i hi 0 (by omega))).2.1
theorem hasSlot_or {a b : Int} {m n : Nat} (ha : a = (m : Int)) (hb : b = (n : Int)) (hm : m < 65536) (hn : n < 65536) :
    (∃ o : Nat, bits .or .i64 a b = (o : Int) ∧ o < 65536) ∧ ∀ i : Nat, i < 16 → hasSlot (bits .or .i64 a b) (i : Int) = (hasSlot a i || hasSlot b i) := by
  subst ha; subst hb
  have h := (i64_nat m n hm hn).2
  have ho : m ||| n < 65536 := Nat.or_lt_two_pow (n := 16) hm hn
  refine ⟨⟨_, h, ho⟩, fun i hi => ?_⟩
  rw [h, hasSlot_bit _ _ ho hi, hasSlot_bit _ _ hm hi, hasSlot_bit _ _ hn hi, Nat.testBit_or]
theorem hasSlot_apart {a b : Int} {m n : Nat} (ha : a = (m : Int)) (hb : b = (n : Int)) (hm : m < 65536) (hn : n < 65536) (h : bits .and .i64 a b = 0) (i : Nat) (hi : i < 16) : ¬ (hasSlot a i = true ∧ hasSlot b i = true) := by
  subst ha; subst hb
  rw [(i64_nat m n hm hn).1] at h
  have h0 : m &&& n = 0 := by omega
  rw [hasSlot_bit _ _ hm hi, hasSlot_bit _ _ hn hi]
  intro hh
  have : (m &&& n).testBit i = true := by rw [Nat.testBit_and, hh.1, hh.2]; rfl
  rw [h0] at this
  simp at this
theorem hasSlot_zero (i : Nat) : hasSlot 0 (i : Int) = false := by
  unfold hasSlot
  rw [show (0 : Int) / 2 ^ (i : Int).toNat = ((0 : Nat) : Int) by simp, show (1 : Int) = ((1 : Nat) : Int) from rfl, (i64_nat _ _ (by omega) (by omega)).1]
  simp
theorem orTo_fact {xs : List Sp} (G : Grp xs) : ∀ k, k ≤ xs.length → (∃ o : Nat, orTo xs k = (o : Int) ∧ o < 65536) ∧ ∀ i : Nat, i < 16 → (hasSlot (orTo xs k) i = true ↔ ∃ j, j < k ∧ hasSlot (xs.getD j default).b i = true)
  | 0, _ => ⟨⟨0, rfl, by omega⟩, fun i _ => by rw [orTo, hasSlot_zero]; exact ⟨fun h => absurd h (by decide), fun ⟨j, hj, _⟩ => absurd hj (Nat.not_lt_zero _)⟩⟩
  | k + 1, hk => by
    obtain ⟨⟨o, ho, hol⟩, hs⟩ := orTo_fact G k (by omega)
    obtain ⟨n, hn, hnl⟩ := G.nat k (by omega)
    obtain ⟨h1, h2⟩ := hasSlot_or ho hn hol hnl
    rw [orTo]
    refine ⟨h1, fun i hi => ?_⟩
    rw [h2 i hi, Bool.or_eq_true, hs i hi]
    constructor
    · rintro (⟨j, hj, h⟩ | h)
      · exact ⟨j, by omega, h⟩
      · exact ⟨k, by omega, h⟩
    · rintro ⟨j, hj, h⟩
      by_cases e : j = k
      · subst e; exact .inr h
      · exact .inl ⟨j, by omega, h⟩
/-- How many slots the first k spans have in use. -/
def sumTo (xs : List Sp) : Nat → Int
  | 0 => 0
  | k + 1 => sumTo xs k + countSlots (xs.getD k default).b
theorem countSlots_le (b : Int) : 0 ≤ countSlots b ∧ countSlots b ≤ 16 := by
  unfold countSlots
  have := countTo_le b 16
  omega
theorem sumTo_le (xs : List Sp) : ∀ k : Nat, 0 ≤ sumTo xs k ∧ sumTo xs k ≤ 16 * k
  | 0 => by simp [sumTo]
  | k + 1 => by have h1 := sumTo_le xs k; have := countSlots_le (xs.getD k default).b; rw [sumTo]; omega
theorem countTo_or {a b c : Int} (h : ∀ i : Nat, i < 16 → hasSlot c i = (hasSlot a i || hasSlot b i) ∧ ¬ (hasSlot a i = true ∧ hasSlot b i = true)) : ∀ k, k ≤ 16 → countTo c k = countTo a k + countTo b k
  | 0, _ => rfl
  | k + 1, hk => by
    obtain ⟨h1, h2⟩ := h k (by omega)
    rw [countTo, countTo, countTo, countTo_or h k (by omega), h1]
    cases ha : hasSlot a k <;> cases hb : hasSlot b k <;> simp [ha, hb] at h2 ⊢ <;> omega
theorem countTo_zero : ∀ k, countTo 0 k = 0
  | 0 => rfl
  | k + 1 => by rw [countTo, countTo_zero k, hasSlot_zero]; rfl
theorem count_sum {xs : List Sp} (G : Grp xs) : ∀ k, k ≤ xs.length → countSlots (orTo xs k) = sumTo xs k
  | 0, _ => by rw [orTo, sumTo, countSlots, countTo_zero]; rfl
  | k + 1, hk => by
    obtain ⟨⟨o, ho, hol⟩, hs⟩ := orTo_fact G k (by omega)
    obtain ⟨n, hn, hnl⟩ := G.nat k (by omega)
    obtain ⟨h1, h2⟩ := hasSlot_or ho hn hol hnl
    rw [sumTo, ← count_sum G k (by omega), orTo]
    unfold countSlots
    rw [countTo_or (a := orTo xs k) (b := (xs.getD k default).b) (fun i hi => ⟨h2 i hi, ?_⟩) 16 (Nat.le_refl _)]
    · omega
    · rw [hs i hi]
      rintro ⟨⟨j, hj, hh⟩, hb⟩
      obtain ⟨m, hm, hml⟩ := G.nat j (by omega)
      exact hasSlot_apart hm hn hml hnl (G.apart j k hj (by omega)) i hi ⟨hh, hb⟩
theorem gFind_is (slot : Int) : ∀ (l : List Sp) (s : Nat), (gFind slot l s = -1 ∧ ∀ j, j < l.length → hasSlot (l.getD j default).b slot = false) ∨ ∃ j, j < l.length ∧ gFind slot l s = ((s + j : Nat) : Int) ∧ hasSlot (l.getD j default).b slot = true
  | [], s => .inl ⟨rfl, fun j hj => absurd hj (Nat.not_lt_zero _)⟩
  | x :: t, s => by
    rw [gFind]
    cases h : hasSlot x.b slot
    · rcases gFind_is slot t (s + 1) with ⟨h1, h2⟩ | ⟨j, hj, h1, h2⟩
      · refine .inl ⟨by simp [h1], fun j hj => ?_⟩
        cases j with
        | zero => simpa using h
        | succ j => simpa using h2 j (by simpa using hj)
      · exact .inr ⟨j + 1, by simpa using hj, by simp [h1]; omega, by simpa using h2⟩
    · exact .inr ⟨0, by simp, by simp, by simpa using h⟩
/-- What the law asks of one slot. -/
theorem group_at {xs : List Sp} (h : groupOk xs = true) (k : Nat) (hk : k < 16) : (groupSlot xs k = -1 ∧ hasSlot (groupBits xs) k = false) ∨ ∃ j : Nat, j < xs.length ∧ groupSlot xs k = (j : Int) ∧ hasSlot (groupBits xs) k = true ∧ hasSlot (xs.getD j default).b k = true := by
  have G := grp_of h
  have hs := (orTo_fact G xs.length (Nat.le_refl _)).2 k hk
  simp only [groupSlot, groupBits, h, if_true]
  rcases gFind_is (k : Int) xs 0 with ⟨h1, h2⟩ | ⟨j, hj, h1, h2⟩
  · refine .inl ⟨h1, ?_⟩
    cases hc : hasSlot (orTo xs xs.length) k
    · rfl
    · obtain ⟨j, hj, hh⟩ := hs.1 hc
      rw [h2 j hj] at hh; exact absurd hh (by decide)
  · exact .inr ⟨j, hj, by simpa using h1, hs.2 ⟨j, hj, h2⟩, h2⟩
theorem group_sum {xs : List Sp} (h : groupOk xs = true) : countSlots (groupBits xs) = sumTo xs xs.length := by
  simp only [groupBits, h, if_true]
  exact count_sum (grp_of h) _ (Nat.le_refl _)
end Go.Proofs.Ytkdafincnmkjnaa
