/-
  A plan copies the cells in use of the smaller span, and both contents survive: the plain law.
-/
import Derived.Test.YtkdafincnmkjnaaPlanC
import Derived.Test.YtkdafincnmkjnaaGroupLaw
import Derived.Test.YtkdafincnmkjnaaPlanPair
set_option linter.unusedVariables false
set_option linter.unusedSimpArgs false
namespace Go.Proofs.Ytkdafincnmkjnaa
open Go.RowKit
theorem mem_cells (c b : Int) : ∀ (k : Nat) (x : Int), x ∈ cellsTo c b k ↔ ∃ i : Nat, i < k ∧ x = (i : Int) ∧ hasSlot b ((i : Int) / classSize c) = true
  | 0, x => by simp [cellsTo]
  | k + 1, x => by
    rw [cellsTo, List.mem_append, mem_cells c b k x]
    constructor
    · rintro (⟨i, hi, e, h⟩ | h)
      · exact ⟨i, by omega, e, h⟩
      · split at h
        · rename_i hh; exact ⟨k, by omega, by simpa using h, hh⟩
        · simp at h
    · rintro ⟨i, hi, e, h⟩
      by_cases hk : i = k
      · subst hk; exact .inr (by rw [if_pos h]; simp [e])
      · exact .inl ⟨i, by omega, e, h⟩
theorem cells_asc (c b : Int) : ∀ k, (cellsTo c b k).Pairwise (· < ·)
  | 0 => by simp [cellsTo]
  | k + 1 => by
    rw [cellsTo, List.pairwise_append]
    refine ⟨cells_asc c b k, by split <;> simp, fun x hx y hy => ?_⟩
    obtain ⟨i, hi, rfl, -⟩ := (mem_cells c b k x).1 hx
    split at hy
    · simp only [List.mem_singleton] at hy; omega
    · simp at hy
theorem plOk_of {cs : List Int} (ha : cs.Pairwise (· < ·)) (hr : ∀ x ∈ cs, 0 ≤ x ∧ x ≤ 15) : plOk cs cs.length = true := by
  unfold plOk
  rw [allTo_iff]
  intro i hi
  have e : ∀ j (h : j < cs.length), cs.getD j 0 = cs[j] := fun j h => by rw [List.getD_eq_getElem?_getD, List.getElem?_eq_getElem h, Option.getD_some]
  unfold cellOkP
  rw [Bool.and_eq_true]
  refine ⟨between_iff.2 ?_, ?_⟩
  · rw [e i hi]; exact hr _ (List.getElem_mem hi)
  · by_cases h0 : i = 0
    · subst h0; simp
    · have h1 : i - 1 < cs.length := by omega
      have := (List.pairwise_iff_getElem.1 ha) (i - 1) i h1 hi (by omega)
      unfold prevOf
      rw [e i hi, e _ h1]
      simp; omega
theorem copyRow_at {ra : List Int} : ∀ (cs rb : List Int) (i : Nat), (∀ x ∈ cs, 0 ≤ x ∧ x.toNat < rb.length) → (copyRow ra rb cs).getD i 0 = if (i : Int) ∈ cs then ra.getD i 0 else rb.getD i 0
  | [], rb, i, _ => by simp [copyRow]
  | c :: cs, rb, i, h => by
    have hc := h c (List.mem_cons_self ..)
    have e : copyRow ra rb (c :: cs) = copyRow ra (rb.set c.toNat (ra.getD c.toNat 0)) cs := rfl
    rw [e, copyRow_at cs _ i (fun x hx => by rw [List.length_set]; exact h x (List.mem_cons_of_mem _ hx))]
    by_cases hm : (i : Int) ∈ cs
    · rw [if_pos hm, if_pos (List.mem_cons_of_mem _ hm)]
    · rw [if_neg hm]
      by_cases hi : (i : Int) = c
      · subst hi
        rw [if_pos (List.mem_cons_self ..), Int.toNat_natCast, List.getD_eq_getElem?_getD, List.getElem?_set_self (by have := hc.2; simpa using this), Option.getD_some]
      · rw [if_neg (by simp [hm, hi]), List.getD_eq_getElem?_getD, List.getElem?_set_ne (by omega), ← List.getD_eq_getElem?_getD]
/-- The texts of the law: cell i holds d + i. -/
def upTo (d : Int) : Nat → List Int
  | 0 => []
  | k + 1 => upTo d k ++ [d + (k : Int)]
theorem upTo_len (d : Int) : ∀ k, (upTo d k).length = k
  | 0 => rfl
  | k + 1 => by rw [upTo, List.length_append, upTo_len d k]; rfl
theorem upTo_at (d : Int) : ∀ (k i : Nat), i < k → (upTo d k).getD i 0 = d + (i : Int)
  | 0, i, h => absurd h (Nat.not_lt_zero _)
  | k + 1, i, h => by
    rw [upTo]
    by_cases hi : i < k
    · rw [List.getD_eq_getElem?_getD, List.getElem?_append_left (by rw [upTo_len]; exact hi), ← List.getD_eq_getElem?_getD, upTo_at d k i hi]
    · obtain rfl : i = k := by omega
      rw [List.getD_eq_getElem?_getD, List.getElem?_append_right (by rw [upTo_len]; exact Nat.le_refl _), upTo_len, Nat.sub_self]; rfl
theorem cells_in {p c b x : Int} (h : x ∈ spanCells p c b) : 0 ≤ x ∧ x ≤ 15 := by
  unfold spanCells at h
  split at h
  · obtain ⟨i, hi, rfl, -⟩ := (mem_cells c b 16 x).1 h; omega
  · simp at h
theorem cells_pw (p c b : Int) : (spanCells p c b).Pairwise (· < ·) := by
  unfold spanCells
  split
  · exact cells_asc c b 16
  · simp
theorem mem_spanCells {p c b : Int} (h : spanOk p c b = true) (i : Nat) (hi : i < 16) : (i : Int) ∈ spanCells p c b ↔ hasSlot b ((i : Int) / classSize c) = true := by
  unfold spanCells
  rw [if_pos h, mem_cells]
  constructor
  · rintro ⟨j, _, e, hh⟩
    obtain rfl : i = j := by omega
    exact hh
  · intro hh; exact ⟨i, hi, rfl, hh⟩
/-- What the plan of two meshable spans is. -/
structure PlanFact (a b : Sp) (kp mv : Int) (cs : List Int) : Prop where
  ok : planOk kp mv cs = true
  ne : (kp == mv) = false
  len : cs.length ≤ 16
  cls : 0 ≤ a.c ∧ a.c ≤ 3
  mvc : cs = if kp = b.p then spanCells a.p a.c a.b else spanCells b.p b.c b.b
  kl : cs.length ≤ (if kp = b.p then spanCells b.p b.c b.b else spanCells a.p a.c a.b).length
  out : ∀ i : Nat, i < 16 → let x := (copyRow (upTo 100 16) (upTo 1 16) cs).getD i 0
    (hasSlot (if kp = b.p then b.b else a.b) ((i : Int) / classSize a.c) = true → x = (i : Int) + 1) ∧ (hasSlot (if kp = b.p then a.b else b.b) ((i : Int) / classSize a.c) = true → x = 100 + (i : Int))
theorem planFact_of {a b : Sp} (hm : meshS a b = true) : PlanFact a b (ppK a.p a.c a.b b.p b.c b.b) (ppM a.p a.c a.b b.p b.c b.b) (ppC a.p a.c a.b b.p b.c b.b) := by
  obtain ⟨oa, ob, hd⟩ := meshS_parts hm
  have hmm : meshable a.p a.c a.b b.p b.c b.b = true := hm
  simp only [meshable, Bool.and_eq_true, beq_iff_eq, bne_iff_ne, ne_eq] at hmm
  obtain ⟨-, -, hc, hp, -⟩ := hmm
  obtain ⟨na, ea, la⟩ := spanOk_nat oa
  obtain ⟨nb, eb, lb⟩ := spanOk_nat ob
  have pa := spanOk_parts oa
  have pb := spanOk_parts ob
  have k4 := classSize_four' pa.2.1
  have slot : ∀ i : Nat, i < 16 → ∃ j : Nat, j < 16 ∧ (i : Int) / classSize a.c = (j : Int) := by
    intro i hi
    have h1 := Int.ediv_nonneg (show (0 : Int) ≤ i by omega) (show 0 ≤ classSize a.c by omega)
    have h2 := Int.ediv_le_self (classSize a.c) (show (0 : Int) ≤ i by omega)
    obtain ⟨j, hj⟩ := Int.eq_ofNat_of_zero_le h1
    exact ⟨j, by omega, hj⟩
  have apart : ∀ i : Nat, i < 16 → ¬ (hasSlot a.b ((i : Int) / classSize a.c) = true ∧ hasSlot b.b ((i : Int) / classSize a.c) = true) := by
    intro i hi
    obtain ⟨j, hj, e⟩ := slot i hi
    rw [e]
    exact hasSlot_apart ea eb la lb hd j hj
  have hbp : ¬ b.p = a.p := fun e => hp e.symm
  have cr : ∀ (cs : List Int), (∀ x ∈ cs, 0 ≤ x ∧ x ≤ 15) → ∀ i : Nat, i < 16 → (copyRow (upTo 100 16) (upTo 1 16) cs).getD i 0 = if (i : Int) ∈ cs then 100 + (i : Int) else 1 + (i : Int) := by
    intro cs h i hi
    rw [copyRow_at cs _ i (fun x hx => by have := h x hx; rw [upTo_len]; omega), upTo_at _ _ _ hi, upTo_at _ _ _ hi]
  have hm' : meshable a.p a.c a.b b.p b.c b.b = true := hm
  unfold ppK ppM ppC
  simp only [hm', if_true]
  by_cases hlt : (spanCells a.p a.c a.b).length < (spanCells b.p b.c b.b).length
  · simp only [if_pos hlt]
    refine ⟨?_, by simpa using hbp, spanCells_le _ _ _, pa.2.1, by simp, by simp; omega, fun i hi => ?_⟩
    · rw [planOk_eq, plOk_of (cells_pw _ _ _) (fun x hx => cells_in hx), between_iff.2 pb.1, between_iff.2 pa.1]
      simpa using hbp
    · simp only [if_true]
      rw [cr _ (fun x hx => cells_in hx) i hi]
      have ha := mem_spanCells oa i hi
      constructor
      · intro hb
        have : ¬ (i : Int) ∈ spanCells a.p a.c a.b := fun h => apart i hi ⟨ha.1 h, hb⟩
        rw [if_neg this]; omega
      · intro hb
        rw [if_pos (ha.2 hb)]
  · simp only [if_neg hlt]
    refine ⟨?_, by simpa using hp, spanCells_le _ _ _, pa.2.1, by simp [hp], by simp [hp]; omega, fun i hi => ?_⟩
    · rw [planOk_eq, plOk_of (cells_pw _ _ _) (fun x hx => cells_in hx), between_iff.2 pb.1, between_iff.2 pa.1]
      simpa using hp
    · simp only [if_neg hp]
      rw [cr _ (fun x hx => cells_in hx) i hi]
      have hb := mem_spanCells ob i hi
      rw [← hc] at hb
      constructor
      · intro ha
        have : ¬ (i : Int) ∈ spanCells b.p b.c b.b := fun h => apart i hi ⟨ha, by rw [hc] at hb ⊢; exact hb.1 h⟩
        rw [if_neg this]; omega
      · intro h2
        rw [if_pos (by rw [hc] at hb; exact hb.2 (by rw [← hc]; exact h2))]
end Go.Proofs.Ytkdafincnmkjnaa
