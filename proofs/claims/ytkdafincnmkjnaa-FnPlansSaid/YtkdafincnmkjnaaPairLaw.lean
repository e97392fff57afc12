/-
  The pairs that are found are a matching, and how many there are at most; the next seed is another. No Go text is named here.
-/
import Derived.Test.YtkdafincnmkjnaaSplitS
import Derived.Test.YtkdafincnmkjnaaPairsOk
import Derived.Test.YtkdafincnmkjnaaBestS
import Derived.Test.YtkdafincnmkjnaaEdgeLaw
set_option linter.unusedVariables false
set_option linter.unusedSimpArgs false
namespace Go.Proofs.Ytkdafincnmkjnaa
open Go.RowKit
def toNP (ps : List Pr) : List (Nat × Nat) := ps.map fun p => (p.a.toNat, p.b.toNat)
theorem toNP_len (ps : List Pr) : (toNP ps).length = ps.length := by simp [toNP]
structure PInv (xs : List Sp) (ps : List Pr) : Prop where
  ok : pairsOk xs ps = true
  mt : Matching (meshR xs) xs.length (toNP ps)
  tk : ∀ i : Nat, takenB ps i = decide (i ∈ ends (toNP ps))
theorem PInv.nil (xs : List Sp) : PInv xs [] := ⟨rfl, ⟨by simp [toNP], by simp [toNP, ends], by simp [toNP, ends]⟩, fun i => by simp [toNP, ends, takenB, takenTo]⟩
theorem pOk_app (xs : List Sp) (ps : List Pr) (q : Pr) (k : Nat) (hk : k < ps.length) : pOk xs (ps ++ [q]) k = pOk xs ps k := by
  have e : (ps ++ [q]).getD k default = ps.getD k default := by rw [List.getD_eq_getElem?_getD, List.getElem?_append_left hk, ← List.getD_eq_getElem?_getD]
  unfold pOk
  rw [e, takenTo_app ps q _ k (by omega), takenTo_app ps q _ k (by omega)]
theorem toNP_snoc (ps : List Pr) (a b : Nat) : toNP (ps ++ [⟨(a : Int), (b : Int)⟩]) = toNP ps ++ [(a, b)] := by simp [toNP]
theorem ends_snoc (P : List (Nat × Nat)) (a b : Nat) : ends (P ++ [(a, b)]) = ends P ++ [a, b] := by rw [ends_app]; rfl
theorem PInv.step {xs : List Sp} {out : List Pr} (h : PInv xs out) {a b : Nat} (ha : a < xs.length) (hb : b < xs.length) (hne : a ≠ b) : PInv xs (gStep xs out a b) := by
  unfold gStep
  split
  · rename_i hc
    simp only [Bool.and_eq_true, Bool.not_eq_true'] at hc
    obtain ⟨⟨t1, t2⟩, t3⟩ := hc
    have n1 : a ∉ ends (toNP out) := by have := h.tk a; rw [t1] at this; simpa using this.symm
    have n2 : b ∉ ends (toNP out) := by have := h.tk b; rw [t2] at this; simpa using this.symm
    refine ⟨?_, ⟨?_, ?_, ?_⟩, ?_⟩
    · unfold pairsOk
      rw [allTo_iff]
      intro k hk
      rw [List.length_append, List.length_singleton] at hk
      rcases Nat.lt_or_ge k out.length with h1 | h1
      · rw [pOk_app _ _ _ _ h1]
        exact allTo_iff.1 h.ok k h1
      · obtain rfl : k = out.length := by omega
        have e : (out ++ [(⟨(a : Int), (b : Int)⟩ : Pr)]).getD out.length default = ⟨a, b⟩ := by rw [List.getD_eq_getElem?_getD, List.getElem?_append_right (Nat.le_refl _), Nat.sub_self]; rfl
        unfold pOk
        rw [e, takenTo_app _ _ _ _ (Nat.le_refl _), takenTo_app _ _ _ _ (Nat.le_refl _)]
        unfold takenB at t1 t2
        simp only [t1, t2, Int.toNat_natCast, t3, Bool.not_false, Bool.true_and, Bool.and_true, Bool.and_eq_true, bne_iff_ne, between_iff]
        refine ⟨⟨by omega, by omega⟩, ⟨by omega, by omega⟩, by omega⟩
    · intro p hp
      rw [toNP_snoc] at hp
      rcases List.mem_append.1 hp with hp | hp
      · exact h.mt.rel p hp
      · simp only [List.mem_singleton] at hp; subst hp; exact t3
    · intro i hi
      rw [toNP_snoc, ends_snoc] at hi
      rcases List.mem_append.1 hi with hi | hi
      · exact h.mt.lt i hi
      · simp only [List.mem_cons, List.not_mem_nil, or_false] at hi; rcases hi with rfl | rfl <;> assumption
    · rw [toNP_snoc, ends_snoc, List.nodup_append]
      refine ⟨h.mt.nd, by simp [hne], fun x hx y hy e => ?_⟩
      subst e
      simp only [List.mem_cons, List.not_mem_nil, or_false] at hy
      rcases hy with rfl | rfl <;> contradiction
    · intro i
      rw [toNP_snoc, ends_snoc, takenB_snoc, h.tk i]
      have e1 : ((a : Int) == (i : Int)) = decide (i = a) := by rw [Bool.eq_iff_iff]; simp; omega
      have e2 : ((b : Int) == (i : Int)) = decide (i = b) := by rw [Bool.eq_iff_iff]; simp; omega
      unfold hitP
      dsimp only
      rw [e1, e2]
      simp only [List.mem_append, List.mem_cons, List.not_mem_nil, or_false, Bool.decide_or]
  · exact h
theorem PInv.best {xs : List Sp} {ps : List Pr} (h : PInv xs ps) (h10 : xs.length ≤ 10) : ps.length ≤ bestP xs := by
  unfold bestP
  rw [if_neg (by omega), ← toNP_len ps]
  refine best_ge (fun a b => meshS_comm _ _) xs.length (Nat.le_refl _) _ _ h.mt (fun i hi => ⟨by omega, ?_⟩)
  unfold uf; rw [List.getD_eq_getElem?_getD, List.getElem?_replicate]; split <;> rfl
theorem greedy_row {xs : List Sp} {a : Nat} (ha : a < xs.length) : ∀ m, a + 1 + m ≤ xs.length → ∀ out, PInv xs out → PInv xs (gRowP xs a out m)
  | 0, _, _, h => h
  | m + 1, hm, out, h => by rw [gRowP]; exact (greedy_row ha m (by omega) out h).step ha (by omega) (by omega)
theorem greedy_all {xs : List Sp} : ∀ k, k ≤ xs.length → PInv xs (gAllP xs k)
  | 0, _ => PInv.nil xs
  | k + 1, hk => by rw [gAllP]; exact greedy_row hk _ (by omega) _ (greedy_all k (by omega))
theorem greedy_inv {xs : List Sp} (h : xs.length ≤ 16) : PInv xs (greedy xs) := by
  unfold greedy; rw [if_neg (by omega)]; exact greedy_all _ (Nat.le_refl _)
theorem split_row {xs : List Sp} {o : List Int} (hl : o.length = xs.length) (hin : ∀ x ∈ o, 0 ≤ x ∧ x < xs.length) (hj : Inj o) (t : Nat) : ∀ m, m ≤ o.length / 2 → ∀ out, PInv xs out → PInv xs (spRow xs o t out m)
  | 0, _, _, h => h
  | m + 1, hm, out, h => by
    rw [spRow]
    have hm2 : (m + t) % (o.length - o.length / 2) < o.length - o.length / 2 := Nat.mod_lt _ (by omega)
    obtain ⟨x, hx⟩ := getx (xs := o) (k := m) (by omega)
    obtain ⟨y, hy⟩ := getx (xs := o) (k := o.length / 2 + (m + t) % (o.length - o.length / 2)) (by omega)
    have i1 := hin x (List.mem_of_getElem? hx); have i2 := hin y (List.mem_of_getElem? hy)
    refine (split_row hl hin hj t m (by omega) out h).step ?_ ?_ ?_
    · unfold spA; rw [getD_of hx]; omega
    · unfold spB; rw [getD_of hy]; omega
    · unfold spA spB; rw [getD_of hx, getD_of hy]
      intro e
      have : x = y := by omega
      subst this
      have := hj _ _ _ hx hy
      omega
theorem split_all {xs : List Sp} {o : List Int} (hl : o.length = xs.length) (hin : ∀ x ∈ o, 0 ≤ x ∧ x < xs.length) (hj : Inj o) : ∀ t, PInv xs (spAll xs o t)
  | 0 => PInv.nil xs
  | t + 1 => by rw [spAll]; exact split_row hl hin hj t _ (Nat.le_refl _) _ (split_all hl hin hj t)
theorem split_inv (xs : List Sp) (seed tries : Int) : PInv xs (splitP xs seed tries) := by
  unfold splitP
  split
  · rename_i h
    obtain ⟨h1, h2, h3⟩ := splitOk_parts h
    exact split_all (shufL_len h3 (by omega)) (shufL_in h3 (by omega)) (shufL_inj h3 (by omega)) _
  · exact PInv.nil xs
theorem gStep_keeps {xs : List Sp} {out : List Pr} {i : Int} (a b : Nat) (h : takenB out i = true) : takenB (gStep xs out a b) i = true := by
  unfold gStep; split
  · rw [takenB_snoc, h]; rfl
  · exact h
theorem gStep_hits {xs : List Sp} (out : List Pr) {a b : Nat} (h : meshS (xs.getD a default) (xs.getD b default) = true) : takenB (gStep xs out a b) a = true ∨ takenB (gStep xs out a b) b = true := by
  by_cases h1 : takenB out a = true
  · exact .inl (gStep_keeps a b h1)
  by_cases h2 : takenB out b = true
  · exact .inr (gStep_keeps a b h2)
  left
  unfold gStep
  rw [if_pos (by rw [h]; simp [h1, h2]), takenB_snoc]
  simp [hitP]
theorem gRow_keeps {xs : List Sp} {a : Nat} {i : Int} : ∀ m out, takenB out i = true → takenB (gRowP xs a out m) i = true
  | 0, _, h => h
  | m + 1, out, h => by rw [gRowP]; exact gStep_keeps _ _ (gRow_keeps m out h)
theorem gRow_hits {xs : List Sp} {a : Nat} : ∀ m out j, j < m → meshS (xs.getD a default) (xs.getD (a + 1 + j) default) = true → takenB (gRowP xs a out m) a = true ∨ takenB (gRowP xs a out m) ((a + 1 + j : Nat) : Int) = true
  | 0, _, _, h, _ => absurd h (Nat.not_lt_zero _)
  | m + 1, out, j, h, hm => by
    rw [gRowP]
    rcases Nat.lt_or_ge j m with h1 | h1
    · rcases gRow_hits m out j h1 hm with h2 | h2
      · exact .inl (gStep_keeps _ _ h2)
      · exact .inr (gStep_keeps _ _ h2)
    · obtain rfl : j = m := by omega
      exact gStep_hits _ hm
theorem gAll_hits {xs : List Sp} : ∀ k, k ≤ xs.length → ∀ a b, a < k → a < b → b < xs.length → meshS (xs.getD a default) (xs.getD b default) = true → takenB (gAllP xs k) a = true ∨ takenB (gAllP xs k) b = true
  | 0, _, _, _, h, _, _, _ => absurd h (Nat.not_lt_zero _)
  | k + 1, hk, a, b, ha, hab, hb, hm => by
    rw [gAllP]
    rcases Nat.lt_or_ge a k with h1 | h1
    · rcases gAll_hits k (by omega) a b h1 hab hb hm with h2 | h2
      · exact .inl (gRow_keeps _ _ h2)
      · exact .inr (gRow_keeps _ _ h2)
    · obtain rfl : a = k := by omega
      obtain ⟨j, rfl⟩ : ∃ j, b = a + 1 + j := ⟨b - (a + 1), by omega⟩
      exact gRow_hits _ _ j (by omega) hm
theorem greedy_half {xs : List Sp} (h10 : xs.length ≤ 10) : bestP xs ≤ 2 * (greedy xs).length := by
  have hinv := greedy_inv (xs := xs) (by omega)
  obtain ⟨P, hP, -, hl⟩ := best_is (r := meshR xs) (n := xs.length) xs.length (Nat.le_refl _) (uf (List.replicate xs.length false))
  have hb : bestP xs = P.length := by unfold bestP; rw [if_neg (by omega), hl]
  rw [hb, ← toNP_len (greedy xs)]
  refine half_of (n := xs.length) (r := meshR xs) ?_ hP
  have key : ∀ a b, a < b → b < xs.length → meshR xs a b = true → a ∈ ends (toNP (greedy xs)) ∨ b ∈ ends (toNP (greedy xs)) := by
    intro a b hab hb hm
    have e : greedy xs = gAllP xs xs.length := by unfold greedy; rw [if_neg (by omega)]
    have := gAll_hits (xs := xs) xs.length (Nat.le_refl _) a b (by omega) hab hb hm
    rw [← e, hinv.tk, hinv.tk] at this
    simpa using this
  intro a b ha hb hne hm
  rcases Nat.lt_or_ge a b with h | h
  · exact key a b h hb hm
  · exact (key b a (by omega) ha (by rw [← hm]; exact meshS_comm _ _)).symm
theorem eRow_pos (xs : List Sp) (i : Nat) : ∀ k, 0 < eRow xs i k → ∃ j, j < k ∧ meshS (xs.getD j default) (xs.getD i default) = true
  | 0, h => by simp [eRow] at h
  | k + 1, h => by
    rw [eRow] at h
    by_cases hm : meshS (xs.getD k default) (xs.getD i default) = true
    · exact ⟨k, by omega, hm⟩
    · rw [if_neg hm] at h
      obtain ⟨j, h1, h2⟩ := eRow_pos xs i k (by omega)
      exact ⟨j, by omega, h2⟩
theorem eTo_pos (xs : List Sp) : ∀ k, 0 < eTo xs k → ∃ i j, j < i ∧ i < k ∧ meshS (xs.getD j default) (xs.getD i default) = true
  | 0, h => by simp [eTo] at h
  | k + 1, h => by
    rw [eTo] at h
    have h1 := (eTo_half xs k).1
    rcases Int.lt_or_le 0 (eRow xs k k) with h2 | h2
    · obtain ⟨j, q, r⟩ := eRow_pos xs k k h2
      exact ⟨k, j, q, by omega, r⟩
    · obtain ⟨i, j, q, r, s⟩ := eTo_pos xs k (by omega)
      exact ⟨i, j, q, by omega, s⟩
theorem eRow_of {xs : List Sp} {i j : Nat} (hm : meshS (xs.getD j default) (xs.getD i default) = true) : ∀ k, j < k → 0 < eRow xs i k
  | 0, h => absurd h (Nat.not_lt_zero _)
  | k + 1, h => by
    rw [eRow]
    have := (eRow_le xs i k).1
    rcases Nat.lt_or_ge j k with h1 | h1
    · have := eRow_of hm k h1; split <;> omega
    · obtain rfl : j = k := by omega
      rw [if_pos hm]; omega
theorem eTo_of {xs : List Sp} {i j : Nat} (hm : meshS (xs.getD j default) (xs.getD i default) = true) (hji : j < i) : ∀ k, i < k → 0 < eTo xs k
  | 0, h => absurd h (Nat.not_lt_zero _)
  | k + 1, h => by
    rw [eTo]
    have h1 := (eTo_half xs k).1
    have h2 := (eRow_le xs k k).1
    rcases Nat.lt_or_ge i k with h3 | h3
    · have := eTo_of hm hji k h3; omega
    · obtain rfl : i = k := by omega
      have := eRow_of hm i hji; omega
theorem edges_best {xs : List Sp} (h10 : xs.length ≤ 10) : decide (0 < eTo xs xs.length) = decide (0 < ((bestP xs : Nat) : Int)) := by
  rw [Bool.eq_iff_iff, decide_eq_true_iff, decide_eq_true_iff]
  constructor
  · intro h
    obtain ⟨i, j, hji, hi, hm⟩ := eTo_pos xs _ h
    have : PInv xs (gStep xs [] j i) := (PInv.nil xs).step (by omega) hi (by omega)
    have hb := this.best h10
    have : (gStep xs [] j i).length = 1 := by
      unfold gStep
      rw [if_pos (by rw [hm]; rfl)]; rfl
    omega
  · intro h
    obtain ⟨P, hP, -, hl⟩ := best_is (r := meshR xs) (n := xs.length) xs.length (Nat.le_refl _) (uf (List.replicate xs.length false))
    have hb : bestP xs = P.length := by unfold bestP; rw [if_neg (by omega), hl]
    cases P with
    | nil => rw [hb] at h; simp at h
    | cons p P =>
      obtain ⟨a, b⟩ := p
      have hr := hP.rel (a, b) (by simp)
      have ha := hP.lt a (by simp [ends]); have hb2 := hP.lt b (by simp [ends])
      have hne : a ≠ b := by have := hP.nd; simp only [ends, List.nodup_cons, List.mem_cons, not_or] at this; exact this.1.1
      rcases Nat.lt_or_ge a b with h1 | h1
      · exact eTo_of hr h1 _ hb2
      · exact eTo_of (i := a) (j := b) (by rw [meshS_comm]; exact hr) (by omega) _ ha
/-! The next seed, mod 8. -/
theorem nextSeed_mod {s : Int} (hs : between s 0 1073741823 = true) : nextSeed s % 8 = (5 * s + 1) % 8 := by
  unfold nextSeed; rw [hs, if_pos rfl]; omega
theorem shuf_seed : ∀ (j : Nat) (xs : List Int) (s : Int), j ≤ 7 → between s 0 1073741823 = true → (j ≠ 0 → (shuf j xs s).2 % 8 ≠ s % 8) ∧ True
  | 0, _, _, _, _ => ⟨fun h => absurd rfl h, trivial⟩
  | j + 1, xs, s, hj, hs => by
    refine ⟨fun _ => ?_, trivial⟩
    have gen : ∀ (j : Nat) (xs : List Int) (s : Int), j ≤ 998 → between s 0 1073741823 = true → (shuf j xs s).2 % 8 = Nat.rec (motive := fun _ => Int) (s % 8) (fun _ r => (5 * r + 1) % 8) j := by
      intro j
      induction j with
      | zero => intro xs s _ _; rfl
      | succ j ih =>
        intro xs s hj hs
        have hc : chooseOk s ((j : Int) + 1 + 1) = true := by unfold chooseOk; rw [hs, Bool.true_and]; exact between_iff.2 (by omega)
        have hn : chooseS s ((j : Int) + 1 + 1) = nextSeed s := by unfold chooseS; rw [hc]; rfl
        have h2 : between (nextSeed s) 0 1073741823 = true := between_iff.2 (nextSeed_in s)
        rw [shuf, hn, ih _ _ (by omega) h2, nextSeed_mod hs]
        have sw : ∀ (k : Nat) (r : Int), (Nat.rec (motive := fun _ => Int) ((5 * r + 1) % 8) (fun _ r => (5 * r + 1) % 8) k : Int) = (5 * (Nat.rec (motive := fun _ => Int) (r % 8) (fun _ r => (5 * r + 1) % 8) k : Int) + 1) % 8 := by
          intro k r
          induction k with
          | zero => show (5 * r + 1) % 8 = (5 * (r % 8) + 1) % 8; omega
          | succ k ih => show (5 * _ + 1) % 8 = (5 * _ + 1) % 8; rw [ih]
        exact sw j s
    rw [gen (j + 1) xs s (by omega) hs]
    obtain ⟨r, hr⟩ : ∃ r, r = s % 8 := ⟨_, rfl⟩
    rw [← hr]
    have hr2 : 0 ≤ r ∧ r < 8 := by omega
    have hr3 : r = 0 ∨ r = 1 ∨ r = 2 ∨ r = 3 ∨ r = 4 ∨ r = 5 ∨ r = 6 ∨ r = 7 := by omega
    have hj3 : j = 0 ∨ j = 1 ∨ j = 2 ∨ j = 3 ∨ j = 4 ∨ j = 5 ∨ j = 6 := by omega
    clear gen hr hr2 hj hs
    rcases hj3 with rfl | rfl | rfl | rfl | rfl | rfl | rfl <;> rcases hr3 with rfl | rfl | rfl | rfl | rfl | rfl | rfl | rfl <;> decide
theorem split_seed {xs : List Sp} {seed tries : Int} (h8 : xs.length ≤ 8) (h2 : 2 ≤ xs.length) (hs : between seed 0 1073741823 = true) (ht : between tries 0 16 = true) : splitS xs seed tries ≠ seed := by
  have hok : splitOk xs seed tries = true := by unfold splitOk; rw [hs, ht]; simp; omega
  unfold splitS shufS
  rw [hok, if_pos rfl, hs, show between ((xs.length : Nat) : Int) 0 64 = true from between_iff.2 (by omega), Bool.true_and, if_pos rfl, Int.toNat_natCast]
  intro e
  have := (shuf_seed (xs.length - 1) (upto xs.length) seed (by omega) hs).1 (by omega)
  rw [e] at this
  exact this rfl
end Go.Proofs.Ytkdafincnmkjnaa
