/-
  A slice that the call makes, and stores of whole elements into it.
-/
import Derived.Test.YtmblkllijjlkoaaGreatOwn
set_option linter.unusedVariables false
set_option linter.unusedSimpArgs false
namespace Go.Proofs.YtmblkllijjlkoaaGreat
open Go.RowKit
/-- 'make([]T, n)': n zero elements. -/
theorem replicate_flat {α : Type} {f : α → List Value} {z : Value} {x : α} (hz : f x = z.cells.toList) (k : Nat) (hk : z.cells.size = k) (hpos : 0 < k) (n : Nat) : (madeCells z.cells (n * k)).toList = (List.replicate n x).flatMap f := by
  have hl : (f x).length = k := by rw [hz]; simpa using hk
  apply List.ext_getElem?
  intro j
  by_cases hj : j < n * k
  · have h1 : ((List.replicate n x).flatMap f)[j]? = (f x)[j % k]? := by
      have hd : j / k < n := (Nat.div_lt_iff_lt_mul hpos).2 hj
      have hm : j % k < k := Nat.mod_lt _ hpos
      have hjj : j = j / k * k + j % k := by rw [Nat.mul_comm]; exact (Nat.div_add_mod j k).symm
      have hlk : ∀ n, ((List.replicate n x).flatMap f).length = n * k := fun n => by simp [hl]
      have : ∀ (n i m : Nat), i < n → m < k → ((List.replicate n x).flatMap f)[i * k + m]? = (f x)[m]? := by
        intro n
        induction n with
        | zero => intro i m h; omega
        | succ n ih =>
          intro i m hi hm
          rw [List.replicate_succ, List.flatMap_cons]
          cases i with
          | zero => rw [List.getElem?_append_left (by rw [hl]; omega)]; simp
          | succ i => rw [List.getElem?_append_right (by rw [hl, Nat.add_mul]; omega), hl, show (i + 1) * k + m - k = i * k + m by rw [Nat.add_mul]; omega]; exact ih i m (by omega) hm
      have h2 := this n (j / k) (j % k) hd hm
      rwa [← hjj] at h2
    rw [h1, hz]
    have hm := Nat.mod_lt j hpos
    simp [madeCells, hj, hk]
    rw [Array.getElem?_eq_getElem (by omega), getElem!_pos]
  · simp [madeCells, hj, hl]
    try omega
section
variable {P : Program} {ops : Array Oper} {rest : List Oper} {o : Oper} {a : Act} {Q : Exit → Act → World → Prop} {w : World}
theorem make1 {T E : TypeId} {z : Value} {k bytes : Nat} (ht : ElemT P T E z k bytes) (hgd : o.guard = none) (l c : Operand) (hop : o.op = Op.makeSlice T l c) {α : Type} {f : α → List Value} {x : α} (hz : f x = z.cells.toList)
    (kl kc : IntKind) (n : Nat) (hl : a.eval l = .int kl n) (hc : a.eval c = .int kc n) (b2 : bytes * n ≤ 281474976710656) (b3 : n ≤ maxLen)
    (h : ∀ v' w', v' = .slice (some ⟨w.heap.size, 0, none⟩) n n → Own E k f w.heap.size w' v' (List.replicate n x) → Below w.heap.size w w' → wpList P ops Q rest (a.put o.dst v') w') : wpList P ops Q (o :: rest) a w := by
  obtain ⟨i, hi, hz', hk, hby⟩ := ht.info
  refine wpList_make_full (P := P) w hgd l c T hop w.heap.size E i z k ht.und hi hz' hk kl kc n n n hl hc rfl rfl (by rw [hby]; exact b2) b3 (Nat.le_refl _) fun w' h2 h3 => ?_
  refine h _ w' rfl ?_ ((Below.refl _ _).grown h3 (Nat.le_refl _) (by simp))
  unfold Own
  rw [List.length_replicate, ← replicate_flat hz k ht.zc ht.pos]
  exact h2
end
def setRun (w : World) (g o : Nat) : List Value → World
  | [] => w
  | v :: vs => setRun (w.setCell ⟨g, o, none⟩ v) g (o + 1) vs
def setAll (xs : List Value) (o : Nat) : List Value → List Value
  | [] => xs
  | v :: vs => setAll (xs.set o v) (o + 1) vs
theorem setAll_len : ∀ (us xs : List Value) (o : Nat), (setAll xs o us).length = xs.length
  | [], xs, o => rfl
  | u :: us, xs, o => by rw [setAll, setAll_len us]; simp
theorem setAll_get : ∀ (us xs : List Value) (o : Nat) (m : Nat), o + us.length ≤ xs.length → (setAll xs o us)[m]? = if o ≤ m ∧ m < o + us.length then us[m - o]? else xs[m]?
  | [], xs, o, m, h => by rw [setAll, if_neg (by rw [List.length_nil]; omega)]
  | u :: us, xs, o, m, h => by
    simp only [List.length_cons] at h
    rw [setAll, setAll_get us _ _ _ (by simp; omega)]
    by_cases h1 : m = o
    · subst h1
      rw [if_neg (by omega), if_pos (by rw [List.length_cons]; omega)]
      rw [List.getElem?_set_self (by omega)]; simp
    · by_cases h2 : o + 1 ≤ m ∧ m < o + 1 + us.length
      · rw [if_pos h2, if_pos (by rw [List.length_cons]; omega), show m - o = (m - (o + 1)) + 1 by omega]; simp
      · rw [if_neg h2, if_neg (by rw [List.length_cons]; omega), List.getElem?_set_ne (by omega)]
theorem rowStored {base e size g n cap : Nat} : ∀ (us : List Value) (w : World) (xs : List Value) (o : Nat), w.ownsRow base e size (.slice (some ⟨g, 0, none⟩) n cap) n xs → (setRun w g o us).ownsRow base e size (.slice (some ⟨g, 0, none⟩) n cap) n (setAll xs o us) ∧ w.grownBy (setRun w g o us) (some g)
  | [], w, xs, o, h => ⟨h, grown_refl w _⟩
  | u :: us, w, xs, o, h => by
    obtain ⟨h1, h2⟩ := World.ownsRow.stored h o u
    obtain ⟨h3, h4⟩ := rowStored us _ _ (o + 1) h1
    exact ⟨h3, grown_trans h2 h4⟩
/-- A store of a whole element. -/
theorem Own.setk {α : Type} {E k : Nat} {f : α → List Value} (hf : LenK k f) {B : Nat} {w : World} {v : Value} {xs : List α} {g n cap : Nat} (h : Own E k f B w v xs) (hv : v = .slice (some ⟨g, 0, none⟩) n cap) (i : Nat) (hi : i < xs.length) (y : α) :
    Own E k f B (setRun w g (i * k) (f y)) v (xs.set i y) ∧ w.grownBy (setRun w g (i * k) (f y)) v.ownBlock := by
  have hn : n = xs.length := by
    obtain ⟨ao, cap', he, _⟩ := h.shape
    rw [hv] at he; simp at he; exact he.2.1
  subst hv
  subst hn
  unfold Own at h
  obtain ⟨h1, h2⟩ := rowStored (f y) w _ (i * k) h
  refine ⟨?_, h2⟩
  unfold Own
  rw [List.length_set]
  have he : setAll (xs.flatMap f) (i * k) (f y) = (xs.set i y).flatMap f := by
    have hle : (i + 1) * k ≤ xs.length * k := Nat.mul_le_mul_right _ hi
    rw [Nat.add_mul] at hle
    apply List.ext_getElem?
    intro m
    rw [setAll_get _ _ _ _ (by rw [flat_len hf, hf]; omega), hf]
    by_cases hm : m < xs.length * k
    · have hk : 0 < k := by
        rcases Nat.eq_zero_or_pos k with h0 | h0
        · subst h0; omega
        · exact h0
      have hd : m / k < xs.length := (Nat.div_lt_iff_lt_mul hk).2 hm
      have hr : m % k < k := Nat.mod_lt _ hk
      have hmm : m = m / k * k + m % k := by rw [Nat.mul_comm]; exact (Nat.div_add_mod m k).symm
      generalize m / k = q at *
      generalize m % k = r at *
      subst hmm
      rw [flat_get hf (xs.set i y) q r (by simpa using hd) hr, flat_get hf xs q r hd hr]
      by_cases hq : q = i
      · subst hq
        rw [if_pos (by omega)]
        simp
      · have : ¬ (i * k ≤ q * k + r ∧ q * k + r < i * k + k) := by
          rcases Nat.lt_or_gt_of_ne hq with h' | h'
          · have := Nat.mul_le_mul_right k (show q + 1 ≤ i by omega)
            rw [Nat.add_mul] at this
            omega
          · have := Nat.mul_le_mul_right k (show i + 1 ≤ q by omega)
            rw [Nat.add_mul] at this
            omega
        rw [if_neg this]
        rw [List.getElem_set_ne (by omega)]
    · rw [if_neg (by omega), List.getElem?_eq_none (by rw [flat_len hf]; omega), List.getElem?_eq_none (by rw [flat_len hf]; simp; omega)]
  rw [← he]
  exact h1
theorem mix_set {α : Type} {n j : Nat} (xs : List α) (z : α) (hn : n = xs.length) (hj : j < xs.length) : (xs.take j ++ List.replicate (n - j) z).set j xs[j] = xs.take (j + 1) ++ List.replicate (n - (j + 1)) z := by
  have hl : (xs.take j).length = j := by simp; omega
  rw [List.set_append_right _ _ (by omega), hl, Nat.sub_self, show n - j = (n - (j + 1)) + 1 by omega, List.replicate_succ, List.set_cons_zero, List.take_succ_eq_append_getElem hj, List.append_assoc]
  rfl
end Go.Proofs.YtmblkllijjlkoaaGreat
