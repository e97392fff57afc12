/-
  Texts put together: Append.
-/
import Derived.Test.YtobechjagckdfaaGLT1
import Derived.Maps.AppendAt
/-
  append of one element, or of all elements of a slice that can be read, onto a slice of the call's own; where the new slice lies. No Go text is named here.
-/
set_option linter.unusedVariables false
set_option linter.unusedSimpArgs false
namespace Go.Proofs.Ytobechjagckdfaa
open Go.RowKit
theorem flatMap_at {α : Type} {k : Nat} {f : α → List Value} (hf : LenK k f) {xs : List α} {m : Nat} {u : Value} (h : (xs.flatMap f)[m]? = some u) : ∃ i j x, m = i * k + j ∧ xs[i]? = some x ∧ (f x)[j]? = some u := by
  have hlt := getx_lt h
  rw [flat_len hf] at hlt
  have hk : 0 < k := by
    rcases Nat.eq_zero_or_pos k with h0 | h0
    · subst h0; omega
    · exact h0
  have hd : m / k < xs.length := (Nat.div_lt_iff_lt_mul hk).2 hlt
  have hr : m % k < k := Nat.mod_lt _ hk
  have hm : m = m / k * k + m % k := by rw [Nat.mul_comm]; exact (Nat.div_add_mod m k).symm
  obtain ⟨x, hx⟩ := getx hd
  refine ⟨m / k, m % k, x, hm, hx, ?_⟩
  rw [hm, flat_get hf xs _ _ hd hr] at h
  have e : xs[m / k] = x := by rw [List.getElem?_eq_getElem hd] at hx; exact Option.some.inj hx
  rw [← e]
  exact h
section
variable {P : Program} {ops : Array Oper} {rest : List Oper} {o : Oper} {a : Act} {Q : Exit → Act → World → Prop} {K : Act → World → Prop} {w : World} {α : Type}
theorem run_append_none {E k : Nat} (t ty : TypeId) {B : Nat} {v : Value} {n : Nat} {xs : List Value} {i : TypeInfo} (ht : P.underlying t = some (.slice E)) (hi : P.info? E = some i) (hown : w.ownsRow B E k v n xs) (c : Nat) :
    (Builtin.append_ #[t, t] ty #[v, .slice none 0 c]).run P w = .ok v w := by
  rcases hown.2 with ⟨rfl, rfl⟩ | ⟨g, cap, cur, rfl, _, _, hnc, _⟩
  · simp [Builtin.append_, run_underlying ht, sizeOf, typeInfo, hi, Builtin.lenOf, Builtin.firstCells]
  · simp [Builtin.append_, run_underlying ht, sizeOf, typeInfo, hi, Builtin.lenOf, Builtin.firstCells, hnc, storeCells]
/-- 'append(s, xs...)'. -/
theorem wp_appendAll {T E : TypeId} {z : Value} {k bytes : Nat} (ht : ElemT P T E z k bytes) (s x : Operand) (ho : o.op = .call { callee := .builtin .append, args := #[s, x], argTypes := #[T, T] })
    {f : α → List Value} (hf : LenK k f) (h1c : ∀ y, ∀ u ∈ f y, u.oneCell' = true) {B : Nat} {v : Value} {xs : List α} (hs : a.eval s = v) (hown : Own E k f B w v xs) (hB : B ≤ w.heap.size) {xv : Value} {ys : List α} (hx : a.eval x = xv) (hat : SlAt k f w xv ys)
    (hlen : xs.length + ys.length ≤ maxLen ∧ (xs.length + ys.length) * bytes ≤ 140737488355328)
    (h : ∀ v' w', Own E k f B w' v' (xs ++ ys) → w.grownBy w' v.ownBlock → (v'.ownBlock = v.ownBlock ∨ v'.ownBlock = some w.heap.size) → Below B w w' → K (a.put o.dst v') w') : o.wp P a w K Q := by
  obtain ⟨i, hi, hz, hk, hby⟩ := ht.info
  obtain ⟨ao, cap, rfl, h1, h2, hr⟩ := hat
  cases ao with
  | none =>
    have hy : ys = [] := by
      cases ys with
      | nil => rfl
      | cons y ys => obtain ⟨g, _, e, _⟩ := hr 0 y rfl; cases e
    subst hy
    have hrun := run_append_none (P := P) T o.type ht.und hi hown cap
    unfold Oper.wp execOp
    simp only [ho, resolve, invoke, builtin, Sem.run_bind, Sem.run_pure, Result.andThen_ok, List.map_toArray, List.map_cons, List.map_nil, hs, hx, hrun, List.length_nil]
    exact h v w (by rw [List.append_nil]; exact hown) (grown_refl w _) (.inl rfl) (Below.refl _ _)
  | some ad =>
    have hnews : ∀ j u, (ys.flatMap f)[j]? = some u → w.cell? (ad.add j) = some u := by
      intro m u hu
      obtain ⟨i, j, y, rfl, hy, hj⟩ := flatMap_at hf hu
      obtain ⟨g, o', e, _, hc⟩ := hr i y hy
      cases e
      have hadd : (⟨g, o', none⟩ : Addr).add (i * k + j) = ⟨g, o' + i * k + j, none⟩ := by unfold Addr.add; split <;> simp_all <;> omega
      rw [hadd]; exact hc j u hj
    have h1' : ∀ u ∈ ys.flatMap f, u.oneCell' = true := fun u hu => by
      obtain ⟨y, _, hy⟩ := List.mem_flatMap.1 hu
      exact h1c y u hy
    obtain ⟨v', w', hrun, h2', h3, _, h5⟩ := run_append_own_at (P := P) w B T o.type E i z k bytes ht.und hi hz hk hby ht.zc ht.pos v xs.length (xs.flatMap f) hown ad ys.length cap (ys.flatMap f) (flat_len hf ys) hnews h1' hlen.1 hlen.2 hB
    unfold Oper.wp execOp
    simp only [ho, resolve, invoke, builtin, Sem.run_bind, Sem.run_pure, Result.andThen_ok, List.map_toArray, List.map_cons, List.map_nil, hs, hx, hrun]
    refine h v' w' ?_ h3 h5 ((Below.refl B w).grown h3 hB fun k hk => (hown.lt k hk).1)
    unfold Own
    rw [List.flatMap_append, List.length_append]
    exact h2'
theorem wpList_appendAll {T E : TypeId} {z : Value} {k bytes : Nat} (ht : ElemT P T E z k bytes) (hgd : o.guard = none) (s x : Operand) (ho : o.op = .call { callee := .builtin .append, args := #[s, x], argTypes := #[T, T] })
    {f : α → List Value} (hf : LenK k f) (h1c : ∀ y, ∀ u ∈ f y, u.oneCell' = true) {B : Nat} {v : Value} {xs : List α} (hs : a.eval s = v) (hown : Own E k f B w v xs) (hB : B ≤ w.heap.size) {xv : Value} {ys : List α} (hx : a.eval x = xv) (hat : SlAt k f w xv ys)
    (hlen : xs.length + ys.length ≤ maxLen ∧ (xs.length + ys.length) * bytes ≤ 140737488355328)
    (h : ∀ v' w', Own E k f B w' v' (xs ++ ys) → w.grownBy w' v.ownBlock → (v'.ownBlock = v.ownBlock ∨ v'.ownBlock = some w.heap.size) → Below B w w' → wpList P ops Q rest (a.put o.dst v') w') : wpList P ops Q (o :: rest) a w :=
  wpList_plain hgd fun _ hK => wp_appendAll ht s x ho hf h1c hs hown hB hx hat hlen fun v' w' h1 h2 h3 h4 => hK _ _ (h v' w' h1 h2 h3 h4)
/-- 'append(s, y)': y laid in a new block ahead of it. -/
theorem wp_append1 {T E : TypeId} {z : Value} {k bytes : Nat} (ht : ElemT P T E z k bytes) (s x : Operand) (ho : o.op = .call { callee := .builtin .append, args := #[s, x], argTypes := #[T, T] })
    {f : α → List Value} (hf : LenK k f) {B : Nat} {v : Value} {xs : List α} (hs : a.eval s = v) (hown : Own E k f B w v xs) (hB : B ≤ w.heap.size) {g c : Nat} (hx : a.eval x = .slice (some ⟨g, 0, none⟩) 1 c)
    (y : α) (h1c : ∀ u ∈ f y, u.oneCell' = true) (hcell : ∀ j u, (f y)[j]? = some u → w.cell? ⟨g, j, none⟩ = some u) (hlen : xs.length + 1 ≤ maxLen ∧ (xs.length + 1) * bytes ≤ 140737488355328)
    (h : ∀ v' w', Own E k f B w' v' (xs ++ [y]) → w.grownBy w' v.ownBlock → (v'.ownBlock = v.ownBlock ∨ v'.ownBlock = some w.heap.size) → Below B w w' → K (a.put o.dst v') w') : o.wp P a w K Q := by
  obtain ⟨i, hi, hz, hk, hby⟩ := ht.info
  have hnews : ∀ j u, (f y)[j]? = some u → w.cell? ((⟨g, 0, none⟩ : Addr).add j) = some u := fun j u hj => by
    have hadd : (⟨g, 0, none⟩ : Addr).add j = ⟨g, j, none⟩ := by unfold Addr.add; split <;> simp_all
    rw [hadd]; exact hcell j u hj
  obtain ⟨v', w', hrun, h2', h3, _, h5⟩ := run_append_own_at (P := P) w B T o.type E i z k bytes ht.und hi hz hk hby ht.zc ht.pos v xs.length (xs.flatMap f) hown ⟨g, 0, none⟩ 1 c (f y) (by rw [hf]; omega) hnews h1c hlen.1 hlen.2 hB
  unfold Oper.wp execOp
  simp only [ho, resolve, invoke, builtin, Sem.run_bind, Sem.run_pure, Result.andThen_ok, List.map_toArray, List.map_cons, List.map_nil, hs, hx, hrun]
  refine h v' w' ?_ h3 h5 ((Below.refl B w).grown h3 hB fun k hk => (hown.lt k hk).1)
  unfold Own
  simpa [List.flatMap_append] using h2'
theorem wpList_append1 {T E : TypeId} {z : Value} {k bytes : Nat} (ht : ElemT P T E z k bytes) (hgd : o.guard = none) (s x : Operand) (ho : o.op = .call { callee := .builtin .append, args := #[s, x], argTypes := #[T, T] })
    {f : α → List Value} (hf : LenK k f) {B : Nat} {v : Value} {xs : List α} (hs : a.eval s = v) (hown : Own E k f B w v xs) (hB : B ≤ w.heap.size) {g c : Nat} (hx : a.eval x = .slice (some ⟨g, 0, none⟩) 1 c)
    (y : α) (h1c : ∀ u ∈ f y, u.oneCell' = true) (hcell : ∀ j u, (f y)[j]? = some u → w.cell? ⟨g, j, none⟩ = some u) (hlen : xs.length + 1 ≤ maxLen ∧ (xs.length + 1) * bytes ≤ 140737488355328)
    (h : ∀ v' w', Own E k f B w' v' (xs ++ [y]) → w.grownBy w' v.ownBlock → (v'.ownBlock = v.ownBlock ∨ v'.ownBlock = some w.heap.size) → Below B w w' → wpList P ops Q rest (a.put o.dst v') w') : wpList P ops Q (o :: rest) a w :=
  wpList_plain hgd fun _ hK => wp_append1 ht s x ho hf hs hown hB hx y h1c hcell hlen fun v' w' h1 h2 h3 h4 => hK _ _ (h v' w' h1 h2 h3 h4)
/-! The same, as one step of a region that draws its order. -/
theorem wanted_none (ops : Array Oper) (hg : o.guard = none) : Region.wanted o (yielded ops a.tmps) = true := by simp [Region.wanted, hg]
/-- A call of a Go function, by its contract. -/
theorem step_enter {E : Prop} (hg : o.guard = none) (f : FuncId) {xs : Array Operand} {ats : Array TypeId} (hop : o.op = .call { callee := .value (.func f), args := xs, argTypes := ats }) (vs : Array Value) {Post : Ending → World → Prop} (hrun : (execOp a.eval o).run P w = .ok (.enter f vs) w) (hc : Calls P f vs w Post)
    (h : ∀ e w', Post e w' → ∃ v, e = .returned v ∧ K (a.put o.dst v) w') : if Region.wanted o (yielded ops a.tmps) = true then Oper.wp P o a w K Q else E := by
  rw [if_pos (wanted_none ops hg)]
  unfold Oper.wp
  rw [hrun, Oper.upon_enter]
  exact hc.mono fun e w' hp => by
    obtain ⟨v, rfl, hk⟩ := h e w' hp
    exact hk
theorem step_append1 {EE : Prop} {T E : TypeId} {z : Value} {k bytes : Nat} (ht : ElemT P T E z k bytes) (hgd : o.guard = none) (s x : Operand) (ho : o.op = .call { callee := .builtin .append, args := #[s, x], argTypes := #[T, T] })
    {f : α → List Value} (hf : LenK k f) {B : Nat} {v : Value} {xs : List α} (hs : a.eval s = v) (hown : Own E k f B w v xs) (hB : B ≤ w.heap.size) {g c : Nat} (hx : a.eval x = .slice (some ⟨g, 0, none⟩) 1 c)
    (y : α) (h1c : ∀ u ∈ f y, u.oneCell' = true) (hcell : ∀ j u, (f y)[j]? = some u → w.cell? ⟨g, j, none⟩ = some u) (hlen : xs.length + 1 ≤ maxLen ∧ (xs.length + 1) * bytes ≤ 140737488355328)
    (h : ∀ v' w', Own E k f B w' v' (xs ++ [y]) → w.grownBy w' v.ownBlock → (v'.ownBlock = v.ownBlock ∨ v'.ownBlock = some w.heap.size) → Below B w w' → K (a.put o.dst v') w') : if Region.wanted o (yielded ops a.tmps) = true then Oper.wp P o a w K Q else EE := by
  rw [if_pos (wanted_none ops hgd)]
  exact wp_append1 ht s x ho hf hs hown hB hx y h1c hcell hlen h
theorem step_appendAll {EE : Prop} {T E : TypeId} {z : Value} {k bytes : Nat} (ht : ElemT P T E z k bytes) (hgd : o.guard = none) (s x : Operand) (ho : o.op = .call { callee := .builtin .append, args := #[s, x], argTypes := #[T, T] })
    {f : α → List Value} (hf : LenK k f) (h1c : ∀ y, ∀ u ∈ f y, u.oneCell' = true) {B : Nat} {v : Value} {xs : List α} (hs : a.eval s = v) (hown : Own E k f B w v xs) (hB : B ≤ w.heap.size) {xv : Value} {ys : List α} (hx : a.eval x = xv) (hat : SlAt k f w xv ys)
    (hlen : xs.length + ys.length ≤ maxLen ∧ (xs.length + ys.length) * bytes ≤ 140737488355328)
    (h : ∀ v' w', Own E k f B w' v' (xs ++ ys) → w.grownBy w' v.ownBlock → (v'.ownBlock = v.ownBlock ∨ v'.ownBlock = some w.heap.size) → Below B w w' → K (a.put o.dst v') w') : if Region.wanted o (yielded ops a.tmps) = true then Oper.wp P o a w K Q else EE := by
  rw [if_pos (wanted_none ops hgd)]
  exact wp_appendAll ht s x ho hf h1c hs hown hB hx hat hlen h
end
end Go.Proofs.Ytobechjagckdfaa
