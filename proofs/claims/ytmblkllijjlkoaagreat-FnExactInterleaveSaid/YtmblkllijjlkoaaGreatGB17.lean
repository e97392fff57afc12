/-
  Texts put together: Append, Span2, KOk3.
-/
import Derived.Test.YtmblkllijjlkoaaGreatGB3
import Derived.Maps.AppendAt
import Derived.Test.YtmblkllijjlkoaaGreatGB6
import Derived.Test.YtmblkllijjlkoaaGreatGB12
/-
  append of one element, or of all elements of a slice that can be read, onto a slice of the call's own; where the new slice lies. No Go text is named here.
-/
set_option linter.unusedVariables false
set_option linter.unusedSimpArgs false
namespace Go.Proofs.YtmblkllijjlkoaaGreat
open Go.RowKit
theorem flatMap_at {α : Type} {k : Nat} {f : α → List Value} (hf : LenK k f) {xs : List α} {m : Nat} {u : Value} (h : (xs.flatMap f)[m]? = some u) : ∃ i j x, m = i * k + j ∧ xs[i]? = some x ∧ (f x)[j]? = some u := by
  have hlt := getx_lt h
  rw [flat_len hf] at hlt
  have hk : 0 < k := by
    rcases Nat.eq_zero_or_pos k with h0 | h0
    · subst h0; omega
    · exact h0
  have hd : m / k < xs.length := (Nat.div_lt_iff_lt_mul hk).2 hlt
  have hr : m % k < k := Nat.mod_lt _ hk
  have hm : m = m / k * k + m % k := by rw [Nat.mul_comm]; exact (Nat.div_add_mod m k).symm
  obtain ⟨x, hx⟩ := getx hd
  refine ⟨m / k, m % k, x, hm, hx, ?_⟩
  rw [hm, flat_get hf xs _ _ hd hr] at h
  have e : xs[m / k] = x := by rw [List.getElem?_eq_getElem hd] at hx; exact Option.some.inj hx
  rw [← e]
  exact h
section
variable {P : Program} {ops : Array Oper} {rest : List Oper} {o : Oper} {a : Act} {Q : Exit → Act → World → Prop} {K : Act → World → Prop} {w : World} {α : Type}
theorem run_append_none {E k : Nat} (t ty : TypeId) {B : Nat} {v : Value} {n : Nat} {xs : List Value} {i : TypeInfo} (ht : P.underlying t = some (.slice E)) (hi : P.info? E = some i) (hown : w.ownsRow B E k v n xs) (c : Nat) :
    (Builtin.append_ #[t, t] ty #[v, .slice none 0 c]).run P w = .ok v w := by
  rcases hown.2 with ⟨rfl, rfl⟩ | ⟨g, cap, cur, rfl, _, _, hnc, _⟩
  · simp [Builtin.append_, run_underlying ht, sizeOf, typeInfo, hi, Builtin.lenOf, Builtin.firstCells]
  · simp [Builtin.append_, run_underlying ht, sizeOf, typeInfo, hi, Builtin.lenOf, Builtin.firstCells, hnc, storeCells]
/-- 'append(s, xs...)'. -/
theorem wp_appendAll {T E : TypeId} {z : Value} {k bytes : Nat} (ht : ElemT P T E z k bytes) (s x : Operand) (ho : o.op = .call { callee := .builtin .append, args := #[s, x], argTypes := #[T, T] })
    {f : α → List Value} (hf : LenK k f) (h1c : ∀ y, ∀ u ∈ f y, u.oneCell' = true) {B : Nat} {v : Value} {xs : List α} (hs : a.eval s = v) (hown : Own E k f B w v xs) (hB : B ≤ w.heap.size) {xv : Value} {ys : List α} (hx : a.eval x = xv) (hat : SlAt k f w xv ys)
    (hlen : xs.length + ys.length ≤ maxLen ∧ (xs.length + ys.length) * bytes ≤ 140737488355328)
    (h : ∀ v' w', Own E k f B w' v' (xs ++ ys) → w.grownBy w' v.ownBlock → (v'.ownBlock = v.ownBlock ∨ v'.ownBlock = some w.heap.size) → Below B w w' → K (a.put o.dst v') w') : o.wp P a w K Q := by
  obtain ⟨i, hi, hz, hk, hby⟩ := ht.info
  obtain ⟨ao, cap, rfl, h1, h2, hr⟩ := hat
  cases ao with
  | none =>
    have hy : ys = [] := by
      cases ys with
      | nil => rfl
      | cons y ys => obtain ⟨g, _, e, _⟩ := hr 0 y rfl; cases e
    subst hy
    have hrun := run_append_none (P := P) T o.type ht.und hi hown cap
    unfold Oper.wp execOp
    simp only [ho, resolve, invoke, builtin, Sem.run_bind, Sem.run_pure, Result.andThen_ok, List.map_toArray, List.map_cons, List.map_nil, hs, hx, hrun, List.length_nil]
    exact h v w (by rw [List.append_nil]; exact hown) (grown_refl w _) (.inl rfl) (Below.refl _ _)
  | some ad =>
    have hnews : ∀ j u, (ys.flatMap f)[j]? = some u → w.cell? (ad.add j) = some u := by
      intro m u hu
      obtain ⟨i, j, y, rfl, hy, hj⟩ := flatMap_at hf hu
      obtain ⟨g, o', e, _, hc⟩ := hr i y hy
      cases e
      have hadd : (⟨g, o', none⟩ : Addr).add (i * k + j) = ⟨g, o' + i * k + j, none⟩ := by unfold Addr.add; split <;> simp_all <;> omega
      rw [hadd]; exact hc j u hj
    have h1' : ∀ u ∈ ys.flatMap f, u.oneCell' = true := fun u hu => by
      obtain ⟨y, _, hy⟩ := List.mem_flatMap.1 hu
      exact h1c y u hy
    obtain ⟨v', w', hrun, h2', h3, _, h5⟩ := run_append_own_at (P := P) w B T o.type E i z k bytes ht.und hi hz hk hby ht.zc ht.pos v xs.length (xs.flatMap f) hown ad ys.length cap (ys.flatMap f) (flat_len hf ys) hnews h1' hlen.1 hlen.2 hB
    unfold Oper.wp execOp
    simp only [ho, resolve, invoke, builtin, Sem.run_bind, Sem.run_pure, Result.andThen_ok, List.map_toArray, List.map_cons, List.map_nil, hs, hx, hrun]
    refine h v' w' ?_ h3 h5 ((Below.refl B w).grown h3 hB fun k hk => (hown.lt k hk).1)
    unfold Own
    rw [List.flatMap_append, List.length_append]
    exact h2'
theorem wpList_appendAll {T E : TypeId} {z : Value} {k bytes : Nat} (ht : ElemT P T E z k bytes) (hgd : o.guard = none) (s x : Operand) (ho : o.op = .call { callee := .builtin .append, args := #[s, x], argTypes := #[T, T] })
    {f : α → List Value} (hf : LenK k f) (h1c : ∀ y, ∀ u ∈ f y, u.oneCell' = true) {B : Nat} {v : Value} {xs : List α} (hs : a.eval s = v) (hown : Own E k f B w v xs) (hB : B ≤ w.heap.size) {xv : Value} {ys : List α} (hx : a.eval x = xv) (hat : SlAt k f w xv ys)
    (hlen : xs.length + ys.length ≤ maxLen ∧ (xs.length + ys.length) * bytes ≤ 140737488355328)
    (h : ∀ v' w', Own E k f B w' v' (xs ++ ys) → w.grownBy w' v.ownBlock → (v'.ownBlock = v.ownBlock ∨ v'.ownBlock = some w.heap.size) → Below B w w' → wpList P ops Q rest (a.put o.dst v') w') : wpList P ops Q (o :: rest) a w :=
  wpList_plain hgd fun _ hK => wp_appendAll ht s x ho hf h1c hs hown hB hx hat hlen fun v' w' h1 h2 h3 h4 => hK _ _ (h v' w' h1 h2 h3 h4)
/-- 'append(s, y)': y laid in a new block ahead of it. -/
theorem wp_append1 {T E : TypeId} {z : Value} {k bytes : Nat} (ht : ElemT P T E z k bytes) (s x : Operand) (ho : o.op = .call { callee := .builtin .append, args := #[s, x], argTypes := #[T, T] })
    {f : α → List Value} (hf : LenK k f) {B : Nat} {v : Value} {xs : List α} (hs : a.eval s = v) (hown : Own E k f B w v xs) (hB : B ≤ w.heap.size) {g c : Nat} (hx : a.eval x = .slice (some ⟨g, 0, none⟩) 1 c)
    (y : α) (h1c : ∀ u ∈ f y, u.oneCell' = true) (hcell : ∀ j u, (f y)[j]? = some u → w.cell? ⟨g, j, none⟩ = some u) (hlen : xs.length + 1 ≤ maxLen ∧ (xs.length + 1) * bytes ≤ 140737488355328)
    (h : ∀ v' w', Own E k f B w' v' (xs ++ [y]) → w.grownBy w' v.ownBlock → (v'.ownBlock = v.ownBlock ∨ v'.ownBlock = some w.heap.size) → Below B w w' → K (a.put o.dst v') w') : o.wp P a w K Q := by
  obtain ⟨i, hi, hz, hk, hby⟩ := ht.info
  have hnews : ∀ j u, (f y)[j]? = some u → w.cell? ((⟨g, 0, none⟩ : Addr).add j) = some u := fun j u hj => by
    have hadd : (⟨g, 0, none⟩ : Addr).add j = ⟨g, j, none⟩ := by unfold Addr.add; split <;> simp_all
    rw [hadd]; exact hcell j u hj
  obtain ⟨v', w', hrun, h2', h3, _, h5⟩ := run_append_own_at (P := P) w B T o.type E i z k bytes ht.und hi hz hk hby ht.zc ht.pos v xs.length (xs.flatMap f) hown ⟨g, 0, none⟩ 1 c (f y) (by rw [hf]; omega) hnews h1c hlen.1 hlen.2 hB
  unfold Oper.wp execOp
  simp only [ho, resolve, invoke, builtin, Sem.run_bind, Sem.run_pure, Result.andThen_ok, List.map_toArray, List.map_cons, List.map_nil, hs, hx, hrun]
  refine h v' w' ?_ h3 h5 ((Below.refl B w).grown h3 hB fun k hk => (hown.lt k hk).1)
  unfold Own
  simpa [List.flatMap_append] using h2'
theorem wpList_append1 {T E : TypeId} {z : Value} {k bytes : Nat} (ht : ElemT P T E z k bytes) (hgd : o.guard = none) (s x : Operand) (ho : o.op = .call { callee := .builtin .append, args := #[s, x], argTypes := #[T, T] })
    {f : α → List Value} (hf : LenK k f) {B : Nat} {v : Value} {xs : List α} (hs : a.eval s = v) (hown : Own E k f B w v xs) (hB : B ≤ w.heap.size) {g c : Nat} (hx : a.eval x = .slice (some ⟨g, 0, none⟩) 1 c)
    (y : α) (h1c : ∀ u ∈ f y, u.oneCell' = true) (hcell : ∀ j u, (f y)[j]? = some u → w.cell? ⟨g, j, none⟩ = some u) (hlen : xs.length + 1 ≤ maxLen ∧ (xs.length + 1) * bytes ≤ 140737488355328)
    (h : ∀ v' w', Own E k f B w' v' (xs ++ [y]) → w.grownBy w' v.ownBlock → (v'.ownBlock = v.ownBlock ∨ v'.ownBlock = some w.heap.size) → Below B w w' → wpList P ops Q rest (a.put o.dst v') w') : wpList P ops Q (o :: rest) a w :=
  wpList_plain hgd fun _ hK => wp_append1 ht s x ho hf hs hown hB hx y h1c hcell hlen fun v' w' h1 h2 h3 h4 => hK _ _ (h v' w' h1 h2 h3 h4)
/-! The same, as one step of a region that draws its order. -/
theorem wanted_none (ops : Array Oper) (hg : o.guard = none) : Region.wanted o (yielded ops a.tmps) = true := by simp [Region.wanted, hg]
/-- A call of a Go function, by its contract. -/
theorem step_enter {E : Prop} (hg : o.guard = none) (f : FuncId) {xs : Array Operand} {ats : Array TypeId} (hop : o.op = .call { callee := .value (.func f), args := xs, argTypes := ats }) (vs : Array Value) {Post : Ending → World → Prop} (hrun : (execOp a.eval o).run P w = .ok (.enter f vs) w) (hc : Calls P f vs w Post)
    (h : ∀ e w', Post e w' → ∃ v, e = .returned v ∧ K (a.put o.dst v) w') : if Region.wanted o (yielded ops a.tmps) = true then Oper.wp P o a w K Q else E := by
  rw [if_pos (wanted_none ops hg)]
  unfold Oper.wp
  rw [hrun, Oper.upon_enter]
  exact hc.mono fun e w' hp => by
    obtain ⟨v, rfl, hk⟩ := h e w' hp
    exact hk
theorem step_append1 {EE : Prop} {T E : TypeId} {z : Value} {k bytes : Nat} (ht : ElemT P T E z k bytes) (hgd : o.guard = none) (s x : Operand) (ho : o.op = .call { callee := .builtin .append, args := #[s, x], argTypes := #[T, T] })
    {f : α → List Value} (hf : LenK k f) {B : Nat} {v : Value} {xs : List α} (hs : a.eval s = v) (hown : Own E k f B w v xs) (hB : B ≤ w.heap.size) {g c : Nat} (hx : a.eval x = .slice (some ⟨g, 0, none⟩) 1 c)
    (y : α) (h1c : ∀ u ∈ f y, u.oneCell' = true) (hcell : ∀ j u, (f y)[j]? = some u → w.cell? ⟨g, j, none⟩ = some u) (hlen : xs.length + 1 ≤ maxLen ∧ (xs.length + 1) * bytes ≤ 140737488355328)
    (h : ∀ v' w', Own E k f B w' v' (xs ++ [y]) → w.grownBy w' v.ownBlock → (v'.ownBlock = v.ownBlock ∨ v'.ownBlock = some w.heap.size) → Below B w w' → K (a.put o.dst v') w') : if Region.wanted o (yielded ops a.tmps) = true then Oper.wp P o a w K Q else EE := by
  rw [if_pos (wanted_none ops hgd)]
  exact wp_append1 ht s x ho hf hs hown hB hx y h1c hcell hlen h
theorem step_appendAll {EE : Prop} {T E : TypeId} {z : Value} {k bytes : Nat} (ht : ElemT P T E z k bytes) (hgd : o.guard = none) (s x : Operand) (ho : o.op = .call { callee := .builtin .append, args := #[s, x], argTypes := #[T, T] })
    {f : α → List Value} (hf : LenK k f) (h1c : ∀ y, ∀ u ∈ f y, u.oneCell' = true) {B : Nat} {v : Value} {xs : List α} (hs : a.eval s = v) (hown : Own E k f B w v xs) (hB : B ≤ w.heap.size) {xv : Value} {ys : List α} (hx : a.eval x = xv) (hat : SlAt k f w xv ys)
    (hlen : xs.length + ys.length ≤ maxLen ∧ (xs.length + ys.length) * bytes ≤ 140737488355328)
    (h : ∀ v' w', Own E k f B w' v' (xs ++ ys) → w.grownBy w' v.ownBlock → (v'.ownBlock = v.ownBlock ∨ v'.ownBlock = some w.heap.size) → Below B w w' → K (a.put o.dst v') w') : if Region.wanted o (yielded ops a.tmps) = true then Oper.wp P o a w K Q else EE := by
  rw [if_pos (wanted_none ops hgd)]
  exact wp_appendAll ht s x ho hf h1c hs hown hB hx hat hlen h
end
end Go.Proofs.YtmblkllijjlkoaaGreat
/-
  What the functions on the slots of a span return.
-/
set_option linter.unusedVariables false
set_option linter.unusedSimpArgs false
namespace Go.Proofs.YtmblkllijjlkoaaGreat
open Go.RowKit
theorem spanOk_parts' {p c b : Int} (h : spanOk p c b = true) : (0 ≤ p ∧ p ≤ 31) ∧ (0 ≤ c ∧ c ≤ 3) ∧ bitmapOk (slotsOf c) b = true := by
  simp only [spanOk, Bool.and_eq_true, between_iff] at h; exact ⟨h.1.1, h.1.2, h.2⟩
theorem NewInts.open {w w' : World} {xs : List Int} {e : Ending} (h : NewInts w xs e w') : ∃ ao cap, e = .returned (.slice ao xs.length cap) ∧ OwnI w.heap.size w' (.slice ao xs.length cap) xs ∧ Below w.heap.size w w' := by
  obtain ⟨v, rfl, hown, hb⟩ := h
  obtain ⟨ao, cap, rfl, _⟩ := hown.shape
  exact ⟨ao, cap, rfl, hown, hb⟩
def spanFull (p c b : Int) : Bool := spanOk p c b && ((freeSlots (slotsOf c) b).length : Int) == 0

theorem l_eqSpan (a b c : Int) (w : World) : Calls Tryz.prog 58 #[.agg #[.int .i64 a, .int .i64 b, .int .i64 c], .agg #[.int .i64 a, .int .i64 b, .int .i64 c]] w fun e w' => e = .returned (.bool true) ∧ Below w.heap.size w w' := by
  (have hall := all_nil w; go_enter Tryz.func58, Tryz.ntmps58)
  go_wp2_with (fail)
  all_goals (go_ret; refine ⟨by simp_all [], ?_⟩; exact bel)
def giveBits (p c b slot : Int) : Int := if spanOk p c b && hasSlot b slot then withoutSlot b slot else b
theorem i_SpanGive (p c b slot : Int) (w : World) : Calls Tryz.prog 98 #[.agg #[.int .i64 p, .int .i64 c, .int .i64 b], .int .i64 slot] w fun e w' => e = .returned (.tuple #[.agg #[.int .i64 p, .int .i64 c, .int .i64 (giveBits p c b slot)], .bool (spanOk p c b && hasSlot b slot)]) ∧ Below w.heap.size w w' := by
  cases h1 : spanOk p c b; rotate_left; cases h2 : hasSlot b slot
  all_goals (have hall := all_nil w; go_enter Tryz.func98, Tryz.ntmps98)
  all_goals go_wp2_with (first | (go_at_call 138; (first | (refine (i_SpanOk _ _ _ true (by assumption) _).mono ?_) | (refine (i_SpanOk _ _ _ false (by assumption) _).mono ?_)); rintro e w2 ⟨rfl, hb⟩; ((have hn := nw2 hb hall (by exact zo))); obtain ⟨hc, hf, hn, hc0⟩ := hn; replace hall := hn; clear hn; have hz := hb.size; (try simp only [World.size_alloc, World.size_setCell, World.size_drew] at hz); have hx := hall; (try simp only [allLt, and_true] at hx); obtain ⟨w1, rfl⟩ : ∃ x, x = w2 := ⟨_, rfl⟩) | (go_at_call 139; (first | (refine (i_HasSlot _ _ true (by assumption) _).mono ?_) | (refine (i_HasSlot _ _ false (by assumption) _).mono ?_)); rintro e w2 ⟨rfl, rfl⟩) | (go_at_call 140; (refine (i_WithoutSlot _ _ _).mono ?_); rintro e w2 ⟨rfl, rfl⟩))
  all_goals (refine bodyPost_ret (v := .tuple #[.agg #[.int .i64 p, .int .i64 c, .int .i64 (giveBits p c b slot)], .bool (spanOk p c b && hasSlot b slot)]) (by simp [results, Tryz.results98, go_sem, giveBits, *]) rfl ⟨by simp [*], ?_⟩; exact bel)
theorem s_SpanGive (p c b slot : Int) (w : World) : Calls Tryz.prog 90 #[.agg #[.int .i64 p, .int .i64 c, .int .i64 b], .int .i64 slot] w fun e w' => e = .returned (.tuple #[.agg #[.int .i64 p, .int .i64 c, .int .i64 (giveBits p c b slot)], .bool (spanOk p c b && hasSlot b slot)]) ∧ Below w.heap.size w w' := by
  cases h1 : spanOk p c b; rotate_left; cases h2 : hasSlot b slot
  all_goals (have hall := all_nil w; go_enter Tryz.func90, Tryz.ntmps90)
  all_goals go_wp2_with (first | (go_at_call 129; (first | (refine (s_SpanOk _ _ _ true (by assumption) _).mono ?_) | (refine (s_SpanOk _ _ _ false (by assumption) _).mono ?_)); rintro e w2 ⟨rfl, hb⟩; ((have hn := nw2 hb hall (by exact zo))); obtain ⟨hc, hf, hn, hc0⟩ := hn; replace hall := hn; clear hn; have hz := hb.size; (try simp only [World.size_alloc, World.size_setCell, World.size_drew] at hz); have hx := hall; (try simp only [allLt, and_true] at hx); obtain ⟨w1, rfl⟩ : ∃ x, x = w2 := ⟨_, rfl⟩) | (go_at_call 130; (first | (refine (s_HasSlot _ _ true (by assumption) _).mono ?_) | (refine (s_HasSlot _ _ false (by assumption) _).mono ?_)); rintro e w2 ⟨rfl, rfl⟩) | (go_at_call 131; (refine (s_WithoutSlot _ _ _).mono ?_); rintro e w2 ⟨rfl, rfl⟩))
  all_goals (refine bodyPost_ret (v := .tuple #[.agg #[.int .i64 p, .int .i64 c, .int .i64 (giveBits p c b slot)], .bool (spanOk p c b && hasSlot b slot)]) (by simp [results, Tryz.results90, go_sem, giveBits, *]) rfl ⟨by simp [*], ?_⟩; exact bel)

end Go.Proofs.YtmblkllijjlkoaaGreat
/-
  The pages on a frame; the entry of a page.
-/
set_option linter.unusedVariables false
set_option linter.unusedSimpArgs false
namespace Go.Proofs.YtmblkllijjlkoaaGreat
open Go.RowKit
theorem onTo_succ {es : List Ent} (fr : Int) {k : Nat} {x : Ent} (h : es[k]? = some x) : onTo es fr (k + 1) = onTo es fr k ++ if x.m != 0 && x.f == fr then [(k : Int)] else [] := by rw [onTo, getD_of h]
theorem intCellG (w : World) (x : Int) (g : Nat) (hg : g = w.heap.size) : ∀ j u, (fInt x)[j]? = some u → (w.alloc (.cells #[.int .i64 x] 3)).cell? ⟨g, j, none⟩ = some u := by
  subst hg; exact intCell w x
theorem i_PagesOn (v : Value) (es : List Ent) (fr : Int) (hs : es.length ≤ 1048576) (w : World) (ha : EntAt w v es) : Calls Tryz.prog 158 #[.agg #[v], .int .i64 fr] w (NewInts w (pagesOn es fr)) := by
  obtain ⟨eo, ec, rfl, h1, h2, hrd⟩ := EntAt.open ha
  have hm : es.length ≤ 9223372036854775807 := by unfold maxLen at h2; omega
  have HE := Lib.hid hrd
  clear ha h1 h2 hrd
  (have hall := all_nil w; go_enter Tryz.func158, Tryz.ntmps158)
  go_wp2_with (fail)
  go_loopw [5, 12] (fun o i wr => ∃ k : Nat, k ≤ es.length ∧ i = .int .i64 k ∧ OwnI (w.heap.size + 1) wr o (onTo es fr k) ∧ Below w.heap.size w wr ∧ wr.cell? ⟨w.heap.size, 0, none⟩ = some (.slice eo es.length ec) ∧ w.heap.size + 1 ≤ wr.heap.size) (fun _ i _ => es.length - (intOf i).toNat)
  case atStart => exact ⟨0, Nat.zero_le _, rfl, Own.empty' _ _ _ _ _ _ (by simp) (by simp), by exact bel, by go_simp, by simp only [World.size_alloc]; omega⟩
  case round =>
    obtain ⟨k, hk, rfl, hown, hbel, kbox, xbox⟩ := hrel
    have HO := Lib.hid hown; have HB := Lib.hid hbel; have hsz := hbel.size; clear hown
    by_cases hlt : k < es.length
    · have hlt' : (k : Int) < es.length := by omega
      obtain ⟨x, hx⟩ := getx hlt
      obtain ⟨g, o, rfl, hg, c0, c1⟩ := HE.out k x hx
      have HS := Lib.hid (onTo_succ fr hx)
      have hle := onTo_le es fr k
      replace c0 := (hbel.cell (p := ⟨g, o + k * 2, none⟩) hg).trans c0
      replace c1 := (hbel.cell (p := ⟨g, o + k * 2 + 1, none⟩) hg).trans c1
      clear hx hbel
      obtain ⟨xm, xf⟩ := x
      dsimp only at c0 c1
      (obtain ⟨w1, rfl⟩ : ∃ x, x = wr := ⟨_, rfl⟩; have hall : allLt [g, w.heap.size] w1.heap.size := ⟨by omega, by omega, trivial⟩; have hx := hall; (try simp only [allLt, and_true] at hx))
      have keep : ∀ W, (xm != 0 && xf == fr) = false → OwnI (w.heap.size + 1) W u5 (onTo es fr k) → OwnI (w.heap.size + 1) W u5 (onTo es fr (k + 1)) := fun W h ho => by rw [HS.out, h]; simpa using ho
      have KP := Lib.hid keep; clear keep
      rcases eqc xm 0 with ⟨b1, b2⟩ | ⟨b1, b2⟩
      · go_wp2_with (fail)
        all_goals go_roundw
        case rel => exact ⟨k + 1, by omega, by go_num, KP.out _ (by simp [b2]) (HO.out.alloc _), by (have hB := HB.out; exact bel), by go_simp, by (try simp only [World.size_alloc]); omega⟩
        case measure => simp [intOf]; omega
      rcases eqc xf fr with ⟨b3, b4⟩ | ⟨b3, b4⟩
      · go_wp2_with ((at_builtin; (refine append1 elemInt rfl _ _ rfl lenInt oneInt rfl ((HO.out.alloc _).alloc _) (by simp only [World.size_alloc]; omega) rfl (k : Int) (intCellG _ _ _ (by simp)) (by unfold maxLen; omega) ?_); intro v2 w2 hown2 _ hb2))
        all_goals go_roundw
        case rel => exact ⟨k + 1, by omega, by go_num, by rw [HS.out, b2, b3]; exact hown2, by (have hB := HB.out; exact bel), (hb2.cell (p := ⟨w.heap.size, 0, none⟩) (Nat.lt_succ_self _)).trans (by go_simp), by have := hb2.size; simp only [World.size_alloc] at this; omega⟩
        case measure => simp [intOf]; omega
      · go_wp2_with (fail)
        all_goals go_roundw
        case rel => exact ⟨k + 1, by omega, by go_num, KP.out _ (by simp [b3]) (HO.out.alloc _), by (have hB := HB.out; exact bel), by go_simp, by (try simp only [World.size_alloc]); omega⟩
        case measure => simp [intOf]; omega
    · have hlt' : ¬ (k : Int) < es.length := by omega
      obtain rfl : k = es.length := by omega
      clear hbel
      go_wp2_with (fail)
      go_ret
      have hB := HB.out
      exact ⟨_, rfl, Own.mono HO.out (by omega), by exact bel⟩

theorem s_PagesOn (v : Value) (es : List Ent) (fr : Int) (hs : es.length ≤ 1048576) (w : World) (ha : EntAt w v es) : Calls Tryz.prog 161 #[.agg #[v], .int .i64 fr] w (NewInts w (pagesOn es fr)) := by
  obtain ⟨eo, ec, rfl, h1, h2, hrd⟩ := EntAt.open ha
  have hm : es.length ≤ 9223372036854775807 := by unfold maxLen at h2; omega
  have HE := Lib.hid hrd
  clear ha h1 h2 hrd
  (have hall := all_nil w; go_enter Tryz.func161, Tryz.ntmps161)
  go_wp2_with (fail)
  go_loopw [5, 6] (fun o i wr => ∃ k : Nat, k ≤ es.length ∧ i = .int .i64 k ∧ OwnI (w.heap.size + 1) wr o (onTo es fr k) ∧ Below w.heap.size w wr ∧ wr.cell? ⟨w.heap.size, 0, none⟩ = some (.slice eo es.length ec) ∧ w.heap.size + 1 ≤ wr.heap.size) (fun _ i _ => es.length - (intOf i).toNat)
  case atStart => exact ⟨0, Nat.zero_le _, rfl, Own.empty' _ _ _ _ _ _ (by simp) (by simp), by exact bel, by go_simp, by simp only [World.size_alloc]; omega⟩
  case round =>
    obtain ⟨k, hk, rfl, hown, hbel, kbox, xbox⟩ := hrel
    have HO := Lib.hid hown; have HB := Lib.hid hbel; have hsz := hbel.size; clear hown
    by_cases hlt : k < es.length
    · have hlt' : (k : Int) < es.length := by omega
      obtain ⟨x, hx⟩ := getx hlt
      obtain ⟨g, o, rfl, hg, c0, c1⟩ := HE.out k x hx
      have HS := Lib.hid (onTo_succ fr hx)
      have hle := onTo_le es fr k
      replace c0 := (hbel.cell (p := ⟨g, o + k * 2, none⟩) hg).trans c0
      replace c1 := (hbel.cell (p := ⟨g, o + k * 2 + 1, none⟩) hg).trans c1
      clear hx hbel
      obtain ⟨xm, xf⟩ := x
      dsimp only at c0 c1
      (obtain ⟨w1, rfl⟩ : ∃ x, x = wr := ⟨_, rfl⟩; have hall : allLt [g, w.heap.size] w1.heap.size := ⟨by omega, by omega, trivial⟩; have hx := hall; (try simp only [allLt, and_true] at hx))
      have keep : ∀ W, (xm != 0 && xf == fr) = false → OwnI (w.heap.size + 1) W u5 (onTo es fr k) → OwnI (w.heap.size + 1) W u5 (onTo es fr (k + 1)) := fun W h ho => by rw [HS.out, h]; simpa using ho
      have KP := Lib.hid keep; clear keep
      rcases eqc xm 0 with ⟨b1, b2⟩ | ⟨b1, b2⟩
      · go_wp2_with (fail)
        all_goals go_roundw
        case rel => exact ⟨k + 1, by omega, by go_num, KP.out _ (by simp [b2]) HO.out, by (have hB := HB.out; exact bel), by go_simp, by (try simp only [World.size_alloc]); omega⟩
        case measure => simp [intOf]; omega
      rcases eqc xf fr with ⟨b3, b4⟩ | ⟨b3, b4⟩
      · go_wp2_with ((at_builtin; (refine append1 elemInt rfl _ _ rfl lenInt oneInt rfl (HO.out.alloc _) (by simp only [World.size_alloc]; omega) rfl (k : Int) (intCellG _ _ _ (by simp)) (by unfold maxLen; omega) ?_); intro v2 w2 hown2 _ hb2))
        all_goals go_roundw
        case rel => exact ⟨k + 1, by omega, by go_num, by rw [HS.out, b2, b3]; exact hown2, by (have hB := HB.out; exact bel), (hb2.cell (p := ⟨w.heap.size, 0, none⟩) (Nat.lt_succ_self _)).trans (by go_simp), by have := hb2.size; simp only [World.size_alloc] at this; omega⟩
        case measure => simp [intOf]; omega
      · go_wp2_with (fail)
        all_goals go_roundw
        case rel => exact ⟨k + 1, by omega, by go_num, KP.out _ (by simp [b3]) HO.out, by (have hB := HB.out; exact bel), by go_simp, by (try simp only [World.size_alloc]); omega⟩
        case measure => simp [intOf]; omega
    · have hlt' : ¬ (k : Int) < es.length := by omega
      obtain rfl : k = es.length := by omega
      clear hbel
      go_wp2_with (fail)
      go_ret
      have hB := HB.out
      exact ⟨_, rfl, Own.mono HO.out (by omega), by exact bel⟩

end Go.Proofs.YtmblkllijjlkoaaGreat
