/-
  Texts put together: Job, KEq, KMark, PlanM, Append, Span2.
-/
import Derived.Test.YtkkebpcclklmcaaGB8
import Derived.Test.YtkkebpcclklmcaaGB7
import Derived.Test.YtkkebpcclklmcaaGB3
import Derived.Maps.AppendAt
import Derived.Test.YtkkebpcclklmcaaGB4
/-
  Jobs: the laws' functions, JobOk and JobActive.
-/
set_option linter.unusedVariables false
set_option linter.unusedSimpArgs false
namespace Go.Proofs.Ytkkebpcclklmcaa
open Go.RowKit
def jobOk (kp mv : Int) (cs : List Int) (ph nx : Int) : Bool := planOk kp mv cs && between ph 0 5 && between nx 0 cs.length
def jobActive (kp mv : Int) (cs : List Int) (ph nx : Int) : Bool := jobOk kp mv cs ph nx && between ph 1 3
theorem i_JobOk (kp mv : Int) (v : Value) (cs : List Int) (ph nx : Int) (r : Bool) (hr : jobOk kp mv cs ph nx = r) (w : World) (ha : IntsAt w v cs) : Calls Try.prog 15 #[.agg #[.int .i64 kp, .int .i64 mv, v, .int .i64 ph, .int .i64 nx]] w fun e w' => e = .returned (.bool r) ∧ Below w.heap.size w w' := by
  subst hr
  obtain ⟨ao, ca, rfl, h1, h2⟩ := ha.shape
  have hm : cs.length ≤ 9223372036854775807 := by unfold maxLen at h2; omega
  have HA := Lib.hid ha
  clear ha h1 h2
  cases hp : planOk kp mv cs
  · (have hall := all_nil w; go_enter Try.func15, Try.ntmps15)
    go_wp2_with ((go_at_call 44; (refine (i_PlanOk kp mv _ cs false hp _ (HA.out.below (by exact bel))).mono ?_; rintro e w2 ⟨rfl, hb⟩; obtain ⟨kwa_0_0, kwa_0_1, kwa_0_2, kwa_0_3, kwa_0_4⟩ := kp5 hb (w.heap.size) (.int .i64 kp) (.int .i64 mv) (.slice ao cs.length ca) (.int .i64 ph) (.int .i64 nx); have xwa_0 : w.heap.size < w2.heap.size := xc hb; have hzwa := hb.size; (try simp only [World.size_alloc, World.size_setCell, World.size_drew] at hzwa); have HB := Lib.hid hb; clear hb; obtain ⟨wa, rfl⟩ : ∃ x, x = w2 := ⟨_, rfl⟩)))
    all_goals (have hB := HB.out; go_ret; refine ⟨by simp_all [jobOk], by exact bel⟩)
  · cases b1 : between ph 0 5
    · (have hall := all_nil w; go_enter Try.func15, Try.ntmps15)
      go_wp2_with (first | (go_at_call 44; (refine (i_PlanOk kp mv _ cs true hp _ (HA.out.below (by exact bel))).mono ?_; rintro e w2 ⟨rfl, hb⟩; obtain ⟨kwa_0_0, kwa_0_1, kwa_0_2, kwa_0_3, kwa_0_4⟩ := kp5 hb (w.heap.size) (.int .i64 kp) (.int .i64 mv) (.slice ao cs.length ca) (.int .i64 ph) (.int .i64 nx); have xwa_0 : w.heap.size < w2.heap.size := xc hb; have hzwa := hb.size; (try simp only [World.size_alloc, World.size_setCell, World.size_drew] at hzwa); have HB := Lib.hid hb; clear hb; obtain ⟨wa, rfl⟩ : ∃ x, x = w2 := ⟨_, rfl⟩)) | (go_at_call 39; ((refine (i_between _ _ _ false (by assumption) _).mono ?_)); rintro e w2 ⟨rfl, rfl⟩))
      all_goals (have hB := HB.out; go_ret; refine ⟨by simp_all [jobOk], by exact bel⟩)
    · cases b2 : between nx 0 cs.length
      · (have hall := all_nil w; go_enter Try.func15, Try.ntmps15)
        go_wp2_with (first | (go_at_call 44; (refine (i_PlanOk kp mv _ cs true hp _ (HA.out.below (by exact bel))).mono ?_; rintro e w2 ⟨rfl, hb⟩; obtain ⟨kwa_0_0, kwa_0_1, kwa_0_2, kwa_0_3, kwa_0_4⟩ := kp5 hb (w.heap.size) (.int .i64 kp) (.int .i64 mv) (.slice ao cs.length ca) (.int .i64 ph) (.int .i64 nx); have xwa_0 : w.heap.size < w2.heap.size := xc hb; have hzwa := hb.size; (try simp only [World.size_alloc, World.size_setCell, World.size_drew] at hzwa); have HB := Lib.hid hb; clear hb; obtain ⟨wa, rfl⟩ : ∃ x, x = w2 := ⟨_, rfl⟩)) | (go_at_call 39; (first | (refine (i_between _ _ _ true (by assumption) _).mono ?_) | (refine (i_between _ _ _ false (by assumption) _).mono ?_)); rintro e w2 ⟨rfl, rfl⟩))
        all_goals (have hB := HB.out; go_ret; refine ⟨by simp_all [jobOk], by exact bel⟩)
      · (have hall := all_nil w; go_enter Try.func15, Try.ntmps15)
        go_wp2_with (first | (go_at_call 44; (refine (i_PlanOk kp mv _ cs true hp _ (HA.out.below (by exact bel))).mono ?_; rintro e w2 ⟨rfl, hb⟩; obtain ⟨kwa_0_0, kwa_0_1, kwa_0_2, kwa_0_3, kwa_0_4⟩ := kp5 hb (w.heap.size) (.int .i64 kp) (.int .i64 mv) (.slice ao cs.length ca) (.int .i64 ph) (.int .i64 nx); have xwa_0 : w.heap.size < w2.heap.size := xc hb; have hzwa := hb.size; (try simp only [World.size_alloc, World.size_setCell, World.size_drew] at hzwa); have HB := Lib.hid hb; clear hb; obtain ⟨wa, rfl⟩ : ∃ x, x = w2 := ⟨_, rfl⟩)) | (go_at_call 39; ((refine (i_between _ _ _ true (by assumption) _).mono ?_)); rintro e w2 ⟨rfl, rfl⟩))
        all_goals (have hB := HB.out; go_ret; refine ⟨by simp_all [jobOk], by exact bel⟩)


theorem i_JobActive (kp mv : Int) (v : Value) (cs : List Int) (ph nx : Int) (w : World) (ha : IntsAt w v cs) : Calls Try.prog 26 #[.agg #[.int .i64 kp, .int .i64 mv, v, .int .i64 ph, .int .i64 nx]] w fun e w' => e = .returned (.bool (jobActive kp mv cs ph nx)) ∧ Below w.heap.size w w' := by
  obtain ⟨ao, ca, rfl, h1, h2⟩ := ha.shape
  have hm : cs.length ≤ 9223372036854775807 := by unfold maxLen at h2; omega
  have HA := Lib.hid ha
  clear ha h1 h2
  cases hp : jobOk kp mv cs ph nx
  · (have hall := all_nil w; go_enter Try.func26, Try.ntmps26)
    go_wp2_with ((go_at_call 15; (refine (i_JobOk kp mv _ cs ph nx false hp _ (HA.out.below (by exact bel))).mono ?_; rintro e w2 ⟨rfl, hb⟩; obtain ⟨kwa_0_0, kwa_0_1, kwa_0_2, kwa_0_3, kwa_0_4⟩ := kp5 hb (w.heap.size) (.int .i64 kp) (.int .i64 mv) (.slice ao cs.length ca) (.int .i64 ph) (.int .i64 nx); have xwa_0 : w.heap.size < w2.heap.size := xc hb; have hzwa := hb.size; (try simp only [World.size_alloc, World.size_setCell, World.size_drew] at hzwa); have HB := Lib.hid hb; clear hb; obtain ⟨wa, rfl⟩ : ∃ x, x = w2 := ⟨_, rfl⟩)))
    all_goals (have hB := HB.out; go_ret; refine ⟨by simp_all [jobActive], by exact bel⟩)
  · cases b1 : between ph 1 3
    · (have hall := all_nil w; go_enter Try.func26, Try.ntmps26)
      go_wp2_with (first | (go_at_call 15; (refine (i_JobOk kp mv _ cs ph nx true hp _ (HA.out.below (by exact bel))).mono ?_; rintro e w2 ⟨rfl, hb⟩; obtain ⟨kwa_0_0, kwa_0_1, kwa_0_2, kwa_0_3, kwa_0_4⟩ := kp5 hb (w.heap.size) (.int .i64 kp) (.int .i64 mv) (.slice ao cs.length ca) (.int .i64 ph) (.int .i64 nx); have xwa_0 : w.heap.size < w2.heap.size := xc hb; have hzwa := hb.size; (try simp only [World.size_alloc, World.size_setCell, World.size_drew] at hzwa); have HB := Lib.hid hb; clear hb; obtain ⟨wa, rfl⟩ : ∃ x, x = w2 := ⟨_, rfl⟩)) | (go_at_call 39; ((refine (i_between _ _ _ false (by assumption) _).mono ?_)); rintro e w2 ⟨rfl, rfl⟩))
      all_goals (have hB := HB.out; go_ret; refine ⟨by simp_all [jobActive], by exact bel⟩)
    · (have hall := all_nil w; go_enter Try.func26, Try.ntmps26)
      go_wp2_with (first | (go_at_call 15; (refine (i_JobOk kp mv _ cs ph nx true hp _ (HA.out.below (by exact bel))).mono ?_; rintro e w2 ⟨rfl, hb⟩; obtain ⟨kwa_0_0, kwa_0_1, kwa_0_2, kwa_0_3, kwa_0_4⟩ := kp5 hb (w.heap.size) (.int .i64 kp) (.int .i64 mv) (.slice ao cs.length ca) (.int .i64 ph) (.int .i64 nx); have xwa_0 : w.heap.size < w2.heap.size := xc hb; have hzwa := hb.size; (try simp only [World.size_alloc, World.size_setCell, World.size_drew] at hzwa); have HB := Lib.hid hb; clear hb; obtain ⟨wa, rfl⟩ : ∃ x, x = w2 := ⟨_, rfl⟩)) | (go_at_call 39; ((refine (i_between _ _ _ true (by assumption) _).mono ?_)); rintro e w2 ⟨rfl, rfl⟩))
      all_goals (have hB := HB.out; go_ret; refine ⟨by simp_all [jobActive], by exact bel⟩)



/-- What a call that hands back a job of its own leaves. -/
def NewJ (w : World) (kp mv : Int) (cs : List Int) (ph nx : Int) (e : Ending) (w' : World) : Prop := ∃ v : Value, e = .returned (.agg #[.int .i64 kp, .int .i64 mv, v, .int .i64 ph, .int .i64 nx]) ∧ OwnI w.heap.size w' v cs ∧ Below w.heap.size w w'

end Go.Proofs.Ytkkebpcclklmcaa
/-
  The laws' functions on frames, tables, machines, kernels: equal.
-/
set_option linter.unusedVariables false
set_option linter.unusedSimpArgs false
namespace Go.Proofs.Ytkkebpcclklmcaa
open Go.RowKit




end Go.Proofs.Ytkkebpcclklmcaa
/-
  The laws' functions on frames, tables, machines, kernels: marked, held.
-/
set_option linter.unusedVariables false
set_option linter.unusedSimpArgs false
namespace Go.Proofs.Ytkkebpcclklmcaa
open Go.RowKit
def cntF (F : Frm) : Nat := tot F.cells + F.used.length
def cntM (M : Mac) : Nat := cntF M.f + 2 * M.ents.length
def cntK (K : Ker) : Nat := cntM K.m + K.refuse.length
theorem grown_touch1 {w w' : World} {v : Value} (h : w.grownBy w' v.ownBlock) : Touch (blocks [v]) w w' := grown_touch h fun g hg => mem_one hg
theorem Own.touchs {α : Type} {E k B : Nat} {f : α → List Value} {w w' : World} {v : Value} {xs : List α} {S : List Nat} (h : Own E k f B w v xs) (ht : Touch S w w') (hne : ∀ g ∈ blocks [v], g ∉ S) : Own E k f B w' v xs :=
  h.touch ht fun g hg => hne g (mem_one hg)
theorem apart_symm {l m : List Nat} (h : ∀ g ∈ l, g ∉ m) : ∀ g ∈ m, g ∉ l := fun g hm hl => h g hl hm
end Go.Proofs.Ytkkebpcclklmcaa
/-
  Plans and jobs: marked, held.
-/
set_option linter.unusedVariables false
set_option linter.unusedSimpArgs false
namespace Go.Proofs.Ytkkebpcclklmcaa
open Go.RowKit
end Go.Proofs.Ytkkebpcclklmcaa
/-
  append of one element, or of all elements of a slice that can be read, onto a slice of the call's own; where the new slice lies. No Go text is named here.
-/
set_option linter.unusedVariables false
set_option linter.unusedSimpArgs false
namespace Go.Proofs.Ytkkebpcclklmcaa
open Go.RowKit
theorem flatMap_at {α : Type} {k : Nat} {f : α → List Value} (hf : LenK k f) {xs : List α} {m : Nat} {u : Value} (h : (xs.flatMap f)[m]? = some u) : ∃ i j x, m = i * k + j ∧ xs[i]? = some x ∧ (f x)[j]? = some u := by
  have hlt := getx_lt h
  rw [flat_len hf] at hlt
  have hk : 0 < k := by
    rcases Nat.eq_zero_or_pos k with h0 | h0
    · subst h0; omega
    · exact h0
  have hd : m / k < xs.length := (Nat.div_lt_iff_lt_mul hk).2 hlt
  have hr : m % k < k := Nat.mod_lt _ hk
  have hm : m = m / k * k + m % k := by rw [Nat.mul_comm]; exact (Nat.div_add_mod m k).symm
  obtain ⟨x, hx⟩ := getx hd
  refine ⟨m / k, m % k, x, hm, hx, ?_⟩
  rw [hm, flat_get hf xs _ _ hd hr] at h
  have e : xs[m / k] = x := by rw [List.getElem?_eq_getElem hd] at hx; exact Option.some.inj hx
  rw [← e]
  exact h
section
variable {P : Program} {ops : Array Oper} {rest : List Oper} {o : Oper} {a : Act} {Q : Exit → Act → World → Prop} {K : Act → World → Prop} {w : World} {α : Type}
theorem run_append_none {E k : Nat} (t ty : TypeId) {B : Nat} {v : Value} {n : Nat} {xs : List Value} {i : TypeInfo} (ht : P.underlying t = some (.slice E)) (hi : P.info? E = some i) (hown : w.ownsRow B E k v n xs) (c : Nat) :
    (Builtin.append_ #[t, t] ty #[v, .slice none 0 c]).run P w = .ok v w := by
  rcases hown.2 with ⟨rfl, rfl⟩ | ⟨g, cap, cur, rfl, _, _, hnc, _⟩
  · simp [Builtin.append_, run_underlying ht, sizeOf, typeInfo, hi, Builtin.lenOf, Builtin.firstCells]
  · simp [Builtin.append_, run_underlying ht, sizeOf, typeInfo, hi, Builtin.lenOf, Builtin.firstCells, hnc, storeCells]
/-- 'append(s, xs...)'. -/
theorem wp_appendAll {T E : TypeId} {z : Value} {k bytes : Nat} (ht : ElemT P T E z k bytes) (s x : Operand) (ho : o.op = .call { callee := .builtin .append, args := #[s, x], argTypes := #[T, T] })
    {f : α → List Value} (hf : LenK k f) (h1c : ∀ y, ∀ u ∈ f y, u.oneCell' = true) {B : Nat} {v : Value} {xs : List α} (hs : a.eval s = v) (hown : Own E k f B w v xs) (hB : B ≤ w.heap.size) {xv : Value} {ys : List α} (hx : a.eval x = xv) (hat : SlAt k f w xv ys)
    (hlen : xs.length + ys.length ≤ maxLen ∧ (xs.length + ys.length) * bytes ≤ 140737488355328)
    (h : ∀ v' w', Own E k f B w' v' (xs ++ ys) → w.grownBy w' v.ownBlock → (v'.ownBlock = v.ownBlock ∨ v'.ownBlock = some w.heap.size) → Below B w w' → K (a.put o.dst v') w') : o.wp P a w K Q := by
  obtain ⟨i, hi, hz, hk, hby⟩ := ht.info
  obtain ⟨ao, cap, rfl, h1, h2, hr⟩ := hat
  cases ao with
  | none =>
    have hy : ys = [] := by
      cases ys with
      | nil => rfl
      | cons y ys => obtain ⟨g, _, e, _⟩ := hr 0 y rfl; cases e
    subst hy
    have hrun := run_append_none (P := P) T o.type ht.und hi hown cap
    unfold Oper.wp execOp
    simp only [ho, resolve, invoke, builtin, Sem.run_bind, Sem.run_pure, Result.andThen_ok, List.map_toArray, List.map_cons, List.map_nil, hs, hx, hrun, List.length_nil]
    exact h v w (by rw [List.append_nil]; exact hown) (grown_refl w _) (.inl rfl) (Below.refl _ _)
  | some ad =>
    have hnews : ∀ j u, (ys.flatMap f)[j]? = some u → w.cell? (ad.add j) = some u := by
      intro m u hu
      obtain ⟨i, j, y, rfl, hy, hj⟩ := flatMap_at hf hu
      obtain ⟨g, o', e, _, hc⟩ := hr i y hy
      cases e
      have hadd : (⟨g, o', none⟩ : Addr).add (i * k + j) = ⟨g, o' + i * k + j, none⟩ := by unfold Addr.add; split <;> simp_all <;> omega
      rw [hadd]; exact hc j u hj
    have h1' : ∀ u ∈ ys.flatMap f, u.oneCell' = true := fun u hu => by
      obtain ⟨y, _, hy⟩ := List.mem_flatMap.1 hu
      exact h1c y u hy
    obtain ⟨v', w', hrun, h2', h3, _, h5⟩ := run_append_own_at (P := P) w B T o.type E i z k bytes ht.und hi hz hk hby ht.zc ht.pos v xs.length (xs.flatMap f) hown ad ys.length cap (ys.flatMap f) (flat_len hf ys) hnews h1' hlen.1 hlen.2 hB
    unfold Oper.wp execOp
    simp only [ho, resolve, invoke, builtin, Sem.run_bind, Sem.run_pure, Result.andThen_ok, List.map_toArray, List.map_cons, List.map_nil, hs, hx, hrun]
    refine h v' w' ?_ h3 h5 ((Below.refl B w).grown h3 hB fun k hk => (hown.lt k hk).1)
    unfold Own
    rw [List.flatMap_append, List.length_append]
    exact h2'
theorem wpList_appendAll {T E : TypeId} {z : Value} {k bytes : Nat} (ht : ElemT P T E z k bytes) (hgd : o.guard = none) (s x : Operand) (ho : o.op = .call { callee := .builtin .append, args := #[s, x], argTypes := #[T, T] })
    {f : α → List Value} (hf : LenK k f) (h1c : ∀ y, ∀ u ∈ f y, u.oneCell' = true) {B : Nat} {v : Value} {xs : List α} (hs : a.eval s = v) (hown : Own E k f B w v xs) (hB : B ≤ w.heap.size) {xv : Value} {ys : List α} (hx : a.eval x = xv) (hat : SlAt k f w xv ys)
    (hlen : xs.length + ys.length ≤ maxLen ∧ (xs.length + ys.length) * bytes ≤ 140737488355328)
    (h : ∀ v' w', Own E k f B w' v' (xs ++ ys) → w.grownBy w' v.ownBlock → (v'.ownBlock = v.ownBlock ∨ v'.ownBlock = some w.heap.size) → Below B w w' → wpList P ops Q rest (a.put o.dst v') w') : wpList P ops Q (o :: rest) a w :=
  wpList_plain hgd fun _ hK => wp_appendAll ht s x ho hf h1c hs hown hB hx hat hlen fun v' w' h1 h2 h3 h4 => hK _ _ (h v' w' h1 h2 h3 h4)
/-- 'append(s, y)': y laid in a new block ahead of it. -/
theorem wp_append1 {T E : TypeId} {z : Value} {k bytes : Nat} (ht : ElemT P T E z k bytes) (s x : Operand) (ho : o.op = .call { callee := .builtin .append, args := #[s, x], argTypes := #[T, T] })
    {f : α → List Value} (hf : LenK k f) {B : Nat} {v : Value} {xs : List α} (hs : a.eval s = v) (hown : Own E k f B w v xs) (hB : B ≤ w.heap.size) {g c : Nat} (hx : a.eval x = .slice (some ⟨g, 0, none⟩) 1 c)
    (y : α) (h1c : ∀ u ∈ f y, u.oneCell' = true) (hcell : ∀ j u, (f y)[j]? = some u → w.cell? ⟨g, j, none⟩ = some u) (hlen : xs.length + 1 ≤ maxLen ∧ (xs.length + 1) * bytes ≤ 140737488355328)
    (h : ∀ v' w', Own E k f B w' v' (xs ++ [y]) → w.grownBy w' v.ownBlock → (v'.ownBlock = v.ownBlock ∨ v'.ownBlock = some w.heap.size) → Below B w w' → K (a.put o.dst v') w') : o.wp P a w K Q := by
  obtain ⟨i, hi, hz, hk, hby⟩ := ht.info
  have hnews : ∀ j u, (f y)[j]? = some u → w.cell? ((⟨g, 0, none⟩ : Addr).add j) = some u := fun j u hj => by
    have hadd : (⟨g, 0, none⟩ : Addr).add j = ⟨g, j, none⟩ := by unfold Addr.add; split <;> simp_all
    rw [hadd]; exact hcell j u hj
  obtain ⟨v', w', hrun, h2', h3, _, h5⟩ := run_append_own_at (P := P) w B T o.type E i z k bytes ht.und hi hz hk hby ht.zc ht.pos v xs.length (xs.flatMap f) hown ⟨g, 0, none⟩ 1 c (f y) (by rw [hf]; omega) hnews h1c hlen.1 hlen.2 hB
  unfold Oper.wp execOp
  simp only [ho, resolve, invoke, builtin, Sem.run_bind, Sem.run_pure, Result.andThen_ok, List.map_toArray, List.map_cons, List.map_nil, hs, hx, hrun]
  refine h v' w' ?_ h3 h5 ((Below.refl B w).grown h3 hB fun k hk => (hown.lt k hk).1)
  unfold Own
  simpa [List.flatMap_append] using h2'
theorem wpList_append1 {T E : TypeId} {z : Value} {k bytes : Nat} (ht : ElemT P T E z k bytes) (hgd : o.guard = none) (s x : Operand) (ho : o.op = .call { callee := .builtin .append, args := #[s, x], argTypes := #[T, T] })
    {f : α → List Value} (hf : LenK k f) {B : Nat} {v : Value} {xs : List α} (hs : a.eval s = v) (hown : Own E k f B w v xs) (hB : B ≤ w.heap.size) {g c : Nat} (hx : a.eval x = .slice (some ⟨g, 0, none⟩) 1 c)
    (y : α) (h1c : ∀ u ∈ f y, u.oneCell' = true) (hcell : ∀ j u, (f y)[j]? = some u → w.cell? ⟨g, j, none⟩ = some u) (hlen : xs.length + 1 ≤ maxLen ∧ (xs.length + 1) * bytes ≤ 140737488355328)
    (h : ∀ v' w', Own E k f B w' v' (xs ++ [y]) → w.grownBy w' v.ownBlock → (v'.ownBlock = v.ownBlock ∨ v'.ownBlock = some w.heap.size) → Below B w w' → wpList P ops Q rest (a.put o.dst v') w') : wpList P ops Q (o :: rest) a w :=
  wpList_plain hgd fun _ hK => wp_append1 ht s x ho hf hs hown hB hx y h1c hcell hlen fun v' w' h1 h2 h3 h4 => hK _ _ (h v' w' h1 h2 h3 h4)
/-! The same, as one step of a region that draws its order. -/
theorem wanted_none (ops : Array Oper) (hg : o.guard = none) : Region.wanted o (yielded ops a.tmps) = true := by simp [Region.wanted, hg]
/-- A call of a Go function, by its contract. -/
theorem step_enter {E : Prop} (hg : o.guard = none) (f : FuncId) {xs : Array Operand} {ats : Array TypeId} (hop : o.op = .call { callee := .value (.func f), args := xs, argTypes := ats }) (vs : Array Value) {Post : Ending → World → Prop} (hrun : (execOp a.eval o).run P w = .ok (.enter f vs) w) (hc : Calls P f vs w Post)
    (h : ∀ e w', Post e w' → ∃ v, e = .returned v ∧ K (a.put o.dst v) w') : if Region.wanted o (yielded ops a.tmps) = true then Oper.wp P o a w K Q else E := by
  rw [if_pos (wanted_none ops hg)]
  unfold Oper.wp
  rw [hrun, Oper.upon_enter]
  exact hc.mono fun e w' hp => by
    obtain ⟨v, rfl, hk⟩ := h e w' hp
    exact hk
theorem step_append1 {EE : Prop} {T E : TypeId} {z : Value} {k bytes : Nat} (ht : ElemT P T E z k bytes) (hgd : o.guard = none) (s x : Operand) (ho : o.op = .call { callee := .builtin .append, args := #[s, x], argTypes := #[T, T] })
    {f : α → List Value} (hf : LenK k f) {B : Nat} {v : Value} {xs : List α} (hs : a.eval s = v) (hown : Own E k f B w v xs) (hB : B ≤ w.heap.size) {g c : Nat} (hx : a.eval x = .slice (some ⟨g, 0, none⟩) 1 c)
    (y : α) (h1c : ∀ u ∈ f y, u.oneCell' = true) (hcell : ∀ j u, (f y)[j]? = some u → w.cell? ⟨g, j, none⟩ = some u) (hlen : xs.length + 1 ≤ maxLen ∧ (xs.length + 1) * bytes ≤ 140737488355328)
    (h : ∀ v' w', Own E k f B w' v' (xs ++ [y]) → w.grownBy w' v.ownBlock → (v'.ownBlock = v.ownBlock ∨ v'.ownBlock = some w.heap.size) → Below B w w' → K (a.put o.dst v') w') : if Region.wanted o (yielded ops a.tmps) = true then Oper.wp P o a w K Q else EE := by
  rw [if_pos (wanted_none ops hgd)]
  exact wp_append1 ht s x ho hf hs hown hB hx y h1c hcell hlen h
theorem step_appendAll {EE : Prop} {T E : TypeId} {z : Value} {k bytes : Nat} (ht : ElemT P T E z k bytes) (hgd : o.guard = none) (s x : Operand) (ho : o.op = .call { callee := .builtin .append, args := #[s, x], argTypes := #[T, T] })
    {f : α → List Value} (hf : LenK k f) (h1c : ∀ y, ∀ u ∈ f y, u.oneCell' = true) {B : Nat} {v : Value} {xs : List α} (hs : a.eval s = v) (hown : Own E k f B w v xs) (hB : B ≤ w.heap.size) {xv : Value} {ys : List α} (hx : a.eval x = xv) (hat : SlAt k f w xv ys)
    (hlen : xs.length + ys.length ≤ maxLen ∧ (xs.length + ys.length) * bytes ≤ 140737488355328)
    (h : ∀ v' w', Own E k f B w' v' (xs ++ ys) → w.grownBy w' v.ownBlock → (v'.ownBlock = v.ownBlock ∨ v'.ownBlock = some w.heap.size) → Below B w w' → K (a.put o.dst v') w') : if Region.wanted o (yielded ops a.tmps) = true then Oper.wp P o a w K Q else EE := by
  rw [if_pos (wanted_none ops hgd)]
  exact wp_appendAll ht s x ho hf h1c hs hown hB hx hat hlen h
end
end Go.Proofs.Ytkkebpcclklmcaa
/-
  What the functions on the slots of a span return.
-/
set_option linter.unusedVariables false
set_option linter.unusedSimpArgs false
namespace Go.Proofs.Ytkkebpcclklmcaa
open Go.RowKit
theorem spanOk_parts' {p c b : Int} (h : spanOk p c b = true) : (0 ≤ p ∧ p ≤ 31) ∧ (0 ≤ c ∧ c ≤ 3) ∧ bitmapOk (slotsOf c) b = true := by
  simp only [spanOk, Bool.and_eq_true, between_iff] at h; exact ⟨h.1.1, h.1.2, h.2⟩
theorem NewInts.open {w w' : World} {xs : List Int} {e : Ending} (h : NewInts w xs e w') : ∃ ao cap, e = .returned (.slice ao xs.length cap) ∧ OwnI w.heap.size w' (.slice ao xs.length cap) xs ∧ Below w.heap.size w w' := by
  obtain ⟨v, rfl, hown, hb⟩ := h
  obtain ⟨ao, cap, rfl, _⟩ := hown.shape
  exact ⟨ao, cap, rfl, hown, hb⟩
def spanFull (p c b : Int) : Bool := spanOk p c b && ((freeSlots (slotsOf c) b).length : Int) == 0

def giveBits (p c b slot : Int) : Int := if spanOk p c b && hasSlot b slot then withoutSlot b slot else b

end Go.Proofs.Ytkkebpcclklmcaa
