/-
  Texts put together: Box, InvR.
-/
import Derived.Test.YtkkebpcclklmcaaGB5
import Derived.OrdersHeld
import Derived.RegionTactic
/-
  A box whose cells are known: any number of cells.
-/
set_option linter.unusedVariables false
set_option linter.unusedSimpArgs false
namespace Go.Proofs.Ytkkebpcclklmcaa
open Go.RowKit
structure BoxAt (w : World) (g : Nat) (cs : List Value) : Prop where
  lt : g < w.heap.size
  cells : ∀ i v, cs[i]? = some v → w.cell? ⟨g, i, none⟩ = some v ∧ w.frozen? ⟨g, i, none⟩ = false
theorem BoxAt.below {w w' : World} {g : Nat} {cs : List Value} (h : BoxAt w g cs) (hb : Below w.heap.size w w') : BoxAt w' g cs :=
  have hs := hb.size
  have hl := h.lt
  ⟨by omega, fun i v hi => ⟨(hb.cell (p := ⟨g, i, none⟩) hl).trans (h.cells i v hi).1, (hb.frozen (p := ⟨g, i, none⟩) hl).trans (h.cells i v hi).2⟩⟩
theorem BoxAt.touch {S : List Nat} {w w' : World} {g : Nat} {cs : List Value} (h : BoxAt w g cs) (ht : Touch S w w') (hg : g ∉ S) : BoxAt w' g cs :=
  have hs := ht.size
  have hl := h.lt
  ⟨by omega, fun i v hi => ⟨(ht.cell hl hg).trans (h.cells i v hi).1, (ht.frozen hl hg).trans (h.cells i v hi).2⟩⟩
theorem BoxAt.nil {w : World} {g : Nat} (h : g < w.heap.size) : BoxAt w g [] := ⟨h, fun i v hi => by simp at hi⟩
theorem BoxAt.snoc {w : World} {g : Nat} {cs : List Value} (h : BoxAt w g cs) {v : Value} {i : Nat} (hi : i = cs.length) (hc : w.cell? ⟨g, i, none⟩ = some v) (hf : w.frozen? ⟨g, i, none⟩ = false) : BoxAt w g (cs ++ [v]) := by
  refine ⟨h.lt, fun j u hj => ?_⟩
  rcases Nat.lt_trichotomy j cs.length with hlt | heq | hgt
  · rw [List.getElem?_append_left hlt] at hj; exact h.cells j u hj
  · subst heq; subst hi
    rw [List.getElem?_append_right (Nat.le_refl _)] at hj
    simp at hj
    subst hj
    exact ⟨hc, hf⟩
  · rw [List.getElem?_append_right (by omega)] at hj
    rw [List.getElem?_eq_none (by simp; omega)] at hj
    cases hj
end Go.Proofs.Ytkkebpcclklmcaa
/-
  A region that draws its order, by an invariant over the operations that are done: each operation's step is proved once.
-/
set_option linter.unusedVariables false
set_option linter.unusedSimpArgs false
namespace Go.Proofs.Ytkkebpcclklmcaa
section
variable {P : Program} {ops : Array Oper} {Q : Exit → Act → World → Prop} {md : Region.Mode}
theorem countP_lt {p q : Nat → Bool} {i : Nat} : ∀ {l : List Nat}, (∀ x ∈ l, q x = true → p x = true) → i ∈ l → p i = true → q i = false → l.countP q < l.countP p
  | [], _, hi, _, _ => by cases hi
  | x :: t, h, hi, hp, hq => by
    have ht : ∀ y ∈ t, q y = true → p y = true := fun y hy => h y (List.mem_cons_of_mem _ hy)
    rw [List.countP_cons, List.countP_cons]
    rcases List.mem_cons.1 hi with rfl | hi
    · have := List.countP_mono_left ht
      rw [hp, hq]; simp; omega
    · have := countP_lt ht hi hp hq
      have hx := h x (List.mem_cons_self ..)
      cases hqx : q x
      · cases p x <;> simp <;> omega
      · rw [hx hqx]; simp; omega
theorem ready_lt {listed : Array Bool} {i : Nat} (h : i ∈ Region.ready md ops listed) : i < ops.size ∧ listed.getD i true = false := by
  unfold Region.ready at h
  rw [List.mem_filter, List.mem_range, Bool.and_eq_true] at h
  exact ⟨h.1, by simpa using h.2.1⟩
theorem wpAny_of_inv (Inv : Array Bool → Act → World → Prop)
    (hs : ∀ listed a w, Inv listed a w → ∀ i, i ∈ Region.ready md ops listed → wpOp P ops Q i (fun a' w' => Inv (listed.setIfInBounds i true) a' w') a w)
    (hd : ∀ listed a w, Inv listed a w → Region.ready md ops listed = [] → Q .normal a w) :
    ∀ (fuel : Nat) (listed : Array Bool) (a : Act) (w : World), Inv listed a w → (List.range ops.size).countP (fun i => !listed.getD i true) ≤ fuel → wpAny P md ops Q fuel listed a w
  | 0, listed, a, w, hi, hc => by
    have hr : Region.ready md ops listed = [] := by
      rw [List.eq_nil_iff_forall_not_mem]
      intro i h
      have h2 := ready_lt h
      have : 0 < (List.range ops.size).countP (fun i => !listed.getD i true) := List.countP_pos_iff.2 ⟨i, List.mem_range.2 h2.1, by simp [h2.2]⟩
      omega
    exact ⟨hr, hd _ _ _ hi hr⟩
  | fuel + 1, listed, a, w, hi, hc => by
    refine ⟨fun hr => hd _ _ _ hi hr, fun i h => wpOp_mono (fun a' w' h' => wpAny_of_inv Inv hs hd fuel _ a' w' h' ?_) (hs _ _ _ hi i h)⟩
    have h2 := ready_lt h
    have hsz : i < listed.size := by
      rcases Nat.lt_or_ge i listed.size with h3 | h3
      · exact h3
      · have := h2.2; rw [Array.getD_eq_getD_getElem?, Array.getElem?_eq_none h3] at this; simp at this
    have := countP_lt (p := fun i => !listed.getD i true) (q := fun j => !(listed.setIfInBounds i true).getD j true) (i := i) (l := List.range ops.size) (fun x _ hx => by
      by_cases e : i = x
      · subst e; simp [Array.getD_eq_getD_getElem?, hsz] at hx
      · simpa [Array.getD_eq_getD_getElem?, Array.getElem?_setIfInBounds, e] using hx) (List.mem_range.2 h2.1) (by simp [h2.2]) (by simp [Array.getD_eq_getD_getElem?, hsz])
    omega
/-- The rule. -/
theorem wp_region_inv {id : Nat} {a : Act} {w : World} (hm : P.follows .mixedOrders = true) (Inv : Array Bool → Act → World → Prop)
    (h0 : Inv (Array.replicate ops.size false) a w.drew)
    (hs : ∀ listed a w, Inv listed a w → ∀ i, i ∈ Region.ready .any ops listed → wpOp P ops Q i (fun a' w' => Inv (listed.setIfInBounds i true) a' w') a w)
    (hd : ∀ listed a w, Inv listed a w → Region.ready .any ops listed = [] → Q .normal a w) : (Code.region id ops true).wp P Q a w :=
  wp_region_any hm (wpAny_of_inv Inv hs hd _ _ _ _ h0 (by
    have := List.countP_le_length (p := fun i => !(Array.replicate ops.size false).getD i true) (l := List.range ops.size)
    simpa using this))
/-- Does operation i wait for operation j? -/
def frWaits (md : Region.Mode) (ops : Array Oper) (i j : Nat) : Bool :=
  ((ops[i]?).map fun o => o.after.any fun e => Region.binds md e && e.on == j).getD false
/-- Every operation frWaits for earlier ones alone. -/
def frBackward (md : Region.Mode) (ops : Array Oper) : Bool :=
  (List.range ops.size).all fun i => ((ops[i]?).map fun o => o.after.all fun e => !Region.binds md e || decide (e.on < i)).getD true
theorem ready_waits {listed : Array Bool} {i : Nat} (h : i ∈ Region.ready md ops listed) (j : Nat) (hj : frWaits md ops i j = true) : listed.getD j false = true := by
  unfold Region.ready at h
  rw [List.mem_filter, List.mem_range, Bool.and_eq_true] at h
  have h2 := h.2.2
  unfold frWaits at hj
  cases ho : ops[i]? with
  | none => rw [ho] at hj; simp at hj
  | some o =>
    rw [ho] at hj h2
    simp only [Option.map_some, Option.getD_some, Array.any_eq_true, Array.all_eq_true] at hj h2
    obtain ⟨k, hk, hb⟩ := hj
    rw [Bool.and_eq_true, beq_iff_eq] at hb
    have := h2 k hk
    rw [hb.1, hb.2] at this
    simpa using this
theorem ready_nil {listed : Array Bool} (hb : frBackward md ops = true) (h : Region.ready md ops listed = []) : ∀ i, i < ops.size → listed.getD i true = true := by
  intro i
  induction i using Nat.strongRecOn with
  | _ i ih =>
    intro hi
    cases hl : listed.getD i true with
    | true => rfl
    | false =>
      exfalso
      have hmem : i ∈ Region.ready md ops listed := by
        unfold Region.ready
        rw [List.mem_filter, List.mem_range, Bool.and_eq_true]
        refine ⟨hi, by simp [hl], ?_⟩
        unfold frBackward at hb
        rw [List.all_eq_true] at hb
        have h1 := hb i (List.mem_range.2 hi)
        rw [Array.getElem?_eq_getElem hi] at h1 ⊢
        simp only [Option.map_some, Option.getD_some, Array.all_eq_true] at h1 ⊢
        intro k hk
        have h2 := h1 k hk
        cases hbk : Region.binds md ((ops[i]).after[k]) with
        | false => simp
        | true =>
          rw [hbk] at h2
          simp only [Bool.not_true, Bool.false_or, decide_eq_true_eq] at h2 ⊢
          have h3 := ih _ h2 (Nat.lt_trans h2 hi)
          have hsz : i < listed.size := by
            rcases Nat.lt_or_ge i listed.size with h4 | h4
            · exact h4
            · rw [Array.getD_eq_getD_getElem?, Array.getElem?_eq_none h4] at hl; simp at hl
          rw [Array.getD_eq_getD_getElem?, Array.getElem?_eq_getElem (Nat.lt_trans h2 hsz)] at h3 ⊢
          simpa using h3
      rw [h] at hmem; cases hmem
/-- The rule, of the operations that are done. -/
theorem wp_region_done {id : Nat} {a : Act} {w : World} (hm : P.follows .mixedOrders = true) (hb : frBackward .any ops = true) (Inv : (Nat → Prop) → Act → World → Prop)
    (h0 : Inv (fun _ => False) a w.drew)
    (hs : ∀ D a w, Inv D a w → (∀ i j, frWaits .any ops i j = true → D i → D j) → ∀ i, i < ops.size → ¬ D i → (∀ j, frWaits .any ops i j = true → D j) → wpOp P ops Q i (fun a' w' => Inv (fun j => j = i ∨ D j) a' w') a w)
    (hd : ∀ D a w, Inv D a w → (∀ i, i < ops.size → D i) → Q .normal a w) : (Code.region id ops true).wp P Q a w := by
  refine wp_region_inv hm (fun listed a w => listed.size = ops.size ∧ (∀ i j, frWaits .any ops i j = true → listed.getD i false = true → listed.getD j false = true) ∧ Inv (fun j => listed.getD j false = true) a w) ?_ ?_ ?_
  · refine ⟨by simp, fun i j _ h => ?_, ?_⟩
    · simp only [Array.getD_eq_getD_getElem?, Array.getElem?_replicate] at h
      split at h <;> simp at h
    · have e : (fun j => (Array.replicate ops.size false).getD j false = true) = fun _ => False := by
        funext j
        apply propext
        simp only [Array.getD_eq_getD_getElem?, Array.getElem?_replicate]
        split <;> simp
      rw [e]; exact h0
  · rintro listed a w ⟨hsz, hcl, hinv⟩ i hi
    have h2 := ready_lt hi
    have hil : i < listed.size := by omega
    have hni : ¬ listed.getD i false = true := by
      have := h2.2
      rw [Array.getD_eq_getD_getElem?, Array.getElem?_eq_getElem hil] at this ⊢
      simpa using this
    have e : (fun j => (listed.setIfInBounds i true).getD j false = true) = fun j => j = i ∨ listed.getD j false = true := by
      funext j
      apply propext
      by_cases hj : i = j
      · subst hj; simp [Array.getD_eq_getD_getElem?, hil]
      · simp only [Array.getD_eq_getD_getElem?, Array.getElem?_setIfInBounds, hj, if_false]
        exact ⟨.inr, fun h => h.resolve_left (fun e => hj e.symm)⟩
    refine wpOp_mono (fun a' w' h => ⟨by rw [Array.size_setIfInBounds]; exact hsz, ?_, by rw [e]; exact h⟩) (hs _ a w hinv hcl i h2.1 hni (fun j hj => ready_waits hi j hj))
    intro x y hxy hx
    have e1 := congrFun e x; have e2 := congrFun e y
    rw [e2]
    rw [e1] at hx
    rcases hx with rfl | hx
    · exact .inr (ready_waits hi y hxy)
    · exact .inr (hcl x y hxy hx)
  · rintro listed a w ⟨hsz, -, hinv⟩ hr
    refine hd _ a w hinv fun i hi => ?_
    have := ready_nil hb hr i hi
    rw [Array.getD_eq_getD_getElem?, Array.getElem?_eq_getElem (by omega)] at this ⊢
    simpa using this
/-! The frame: some slots hold what a function says, the others what they held. -/
def frTo (T : Array Value) (u : Nat → Value) : List Nat → Array Value
  | [] => T
  | d :: ds => (frTo T u ds).setIfInBounds d (u d)
def frAll (a0 : Act) (ds : List Nat) (u : Nat → Value) : Act := { a0 with tmps := frTo a0.tmps u ds }
def frUpd (u : Nat → Value) (d : Nat) (v : Value) : Nat → Value := fun s => if s = d then v else u s
theorem frTo_size (T : Array Value) (u : Nat → Value) : ∀ ds, (frTo T u ds).size = T.size
  | [] => rfl
  | d :: ds => by rw [frTo, Array.size_setIfInBounds, frTo_size T u ds]
theorem frTo_get (T : Array Value) (u : Nat → Value) (s : Nat) : ∀ ds, (frTo T u ds)[s]? = if s ∈ ds ∧ s < T.size then some (u s) else T[s]?
  | [] => by simp [frTo]
  | d :: ds => by
    rw [frTo, Array.getElem?_setIfInBounds, frTo_size, frTo_get T u s ds]
    by_cases e : d = s
    · subst e
      by_cases h : d < T.size
      · simp [h]
      · simp [h]
    · have : (s ∈ d :: ds) = (s ∈ ds) := by have e2 : ¬ s = d := fun x => e x.symm; simp [e2]
      simp only [e, if_false, this]
theorem frAll_eval {a0 : Act} {ds : List Nat} {u : Nat → Value} {t : Nat} (h : t ∈ ds) (hs : t < a0.tmps.size) : (frAll a0 ds u).tmps.getD t undef = u t := by
  unfold frAll
  rw [Array.getD_eq_getD_getElem?]
  dsimp only
  rw [frTo_get, if_pos ⟨h, hs⟩]; rfl
theorem frAll_other {a0 : Act} {ds : List Nat} {u : Nat → Value} {t : Nat} (h : t ∉ ds) : (frAll a0 ds u).tmps.getD t undef = a0.tmps.getD t undef := by
  unfold frAll
  rw [Array.getD_eq_getD_getElem?, Array.getD_eq_getD_getElem?]
  dsimp only
  rw [frTo_get, if_neg (fun h2 => h h2.1)]
theorem frAll_put {a0 : Act} {ds : List Nat} {u : Nat → Value} {d : Nat} (v : Value) (h : d ∈ ds) : (frAll a0 ds u).put (some d) v = frAll a0 ds (frUpd u d v) := by
  unfold frAll Act.put
  dsimp only
  congr 1
  apply Array.ext_getElem?
  intro s
  rw [Array.getElem?_setIfInBounds, frTo_size, frTo_get, frTo_get]
  by_cases e : d = s
  · subst e
    by_cases hs : d < a0.tmps.size
    · simp [hs, h, frUpd]
    · simp [hs]
  · have e2 : ¬ s = d := fun x => e x.symm
    simp [e, frUpd, e2]
theorem frAll_self (a0 : Act) (ds : List Nat) : frAll a0 ds (fun d => a0.tmps.getD d undef) = a0 := by
  unfold frAll
  have : frTo a0.tmps (fun d => a0.tmps.getD d undef) ds = a0.tmps := by
    apply Array.ext_getElem?
    intro s
    rw [frTo_get]
    split
    · rename_i h
      rw [Array.getElem?_eq_getElem h.2, Array.getD_eq_getD_getElem?, Array.getElem?_eq_getElem h.2]; rfl
    · rfl
  rw [this]
def addD (D : Nat → Prop) (i : Nat) : Nat → Prop := fun j => j = i ∨ D j
theorem addD_of {D : Nat → Prop} {i j : Nat} (h : addD D i j) (hne : j ≠ i) : D j := h.resolve_left hne
theorem addD_self {D : Nat → Prop} (i : Nat) : addD D i i := .inl rfl
theorem addD_mem {D : Nat → Prop} {i j : Nat} (h : D j) : addD D i j := .inr h
theorem frUpd_ne {u : Nat → Value} {d s : Nat} {v : Value} (h : s ≠ d) : frUpd u d v s = u s := if_neg h
theorem frUpd_self {u : Nat → Value} {d : Nat} {v : Value} : frUpd u d v d = v := if_pos rfl
/-! Facts of a frame that a step leaves as they were, or hands on: the numbers of operations that are done, that are not yet. -/
section
open Go.RowKit
variable {D : Nat → Prop} {i p q n : Nat} {X Y : Prop}
theorem k10 (h : Hid (D p → X)) (hp : p ≠ i := by decide) : Hid (addD D i p → X) := Lib.hid fun h0 => h.out (addD_of h0 hp)
theorem k20 (h : Hid (D p → D q → X)) (hp : p ≠ i := by decide) (hq : q ≠ i := by decide) : Hid (addD D i p → addD D i q → X) := Lib.hid fun h0 h1 => h.out (addD_of h0 hp) (addD_of h1 hq)
theorem k11 (h : Hid (D p → ¬ D n → X)) (hp : p ≠ i := by decide) : Hid (addD D i p → ¬ addD D i n → X) := Lib.hid fun h0 m0 => h.out (addD_of h0 hp) fun x => m0 (addD_mem x)
theorem m10 (f : X → Y) (h : Hid (D p → X)) (hp : p ≠ i := by decide) : Hid (addD D i p → Y) := Lib.hid fun h0 => f (h.out (addD_of h0 hp))
theorem m20 (f : X → Y) (h : Hid (D p → D q → X)) (hp : p ≠ i := by decide) (hq : q ≠ i := by decide) : Hid (addD D i p → addD D i q → Y) := Lib.hid fun h0 h1 => f (h.out (addD_of h0 hp) (addD_of h1 hq))
theorem m11 (f : X → Y) (h : Hid (D p → ¬ D n → X)) (hp : p ≠ i := by decide) : Hid (addD D i p → ¬ addD D i n → Y) := Lib.hid fun h0 m0 => f (h.out (addD_of h0 hp) fun x => m0 (addD_mem x))
theorem md10 (f : D p → X → Y) (h : Hid (D p → X)) (hp : p ≠ i := by decide) : Hid (addD D i p → Y) := Lib.hid fun h0 => f (addD_of h0 hp) (h.out (addD_of h0 hp))
theorem x11 : Hid (addD D i p → ¬ addD D i i → X) := Lib.hid fun _ m => absurd (addD_self i) m
theorem u10 {u : Nat → Value} {s d : Nat} {v x : Value} (h : Hid (D p → u s = v)) (hs : s ≠ d := by decide) (hp : p ≠ i := by decide) : Hid (addD D i p → frUpd u d x s = v) := Lib.hid fun h0 => (frUpd_ne hs).trans (h.out (addD_of h0 hp))
theorem lt_grow {a b c c' : Nat} (h : c ≤ c') (hx : a ≤ b ∧ b < c) : a ≤ b ∧ b < c' := ⟨hx.1, Nat.lt_of_lt_of_le hx.2 h⟩
end
theorem wp_gen {c : Code} {a : Act} {w : World} (h : ∀ a0, a0 = a → c.wp P Q a0 w) : c.wp P Q a w := h a rfl
theorem wpOp_lit {i : Nat} {K : Act → World → Prop} {a : Act} {w : World} (hi : i < ops.size) (h : ∀ o, ops[i]? = some o → ∀ K' : Act → World → Prop, (∀ a w, K a w → K' a w) → if Region.wanted o (yielded ops a.tmps) = true then Oper.wp P o a w K' Q else K' (a.put o.dst undef) w) : wpOp P ops Q i K a w :=
  wpOp_step (Array.getElem?_eq_getElem hi) (h _ (Array.getElem?_eq_getElem hi))
theorem wanted_nil (ops : Array Oper) {o : Oper} {a : Act} (hg : o.guard = none) : Region.wanted o (yielded ops a.tmps) = true := by simp [Region.wanted, hg]
/-- The rule, of a frame of which the region writes the slots ds. -/
theorem wp_region_frame {id : Nat} {a0 : Act} {w : World} (ds : List Nat) (Inv : (Nat → Prop) → (Nat → Value) → World → Prop) (hm : P.follows .mixedOrders = true) (hb : frBackward .any ops = true)
    (h0 : Inv (fun _ => False) (fun d => a0.tmps.getD d undef) w.drew)
    (hs : ∀ D u w, Inv D u w → (∀ i j, frWaits .any ops i j = true → D i → D j) → ∀ i, i < ops.size → ¬ D i → (∀ j, frWaits .any ops i j = true → D j) → wpOp P ops Q i (fun a' w' => ∃ u', a' = frAll a0 ds u' ∧ Inv (addD D i) u' w') (frAll a0 ds u) w)
    (hd : ∀ D u w, Inv D u w → (∀ i, i < ops.size → D i) → Q .normal (frAll a0 ds u) w) : (Code.region id ops true).wp P Q a0 w := by
  refine wp_region_done hm hb (fun D a w => ∃ u, a = frAll a0 ds u ∧ Inv D u w) ⟨_, (frAll_self a0 ds).symm, h0⟩ ?_ ?_
  · rintro D a w ⟨u, rfl, hi⟩ hcl i hlt hn hw
    exact hs D u w hi hcl i hlt hn hw
  · rintro D a w ⟨u, rfl, hi⟩ hall
    exact hd D u w hi hall
end
theorem touch_setC {S : List Nat} {w w' : World} {g i : Nat} {v : Value} (h : Touch S w w') (hg : g ∈ S) : Touch S w (w'.setCell ⟨g, i, none⟩ v) :=
  h.trans (grown_touch (r := some g) (grown_setCell (grown_refl w' _) _ _) (fun _ e => by cases e; exact hg))
theorem touch_bx {g : Nat} {w w' : World} {i : Nat} {v : Value} (h : Touch [g] w w') : Touch [g] w (w'.setCell ⟨g, i, none⟩ v) := touch_setC h (by simp)
end Go.Proofs.Ytkkebpcclklmcaa
