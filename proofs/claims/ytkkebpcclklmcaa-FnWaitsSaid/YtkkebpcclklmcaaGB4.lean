/-
  Texts put together: Tail, Scal, Ints, IntLaw, Make.
-/
import Derived.Test.YtkkebpcclklmcaaGB1
import Derived.StillTail
import Derived.Test.YtkkebpcclklmcaaGB2
/-
  A region that draws its order, whose first n operations are quiet in a class of worlds (they read, or call what makes memory of its own), and whose tail (a store, an append, a call that hands back new memory) comes up in one order behind all of them.
  One walk in the order of the text serves every order: after the library's theorems on regions with a tail (one world) and on quiet regions (a class, no tail).
-/
set_option linter.unusedVariables false
set_option linter.unusedSimpArgs false
namespace Go.Proofs.Ytkkebpcclklmcaa
open Go.RowKit
section
variable {P : Program} {ops : Array Oper} {md : Region.Mode} {C : World → Prop}
/-- f operations of the head, in whatever order; then L. -/
def anyHead (P : Program) (md : Region.Mode) (ops : Array Oper) (C : World → Prop) (n : Nat) (L : Array Bool → Act → Prop) : Nat → Array Bool → Act → Prop
  | 0, listed, a => L listed a
  | f + 1, listed, a => Region.ready md ops listed ≠ [] ∧ ∀ i ∈ Region.ready md ops listed, i < n ∧ qOp P ops C i (anyHead P md ops C n L f (listed.setIfInBounds i true)) a
theorem any_of_head {n g : Nat} {L : Array Bool → Act → Prop} {Q' : Exit → Act → World → Prop} (hL : ∀ listed a w, C w → L listed a → wpAny P md ops Q' g listed a w) :
    ∀ (f : Nat) (listed : Array Bool) (a : Act) (w : World), C w → anyHead P md ops C n L f listed a → wpAny P md ops Q' (f + g) listed a w
  | 0, listed, a, w, hw, h => by rw [Nat.zero_add]; exact hL _ _ _ hw h
  | f + 1, listed, a, w, hw, h => by
    rw [show f + 1 + g = (f + g) + 1 by omega]
    exact ⟨fun h0 => absurd h0 h.1, fun i hi => wpOp_of_qOp hw (fun a' w' hw' h' => any_of_head hL f _ a' w' hw' h') (h.2 i hi).2⟩
theorem head_first {n i : Nat} {oi : Oper} {v : Value} {L : Array Bool → Act → Prop} (hi : ops[i]? = some oi) (hsel : ∀ (j : Nat) (o : Oper) cs b, ops[j]? = some o → o.op ≠ .select cs b)
    (hs : Region.sinkB md ops n = true) (hc : Region.chainB md ops n = true) (hn : n < ops.size) (hin : i < n) (hdone : ∀ listed a, L listed a → ∀ j ∈ Region.ready md ops listed, n ≤ j) :
    ∀ (f : Nat) (listed : Array Bool) (a : Act), HeadInv md ops n listed →
      (∀ j oj, ops[j]? = some oj → j ≠ i → listed.getD j true = false → (∀ e ∈ oj.after, Region.binds md e = true → e.on ≠ i) → oi.apart ops oj = true) →
      i ∈ Region.ready md ops listed → YieldsIn P ops C oi v a →
      anyHead P md ops C n L f (listed.setIfInBounds i true) (a.put oi.dst v) → anyHead P md ops C n L (f + 1) listed a := by
  intro f
  have below : ∀ (listed : Array Bool), HeadInv md ops n listed → listed.getD i true = false → ∀ j ∈ Region.ready md ops listed, j < n := by
    intro listed inv hun j hj
    rcases Nat.lt_or_ge j n with h | h
    · exact h
    · exact absurd hj (tail_waits hs hc hn inv _ i rfl hin hun j h)
  induction f with
  | zero =>
    intro listed a inv _ hr hy H
    refine ⟨fun h => (by rw [h] at hr; cases hr), fun j hj => ⟨below listed inv (mem_ready.1 hr).1 j hj, ?_⟩⟩
    by_cases hji : j = i
    · subst hji; exact hy.qOp hi H
    · have h1 := hdone _ _ H j (ready_mono hj hji)
      have h2 := below listed inv (mem_ready.1 hr).1 j hj
      omega
  | succ f ih =>
    intro listed a inv hfree hr hy H
    have hun := (mem_ready.1 hr).1
    refine ⟨fun h => (by rw [h] at hr; cases hr), fun j hj => ⟨below listed inv hun j hj, ?_⟩⟩
    by_cases hji : j = i
    · subst hji; exact hy.qOp hi H
    · have h1 := (H.2 j (ready_mono hj hji)).2
      obtain ⟨hjun, oj, hoj, hall⟩ := mem_ready.1 hj
      have hnot : ∀ e ∈ oj.after, Region.binds md e = true → e.on ≠ i := fun e he hb heq => by
        have h1 := hall e he hb
        rw [heq, getD_both hun] at h1
        cases h1
      have h2 := qOp_put hoj (hfree j oj hoj hji hjun hnot) (fun cs b => hsel i oi cs b hi) (fun cs b => hsel j oj cs b hoj) hy h1
      have hfree' : ∀ k ok, ops[k]? = some ok → k ≠ i → (listed.setIfInBounds j true).getD k true = false →
          (∀ e ∈ ok.after, Region.binds md e = true → e.on ≠ i) → oi.apart ops ok = true := fun k ok hk hki hun' hno => by
        refine hfree k ok hk hki ?_ hno
        by_cases hjk : j = k
        · subst hjk; exact hjun
        · rw [getD_set_ne true hjk] at hun'; exact hun'
      refine qOp_mono (fun a' h3 => ih (listed.setIfInBounds j true) a' (inv.set hj (below listed inv hun j hj)) hfree' (ready_mono hr (Ne.symm hji)) h3.1 ?_) h2
      rw [Array.setIfInBounds_comm _ _ hji]
      exact h3.2
theorem head_lex {n g : Nat} {Lq : Act → Prop} (hsel : Region.noSelect ops = true) (hs : Region.sinkB md ops n = true) (hc : Region.chainB md ops n = true) (hn : n < ops.size) :
    ∀ (l : List Oper) (k : Nat) (listed : Array Bool) (a : Act), (∀ j, j < l.length → l[j]? = ops[k + j]?) → k + l.length = n → HeadInv md ops n listed →
    Region.lexHead md ops g l.length k listed = true → wpQuiet P ops C Lq l a →
    anyHead P md ops C n (fun listed' a' => Region.seqB md ops g n listed' = true ∧ Lq a') l.length listed a
  | [], k, listed, a, _, hk, _, hB, h => by
    have : k = n := by simpa using hk
    subst this
    exact ⟨by simpa [Region.lexHead] using hB, h⟩
  | o :: l, k, listed, a, hl, hk, inv, hB, h => by
    have h0 : ops[k]? = some o := by simpa using (hl 0 (by simp)).symm
    simp only [List.length_cons, Region.lexHead, Bool.and_eq_true] at hB
    obtain ⟨⟨hr, hf⟩, hB'⟩ := hB
    have hkn : k < n := by simp only [List.length_cons] at hk; omega
    have hr' : k ∈ Region.ready md ops listed := by simpa using hr
    have hst : qOp P ops C k (wpQuiet P ops C Lq l) a := by unfold qOp; simp only [h0]; exact h
    obtain ⟨v, hy, hK⟩ := yieldsIn_of_qOp h0 hst
    exact head_first h0 (Region.noSelect_spec hsel) hs hc hn hkn (fun listed' a' hL => seqB_ready hL.1) l.length listed a inv (Region.free_spec h0 hf) hr' hy
      (head_lex hsel hs hc hn l (k + 1) _ _ (fun j hj => by have := hl (j + 1) (by simp; omega); simpa [Nat.add_assoc, Nat.add_comm 1 j] using this) (by simp only [List.length_cons] at hk; omega) (inv.set hr' hkn) hB' hK)
/-- **A quiet head, then the tail in its order.** -/
theorem wp_region_tail {id : Nat} {Q : Exit → Act → World → Prop} {a : Act} {w : World} {l : List Oper} (n : Nat) (hm : P.follows .mixedOrders = true) (hB : Region.lexTailB .any l.toArray n = true) (hC : C { w with drawn := w.drawn + 1 })
    (h : wpQuiet P l.toArray C (fun a' => ∀ w', C w' → wpList P l.toArray Q (l.drop n) a' w') (l.take n) a) : (Code.region id l.toArray true).wp P Q a w := by
  simp only [Region.lexTailB, Bool.and_eq_true, decide_eq_true_eq] at hB
  obtain ⟨⟨⟨⟨hsel, hn⟩, hs⟩, hc⟩, hlex⟩ := hB
  have hn' : n < l.length := by simpa using hn
  have htl : (l.take n).length = n := by simp; omega
  have hdl : (l.drop n).length = l.toArray.size - n := by simp
  have inv0 : HeadInv .any l.toArray n (Array.replicate l.toArray.size false) :=
    ⟨by simp, fun j oj _ hl => (by rw [getD_replicate_false] at hl; cases hl), fun t _ ht => getD_in (by simpa using ht) (getD_replicate_false _ _)⟩
  have H := head_lex (md := .any) (g := l.toArray.size - n) hsel hs hc hn (l.take n) 0 _ a (fun j hj => by
    have hj' : j < n := by rw [htl] at hj; exact hj
    simp [hj']) (by simpa using htl) inv0 (by rw [htl]; exact hlex) h
  refine wp_region_any hm ?_
  have := any_of_head (Q' := Q) (g := l.toArray.size - n) (fun listed a' w' hw' hL => by
    have := wpAny_of_seq (md := .any) (Q' := Q) (l.drop n) n listed a' w' (fun j => by simp [List.getElem?_drop]) (by rw [hdl]; exact hL.1) (hL.2 w' hw')
    rwa [hdl] at this) _ _ _ _ hC H
  rw [htl, show n + (l.toArray.size - n) = l.toArray.size by omega] at this
  exact this
/-- .. the class: the worlds that have grown out of w. -/
theorem wp_region_grew_tail {id : Nat} {Q : Exit → Act → World → Prop} {a : Act} {w : World} {l : List Oper} (n : Nat) (hm : P.follows .mixedOrders = true) (hB : Region.lexTailB .any l.toArray n = true)
    (h : wpQuiet P l.toArray (fun w' => ∃ g : Grew w, w' = g.to) (fun a' => ∀ w', (∃ g : Grew w, w' = g.to) → wpList P l.toArray Q (l.drop n) a' w') (l.take n) a) : (Code.region id l.toArray true).wp P Q a w :=
  wp_region_tail (C := fun w' => ∃ g : Grew w, w' = g.to) n hm hB ⟨⟨_, (Below.refl _ w).drew⟩, rfl⟩ h
/-- .. begun in a world that is a letter. -/
theorem wp_region_grew_tail2 {id : Nat} {Q : Exit → Act → World → Prop} {a : Act} {w : World} {l : List Oper} (n : Nat) (hm : P.follows .mixedOrders = true) (hB : Region.lexTailB .any l.toArray n = true)
    (h : ∀ w0, Below w.heap.size w w0 → wpQuiet P l.toArray (fun w' => ∃ g : Grew w0, w' = g.to) (fun a' => ∀ w', (∃ g : Grew w0, w' = g.to) → wpList P l.toArray Q (l.drop n) a' w') (l.take n) a) : (Code.region id l.toArray true).wp P Q a w :=
  wp_region_tail (C := fun w' => ∃ g : Grew w.drew, w' = g.to) n hm hB ⟨⟨_, Below.refl _ w.drew⟩, rfl⟩ (h w.drew (Below.refl _ w).drew)
end
end Go.Proofs.Ytkkebpcclklmcaa
/-
  What the small functions on numbers, classes and bitmaps return: one contract a function.
-/
set_option linter.unusedVariables false
set_option linter.unusedSimpArgs false
namespace Go.Proofs.Ytkkebpcclklmcaa
open Go.RowKit

theorem i_between (n lo hi : Int) (r : Bool) (hr : between n lo hi = r) (w : World) :
    Calls Try.prog 39 #[.int .i64 n, .int .i64 lo, .int .i64 hi] w fun e w' => e = .returned (.bool r) ∧ w = w' := by
  subst hr
  (have hall := all_nil w; go_enter Try.func39, Try.ntmps39)
  go_wp2
  all_goals (go_ret; refine ⟨?_, rfl⟩; (simp_all [between]))
  omega
theorem s_l01In (n lo hi : Int) (r : Bool) (hr : between n lo hi = r) (w : World) :
    Calls Try.prog 47 #[.int .i64 n, .int .i64 lo, .int .i64 hi] w fun e w' => e = .returned (.bool r) ∧ w = w' := by
  subst hr
  (have hall := all_nil w; go_enter Try.func47, Try.ntmps47)
  go_wp2
  all_goals (go_ret; refine ⟨?_, rfl⟩; (simp_all [between]))
  omega

theorem slotOk_iff {b i : Int} : slotOk b i = true ↔ 0 ≤ b ∧ 0 ≤ i ∧ i ≤ 15 := by simp [slotOk, between_iff]


end Go.Proofs.Ytkkebpcclklmcaa
/-
  Slices of ints of the call's own.
-/
set_option linter.unusedVariables false
set_option linter.unusedSimpArgs false
namespace Go.Proofs.Ytkkebpcclklmcaa
open Go.RowKit
theorem elemInt : ElemT Try.prog 33 3 (.int .i64 0) 1 8 := ⟨Try.underlying33, info_parts (by kernel_rfl), rfl, by decide⟩
def fInt (x : Int) : List Value := [.int .i64 x]
theorem lenInt : LenK 1 fInt := fun _ => rfl
theorem oneInt : ∀ y : Int, ∀ u ∈ fInt y, u.oneCell' = true := fun y u hu => by simp [fInt] at hu; subst hu; rfl
abbrev OwnI (B : Nat) (w : World) (v : Value) (xs : List Int) : Prop := Own 3 1 fInt B w v xs
theorem intCell (w : World) (x : Int) : ∀ j u, (fInt x)[j]? = some u → (w.alloc (.cells #[.int .i64 x] 3)).cell? ⟨w.heap.size, j, none⟩ = some u := by
  intro j u hj
  match j, hj with
  | 0, hj => simp [fInt] at hj; subst hj; go_simp
  | j + 1, hj => simp [fInt] at hj

theorem OwnI.readI {B : Nat} {w : World} {v : Value} {xs : List Int} (h : OwnI B w v xs) : ∃ ao cap, v = .slice ao xs.length cap ∧ xs.length ≤ cap ∧ cap ≤ maxLen ∧
    ∀ i, i < xs.length → ∃ g, ao = some ⟨g, 0, none⟩ ∧ B ≤ g ∧ g < w.heap.size ∧ (∀ o, w.frozen? ⟨g, o, none⟩ = false) ∧ w.cell? ⟨g, i, none⟩ = some (.int .i64 (xs.getD i 0)) := by
  obtain ⟨ao, cap, rfl, hc, hm, hr⟩ := h.read lenInt
  refine ⟨ao, cap, rfl, hc, hm, fun i hi => ?_⟩
  obtain ⟨g, rfl, hB, hg, hf, hcell⟩ := hr i hi
  refine ⟨g, rfl, hB, hg, hf, ?_⟩
  have := hcell 0 (by omega)
  simp only [Nat.mul_one, Nat.add_zero, fInt, List.getElem?_cons_zero] at this
  rw [this, List.getD_eq_getElem?_getD, List.getElem?_eq_getElem hi, Option.getD_some]
/-- What a call that hands back a slice of ints of its own leaves. -/
def NewInts (w : World) (xs : List Int) (e : Ending) (w' : World) : Prop := ∃ v, e = .returned v ∧ OwnI w.heap.size w' v xs ∧ Below w.heap.size w w'
def freeTo (b : Int) : Nat → List Int
  | 0 => []
  | k + 1 => freeTo b k ++ if hasSlot b k then [] else [(k : Int)]
theorem freeTo_le (b : Int) (k : Nat) : (freeTo b k).length ≤ k := by
  induction k with
  | zero => exact Nat.le_refl _
  | succ k ih => simp only [freeTo, List.length_append]; split <;> simp <;> omega
def freeSlots (n b : Int) : List Int := if bitmapOk n b then freeTo b n.toNat else []
end Go.Proofs.Ytkkebpcclklmcaa
/-
  The three functions of the laws on slices of ints: equal, marked, held.
-/
set_option linter.unusedVariables false
set_option linter.unusedSimpArgs false
namespace Go.Proofs.Ytkkebpcclklmcaa
open Go.RowKit
theorem flat_set {α : Type} {k : Nat} {f : α → List Value} (hk : k = 1) (hf : LenK k f) (u : Value) (y : α) (hy : f y = [u]) : ∀ (xs : List α) (j : Nat), (xs.flatMap f).set j u = (xs.set j y).flatMap f
  | [], j => by simp
  | x :: xs, j => by
    subst hk
    have hx := hf x
    match hfx : f x, hx with
    | [c], _ =>
      cases j with
      | zero => simp [hfx, hy]
      | succ j => simp only [List.flatMap_cons, hfx, List.singleton_append, List.set_cons_succ, List.set_cons_succ]; rw [flat_set rfl hf u y hy xs j]
/-- A store into a slice of one-cell elements. -/
theorem Own.set1 {α : Type} {E : Nat} {f : α → List Value} (hf : LenK 1 f) {B : Nat} {w : World} {v : Value} {xs : List α} {g n cap : Nat} (h : Own E 1 f B w v xs) (hv : v = .slice (some ⟨g, 0, none⟩) n cap) (j : Nat) (u : Value) (y : α) (hy : f y = [u]) :
    Own E 1 f B (w.setCell ⟨g, j, none⟩ u) v (xs.set j y) ∧ w.grownBy (w.setCell ⟨g, j, none⟩ u) v.ownBlock := by
  have hn : n = xs.length := by
    obtain ⟨ao, cap', he, _⟩ := h.shape
    rw [hv] at he; simp at he; exact he.2.1
  subst hv
  subst hn
  unfold Own at h
  obtain ⟨h1, h2⟩ := World.ownsRow.stored h j u
  refine ⟨?_, h2⟩
  unfold Own
  rw [List.length_set, ← flat_set rfl hf u y hy]
  exact h1
def marksI (k : Int) (n : Nat) : List Int := (List.range n).map fun (i : Nat) => k + (i : Int)
theorem marksI_len (k : Int) (n : Nat) : (marksI k n).length = n := by simp [marksI]
theorem marksI_get (k : Int) (n i : Nat) (h : i < n) : (marksI k n).getD i 0 = k + i := by
  rw [List.getD_eq_getElem?_getD, List.getElem?_eq_getElem (by rw [marksI_len]; exact h)]; simp [marksI]
def mixI (k : Int) (xs : List Int) (j : Nat) : List Int := marksI k j ++ xs.drop j
theorem mixI_len {k : Int} {xs : List Int} {j : Nat} (h : j ≤ xs.length) : (mixI k xs j).length = xs.length := by simp [mixI, marksI_len]; omega
theorem mixI_set {k : Int} {xs : List Int} {j : Nat} (h : j < xs.length) : (mixI k xs j).set j (k + j) = mixI k xs (j + 1) := by
  unfold mixI
  rw [List.set_append_right _ _ (by rw [marksI_len]; exact Nat.le_refl _), marksI_len, Nat.sub_self, List.drop_eq_getElem_cons h, List.set_cons_zero]
  simp [marksI, List.range_succ]
theorem mixI_full (k : Int) (xs : List Int) : mixI k xs xs.length = marksI k xs.length := by simp [mixI]
end Go.Proofs.Ytkkebpcclklmcaa
/-
  A slice that the call makes, and stores of whole elements into it.
-/
set_option linter.unusedVariables false
set_option linter.unusedSimpArgs false
namespace Go.Proofs.Ytkkebpcclklmcaa
open Go.RowKit
/-- 'make([]T, n)': n zero elements. -/
theorem replicate_flat {α : Type} {f : α → List Value} {z : Value} {x : α} (hz : f x = z.cells.toList) (k : Nat) (hk : z.cells.size = k) (hpos : 0 < k) (n : Nat) : (madeCells z.cells (n * k)).toList = (List.replicate n x).flatMap f := by
  have hl : (f x).length = k := by rw [hz]; simpa using hk
  apply List.ext_getElem?
  intro j
  by_cases hj : j < n * k
  · have h1 : ((List.replicate n x).flatMap f)[j]? = (f x)[j % k]? := by
      have hd : j / k < n := (Nat.div_lt_iff_lt_mul hpos).2 hj
      have hm : j % k < k := Nat.mod_lt _ hpos
      have hjj : j = j / k * k + j % k := by rw [Nat.mul_comm]; exact (Nat.div_add_mod j k).symm
      have hlk : ∀ n, ((List.replicate n x).flatMap f).length = n * k := fun n => by simp [hl]
      have : ∀ (n i m : Nat), i < n → m < k → ((List.replicate n x).flatMap f)[i * k + m]? = (f x)[m]? := by
        intro n
        induction n with
        | zero => intro i m h; omega
        | succ n ih =>
          intro i m hi hm
          rw [List.replicate_succ, List.flatMap_cons]
          cases i with
          | zero => rw [List.getElem?_append_left (by rw [hl]; omega)]; simp
          | succ i => rw [List.getElem?_append_right (by rw [hl, Nat.add_mul]; omega), hl, show (i + 1) * k + m - k = i * k + m by rw [Nat.add_mul]; omega]; exact ih i m (by omega) hm
      have h2 := this n (j / k) (j % k) hd hm
      rwa [← hjj] at h2
    rw [h1, hz]
    have hm := Nat.mod_lt j hpos
    simp [madeCells, hj, hk]
    rw [Array.getElem?_eq_getElem (by omega), getElem!_pos]
  · simp [madeCells, hj, hl]
    try omega
section
variable {P : Program} {ops : Array Oper} {rest : List Oper} {o : Oper} {a : Act} {Q : Exit → Act → World → Prop} {w : World}
theorem make1 {T E : TypeId} {z : Value} {k bytes : Nat} (ht : ElemT P T E z k bytes) (hgd : o.guard = none) (l c : Operand) (hop : o.op = Op.makeSlice T l c) {α : Type} {f : α → List Value} {x : α} (hz : f x = z.cells.toList)
    (kl kc : IntKind) (n : Nat) (hl : a.eval l = .int kl n) (hc : a.eval c = .int kc n) (b2 : bytes * n ≤ 281474976710656) (b3 : n ≤ maxLen)
    (h : ∀ v' w', v' = .slice (some ⟨w.heap.size, 0, none⟩) n n → Own E k f w.heap.size w' v' (List.replicate n x) → Below w.heap.size w w' → wpList P ops Q rest (a.put o.dst v') w') : wpList P ops Q (o :: rest) a w := by
  obtain ⟨i, hi, hz', hk, hby⟩ := ht.info
  refine wpList_make_full (P := P) w hgd l c T hop w.heap.size E i z k ht.und hi hz' hk kl kc n n n hl hc rfl rfl (by rw [hby]; exact b2) b3 (Nat.le_refl _) fun w' h2 h3 => ?_
  refine h _ w' rfl ?_ ((Below.refl _ _).grown h3 (Nat.le_refl _) (by simp))
  unfold Own
  rw [List.length_replicate, ← replicate_flat hz k ht.zc ht.pos]
  exact h2
end
def setRun (w : World) (g o : Nat) : List Value → World
  | [] => w
  | v :: vs => setRun (w.setCell ⟨g, o, none⟩ v) g (o + 1) vs
def setAll (xs : List Value) (o : Nat) : List Value → List Value
  | [] => xs
  | v :: vs => setAll (xs.set o v) (o + 1) vs
theorem setAll_len : ∀ (us xs : List Value) (o : Nat), (setAll xs o us).length = xs.length
  | [], xs, o => rfl
  | u :: us, xs, o => by rw [setAll, setAll_len us]; simp
theorem setAll_get : ∀ (us xs : List Value) (o : Nat) (m : Nat), o + us.length ≤ xs.length → (setAll xs o us)[m]? = if o ≤ m ∧ m < o + us.length then us[m - o]? else xs[m]?
  | [], xs, o, m, h => by rw [setAll, if_neg (by rw [List.length_nil]; omega)]
  | u :: us, xs, o, m, h => by
    simp only [List.length_cons] at h
    rw [setAll, setAll_get us _ _ _ (by simp; omega)]
    by_cases h1 : m = o
    · subst h1
      rw [if_neg (by omega), if_pos (by rw [List.length_cons]; omega)]
      rw [List.getElem?_set_self (by omega)]; simp
    · by_cases h2 : o + 1 ≤ m ∧ m < o + 1 + us.length
      · rw [if_pos h2, if_pos (by rw [List.length_cons]; omega), show m - o = (m - (o + 1)) + 1 by omega]; simp
      · rw [if_neg h2, if_neg (by rw [List.length_cons]; omega), List.getElem?_set_ne (by omega)]
theorem rowStored {base e size g n cap : Nat} : ∀ (us : List Value) (w : World) (xs : List Value) (o : Nat), w.ownsRow base e size (.slice (some ⟨g, 0, none⟩) n cap) n xs → (setRun w g o us).ownsRow base e size (.slice (some ⟨g, 0, none⟩) n cap) n (setAll xs o us) ∧ w.grownBy (setRun w g o us) (some g)
  | [], w, xs, o, h => ⟨h, grown_refl w _⟩
  | u :: us, w, xs, o, h => by
    obtain ⟨h1, h2⟩ := World.ownsRow.stored h o u
    obtain ⟨h3, h4⟩ := rowStored us _ _ (o + 1) h1
    exact ⟨h3, grown_trans h2 h4⟩
/-- A store of a whole element. -/
theorem Own.setk {α : Type} {E k : Nat} {f : α → List Value} (hf : LenK k f) {B : Nat} {w : World} {v : Value} {xs : List α} {g n cap : Nat} (h : Own E k f B w v xs) (hv : v = .slice (some ⟨g, 0, none⟩) n cap) (i : Nat) (hi : i < xs.length) (y : α) :
    Own E k f B (setRun w g (i * k) (f y)) v (xs.set i y) ∧ w.grownBy (setRun w g (i * k) (f y)) v.ownBlock := by
  have hn : n = xs.length := by
    obtain ⟨ao, cap', he, _⟩ := h.shape
    rw [hv] at he; simp at he; exact he.2.1
  subst hv
  subst hn
  unfold Own at h
  obtain ⟨h1, h2⟩ := rowStored (f y) w _ (i * k) h
  refine ⟨?_, h2⟩
  unfold Own
  rw [List.length_set]
  have he : setAll (xs.flatMap f) (i * k) (f y) = (xs.set i y).flatMap f := by
    have hle : (i + 1) * k ≤ xs.length * k := Nat.mul_le_mul_right _ hi
    rw [Nat.add_mul] at hle
    apply List.ext_getElem?
    intro m
    rw [setAll_get _ _ _ _ (by rw [flat_len hf, hf]; omega), hf]
    by_cases hm : m < xs.length * k
    · have hk : 0 < k := by
        rcases Nat.eq_zero_or_pos k with h0 | h0
        · subst h0; omega
        · exact h0
      have hd : m / k < xs.length := (Nat.div_lt_iff_lt_mul hk).2 hm
      have hr : m % k < k := Nat.mod_lt _ hk
      have hmm : m = m / k * k + m % k := by rw [Nat.mul_comm]; exact (Nat.div_add_mod m k).symm
      generalize m / k = q at *
      generalize m % k = r at *
      subst hmm
      rw [flat_get hf (xs.set i y) q r (by simpa using hd) hr, flat_get hf xs q r hd hr]
      by_cases hq : q = i
      · subst hq
        rw [if_pos (by omega)]
        simp
      · have : ¬ (i * k ≤ q * k + r ∧ q * k + r < i * k + k) := by
          rcases Nat.lt_or_gt_of_ne hq with h' | h'
          · have := Nat.mul_le_mul_right k (show q + 1 ≤ i by omega)
            rw [Nat.add_mul] at this
            omega
          · have := Nat.mul_le_mul_right k (show i + 1 ≤ q by omega)
            rw [Nat.add_mul] at this
            omega
        rw [if_neg this]
        rw [List.getElem_set_ne (by omega)]
    · rw [if_neg (by omega), List.getElem?_eq_none (by rw [flat_len hf]; omega), List.getElem?_eq_none (by rw [flat_len hf]; simp; omega)]
  rw [← he]
  exact h1
theorem mix_set {α : Type} {n j : Nat} (xs : List α) (z : α) (hn : n = xs.length) (hj : j < xs.length) : (xs.take j ++ List.replicate (n - j) z).set j xs[j] = xs.take (j + 1) ++ List.replicate (n - (j + 1)) z := by
  have hl : (xs.take j).length = j := by simp; omega
  rw [List.set_append_right _ _ (by omega), hl, Nat.sub_self, show n - j = (n - (j + 1)) + 1 by omega, List.replicate_succ, List.set_cons_zero, List.take_succ_eq_append_getElem hj, List.append_assoc]
  rfl
end Go.Proofs.Ytkkebpcclklmcaa
