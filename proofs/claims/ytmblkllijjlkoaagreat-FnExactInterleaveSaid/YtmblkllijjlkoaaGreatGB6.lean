/-
  Texts put together: IntLaw, Make.
-/
import Derived.Test.YtmblkllijjlkoaaGreatGB5
import Derived.Test.YtmblkllijjlkoaaGreatGB2
/-
  The three functions of the laws on slices of ints: equal, marked, held.
-/
set_option linter.unusedVariables false
set_option linter.unusedSimpArgs false
namespace Go.Proofs.YtmblkllijjlkoaaGreat
open Go.RowKit
theorem flat_set {α : Type} {k : Nat} {f : α → List Value} (hk : k = 1) (hf : LenK k f) (u : Value) (y : α) (hy : f y = [u]) : ∀ (xs : List α) (j : Nat), (xs.flatMap f).set j u = (xs.set j y).flatMap f
  | [], j => by simp
  | x :: xs, j => by
    subst hk
    have hx := hf x
    match hfx : f x, hx with
    | [c], _ =>
      cases j with
      | zero => simp [hfx, hy]
      | succ j => simp only [List.flatMap_cons, hfx, List.singleton_append, List.set_cons_succ, List.set_cons_succ]; rw [flat_set rfl hf u y hy xs j]
/-- A store into a slice of one-cell elements. -/
theorem Own.set1 {α : Type} {E : Nat} {f : α → List Value} (hf : LenK 1 f) {B : Nat} {w : World} {v : Value} {xs : List α} {g n cap : Nat} (h : Own E 1 f B w v xs) (hv : v = .slice (some ⟨g, 0, none⟩) n cap) (j : Nat) (u : Value) (y : α) (hy : f y = [u]) :
    Own E 1 f B (w.setCell ⟨g, j, none⟩ u) v (xs.set j y) ∧ w.grownBy (w.setCell ⟨g, j, none⟩ u) v.ownBlock := by
  have hn : n = xs.length := by
    obtain ⟨ao, cap', he, _⟩ := h.shape
    rw [hv] at he; simp at he; exact he.2.1
  subst hv
  subst hn
  unfold Own at h
  obtain ⟨h1, h2⟩ := World.ownsRow.stored h j u
  refine ⟨?_, h2⟩
  unfold Own
  rw [List.length_set, ← flat_set rfl hf u y hy]
  exact h1
def marksI (k : Int) (n : Nat) : List Int := (List.range n).map fun (i : Nat) => k + (i : Int)
theorem marksI_len (k : Int) (n : Nat) : (marksI k n).length = n := by simp [marksI]
theorem marksI_get (k : Int) (n i : Nat) (h : i < n) : (marksI k n).getD i 0 = k + i := by
  rw [List.getD_eq_getElem?_getD, List.getElem?_eq_getElem (by rw [marksI_len]; exact h)]; simp [marksI]
def mixI (k : Int) (xs : List Int) (j : Nat) : List Int := marksI k j ++ xs.drop j
theorem mixI_len {k : Int} {xs : List Int} {j : Nat} (h : j ≤ xs.length) : (mixI k xs j).length = xs.length := by simp [mixI, marksI_len]; omega
theorem mixI_set {k : Int} {xs : List Int} {j : Nat} (h : j < xs.length) : (mixI k xs j).set j (k + j) = mixI k xs (j + 1) := by
  unfold mixI
  rw [List.set_append_right _ _ (by rw [marksI_len]; exact Nat.le_refl _), marksI_len, Nat.sub_self, List.drop_eq_getElem_cons h, List.set_cons_zero]
  simp [marksI, List.range_succ]
theorem mixI_full (k : Int) (xs : List Int) : mixI k xs xs.length = marksI k xs.length := by simp [mixI]
theorem l_eqIntS (B B' : Nat) (va vb : Value) (xs : List Int) (w : World) (ha : OwnI B w va xs) (hb : OwnI B' w vb xs) : Calls Tryz.prog 40 #[va, vb] w fun e w' => e = .returned (.bool true) ∧ Below w.heap.size w w' := by
  obtain ⟨ao, ca, rfl, _, hm, hra⟩ := ha.readI
  obtain ⟨bo, cb, rfl, _, _, hrb⟩ := hb.readI
  have hle : xs.length ≤ 9223372036854775807 := by unfold maxLen at hm; omega
  clear ha hb hm
  have HA := Lib.hid hra; have HB := Lib.hid hrb; clear hra hrb
  (have hall := all_nil w; go_enter Tryz.func40, Tryz.ntmps40)
  go_wp2_with (fail)
  go_loopw [5] (fun i wr => ∃ j : Nat, j ≤ xs.length ∧ i = .int .i64 j ∧ Below w.heap.size w wr) (fun i _ => xs.length - (intOf i).toNat)
  case atStart => exact ⟨0, Nat.zero_le _, rfl, Below.refl _ _⟩
  case round =>
    obtain ⟨j, hj, rfl, hbel⟩ := hrel
    have HL := Lib.hid hbel; have hsz := hbel.size; clear hbel
    by_cases hlt : j < xs.length
    · have hlt' : (j : Int) < xs.length := by omega
      obtain ⟨ga, rfl, _, hga, _, c1⟩ := HA.out j hlt
      obtain ⟨gb, rfl, _, hgb, _, c2⟩ := HB.out j hlt
      replace c1 := (HL.out.cell (p := ⟨ga, j, none⟩) hga).trans c1
      replace c2 := (HL.out.cell (p := ⟨gb, j, none⟩) hgb).trans c2
      generalize xs.getD j 0 = x at *
      (obtain ⟨w1, rfl⟩ : ∃ x, x = wr := ⟨_, rfl⟩; have hall : allLt [ga, gb] w1.heap.size := ⟨by omega, by omega, trivial⟩; have hx := hall; (try simp only [allLt, and_true] at hx))
      go_wp2_with ((with_reducible refine wp_region_grew2 (by kernel_rfl) (by kernel_rfl) ?_; intro w2 hb; ((have hn := nw0 hb hall (by exact zo))); obtain ⟨hc, hf, hn, hc0⟩ := hn; replace hall := hn; clear hn; have hz := hb.size; (try simp only [World.size_alloc, World.size_setCell, World.size_drew] at hz); have hx := hall; (try simp only [allLt, and_true] at hx); (try (have hO := HO.out; replace HO := Lib.hid (Own.below hO (w' := w2) (by exact bel)); clear hO)); obtain ⟨w1, rfl⟩ : ∃ x, x = w2 := ⟨_, rfl⟩; (repeat (go_big_quiet_step (fail))); refine wpQuiet_nil ?_; intro w2 hw'; have hb := grew_below hw'; clear hw'; ((have hn := nw0 hb hall (by exact zo))); obtain ⟨hc, hf, hn, hc0⟩ := hn; replace hall := hn; clear hn; have hz := hb.size; (try simp only [World.size_alloc, World.size_setCell, World.size_drew] at hz); have hx := hall; (try simp only [allLt, and_true] at hx); (try (have hO := HO.out; replace HO := Lib.hid (Own.below hO (w' := w2) (by exact bel)); clear hO)); obtain ⟨w1, rfl⟩ : ∃ x, x = w2 := ⟨_, rfl⟩))
      go_roundw
      case rel =>
        have hL := HL.out
        exact ⟨j + 1, by omega, by go_num, by exact bel⟩
      case measure => simp [intOf]; omega
    · have hlt' : ¬ (j : Int) < xs.length := by omega
      go_wp2_with (fail)
      go_ret
      exact ⟨rfl, HL.out⟩
theorem l_markIntS (B : Nat) (va : Value) (xs : List Int) (k : Int) (hk : 0 ≤ k ∧ k + xs.length ≤ 9223372036854775807) (w : World) (ha : OwnI B w va xs) : Calls Tryz.prog 42 #[va, .int .i64 k] w fun e w' => e = .returned (.int .i64 (k + xs.length)) ∧ OwnI B w' va (marksI k xs.length) ∧ w.grownBy w' va.ownBlock := by
  obtain ⟨ao, ca, hva, _, hm, hra⟩ := ha.readI
  have HV := Lib.hid hva
  have hle : xs.length ≤ 9223372036854775807 := by unfold maxLen at hm; omega
  have HA := Lib.hid ha; clear ha hm hra
  obtain ⟨n, hn⟩ : ∃ n, n = xs.length := ⟨_, rfl⟩
  have HN := Lib.hid hn
  rw [← hn] at hle hk hva ⊢
  clear hn
  subst hva
  (have hall := all_nil w; go_enter Tryz.func42, Tryz.ntmps42)
  go_wp2_with (fail)
  go_loopw [1, 5] (fun kk i wr => ∃ j : Nat, j ≤ n ∧ i = .int .i64 j ∧ kk = .int .i64 (k + j) ∧ OwnI B wr (.slice ao n ca) (mixI k xs j) ∧ w.grownBy wr (Value.slice ao n ca).ownBlock) (fun _ i _ => n - (intOf i).toNat)
  case atStart => exact ⟨0, Nat.zero_le _, rfl, by simp, by simpa [mixI, marksI] using HA.out, ⟨rfl, rfl, rfl, Nat.le_refl _, fun _ _ _ => rfl⟩⟩
  case round =>
    obtain ⟨j, hj, rfl, rfl, hown, hgr⟩ := hrel
    have HO := Lib.hid hown; have HG := Lib.hid hgr
    by_cases hlt : j < n
    · have hlt' : (j : Int) < n := by omega
      have hml := mixI_len (k := k) (xs := xs) (j := j) (by have := HN.out; omega)
      obtain ⟨ao', ca', he, _, _, hr⟩ := hown.readI
      obtain ⟨ga, hao, _, hga, hfz, c1⟩ := hr j (by rw [hml, ← HN.out]; exact hlt)
      simp only [Value.slice.injEq] at he
      obtain ⟨rfl, _, rfl⟩ := he
      subst hao
      have f1 := hfz j
      clear hr hfz hown hgr hml
      generalize (mixI k xs j).getD j 0 = x at *
      (obtain ⟨w1, rfl⟩ : ∃ x, x = wr := ⟨_, rfl⟩; have hall : allLt [ga] w1.heap.size := ⟨by omega, trivial⟩; have hx := hall; (try simp only [allLt, and_true] at hx))
      go_wp2_with (fail)
      go_roundw
      case rel =>
        have S := Own.set1 lenInt HO.out rfl j (.int .i64 (k + j)) (k + (j : Int)) rfl
        rw [mixI_set (by have := HN.out; omega)] at S
        exact ⟨j + 1, by omega, by go_num, by go_num, S.1, grown_trans HG.out S.2⟩
      case measure => simp [intOf]; omega
    · have hlt' : ¬ (j : Int) < n := by omega
      obtain rfl : j = n := by omega
      clear hown hgr
      go_wp2_with (fail)
      go_ret
      exact ⟨rfl, by rw [HN.out]; rw [← mixI_full]; rw [← HN.out]; exact HO.out, HG.out⟩
theorem l_heldIntS (B : Nat) (va : Value) (n : Nat) (k : Int) (hk : 0 ≤ k ∧ k + n ≤ 9223372036854775807) (w : World) (ha : OwnI B w va (marksI k n)) : Calls Tryz.prog 62 #[va, .int .i64 k] w fun e w' => e = .returned (.int .i64 (k + n)) ∧ Below w.heap.size w w' := by
  obtain ⟨ao, ca, rfl, _, hm, hra⟩ := ha.readI
  rw [marksI_len] at *
  have hle : n ≤ 9223372036854775807 := by unfold maxLen at hm; omega
  clear ha hm
  have HA := Lib.hid hra; clear hra
  (have hall := all_nil w; go_enter Tryz.func62, Tryz.ntmps62)
  go_wp2_with (fail)
  go_loopw [1, 5] (fun kk i wr => ∃ j : Nat, j ≤ n ∧ i = .int .i64 j ∧ kk = .int .i64 (k + j) ∧ Below w.heap.size w wr) (fun _ i _ => n - (intOf i).toNat)
  case atStart => exact ⟨0, Nat.zero_le _, rfl, by simp, Below.refl _ _⟩
  case round =>
    obtain ⟨j, hj, rfl, rfl, hbel⟩ := hrel
    have HL := Lib.hid hbel; have hsz := hbel.size; clear hbel
    by_cases hlt : j < n
    · have hlt' : (j : Int) < n := by omega
      obtain ⟨ga, rfl, _, hga, _, c1⟩ := HA.out j hlt
      rw [marksI_get k n j hlt] at c1
      replace c1 := (HL.out.cell (p := ⟨ga, j, none⟩) hga).trans c1
      (obtain ⟨w1, rfl⟩ : ∃ x, x = wr := ⟨_, rfl⟩; have hall : allLt [ga] w1.heap.size := ⟨by omega, trivial⟩; have hx := hall; (try simp only [allLt, and_true] at hx))
      go_wp2_with (fail)
      go_roundw
      case rel =>
        have hL := HL.out
        exact ⟨j + 1, by omega, by go_num, by go_num, by exact bel⟩
      case measure => simp [intOf]; omega
    · have hlt' : ¬ (j : Int) < n := by omega
      obtain rfl : j = n := by omega
      go_wp2_with (fail)
      go_ret
      exact ⟨rfl, HL.out⟩
end Go.Proofs.YtmblkllijjlkoaaGreat
/-
  A slice that the call makes, and stores of whole elements into it.
-/
set_option linter.unusedVariables false
set_option linter.unusedSimpArgs false
namespace Go.Proofs.YtmblkllijjlkoaaGreat
open Go.RowKit
/-- 'make([]T, n)': n zero elements. -/
theorem replicate_flat {α : Type} {f : α → List Value} {z : Value} {x : α} (hz : f x = z.cells.toList) (k : Nat) (hk : z.cells.size = k) (hpos : 0 < k) (n : Nat) : (madeCells z.cells (n * k)).toList = (List.replicate n x).flatMap f := by
  have hl : (f x).length = k := by rw [hz]; simpa using hk
  apply List.ext_getElem?
  intro j
  by_cases hj : j < n * k
  · have h1 : ((List.replicate n x).flatMap f)[j]? = (f x)[j % k]? := by
      have hd : j / k < n := (Nat.div_lt_iff_lt_mul hpos).2 hj
      have hm : j % k < k := Nat.mod_lt _ hpos
      have hjj : j = j / k * k + j % k := by rw [Nat.mul_comm]; exact (Nat.div_add_mod j k).symm
      have hlk : ∀ n, ((List.replicate n x).flatMap f).length = n * k := fun n => by simp [hl]
      have : ∀ (n i m : Nat), i < n → m < k → ((List.replicate n x).flatMap f)[i * k + m]? = (f x)[m]? := by
        intro n
        induction n with
        | zero => intro i m h; omega
        | succ n ih =>
          intro i m hi hm
          rw [List.replicate_succ, List.flatMap_cons]
          cases i with
          | zero => rw [List.getElem?_append_left (by rw [hl]; omega)]; simp
          | succ i => rw [List.getElem?_append_right (by rw [hl, Nat.add_mul]; omega), hl, show (i + 1) * k + m - k = i * k + m by rw [Nat.add_mul]; omega]; exact ih i m (by omega) hm
      have h2 := this n (j / k) (j % k) hd hm
      rwa [← hjj] at h2
    rw [h1, hz]
    have hm := Nat.mod_lt j hpos
    simp [madeCells, hj, hk]
    rw [Array.getElem?_eq_getElem (by omega), getElem!_pos]
  · simp [madeCells, hj, hl]
    try omega
section
variable {P : Program} {ops : Array Oper} {rest : List Oper} {o : Oper} {a : Act} {Q : Exit → Act → World → Prop} {w : World}
theorem make1 {T E : TypeId} {z : Value} {k bytes : Nat} (ht : ElemT P T E z k bytes) (hgd : o.guard = none) (l c : Operand) (hop : o.op = Op.makeSlice T l c) {α : Type} {f : α → List Value} {x : α} (hz : f x = z.cells.toList)
    (kl kc : IntKind) (n : Nat) (hl : a.eval l = .int kl n) (hc : a.eval c = .int kc n) (b2 : bytes * n ≤ 281474976710656) (b3 : n ≤ maxLen)
    (h : ∀ v' w', v' = .slice (some ⟨w.heap.size, 0, none⟩) n n → Own E k f w.heap.size w' v' (List.replicate n x) → Below w.heap.size w w' → wpList P ops Q rest (a.put o.dst v') w') : wpList P ops Q (o :: rest) a w := by
  obtain ⟨i, hi, hz', hk, hby⟩ := ht.info
  refine wpList_make_full (P := P) w hgd l c T hop w.heap.size E i z k ht.und hi hz' hk kl kc n n n hl hc rfl rfl (by rw [hby]; exact b2) b3 (Nat.le_refl _) fun w' h2 h3 => ?_
  refine h _ w' rfl ?_ ((Below.refl _ _).grown h3 (Nat.le_refl _) (by simp))
  unfold Own
  rw [List.length_replicate, ← replicate_flat hz k ht.zc ht.pos]
  exact h2
end
def setRun (w : World) (g o : Nat) : List Value → World
  | [] => w
  | v :: vs => setRun (w.setCell ⟨g, o, none⟩ v) g (o + 1) vs
def setAll (xs : List Value) (o : Nat) : List Value → List Value
  | [] => xs
  | v :: vs => setAll (xs.set o v) (o + 1) vs
theorem setAll_len : ∀ (us xs : List Value) (o : Nat), (setAll xs o us).length = xs.length
  | [], xs, o => rfl
  | u :: us, xs, o => by rw [setAll, setAll_len us]; simp
theorem setAll_get : ∀ (us xs : List Value) (o : Nat) (m : Nat), o + us.length ≤ xs.length → (setAll xs o us)[m]? = if o ≤ m ∧ m < o + us.length then us[m - o]? else xs[m]?
  | [], xs, o, m, h => by rw [setAll, if_neg (by rw [List.length_nil]; omega)]
  | u :: us, xs, o, m, h => by
    simp only [List.length_cons] at h
    rw [setAll, setAll_get us _ _ _ (by simp; omega)]
    by_cases h1 : m = o
    · subst h1
      rw [if_neg (by omega), if_pos (by rw [List.length_cons]; omega)]
      rw [List.getElem?_set_self (by omega)]; simp
    · by_cases h2 : o + 1 ≤ m ∧ m < o + 1 + us.length
      · rw [if_pos h2, if_pos (by rw [List.length_cons]; omega), show m - o = (m - (o + 1)) + 1 by omega]; simp
      · rw [if_neg h2, if_neg (by rw [List.length_cons]; omega), List.getElem?_set_ne (by omega)]
theorem rowStored {base e size g n cap : Nat} : ∀ (us : List Value) (w : World) (xs : List Value) (o : Nat), w.ownsRow base e size (.slice (some ⟨g, 0, none⟩) n cap) n xs → (setRun w g o us).ownsRow base e size (.slice (some ⟨g, 0, none⟩) n cap) n (setAll xs o us) ∧ w.grownBy (setRun w g o us) (some g)
  | [], w, xs, o, h => ⟨h, grown_refl w _⟩
  | u :: us, w, xs, o, h => by
    obtain ⟨h1, h2⟩ := World.ownsRow.stored h o u
    obtain ⟨h3, h4⟩ := rowStored us _ _ (o + 1) h1
    exact ⟨h3, grown_trans h2 h4⟩
/-- A store of a whole element. -/
theorem Own.setk {α : Type} {E k : Nat} {f : α → List Value} (hf : LenK k f) {B : Nat} {w : World} {v : Value} {xs : List α} {g n cap : Nat} (h : Own E k f B w v xs) (hv : v = .slice (some ⟨g, 0, none⟩) n cap) (i : Nat) (hi : i < xs.length) (y : α) :
    Own E k f B (setRun w g (i * k) (f y)) v (xs.set i y) ∧ w.grownBy (setRun w g (i * k) (f y)) v.ownBlock := by
  have hn : n = xs.length := by
    obtain ⟨ao, cap', he, _⟩ := h.shape
    rw [hv] at he; simp at he; exact he.2.1
  subst hv
  subst hn
  unfold Own at h
  obtain ⟨h1, h2⟩ := rowStored (f y) w _ (i * k) h
  refine ⟨?_, h2⟩
  unfold Own
  rw [List.length_set]
  have he : setAll (xs.flatMap f) (i * k) (f y) = (xs.set i y).flatMap f := by
    have hle : (i + 1) * k ≤ xs.length * k := Nat.mul_le_mul_right _ hi
    rw [Nat.add_mul] at hle
    apply List.ext_getElem?
    intro m
    rw [setAll_get _ _ _ _ (by rw [flat_len hf, hf]; omega), hf]
    by_cases hm : m < xs.length * k
    · have hk : 0 < k := by
        rcases Nat.eq_zero_or_pos k with h0 | h0
        · subst h0; omega
        · exact h0
      have hd : m / k < xs.length := (Nat.div_lt_iff_lt_mul hk).2 hm
      have hr : m % k < k := Nat.mod_lt _ hk
      have hmm : m = m / k * k + m % k := by rw [Nat.mul_comm]; exact (Nat.div_add_mod m k).symm
      generalize m / k = q at *
      generalize m % k = r at *
      subst hmm
      rw [flat_get hf (xs.set i y) q r (by simpa using hd) hr, flat_get hf xs q r hd hr]
      by_cases hq : q = i
      · subst hq
        rw [if_pos (by omega)]
        simp
      · have : ¬ (i * k ≤ q * k + r ∧ q * k + r < i * k + k) := by
          rcases Nat.lt_or_gt_of_ne hq with h' | h'
          · have := Nat.mul_le_mul_right k (show q + 1 ≤ i by omega)
            rw [Nat.add_mul] at this
            omega
          · have := Nat.mul_le_mul_right k (show i + 1 ≤ q by omega)
            rw [Nat.add_mul] at this
            omega
        rw [if_neg this]
        rw [List.getElem_set_ne (by omega)]
    · rw [if_neg (by omega), List.getElem?_eq_none (by rw [flat_len hf]; omega), List.getElem?_eq_none (by rw [flat_len hf]; simp; omega)]
  rw [← he]
  exact h1
theorem mix_set {α : Type} {n j : Nat} (xs : List α) (z : α) (hn : n = xs.length) (hj : j < xs.length) : (xs.take j ++ List.replicate (n - j) z).set j xs[j] = xs.take (j + 1) ++ List.replicate (n - (j + 1)) z := by
  have hl : (xs.take j).length = j := by simp; omega
  rw [List.set_append_right _ _ (by omega), hl, Nat.sub_self, show n - j = (n - (j + 1)) + 1 by omega, List.replicate_succ, List.set_cons_zero, List.take_succ_eq_append_getElem hj, List.append_assoc]
  rfl
end Go.Proofs.YtmblkllijjlkoaaGreat
