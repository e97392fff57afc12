/-
  Texts put together: FrameS, Group, FamC, LateP, Bits, FreeLaw, FreeDraw.
-/
import Derived.Test.YtobechjagckdfaaGLT14
import Derived.Test.YtobechjagckdfaaGLT2
import Derived.Deep.Slices
import Derived.Deep.Fields
import Derived.Test.YtobechjagckdfaaGLT10
import Derived.Test.YtobechjagckdfaaGLT11
import Derived.Test.YtobechjagckdfaaGLT13
/-
  Arguments of the laws that are slices: what can be read of them.
-/
set_option linter.unusedVariables false
set_option linter.unusedSimpArgs false
namespace Go.Proofs.Ytobechjagckdfaa
open Go.ChangeShapes Go.WideShapes Go.ChangeAt Go.RowKit Go.Deep
theorem addr_plain (a : Addr) (w : World) (v : Value) (h : w.cell? a = some v) : ∃ b o, a = ⟨b, o, none⟩ ∧ b < w.heap.size := by
  obtain ⟨b, o, s⟩ := a
  cases s with
  | none => exact ⟨b, o, rfl, World.block_lt_of_cell? w ⟨b, o, none⟩ h⟩
  | some s =>
    exfalso
    unfold World.cell? at h
    split at h
    · simp at h
    · simp at h
theorem addr_add (b o i : Nat) : (⟨b, o, none⟩ : Addr).add i = ⟨b, o + i, none⟩ := by unfold Addr.add; split <;> simp_all
section
variable {H : Type} {enc : TypeId × Value → H} {P : Program} {W : World} {base : Nat} {t e : TypeId} {v : Value} {d : DataW H} {p : List MemPlace}
/-- A slice of structs of one-cell fields. -/
theorem structs_open {fs : Array Field} (ht : P.underlying t = some (.slice e)) (he : P.underlying e = some (.struct fs)) (hone : oneCellFields P fs = true) (hC : P.cellsOf e = fs.size) (hpos : 0 < fs.size)
    (hok : Value.okWide P W .any base t v) (h : DataW.Trod enc P W 0 (fun _ => true) true t v d p) :
    ∃ ao n cap, v = .slice ao n cap ∧ n ≤ cap ∧ cap ≤ maxLen ∧ ∀ i, i < n → ∃ b o, ao = some ⟨b, o, none⟩ ∧ b < W.heap.size ∧
      ∀ j f, fs[j]? = some f → ∃ u m y, W.cell? ⟨b, o + (i * fs.size + j), none⟩ = some u ∧ DataW.trod enc P W 0 (fun _ => true) true m f.type [u] = some y := by
  obtain ⟨ao, len, cap, rfl⟩ := okWide_slice ht hok
  obtain ⟨fuel, hf⟩ := h
  rcases open_slice ht hf with ⟨hcs, _⟩ | ⟨a, len', cap', m, n, D, Pl, hcs, hb, hl, hm, hmm, _, hi⟩
  · simp only [Value.cells, List.cons.injEq, Value.slice.injEq, and_true] at hcs
    obtain ⟨rfl, rfl, rfl⟩ := hcs
    exact ⟨none, 0, 0, rfl, Nat.le_refl _, Nat.zero_le _, fun i hi => by omega⟩
  · simp only [Value.cells, List.cons.injEq, Value.slice.injEq, and_true] at hcs
    obtain ⟨rfl, rfl, rfl⟩ := hcs
    simp only [if_true] at hmm
    refine ⟨some a, len, cap, rfl, hl, hm, fun i hlt => ?_⟩
    have cellAt : ∀ i, i < len → ∀ j f, fs[j]? = some f → ∃ u m y, W.cell? (a.add (i * fs.size + j)) = some u ∧ DataW.trod enc P W 0 (fun _ => true) true m f.type [u] = some y := by
      intro i hlt j f hj
      obtain ⟨cs', hc, ht'⟩ := hi i (by omega)
      rw [hC] at hc
      obtain ⟨ys, n', _, _, _, hyl, hg⟩ := DataW.trod_struct he ht'
      obtain ⟨_, hcl, hat⟩ := World.cells?_some hc
      have hjl : j < fs.size := (Array.getElem?_eq_some_iff.1 hj).1
      obtain ⟨ho, hk⟩ := hone_of hone j f hj
      have h1 := hg j f hj
      rw [ho, hk, List.drop_eq_getElem_cons (by omega)] at h1
      have hys : ys[j]? = some (ys[j]'(by omega)) := List.getElem?_eq_getElem (by omega)
      refine ⟨cs'[j]'(by omega), n', _, ?_, h1.trans hys⟩
      have := hat j hjl
      rw [add_add] at this
      rw [this]
      exact List.getElem?_eq_getElem (by omega)
    have hf0 : fs[0]? = some fs[0] := Array.getElem?_eq_getElem hpos
    obtain ⟨u0, _, _, h0, _⟩ := cellAt 0 (by omega) 0 _ hf0
    rw [Nat.zero_mul] at h0
    obtain ⟨b, o, rfl, hbW⟩ := addr_plain a W _ h0
    refine ⟨b, o, rfl, hbW, fun j f hj => ?_⟩
    obtain ⟨u, m', y, hc, hy⟩ := cellAt i hlt j f hj
    rw [addr_add] at hc
    exact ⟨u, m', y, hc, hy⟩
end
end Go.Proofs.Ytobechjagckdfaa
/-
  Functions on lists of spans: pairs that can be meshed, groups.
-/
set_option linter.unusedVariables false
set_option linter.unusedSimpArgs false
namespace Go.Proofs.Ytobechjagckdfaa
open Go.RowKit
def meshS (a b : Sp) : Bool := meshable a.p a.c a.b b.p b.c b.b
theorem bits_and_comm (x y : Int) : bits .and .i64 x y = bits .and .i64 y x := by unfold bits; simp [BitVec.and_comm]
theorem meshS_comm (a b : Sp) : meshS a b = meshS b a := by
  unfold meshS meshable
  rw [bits_and_comm, Bool.beq_comm (a := a.c), show (a.p != b.p) = (b.p != a.p) by simp [bne, Bool.beq_comm]]
  cases spanOk a.p a.c a.b <;> cases spanOk b.p b.c b.b <;> simp
/-- The k spans ahead of span i can be meshed with it. -/
def gRow (xs : List Sp) (i : Nat) : Nat → Bool
  | 0 => true
  | k + 1 => gRow xs i k && meshS (xs.getD k default) (xs.getD i default)
def gTo (xs : List Sp) : Nat → Bool
  | 0 => true
  | i + 1 => gTo xs i && gRow xs i i
def groupOk (xs : List Sp) : Bool := gTo xs xs.length && (decide (0 < (xs.length : Int)) && spanOk (xs.getD 0 default).p (xs.getD 0 default).c (xs.getD 0 default).b)
theorem gRow_false {xs : List Sp} {i k m : Nat} (hk : k ≤ m) (h : gRow xs i k = false) : gRow xs i m = false := by
  induction hk with
  | refl => exact h
  | step _ ih => simp [gRow, ih]
theorem gTo_false {xs : List Sp} {k m : Nat} (hk : k ≤ m) (h : gTo xs k = false) : gTo xs m = false := by
  induction hk with
  | refl => exact h
  | step _ ih => simp [gTo, ih]
theorem groupOk_not {xs : List Sp} {i k : Nat} (hk : k < i) (hi : i < xs.length) (h : meshS (xs.getD k default) (xs.getD i default) = false) : groupOk xs = false := by
  have h1 : gRow xs i (k + 1) = false := by rw [gRow, h, Bool.and_false]
  have h2 := gRow_false (m := i) (by omega) h1
  have h3 : gTo xs (i + 1) = false := by simp [gTo, h2]
  have h4 := gTo_false (m := xs.length) (by omega) h3
  simp [groupOk, h4]
/-- How many of the k spans ahead of span i can be meshed with it. -/
def eRow (xs : List Sp) (i : Nat) : Nat → Int
  | 0 => 0
  | k + 1 => eRow xs i k + if meshS (xs.getD k default) (xs.getD i default) then 1 else 0
def eTo (xs : List Sp) : Nat → Int
  | 0 => 0
  | i + 1 => eTo xs i + eRow xs i i
theorem eRow_le (xs : List Sp) (i : Nat) : ∀ k, 0 ≤ eRow xs i k ∧ eRow xs i k ≤ k
  | 0 => ⟨Int.le_refl _, Int.le_refl _⟩
  | k + 1 => by have := eRow_le xs i k; simp only [eRow]; split <;> omega
theorem eTo_le (xs : List Sp) : ∀ k, k ≤ 1048576 → 0 ≤ eTo xs k ∧ eTo xs k ≤ k * 1048576
  | 0, _ => ⟨Int.le_refl _, Int.le_refl _⟩
  | k + 1, h => by have := eTo_le xs k (by omega); have := eRow_le xs k k; simp only [eTo]; omega
end Go.Proofs.Ytobechjagckdfaa
/-
  The laws' functions on slices of writers, of waiting frees, of pairs, of spans.
-/
set_option linter.unusedVariables false
set_option linter.unusedSimpArgs false
namespace Go.Proofs.Ytobechjagckdfaa
open Go.ChangeShapes Go.WideShapes Go.ChangeAt Go.RowKit Go.Deep
theorem list_of' {α : Type} (R : Nat → α → Prop) : ∀ n, (∀ i, i < n → ∃ x, R i x) → ∃ xs : List α, xs.length = n ∧ ∀ i x, xs[i]? = some x → R i x
  | 0, _ => ⟨[], rfl, fun i x hi => by simp at hi⟩
  | n + 1, h => by
    obtain ⟨xs, hl, hx⟩ := list_of' R n (fun i hi => h i (by omega))
    obtain ⟨x, hr⟩ := h n (by omega)
    refine ⟨xs ++ [x], by simp [hl], fun i y hi => ?_⟩
    rcases Nat.lt_or_ge i n with h1 | h1
    · rw [List.getElem?_append_left (by omega)] at hi; exact hx i y hi
    · have := getx_lt hi
      simp at this
      obtain rfl : i = n := by omega
      rw [List.getElem?_append_right (by omega)] at hi
      simp [hl] at hi
      subst hi; exact hr
structure Lt where
  ix : Int
  sl : Int
deriving DecidableEq, Inhabited
def Lt.val (x : Lt) : Value := .agg #[.int .i64 x.ix, .int .i64 x.sl]
def fLt (x : Lt) : List Value := [.int .i64 x.ix, .int .i64 x.sl]
theorem elemLt : ElemT Try.prog 39 43 (.agg #[.int .i64 0, .int .i64 0]) 2 16 := ⟨Try.underlying39, info_parts (by kernel_rfl), rfl, by decide⟩
theorem lenLt : LenK 2 fLt := fun _ => rfl
theorem oneLt : ∀ y : Lt, ∀ u ∈ fLt y, u.oneCell' = true := fun y u hu => by simp [fLt] at hu; rcases hu with rfl | rfl <;> rfl
abbrev OwnLt (B : Nat) (w : World) (v : Value) (xs : List Lt) : Prop := Own 43 2 fLt B w v xs
theorem zeroLt : fLt ⟨0, 0⟩ = (Value.agg #[.int .i64 0, .int .i64 0]).cells.toList := by first | rfl | kernel_rfl | simp [fLt, Value.cells]
abbrev LtAt (w : World) (v : Value) (xs : List Lt) : Prop := SlAt 2 fLt w v xs
theorem LtAt.open {w : World} {v : Value} {xs : List Lt} (h : LtAt w v xs) : ∃ ao cap, v = .slice ao xs.length cap ∧ xs.length ≤ cap ∧ cap ≤ maxLen ∧
    ∀ i x, xs[i]? = some x → ∃ g o, ao = some ⟨g, o, none⟩ ∧ g < w.heap.size ∧ w.cell? ⟨g, o + i * 2, none⟩ = some (.int .i64 x.ix) ∧ w.cell? ⟨g, o + i * 2 + 1, none⟩ = some (.int .i64 x.sl) := SlAt.open2 h fun _ => rfl
theorem OwnLt.slot {B : Nat} {w : World} {g n cap : Nat} {xs : List Lt} (h : OwnLt B w (.slice (some ⟨g, 0, none⟩) n cap) xs) {i : Nat} {x : Lt} (hi : xs[i]? = some x) : B ≤ g ∧ g < w.heap.size ∧ w.cell? ⟨g, i * 2, none⟩ = some (.int .i64 x.ix) ∧ w.frozen? ⟨g, i * 2, none⟩ = false ∧ w.cell? ⟨g, i * 2 + 1, none⟩ = some (.int .i64 x.sl) ∧ w.frozen? ⟨g, i * 2 + 1, none⟩ = false := by
  obtain ⟨hB, hg, hz, hc⟩ := Own.slot h lenLt hi
  exact ⟨hB, hg, by simpa [fLt] using hc 0 (.int .i64 x.ix), hz _, by simpa [fLt] using hc 1 (.int .i64 x.sl), hz _⟩
def mkLt (k : Int) : Lt := ⟨k, k + 1⟩




end Go.Proofs.Ytobechjagckdfaa
/-
  Frees that had to wait: what LateApply computes.
-/
set_option linter.unusedVariables false
set_option linter.unusedSimpArgs false
namespace Go.Proofs.Ytobechjagckdfaa
open Go.RowKit
structure LA where
  k : Ker
  sp : List Sp
  left : List Lt
def spAt (sp : List Sp) (i : Nat) : Sp := sp.getD i default
def laStep (x : Lt) (t : LA) : LA :=
  if between x.ix 0 (t.sp.length - 1) = true then
    ⟨freeK t.k (spAt t.sp x.ix.toNat).p (spAt t.sp x.ix.toNat).c (spAt t.sp x.ix.toNat).b x.sl,
     t.sp.set x.ix.toNat ⟨(spAt t.sp x.ix.toNat).p, (spAt t.sp x.ix.toNat).c, freeB t.k (spAt t.sp x.ix.toNat).p (spAt t.sp x.ix.toNat).c (spAt t.sp x.ix.toNat).b x.sl⟩,
     if freeCode t.k (spAt t.sp x.ix.toNat).p (spAt t.sp x.ix.toNat).c (spAt t.sp x.ix.toNat).b x.sl = 2 then t.left ++ [x] else t.left⟩
  else t
def laTo (xs : List Lt) : Nat → LA → LA
  | 0, t => t
  | n + 1, t => laStep (xs.getD n default) (laTo xs n t)
def laRun (xs : List Lt) (k : Ker) (sp : List Sp) : LA := laTo xs xs.length ⟨k, sp, []⟩
theorem laStep_out {x : Lt} {t : LA} (h : between x.ix 0 (t.sp.length - 1) = false) : laStep x t = t := by unfold laStep; rw [h]; rfl
theorem laStep_in {x : Lt} {t : LA} (h : between x.ix 0 (t.sp.length - 1) = true) {s : Sp} {i : Nat} (hi : x.ix = i) (hs : t.sp[i]? = some s) : laStep x t = ⟨freeK t.k s.p s.c s.b x.sl, t.sp.set i ⟨s.p, s.c, freeB t.k s.p s.c s.b x.sl⟩, if freeCode t.k s.p s.c s.b x.sl = 2 then t.left ++ [x] else t.left⟩ := by
  unfold laStep
  have e : spAt t.sp x.ix.toNat = s := by unfold spAt; rw [hi, Int.toNat_natCast]; exact getD_of hs
  rw [if_pos h, e, hi, Int.toNat_natCast]
theorem laStep_len (x : Lt) (t : LA) : (laStep x t).sp.length = t.sp.length := by
  unfold laStep
  split
  · simp
  · rfl
theorem laTo_len (xs : List Lt) : ∀ (n : Nat) (t : LA), (laTo xs n t).sp.length = t.sp.length
  | 0, _ => rfl
  | n + 1, t => by rw [laTo, laStep_len, laTo_len xs n t]
theorem laStep_left (x : Lt) (t : LA) : (laStep x t).left.length ≤ t.left.length + 1 := by
  unfold laStep
  split
  · dsimp only
    split
    · simp
    · omega
  · omega
theorem laTo_left (xs : List Lt) : ∀ (n : Nat) (t : LA), (laTo xs n t).left.length ≤ t.left.length + n
  | 0, _ => by simp [laTo]
  | n + 1, t => by
    have h1 := laStep_left (xs.getD n default) (laTo xs n t)
    have h2 := laTo_left xs n t
    rw [laTo]; omega
theorem lens_same (rows : List (List Int)) (i : Nat) (r : List Int) (h : r.length = (rows.getD i []).length) : ∀ k, lensTo (rows.set i r) k = lensTo rows k
  | 0 => rfl
  | k + 1 => by
    rw [lensTo, lensTo, lens_same rows i r h k]
    congr 1
    by_cases e : i = k
    · subst e
      rw [List.getD_eq_getElem?_getD, List.getElem?_set, if_pos rfl]
      split
      · exact h
      · rename_i hn
        rw [List.getD_eq_getElem?_getD, List.getElem?_eq_none (by omega)]
    · rw [List.getD_eq_getElem?_getD, List.getElem?_set, if_neg e, ← List.getD_eq_getElem?_getD]
theorem szK_free (K : Ker) (p c b slot : Int) : szK (freeK K p c b slot) = szK K := by
  unfold freeK
  split
  · unfold clearF withF szK szM szF
    dsimp only
    rw [List.length_set]
    have : tot (K.m.f.cells.set (pageEntry K.m.ents p).f.toNat (zeroTo (K.m.f.cells.getD (pageEntry K.m.ents p).f.toNat []) (slot * classSize c).toNat (classSize c).toNat)) = tot K.m.f.cells := by
      unfold tot
      rw [List.length_set, lens_same _ _ _ (zeroTo_len _ _ _)]
    omega
  · rfl
theorem sz_laStep (x : Lt) (t : LA) : szK (laStep x t).k = szK t.k := by
  unfold laStep
  split
  · exact szK_free ..
  · rfl
theorem sz_laTo (xs : List Lt) : ∀ (n : Nat) (t : LA), szK (laTo xs n t).k = szK t.k
  | 0, _ => rfl
  | n + 1, t => by rw [laTo, sz_laStep, sz_laTo xs n t]
end Go.Proofs.Ytobechjagckdfaa
/-
  Bitmaps as natural numbers.
-/
set_option linter.unusedVariables false
set_option linter.unusedSimpArgs false
namespace Go.Proofs.Ytobechjagckdfaa
open Go.RowKit
theorem i64_nat (a b : Nat) (ha : a < 65536) (hb : b < 65536) : bits .and .i64 (a : Int) (b : Int) = ((a &&& b : Nat) : Int) ∧ bits .or .i64 (a : Int) (b : Int) = ((a ||| b : Nat) : Int) :=
  bits_nat .i64 16 (by decide) (fun n h0 h1 => by rw [IntKind.wrap_i64]; omega) a b (by omega) (by omega)
theorem i64_andNot (a b : Nat) (ha : a < 65536) (hb : b < 65536) : bits .andNot .i64 (a : Int) (b : Int) = ((a ^^^ (a &&& b) : Nat) : Int) := by
  have key : (BitVec.ofInt 64 (a : Int) &&& ~~~(BitVec.ofInt 64 (b : Int))).toNat = a ^^^ (a &&& b) := by
    rw [BitVec.toNat_and, BitVec.toNat_not, BitVec.ofInt_natCast, BitVec.ofInt_natCast, BitVec.toNat_ofNat, BitVec.toNat_ofNat, Nat.mod_eq_of_lt (by omega), Nat.mod_eq_of_lt (by omega)]
    apply Nat.eq_of_testBit_eq
    intro i
    rw [Nat.testBit_and, Nat.testBit_xor, Nat.testBit_and, show 2 ^ 64 - 1 - b = 2 ^ 64 - (b + 1) by omega, Nat.testBit_two_pow_sub_succ (by omega)]
    by_cases hi : i < 64
    · simp [hi]
      cases a.testBit i <;> cases b.testBit i <;> rfl
    · have : a.testBit i = false := Nat.testBit_lt_two_pow (Nat.lt_of_lt_of_le (show a < 2 ^ 16 by omega) (Nat.pow_le_pow_right (by omega) (by omega)))
      simp [this]
  have hx : a ^^^ (a &&& b) < 2 ^ 16 := Nat.xor_lt_two_pow (by omega) (Nat.and_lt_two_pow _ (by omega))
  show IntKind.i64.wrap ((BitVec.ofInt 64 (a : Int) &&& ~~~(BitVec.ofInt 64 (b : Int))).toNat : Nat) = _
  rw [key, IntKind.wrap_i64]
  omega
theorem hasSlot_bit (b i : Nat) (hb : b < 65536) (hi : i < 16) : hasSlot (b : Int) (i : Int) = b.testBit i := by
  have h1 : slotOk (b : Int) (i : Int) = true := slotOk_iff.2 ⟨by omega, by omega, by omega⟩
  have h2 : (b : Int) / 2 ^ (i : Int).toNat = ((b / 2 ^ i : Nat) : Int) := by rw [Int.toNat_natCast, Int.natCast_ediv]; simp
  have h3 : b / 2 ^ i < 65536 := Nat.lt_of_le_of_lt (Nat.div_le_self _ _) hb
  unfold hasSlot
  rw [h1, h2, show (1 : Int) = ((1 : Nat) : Int) from rfl, (i64_nat _ _ h3 (by omega)).1, Bool.true_and, Nat.and_one_is_mod, Nat.testBit_eq_decide_div_mod_eq, Bool.eq_iff_iff]
  simp only [beq_iff_eq, decide_eq_true_eq]
  omega
theorem pow16 {i : Nat} (hi : i < 16) : 2 ^ i < 65536 := by
  have : 2 ^ i ≤ 2 ^ 15 := Nat.pow_le_pow_right (by omega) (by omega)
  omega
theorem withSlot_bit (b i : Nat) (hb : b < 65536) (hi : i < 16) : withSlot (b : Int) (i : Int) = ((b ||| 2 ^ i : Nat) : Int) := by
  have h1 : slotOk (b : Int) (i : Int) = true := slotOk_iff.2 ⟨by omega, by omega, by omega⟩
  have h2 : (2 : Int) ^ (i : Int).toNat = ((2 ^ i : Nat) : Int) := by rw [Int.toNat_natCast]; simp
  unfold withSlot
  rw [if_pos h1, h2, (i64_nat _ _ hb (pow16 hi)).2]
theorem withoutSlot_bit (b i : Nat) (hb : b < 65536) (hi : i < 16) : withoutSlot (b : Int) (i : Int) = ((b ^^^ (b &&& 2 ^ i) : Nat) : Int) := by
  have h1 : slotOk (b : Int) (i : Int) = true := slotOk_iff.2 ⟨by omega, by omega, by omega⟩
  have h2 : (2 : Int) ^ (i : Int).toNat = ((2 ^ i : Nat) : Int) := by rw [Int.toNat_natCast]; simp
  unfold withoutSlot
  rw [if_pos h1, h2, i64_andNot _ _ hb (pow16 hi)]
/-- A slot that was free is taken and given back. -/
theorem slot_back (b i : Nat) (hb : b < 65536) (hi : i < 16) (h : b.testBit i = false) : (b ||| 2 ^ i) ^^^ ((b ||| 2 ^ i) &&& 2 ^ i) = b := by
  apply Nat.eq_of_testBit_eq
  intro j
  rw [Nat.testBit_xor, Nat.testBit_and, Nat.testBit_or, Nat.testBit_two_pow]
  by_cases hj : i = j
  · subst hj; simp [h]
  · simp [hj]
theorem mem_freeTo (b : Int) : ∀ (k : Nat) (x : Int), x ∈ freeTo b k ↔ (0 ≤ x ∧ x < k) ∧ hasSlot b x = false
  | 0, x => by simp [freeTo]; omega
  | k + 1, x => by
    rw [freeTo, List.mem_append, mem_freeTo b k x]
    cases h : hasSlot b k
    · simp only [Bool.false_eq_true, if_false, List.mem_singleton]
      constructor
      · rintro (h1 | rfl)
        · exact ⟨by omega, h1.2⟩
        · exact ⟨by omega, h⟩
      · rintro ⟨h1, h2⟩
        by_cases hx : x = k
        · exact .inr hx
        · exact .inl ⟨by omega, h2⟩
    · simp only [if_true, List.not_mem_nil, or_false]
      constructor
      · rintro ⟨h1, h2⟩; exact ⟨by omega, h2⟩
      · rintro ⟨h1, h2⟩
        refine ⟨⟨h1.1, ?_⟩, h2⟩
        rcases Int.lt_or_eq_of_le (show x ≤ k by omega) with h3 | h3
        · exact h3
        · subst h3; rw [h] at h2; exact absurd h2 (by decide)
end Go.Proofs.Ytobechjagckdfaa
/-
  Spans on mapped pages, whose free slots hold zeros: what a free leaves. Plain laws.
-/
set_option linter.unusedVariables false
set_option linter.unusedSimpArgs false
namespace Go.Proofs.Ytobechjagckdfaa
/-- A kernel and spans with their pages: pages below n are dealt with. -/
structure SInv (K : Ker) (sp : List Sp) (c : Int) (n : Nat) : Prop where
  ok : MOk K.m
  ref : ∀ x ∈ K.refuse, 0 ≤ x ∧ x < 12
  rl : K.refuse.length ≤ 40
  calls : 0 ≤ K.calls ∧ K.calls ≤ 1000
  cls : 0 ≤ c ∧ c ≤ 3
  n31 : n ≤ 31
  sep : ∀ (i j : Nat) (e e' : Ent), K.m.ents[i]? = some e → K.m.ents[j]? = some e' → e.m ≠ 0 → e'.m ≠ 0 → e.f = e'.f → i = j
  span : ∀ (i : Nat) (s : Sp), sp[i]? = some s → ∃ p b : Nat, s = ⟨(p : Int), c, (b : Int)⟩ ∧ p < n ∧ b < 2 ^ (slotsOf c).toNat ∧ ∃ e, K.m.ents[p]? = some e ∧ (e.m = 1 ∨ e.m = 2)
  zero : ∀ (i p b : Nat) (e : Ent) (r : List Int), sp[i]? = some ⟨(p : Int), c, (b : Int)⟩ → K.m.ents[p]? = some e → K.m.f.cells[e.f.toNat]? = some r → ∀ j, j < 16 → b.testBit (j / (classSize c).toNat) = false → r.getD j 0 = 0
  nd : ∀ (i j : Nat) (s t : Sp), sp[i]? = some s → sp[j]? = some t → s.p = t.p → i = j
  only : ∀ (p : Nat) (e : Ent), K.m.ents[p]? = some e → e.m ≠ 0 → p < n ∧ ∃ (q : Nat) (s : Sp), sp[q]? = some s ∧ s.p = (p : Int)
section
variable {K : Ker} {sp : List Sp} {c : Int} {n : Nat}
theorem SInv.kok (h : SInv K sp c n) : kernelOk K = true := (kernelOk_iff _).2 ⟨fun x hx => (h.ref x hx).1, ⟨h.calls.1, by have := h.calls.2; omega⟩, h.rl, h.ok⟩
theorem slots_cases (h : 0 ≤ c ∧ c ≤ 3) : (slotsOf c = 16 ∧ classSize c = 1) ∨ (slotsOf c = 8 ∧ classSize c = 2) ∨ (slotsOf c = 4 ∧ classSize c = 4) ∨ (slotsOf c = 2 ∧ classSize c = 8) := by
  have : c = 0 ∨ c = 1 ∨ c = 2 ∨ c = 3 := by omega
  rcases this with rfl | rfl | rfl | rfl <;> decide
theorem pow_slots (h : 0 ≤ c ∧ c ≤ 3) {b : Nat} (hb : b < 2 ^ (slotsOf c).toNat) : b < 65536 := by
  rcases slots_cases h with ⟨h1, -⟩ | ⟨h1, -⟩ | ⟨h1, -⟩ | ⟨h1, -⟩ <;> rw [h1] at hb <;> simp at hb <;> omega
theorem spanOk_of (h : 0 ≤ c ∧ c ≤ 3) {p b : Nat} (hp : p ≤ 31) (hb : b < 2 ^ (slotsOf c).toNat) : spanOk (p : Int) c (b : Int) = true := by
  unfold spanOk bitmapOk
  simp only [Bool.and_eq_true, between_iff]
  have hb' : (b : Int) < 2 ^ (slotsOf c).toNat := by exact_mod_cast hb
  have hs : 1 ≤ slotsOf c ∧ slotsOf c ≤ 16 := by rcases slots_cases h with ⟨h1, -⟩ | ⟨h1, -⟩ | ⟨h1, -⟩ | ⟨h1, -⟩ <;> omega
  exact ⟨⟨by omega, h⟩, hs, by omega⟩
theorem bit_slots {b i : Nat} (hb : b < 2 ^ (slotsOf c).toNat) (h : b.testBit i = true) : i < (slotsOf c).toNat := by
  rcases Nat.lt_or_ge i (slotsOf c).toNat with h1 | h1
  · exact h1
  · rw [Nat.testBit_lt_two_pow (Nat.lt_of_lt_of_le hb (Nat.pow_le_pow_right (by omega) h1))] at h
    cases h
/-- The code of a free: no such slot, the page is protected, or it is done. -/
theorem free_code (h : SInv K sp c n) {i p b : Nat} (hs : sp[i]? = some ⟨(p : Int), c, (b : Int)⟩) {e : Ent} (he : K.m.ents[p]? = some e) (s : Nat) (hs16 : s < 16) :
    freeCode K p c b s = if b.testBit s = false then 1 else if e.m = 1 then 2 else 0 := by
  obtain ⟨p', b', hsp, hpn, hb, e', he', hm⟩ := h.span i _ hs
  simp only [Sp.mk.injEq] at hsp
  obtain ⟨hp1, -, hb1⟩ := hsp
  obtain rfl : p = p' := by omega
  obtain rfl : b = b' := by omega
  rw [he] at he'; cases he'
  have hb2 := pow_slots h.cls hb
  unfold freeCode
  rw [spanOk_of h.cls (by have := h.n31; omega) hb, hasSlot_bit b s hb2 hs16, Bool.true_and, h.kok]
  have hmp : mappedB K.m.ents p = true := by
    unfold mappedB
    rw [pageEntry_at he, bne_iff_ne]
    omega
  rw [hmp, pageEntry_at he]
  simp only [Bool.not_true, Bool.or_self, Bool.false_eq_true, if_false]
  rcases hm with h1 | h1 <;> simp [h1]
/-- A cell of a slot. -/
theorem slot_cell (h : 0 ≤ c ∧ c ≤ 3) {s j : Nat} (hj : j < 16) : j / (classSize c).toNat = s ↔ (s * (classSize c).toNat ≤ j ∧ j < s * (classSize c).toNat + (classSize c).toNat) := by
  have hz : 0 < (classSize c).toNat := by rcases slots_cases h with ⟨-, h1⟩ | ⟨-, h1⟩ | ⟨-, h1⟩ | ⟨-, h1⟩ <;> rw [h1] <;> decide
  rw [Nat.div_eq_iff hz]
  constructor
  · intro ⟨h1, h2⟩; omega
  · intro ⟨h1, h2⟩; omega
theorem zeroTo_get (r : List Int) (a : Nat) : ∀ (k j : Nat), (zeroTo r a k).getD j 0 = if a ≤ j ∧ j < a + k ∧ j < r.length then 0 else r.getD j 0
  | 0, j => by
    rw [zeroTo]
    split
    · omega
    · rfl
  | k + 1, j => by
    rw [zeroTo]
    have ih := zeroTo_get r a k j
    rw [List.getD_eq_getElem?_getD, List.getElem?_set, zeroTo_len]
    by_cases e : a + k = j
    · subst e
      rw [if_pos rfl]
      split
      · rename_i hl
        rw [if_pos ⟨by omega, by omega, hl⟩]; rfl
      · rename_i hl
        rw [if_neg (fun hh => hl hh.2.2), List.getD_eq_getElem?_getD, List.getElem?_eq_none (by omega)]
    · rw [if_neg e, ← List.getD_eq_getElem?_getD, ih]
      by_cases hc : a ≤ j ∧ j < a + k ∧ j < r.length
      · rw [if_pos hc, if_pos ⟨hc.1, by omega, hc.2.2⟩]
      · rw [if_neg hc, if_neg (fun hh => hc ⟨hh.1, by omega, hh.2.2⟩)]
/-- A free that is done: the slot's cells are zero, its bit is gone, all else is as it was. -/
theorem free_done (h : SInv K sp c n) {i p b : Nat} (hs : sp[i]? = some ⟨(p : Int), c, (b : Int)⟩) {e : Ent} (he : K.m.ents[p]? = some e) (hm : e.m = 2) {s : Nat} (hs16 : s < 16) (hb : b.testBit s = true) :
    freeCode K p c b s = 0 ∧ ∃ b' : Nat, freeB K p c b s = (b' : Int) ∧ b' < 2 ^ (slotsOf c).toNat ∧ (∀ l, b'.testBit l = (b.testBit l && decide (l ≠ s))) ∧
      freeK K p c b s = ⟨⟨⟨K.m.f.cells.set e.f.toNat (zeroTo (K.m.f.cells.getD e.f.toNat []) (s * (classSize c).toNat) (classSize c).toNat), K.m.f.used⟩, K.m.ents⟩, K.calls, K.refuse⟩ := by
  have hcode : freeCode K p c b s = 0 := by rw [free_code h hs he s hs16, hb, hm]; rfl
  refine ⟨hcode, ?_⟩
  obtain ⟨p', b1, hsp, hpn, hlt, e', he', -⟩ := h.span i _ hs
  simp only [Sp.mk.injEq] at hsp
  obtain ⟨hp1, -, hb1⟩ := hsp
  obtain rfl : p = p' := by omega
  obtain rfl : b = b1 := by omega
  have hb2 := pow_slots h.cls hlt
  have hspan := spanOk_of h.cls (p := p) (by have := h.n31; omega) hlt
  have hbit : ∀ l, (b ^^^ (b &&& 2 ^ s)).testBit l = (b.testBit l && decide (l ≠ s)) := by
    intro l
    rw [Nat.testBit_xor, Nat.testBit_and, Nat.testBit_two_pow]
    by_cases hl : s = l
    · subst hl; simp
    · have : ¬ l = s := fun x => hl x.symm
      simp [hl, this]
  refine ⟨b ^^^ (b &&& 2 ^ s), ?_, ?_, hbit, ?_⟩
  · unfold freeB
    rw [hcode, if_pos rfl]
    unfold giveBits
    rw [hspan, hasSlot_bit b s hb2 hs16, hb, if_pos (by rfl), withoutSlot_bit b s hb2 hs16]
  · exact Nat.xor_lt_two_pow hlt (Nat.lt_of_le_of_lt Nat.and_le_left hlt)
  · unfold freeK
    rw [hcode, if_pos rfl, pageEntry_at he]
    unfold withF clearF
    have : ((s : Int) * classSize c).toNat = s * (classSize c).toNat := by
      obtain ⟨z, hz⟩ := Int.eq_ofNat_of_zero_le (classSize_bound c).1
      rw [hz, Int.toNat_natCast]
      exact_mod_cast rfl
    rw [this]
/-- What a machine looks like when the row of a used frame is replaced by a row with some cells set to 0. -/
theorem zero_ok {M : Mac} (h : MOk M) {f : Nat} (hu : M.f.used[f]? = some true) (a k : Nat) : MOk ⟨⟨M.f.cells.set f (zeroTo (M.f.cells.getD f []) a k), M.f.used⟩, M.ents⟩ := by
  refine ⟨by simpa using h.n1, by simpa using h.u1, ?_, h.e1, h.ent, h.use⟩
  intro i r u hr hk
  dsimp only at hr hk
  rcases getElem?_set_cases hr with ⟨rfl, rfl⟩ | ⟨_, hr⟩
  · obtain ⟨r0, hr0⟩ := getx (xs := M.f.cells) (k := i) (by have := getx_lt hr; rwa [List.length_set] at this)
    rw [getD_of hr0]
    have h1 := h.row i r0 u hr0 hk
    refine ⟨by rw [zeroTo_len]; exact h1.1, fun j x hx => ?_⟩
    have hj := getx_lt hx
    rw [zeroTo_len] at hj
    have hx2 : (zeroTo r0 a k).getD j 0 = x := getD_of hx
    rw [zeroTo_get] at hx2
    split at hx2
    · subst hx2; exact ⟨by omega, by omega, fun _ => rfl⟩
    · exact h1.2 j x (by rw [List.getElem?_eq_getElem hj]; rw [List.getD_eq_getElem?_getD, List.getElem?_eq_getElem hj] at hx2; exact congrArg some hx2)
  · exact h.row i r u hr hk
theorem SInv.used (h : SInv K sp c n) {p : Nat} {e : Ent} (he : K.m.ents[p]? = some e) (hm : e.m ≠ 0) : ∃ f : Nat, e.f = f ∧ K.m.f.used[f]? = some true ∧ f < K.m.f.cells.length := by
  have h1 := h.ok.ent p e he
  obtain ⟨f, hf⟩ := Int.eq_ofNat_of_zero_le h1.2.2.1
  have hlt := h1.2.2.2.2 hm
  have hul := h.ok.u1
  obtain ⟨u, hu⟩ := getx (xs := K.m.f.used) (k := f) (by omega)
  refine ⟨f, hf, ?_, by omega⟩
  have := (h.ok.use f u hu).2 ⟨p, e, he, hm, hf⟩
  rw [hu, this]
/-- The invariant behind a free that is done. -/
theorem free_inv (h : SInv K sp c n) {i p b : Nat} (hs : sp[i]? = some ⟨(p : Int), c, (b : Int)⟩) {e : Ent} (he : K.m.ents[p]? = some e) (hm : e.m = 2) {s : Nat} (hs16 : s < 16) (hb : b.testBit s = true) {b' : Nat} (hlt' : b' < 2 ^ (slotsOf c).toNat) (hbit : ∀ l, b'.testBit l = (b.testBit l && decide (l ≠ s))) {K' : Ker}
    (hK : K' = ⟨⟨⟨K.m.f.cells.set e.f.toNat (zeroTo (K.m.f.cells.getD e.f.toNat []) (s * (classSize c).toNat) (classSize c).toNat), K.m.f.used⟩, K.m.ents⟩, K.calls, K.refuse⟩) : SInv K' (sp.set i ⟨(p : Int), c, (b' : Int)⟩) c n := by
  subst hK
  have hmn : e.m ≠ 0 := by omega
  obtain ⟨f, hf, hu, hfl⟩ := h.used he hmn
  have hft : e.f.toNat = f := by omega
  rw [hft]
  have hpi : ∀ (k : Nat) (s' : Sp), (sp.set i ⟨(p : Int), c, (b' : Int)⟩)[k]? = some s' → ∃ s0, sp[k]? = some s0 ∧ s0.p = s'.p := by
    intro k s' hk
    rcases getElem?_set_cases hk with ⟨rfl, rfl⟩ | ⟨_, hk⟩
    · exact ⟨_, hs, rfl⟩
    · exact ⟨s', hk, rfl⟩
  refine ⟨zero_ok h.ok hu _ _, h.ref, h.rl, h.calls, h.cls, h.n31, h.sep, ?_, ?_, ?_, ?_⟩
  · intro k s' hk
    rcases getElem?_set_cases hk with ⟨rfl, rfl⟩ | ⟨_, hk⟩
    · obtain ⟨p1, b1, h1, h2, -, h4⟩ := h.span k _ hs
      simp only [Sp.mk.injEq] at h1
      obtain rfl : p = p1 := by omega
      exact ⟨p, b', rfl, h2, hlt', h4⟩
    · exact h.span k s' hk
  · intro k p1 b1 e1 r hk he1 hr j hj hz
    dsimp only at he1 hr
    rcases getElem?_set_cases hk with ⟨rfl, hk2⟩ | ⟨hne, hk3⟩
    · simp only [Sp.mk.injEq] at hk2
      obtain rfl : p1 = p := by omega
      obtain rfl : b1 = b' := by omega
      rw [he] at he1; cases he1
      rw [hft, List.getElem?_set_self hfl] at hr
      cases hr
      obtain ⟨r0, hr0⟩ := getx hfl
      rw [getD_of hr0, zeroTo_get]
      split
      · rfl
      · rename_i hnz
        rw [hbit] at hz
        have hl16 : r0.length = 16 := (h.ok.row f r0 true hr0 hu).1
        by_cases hjs : j / (classSize c).toNat = s
        · exact absurd ⟨((slot_cell h.cls hj).1 hjs).1, ((slot_cell h.cls hj).1 hjs).2, by omega⟩ hnz
        · have hzb : b.testBit (j / (classSize c).toNat) = false := by simpa [hjs] using hz
          exact h.zero k p1 b e r0 hs he (by rw [hft]; exact hr0) j hj hzb
    · obtain ⟨e2, he2⟩ : ∃ e2, e2 = e1 := ⟨_, rfl⟩
      obtain ⟨p2, b2, h1, -, -, e3, he3, hm3⟩ := h.span k _ hk3
      simp only [Sp.mk.injEq] at h1
      obtain rfl : p1 = p2 := by omega
      rw [he1] at he3; cases he3
      have hpp : p1 ≠ p := fun x => hne (h.nd k i _ _ hk3 hs (by rw [x]))
      have hff : e1.f.toNat ≠ f := by
        intro x
        have h0 := (h.ok.ent p1 e1 he1).2.2.1
        exact hpp (h.sep p1 p e1 e he1 he (by omega) hmn (by omega))
      rw [List.getElem?_set_ne (fun x => hff x.symm)] at hr
      exact h.zero k p1 b1 e1 r hk3 he1 hr j hj hz
  · intro k l s1 t1 hk hl hst
    obtain ⟨s0, h1, h2⟩ := hpi k s1 hk
    obtain ⟨t0, h3, h4⟩ := hpi l t1 hl
    exact h.nd k l s0 t0 h1 h3 (by rw [h2, h4]; exact hst)
  · intro p1 e1 he1 hm1
    obtain ⟨h1, q, s0, h2, h3⟩ := h.only p1 e1 he1 hm1
    refine ⟨h1, q, ?_⟩
    by_cases hqi : i = q
    · subst hqi
      rw [hs] at h2; cases h2
      exact ⟨_, List.getElem?_set_self (getx_lt hs), h3⟩
    · exact ⟨s0, by rw [List.getElem?_set_ne hqi]; exact h2, h3⟩
/-- What can be read at a page of a span behind a free that is done. -/
theorem free_load (h : SInv K sp c n) {i p b : Nat} (hs : sp[i]? = some ⟨(p : Int), c, (b : Int)⟩) {e : Ent} (he : K.m.ents[p]? = some e) (hm : e.m = 2) {s : Nat} (hs16 : s < 16) (hb : b.testBit s = true) {j : Nat} (hj : j < 16) :
    loadF (freeK K p c b s).m (16 * (p : Int) + j) = 0 ∧ loadV (freeK K p c b s).m (16 * (p : Int) + j) = (if j / (classSize c).toNat = s then 0 else loadV K.m (16 * (p : Int) + j)) := by
  obtain ⟨-, b', -, hlt', hbit, hK⟩ := free_done h hs he hm hs16 hb
  have hi := free_inv h hs he hm hs16 hb hlt' hbit hK
  have hmn : e.m ≠ 0 := by omega
  obtain ⟨f, hf, hu, hfl⟩ := h.used he hmn
  obtain ⟨em, ef⟩ := e
  dsimp only at hf hm hmn
  subst hf
  have hents : (freeK K p c b s).m.ents = K.m.ents := by rw [hK]
  have hpe : pageEntry (freeK K p c b s).m.ents p = ⟨em, (f : Int)⟩ := by rw [hents]; exact pageEntry_at he
  have L1 := load_parts (p := p) hj hi.ok hpe hmn
  have L0 := load_parts (p := p) hj h.ok (pageEntry_at he) hmn
  rw [L1.1, L1.2, L0.1]
  refine ⟨rfl, ?_⟩
  rw [hK]
  dsimp only
  rw [Int.toNat_natCast]
  obtain ⟨r0, hr0⟩ := getx hfl
  have hl16 : r0.length = 16 := (h.ok.row f r0 true hr0 hu).1
  have e1 : (K.m.f.cells.set f (zeroTo (K.m.f.cells.getD f []) (s * (classSize c).toNat) (classSize c).toNat)).getD f [] = zeroTo r0 (s * (classSize c).toNat) (classSize c).toNat := by
    rw [List.getD_eq_getElem?_getD, List.getElem?_set_self hfl, getD_of hr0]; rfl
  rw [e1, zeroTo_get, getD_of hr0]
  by_cases hjs : j / (classSize c).toNat = s
  · rw [if_pos hjs, if_pos ⟨((slot_cell h.cls hj).1 hjs).1, ((slot_cell h.cls hj).1 hjs).2, by omega⟩]
  · rw [if_neg hjs, if_neg (fun hh => hjs ((slot_cell h.cls hj).2 ⟨hh.1, hh.2.1⟩))]
/-- Where no span is, page 0 is not mapped. -/
theorem free_none (h : SInv K [] c n) : freeCode K 0 0 1 0 = 3 := by
  have hmp : mappedB K.m.ents 0 = false := by
    unfold mappedB
    rw [bne_eq_false_iff_eq]
    rcases Int.lt_trichotomy (pageEntry K.m.ents 0).m 0 with h0 | h0 | h0
    · have := (h.ok.ent)
      by_cases hz : (pageEntry K.m.ents 0).m = 0
      · exact hz
      · obtain ⟨k, hk, hke⟩ := pageEntry_m hz
        obtain ⟨-, q, s, hq, -⟩ := h.only k _ hke hz
        simp at hq
    · exact h0
    · obtain ⟨k, hk, hke⟩ := pageEntry_m (p := 0) (es := K.m.ents) (by omega)
      obtain ⟨-, q, s, hq, -⟩ := h.only k _ hke (by omega)
      simp at hq
  unfold freeCode
  have hc : (spanOk 0 0 1 && hasSlot 1 0) = true := by decide
  rw [hc, hmp]
  simp
end
end Go.Proofs.Ytobechjagckdfaa
/-
  Spans on mapped pages, as they are drawn: what each step of the draw keeps. Plain laws.
-/
set_option linter.unusedVariables false
set_option linter.unusedSimpArgs false
namespace Go.Proofs.Ytobechjagckdfaa
theorem slotClear_done {K : Ker} {sp : List Sp} {c : Int} {n : Nat} (h : SInv K sp c n) {i p b : Nat} (hs : sp[i]? = some ⟨(p : Int), c, (b : Int)⟩) {e : Ent} (he : K.m.ents[p]? = some e) (hm : e.m = 2) {s : Nat} (hs16 : s < 16) (hb : b.testBit s = true) :
    slotClear (freeK K p c b s) p c b s = true := by
  obtain ⟨p1, b1, hsp, hpn, hlt, -⟩ := h.span i _ hs
  simp only [Sp.mk.injEq] at hsp
  obtain rfl : b = b1 := by omega
  have hsl := bit_slots hlt hb
  have hspan := spanOk_of h.cls (p := p) (by have := h.n31; omega) hlt
  obtain ⟨z, hz⟩ := Int.eq_ofNat_of_zero_le (classSize_bound c).1
  have hbt : between (s : Int) 0 (slotsOf c - 1) = true := between_iff.2 ⟨by omega, by omega⟩
  have haddr : spanAddr p c b s = 16 * (p : Int) + ((s * z : Nat) : Int) := by
    unfold spanAddr
    rw [hspan, hbt, hz]
    simp
    omega
  have hzz : (classSize c).toNat = z := by rw [hz]; rfl
  have hmul : slotsOf c * classSize c = 16 := class_mul (between_iff.2 h.cls)
  obtain ⟨m, hm2⟩ := Int.eq_ofNat_of_zero_le (slotsOf_bound c).1
  have hmz : m * z = 16 := by rw [hm2, hz] at hmul; exact_mod_cast hmul
  have hsm : s + 1 ≤ m := by rw [hm2, Int.toNat_natCast] at hsl; omega
  have hle := Nat.mul_le_mul_right z hsm
  rw [hmz, Nat.add_mul, Nat.one_mul] at hle
  have key : ∀ k, k ≤ z → clearTo (freeK K p c b s).m (16 * (p : Int) + ((s * z : Nat) : Int)) k = true := by
    intro k
    induction k with
    | zero => intro _; rfl
    | succ k ih =>
      intro hk
      rw [clearTo, ih (by omega), Bool.true_and]
      have e1 : 16 * (p : Int) + ((s * z : Nat) : Int) + (k : Int) = 16 * (p : Int) + ((s * z + k : Nat) : Int) := by omega
      rw [e1]
      have := free_load h hs he hm hs16 hb (j := s * z + k) (by omega)
      rw [this.1, this.2, if_pos ((slot_cell h.cls (by omega)).2 ⟨by rw [hzz]; omega, by rw [hzz]; omega⟩)]
      rfl
  unfold slotClear
  rw [haddr, hzz, key z (Nat.le_refl _), Bool.and_true, decide_eq_true_eq]
  omega
theorem newK_sinv {c : Int} {rf : List Int} (hr : ∀ x ∈ rf, 0 ≤ x ∧ x < 12) (hl : rf.length ≤ 40) (hc : 0 ≤ c ∧ c ≤ 3) : SInv (newK 4 4 rf) [] c 0 := by
  have none : ∀ (i : Nat) (e : Ent), (newK 4 4 rf).m.ents[i]? = some e → e.m = 0 := by
    intro i e he
    unfold newK at he
    dsimp only at he
    rw [List.getElem?_replicate] at he
    split at he
    · cases he; rfl
    · cases he
  refine ⟨newK_ok (by omega) (by omega), hr, hl, by unfold newK; simp, hc, by omega, fun i j e e' he _ hm => absurd (none i e he) hm, ?_, ?_, ?_, fun p e he hm => absurd (none p e he) hm⟩
  · intro i s hs; simp at hs
  · intro i p b e r hs; simp at hs
  · intro i j s t hs; simp at hs
section
variable {K : Ker} {sp : List Sp} {c : Int} {n : Nat}
theorem sinv_fail (h : SInv K sp c n) (hn : n ≤ 30) (hc : K.calls ≤ 999) (hb : newB K n = false) : SInv (mapNewS K n) sp c (n + 1) := by
  unfold mapNewS
  rw [hb]
  simp only [Bool.false_eq_true, if_false]
  have hcl := h.calls.1
  refine ⟨h.ok, h.ref, h.rl, ⟨by show 0 ≤ K.calls + 1; omega, by show K.calls + 1 ≤ 1000; omega⟩, h.cls, by omega, h.sep, ?_, h.zero, h.nd, ?_⟩
  · intro i s hs
    obtain ⟨p, b, h1, h2, h3⟩ := h.span i s hs
    exact ⟨p, b, h1, by omega, h3⟩
  · intro p e he hm
    obtain ⟨h1, h2⟩ := h.only p e he hm
    exact ⟨by omega, h2⟩
theorem sinv_new (h : SInv K sp c n) (hn : n ≤ 30) (hc : K.calls ≤ 999) (hb : newB K n = true) {b : Nat} (hlt : b < 2 ^ (slotsOf c).toNat) : SInv (mapNewS K n) (sp ++ [⟨(n : Int), c, (b : Int)⟩]) c (n + 1) := by
  have hno := (mapNew_ok h.ok n).1
  unfold mapNewS at hno ⊢
  rw [if_pos hb] at hno ⊢
  unfold newB at hb
  simp only [Bool.and_eq_true, decide_eq_true_eq, Bool.not_eq_true', between_iff] at hb
  obtain ⟨⟨⟨-, hbt⟩, hmp⟩, h0⟩ := hb
  obtain ⟨f, hf, hu⟩ := freeIx_lt h0
  have hcl : 0 ≤ K.calls := h.calls.1
  rw [hf] at hno ⊢
  simp only [setEnt, withF, Int.toNat_natCast] at hno ⊢
  have notf : ∀ (i : Nat) (e : Ent), K.m.ents[i]? = some e → e.m ≠ 0 → e.f ≠ f := by
    intro i e he hm hf2
    have := (h.ok.use f false hu).2 ⟨i, e, he, hm, hf2⟩
    cases this
  have hnl : n < K.m.ents.length := by omega
  have app : ∀ (i : Nat) (s : Sp), (sp ++ [⟨(n : Int), c, (b : Int)⟩])[i]? = some s → sp[i]? = some s ∨ (i = sp.length ∧ s = ⟨(n : Int), c, (b : Int)⟩) := by
    intro i s hs
    rcases Nat.lt_or_ge i sp.length with hi | hi
    · rw [List.getElem?_append_left hi] at hs; exact .inl hs
    · rw [List.getElem?_append_right hi] at hs
      have := getx_lt hs
      simp at this
      obtain rfl : i = sp.length := by omega
      simp at hs
      exact .inr ⟨rfl, hs.symm⟩
  have old : ∀ (i : Nat) (s : Sp), sp[i]? = some s → s.p ≠ n := by
    intro i s hs hpn
    obtain ⟨p, b1, h1, h2, -⟩ := h.span i s hs
    rw [h1] at hpn
    dsimp only at hpn
    omega
  refine ⟨hno, h.ref, h.rl, ⟨by show 0 ≤ K.calls + 1; omega, by show K.calls + 1 ≤ 1000; omega⟩, h.cls, by omega, ?_, ?_, ?_, ?_, ?_⟩
  · intro i j e e' he he' hm hm' hff
    dsimp only at he he'
    rcases set_at he with ⟨rfl, rfl⟩ | ⟨hi, he2⟩
    · rcases set_at he' with ⟨rfl, rfl⟩ | ⟨hj, he2'⟩
      · rfl
      · exact absurd hff.symm (notf j e' he2' hm')
    · rcases set_at he' with ⟨rfl, rfl⟩ | ⟨hj, he2'⟩
      · exact absurd hff (notf i e he2 hm)
      · exact h.sep i j e e' he2 he2' hm hm' hff
  · intro i s hs
    rcases app i s hs with hs | ⟨rfl, rfl⟩
    · obtain ⟨p, b1, h1, h2, h3, e, he, hm⟩ := h.span i s hs
      exact ⟨p, b1, h1, by omega, h3, e, by dsimp only; rw [List.getElem?_set_ne (by omega)]; exact he, hm⟩
    · exact ⟨n, b, rfl, by omega, hlt, ⟨2, (f : Int)⟩, by dsimp only; rw [List.getElem?_set_self hnl], .inr rfl⟩
  · intro i p b1 e r hs he hr j hj hz
    dsimp only at he hr
    rcases app i _ hs with hs | ⟨rfl, hs2⟩
    · have hpn : p ≠ n := fun x => old i _ hs (by rw [x])
      rw [List.getElem?_set_ne (fun x => hpn x.symm)] at he
      exact h.zero i p b1 e r hs he hr j hj hz
    · simp only [Sp.mk.injEq] at hs2
      obtain rfl : p = n := by omega
      rw [List.getElem?_set_self hnl] at he
      cases he
      dsimp only at hr
      rw [Int.toNat_natCast] at hr
      exact unused_zero h.ok hu hr _
  · intro i j s t hs ht hst
    rcases app i s hs with hs | ⟨rfl, rfl⟩
    · rcases app j t ht with ht | ⟨rfl, rfl⟩
      · exact h.nd i j s t hs ht hst
      · exact absurd hst (old i s hs)
    · rcases app j t ht with ht | ⟨rfl, rfl⟩
      · exact absurd hst.symm (old j t ht)
      · rfl
  · intro p e he hm
    dsimp only at he
    rcases set_at he with ⟨rfl, rfl⟩ | ⟨_, he⟩
    · exact ⟨by omega, sp.length, ⟨(p : Int), c, (b : Int)⟩, by simp, rfl⟩
    · obtain ⟨h1, q, s, h2, h3⟩ := h.only p e he hm
      exact ⟨by omega, q, s, by rw [List.getElem?_append_left (getx_lt h2)]; exact h2, h3⟩
/-- A cell of a slot in use is written. -/
theorem sinv_store (h : SInv K sp c n) {i p b : Nat} (hs : sp[i]? = some ⟨(p : Int), c, (b : Int)⟩) {j : Nat} (hj : j < 16) (hb : b.testBit (j / (classSize c).toNat) = true) (v : Int) : SInv ⟨storeM K.m ((p : Int) * 16 + j) v, K.calls, K.refuse⟩ sp c n := by
  have hok := store_ok h.ok ((p : Int) * 16 + j) v
  have hen := store_ents K.m ((p : Int) * 16 + j) v
  have d1 : ((p : Int) * 16 + j) / 16 = p := by omega
  have d2 : ((p : Int) * 16 + j) % 16 = j := by omega
  obtain ⟨p1, b1, hsp, -, -, e, he, hm⟩ := h.span i _ hs
  simp only [Sp.mk.injEq] at hsp
  obtain rfl : p = p1 := by omega
  have hmn : e.m ≠ 0 := by omega
  have hrow : ∀ (p1 : Nat) (e1 : Ent) (r : List Int), K.m.ents[p1]? = some e1 → e1.m ≠ 0 → (storeM K.m ((p : Int) * 16 + j) v).f.cells[e1.f.toNat]? = some r → ∃ r0, K.m.f.cells[e1.f.toNat]? = some r0 ∧ ∀ l : Nat, (p1 = p → l ≠ j) → r.getD l 0 = r0.getD l 0 := by
    intro p1 e1 r he1 hm1 hr
    unfold storeM at hr
    split at hr
    · rw [d1, d2, pageEntry_at he] at hr
      dsimp only at hr
      rcases getElem?_set_cases hr with ⟨hfr, rfl⟩ | ⟨_, hr⟩
      · have q1 := (h.ok.ent p1 e1 he1).2.2.1
        have q2 := (h.ok.ent p e he).2.2.1
        have hpk : p1 = p := h.sep p1 p e1 e he1 he hm1 hmn (by omega)
        obtain ⟨r0, hr0⟩ := getx (xs := K.m.f.cells) (k := e1.f.toNat) (by have := getx_lt hr; rwa [List.length_set] at this)
        refine ⟨r0, hr0, fun l hl => ?_⟩
        rw [← hfr, getD_of hr0, Int.toNat_natCast, getD_set_ne (fun x => hl hpk x.symm)]
      · exact ⟨r, hr, fun l _ => rfl⟩
    · exact ⟨r, hr, fun l _ => rfl⟩
  refine ⟨hok, h.ref, h.rl, h.calls, h.cls, h.n31, ?_, ?_, ?_, h.nd, ?_⟩
  · intro x y e1 e2 he1 he2; dsimp only at he1 he2; rw [hen] at he1 he2; exact h.sep x y e1 e2 he1 he2
  · intro k s hk
    obtain ⟨p2, b2, q1, q2, q3, e2, he2, hm2⟩ := h.span k s hk
    exact ⟨p2, b2, q1, q2, q3, e2, by dsimp only; rw [hen]; exact he2, hm2⟩
  · intro k p2 b2 e2 r hk he2 hr l hl hz
    dsimp only at he2 hr
    rw [hen] at he2
    obtain ⟨p3, b3, q1, -, -, e3, he3, hm3⟩ := h.span k _ hk
    simp only [Sp.mk.injEq] at q1
    obtain rfl : p2 = p3 := by omega
    rw [he2] at he3; cases he3
    obtain ⟨r0, hr0, hr1⟩ := hrow p2 e2 r he2 (by omega) hr
    rw [hr1 l (fun hpp hlj => ?_)]
    · exact h.zero k p2 b2 e2 r0 hk he2 hr0 l hl hz
    · have hki := h.nd k i _ _ hk hs (by rw [hpp])
      subst hki
      rw [hk] at hs
      simp only [Option.some.injEq, Sp.mk.injEq] at hs
      obtain rfl : b2 = b := by omega
      rw [hlj, hb] at hz
      cases hz
  · intro p2 e2 he2; dsimp only at he2; rw [hen] at he2; exact h.only p2 e2 he2
theorem ents_mode {M : Mac} (h : MOk M) {p : Nat} {e : Ent} (he : M.ents[p]? = some e) (hm : e.m ≠ 0) {m : Int} (hm2 : m = 1 ∨ m = 2) : MOk ⟨M.f, M.ents.set p ⟨m, e.f⟩⟩ := by
  have h1 := h.ent p e he
  refine ⟨h.n1, h.u1, h.row, by simpa using h.e1, ?_, ?_⟩
  · intro i e1 he1
    dsimp only at he1 ⊢
    rcases getElem?_set_cases he1 with ⟨rfl, rfl⟩ | ⟨_, he1⟩
    · exact ⟨by dsimp only; omega, by dsimp only; omega, h1.2.2.1, fun hh => by dsimp only at hh; omega, fun _ => h1.2.2.2.2 hm⟩
    · exact h.ent i e1 he1
  · intro i u hu
    dsimp only at hu ⊢
    rw [h.use i u hu]
    constructor
    · rintro ⟨k, e1, hk, hm1, hf⟩
      by_cases hkp : p = k
      · subst hkp
        rw [he] at hk; cases hk
        exact ⟨p, ⟨m, e.f⟩, List.getElem?_set_self (getx_lt he), by dsimp only; omega, hf⟩
      · exact ⟨k, e1, by rw [List.getElem?_set_ne hkp]; exact hk, hm1, hf⟩
    · rintro ⟨k, e1, hk, hm1, hf⟩
      rcases getElem?_set_cases hk with ⟨rfl, rfl⟩ | ⟨_, hk⟩
      · exact ⟨k, e, he, hm, hf⟩
      · exact ⟨k, e1, hk, hm1, hf⟩
/-- The mode of a mapped page is set. -/
theorem sinv_mode (h : SInv K sp c n) {p : Nat} {e : Ent} (he : K.m.ents[p]? = some e) (hm : e.m ≠ 0) {m : Int} (hm2 : m = 1 ∨ m = 2) : SInv ⟨⟨K.m.f, K.m.ents.set p ⟨m, e.f⟩⟩, K.calls, K.refuse⟩ sp c n := by
  have hback : ∀ (i : Nat) (e1 : Ent), (K.m.ents.set p ⟨m, e.f⟩)[i]? = some e1 → ∃ e0, K.m.ents[i]? = some e0 ∧ e0.f = e1.f ∧ (e1.m ≠ 0 → e0.m ≠ 0) := by
    intro i e1 h1
    rcases getElem?_set_cases h1 with ⟨rfl, rfl⟩ | ⟨_, h1⟩
    · exact ⟨e, he, rfl, fun _ => hm⟩
    · exact ⟨e1, h1, rfl, fun x => x⟩
  refine ⟨ents_mode h.ok he hm hm2, h.ref, h.rl, h.calls, h.cls, h.n31, ?_, ?_, ?_, h.nd, ?_⟩
  · intro x y e1 e2 he1 he2 hm1 hm22 hff
    obtain ⟨a1, a2, a3, a4⟩ := hback x e1 he1
    obtain ⟨b1, b2, b3, b4⟩ := hback y e2 he2
    exact h.sep x y a1 b1 a2 b2 (a4 hm1) (b4 hm22) (by rw [a3, b3]; exact hff)
  · intro k s hk
    obtain ⟨p2, b2, q1, q2, q3, e2, he2, hm3⟩ := h.span k s hk
    by_cases hpp : p = p2
    · subst hpp
      exact ⟨p, b2, q1, q2, q3, ⟨m, e.f⟩, List.getElem?_set_self (getx_lt he), hm2⟩
    · exact ⟨p2, b2, q1, q2, q3, e2, by dsimp only; rw [List.getElem?_set_ne hpp]; exact he2, hm3⟩
  · intro k p2 b2 e2 r hk he2 hr l hl hz
    obtain ⟨a1, a2, a3, -⟩ := hback p2 e2 he2
    exact h.zero k p2 b2 a1 r hk a2 (by rw [a3]; exact hr) l hl hz
  · intro p2 e2 he2 hmm
    obtain ⟨a1, a2, -, a4⟩ := hback p2 e2 he2
    exact h.only p2 a1 a2 (a4 hmm)
theorem sinv_counted (h : SInv K sp c n) (hc : K.calls ≤ 999) : SInv (countedK K) sp c n := by
  have hcl := h.calls.1
  exact ⟨h.ok, h.ref, h.rl, ⟨by show 0 ≤ K.calls + 1; omega, by show K.calls + 1 ≤ 1000; omega⟩, h.cls, h.n31, h.sep, h.span, h.zero, h.nd, h.only⟩
/-- A page is protected (or the call is refused). -/
theorem sinv_prot (h : SInv K sp c n) (hc : K.calls ≤ 999) (p : Nat) (m : Int) : SInv (if protB K p m then setEnt (countedK K) p ⟨m, (pageEntry K.m.ents p).f⟩ else countedK K) sp c n := by
  split
  · rename_i hp
    unfold protB mappedB at hp
    simp only [Bool.and_eq_true, bne_iff_ne, ne_eq, between_iff] at hp
    obtain ⟨⟨-, hmp⟩, hm⟩ := hp
    obtain ⟨k, hk, hke⟩ := pageEntry_m hmp
    obtain rfl : p = k := by omega
    have := sinv_mode (sinv_counted h hc) (p := p) (e := pageEntry K.m.ents p) hke hmp (m := m) (by omega)
    unfold setEnt
    rw [Int.toNat_natCast]
    exact this
  · exact sinv_counted h hc
end
end Go.Proofs.Ytobechjagckdfaa
